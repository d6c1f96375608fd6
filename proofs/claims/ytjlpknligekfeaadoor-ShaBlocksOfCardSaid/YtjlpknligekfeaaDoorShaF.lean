/-
  What telling the words as bytes does, in the program and in the document; what going on by blocks does.
-/
import Derived.Test.YtjlpknligekfeaaDoorShaE
namespace Go.Proofs.YtjlpknligekfeaaDoor
open Go Go.Sse
set_option linter.unusedVariables false
set_option linter.unusedSimpArgs false

abbrev tU8 : Nat := 5

theorem told_take_succ (h : S8) (i : Nat) (h8 : i < 8) : (h.list.take i).flatMap wordB ++ wordB (h.list.getD i 0) = (h.list.take (i + 1)).flatMap wordB := by
  have hl : i < h.list.length := h8
  rw [List.take_add_one, List.flatMap_append, List.getElem?_eq_getElem hl, List.getD_eq_getElem?_getD, List.getElem?_eq_getElem hl]
  simp
theorem told_take_len (h : S8) : ∀ (i : Nat), i ≤ 8 → ((h.list.take i).flatMap wordB).length = 4 * i
  | 0, _ => rfl
  | i + 1, hi => by
    rw [← told_take_succ h i (by omega), List.length_append, told_take_len h i (by omega)]
    simp only [wordB, List.length_cons, List.length_nil]; omega

set_option maxHeartbeats 4000000 in
theorem rtold_ok (h : S8) : FnC Tryd.prog 24 [.agg h.cells] [] (fun s L => s = str (toldS h) ∧ L = []) := by
  refine FnC.intro Tryd.func24 rfl Tryd.ntmps24 rfl fun Z w0 hG => ?_
  focus (
    (refine W.seq ?_)
    (refine W.region ?_)
    (refine J.boxAg rfl rfl ?_; intro b')
    (refine Jx.assign rfl rfl ?_)
    (refine J.nil ?_)
    (refine N.seq ?_)
    (refine W.seq ?_)
    (refine W.region ?_)
    (refine Jx.assign rfl rfl ?_)
    (refine J.nil ?_)
    (refine N.seq ?_)
    (refine W.seq ?_)
    (refine W.seq ?_)
    (refine W.region ?_)
    (refine Jx.assign rfl rfl ?_)
    (refine J.nil ?_)
    (refine N.seq ?_)
    (refine W.block ?_)
    (refine id ?_; rotate_left))
  refine W.loop (α := Nat × List UInt8) (fun x => [(4, int x.1), (3, str x.2), (1, ptr b')]) (fun x => [.obj b' 23 (h.list.map u32)]) (fun x => x.1 ≤ 8 ∧ x.2 = (h.list.take x.1).flatMap wordB) (fun x => 8 - x.1) (0, []) ⟨by simp, by simp⟩ rfl ⟨ref0 rfl, ref0 rfl, ref0 rfl, trivial⟩ ?_
  rintro ⟨i, acc⟩ ⟨hi, ha⟩
  simp only at hi ha ⊢
  have hlen : acc.length = 4 * i := by rw [ha]; exact told_take_len h i hi
  by_cases h1 : i < 8
  · focus (
    (refine W.seq ?_)
    (refine W.seq ?_)
    (refine W.region ?_)
    (refine Jx.move rfl rfl ?_)
    (refine Jx.lssI rfl rfl rfl ?_)
    (refine J.nil ?_)
    (refine N.seq ?_)
    (refine W.condT rfl (by first | rfl | assumption | (exact decide_eq_true (by first | assumption | omega | rfl)) | (exact decide_eq_false (by first | assumption | omega | rfl)) | (simp; done) | (simp; omega)) ?_)
    (refine W.skip ?_)
    (refine N.seq ?_)
    (refine W.seq ?_)
    (refine W.block ?_)
    (refine W.draw follows ?_)
    (refine JD.calm rfl (by decide +kernel) ?_)
    (refine Cx.move rfl rfl ?_)
    (refine Cx.move rfl rfl ?_)
    (refine Cx.index0 i rfl rfl rfl (by omega) rfl ?_)
    (refine Cx.loadA u32 0 rfl 0 rfl h1 rfl ?_)
    (refine Cx.shrU rfl rfl (by decide) rfl ?_)
    (refine Cx.convByte rfl rfl rfl ?_)
    (refine Cx.move rfl rfl ?_)
    (refine Cx.index0 i rfl rfl rfl (by omega) rfl ?_)
    (refine Cx.loadA u32 0 rfl 0 rfl h1 rfl ?_)
    (refine Cx.shrU rfl rfl (by decide) rfl ?_)
    (refine Cx.convByte rfl rfl rfl ?_)
    (refine Cx.move rfl rfl ?_)
    (refine Cx.index0 i rfl rfl rfl (by omega) rfl ?_)
    (refine Cx.loadA u32 0 rfl 0 rfl h1 rfl ?_)
    (refine Cx.shrU rfl rfl (by decide) rfl ?_)
    (refine Cx.convByte rfl rfl rfl ?_)
    (refine Cx.move rfl rfl ?_)
    (refine Cx.index0 i rfl rfl rfl (by omega) rfl ?_)
    (refine Cx.loadA u32 0 rfl 0 rfl h1 rfl ?_)
    (refine Cx.convByte rfl rfl rfl ?_)
    (refine SegC.q (Qs.buildBytes (wordB (h.list.getD i 0)) rfl rfl rfl (by decide) (by decide)) rfl ?_)
    (refine Cx.bytesStr rfl rfl ?_)
    (refine Cx.cat rfl rfl (by rw [hlen]; simp only [wordB, List.length_cons, List.length_nil]; omega) rfl ?_)
    (refine Cx.assign rfl rfl ?_)
    (refine SegC.nil ?_)
    (refine N.seq ?_)
    (refine W.region ?_)
    (refine Jx.move rfl rfl ?_)
    (refine Jx.add64 rfl rfl (by omega) rfl ?_)
    (refine Jx.assign rfl rfl ?_)
    (refine J.nil ?_)
    (refine id ?_; rotate_left))
    exact N.round (i + 1, acc ++ wordB (h.list.getD i 0)) ⟨by simp only; omega, by simp only; rw [ha, told_take_succ h i h1]⟩ (by simp only; omega) rfl ⟨ref0 rfl, ref0 rfl, ref0 rfl, trivial⟩
  · have h8 : i = 8 := by omega
    focus (
    (refine W.seq ?_)
    (refine W.seq ?_)
    (refine W.region ?_)
    (refine Jx.move rfl rfl ?_)
    (refine Jx.lssI rfl rfl rfl ?_)
    (refine J.nil ?_)
    (refine N.seq ?_)
    (refine W.condF rfl (by first | rfl | assumption | (exact decide_eq_true (by first | assumption | omega | rfl)) | (exact decide_eq_false (by first | assumption | omega | rfl)) | (simp; done) | (simp; omega)) ?_)
    (refine W.exit ?_)
    (refine N.seq ?_)
    (refine W.seq ?_)
    (refine W.region ?_)
    (refine Jx.move rfl rfl ?_)
    (refine Jx.assign rfl rfl ?_)
    (refine J.nil ?_)
    (refine N.seq ?_)
    (refine W.ret ?_)
    (refine id ?_; rotate_left))
    refine N.retD (rs := [.tmp 2]) (L1 := []) rfl (.tmp rfl .nil) (List.nil_sublist _) ⟨?_, rfl⟩
    rw [ha, h8]; rfl

theorem told_get (h : S8) (i k : Nat) (hi : i < 8) (hk : k < 4) : (toldS h).getD (4 * i + k) 0 = (wordB (h.list.getD i 0)).getD k 0 := by
  match i, hi, k, hk with
  | 0, _, 0, _ => rfl
  | 0, _, 1, _ => rfl
  | 0, _, 2, _ => rfl
  | 0, _, 3, _ => rfl
  | 1, _, 0, _ => rfl
  | 1, _, 1, _ => rfl
  | 1, _, 2, _ => rfl
  | 1, _, 3, _ => rfl
  | 2, _, 0, _ => rfl
  | 2, _, 1, _ => rfl
  | 2, _, 2, _ => rfl
  | 2, _, 3, _ => rfl
  | 3, _, 0, _ => rfl
  | 3, _, 1, _ => rfl
  | 3, _, 2, _ => rfl
  | 3, _, 3, _ => rfl
  | 4, _, 0, _ => rfl
  | 4, _, 1, _ => rfl
  | 4, _, 2, _ => rfl
  | 4, _, 3, _ => rfl
  | 5, _, 0, _ => rfl
  | 5, _, 1, _ => rfl
  | 5, _, 2, _ => rfl
  | 5, _, 3, _ => rfl
  | 6, _, 0, _ => rfl
  | 6, _, 1, _ => rfl
  | 6, _, 2, _ => rfl
  | 6, _, 3, _ => rfl
  | 7, _, 0, _ => rfl
  | 7, _, 1, _ => rfl
  | 7, _, 2, _ => rfl
  | 7, _, 3, _ => rfl

theorem set4_get (bs : List UInt8) (i : Nat) (a b c d : UInt8) (hl : bs.length = 32) (hi : i < 8) (m : Nat) :
    ((((bs.set (4 * i) a).set (4 * i + 1) b).set (4 * i + 2) c).set (4 * i + 3) d).getD m 0 = if m = 4 * i then a else if m = 4 * i + 1 then b else if m = 4 * i + 2 then c else if m = 4 * i + 3 then d else bs.getD m 0 := by
  simp only [List.getD_eq_getElem?_getD, List.getElem?_set, List.length_set, hl]
  by_cases h0 : m = 4 * i
  · subst h0; simp [show ¬ 4 * i + 1 = 4 * i by omega, show ¬ 4 * i + 2 = 4 * i by omega, show ¬ 4 * i + 3 = 4 * i by omega, show 4 * i < 32 by omega]
  · by_cases h1 : m = 4 * i + 1
    · subst h1; simp [show ¬ 4 * i + 2 = 4 * i + 1 by omega, show ¬ 4 * i + 3 = 4 * i + 1 by omega, show 4 * i + 1 < 32 by omega]
    · by_cases h2 : m = 4 * i + 2
      · subst h2; simp [show ¬ 4 * i + 3 = 4 * i + 2 by omega, show 4 * i + 2 < 32 by omega]
      · by_cases h3 : m = 4 * i + 3
        · subst h3; simp [show 4 * i + 3 < 32 by omega]
        · simp [h0, h1, h2, h3, show ¬ 4 * i = m by omega, show ¬ 4 * i + 1 = m by omega, show ¬ 4 * i + 2 = m by omega, show ¬ 4 * i + 3 = m by omega]

theorem told_step (h : S8) (bs : List UInt8) (i : Nat) (hi : i < 8) (hl : bs.length = 32) (hb : ∀ m, m < 4 * i → bs.getD m 0 = (toldS h).getD m 0) (m : Nat) (hm : m < 4 * (i + 1)) :
    ((((bs.set (4 * i) ((wordB (h.list.getD i 0)).getD 0 0)).set (4 * i + 1) ((wordB (h.list.getD i 0)).getD 1 0)).set (4 * i + 2) ((wordB (h.list.getD i 0)).getD 2 0)).set (4 * i + 3) ((wordB (h.list.getD i 0)).getD 3 0)).getD m 0 = (toldS h).getD m 0 := by
  rw [set4_get _ _ _ _ _ _ hl hi]
  by_cases h0 : m = 4 * i
  · rw [if_pos h0, h0, ← told_get h i 0 hi (by omega)]; rfl
  · rw [if_neg h0]
    by_cases h1 : m = 4 * i + 1
    · rw [if_pos h1, h1, ← told_get h i 1 hi (by omega)]
    · rw [if_neg h1]
      by_cases h2 : m = 4 * i + 2
      · rw [if_pos h2, h2, ← told_get h i 2 hi (by omega)]
      · rw [if_neg h2]
        by_cases h3 : m = 4 * i + 3
        · rw [if_pos h3, h3, ← told_get h i 3 hi (by omega)]
        · rw [if_neg h3]; exact hb m (by omega)

theorem told_ext (h : S8) (bs : List UInt8) (hl : bs.length = 32) (hb : ∀ m, m < 32 → bs.getD m 0 = (toldS h).getD m 0) : bs = toldS h := by
  refine List.ext_getElem (by rw [hl, told_len]) fun m h1 h2 => ?_
  have := hb m (by omega)
  simpa [List.getD_eq_getElem?_getD, List.getElem?_eq_getElem h1, List.getElem?_eq_getElem h2] using this

set_option maxHeartbeats 4000000 in
theorem told_ok (h : S8) : FnC Tryd.prog 26 [.agg h.cells] [] (fun s L => s = str (toldS h) ∧ L = []) := by
  refine FnC.intro Tryd.func26 rfl Tryd.ntmps26 rfl fun Z w0 hG => ?_
  focus (
    (refine W.seq ?_)
    (refine W.region ?_)
    (refine J.boxAg rfl rfl ?_; intro b')
    (refine Jx.assign rfl rfl ?_)
    (refine J.nil ?_)
    (refine N.seq ?_)
    (refine W.seq ?_)
    (refine W.region ?_)
    (refine J.alloc (by simp only [List.map_cons, List.map_nil]; rfl) rfl rfl ?_; intro b')
    (refine J.nil ?_)
    (refine N.seq ?_)
    (refine W.seq ?_)
    (refine W.seq ?_)
    (refine W.region ?_)
    (refine Jx.loadAll rfl 1 rfl rfl rfl ?_)
    (refine Jx.move rfl rfl ?_)
    (refine J.nil ?_)
    (refine N.seq ?_)
    (refine W.block ?_)
    (refine id ?_; rotate_left))
  rename_i p1
  refine W.loop (α := Nat × List UInt8) (fun x => [(7, int x.1), (6, .agg (h.list.map u32)), (3, ptr b'), (1, ptr p1)]) (fun x => [.obj b' 56 (x.2.map byte), .obj p1 23 h.cells]) (fun x => x.1 ≤ 8 ∧ x.2.length = 32 ∧ ∀ m, m < 4 * x.1 → x.2.getD m 0 = (toldS h).getD m 0) (fun x => 8 - x.1) (0, List.replicate 32 0) ⟨by simp, rfl, fun m hm => by simp at hm⟩ rfl ⟨ref0 rfl, ref0 rfl, ref0 rfl, ref0 rfl, trivial⟩ ?_
  rintro ⟨i, bs⟩ ⟨hi, hl, hb⟩
  simp only at hi hl hb ⊢
  by_cases h1 : i < 8
  · focus (
    (refine W.seq ?_)
    (refine W.region ?_)
    (refine Jx.lssI rfl rfl rfl ?_)
    (refine J.nil ?_)
    (refine N.seq ?_)
    (refine W.seq ?_)
    (refine W.condT rfl (by first | rfl | assumption | (exact decide_eq_true (by first | assumption | omega | rfl)) | (exact decide_eq_false (by first | assumption | omega | rfl)) | (simp; done) | (simp; omega)) ?_)
    (refine W.skip ?_)
    (refine N.seq ?_)
    (refine W.seq ?_)
    (refine W.block ?_)
    (refine W.seq ?_)
    (refine W.region ?_)
    (refine Jx.move rfl rfl ?_)
    (refine Jx.indexAg u32 0 i rfl rfl rfl (by omega) (by exact h1) rfl ?_)
    (refine Jx.assign rfl rfl ?_)
    (refine Jx.assign rfl rfl ?_)
    (refine J.nil ?_)
    (refine N.seq ?_)
    (refine W.region ?_)
    (refine Jx.move rfl rfl ?_)
    (refine Jx.mul64 rfl rfl (by omega) rfl ?_)
    (refine Jx.move rfl rfl ?_)
    (refine Jx.mul64 rfl rfl (by omega) rfl ?_)
    (refine Jx.add64 rfl rfl (by omega) rfl ?_)
    (refine Jx.move rfl rfl ?_)
    (refine Jx.mul64 rfl rfl (by omega) rfl ?_)
    (refine Jx.add64 rfl rfl (by omega) rfl ?_)
    (refine Jx.move rfl rfl ?_)
    (refine Jx.mul64 rfl rfl (by omega) rfl ?_)
    (refine Jx.add64 rfl rfl (by omega) rfl ?_)
    (refine Jx.move rfl rfl ?_)
    (refine Jx.shrU rfl rfl (by decide) rfl ?_)
    (refine Jx.convByte rfl rfl rfl ?_)
    (refine Jx.move rfl rfl ?_)
    (refine Jx.shrU rfl rfl (by decide) rfl ?_)
    (refine Jx.convByte rfl rfl rfl ?_)
    (refine Jx.move rfl rfl ?_)
    (refine Jx.shrU rfl rfl (by decide) rfl ?_)
    (refine Jx.convByte rfl rfl rfl ?_)
    (refine Jx.move rfl rfl ?_)
    (refine Jx.convByte rfl rfl rfl ?_)
    (refine Jx.index0 (4 * i) rfl rfl (by omega) (by omega) rfl ?_)
    (refine J.storeA byte ((wordB (h.list.getD i 0)).getD 0 0) rfl rfl (One.val rfl) 0 rfl (by (try simp only [List.length_set]); omega) rfl ?_)
    (refine Jx.index0 (4 * i + 1) rfl rfl (by omega) (by omega) rfl ?_)
    (refine J.storeA byte ((wordB (h.list.getD i 0)).getD 1 0) rfl rfl (One.val rfl) 0 rfl (by (try simp only [List.length_set]); omega) rfl ?_)
    (refine Jx.index0 (4 * i + 2) rfl rfl (by omega) (by omega) rfl ?_)
    (refine J.storeA byte ((wordB (h.list.getD i 0)).getD 2 0) rfl rfl (One.val rfl) 0 rfl (by (try simp only [List.length_set]); omega) rfl ?_)
    (refine Jx.index0 (4 * i + 3) rfl rfl (by omega) (by omega) rfl ?_)
    (refine J.storeA byte ((wordB (h.list.getD i 0)).getD 3 0) rfl rfl (One.val rfl) 0 rfl (by (try simp only [List.length_set]); omega) rfl ?_)
    (refine J.nil ?_)
    (refine N.seq ?_)
    (refine W.region ?_)
    (refine Jx.add64 rfl rfl (by omega) rfl ?_)
    (refine Jx.move rfl rfl ?_)
    (refine J.nil ?_)
    (refine id ?_; rotate_left))
    exact N.round (i + 1, (((bs.set (4 * i) ((wordB (h.list.getD i 0)).getD 0 0)).set (4 * i + 1) ((wordB (h.list.getD i 0)).getD 1 0)).set (4 * i + 2) ((wordB (h.list.getD i 0)).getD 2 0)).set (4 * i + 3) ((wordB (h.list.getD i 0)).getD 3 0)) ⟨by simp only; omega, by simp only [List.length_set]; exact hl, fun m hm => told_step h bs i h1 hl hb m hm⟩ (by simp only; omega) rfl ⟨ref0 rfl, ref0 rfl, ref0 rfl, ref0 rfl, trivial⟩
  · have h8 : i = 8 := by omega
    have e : bs = toldS h := told_ext h bs hl fun m hm => hb m (by omega)
    focus (
    (refine W.seq ?_)
    (refine W.region ?_)
    (refine Jx.lssI rfl rfl rfl ?_)
    (refine J.nil ?_)
    (refine N.seq ?_)
    (refine W.seq ?_)
    (refine W.condF rfl (by first | rfl | assumption | (exact decide_eq_true (by first | assumption | omega | rfl)) | (exact decide_eq_false (by first | assumption | omega | rfl)) | (simp; done) | (simp; omega)) ?_)
    (refine W.exit ?_)
    (refine N.seq ?_)
    (refine W.seq ?_)
    (refine W.region ?_)
    (refine Jx.sliceArr rfl rfl ?_)
    (refine Jx.bytesStrObj bs rfl 0 rfl hl (fun k hk => by rw [Nat.zero_add]; exact getElem?_map_lt byte bs 0 k (by omega)) rfl ?_)
    (refine Jx.assign rfl rfl ?_)
    (refine J.nil ?_)
    (refine N.seq ?_)
    (refine W.ret ?_)
    (refine id ?_; rotate_left))
    exact N.retD (rs := [.tmp 2]) (L1 := []) rfl (.tmp rfl .nil) (List.nil_sublist _) ⟨by rw [e]; rfl, rfl⟩

theorem el_byte (m : List UInt8) (j : Nat) (hj : j < m.length) : (elOf encB 0 m j).getD 0 .any = (m.map byte).getD j .any := by
  simp [elOf, encB, List.getD_eq_getElem?_getD, List.getElem?_map, List.getElem?_eq_getElem hj]

set_option maxHeartbeats 4000000 in
theorem blocks_ok (s0 : S8) (l0 : List UInt8) (hl0 : l0.length ≤ 4294967296) : FnC Tryd.prog 25 [.agg s0.cells, bsl l0] [] (fun s L => ∃ v, v.oneCell' = true ∧ s = .tup [.agg (blocksS s0 l0).1.cells, .val v] ∧ L = [.row v tU8 1 (blocksS s0 l0).2.length (elOf encB 0 (blocksS s0 l0).2)]) := by
  refine FnC.intro Tryd.func25 rfl Tryd.ntmps25 rfl fun Z w0 hG => ?_
  focus (
    (refine W.seq ?_)
    (refine W.region ?_)
    (refine J.boxAg rfl rfl ?_; intro b')
    (refine J.alloc (by simp only [List.map_cons, List.map_nil]; rfl) rfl rfl ?_; intro b')
    (refine Jx.assign rfl rfl ?_)
    (refine J.nil ?_)
    (refine N.seq ?_)
    (refine W.seq ?_)
    (refine W.block ?_)
    (refine id ?_; rotate_left))
  rename_i p2
  refine W.loop (α := S8 × List UInt8) (fun x => [(1, bsl x.2), (2, ptr p2), (4, ptr b')]) (fun x => [.obj b' 23 (S8.cells ⟨0, 0, 0, 0, 0, 0, 0, 0⟩), .obj p2 23 x.1.cells]) (fun x => blocksS x.1 x.2 = blocksS s0 l0 ∧ x.2.length ≤ 4294967296) (fun x => x.2.length) (s0, l0) ⟨rfl, hl0⟩ rfl ⟨ref0 rfl, ref0 rfl, ref0 rfl, trivial⟩ ?_
  rintro ⟨s, l⟩ ⟨he, hl⟩
  simp only at he hl ⊢
  by_cases h1 : 64 ≤ l.length
  · have hlen : (l.take 64).length = 64 := by rw [List.length_take]; omega
    focus (
    (refine W.seq ?_)
    (refine W.seq ?_)
    (refine W.region ?_)
    (refine Jx.move rfl rfl ?_)
    (refine Jx.lenSl rfl rfl ?_)
    (refine Jx.geqI rfl rfl rfl ?_)
    (refine J.nil ?_)
    (refine N.seq ?_)
    (refine W.condT rfl (by first | rfl | assumption | (exact decide_eq_true (by first | assumption | omega | rfl)) | (exact decide_eq_false (by first | assumption | omega | rfl)) | (simp; done) | (simp; omega)) ?_)
    (refine W.skip ?_)
    (refine N.seq ?_)
    (refine W.block ?_)
    (refine W.seq ?_)
    (refine W.draw follows ?_)
    (refine JD.upto (n := 6) rfl (by decide +kernel) (by decide +kernel) rfl rfl ?_)
    (refine Cx.loadAll rfl 1 rfl rfl rfl ?_)
    (refine Cx.move rfl rfl ?_)
    (refine Cx.takeL 64 rfl rfl rfl h1 rfl ?_)
    (refine Cx.sliceArrPtr ((l.take 64).map byte) rfl (by omega) (by decide) (by rw [List.length_map]; exact hlen) (fun j hj => el_byte (l.take 64) j (by omega)) rfl ?_)
    (refine Cx.loadPPag rfl (List.take_of_length_le (by rw [List.length_map]; omega)) (by rw [List.length_map]; exact hlen) rfl ?_)
    (refine SegC.q (Qs.call (Lc := []) (block_ok s (l.take 64) hlen) (fun s L' h => h) (List.Perm.refl _) (evs_args rfl)) rfl ?_)
    (refine SegC.nil ?_)
    (refine J.storeAll rfl rfl rfl 1 rfl rfl rfl ?_)
    (refine J.nil ?_)
    (refine N.seq ?_)
    (refine W.region ?_)
    (refine Jx.move rfl rfl ?_)
    (refine Jx.dropL 64 rfl rfl rfl h1 rfl ?_)
    (refine Jx.assign rfl rfl ?_)
    (refine J.nil ?_)
    (refine N.blockNormal ?_)
    (refine id ?_; rotate_left))
    exact N.round (blockS s (l.take 64), l.drop 64) ⟨by simp only; rw [← blocksS_ge h1, he], by simp only [List.length_drop]; omega⟩ (by simp only [List.length_drop]; omega) rfl ⟨ref0 rfl, ref0 rfl, ref0 rfl, trivial⟩
  · have e2 : blocksS s l = (s, l) := blocksS_lt (by omega)
    rw [e2] at he
    focus (
    (refine W.seq ?_)
    (refine W.seq ?_)
    (refine W.region ?_)
    (refine Jx.move rfl rfl ?_)
    (refine Jx.lenSl rfl rfl ?_)
    (refine Jx.geqI rfl rfl rfl ?_)
    (refine J.nil ?_)
    (refine N.seq ?_)
    (refine W.condF rfl (by first | rfl | assumption | (exact decide_eq_true (by first | assumption | omega | rfl)) | (exact decide_eq_false (by first | assumption | omega | rfl)) | (simp; done) | (simp; omega)) ?_)
    (refine W.exit ?_)
    (refine N.seq ?_)
    (refine W.seq ?_)
    (refine W.draw follows ?_)
    (refine JD.begin 5 rfl ?_; refine JP.more [0, 1] _ rfl (by decide +kernel) ?_)
    (refine Cx.loadAll rfl 1 rfl rfl rfl ?_)
    (refine Cx.move rfl rfl ?_)
    (refine SegC.nil ?_)
    (refine JP.rowNil tU8 1 (elOf encB 0 []) ?_; refine JP.append (idx := [0, 1]) (m := []) (m2 := l) 2 [18] [1, 2] [0] (by decide +kernel) rfl ?_ rfl (SrcOK.sl rfl) rfl rfl (by simp only [maxLen, List.length_nil]; omega) rfl ?_; rotate_left; intro v' hv'; simp only [List.nil_append]; rotate_left)
    (refine Cx.loadAll rfl 2 rfl rfl rfl ?_)
    (refine Cx.move rfl rfl ?_)
    (refine SegC.nil ?_)
    (refine Ag.cons rfl ?_)
    (refine Ag.cons rfl ?_)
    (refine Ag.nil)
    (refine JP.storeAll (idx := [0]) 3 [4, 17] [0, 1, 2, 3] [] (by decide +kernel) rfl ?_ rfl rfl rfl 1 rfl rfl rfl ?_)
    (refine Cx.loadAll rfl 2 rfl rfl rfl ?_)
    (refine SegC.nil ?_)
    (refine Ag.cons rfl ?_)
    (refine Ag.nil)
    (refine JP.tail (idx := []) 4 (by decide +kernel) (by decide +kernel) rfl rfl ?_ ?_)
    (refine SegC.nil ?_)
    (refine Ag.nil)
    (refine Jx.assign rfl rfl ?_)
    (refine J.nil ?_)
    (refine N.seq ?_)
    (refine W.ret ?_)
    (refine id ?_; rotate_left))
    refine N.retD (rs := [.cell 4 23, .tmp 5]) (L1 := [.row v' tU8 1 l.length (elOf encB 0 l)]) rfl (.cell rfl 1 rfl inferInstance (.tmp rfl .nil)) (by simp) ⟨v', hv', ?_, ?_⟩
    · rw [← he]; rfl
    · rw [← he]
end Go.Proofs.YtjlpknligekfeaaDoor
