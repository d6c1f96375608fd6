/-
  Lemmas for the claim, part 4.
-/
import Derived.Test.YtlfdhkahiaammaaGreatDoorBlockCodesPc
namespace Go.Proofs.YtlfdhkahiaammaaGreatDoor.Sha
open Go Go.Sse
set_option maxRecDepth 10000
set_option linter.unusedVariables false
set_option linter.unusedSimpArgs false
abbrev tU8 : Nat := 5
theorem told_take_succ (h : S8) (i : Nat) (h8 : i < 8) : (h.list.take i).flatMap wordB ++ wordB (h.list.getD i 0) = (h.list.take (i + 1)).flatMap wordB := by
  have hl : i < h.list.length := h8
  rw [List.take_add_one, List.flatMap_append, List.getElem?_eq_getElem hl, List.getD_eq_getElem?_getD, List.getElem?_eq_getElem hl]
  simp
theorem told_take_len (h : S8) : ∀ (i : Nat), i ≤ 8 → ((h.list.take i).flatMap wordB).length = 4 * i
  | 0, _ => rfl
  | i + 1, hi => by
    rw [← told_take_succ h i (by omega), List.length_append, told_take_len h i (by omega)]
    simp only [wordB, List.length_cons, List.length_nil]; omega
set_option maxHeartbeats 4000000 in
theorem rtold_ok (h : S8) : FnC Tryz.prog 142 [.agg h.cells] [] (fun s L => s = str (toldS h) ∧ L = []) := by
  refine FnC.intro Tryz.func142 rfl Tryz.ntmps142 rfl fun Z w0 hG => ?_
  focus (
 (refine W.seq (W.region ?_))
 (refine J.boxAg rfl rfl ?_; intro b')
 (refine Jx.assign rfl rfl (J.nil (N.seq (W.seq (W.region (Jx.assign rfl rfl (J.nil (N.seq (W.seq (W.seq (W.region (Jx.assign rfl rfl (J.nil (N.seq ?_))))))))))))))
 (refine W.block ?_)
 (refine id ?_; rotate_left))
  refine W.loop (α := Nat × List UInt8) (fun x => [(4, int x.1), (3, str x.2), (1, ptr b')]) (fun x => [.obj b' 149 (h.list.map u32)]) (fun x => x.1 ≤ 8 ∧ x.2 = (h.list.take x.1).flatMap wordB) (fun x => 8 - x.1) (0, []) ⟨by simp, by simp⟩ rfl ⟨ref0 rfl, ref0 rfl, ref0 rfl, trivial⟩ ?_
  rintro ⟨i, acc⟩ ⟨hi, ha⟩
  simp only at hi ha ⊢
  have hlen : acc.length = 4 * i := by rw [ha]; exact told_take_len h i hi
  by_cases h1 : i < 8
  · focus (
 (refine W.seq (W.seq (W.region (Jx.move rfl rfl (Jx.lssI rfl rfl rfl (J.nil (N.seq (W.cT rfl ?_))))))))
 (refine W.skip (N.seq (W.seq (W.block ?_))))
 (refine W.draw follows ?_)
 (refine JD.calm rfl (by decide +kernel) ?_)
 (refine Cx.move rfl rfl ?_)
 (refine Cx.move rfl rfl ?_)
 (refine Cx.index0 i rfl rfl rfl (by omega) rfl ?_)
 (refine Cx.loadA u32 0 rfl 0 rfl h1 rfl ?_)
 (refine Cx.shrU rfl rfl (by decide) rfl ?_)
 (refine Cx.convByte rfl rfl rfl ?_)
 (refine Cx.move rfl rfl ?_)
 (refine Cx.index0 i rfl rfl rfl (by omega) rfl ?_)
 (refine Cx.loadA u32 0 rfl 0 rfl h1 rfl ?_)
 (refine Cx.shrU rfl rfl (by decide) rfl ?_)
 (refine Cx.convByte rfl rfl rfl ?_)
 (refine Cx.move rfl rfl ?_)
 (refine Cx.index0 i rfl rfl rfl (by omega) rfl ?_)
 (refine Cx.loadA u32 0 rfl 0 rfl h1 rfl ?_)
 (refine Cx.shrU rfl rfl (by decide) rfl ?_)
 (refine Cx.convByte rfl rfl rfl ?_)
 (refine Cx.move rfl rfl ?_)
 (refine Cx.index0 i rfl rfl rfl (by omega) rfl ?_)
 (refine Cx.loadA u32 0 rfl 0 rfl h1 rfl ?_)
 (refine Cx.convByte rfl rfl rfl ?_)
 (refine SegC.q (Qs.buildBytes (wordB (h.list.getD i 0)) rfl rfl rfl (by decide) (by decide)) rfl ?_)
 (refine Cx.bytesStr rfl rfl ?_)
 (refine Cx.cat rfl rfl (by rw [hlen]; simp only [wordB, List.length_cons, List.length_nil]; omega) rfl ?_)
 (refine Cx.assign rfl rfl ?_)
 (refine SegC.nil ?_)
 (refine N.seq (W.region (Jx.move rfl rfl (Jx.add64 rfl rfl (by omega) rfl ?_))))
 (refine Jx.assign rfl rfl (J.nil ?_))
 (refine id ?_; rotate_left))
    exact N.round (i + 1, acc ++ wordB (h.list.getD i 0)) ⟨by simp only; omega, by simp only; rw [ha, told_take_succ h i h1]⟩ (by simp only; omega) rfl ⟨ref0 rfl, ref0 rfl, ref0 rfl, trivial⟩
  · have h8 : i = 8 := by omega
    focus (
 (refine W.seq (W.seq (W.region (Jx.move rfl rfl (Jx.lssI rfl rfl rfl (J.nil (N.seq (W.cF rfl ?_))))))))
 (refine W.exit (N.seq (W.seq (W.region (Jx.move rfl rfl (Jx.assign rfl rfl (J.nil (N.seq (W.ret ?_)))))))))
 (refine id ?_; rotate_left))
    refine N.retD (rs := [.tmp 2]) (L1 := []) rfl (.tmp rfl .nil) (List.nil_sublist _) ⟨?_, rfl⟩
    rw [ha, h8]; rfl
theorem told_get (h : S8) (i k : Nat) (hi : i < 8) (hk : k < 4) : (toldS h).getD (4 * i + k) 0 = (wordB (h.list.getD i 0)).getD k 0 := by
  match i, hi, k, hk with
  | 0, _, 0, _ => rfl
  | 0, _, 1, _ => rfl
  | 0, _, 2, _ => rfl
  | 0, _, 3, _ => rfl
  | 1, _, 0, _ => rfl
  | 1, _, 1, _ => rfl
  | 1, _, 2, _ => rfl
  | 1, _, 3, _ => rfl
  | 2, _, 0, _ => rfl
  | 2, _, 1, _ => rfl
  | 2, _, 2, _ => rfl
  | 2, _, 3, _ => rfl
  | 3, _, 0, _ => rfl
  | 3, _, 1, _ => rfl
  | 3, _, 2, _ => rfl
  | 3, _, 3, _ => rfl
  | 4, _, 0, _ => rfl
  | 4, _, 1, _ => rfl
  | 4, _, 2, _ => rfl
  | 4, _, 3, _ => rfl
  | 5, _, 0, _ => rfl
  | 5, _, 1, _ => rfl
  | 5, _, 2, _ => rfl
  | 5, _, 3, _ => rfl
  | 6, _, 0, _ => rfl
  | 6, _, 1, _ => rfl
  | 6, _, 2, _ => rfl
  | 6, _, 3, _ => rfl
  | 7, _, 0, _ => rfl
  | 7, _, 1, _ => rfl
  | 7, _, 2, _ => rfl
  | 7, _, 3, _ => rfl
theorem set4_get (bs : List UInt8) (i : Nat) (a b c d : UInt8) (hl : bs.length = 32) (hi : i < 8) (m : Nat) :
    ((((bs.set (4 * i) a).set (4 * i + 1) b).set (4 * i + 2) c).set (4 * i + 3) d).getD m 0 = if m = 4 * i then a else if m = 4 * i + 1 then b else if m = 4 * i + 2 then c else if m = 4 * i + 3 then d else bs.getD m 0 := by
  simp only [List.getD_eq_getElem?_getD, List.getElem?_set, List.length_set, hl]
  by_cases h0 : m = 4 * i
  · subst h0; simp [show ¬ 4 * i + 1 = 4 * i by omega, show ¬ 4 * i + 2 = 4 * i by omega, show ¬ 4 * i + 3 = 4 * i by omega, show 4 * i < 32 by omega]
  · by_cases h1 : m = 4 * i + 1
    · subst h1; simp [show ¬ 4 * i + 2 = 4 * i + 1 by omega, show ¬ 4 * i + 3 = 4 * i + 1 by omega, show 4 * i + 1 < 32 by omega]
    · by_cases h2 : m = 4 * i + 2
      · subst h2; simp [show ¬ 4 * i + 3 = 4 * i + 2 by omega, show 4 * i + 2 < 32 by omega]
      · by_cases h3 : m = 4 * i + 3
        · subst h3; simp [show 4 * i + 3 < 32 by omega]
        · simp [h0, h1, h2, h3, show ¬ 4 * i = m by omega, show ¬ 4 * i + 1 = m by omega, show ¬ 4 * i + 2 = m by omega, show ¬ 4 * i + 3 = m by omega]
theorem told_step (h : S8) (bs : List UInt8) (i : Nat) (hi : i < 8) (hl : bs.length = 32) (hb : ∀ m, m < 4 * i → bs.getD m 0 = (toldS h).getD m 0) (m : Nat) (hm : m < 4 * (i + 1)) :
    ((((bs.set (4 * i) ((wordB (h.list.getD i 0)).getD 0 0)).set (4 * i + 1) ((wordB (h.list.getD i 0)).getD 1 0)).set (4 * i + 2) ((wordB (h.list.getD i 0)).getD 2 0)).set (4 * i + 3) ((wordB (h.list.getD i 0)).getD 3 0)).getD m 0 = (toldS h).getD m 0 := by
  rw [set4_get _ _ _ _ _ _ hl hi]
  by_cases h0 : m = 4 * i
  · rw [if_pos h0, h0, ← told_get h i 0 hi (by omega)]; rfl
  · rw [if_neg h0]
    by_cases h1 : m = 4 * i + 1
    · rw [if_pos h1, h1, ← told_get h i 1 hi (by omega)]
    · rw [if_neg h1]
      by_cases h2 : m = 4 * i + 2
      · rw [if_pos h2, h2, ← told_get h i 2 hi (by omega)]
      · rw [if_neg h2]
        by_cases h3 : m = 4 * i + 3
        · rw [if_pos h3, h3, ← told_get h i 3 hi (by omega)]
        · rw [if_neg h3]; exact hb m (by omega)
theorem told_ext (h : S8) (bs : List UInt8) (hl : bs.length = 32) (hb : ∀ m, m < 32 → bs.getD m 0 = (toldS h).getD m 0) : bs = toldS h := by
  refine List.ext_getElem (by rw [hl, told_len]) fun m h1 h2 => ?_
  have := hb m (by omega)
  simpa [List.getD_eq_getElem?_getD, List.getElem?_eq_getElem h1, List.getElem?_eq_getElem h2] using this
set_option maxHeartbeats 4000000 in
theorem told_ok (h : S8) : FnC Tryz.prog 147 [.agg h.cells] [] (fun s L => s = str (toldS h) ∧ L = []) := by
  refine FnC.intro Tryz.func147 rfl Tryz.ntmps147 rfl fun Z w0 hG => ?_
  focus (
 (refine W.seq (W.region ?_))
 (refine J.boxAg rfl rfl ?_; intro b')
 (refine Jx.assign rfl rfl (J.nil (N.seq (W.seq (W.region ?_)))))
 (refine J.alloc (by simp only [List.map_cons, List.map_nil]; rfl) rfl rfl ?_; intro b')
 (refine J.nil (N.seq (W.seq (W.seq (W.region (Jx.loadAll rfl 1 rfl rfl rfl ?_))))))
 (refine Jx.move rfl rfl (J.nil (N.seq (W.block ?_))))
 (refine id ?_; rotate_left))
  rename_i p1
  refine W.loop (α := Nat × List UInt8) (fun x => [(7, int x.1), (6, .agg (h.list.map u32)), (3, ptr b'), (1, ptr p1)]) (fun x => [.obj b' 165 (x.2.map byte), .obj p1 149 h.cells]) (fun x => x.1 ≤ 8 ∧ x.2.length = 32 ∧ ∀ m, m < 4 * x.1 → x.2.getD m 0 = (toldS h).getD m 0) (fun x => 8 - x.1) (0, List.replicate 32 0) ⟨by simp, rfl, fun m hm => by simp at hm⟩ rfl ⟨ref0 rfl, ref0 rfl, ref0 rfl, ref0 rfl, trivial⟩ ?_
  rintro ⟨i, bs⟩ ⟨hi, hl, hb⟩
  simp only at hi hl hb ⊢
  by_cases h1 : i < 8
  · focus (
 (refine W.seq (W.region (Jx.lssI rfl rfl rfl (J.nil (N.seq (W.seq (W.cT rfl ?_)))))))
 (refine W.skip (N.seq (W.seq (W.block (W.seq (W.region (Jx.move rfl rfl ?_)))))))
 (refine Jx.indexAg u32 0 i rfl rfl rfl (by omega) (by exact h1) rfl ?_)
 (refine Jx.assign rfl rfl (Jx.assign rfl rfl (J.nil (N.seq (W.region (Jx.move rfl rfl (Jx.mul64 rfl rfl (by omega) rfl ?_)))))))
 (refine Jx.move rfl rfl (Jx.mul64 rfl rfl (by omega) rfl ?_))
 (refine Jx.add64 rfl rfl (by omega) rfl ?_)
 (refine Jx.move rfl rfl (Jx.mul64 rfl rfl (by omega) rfl ?_))
 (refine Jx.add64 rfl rfl (by omega) rfl ?_)
 (refine Jx.move rfl rfl (Jx.mul64 rfl rfl (by omega) rfl ?_))
 (refine Jx.add64 rfl rfl (by omega) rfl ?_)
 (refine Jx.move rfl rfl (Jx.shrU rfl rfl (by decide) rfl ?_))
 (refine Jx.convByte rfl rfl rfl ?_)
 (refine Jx.move rfl rfl (Jx.shrU rfl rfl (by decide) rfl ?_))
 (refine Jx.convByte rfl rfl rfl ?_)
 (refine Jx.move rfl rfl (Jx.shrU rfl rfl (by decide) rfl ?_))
 (refine Jx.convByte rfl rfl rfl ?_)
 (refine Jx.move rfl rfl (Jx.convByte rfl rfl rfl ?_))
 (refine Jx.index0 (4 * i) rfl rfl (by omega) (by omega) rfl ?_)
 (refine J.storeA byte ((wordB (h.list.getD i 0)).getD 0 0) rfl rfl (One.val rfl) 0 rfl (by (try simp only [List.length_set]); omega) rfl ?_)
 (refine Jx.index0 (4 * i + 1) rfl rfl (by omega) (by omega) rfl ?_)
 (refine J.storeA byte ((wordB (h.list.getD i 0)).getD 1 0) rfl rfl (One.val rfl) 0 rfl (by (try simp only [List.length_set]); omega) rfl ?_)
 (refine Jx.index0 (4 * i + 2) rfl rfl (by omega) (by omega) rfl ?_)
 (refine J.storeA byte ((wordB (h.list.getD i 0)).getD 2 0) rfl rfl (One.val rfl) 0 rfl (by (try simp only [List.length_set]); omega) rfl ?_)
 (refine Jx.index0 (4 * i + 3) rfl rfl (by omega) (by omega) rfl ?_)
 (refine J.storeA byte ((wordB (h.list.getD i 0)).getD 3 0) rfl rfl (One.val rfl) 0 rfl (by (try simp only [List.length_set]); omega) rfl ?_)
 (refine J.nil (N.seq (W.region (Jx.add64 rfl rfl (by omega) rfl ?_))))
 (refine Jx.move rfl rfl (J.nil ?_))
 (refine id ?_; rotate_left))
    exact N.round (i + 1, (((bs.set (4 * i) ((wordB (h.list.getD i 0)).getD 0 0)).set (4 * i + 1) ((wordB (h.list.getD i 0)).getD 1 0)).set (4 * i + 2) ((wordB (h.list.getD i 0)).getD 2 0)).set (4 * i + 3) ((wordB (h.list.getD i 0)).getD 3 0)) ⟨by simp only; omega, by simp only [List.length_set]; exact hl, fun m hm => told_step h bs i h1 hl hb m hm⟩ (by simp only; omega) rfl ⟨ref0 rfl, ref0 rfl, ref0 rfl, ref0 rfl, trivial⟩
  · have h8 : i = 8 := by omega
    have e : bs = toldS h := told_ext h bs hl fun m hm => hb m (by omega)
    focus (
 (refine W.seq (W.region (Jx.lssI rfl rfl rfl (J.nil (N.seq (W.seq (W.cF rfl ?_)))))))
 (refine W.exit (N.seq (W.seq (W.region (Jx.sliceArr rfl rfl ?_)))))
 (refine Jx.bytesStrObj bs rfl 0 rfl hl (fun k hk => by rw [Nat.zero_add]; exact getElem?_map_lt byte bs 0 k (by omega)) rfl ?_)
 (refine Jx.assign rfl rfl (J.nil (N.seq (W.ret ?_))))
 (refine id ?_; rotate_left))
    exact N.retD (rs := [.tmp 2]) (L1 := []) rfl (.tmp rfl .nil) (List.nil_sublist _) ⟨by rw [e]; rfl, rfl⟩
theorem el_byte (m : List UInt8) (j : Nat) (hj : j < m.length) : (elOf encB 0 m j).getD 0 .any = (m.map byte).getD j .any := by
  simp [elOf, encB, List.getD_eq_getElem?_getD, List.getElem?_map, List.getElem?_eq_getElem hj]
set_option maxHeartbeats 4000000 in
theorem blocks_ok (s0 : S8) (l0 : List UInt8) (hl0 : l0.length ≤ 4294967296) : FnC Tryz.prog 146 [.agg s0.cells, bsl l0] [] (fun s L => ∃ v, v.oneCell' = true ∧ s = .tup [.agg (blocksS s0 l0).1.cells, .val v] ∧ L = [.row v tU8 1 (blocksS s0 l0).2.length (elOf encB 0 (blocksS s0 l0).2)]) := by
  refine FnC.intro Tryz.func146 rfl Tryz.ntmps146 rfl fun Z w0 hG => ?_
  focus (
 (refine W.seq (W.region ?_))
 (refine J.boxAg rfl rfl ?_; intro b')
 (refine J.alloc (by simp only [List.map_cons, List.map_nil]; rfl) rfl rfl ?_; intro b')
 (refine Jx.assign rfl rfl (J.nil (N.seq (W.seq (W.block ?_)))))
 (refine id ?_; rotate_left))
  rename_i p2
  refine W.loop (α := S8 × List UInt8) (fun x => [(1, bsl x.2), (2, ptr p2), (4, ptr b')]) (fun x => [.obj b' 149 (S8.cells ⟨0, 0, 0, 0, 0, 0, 0, 0⟩), .obj p2 149 x.1.cells]) (fun x => blocksS x.1 x.2 = blocksS s0 l0 ∧ x.2.length ≤ 4294967296) (fun x => x.2.length) (s0, l0) ⟨rfl, hl0⟩ rfl ⟨ref0 rfl, ref0 rfl, ref0 rfl, trivial⟩ ?_
  rintro ⟨s, l⟩ ⟨he, hl⟩
  simp only at he hl ⊢
  by_cases h1 : 64 ≤ l.length
  · have hlen : (l.take 64).length = 64 := by rw [List.length_take]; omega
    focus (
 (refine W.seq (W.seq (W.region (Jx.move rfl rfl (Jx.lenSl rfl rfl ?_)))))
 (refine Jx.geqI rfl rfl rfl (J.nil (N.seq (W.cT rfl ?_))))
 (refine W.skip (N.seq (W.block (W.seq ?_))))
 (refine W.draw follows ?_)
 (refine JD.upto (n := 6) rfl (by decide +kernel) (by decide +kernel) rfl rfl ?_)
 (refine Cx.loadAll rfl 1 rfl rfl rfl ?_)
 (refine Cx.move rfl rfl ?_)
 (refine Cx.takeL 64 rfl rfl rfl h1 rfl ?_)
 (refine Cx.sliceArrPtr ((l.take 64).map byte) rfl (by omega) (by decide) (by rw [List.length_map]; exact hlen) (fun j hj => el_byte (l.take 64) j (by omega)) rfl ?_)
 (refine Cx.loadPPag rfl (List.take_of_length_le (by rw [List.length_map]; omega)) (by rw [List.length_map]; exact hlen) rfl ?_)
 (refine SegC.q (Qs.call (Lc := []) (block_ok s (l.take 64) hlen) (fun s L' h => h) (List.Perm.refl _) (evs_args rfl)) rfl ?_)
 (refine SegC.nil ?_)
 (refine J.storeAll rfl rfl rfl 1 rfl rfl rfl ?_)
 (refine J.nil (N.seq (W.region (Jx.move rfl rfl ?_))))
 (refine Jx.dropL 64 rfl rfl rfl h1 rfl ?_)
 (refine Jx.assign rfl rfl (J.nil (N.blockNormal ?_)))
 (refine id ?_; rotate_left))
    exact N.round (blockS s (l.take 64), l.drop 64) ⟨by simp only; rw [← blocksS_ge h1, he], by simp only [List.length_drop]; omega⟩ (by simp only [List.length_drop]; omega) rfl ⟨ref0 rfl, ref0 rfl, ref0 rfl, trivial⟩
  · have e2 : blocksS s l = (s, l) := blocksS_lt (by omega)
    rw [e2] at he
    focus (
 (refine W.seq (W.seq (W.region (Jx.move rfl rfl (Jx.lenSl rfl rfl ?_)))))
 (refine Jx.geqI rfl rfl rfl (J.nil (N.seq (W.cF rfl ?_))))
 (refine W.exit (N.seq (W.seq ?_)))
 (refine W.draw follows ?_)
 (refine JD.begin 5 rfl ?_; refine JP.more [0, 1] _ rfl (by decide +kernel) ?_)
 (refine Cx.loadAll rfl 1 rfl rfl rfl ?_)
 (refine Cx.move rfl rfl ?_)
 (refine SegC.nil ?_)
 (refine JP.rowNil tU8 1 (elOf encB 0 []) ?_; refine JP.append (idx := [0, 1]) (m := []) (m2 := l) 2 [18] [1, 2] [0] (by decide +kernel) rfl ?_ rfl (SrcOK.sl rfl) rfl rfl (by simp only [maxLen, List.length_nil]; omega) rfl ?_; rotate_left; intro v' hv'; simp only [List.nil_append]; rotate_left)
 (refine Cx.loadAll rfl 2 rfl rfl rfl ?_)
 (refine Cx.move rfl rfl ?_)
 (refine SegC.nil ?_)
 (refine Ag.cons rfl ?_)
 (refine Ag.cons rfl ?_)
 (refine Ag.nil)
 (refine JP.storeAll (idx := [0]) 3 [4, 17] [0, 1, 2, 3] [] (by decide +kernel) rfl ?_ rfl rfl rfl 1 rfl rfl rfl ?_)
 (refine Cx.loadAll rfl 2 rfl rfl rfl ?_)
 (refine SegC.nil ?_)
 (refine Ag.cons rfl ?_)
 (refine Ag.nil)
 (refine JP.tail (idx := []) 4 (by decide +kernel) (by decide +kernel) rfl rfl ?_ ?_)
 (refine SegC.nil ?_)
 (refine Ag.nil)
 (refine Jx.assign rfl rfl (J.nil (N.seq (W.ret ?_))))
 (refine id ?_; rotate_left))
    refine N.retD (rs := [.cell 4 149, .tmp 5]) (L1 := [.row v' tU8 1 l.length (elOf encB 0 l)]) rfl (.cell rfl 1 rfl inferInstance (.tmp rfl .nil)) (by simp) ⟨v', hv', ?_, ?_⟩
    · rw [← he]; rfl
    · rw [← he]
end Go.Proofs.YtlfdhkahiaammaaGreatDoor.Sha
namespace Go.Proofs.YtlfdhkahiaammaaGreatDoor.Sha
open Go Go.Sse
set_option maxRecDepth 10000
set_option linter.unusedVariables false
set_option linter.unusedSimpArgs false
abbrev tHash : Nat := 158
abbrev hraw (b : Nat) (v : Value) (s : S8) (tail : List UInt8) (n : Nat) : List Own :=
  [.row v tU8 1 tail.length (elOf encB 0 tail), .obj b tHash [u32 s.a, u32 s.b, u32 s.c, u32 s.d, u32 s.e, u32 s.f, u32 s.g, u32 s.h, .val v, int n]]
theorem new_ok : FnC Tryz.prog 126 [] [] (fun r L => ∃ b v, r = ptr b ∧ L = hraw b v first8 [] 0) := by
  refine FnC.intro Tryz.func126 rfl Tryz.ntmps126 rfl fun Z w0 hG => ?_
  focus (
 (refine W.seq (W.region (Jx.assign rfl rfl (J.nil (N.seq (W.seq (W.region ?_)))))))
 (refine J.call (first_ok) rfl (evs_args rfl) rfl ?_; rintro _ _ ⟨rfl, rfl⟩; simp only [la1, la2, la3])
 (refine Jx.buildB rfl rfl rfl rfl rfl ?_)
 (refine J.boxAg rfl rfl ?_; intro b')
 (refine Jx.assign rfl rfl (J.nil (N.seq (W.ret ?_))))
 (refine id ?_; rotate_left))
  refine N.rowNil tU8 1 (elOf encB 0 []) ?_
  exact N.ret (rs := [.tmp 0]) rfl (.tmp rfl .nil) ⟨b', .slice none 0 0, rfl, rfl⟩
set_option maxHeartbeats 4000000 in
theorem write_ok (b : Nat) (v : Value) (s : S8) (tail : List UInt8) (n : Nat) (x : List UInt8) (h1 : tail.length < 64) (h2 : n ≤ 2147483648) (h3 : x.length ≤ 2147483648) :
    FnC Tryz.prog 127 [ptr b, str x] (hraw b v s tail n) (fun r L => ∃ v', L = hraw b v' (blocksS s (tail ++ x)).1 (blocksS s (tail ++ x)).2 (n + x.length)) := by
  have c := blocks_ok s (tail ++ x) (by simp only [List.length_append]; omega)
  have hmax : (tail ++ x).length ≤ maxLen := by simp only [List.length_append, maxLen]; omega
  have hb : tail.length + x.length ≤ maxLen ∧ (tail.length + x.length) * 1 ≤ 140737488355328 := by simp only [maxLen]; omega
  generalize blocksS s (tail ++ x) = p at *
  obtain ⟨s2, tl2⟩ := p
  refine FnC.intro Tryz.func127 rfl Tryz.ntmps127 rfl fun Z w0 hG => ?_
  focus (
 (refine W.seq (W.region (Jx.move rfl rfl (Jx.nilCheck rfl rfl ?_))))
 (refine Jx.fieldAddr rfl rfl ?_)
 (refine Jx.load rfl 1 rfl rfl rfl ?_)
 (refine Jx.move rfl rfl (Jx.lenS rfl rfl ?_))
 (refine Jx.add64 rfl rfl (by omega) rfl ?_)
 (refine Jx.nilCheck rfl rfl ?_)
 (refine Jx.fieldAddr rfl rfl ?_)
 (refine J.store rfl rfl (One.val rfl) 1 rfl rfl rfl rfl ?_)
 (refine J.nil (N.seq ?_))
 (refine W.draw follows ?_)
 (refine JD.begin 22 rfl ?_; refine JP.more [0, 1, 2, 3, 4, 5, 6, 7, 8, 9, 10] _ rfl (by decide +kernel) ?_)
 (refine Cx.move rfl rfl ?_)
 (refine Cx.move rfl rfl ?_)
 (refine Cx.move rfl rfl ?_)
 (refine Cx.nilCheck rfl rfl ?_)
 (refine Cx.fieldAddr rfl rfl ?_)
 (refine Cx.loadAg rfl 1 rfl rfl rfl rfl ?_)
 (refine Cx.move rfl rfl ?_)
 (refine Cx.nilCheck rfl rfl ?_)
 (refine Cx.fieldAddr rfl rfl ?_)
 (refine Cx.load rfl 1 rfl rfl rfl ?_)
 (refine Cx.move rfl rfl ?_)
 (refine SegC.nil ?_)
 (refine JP.append (idx := [0, 1, 2, 3, 4, 5, 6, 7, 8, 9, 10]) (m := tail) (m2 := x) 11 [23, 24] [6, 7, 8, 9, 10, 11] [0, 1, 2, 3, 4, 5] (by decide +kernel) rfl ?_ rfl (SrcOK.str rfl) rfl rfl hb rfl ?_; rotate_left; intro v' hv'; refine JP.freeze 25 rfl (by decide +kernel) hmax ?_; rotate_left)
 (refine Cx.move rfl rfl ?_)
 (refine Cx.move rfl rfl ?_)
 (refine Cx.move rfl rfl ?_)
 (refine Cx.nilCheck rfl rfl ?_)
 (refine Cx.fieldAddr rfl rfl ?_)
 (refine Cx.loadAg rfl 1 rfl rfl rfl rfl ?_)
 (refine Cx.move rfl rfl ?_)
 (refine Cx.nilCheck rfl rfl ?_)
 (refine Cx.fieldAddr rfl rfl ?_)
 (refine Cx.load rfl 1 rfl rfl rfl ?_)
 (refine Cx.move rfl rfl ?_)
 (refine SegC.nil ?_)
 (refine Ag.cons rfl ?_)
 (refine Ag.cons rfl ?_)
 (refine Ag.cons rfl ?_)
 (refine Ag.cons rfl ?_)
 (refine Ag.cons rfl ?_)
 (refine Ag.cons rfl ?_)
 (refine Ag.cons rfl ?_)
 (refine Ag.cons rfl ?_)
 (refine Ag.cons rfl ?_)
 (refine Ag.cons rfl ?_)
 (refine Ag.cons rfl ?_)
 (refine Ag.nil)
 (refine JP.call (idx := [0, 1, 2, 3, 4, 5]) (Lc := []) 12 [19, 25] [2, 3, 4, 5, 6, 7, 8, 9, 10, 11, 12] [0, 1] c rfl (by decide +kernel) rfl ?_ (evs_args rfl) rfl ?_; rotate_left; rintro _ _ ⟨v2, hv2, rfl, rfl⟩; simp only [List.cons_append, List.nil_append]; refine JP.more [13, 14, 15, 16, 17] _ rfl (by decide +kernel) ?_; rotate_left)
 (refine Cx.move rfl rfl ?_)
 (refine Cx.move rfl rfl ?_)
 (refine Cx.move rfl rfl ?_)
 (refine Cx.nilCheck rfl rfl ?_)
 (refine Cx.fieldAddr rfl rfl ?_)
 (refine Cx.loadAg rfl 0 rfl rfl rfl rfl ?_)
 (refine SegC.nil ?_)
 (refine Ag.cons rfl ?_)
 (refine Ag.cons rfl ?_)
 (refine Ag.cons rfl ?_)
 (refine Ag.cons rfl ?_)
 (refine Ag.cons rfl ?_)
 (refine Ag.cons rfl ?_)
 (refine Ag.nil)
 (refine Cx.move rfl rfl ?_)
 (refine Cx.extract rfl rfl rfl ?_)
 (refine Cx.extract rfl rfl rfl ?_)
 (refine Cx.nilCheck rfl rfl ?_)
 (refine Cx.fieldAddr rfl rfl ?_)
 (refine SegC.nil ?_)
 (refine JP.storeAg (idx := [0, 1, 13, 14, 15, 16, 17]) 18 [30, 27] [0, 2, 3, 4, 5, 6, 7, 8, 9, 10, 11, 12, 13, 14, 16, 17, 18] [1, 15] (by decide +kernel) rfl ?_ rfl rfl rfl 1 rfl rfl rfl rfl ?_; rotate_left; refine JP.more [19, 20] _ rfl (by decide +kernel) ?_; rotate_left)
 (refine Cx.move rfl rfl ?_)
 (refine Cx.move rfl rfl ?_)
 (refine Cx.move rfl rfl ?_)
 (refine Cx.extract rfl rfl rfl ?_)
 (refine Cx.extract rfl rfl rfl ?_)
 (refine Cx.nilCheck rfl rfl ?_)
 (refine Cx.fieldAddr rfl rfl ?_)
 (refine SegC.nil ?_)
 (refine Ag.cons rfl ?_)
 (refine Ag.cons rfl ?_)
 (refine Ag.cons rfl ?_)
 (refine Ag.cons rfl ?_)
 (refine Ag.cons rfl ?_)
 (refine Ag.cons rfl ?_)
 (refine Ag.cons rfl ?_)
 (refine Ag.nil)
 (refine Cx.nilCheck rfl rfl ?_)
 (refine Cx.fieldAddr rfl rfl ?_)
 (refine SegC.nil ?_)
 (refine JP.store (idx := [1, 15, 19, 20]) 21 [32, 28] [0, 1, 2, 3, 4, 5, 6, 7, 8, 9, 10, 11, 12, 13, 14, 15, 16, 17, 18, 19, 20, 21] [] (by decide +kernel) rfl ?_ rfl rfl (One.val hv2) 1 rfl rfl rfl rfl ?_)
 (refine Cx.move rfl rfl ?_)
 (refine Cx.extract rfl rfl rfl ?_)
 (refine Cx.nilCheck rfl rfl ?_)
 (refine Cx.fieldAddr rfl rfl ?_)
 (refine SegC.nil ?_)
 (refine Ag.cons rfl ?_)
 (refine Ag.cons rfl ?_)
 (refine Ag.cons rfl ?_)
 (refine Ag.cons rfl ?_)
 (refine Ag.nil)
 (refine JP.tail (idx := []) 22 (by decide +kernel) (by decide +kernel) rfl rfl ?_ ?_)
 (refine SegC.nil ?_)
 (refine Ag.nil)
 (refine J.nil ?_)
 (refine id ?_; rotate_left))
  exact N.fin (rs := []) rfl .nil ⟨v2, rfl⟩
end Go.Proofs.YtlfdhkahiaammaaGreatDoor.Sha
namespace Go.Proofs.YtlfdhkahiaammaaGreatDoor.Sha
open Go Go.Sse
set_option maxRecDepth 10000
set_option linter.unusedVariables false
set_option linter.unusedSimpArgs false
theorem zeros_stop (n k : Nat) (hk : k ≤ zerosOf n) (r : Nat) (hr : r = n % 64) : ((((r + 1 + k : Nat) : Int)) % 64 = 56) ↔ k = zerosOf n := by
  unfold zerosOf at *
  subst hr
  constructor
  · intro h; omega
  · intro h; subst h; omega
theorem lenB_take (n i : Nat) (h : i < 8) : (lenB n).take i ++ [UInt8.ofNat (n * 8 / 2 ^ (56 - 8 * i))] = (lenB n).take (i + 1) := by
  have hl : i < (lenB n).length := by rw [lenB_len]; exact h
  rw [List.take_add_one, List.getElem?_eq_getElem hl]
  simp [lenB]
theorem zerosOf_lt (n : Nat) : zerosOf n < 64 := Nat.mod_lt _ (by omega)
set_option maxHeartbeats 4000000 in
theorem sum_ok (b : Nat) (v : Value) (s : S8) (tail : List UInt8) (n : Nat) (h1 : tail.length = n % 64) (h2 : n ≤ 4294967296) :
    FnC Tryz.prog 128 [ptr b] (hraw b v s tail n) (fun r L => r = str (toldS (blocksS s (tail ++ padS n)).1) ∧ L = hraw b v s tail n) := by
  have hz := zerosOf_lt n
  have ht : tail.length < 64 := by omega
  have c := blocks_ok s (tail ++ padS n) (by simp only [padS, List.length_append, List.length_cons, List.length_nil, List.length_replicate, lenB_len]; omega)
  have hb0 : tail.length ≤ maxLen ∧ tail.length * 1 ≤ 140737488355328 := by simp only [maxLen]; omega
  have hb1 : tail.length + [(128 : UInt8)].length ≤ maxLen ∧ (tail.length + [(128 : UInt8)].length) * 1 ≤ 140737488355328 := by simp only [maxLen, List.length_cons, List.length_nil]; omega
  have hpad : tail ++ [128] ++ List.replicate (zerosOf n) 0 ++ lenB n = tail ++ padS n := by simp [padS]
  generalize hp : blocksS s (tail ++ padS n) = p at *
  obtain ⟨s2, tl2⟩ := p
  refine FnC.intro Tryz.func128 rfl Tryz.ntmps128 rfl fun Z w0 hG => ?_
  focus (
 (refine W.seq (W.region (Jx.assign rfl rfl (J.nil (N.seq (W.seq (W.region (Jx.move rfl rfl (Jx.nilCheck rfl rfl ?_)))))))))
 (refine Jx.fieldAddr rfl rfl ?_)
 (refine Jx.load rfl 1 rfl rfl rfl ?_)
 (refine J.appendNil (l2 := tail) (SrcOK.row rfl 1 rfl) rfl rfl hb0 rfl ?_; intro v1 hv1)
 (refine Jx.assign rfl rfl (J.nil (N.seq (W.seq (W.region (Jx.move rfl rfl ?_))))))
 (refine J.qs (Qs.buildBytes [128] rfl rfl rfl (by decide) (by decide)) rfl ?_)
 (refine J.appendL (l2 := [128]) rfl (SrcOK.sl rfl) rfl rfl hb1 rfl ?_; intro v2 hv2)
 (refine Jx.assign rfl rfl (J.nil (N.seq (W.seq (W.block ?_)))))
 (refine id ?_; rotate_left))
  refine W.loop (α := Nat × Value) (fun x => [(3, .val x.2), (0, ptr b)]) (fun x => .row x.2 tU8 1 (tail ++ [128] ++ List.replicate x.1 0).length (elOf encB 0 (tail ++ [128] ++ List.replicate x.1 0)) :: hraw b v s tail n) (fun x => x.1 ≤ zerosOf n) (fun x => zerosOf n - x.1) (0, v2) (by simp) (by simp only [List.replicate_zero, List.append_nil]) ⟨ref0 rfl, ref0 rfl, trivial⟩ ?_
  rintro ⟨k, u⟩ hk
  simp only at hk ⊢
  have hst := zeros_stop n k hk tail.length h1
  have hel : (tail ++ [128] ++ List.replicate k (0 : UInt8)).length = tail.length + 1 + k := by simp only [List.length_append, List.length_cons, List.length_nil, List.length_replicate]
  have hb2 : (tail ++ [128] ++ List.replicate k (0 : UInt8)).length + [(0 : UInt8)].length ≤ maxLen ∧ ((tail ++ [128] ++ List.replicate k (0 : UInt8)).length + [(0 : UInt8)].length) * 1 ≤ 140737488355328 := by rw [hel]; simp only [maxLen, List.length_cons, List.length_nil]; omega
  have hnext : tail ++ [128] ++ List.replicate k (0 : UInt8) ++ [0] = tail ++ [128] ++ List.replicate (k + 1) 0 := by rw [List.replicate_succ']; simp
  by_cases hkz : k = zerosOf n
  · have hc : (((tail ++ [128] ++ List.replicate k (0 : UInt8)).length : Nat) : Int) % 64 = 56 := by rw [hel]; exact hst.2 hkz
    rw [hkz] at hc hel ⊢
    generalize hE : tail ++ [128] ++ List.replicate (zerosOf n) (0 : UInt8) = e at *
    focus (
 (refine W.seq (W.seq (W.region (Jx.move rfl rfl (Jx.lenRow rfl 0 rfl rfl ?_)))))
 (refine Jx.rem64 rfl rfl (by omega) (by decide) rfl ?_)
 (refine Jx.neqI rfl rfl rfl (J.nil (N.seq (W.cF rfl ?_))))
 (refine W.exit (N.seq (W.seq (W.region (Jx.move rfl rfl (Jx.nilCheck rfl rfl ?_))))))
 (refine Jx.fieldAddr rfl rfl ?_)
 (refine Jx.load rfl 2 rfl rfl rfl ?_)
 (refine Jx.convU64 n rfl rfl rfl (by omega) rfl ?_)
 (refine Jx.mulU64 8 rfl rfl (by omega) rfl ?_)
 (refine Jx.assign rfl rfl (J.nil (N.seq (W.seq (W.seq (W.region (Jx.move rfl rfl (J.nil (N.seq (W.block ?_))))))))))
 (refine id ?_; rotate_left))
    refine W.loop (α := Nat × Value) (fun x => [(29, int x.1), (3, .val x.2), (4, u64 (n * 8)), (0, ptr b)]) (fun x => .row x.2 tU8 1 (e ++ (lenB n).take x.1).length (elOf encB 0 (e ++ (lenB n).take x.1)) :: hraw b v s tail n) (fun x => x.1 ≤ 8) (fun x => 8 - x.1) (0, u) (by simp) (by simp only [List.take_zero, List.append_nil]) ⟨ref0 rfl, ref0 rfl, ref0 rfl, ref0 rfl, trivial⟩ ?_
    rintro ⟨i, u⟩ hi
    simp only at hi ⊢
    have hlt : ((lenB n).take i).length ≤ 8 := by rw [List.length_take]; omega
    have hel2 : (e ++ (lenB n).take i).length ≤ 200 := by rw [List.length_append]; omega
    by_cases h8 : i < 8
    · have hb3 : (e ++ (lenB n).take i).length + [UInt8.ofNat (n * 8 / 2 ^ (56 - 8 * i))].length ≤ maxLen ∧ ((e ++ (lenB n).take i).length + [UInt8.ofNat (n * 8 / 2 ^ (56 - 8 * i))].length) * 1 ≤ 140737488355328 := by simp only [maxLen, List.length_cons, List.length_nil]; omega
      have hn2 : e ++ (lenB n).take i ++ [UInt8.ofNat (n * 8 / 2 ^ (56 - 8 * i))] = e ++ (lenB n).take (i + 1) := by rw [List.append_assoc, lenB_take n i h8]
      generalize hm : e ++ (lenB n).take i = m at *
      focus (
 (refine W.seq (W.region (Jx.lssI rfl rfl rfl (J.nil (N.seq (W.seq (W.cT rfl ?_)))))))
 (refine W.skip (N.seq (W.seq (W.block (W.seq (W.region (Jx.move rfl rfl (Jx.assign rfl rfl (J.nil (N.seq (W.region (Jx.move rfl rfl (Jx.move rfl rfl (Jx.move rfl rfl ?_))))))))))))))
 (refine Jx.mul64 rfl rfl (by omega) rfl ?_)
 (refine Jx.sub64 rfl rfl (by omega) rfl ?_)
 (refine Jx.shrN (s := 56 - 8 * i) rfl rfl (by omega) (by simp only [IntKind.bits]; omega) rfl ?_)
 (refine Jx.numByte (n * 8 / 2 ^ (56 - 8 * i)) rfl rfl rfl rfl ?_)
 (refine J.qs (Qs.buildBytes [UInt8.ofNat (n * 8 / 2 ^ (56 - 8 * i))] rfl rfl rfl (by decide) (by decide)) rfl ?_)
 (refine J.appendL (l2 := [UInt8.ofNat (n * 8 / 2 ^ (56 - 8 * i))]) rfl (SrcOK.sl rfl) rfl rfl hb3 rfl ?_; intro v3 hv3)
 (refine Jx.assign rfl rfl (J.nil (N.seq (W.region (Jx.add64 rfl rfl (by omega) rfl ?_)))))
 (refine Jx.move rfl rfl (J.nil ?_))
 (refine id ?_; rotate_left))
      exact N.round (i + 1, v3) (by simp only; omega) (by simp only; omega) (by simp only [hn2]) ⟨ref0 rfl, ref0 rfl, ref0 rfl, ref0 rfl, trivial⟩
    · have h8' : i = 8 := by omega
      have hall : e ++ (lenB n).take i = tail ++ padS n := by rw [h8', List.take_of_length_le (by rw [lenB_len]; omega), hpad]
      rw [hall]
      rw [hall] at hel2
      refine W.freeze 3 rfl (by simp only [maxLen]; omega) ?_
      focus (
 (refine W.seq (W.region (Jx.lssI rfl rfl rfl (J.nil (N.seq (W.seq (W.cF rfl ?_)))))))
 (refine W.exit (N.seq (W.seq (W.region (Jx.move rfl rfl (Jx.nilCheck rfl rfl ?_))))))
 (refine Jx.fieldAddr rfl rfl ?_)
 (refine Jx.loadAg rfl 1 rfl rfl rfl rfl ?_)
 (refine Jx.move rfl rfl ?_)
 (refine J.call c rfl (evs_args rfl) rfl ?_; rintro _ _ ⟨v4, hv4, rfl, rfl⟩; simp only [List.cons_append, List.nil_append])
 (refine Jx.move rfl rfl (Jx.extract rfl rfl rfl ?_))
 (refine Jx.extract rfl rfl rfl ?_)
 (refine J.alloc (by simp only [List.map_cons, List.map_nil]; rfl) rfl rfl ?_; intro b')
 (refine J.storeAll rfl rfl rfl 0 rfl rfl rfl ?_)
 (refine Jx.assign rfl rfl (J.nil (N.seq (W.seq (W.region (Jx.loadAll rfl 0 rfl rfl rfl ?_))))))
 (refine J.call (told_ok s2) rfl (evs_args rfl) rfl ?_; rintro _ _ ⟨rfl, rfl⟩; simp only [la1, la2, la3])
 (refine Jx.assign rfl rfl (J.nil (N.seq (W.ret ?_))))
 (refine id ?_; rotate_left))
      exact N.retD (rs := [.tmp 2]) (L1 := hraw b v s tail n) rfl (.tmp rfl .nil) (by simp) ⟨rfl, rfl⟩
  · have hc : ¬ (((tail ++ [128] ++ List.replicate k (0 : UInt8)).length : Nat) : Int) % 64 = 56 := by rw [hel]; exact fun h => hkz (hst.1 h)
    generalize hE : tail ++ [128] ++ List.replicate k (0 : UInt8) = e at *
    focus (
 (refine W.seq (W.seq (W.region (Jx.move rfl rfl (Jx.lenRow rfl 0 rfl rfl ?_)))))
 (refine Jx.rem64 rfl rfl (by omega) (by decide) rfl ?_)
 (refine Jx.neqI rfl rfl rfl (J.nil (N.seq (W.cT rfl ?_))))
 (refine W.skip (N.seq (W.block (W.region (Jx.move rfl rfl ?_)))))
 (refine J.qs (Qs.buildBytes [0] rfl rfl rfl (by decide) (by decide)) rfl ?_)
 (refine J.appendL (l2 := [0]) rfl (SrcOK.sl rfl) rfl rfl hb2 rfl ?_; intro v3 hv3)
 (refine Jx.assign rfl rfl (J.nil (N.blockNormal ?_)))
 (refine id ?_; rotate_left))
    exact N.round (k + 1, v3) (by simp only; omega) (by simp only; omega) (by simp only [hnext]) ⟨ref0 rfl, ref0 rfl, trivial⟩
theorem hsum_ok (x : List UInt8) (hx : x.length ≤ 2147483648) : FnC Tryz.prog 107 [str x] [] (fun r L => r = str (shaS x) ∧ L = []) := by
  have hl := blocksS_left x.length first8 x (Nat.le_refl _)
  have happ := blocksS_app x.length first8 x (padS x.length) (Nat.le_refl _)
  have c2 : ∀ b v, FnC Tryz.prog 127 [ptr b, str x] (hraw b v first8 [] 0) (fun r L => ∃ v', L = hraw b v' (blocksS first8 x).1 (blocksS first8 x).2 x.length) := fun b v => by
    have := write_ok b v first8 [] 0 x (by simp) (by omega) hx
    simpa using this
  have c3 := fun b v => sum_ok b v (blocksS first8 x).1 (blocksS first8 x).2 x.length hl (by omega)
  rw [← happ] at c3
  change ∀ b v, FnC Tryz.prog 128 [ptr b] (hraw b v (blocksS first8 x).1 (blocksS first8 x).2 x.length) (fun r L => r = str (shaS x) ∧ L = hraw b v (blocksS first8 x).1 (blocksS first8 x).2 x.length) at c3
  generalize blocksS first8 x = p at *
  refine FnC.intro Tryz.func107 rfl Tryz.ntmps107 rfl fun Z w0 hG => ?_
  focus (
 (refine W.seq (W.region (Jx.assign rfl rfl (J.nil (N.seq (W.seq (W.region ?_)))))))
 (refine J.call new_ok rfl (evs_args rfl) rfl ?_; rintro _ _ ⟨b, v, rfl, rfl⟩; simp only [la1, la2, la3])
 (refine Jx.assign rfl rfl (J.nil (N.seq (W.seq (W.region (Jx.move rfl rfl (Jx.move rfl rfl ?_)))))))
 (refine J.call (c2 b v) rfl (evs_args rfl) rfl ?_; rintro _ _ ⟨v2, rfl⟩; simp only [la1, la2, la3])
 (refine J.nil (N.seq (W.seq (W.region (Jx.move rfl rfl ?_)))))
 (refine J.call (c3 b v2) rfl (evs_args rfl) rfl ?_; rintro _ _ ⟨rfl, rfl⟩; simp only [la1, la2, la3])
 (refine Jx.assign rfl rfl (J.nil (N.seq (W.ret ?_))))
 (refine id ?_; rotate_left))
  exact N.retD (rs := [.tmp 2]) (L1 := []) rfl (.tmp rfl .nil) (List.nil_sublist _) ⟨rfl, rfl⟩
end Go.Proofs.YtlfdhkahiaammaaGreatDoor.Sha
namespace Go.Proofs.YtlfdhkahiaammaaGreatDoor.Sha
open Go Go.Sse
set_option linter.unusedVariables false
set_option linter.unusedSimpArgs false
set_option maxRecDepth 100000
theorem endB_step (n i : Nat) (h : i < 8) : [UInt8.ofNat (n * 8 / 256 ^ i % 256)] ++ (lenB n).drop (8 - i) = (lenB n).drop (8 - (i + 1)) := by
  have hl : 8 - (i + 1) < (lenB n).length := by rw [lenB_len]; omega
  rw [List.drop_eq_getElem_cons hl, show 8 - (i + 1) + 1 = 8 - i by omega]
  simp only [List.singleton_append, List.cons.injEq, and_true]
  simp only [lenB, List.getElem_map, List.getElem_range]
  rw [show 56 - 8 * (8 - (i + 1)) = 8 * i by omega, Nat.pow_mul]
  apply UInt8.toNat_inj.1
  simp
theorem take_drop_ext (all bs : List UInt8) (i : Nat) (hl : bs.length = 64) (hi : i + 64 ≤ all.length) (h : ∀ m, m < 64 → bs.getD m 0 = all.getD (i + m) 0) : bs = (all.drop i).take 64 := by
  refine List.ext_getElem (by rw [hl, List.length_take, List.length_drop]; omega) fun m h1 h2 => ?_
  have := h m (by omega)
  rw [List.getElem_take, List.getElem_drop]
  simpa [List.getD_eq_getElem?_getD, List.getElem?_eq_getElem h1, List.getElem?_eq_getElem (show i + m < all.length by omega)] using this
theorem set_step (all bs : List UInt8) (i k : Nat) (hk : k < 64) (hl : bs.length = 64) (h : ∀ m, m < k → bs.getD m 0 = all.getD (i + m) 0) (m : Nat) (hm : m < k + 1) : (bs.set k (all.getD (i + k) 0)).getD m 0 = all.getD (i + m) 0 := by
  simp only [List.getD_eq_getElem?_getD, List.getElem?_set]
  by_cases e : k = m
  · subst e; simp [hl, hk]
  · rw [if_neg e]
    have := h m (by omega)
    simpa only [List.getD_eq_getElem?_getD] using this
set_option maxHeartbeats 4000000 in
theorem rsum_ok (x : List UInt8) (hx : x.length ≤ 2147483648) : FnC Tryz.prog 120 [str x] [] (fun r L => r = str (shaS x) ∧ L = []) := by
  have hz := zerosOf_lt x.length
  have hze : (119 - (x.length : Int) % 64) % 64 = (zerosOf x.length : Int) := by unfold zerosOf; omega
  have hzl : (List.replicate (zerosOf x.length) (0 : UInt8)).length = zerosOf x.length := by simp
  refine FnC.intro Tryz.func120 rfl Tryz.ntmps120 rfl fun Z w0 hG => ?_
  focus (
 (refine W.seq (W.region (Jx.assign rfl rfl (J.nil (N.seq (W.seq (W.region (Jx.move rfl rfl (Jx.lenS rfl rfl ?_)))))))))
 (refine Jx.rem64 rfl rfl (by omega) (by decide) rfl ?_)
 (refine Jx.sub64 rfl rfl (by omega) rfl ?_)
 (refine Jx.rem64 rfl rfl (by omega) (by decide) rfl ?_)
 (refine Jx.assign rfl rfl (J.nil (N.seq (W.seq (W.region (Jx.move rfl rfl (Jx.lenS rfl rfl ?_)))))))
 (refine Jx.mul64 rfl rfl (by omega) rfl ?_)
 (refine Jx.assign rfl rfl (J.nil (N.seq (W.seq (W.region (Jx.assign rfl rfl (J.nil (N.seq (W.seq (W.seq (W.region (Jx.assign rfl rfl (J.nil (N.seq ?_))))))))))))))
 (refine W.block ?_)
 (refine id ?_; rotate_left))
  refine W.loop (α := Nat) (fun i => [(6, int i), (5, str ((lenB x.length).drop (8 - i))), (4, int ((x.length * 8 / 256 ^ i : Nat) : Int)), (3, int (zerosOf x.length)), (0, str x)]) (fun _ => []) (fun i => i ≤ 8) (fun i => 8 - i) 0 (by omega) rfl ⟨ref0 rfl, ref0 rfl, ⟨_, rfl, Sub.of_eq (by simp)⟩, ⟨_, rfl, Sub.of_eq (by rw [hze])⟩, ref0 rfl, trivial⟩ ?_
  intro i hi
  have hel : ((lenB x.length).drop (8 - i)).length ≤ 8 := by rw [List.length_drop, lenB_len]; omega
  by_cases h1 : i < 8
  · have hst := endB_step x.length i h1
    have hdiv : x.length * 8 / 256 ^ i ≤ x.length * 8 := Nat.div_le_self _ _
    have hnx : x.length * 8 / 256 ^ i / 256 = x.length * 8 / 256 ^ (i + 1) := by rw [Nat.div_div_eq_div_mul, Nat.pow_succ]
    generalize x.length * 8 / 256 ^ i = q at *
    generalize (lenB x.length).drop (8 - i) = e at *
    focus (
 (refine W.seq (W.seq (W.region (Jx.move rfl rfl (Jx.lssI rfl rfl rfl (J.nil (N.seq (W.cT rfl ?_))))))))
 (refine W.skip (N.seq (W.seq (W.block (W.seq (W.region (Jx.move rfl rfl (Jx.rem64 rfl rfl (by omega) (by decide) rfl ?_))))))))
 (refine Jx.numByte (q % 256) rfl rfl (by omega) rfl ?_)
 (refine J.qs (Qs.buildBytes [UInt8.ofNat (q % 256)] rfl rfl rfl (by decide) (by decide)) rfl ?_)
 (refine Jx.bytesStr rfl rfl ?_)
 (refine Jx.move rfl rfl (Jx.cat rfl rfl (by simp only [List.length_cons, List.length_nil]; omega) rfl ?_))
 (refine Jx.assign rfl rfl (J.nil (N.seq (W.region (Jx.move rfl rfl (Jx.quo64 rfl rfl (by omega) (by decide) rfl ?_))))))
 (refine Jx.assign rfl rfl (J.nil (N.seq (W.region (Jx.move rfl rfl (Jx.add64 rfl rfl (by omega) rfl ?_))))))
 (refine Jx.assign rfl rfl (J.nil ?_))
 (refine id ?_; rotate_left))
    exact N.round (i + 1) (by omega) (by omega) rfl ⟨ref0 rfl, ⟨_, rfl, Sub.of_eq (by rw [hst])⟩, ⟨_, rfl, Sub.of_eq (by rw [← hnx]; congr 2)⟩, ref0 rfl, ref0 rfl, trivial⟩
  · have h8 : i = 8 := by omega
    have hall : x ++ [128] ++ List.replicate (zerosOf x.length) 0 ++ (lenB x.length).drop (8 - i) = x ++ padS x.length := by rw [h8]; simp [padS]
    have hlen : (x ++ padS x.length).length ≤ 4294967296 := by simp only [padS, List.length_append, List.length_cons, List.length_nil, List.length_replicate, lenB_len]; omega
    generalize hE : (lenB x.length).drop (8 - i) = e at *
    generalize hZ : List.replicate (zerosOf x.length) (0 : UInt8) = zs at *
    focus (
 (refine W.seq (W.seq (W.region (Jx.move rfl rfl (Jx.lssI rfl rfl rfl (J.nil (N.seq (W.cF rfl ?_))))))))
 (refine W.exit (N.seq (W.seq (W.region (Jx.move rfl rfl (Jx.cat rfl rfl (by simp only [List.length_append, List.length_cons, List.length_nil]; omega) rfl ?_))))))
 (refine Jx.move rfl rfl ?_)
 (refine J.qs (Qs.zeros (n := zerosOf x.length) rfl rfl (by simp only [maxLen]; omega) (by omega)) rfl ?_; refine J.as 36 (bsl zs) rfl (Sub.of_eq (by rw [← hZ])) ?_)
 (refine Jx.bytesStr rfl rfl ?_)
 (refine Jx.cat rfl rfl (by simp only [List.length_append, List.length_cons, List.length_nil]; omega) rfl ?_)
 (refine Jx.move rfl rfl (Jx.cat rfl rfl (by simp only [List.length_append, List.length_cons, List.length_nil]; omega) rfl ?_))
 (refine Jx.assign rfl rfl (J.nil (N.seq (W.seq (W.region ?_)))))
 (refine J.call (rfirst_ok) rfl (evs_args rfl) rfl ?_; rintro _ _ ⟨rfl, rfl⟩; simp only [la1, la2, la3])
 (refine J.alloc (by simp only [List.map_cons, List.map_nil]; rfl) rfl rfl ?_; intro b')
 (refine J.storeAll rfl rfl rfl 0 rfl rfl rfl ?_)
 (refine J.nil (N.seq (W.seq (W.seq (W.region (Jx.assign rfl rfl (J.nil (N.seq (W.block ?_)))))))))
 (refine id ?_; rotate_left))
    generalize hA : x ++ padS x.length = all at *
    refine W.loop (α := Nat × S8) (fun y => [(9, int y.1), (8, ptr b'), (7, str all)]) (fun y => [.obj b' 149 y.2.cells]) (fun y => y.1 ≤ all.length ∧ blocksS y.2 (all.drop y.1) = blocksS first8 all) (fun y => all.length - y.1) (0, first8) ⟨by simp, by simp⟩ rfl ⟨ref0 rfl, ref0 rfl, ⟨_, rfl, Sub.of_eq (by rw [← hall])⟩, trivial⟩ ?_
    rintro ⟨j, s⟩ ⟨hj, hs⟩
    simp only at hj hs ⊢
    by_cases h2 : j + 64 ≤ all.length
    · focus (
 (refine W.seq (W.seq (W.region (Jx.move rfl rfl (Jx.add64 rfl rfl (by omega) rfl ?_)))))
 (refine Jx.move rfl rfl (Jx.lenS rfl rfl ?_))
 (refine Jx.leqI rfl rfl rfl (J.nil (N.seq (W.cT rfl ?_))))
 (refine W.skip (N.seq (W.seq (W.block (W.seq (W.region ?_))))))
 (refine J.alloc (by simp only [List.map_cons, List.map_nil]; rfl) rfl rfl ?_; intro b')
 (refine J.nil (N.seq (W.seq (W.seq (W.region (Jx.assign rfl rfl (J.nil (N.seq (W.block ?_)))))))))
 (refine id ?_; rotate_left))
      rename_i p8
      refine W.loop (α := Nat × List UInt8) (fun y => [(11, int y.1), (10, ptr b'), (9, int j), (8, ptr p8), (7, str all)]) (fun y => [.obj b' 151 (y.2.map byte), .obj p8 149 s.cells]) (fun y => y.1 ≤ 64 ∧ y.2.length = 64 ∧ ∀ m, m < y.1 → y.2.getD m 0 = all.getD (j + m) 0) (fun y => 64 - y.1) (0, List.replicate 64 0) ⟨by simp, rfl, fun m hm => by simp at hm⟩ rfl ⟨ref0 rfl, ref0 rfl, ref0 rfl, ref0 rfl, ref0 rfl, trivial⟩ ?_
      rintro ⟨k, bs⟩ ⟨hk, hl, hb⟩
      simp only at hk hl hb ⊢
      by_cases h3 : k < 64
      · focus (
 (refine W.seq (W.seq (W.region (Jx.move rfl rfl (Jx.lssI rfl rfl rfl (J.nil (N.seq (W.cT rfl ?_))))))))
 (refine W.skip (N.seq (W.seq (W.block (W.region (Jx.move rfl rfl (Jx.move rfl rfl (Jx.move rfl rfl (Jx.move rfl rfl (Jx.add64 rfl rfl (by omega) rfl ?_))))))))))
 (refine Jx.indexS rfl rfl (by omega) (by omega) rfl ?_)
 (refine Jx.index0 k rfl rfl rfl (by omega) rfl ?_)
 (refine J.storeA byte (all.getD (j + k) 0) rfl rfl (One.val rfl) 0 rfl (by omega) rfl ?_)
 (refine J.nil (N.seq (W.region (Jx.move rfl rfl (Jx.add64 rfl rfl (by omega) rfl ?_)))))
 (refine Jx.assign rfl rfl (J.nil ?_))
 (refine id ?_; rotate_left))
        exact N.round (k + 1, bs.set k (all.getD (j + k) 0)) ⟨by simp only; omega, by simp only [List.length_set]; exact hl, fun m hm => set_step all bs j k h3 hl hb m hm⟩ (by simp only; omega) rfl ⟨ref0 rfl, ref0 rfl, ref0 rfl, ref0 rfl, ref0 rfl, trivial⟩
      · have h64 : k = 64 := by omega
        have e : bs = (all.drop j).take 64 := take_drop_ext all bs j hl h2 fun m hm => hb m (by omega)
        focus (
 (refine W.seq (W.seq (W.region (Jx.move rfl rfl (Jx.lssI rfl rfl rfl (J.nil (N.seq (W.cF rfl ?_))))))))
 (refine W.exit (N.seq (W.region (Jx.loadAll rfl 1 rfl rfl rfl ?_))))
 (refine Jx.loadArr (by rw [List.length_map]; exact hl) rfl 0 rfl rfl ?_)
 (refine J.call (rblock_ok s bs hl) rfl (evs_args rfl) rfl ?_; rintro _ _ ⟨rfl, rfl⟩; simp only [la1, la2, la3])
 (refine J.storeAll rfl rfl rfl 1 rfl rfl rfl ?_)
 (refine J.nil (N.seq (W.region (Jx.move rfl rfl (Jx.add64 rfl rfl (by omega) rfl ?_)))))
 (refine Jx.assign rfl rfl (J.nil ?_))
 (refine id ?_; rotate_left))
        refine N.drop (List.sublist_cons_self _ _) ?_
        exact N.round (j + 64, blockS s bs) ⟨by simp only; omega, by simp only; rw [e, ← hs, blocksS_ge (l := all.drop j) (by rw [List.length_drop]; omega), List.drop_drop]⟩ (by simp only; omega) rfl ⟨ref0 rfl, ref0 rfl, ref0 rfl, trivial⟩
    · have e2 : blocksS s (all.drop j) = (s, all.drop j) := blocksS_lt (by rw [List.length_drop]; omega)
      rw [e2] at hs
      focus (
 (refine W.seq (W.seq (W.region (Jx.move rfl rfl (Jx.add64 rfl rfl (by omega) rfl ?_)))))
 (refine Jx.move rfl rfl (Jx.lenS rfl rfl ?_))
 (refine Jx.leqI rfl rfl rfl (J.nil (N.seq (W.cF rfl ?_))))
 (refine W.exit (N.seq (W.seq (W.region (Jx.loadAll rfl 0 rfl rfl rfl ?_)))))
 (refine J.call (rtold_ok s) rfl (evs_args rfl) rfl ?_; rintro _ _ ⟨rfl, rfl⟩; simp only [la1, la2, la3])
 (refine Jx.assign rfl rfl (J.nil (N.seq (W.ret ?_))))
 (refine id ?_; rotate_left))
      refine N.retD (rs := [.tmp 2]) (L1 := []) rfl (.tmp rfl .nil) (List.nil_sublist _) ⟨?_, rfl⟩
      show str (toldS s) = str (shaS x)
      unfold shaS
      rw [hA, ← hs]
def fewB (l : List (List UInt8)) (n e : Int) : Bool := decide ((l.length : Int) ≤ n) && l.all fun s => decide ((s.length : Int) ≤ e)
theorem few_ok (l : List (List UInt8)) (n e : Int) (hn : n ≤ 9223372036854775807) : FnC Tryz.prog 25 [ssl l, int n, int e] [] (fun s L => s = bool (fewB l n e) ∧ L = []) := by
  refine FnC.intro Tryz.func25 rfl Tryz.ntmps25 rfl fun Z w0 hG => ?_
  by_cases h0 : n < (l.length : Int)
  · focus (
 (refine W.seq (W.region (Jx.assign rfl rfl (J.nil (N.seq (W.seq (W.seq (W.region (Jx.move rfl rfl (Jx.lenSl rfl rfl ?_))))))))))
 (refine Jx.move rfl rfl (Jx.gtrI rfl rfl rfl (J.nil (N.seq (W.cT rfl ?_)))))
 (refine W.seq (W.region (Jx.assign rfl rfl (J.nil (N.seq (W.ret (N.seqRet ?_)))))))
 (refine id ?_; rotate_left))
    refine N.ret (rs := [.tmp 6]) rfl (.tmp rfl .nil) ⟨?_, rfl⟩
    simp [oneOr, fewB, show ¬ (l.length : Int) ≤ n by omega]
  · focus (
 (refine W.seq (W.region (Jx.assign rfl rfl (J.nil (N.seq (W.seq (W.seq (W.region (Jx.move rfl rfl (Jx.lenSl rfl rfl ?_))))))))))
 (refine Jx.move rfl rfl (Jx.gtrI rfl rfl rfl (J.nil (N.seq (W.cF rfl ?_)))))
 (refine W.skip (N.seq (W.seq (W.seq (W.region (Jx.assign rfl rfl (J.nil (N.seq (W.block ?_)))))))))
 (refine id ?_; rotate_left))
    refine W.loop (α := Nat) (fun i => [(7, int i), (2, int e), (0, ssl l)]) (fun _ => []) (fun i => i ≤ l.length ∧ ∀ s ∈ l.take i, (s.length : Int) ≤ e) (fun i => l.length - i) 0 ⟨by omega, by simp⟩ rfl ⟨ref0 rfl, ref0 rfl, ref0 rfl, trivial⟩ ?_
    rintro i ⟨hi, hall⟩
    by_cases h1 : i < l.length
    · have hm : l.getD i [] ∈ l := by rw [List.getD_eq_getElem?_getD, List.getElem?_eq_getElem h1]; exact List.getElem_mem _
      have hts : ∀ s ∈ l.take (i + 1), s ∈ l.take i ∨ s = l.getD i [] := fun s hs => by
        rw [List.take_add_one, List.getElem?_eq_getElem h1] at hs
        rw [List.getD_eq_getElem?_getD, List.getElem?_eq_getElem h1]
        simp only [Option.toList_some, List.mem_append, List.mem_singleton] at hs
        exact hs
      by_cases h2 : e < ((l.getD i []).length : Int)
      · focus (
 (refine W.seq (W.seq (W.region (Jx.move rfl rfl (Jx.move rfl rfl (Jx.lenSl rfl rfl ?_))))))
 (refine Jx.lssI rfl rfl rfl (J.nil (N.seq (W.cT rfl ?_))))
 (refine W.skip (N.seq (W.seq (W.block (W.seq (W.region (Jx.move rfl rfl (Jx.move rfl rfl (Jx.indexEl rfl rfl (by assumption) rfl rfl ?_)))))))))
 (refine Jx.loadPP rfl rfl ?_)
 (refine Jx.lenS rfl rfl ?_)
 (refine Jx.move rfl rfl (Jx.gtrI rfl rfl rfl (J.nil (N.seq (W.cT rfl ?_)))))
 (refine W.seq (W.region (Jx.assign rfl rfl (J.nil (N.seq (W.ret (N.blockRet (N.seqRet (N.seqRet (N.blockRet (N.seqRet ?_)))))))))))
 (refine id ?_; rotate_left))
        refine N.ret (rs := [.tmp 6]) rfl (.tmp rfl .nil) ⟨?_, rfl⟩
        have : l.all (fun s => decide ((s.length : Int) ≤ e)) = false := by
          rw [List.all_eq_false]; exact ⟨_, hm, by simp only [decide_eq_true_eq]; omega⟩
        simp [oneOr, fewB, this]
      · focus (
 (refine W.seq (W.seq (W.region (Jx.move rfl rfl (Jx.move rfl rfl (Jx.lenSl rfl rfl ?_))))))
 (refine Jx.lssI rfl rfl rfl (J.nil (N.seq (W.cT rfl ?_))))
 (refine W.skip (N.seq (W.seq (W.block (W.seq (W.region (Jx.move rfl rfl (Jx.move rfl rfl (Jx.indexEl rfl rfl (by assumption) rfl rfl ?_)))))))))
 (refine Jx.loadPP rfl rfl ?_)
 (refine Jx.lenS rfl rfl ?_)
 (refine Jx.move rfl rfl (Jx.gtrI rfl rfl rfl (J.nil (N.seq (W.cF rfl ?_)))))
 (refine W.skip (N.seq (W.region (Jx.move rfl rfl (Jx.add64 rfl rfl (by omega) rfl ?_)))))
 (refine Jx.assign rfl rfl (J.nil ?_))
 (refine id ?_; rotate_left))
        exact N.round (i + 1) ⟨h1, fun s hs => by rcases hts s hs with h | rfl; exact hall s h; omega⟩ (by omega) rfl ⟨ref0 rfl, ref0 rfl, ref0 rfl, trivial⟩
    · have hil : i = l.length := by omega
      focus (
 (refine W.seq (W.seq (W.region (Jx.move rfl rfl (Jx.move rfl rfl (Jx.lenSl rfl rfl ?_))))))
 (refine Jx.lssI rfl rfl rfl (J.nil (N.seq (W.cF rfl ?_))))
 (refine W.exit (N.seq (W.seq (W.region (Jx.assign rfl rfl (J.nil (N.seq (W.ret ?_))))))))
 (refine id ?_; rotate_left))
      refine N.ret (rs := [.tmp 6]) rfl (.tmp rfl .nil) ⟨?_, rfl⟩
      rw [hil, List.take_length] at hall
      have : l.all (fun s => decide ((s.length : Int) ≤ e)) = true := List.all_eq_true.2 fun s hs => by simpa using hall s hs
      simp only [oneOr, fewB, this, Bool.and_true]
      rw [decide_eq_true (by omega)]
end Go.Proofs.YtlfdhkahiaammaaGreatDoor.Sha
namespace Go.Proofs.YtlfdhkahiaammaaGreatDoor
open Go Go.Sse Go.ChangeShapes Go.WideShapes Go.ChangeAt Go.RowKit
set_option linter.unusedVariables false
set_option linter.unusedSimpArgs false
abbrev Z0 : Nat → Prop := fun _ => False
structure Rd (P : Program) (T : TypeId) (α : Type) where
  enc : α → List SV
  sz : Nat
  dflt : α
  good : α → Prop
  bulk : α → Nat
  cells : P.cellsOf T = sz
  len : ∀ a, (enc a).length = sz
  read : ∀ {H : Type} {en : TypeId × Value → H} {w : World} {base : Nat} {sp : Nat → Bool} {held : Bool} {fuel : Nat} {cs : List Value} {x : DataW H × List MemPlace},
    DataW.trod en P w base sp held fuel T cs = some x → ∃ a, good a ∧ bulk a ≤ Rows.uptoBulk x.1 ∧ cs.length = sz ∧ (∀ c ∈ cs, c.oneCell' = true) ∧ ∀ j, j < sz → Rel Z0 w ((enc a).getD j .any) (cs.getD j undef)
section
variable {P : Program} {T E : TypeId} {α β : Type}
def Rd.int {k : IntKind} (h : P.underlying T = some (.int k)) (hc : P.cellsOf T = 1) : Rd P T Int where
  enc n := [.val (.int k n)]
  sz := 1
  dflt := 0
  good n := (Lit.int k n).wf = true
  bulk _ := 1
  cells := hc
  len _ := rfl
  read := by
    intro H en w base sp held fuel cs x hx
    obtain ⟨n, rfl, rfl, hw⟩ := DataW.trod_int h hx
    refine ⟨n, hw, by simp [Rows.uptoBulk], rfl, by simp [Value.oneCell'], fun j hj => ?_⟩
    obtain rfl : j = 0 := by omega
    exact .val _
def Rd.bool (h : P.underlying T = some .bool) (hc : P.cellsOf T = 1) : Rd P T Bool where
  enc b := [.val (.bool b)]
  sz := 1
  dflt := false
  good _ := True
  bulk _ := 1
  cells := hc
  len _ := rfl
  read := by
    intro H en w base sp held fuel cs x hx
    obtain ⟨n, rfl, rfl⟩ := DataW.trod_bool h hx
    refine ⟨n, trivial, by simp [Rows.uptoBulk], rfl, by simp [Value.oneCell'], fun j hj => ?_⟩
    obtain rfl : j = 0 := by omega
    exact .val _
def Rd.str (h : P.underlying T = some .string) (hc : P.cellsOf T = 1) : Rd P T (List UInt8) where
  enc s := [Sse.str s]
  sz := 1
  dflt := []
  good s := s.length ≤ maxLen
  bulk s := s.length + 1
  cells := hc
  len _ := rfl
  read := by
    intro H en w base sp held fuel cs x hx
    obtain ⟨s, rfl, rfl, hw⟩ := DataW.trod_string h hx
    have hl : s.data.toList.length = s.size := Array.length_toList
    refine ⟨s.data.toList, by rw [hl]; exact hw, by simp only [Rows.uptoBulk]; exact Nat.le_refl _, rfl, by simp [Value.oneCell'], fun j hj => ?_⟩
    obtain rfl : j = 0 := by omega
    have e : Sse.str s.data.toList = .val (.string s) := rfl
    simp only [List.getD_cons_zero, e]
    exact .val _
theorem exists_list {d : α} {p : Nat → α → Prop} (n : Nat) (h : ∀ i, i < n → ∃ a, p i a) : ∃ l : List α, l.length = n ∧ ∀ i, i < n → p i (l.getD i d) := by
  induction n with
  | zero => exact ⟨[], rfl, fun i hi => by omega⟩
  | succ n ih =>
    obtain ⟨l, hl, hp⟩ := ih fun i hi => h i (by omega)
    obtain ⟨a, ha⟩ := h n (by omega)
    refine ⟨l ++ [a], by simp [hl], fun i hi => ?_⟩
    rw [List.getD_eq_getElem?_getD]
    by_cases hi' : i < n
    · rw [List.getElem?_append_left (by omega)]
      have := hp i hi'
      rwa [List.getD_eq_getElem?_getD] at this
    · obtain rfl : i = n := by omega
      rw [List.getElem?_append_right (by omega), hl, Nat.sub_self]
      exact ha
theorem bulkAll_le {H : Type} (f : α → Nat) (d : α) : ∀ (l : List α) (xs : List (DataW H)), l.length = xs.length → (∀ i, i < l.length → f (l.getD i d) ≤ Rows.uptoBulk (xs.getD i .nil)) → (l.map f).sum ≤ Rows.uptoBulkAll xs
  | [], [], _, _ => by simp
  | a :: l, x :: xs, hl, h => by
    have h0 := h 0 (by simp)
    have hr := bulkAll_le f d l xs (by simpa using hl) fun i hi => by simpa using h (i + 1) (by simpa using hi)
    simp only [List.map_cons, List.sum_cons, Rows.uptoBulkAll]
    simp only [List.getD_cons_zero] at h0
    omega
theorem getD_mem_all {p : α → Prop} {d : α} {l : List α} (h : ∀ i, i < l.length → p (l.getD i d)) : ∀ a ∈ l, p a := by
  intro a ha
  obtain ⟨i, hi, rfl⟩ := List.mem_iff_getElem.1 ha
  have := h i hi
  rwa [List.getD_eq_getElem?_getD, List.getElem?_eq_getElem hi] at this
theorem cells_addr {w : World} {base b off : Nat} {spot : Option Nat} {n : Nat} {cs : List Value} (k : Nat) (h : w.cells? base (Addr.add ⟨b, off, spot⟩ k) n = some cs) : ∀ j, j < n → w.cell? ⟨b, off + k + j, none⟩ = cs[j]? := by
  obtain ⟨_, hl, hc⟩ := World.cells?_some h
  intro j hj
  have := hc j hj
  rw [← this]
  by_cases h0 : k = 0 ∧ j = 0
  · obtain ⟨rfl, rfl⟩ := h0
    simp only [Addr.add, if_true, Nat.add_zero]
    simp only [Addr.add, if_true] at this
    have h1 : cs[0]? ≠ none := by rw [List.getElem?_eq_getElem (by omega)]; simp
    rw [← this] at h1
    unfold World.cell? at h1 ⊢
    simp only at h1 ⊢
    cases hb : w.heap[b]? with
    | none => simp [hb] at h1
    | some o =>
      rw [hb] at h1
      cases o with
      | cells c _ _ =>
        cases spot with
        | none => rfl
        | some _ => simp at h1
      | _ => exact absurd rfl h1
  · by_cases hk : k = 0
    · subst hk
      have hj0 : j ≠ 0 := fun e => h0 ⟨rfl, e⟩
      simp [Addr.add, hj0]
    · by_cases hj0 : j = 0
      · subst hj0; simp [Addr.add, hk]
      · simp [Addr.add, hk, hj0, Nat.add_assoc]
theorem spot_none {w : World} {base b off : Nat} {spot : Option Nat} {n : Nat} {cs : List Value} (hn : 0 < n) (h : w.cells? base (Addr.add ⟨b, off, spot⟩ 0) n = some cs) : spot = none := by
  obtain ⟨_, hl, hc⟩ := World.cells?_some h
  have := hc 0 hn
  simp only [Addr.add, if_true] at this
  cases spot with
  | none => rfl
  | some s =>
    exfalso
    have h1 : cs[0]? ≠ none := by rw [List.getElem?_eq_getElem (by omega)]; simp
    rw [← this] at h1
    unfold World.cell? at h1
    revert h1
    simp only [Option.isSome_some, if_true]
    split <;> simp
def Rd.slice (h : P.underlying T = some (.slice E)) (hc : P.cellsOf T = 1) (r : Rd P E α) (hs : Nat.blt 0 r.sz = true) : Rd P T (List α) where
  enc l := [.sl r.sz l.length (elOf r.enc r.dflt l)]
  sz := 1
  dflt := []
  good l := l.length ≤ maxLen ∧ ∀ a ∈ l, r.good a
  bulk l := (l.map r.bulk).sum + 1
  cells := hc
  len _ := rfl
  read := by
    intro H en w base sp held fuel cs x hx
    have hpos : 0 < r.sz := by simpa [Nat.blt_eq] using hs
    rcases DataW.trod_slice h hx with ⟨rfl, rfl⟩ | ⟨⟨b, off, spot⟩, len, cap, elems, rest, n, _, rfl, rfl, hb, hl, hm, hlen, hel, hsp, hns⟩
    · refine ⟨[], ⟨by simp, by simp⟩, by simp [Rows.uptoBulk], rfl, by simp [Value.oneCell'], fun j hj => ?_⟩
      obtain rfl : j = 0 := by omega
      exact .sl _ _ _ _ _ (fun _ => undef) (by simp) (by simp) (.inl (by simp)) (by simp) (by simp) (by simp)
    · have each : ∀ i, i < len → ∃ a, ∃ cs' x', w.cells? base (Addr.add ⟨b, off, spot⟩ (i * r.sz)) r.sz = some cs' ∧ elems[i]? = some x' ∧ r.good a ∧ r.bulk a ≤ Rows.uptoBulk x'.1 ∧ cs'.length = r.sz ∧ (∀ c ∈ cs', c.oneCell' = true) ∧ ∀ j, j < r.sz → Rel Z0 w ((r.enc a).getD j .any) (cs'.getD j undef) := by
        intro i hi
        have h1 := hel i hi
        rw [r.cells, List.getElem?_eq_getElem (by omega), Option.bind_eq_some_iff] at h1
        obtain ⟨cs', hcs, ht⟩ := h1
        obtain ⟨a, h2, h3, h4, h5, h6⟩ := r.read ht
        exact ⟨a, cs', _, hcs, List.getElem?_eq_getElem (by omega), h2, h3, h4, h5, h6⟩
      obtain ⟨l, hll, hp⟩ := exists_list (d := r.dflt) len each
      have cell : ∀ i j, i < len → j < r.sz → ∃ v, w.cell? ⟨b, off + (i * r.sz + j), none⟩ = some v ∧ v.oneCell' = true ∧ Rel Z0 w ((r.enc (l.getD i r.dflt)).getD j .any) v := by
        intro i j hi hj
        obtain ⟨cs', x', h1, _, _, _, h4, h5, h6⟩ := hp i hi
        have hj' : j < cs'.length := by omega
        refine ⟨cs'[j], ?_, h5 _ (List.getElem_mem _), ?_⟩
        · have := cells_addr (i * r.sz) h1 j hj
          rw [List.getElem?_eq_getElem hj'] at this
          rw [← Nat.add_assoc]; exact this
        · have := h6 j hj
          rwa [List.getD_eq_getElem?_getD (l := cs'), List.getElem?_eq_getElem hj'] at this
      refine ⟨l, ⟨by omega, ?_⟩, ?_, rfl, by simp [Value.oneCell'], fun j hj => ?_⟩
      · refine getD_mem_all (d := r.dflt) fun i hi => ?_
        obtain ⟨_, _, _, _, h2, _⟩ := hp i (by omega)
        exact h2
      · have := bulkAll_le r.bulk r.dflt l (elems.map (·.1)) (by simp [hll, hlen]) fun i hi => by
          obtain ⟨_, x', _, h1, _, h3, _⟩ := hp i (by omega)
          have e : (elems.map (·.1)).getD i .nil = x'.1 := by simp [List.getD_eq_getElem?_getD, h1]
          rw [e]; exact h3
        simp only [Rows.uptoBulk]; omega
      · obtain rfl : j = 0 := by omega
        simp only [List.getD_cons_zero]
        rw [hll]
        have hdec : ∀ k, k < len * r.sz → k / r.sz < len ∧ k % r.sz < r.sz ∧ k / r.sz * r.sz + k % r.sz = k := fun k hk => by
          refine ⟨Nat.div_lt_of_lt_mul (by rw [Nat.mul_comm]; exact hk), Nat.mod_lt _ hpos, ?_⟩
          rw [Nat.mul_comm]; exact Nat.div_add_mod k r.sz
        refine .sl _ _ _ _ _ (fun k => (w.cell? ⟨b, off + k, none⟩).getD undef) hl hm ?_ ?_ (fun i hi => r.len _) ?_
        · rcases Nat.eq_zero_or_pos len with h0 | h0
          · exact .inl (by simp [h0])
          · right
            obtain ⟨cs', _, h1, _⟩ := hp 0 h0
            rw [Nat.zero_mul] at h1
            refine ⟨b, off, by rw [spot_none hpos h1], fun f => f, fun k hk => ?_⟩
            obtain ⟨h2, h3, h4⟩ := hdec k hk
            obtain ⟨v, hv, _⟩ := cell _ _ h2 h3
            rw [h4] at hv
            rw [hv]; rfl
        · intro k hk
          obtain ⟨h2, h3, h4⟩ := hdec k hk
          obtain ⟨v, hv, h5, _⟩ := cell _ _ h2 h3
          rw [h4] at hv
          rw [hv]; exact h5
        · intro i j hi hj
          obtain ⟨v, hv, _, h6⟩ := cell i j hi hj
          rw [hv]; exact h6
def Rd.array {N : Nat} (h : P.underlying T = some (.array N E)) (hc : P.cellsOf T = N) (r : Rd P E α) (enc1 : α → SV) (he : ∀ a, r.enc a = [enc1 a]) (hs : r.sz = 1) : Rd P T { l : List α // l.length = N } where
  enc l := l.1.map enc1
  sz := N
  dflt := ⟨List.replicate N r.dflt, by simp⟩
  good l := ∀ a ∈ l.1, r.good a
  bulk l := (l.1.map r.bulk).sum
  cells := hc
  len l := by rw [List.length_map, l.2]
  read := by
    intro H en w base sp held fuel cs x hx
    obtain ⟨xs, m, _, rfl, hlen, hxl, hel⟩ := DataW.trod_array h hx
    have hce : P.cellsOf E = 1 := by rw [r.cells, hs]
    have each : ∀ i, i < N → ∃ a, ∃ x', xs[i]? = some x' ∧ r.good a ∧ r.bulk a ≤ Rows.uptoBulk x'.1 ∧ ∃ c, cs[i]? = some c ∧ c.oneCell' = true ∧ Rel Z0 w (enc1 a) c := by
      intro i hi
      have h1 := hel i hi
      rw [hce, Nat.mul_one, List.getElem?_eq_getElem (by omega)] at h1
      obtain ⟨a, h2, h3, h4, h5, h6⟩ := r.read h1
      have hic : i < cs.length := by rw [hlen, hc]; exact hi
      have hch : (cs.drop i).take 1 = [cs[i]] := by rw [List.drop_eq_getElem_cons hic]; rfl
      have h7 := h6 0 (by omega)
      rw [he, hch] at h7
      rw [hch] at h5
      exact ⟨a, _, List.getElem?_eq_getElem (by omega), h2, h3, cs[i], List.getElem?_eq_getElem hic, h5 _ (by simp), by simpa using h7⟩
    obtain ⟨l, hll, hp⟩ := exists_list (d := r.dflt) N each
    refine ⟨⟨l, hll⟩, ?_, ?_, by rw [hlen, hc], ?_, fun j hj => ?_⟩
    · refine getD_mem_all (d := r.dflt) fun i hi => ?_
      obtain ⟨_, _, h2, _⟩ := hp i (by simp only at hi; omega)
      exact h2
    · have := bulkAll_le r.bulk r.dflt l (xs.map (·.1)) (by simp [hll, hxl]) fun i hi => by
        obtain ⟨x', h1, _, h3, _⟩ := hp i (by omega)
        have e : (xs.map (·.1)).getD i .nil = x'.1 := by simp [List.getD_eq_getElem?_getD, h1]
        rw [e]; exact h3
      simp only [Rows.uptoBulk]; omega
    · intro c hcm
      obtain ⟨j, hj⟩ := List.mem_iff_getElem?.1 hcm
      have hjl : j < N := by
        have := (List.getElem?_eq_some_iff.1 hj).1
        rw [hlen, hc] at this; exact this
      obtain ⟨_, _, _, _, c', h5, h6, _⟩ := hp j hjl
      rw [hj] at h5; cases h5
      exact h6
    · obtain ⟨_, _, _, _, c', h5, _, h7⟩ := hp j hj
      have hjl : j < l.length := by omega
      simp only [List.getD_eq_getElem?_getD, List.getElem?_map, List.getElem?_eq_getElem hjl, Option.map_some, Option.getD_some, h5]
      rw [List.getD_eq_getElem?_getD, List.getElem?_eq_getElem hjl] at h7
      exact h7
def Rd.as (r : Rd P T α) (g : α → β) (d : β) (enc' : β → List SV) (good' : β → Prop) (bulk' : β → Nat) (he : ∀ a, enc' (g a) = r.enc a) (hl : ∀ b, (enc' b).length = r.sz) (hg : ∀ a, r.good a → good' (g a)) (hb : ∀ a, bulk' (g a) = r.bulk a) : Rd P T β where
  enc := enc'
  sz := r.sz
  dflt := d
  good := good'
  bulk := bulk'
  cells := r.cells
  len := hl
  read := by
    intro H en w base sp held fuel cs x hx
    obtain ⟨a, h1, h2, h3, h4, h5⟩ := r.read hx
    exact ⟨g a, hg a h1, by rw [hb]; exact h2, h3, h4, fun j hj => by rw [he]; exact h5 j hj⟩
structure Fds (P : Program) (off : Nat) (tos : List (TypeId × Nat)) (α : Type) where
  enc : α → List SV
  sz : Nat
  dflt : α
  good : α → Prop
  bulk : α → Nat
  len : ∀ a, (enc a).length = sz
  read : ∀ {H : Type} {en : TypeId × Value → H} {w : World} {base : Nat} {sp : Nat → Bool} {held : Bool} {fuel : Nat} {cs : List Value} {xs : List (DataW H × List MemPlace)}, xs.length = tos.length → off + sz = cs.length →
    (∀ (i : Nat) (f : TypeId × Nat), tos[i]? = some f → DataW.trod en P w base sp held fuel f.1 ((cs.drop f.2).take (P.cellsOf f.1)) = (xs[i]? : Option (DataW H × List MemPlace))) → ∃ a, good a ∧ bulk a ≤ Rows.uptoBulkAll (xs.map (·.1)) ∧
    ∀ j, j < sz → (cs.getD (off + j) undef).oneCell' = true ∧ Rel Z0 w ((enc a).getD j .any) (cs.getD (off + j) undef)
def Fds.nil {off : Nat} : Fds P off [] Unit where
  enc _ := []
  sz := 0
  dflt := ()
  good _ := True
  bulk _ := 0
  len _ := rfl
  read := by
    intro H en w base sp held fuel cs xs hl hs h
    exact ⟨(), trivial, by simp, fun j hj => by omega⟩
def Fds.cons {off : Nat} {t : TypeId} {tos : List (TypeId × Nat)} (r : Rd P t α) (k : Fds P (off + r.sz) tos β) : Fds P off ((t, off) :: tos) (α × β) where
  enc x := r.enc x.1 ++ k.enc x.2
  sz := r.sz + k.sz
  dflt := (r.dflt, k.dflt)
  good x := r.good x.1 ∧ k.good x.2
  bulk x := r.bulk x.1 + k.bulk x.2
  len x := by rw [List.length_append, r.len, k.len]
  read := by
    intro H en w base sp held fuel cs xs hl hs h
    cases xs with
    | nil => simp at hl
    | cons x xs =>
      have h0 := h 0 (t, off) rfl
      simp only [List.getElem?_cons_zero] at h0
      obtain ⟨a, h1, h2, h3, h4, h5⟩ := r.read h0
      obtain ⟨b, g1, g2, g3⟩ := k.read (w := w) (cs := cs) (by simpa using hl) (by omega) fun i f hf => by simpa using h (i + 1) f (by simpa using hf)
      refine ⟨(a, b), ⟨h1, g1⟩, by simp only [List.map_cons, Rows.uptoBulkAll]; omega, fun j hj => ?_⟩
      rw [List.getD_eq_getElem?_getD (l := r.enc a ++ k.enc b)]
      by_cases hj' : j < r.sz
      · rw [List.getElem?_append_left (by rw [r.len]; exact hj')]
        have e : (List.take (P.cellsOf t) (List.drop off cs)).getD j undef = cs.getD (off + j) undef := by
          rw [r.cells]
          simp only [List.getD_eq_getElem?_getD, List.getElem?_take, List.getElem?_drop, hj', if_true]
        have h5' := h5 j hj'
        simp only [e] at h5'
        refine ⟨?_, by rw [← List.getD_eq_getElem?_getD]; exact h5'⟩
        have hlt : off + j < cs.length := by omega
        rw [← e]
        have hm := h4 ((List.take (P.cellsOf t) (List.drop off cs)).getD j undef)
        apply hm
        rw [List.getD_eq_getElem?_getD, List.getElem?_eq_getElem (by simp only [h3]; exact hj')]
        exact List.getElem_mem _
      · rw [List.getElem?_append_right (by rw [r.len]; omega), r.len, ← List.getD_eq_getElem?_getD]
        have := g3 (j - r.sz) (by omega)
        rw [show off + r.sz + (j - r.sz) = off + j by omega] at this
        exact this
def fieldsAt (P : Program) (T : TypeId) : Option (List (TypeId × Nat)) := match P.underlying T with
  | some (.struct fs) => some (fs.toList.map fun f => (f.type, f.offset))
  | _ => none
theorem fieldsAt_spec {tos : List (TypeId × Nat)} (h : fieldsAt P T = some tos) : ∃ fs : Array Field, P.underlying T = some (.struct fs) ∧ tos = fs.toList.map fun f => (f.type, f.offset) := by
  unfold fieldsAt at h
  split at h
  · rename_i fs hu
    exact ⟨fs, hu, (Option.some.inj h).symm⟩
  · cases h
def Rd.struct {tos : List (TypeId × Nat)} (h : fieldsAt P T = some tos) (k : Fds P 0 tos α) (hc : P.cellsOf T = k.sz) : Rd P T α where
  enc := k.enc
  sz := k.sz
  dflt := k.dflt
  good := k.good
  bulk a := k.bulk a + 1
  cells := hc
  len := k.len
  read := by
    intro H en w base sp held fuel cs x hx
    obtain ⟨fs, hu, rfl⟩ := fieldsAt_spec h
    obtain ⟨xs, n, rfl, rfl, hl, hxl, hf⟩ := DataW.trod_struct hu hx
    rw [hc] at hl
    obtain ⟨a, h1, h2, h3⟩ := k.read (w := w) (cs := cs) (xs := xs) (by simp [hxl]) (by omega) fun i f hi => by
      rw [List.getElem?_map, Option.map_eq_some_iff] at hi
      obtain ⟨f', hf', rfl⟩ := hi
      exact hf i f' (by simpa using hf')
    refine ⟨a, h1, by simp only [Rows.uptoBulk]; omega, hl, ?_, fun j hj => by have := (h3 j hj).2; rwa [Nat.zero_add] at this⟩
    intro c hcm
    obtain ⟨i, hi, rfl⟩ := List.mem_iff_getElem.1 hcm
    have := (h3 i (by omega)).1
    rwa [Nat.zero_add, List.getD_eq_getElem?_getD, List.getElem?_eq_getElem hi] at this
structure Rds (P : Program) (ts : List TypeId) (α : Type) where
  svs : α → List SV
  good : α → Prop
  bulk : α → Nat
  len : ∀ a, (svs a).length = ts.length
  read : ∀ {H : Type} {en : TypeId × Value → H} {w : World} {base : Nat} {sp : Nat → Bool} {held : Bool} {vs : List Value} {ds : List (DataW H)} {ps : List MemPlace}, (∀ (j : Nat) t v, ts[j]? = some t → vs[j]? = some v → ∃ b, Value.okWide P w .any b t v) →
    DataW.TrodAll en P w base sp held ts vs ds ps → ∃ a, good a ∧ bulk a ≤ Rows.uptoBulkAll ds ∧ vs.length = ts.length ∧ ∀ j, j < ts.length → Rel Z0 w ((svs a).getD j .any) (vs.getD j undef)
def Rds.nil : Rds P [] Unit where
  svs _ := []
  good _ := True
  bulk _ := 0
  len _ := rfl
  read := by
    intro H en w base sp held vs ds ps hv h
    obtain ⟨rfl, rfl, rfl⟩ := trodAll_nil h
    exact ⟨(), trivial, by simp, rfl, fun j hj => by simp at hj⟩
def isAgg (P : Program) (T : TypeId) : Bool := match P.underlying T with
  | some (.struct _) | some (.array ..) => true
  | _ => false
theorem agg_of (h : isAgg P T = true) {w : World} {b : Nat} {v : Value} (hv : Value.okWide P w .any b T v) : ∃ cs, v = .agg cs := by
  unfold isAgg at h
  unfold Value.okWide at hv
  split at h
  · rename_i hu; rw [hu] at hv; exact ⟨_, hv.choose_spec.1⟩
  · rename_i hu; rw [hu] at hv; exact ⟨_, hv.choose_spec.1⟩
  · cases h
theorem cell_of (h : isAgg P T = false) {w : World} {b : Nat} {v : Value} (hv : Value.okWide P w .any b T v) : v.cells = #[v] := by
  cases v with
  | agg cs =>
    exfalso
    unfold isAgg at h
    unfold Value.okWide at hv
    cases hu : P.underlying T with
    | none => rw [hu] at hv; simp [Cell.okWide, Cell.ok, hu] at hv
    | some d => cases d <;> simp [hu, Cell.okWide, Cell.ok] at hv h
  | _ => rfl
def Rds.cons {ts : List TypeId} (r : Rd P T α) (h1 : r.sz = 1) (hagg : isAgg P T = false) (k : Rds P ts β) : Rds P (T :: ts) (α × β) where
  svs x := (r.enc x.1).getD 0 .any :: k.svs x.2
  good x := r.good x.1 ∧ k.good x.2
  bulk x := r.bulk x.1 + k.bulk x.2
  len x := by simp [k.len]
  read := by
    intro H en w base sp held vs ds ps hv h
    obtain ⟨v, vs, d, ds, p, q, rfl, rfl, rfl, ht, hr⟩ := trodAll_cons h
    obtain ⟨fuel, hf⟩ := ht
    obtain ⟨b, hb⟩ := hv 0 T v rfl rfl
    rw [cell_of hagg hb] at hf
    obtain ⟨a, g1, g2, g3, g4, g5⟩ := r.read hf
    obtain ⟨c, f1, f2, f3, f4⟩ := k.read (fun j t v hj hv' => hv (j + 1) t v (by simpa using hj) (by simpa using hv')) hr
    refine ⟨(a, c), ⟨g1, f1⟩, by simp only [Rows.uptoBulkAll]; exact Nat.add_le_add g2 f2, by simp [f3], fun j hj => ?_⟩
    cases j with
    | zero => exact g5 0 (by omega)
    | succ j => simpa using f4 j (by simpa using hj)
def Rds.consAgg {ts : List TypeId} (r : Rd P T α) (hagg : isAgg P T = true) (k : Rds P ts β) : Rds P (T :: ts) (α × β) where
  svs x := .agg (r.enc x.1) :: k.svs x.2
  good x := r.good x.1 ∧ k.good x.2
  bulk x := r.bulk x.1 + k.bulk x.2
  len x := by simp [k.len]
  read := by
    intro H en w base sp held vs ds ps hv h
    obtain ⟨v, vs, d, ds, p, q, rfl, rfl, rfl, ht, hr⟩ := trodAll_cons h
    obtain ⟨fuel, hf⟩ := ht
    obtain ⟨b, hb⟩ := hv 0 T v rfl rfl
    obtain ⟨cs, rfl⟩ := agg_of hagg hb
    simp only [Value.cells] at hf
    obtain ⟨a, g1, g2, g3, g4, g5⟩ := r.read hf
    obtain ⟨c, f1, f2, f3, f4⟩ := k.read (fun j t v hj hv' => hv (j + 1) t v (by simpa using hj) (by simpa using hv')) hr
    refine ⟨(a, c), ⟨g1, f1⟩, by simp only [Rows.uptoBulkAll]; exact Nat.add_le_add g2 f2, by simp [f3], fun j hj => ?_⟩
    cases j with
    | zero => exact .agg _ cs.toList (by rw [g3, r.len]) g4 fun j hj => g5 j (by rwa [r.len] at hj)
    | succ j => simpa using f4 j (by simpa using hj)
end
theorem grown_of {W W' : World} (hb : Below W.heap.size W W') : (∀ may, W.keptBut W' may) ∧ ∀ a : Addr, a.block < W.heap.size → W'.frozen? a = W.frozen? a := by
  refine ⟨fun may => ⟨hb.os, hb.output, fun i hi => ?_⟩, fun a ha => ?_⟩
  · rw [hb.block i hi]
    split
    · rename_i h1 h2
      rw [h1] at h2; cases h2
      exact ⟨rfl, rfl, rfl, fun _ _ => rfl⟩
    · rename_i h1 h2
      rw [h1] at h2; cases h2
      exact .inr ⟨rfl, rfl⟩
    · rfl
  · unfold World.frozen?
    rw [hb.block a.block ha]
theorem post_same {H : Type} {enc : TypeId × Value → H} {P : Program} {f : Func} {s : ChangeSpec} {apart fresh handsOn again : Bool} {W W' : World} {args : Array Value} {v : Value} {ds gs : List (DataW H)} {before pa pv : List MemPlace}
    (hW : DataW.Whole enc P f.params.toList s.vars apart W args.toList ds gs before)
    (hres : ∀ (b : Nat) (sp : Nat → Bool) (hd : Bool), DataW.TrodAll enc P W' b sp hd f.resultTypes.toList (v.resultList f.resultTypes.size) (s.fn H (ds ++ gs)).results [])
    (hargs : ∀ sp : Nat → Bool, (∀ p ∈ before, sp p.block = true) → DataW.TrodAll enc P W' 0 sp true f.params.toList args.toList (s.fn H (ds ++ gs)).args pa)
    (hvars : ∀ sp : Nat → Bool, (∀ p ∈ before, sp p.block = true) → DataW.TrodVars enc P W' sp s.vars (s.fn H (ds ++ gs)).vars pv)
    (hps : before = pa ++ pv) (hb : Below W.heap.size W W')
    (hok : ∀ (j : Nat) (t : TypeId) (r : Value), f.resultTypes[j]? = some t → (v.resultList f.resultTypes.size)[j]? = some r → Value.okWide P W' .any 0 t r) :
    s.post enc P f apart fresh handsOn again W args v W' := by
  obtain ⟨hk, hfz⟩ := grown_of hb
  have hlt := hW.lt
  have hold : ∀ p ∈ before, (fun b => decide (b < W.heap.size)) p.block = true := fun p hp => by simpa using hlt p hp
  refine ⟨ds, gs, before, [], pa, pv, hW, hres _ _ _, hargs _ hold, hvars _ hold, World.keptBut_mono (fun p hp => ⟨hp, ?_⟩) (hk (· ∈ before)), fun _ => ?_⟩
  · rw [hps, List.mem_append] at hp
    exact Or.inr hp
  · obtain ⟨_, _, _, _, _, hz, hn⟩ := hW
    refine ⟨hok, _, _, ([] ++ pa) ++ pv, ⟨[] ++ pa, pv, trodAll_append (hargs _ (fun _ _ => rfl)) (hres _ _ _), hvars _ (fun _ _ => rfl), rfl, ?_, ?_⟩, ?_⟩
    · intro b off hp
      have hp' : MemPlace.cell b off ∈ before := by rw [hps]; simpa using hp
      rw [hfz _ (hlt _ hp')]
      exact hz b off hp'
    · intro ha
      have := hn ha
      rw [hps] at this
      simpa using this
    · intro p hp _
      rw [hps]
      simpa using hp
theorem stays_all {H : Type} {en : TypeId × Value → H} {P : Program} (hl : laidOutB P = true) {W W' : World} (hb : Below W.heap.size W W') {sp : Nat → Bool} :
    ∀ {ts : List TypeId} {vs : List Value} {ds : List (DataW H)} {ps : List MemPlace}, ts.all (fun t => P.readableRec t && decide (t < P.types.size)) = true → DataW.TrodAll en P W 0 (fun _ => true) true ts vs ds ps → (∀ x ∈ ps, x.block < W.heap.size) → (∀ x ∈ ps, sp x.block = true) →
    DataW.TrodAll en P W' 0 sp true ts vs ds ps
  | [], _, _, _, _, h, _, _ => by
    obtain ⟨rfl, rfl, rfl⟩ := trodAll_nil h
    exact trodAll_mk0
  | t :: ts, _, _, _, hr, h, hlt, hsp => by
    obtain ⟨v, vs, d, ds, p, q, rfl, rfl, rfl, h0, h1⟩ := trodAll_cons h
    simp only [List.all_cons, Bool.and_eq_true, decide_eq_true_eq] at hr
    exact trodAll_cons_mk (WideElems.Trod_stays hl hr.1.1 hr.1.2 h0 (fun x hx => hb.same (hlt x (by simp [hx]))) (fun x hx => hsp x (by simp [hx])))
      (stays_all hl hb (by simpa using hr.2) h1 (fun x hx => hlt x (by simp [hx])) (fun x hx => hsp x (by simp [hx])))
theorem calls_of {H : Type} {en : TypeId × Value → H} {P : Program} [Gl P] {f : Nat} {fn : Func} {ts : List TypeId} {α : Type} (rds : Rds P ts α) {s : ChangeSpec} {tb : TypeId} {apart fresh handsOn again : Bool} (hs : s.vars = []) (hp : fn.params.toList = ts) (hres : fn.resultTypes = #[tb])
    (htb : P.underlying tb = some .bool) (hl : laidOutB P = true) (hread : ts.all (fun t => P.readableRec t && decide (t < P.types.size)) = true)
    (hfn : ∀ ds : List (DataW H), ds.length = ts.length → (s.fn H ds).results = [.lit (.bool true)] ∧ (s.fn H ds).args = ds ∧ (s.fn H ds).vars = [])
    {W : World} {base : Nat} {args : Array Value} {ds gs : List (DataW H)} {before : List MemPlace}
    (hval : ∀ (j : Nat) t v, fn.params[j]? = some t → args[j]? = some v → Value.okWide P W .any base t v)
    (hW : DataW.Whole en P fn.params.toList s.vars apart W args.toList ds gs before)
    (hgl : ∀ x ∈ Gl.gl P, x.1 < W.heap.size ∧ ∀ i v, x.2[i]? = some v → W.cell? ⟨x.1, i, none⟩ = some v)
    (hC : ∀ a, rds.good a → rds.bulk a ≤ Rows.uptoBulkAll ds → ∃ R : SV → List Own → Prop, FnC P f (rds.svs a) [] R ∧ ∀ s L, R s L → s = Sse.bool true) :
    Calls P f args W fun e W' => ∃ v, e = .returned v ∧ s.post en P fn apart fresh handsOn again W args v W' := by
  have hW' := hW
  have hlt0 := hW.lt
  obtain ⟨p, q, hA, hV, rfl, hfz, hnd⟩ := hW
  rw [hs] at hV
  obtain ⟨rfl, rfl⟩ := trodVars_none hV
  rw [hp] at hA
  obtain ⟨a, ha, hb, hlen, hrel⟩ := rds.read (fun j t v hj hv => ⟨base, hval j t v (by rw [← hp] at hj; simpa using hj) (by simpa using hv)⟩) hA
  obtain ⟨R, hF, hR⟩ := hC a ha hb
  have hlen' : ds.length = ts.length := by
    have : ∀ {ts : List TypeId} {vs : List Value} {ds : List (DataW H)} {p : List MemPlace}, DataW.TrodAll en P W 0 (fun _ => true) true ts vs ds p → ds.length = ts.length := by
      intro ts
      induction ts with
      | nil => intro vs ds p h; obtain ⟨_, rfl, _⟩ := trodAll_nil h; rfl
      | cons t ts ih => intro vs ds p h; obtain ⟨_, _, _, _, _, _, rfl, rfl, rfl, _, h1⟩ := trodAll_cons h; simp [ih h1]
    exact this hA
  have := hF.go Z0 W args.toList (by rw [hlen, rds.len]) (fun j hj => (hrel j (by rwa [rds.len] at hj)).stable fun b _ _ => ⟨rfl, by simp [ZL, Z0, inF, foots]⟩) (by simp [Z0]) (by simp [foots]) (by simp [inF, foots]) (by simp) (fun x hx => ⟨(hgl x hx).1, by simp [inF, foots], (hgl x hx).2⟩)
  simp only [Array.toArray_toList] at this
  refine this.mono fun e W' ⟨v, sv, L', he, hr, hrv, hw⟩ => ?_
  subst he
  obtain rfl := hR _ _ hr
  obtain rfl : v = .bool true := hrv.val_eq
  have hbel : Below W.heap.size W W' := ⟨hw.os, hw.tape, hw.output, hw.size, fun k hk => hw.keep k hk (by simp [inF, foots])⟩
  obtain ⟨e1, e2, e3⟩ := hfn (ds ++ []) (by simpa using hlen')
  simp only [List.append_nil] at hlt0 hW'
  refine ⟨_, rfl, post_same (pa := p) (pv := []) hW' (fun b sp hd => ?_) (fun sp hsp => ?_) (fun _ _ => ?_) (by simp) hbel (ok_one hres rfl (okWide_bool_mk htb _))⟩
  · rw [e1, hres]; exact trodAll_cons_mk (shut_bool htb _) trodAll_mk0
  · rw [e2, List.append_nil, hp]; exact stays_all hl hbel hread hA hlt0 hsp
  · rw [e3, hs]; rfl
end Go.Proofs.YtlfdhkahiaammaaGreatDoor
namespace Go.Proofs.YtlfdhkahiaammaaGreatDoor
open Go Go.Sse Go.ChangeShapes Go.WideShapes Go.ChangeAt Go.RowKit
set_option linter.unusedVariables false
set_option linter.unusedSimpArgs false
set_option maxRecDepth 100000
theorem own : ownKnob Tryz.prog.godebug = none := by kernel_rfl
theorem laidOut : laidOutB Tryz.prog = true := by kernel_rfl
theorem laid_list : (Rows.laid_pharos_sha_k : DataW Unit) = .agg (shaK.map fun (n : Nat) => .lit (.int .u32 (n : Int))) := by rfl
theorem k_cell {W : World} (h : laidMetH Tryz.prog [("pharos/sha.k", Rows.laid_pharos_sha_k)] W) (r : Nat) (hr : r < 64) : W.cell? ⟨1, r, none⟩ = some (.int .u32 ((shaK.getD r 0 : Nat) : Int)) := by
  rw [MakeChecks.laidMetH_plain _ _ _ (by kernel_rfl)] at h
  obtain ⟨ps, ⟨g, t, cs, fuel, p, q, hg, ht, hv, hd, _, _⟩, _, _⟩ := h
  obtain rfl := Option.some.inj ((show Tryz.prog.globalNamed "pharos/sha.k" = some 1 by kernel_rfl).symm.trans hg)
  obtain rfl := Option.some.inj ((show (Tryz.prog.globals[1]?).map (·.type) = some 166 by kernel_rfl).symm.trans ht)
  have hu : Tryz.prog.underlying 166 = some (.array 64 134) := by kernel_rfl
  have hu2 : Tryz.prog.underlying 134 = some (.int .u32) := by kernel_rfl
  obtain ⟨xs, m, _, ex, _, hl, hel⟩ := DataW.trod_array hu hd
  have c5 : Tryz.prog.cellsOf 134 = 1 := by kernel_rfl
  have hE := hel r hr
  rw [c5, Nat.mul_one, List.getElem?_eq_getElem (by omega)] at hE
  obtain ⟨z, e1, e2, _⟩ := DataW.trod_int hu2 hE
  have hlen : shaK.length = 64 := by rfl
  have e3 : (xs.map (·.1)) = shaK.map fun (n : Nat) => .lit (.int .u32 (n : Int)) := by
    have := (Prod.mk.inj ex).1
    rw [laid_list] at this
    exact (DataW.agg.inj this).symm
  have e4 : (xs.map (·.1))[r]? = (shaK.map fun (n : Nat) => (DataW.lit (.int .u32 (n : Int)) : DataW Unit))[r]? := by rw [e3]
  rw [List.getElem?_map, List.getElem?_map, List.getElem?_eq_getElem (by omega : r < xs.length), List.getElem?_eq_getElem (by omega : r < shaK.length), e2] at e4
  have hz : z = ((shaK.getD r 0 : Nat) : Int) := by
    simp only [Option.map_some, Option.some.injEq, DataW.lit.injEq, Lit.int.injEq, true_and] at e4
    rw [e4, List.getD, List.getElem?_eq_getElem (by omega : r < shaK.length)]; rfl
  rw [World.var?_cell hg hv r, ← hz]
  have : cs.toList[r]? = some (.int .u32 z) := by
    have h0 : ((cs.toList.drop r).take 1)[0]? = some (.int .u32 z) := by rw [e1]; rfl
    simpa using h0
  simpa using this
theorem gl_met {W : World} (h : laidMetH Tryz.prog [("pharos/sha.k", Rows.laid_pharos_sha_k)] W) : ∀ x ∈ Gl.gl Tryz.prog, x.1 < W.heap.size ∧ ∀ i v, x.2[i]? = some v → W.cell? ⟨x.1, i, none⟩ = some v := by
  intro x hx
  have hx' : x ∈ [(1, shaK.map fun (n : Nat) => Value.int .u32 (n : Int))] := hx
  obtain rfl := List.mem_singleton.1 hx'
  have hc := k_cell h
  refine ⟨World.block_lt_of_cell? W ⟨1, 0, none⟩ (hc 0 (by omega)), fun i v hv => ?_⟩
  have hi : i < 64 := by
    rcases Nat.lt_or_ge i 64 with h | h
    · exact h
    · rw [List.getElem?_eq_none (by rw [List.length_map]; exact h)] at hv; cases hv
  have hl : i < shaK.length := hi
  rw [List.getElem?_map, List.getElem?_eq_getElem hl] at hv
  rw [hc i hi, ← hv]
  simp [List.getD_eq_getElem?_getD, List.getElem?_eq_getElem hl]
noncomputable def rdStr : Rd Tryz.prog 9 (List UInt8) := Rd.str (by kernel_rfl) (by kernel_rfl)
noncomputable def rdBool : Rd Tryz.prog 4 Bool := Rd.bool (by kernel_rfl) (by kernel_rfl)
noncomputable def rdInt : Rd Tryz.prog 3 Int := Rd.int (k := .i64) (by kernel_rfl) (by kernel_rfl)
noncomputable def rdStrs : Rd Tryz.prog 22 (List (List UInt8)) := Rd.slice (by kernel_rfl) (by kernel_rfl) rdStr rfl
noncomputable def rdIso {α β : Type} {T : TypeId} (r : Rd Tryz.prog T α) (g : α → β) (gi : β → α) (h : ∀ a, gi (g a) = a) (enc' : β → List SV) (he : ∀ a, enc' (g a) = r.enc a) (hl : ∀ b, (enc' b).length = r.sz) : Rd Tryz.prog T β :=
  r.as g (g r.dflt) enc' (fun b => r.good (gi b)) (fun b => r.bulk (gi b)) he hl (fun a ha => by rw [h]; exact ha) (fun a => by rw [h])
noncomputable def rdMb : Rd Tryz.prog 148 Mb :=
  rdIso (Rd.struct (tos := [(9, 0), (3, 1)]) (by kernel_rfl) (Fds.cons rdStr (Fds.cons rdInt Fds.nil)) (by kernel_rfl)) (fun x => ⟨x.1, x.2.1⟩) (fun m => (m.name, m.power, ())) (fun _ => rfl) mbC (fun _ => rfl) (fun _ => rfl)
noncomputable def rdMbs : Rd Tryz.prog 51 (List Mb) := Rd.slice (by kernel_rfl) (by kernel_rfl) rdMb rfl
noncomputable def rdTx : Rd Tryz.prog 53 Tx :=
  rdIso (Rd.struct (tos := [(3, 0), (9, 1), (3, 2), (9, 3), (3, 4), (9, 5), (9, 6), (51, 7)]) (by kernel_rfl)
    (Fds.cons rdInt (Fds.cons rdStr (Fds.cons rdInt (Fds.cons rdStr (Fds.cons rdInt (Fds.cons rdStr (Fds.cons rdStr (Fds.cons rdMbs Fds.nil)))))))) (by kernel_rfl))
    (fun x => ⟨x.1, x.2.1, x.2.2.1, x.2.2.2.1, x.2.2.2.2.1, x.2.2.2.2.2.1, x.2.2.2.2.2.2.1, x.2.2.2.2.2.2.2.1⟩) (fun x => (x.kind, x.from_, x.seq, x.to_, x.amount, x.key, x.value, x.members, ())) (fun _ => rfl) txC (fun _ => rfl) (fun _ => rfl)
noncomputable def rdTxs : Rd Tryz.prog 25 (List Tx) := Rd.slice (by kernel_rfl) (by kernel_rfl) rdTx rfl
end Go.Proofs.YtlfdhkahiaammaaGreatDoor
namespace Go.Proofs.YtlfdhkahiaammaaGreatDoor
open Go Go.Sse
set_option linter.unusedVariables false
set_option linter.unusedSimpArgs false
set_option maxRecDepth 10000
abbrev tTx : Nat := 53
theorem tname_ok (s : List UInt8) : FnC Tryz.prog 135 [str s] [] (fun v L => v = bool (nameB s) ∧ L = []) := by
  refine FnC.intro Tryz.func135 rfl Tryz.ntmps135 rfl fun Z w0 hG => ?_
  focus (
 (refine W.seq (W.region (Jx.assign rfl rfl (J.nil (N.seq (W.seq (W.region (Jx.move rfl rfl (Jx.neqS rfl rfl rfl (Jx.move rfl rfl ?_))))))))))
 (refine' J.guardAnd rfl rfl rfl rfl rfl rfl rfl rfl (fun _ => ?_) ?_; rotate_left)
 (refine J.gY rfl rfl rfl ?_)
 (refine Jx.move rfl rfl (J.gY rfl rfl rfl ?_))
 (refine Jx.lenS rfl rfl ?_)
 (refine J.gY rfl rfl rfl ?_)
 (refine Jx.leqI rfl rfl rfl (J.nil ?_))
 (refine N.joinedN rfl rfl rfl)
 (refine Jx.assign rfl rfl (J.nil (N.seq (W.ret ?_))))
 (refine id ?_; rotate_left))
  exact N.ret (rs := [.tmp 2]) rfl (.tmp rfl .nil) ⟨rfl, rfl⟩
theorem tbare_ok (x : Tx) : FnC Tryz.prog 134 [.agg (txC x)] [] (fun v L => v = bool (bareTx x) ∧ L = []) := by
  refine FnC.intro Tryz.func134 rfl Tryz.ntmps134 rfl fun Z w0 hG => ?_
  focus (
 (refine W.seq (W.region ?_))
 (refine J.boxAg rfl rfl ?_; intro b')
 (refine Jx.assign rfl rfl (J.nil (N.seq (W.seq (W.region (Jx.fieldAddr rfl rfl ?_))))))
 (refine Jx.load rfl 0 rfl rfl rfl ?_)
 (refine Jx.eqlS rfl rfl rfl (Jx.move rfl rfl ?_))
 (refine' J.guardAnd rfl rfl rfl rfl rfl rfl rfl rfl (fun _ => ?_) ?_; rotate_left)
 (refine J.gY rfl rfl rfl ?_)
 (refine Jx.fieldAddr rfl rfl ?_)
 (refine J.gY rfl rfl rfl ?_)
 (refine Jx.load rfl 0 rfl rfl rfl ?_)
 (refine J.gY rfl rfl rfl ?_)
 (refine Jx.eqlI rfl rfl rfl (J.nil ?_))
 (refine N.joinedN rfl rfl rfl)
 (refine Jx.assign rfl rfl (J.nil (N.seq (W.seq (W.region (Jx.fieldAddr rfl rfl ?_))))))
 (refine Jx.load rfl 0 rfl rfl rfl ?_)
 (refine Jx.eqlS rfl rfl rfl (Jx.move rfl rfl ?_))
 (refine' J.guardAnd rfl rfl rfl rfl rfl rfl rfl rfl (fun _ => ?_) ?_; rotate_left)
 (refine J.gY rfl rfl rfl ?_)
 (refine Jx.fieldAddr rfl rfl ?_)
 (refine J.gY rfl rfl rfl ?_)
 (refine Jx.load rfl 0 rfl rfl rfl ?_)
 (refine J.gY rfl rfl rfl ?_)
 (refine Jx.eqlS rfl rfl rfl (J.nil ?_))
 (refine N.joinedN rfl rfl rfl)
 (refine Jx.assign rfl rfl (J.nil (N.seq (W.seq (W.region (Jx.fieldAddr rfl rfl ?_))))))
 (refine Jx.load rfl 0 rfl rfl rfl ?_)
 (refine Jx.lenSl rfl rfl ?_)
 (refine Jx.eqlI rfl rfl rfl (Jx.assign rfl rfl (J.nil (N.seq (W.seq (W.seq (W.region (Jx.fieldAddr rfl rfl ?_))))))))
 (refine Jx.load rfl 0 rfl rfl rfl ?_)
 (refine J.nil (N.seq (W.block (W.seq (W.region (Jx.eqlI rfl rfl rfl (Jx.assign rfl rfl (J.nil (N.seq ?_)))))))))
 (refine id ?_; rotate_left))
  refine W.cond rfl (fun h1 => ?_) (fun h1 => ?_)
  · focus (
 (refine W.seq (W.region (Jx.move rfl rfl (Jx.move rfl rfl ?_))))
 (refine' J.guardAnd rfl rfl rfl rfl rfl rfl rfl rfl (fun _ => ?_) ?_; rotate_left)
 (refine J.gY rfl rfl rfl ?_)
 (refine Jx.move rfl rfl (J.nil ?_))
 (refine N.joinedN rfl rfl rfl)
 (refine Jx.assign rfl rfl (J.nil (N.seq (W.ret (N.blockRet (N.seqRet ?_))))))
 (refine id ?_; rotate_left))
    exact N.retD (rs := [.tmp 2]) (L1 := []) rfl (.tmp rfl .nil) (List.nil_sublist _) ⟨by rw [bareTx, if_pos (of_decide_eq_true h1)]; rfl, rfl⟩
  · have h1 := of_decide_eq_false h1
    focus (
 (refine W.seq (W.region (Jx.eqlI rfl rfl rfl (Jx.assign rfl rfl (J.nil (N.seq ?_))))))
 (refine id ?_; rotate_left))
    refine W.cond rfl (fun h2 => ?_) (fun h2 => ?_)
    · focus (
 (refine W.seq (W.region (Jx.move rfl rfl (Jx.move rfl rfl ?_))))
 (refine' J.guardAnd rfl rfl rfl rfl rfl rfl rfl rfl (fun _ => ?_) ?_; rotate_left)
 (refine J.gY rfl rfl rfl ?_)
 (refine Jx.move rfl rfl (J.nil ?_))
 (refine N.joinedN rfl rfl rfl)
 (refine Jx.assign rfl rfl (J.nil (N.seq (W.ret (N.blockRet (N.seqRet ?_))))))
 (refine id ?_; rotate_left))
      exact N.retD (rs := [.tmp 2]) (L1 := []) rfl (.tmp rfl .nil) (List.nil_sublist _) ⟨by rw [bareTx, if_neg h1, if_pos (of_decide_eq_true h2)]; rfl, rfl⟩
    · have h2 := of_decide_eq_false h2
      focus (
 (refine W.seq (W.region (Jx.eqlI rfl rfl rfl (Jx.assign rfl rfl (J.nil (N.seq ?_))))))
 (refine id ?_; rotate_left))
      refine W.cond rfl (fun h3 => ?_) (fun h3 => ?_)
      · focus (
 (refine W.seq (W.region (Jx.move rfl rfl (Jx.move rfl rfl ?_))))
 (refine' J.guardAnd rfl rfl rfl rfl rfl rfl rfl rfl (fun _ => ?_) ?_; rotate_left)
 (refine J.gY rfl rfl rfl ?_)
 (refine Jx.move rfl rfl (J.nil ?_))
 (refine N.joinedN rfl rfl rfl)
 (refine Jx.move rfl rfl ?_)
 (refine' J.guardAnd rfl rfl rfl rfl rfl rfl rfl rfl (fun _ => ?_) ?_; rotate_left)
 (refine J.gY rfl rfl rfl ?_)
 (refine Jx.fieldAddr rfl rfl ?_)
 (refine J.gY rfl rfl rfl ?_)
 (refine Jx.load rfl 0 rfl rfl rfl ?_)
 (refine J.gY rfl rfl rfl ?_)
 (refine Jx.eqlS rfl rfl rfl (J.nil ?_))
 (refine N.joinedN rfl rfl rfl)
 (refine Jx.assign rfl rfl (J.nil (N.seq (W.ret (N.blockRet (N.seqRet ?_))))))
 (refine id ?_; rotate_left))
        exact N.retD (rs := [.tmp 2]) (L1 := []) rfl (.tmp rfl .nil) (List.nil_sublist _) ⟨by rw [bareTx, if_neg h1, if_neg h2, if_pos (of_decide_eq_true h3)]; rfl, rfl⟩
      · have h3 := of_decide_eq_false h3
        focus (
 (refine W.seq (W.region (Jx.eqlI rfl rfl rfl (Jx.assign rfl rfl (J.nil (N.seq ?_))))))
 (refine id ?_; rotate_left))
        refine W.cond rfl (fun h4 => ?_) (fun h4 => ?_)
        · focus (
 (refine W.seq (W.region (Jx.move rfl rfl (Jx.move rfl rfl ?_))))
 (refine' J.guardAnd rfl rfl rfl rfl rfl rfl rfl rfl (fun _ => ?_) ?_; rotate_left)
 (refine J.gY rfl rfl rfl ?_)
 (refine Jx.move rfl rfl (J.nil ?_))
 (refine N.joinedN rfl rfl rfl)
 (refine Jx.assign rfl rfl (J.nil (N.seq (W.ret (N.blockRet (N.seqRet ?_))))))
 (refine id ?_; rotate_left))
          exact N.retD (rs := [.tmp 2]) (L1 := []) rfl (.tmp rfl .nil) (List.nil_sublist _) ⟨by rw [bareTx, if_neg h1, if_neg h2, if_neg h3, if_pos (of_decide_eq_true h4)]; rfl, rfl⟩
        · have h4 := of_decide_eq_false h4
          focus (
 (refine W.skip (N.seq (W.seq (W.region (Jx.assign rfl rfl (J.nil (N.seq (W.ret ?_))))))))
 (refine id ?_; rotate_left))
          exact N.retD (rs := [.tmp 2]) (L1 := []) rfl (.tmp rfl .nil) (List.nil_sublist _) ⟨by rw [bareTx, if_neg h1, if_neg h2, if_neg h3, if_neg h4]; rfl, rfl⟩
theorem codeB_zero (b : Bool) (e : Int) (he : e ≠ 0) : decide (codeB b e = 0) = b := by cases b <;> simp [he]
set_option maxHeartbeats 1000000 in
theorem tcheck_ok (x : Tx) : FnC Tryz.prog 111 [.agg (txC x)] [] (fun v L => v = int (codeB (fineTx x) 150) ∧ L = []) := by
  have cb := tbare_ok x
  have cn := tname_ok x.from_
  have cn2 := tname_ok x.to_
  have cm := pcheck_ok x.members
  have hz := codeB_zero (fineSet x.members) 50 (by decide)
  refine FnC.intro Tryz.func111 rfl Tryz.ntmps111 rfl fun Z w0 hG => ?_
  focus (
 (refine W.seq (W.region ?_))
 (refine J.boxAg rfl rfl ?_; intro b')
 (refine Jx.assign rfl rfl (J.nil (N.seq (W.seq (W.seq (W.region (Jx.loadAll rfl 0 rfl rfl rfl ?_)))))))
 (refine J.call (cb) rfl (evs_args rfl) rfl ?_; rintro _ _ ⟨rfl, rfl⟩; simp only [la1, la2, la3])
 (refine Jx.not rfl rfl (Jx.move rfl rfl ?_))
 (refine' J.guardOr rfl rfl rfl rfl rfl rfl rfl rfl (fun _ => ?_) ?_; rotate_left)
 (refine J.gY rfl rfl rfl ?_)
 (refine Jx.fieldAddr rfl rfl ?_)
 (refine J.gY rfl rfl rfl ?_)
 (refine Jx.load rfl 0 rfl rfl rfl ?_)
 (refine J.gY rfl rfl rfl ?_)
 (refine J.call (cn) rfl (evs_args rfl) rfl ?_; rintro _ _ ⟨rfl, rfl⟩; simp only [la1, la2, la3])
 (refine J.gY rfl rfl rfl ?_)
 (refine Jx.not rfl rfl (J.nil ?_))
 (refine N.joinedN rfl rfl rfl)
 (refine Jx.move rfl rfl ?_)
 (refine' J.guardOr rfl rfl rfl rfl rfl rfl rfl rfl (fun _ => ?_) ?_; rotate_left)
 (refine J.gY rfl rfl rfl ?_)
 (refine Jx.fieldAddr rfl rfl ?_)
 (refine J.gY rfl rfl rfl ?_)
 (refine Jx.load rfl 0 rfl rfl rfl ?_)
 (refine J.gY rfl rfl rfl ?_)
 (refine Jx.lssI rfl rfl rfl (J.nil ?_))
 (refine N.joinedN rfl rfl rfl)
 (refine Jx.move rfl rfl ?_)
 (refine' J.guardOr rfl rfl rfl rfl rfl rfl rfl rfl (fun _ => ?_) ?_; rotate_left)
 (refine J.gY rfl rfl rfl ?_)
 (refine Jx.fieldAddr rfl rfl ?_)
 (refine J.gY rfl rfl rfl ?_)
 (refine Jx.load rfl 0 rfl rfl rfl ?_)
 (refine J.gY rfl rfl rfl ?_)
 (refine Jx.gtrI rfl rfl rfl (J.nil ?_))
 (refine N.joinedN rfl rfl rfl)
 (refine J.nil (N.seq ?_))
 (refine id ?_; rotate_left))
  refine W.cond rfl (fun hb => ?_) (fun hb => ?_)
  · have hf : fineTx x = false := by rw [fineTx, show badTx x = true from hb]; rfl
    rw [hf]
    focus (
 (refine W.seq (W.region (Jx.assign rfl rfl (J.nil (N.seq (W.ret (N.seqRet ?_)))))))
 (refine id ?_; rotate_left))
    exact N.retD (rs := [.tmp 2]) (L1 := []) rfl (.tmp rfl .nil) (List.nil_sublist _) ⟨rfl, rfl⟩
  · have hf : fineTx x = kindTx x := by rw [fineTx, show badTx x = false from hb]; rfl
    rw [hf]
    clear hb
    focus (
 (refine W.skip (N.seq (W.seq (W.region (Jx.assign rfl rfl (J.nil (N.seq (W.seq (W.seq (W.region (Jx.fieldAddr rfl rfl ?_)))))))))))
 (refine Jx.load rfl 0 rfl rfl rfl ?_)
 (refine J.nil (N.seq ?_))
 (refine id ?_; rotate_left))
    refine W.joinE (α := Unit) (fun _ => [(2, int 0), (3, bool (kindTx x))]) (fun _ => [.obj b' tTx (txC x)]) (fun _ => True) ?_ ?_
    · by_cases h1 : x.kind = 1
      · focus (
 (refine W.block (W.seq (W.block (W.seq (W.block (W.seq (W.block (W.seq (W.block (W.seq (W.seq (W.seq (W.region (Jx.eqlI rfl rfl rfl ?_))))))))))))))
 (refine Jx.assign rfl rfl (J.nil (N.seq (W.cT rfl ?_))))
 (refine W.exit (N.seq (W.seq (W.region (Jx.fieldAddr rfl rfl ?_)))))
 (refine Jx.load rfl 0 rfl rfl rfl ?_)
 (refine J.call (cn2) rfl (evs_args rfl) rfl ?_; rintro _ _ ⟨rfl, rfl⟩; simp only [la1, la2, la3])
 (refine Jx.move rfl rfl ?_)
 (refine' J.guardAnd rfl rfl rfl rfl rfl rfl rfl rfl (fun _ => ?_) ?_; rotate_left)
 (refine J.gY rfl rfl rfl ?_)
 (refine Jx.fieldAddr rfl rfl ?_)
 (refine J.gY rfl rfl rfl ?_)
 (refine Jx.load rfl 0 rfl rfl rfl ?_)
 (refine J.gY rfl rfl rfl ?_)
 (refine Jx.geqI rfl rfl rfl (J.nil ?_))
 (refine N.joinedN rfl rfl rfl)
 (refine Jx.move rfl rfl ?_)
 (refine' J.guardAnd rfl rfl rfl rfl rfl rfl rfl rfl (fun _ => ?_) ?_; rotate_left)
 (refine J.gY rfl rfl rfl ?_)
 (refine Jx.fieldAddr rfl rfl ?_)
 (refine J.gY rfl rfl rfl ?_)
 (refine Jx.load rfl 0 rfl rfl rfl ?_)
 (refine J.gY rfl rfl rfl ?_)
 (refine Jx.leqI rfl rfl rfl (J.nil ?_))
 (refine N.joinedN rfl rfl rfl)
 (refine Jx.assign rfl rfl (J.nil (N.seq (W.exit (N.blockOther rfl ?_)))))
 (refine N.seqExit (N.blockOther rfl ?_))
 (refine N.seqExit (N.blockOther rfl ?_))
 (refine N.seqExit (N.blockHere ?_))
 (refine id ?_; rotate_left))
        exact N.joinE () trivial rfl ⟨ref0 rfl, ⟨_, rfl, Sub.of_eq (by rw [kindTx, if_pos h1]; rfl)⟩, trivial⟩
      · by_cases h2 : x.kind = 2
        · focus (
 (refine W.block (W.seq (W.block (W.seq (W.block (W.seq (W.block (W.seq (W.block (W.seq (W.seq (W.seq (W.region (Jx.eqlI rfl rfl rfl ?_))))))))))))))
 (refine Jx.assign rfl rfl (J.nil (N.seq (W.cF rfl ?_))))
 (refine W.skip (N.seq (W.seq (W.seq (W.region (Jx.eqlI rfl rfl rfl (Jx.assign rfl rfl (J.nil (N.seq (W.cT rfl ?_))))))))))
 (refine W.exit (N.seq (W.region (Jx.fieldAddr rfl rfl ?_))))
 (refine Jx.load rfl 0 rfl rfl rfl ?_)
 (refine Jx.neqS rfl rfl rfl (Jx.move rfl rfl ?_))
 (refine' J.guardAnd rfl rfl rfl rfl rfl rfl rfl rfl (fun _ => ?_) ?_; rotate_left)
 (refine J.gY rfl rfl rfl ?_)
 (refine Jx.fieldAddr rfl rfl ?_)
 (refine J.gY rfl rfl rfl ?_)
 (refine Jx.load rfl 0 rfl rfl rfl ?_)
 (refine J.gY rfl rfl rfl ?_)
 (refine Jx.lenS rfl rfl ?_)
 (refine J.gY rfl rfl rfl ?_)
 (refine Jx.leqI rfl rfl rfl (J.nil ?_))
 (refine N.joinedN rfl rfl rfl)
 (refine Jx.assign rfl rfl (J.nil (N.seq (W.seq (W.region (Jx.move rfl rfl (Jx.move rfl rfl ?_)))))))
 (refine' J.guardAnd rfl rfl rfl rfl rfl rfl rfl rfl (fun _ => ?_) ?_; rotate_left)
 (refine J.gY rfl rfl rfl ?_)
 (refine Jx.fieldAddr rfl rfl ?_)
 (refine J.gY rfl rfl rfl ?_)
 (refine Jx.load rfl 0 rfl rfl rfl ?_)
 (refine J.gY rfl rfl rfl ?_)
 (refine Jx.neqS rfl rfl rfl (J.nil ?_))
 (refine N.joinedN rfl rfl rfl)
 (refine Jx.move rfl rfl ?_)
 (refine' J.guardAnd rfl rfl rfl rfl rfl rfl rfl rfl (fun _ => ?_) ?_; rotate_left)
 (refine J.gY rfl rfl rfl ?_)
 (refine Jx.fieldAddr rfl rfl ?_)
 (refine J.gY rfl rfl rfl ?_)
 (refine Jx.load rfl 0 rfl rfl rfl ?_)
 (refine J.gY rfl rfl rfl ?_)
 (refine Jx.lenS rfl rfl ?_)
 (refine J.gY rfl rfl rfl ?_)
 (refine Jx.leqI rfl rfl rfl (J.nil ?_))
 (refine N.joinedN rfl rfl rfl)
 (refine Jx.assign rfl rfl (J.nil (N.seq (W.exit (N.blockOther rfl ?_)))))
 (refine N.seqExit (N.blockHere ?_))
 (refine id ?_; rotate_left))
          exact N.joinE () trivial rfl ⟨ref0 rfl, ⟨_, rfl, Sub.of_eq (by rw [kindTx, if_neg h1, if_pos h2]; rfl)⟩, trivial⟩
        · by_cases h3 : x.kind = 3
          · focus (
 (refine W.block (W.seq (W.block (W.seq (W.block (W.seq (W.block (W.seq (W.block (W.seq (W.seq (W.seq (W.region (Jx.eqlI rfl rfl rfl ?_))))))))))))))
 (refine Jx.assign rfl rfl (J.nil (N.seq (W.cF rfl ?_))))
 (refine W.skip (N.seq (W.seq (W.seq (W.region (Jx.eqlI rfl rfl rfl (Jx.assign rfl rfl (J.nil (N.seq (W.cF rfl ?_))))))))))
 (refine W.skip (N.seq (W.seq (W.region (Jx.eqlI rfl rfl rfl (Jx.assign rfl rfl (J.nil (N.seq (W.cT rfl ?_)))))))))
 (refine W.exit (N.seq (W.seq (W.region (Jx.move rfl rfl (Jx.move rfl rfl (J.gY rfl rfl rfl ?_)))))))
 (refine Jx.fieldAddr rfl rfl ?_)
 (refine J.gY rfl rfl rfl ?_)
 (refine Jx.load rfl 0 rfl rfl rfl ?_)
 (refine J.gY rfl rfl rfl ?_)
 (refine Jx.neqS rfl rfl rfl (Jx.pT rfl rfl rfl ?_))
 (refine Jx.move rfl rfl ?_)
 (refine' J.guardAnd rfl rfl rfl rfl rfl rfl rfl rfl (fun _ => ?_) ?_; rotate_left)
 (refine J.gY rfl rfl rfl ?_)
 (refine Jx.fieldAddr rfl rfl ?_)
 (refine J.gY rfl rfl rfl ?_)
 (refine Jx.load rfl 0 rfl rfl rfl ?_)
 (refine J.gY rfl rfl rfl ?_)
 (refine Jx.lenS rfl rfl ?_)
 (refine J.gY rfl rfl rfl ?_)
 (refine Jx.leqI rfl rfl rfl (J.nil ?_))
 (refine N.joinedN rfl rfl rfl)
 (refine Jx.assign rfl rfl (J.nil (N.seq (W.exit (N.blockOther rfl ?_)))))
 (refine N.seqExit (N.blockHere ?_))
 (refine id ?_; rotate_left))
            exact N.joinE () trivial rfl ⟨ref0 rfl, ⟨_, rfl, Sub.of_eq (by rw [kindTx, if_neg h1, if_neg h2, if_pos h3]; rfl)⟩, trivial⟩
          · focus (
 (refine W.block (W.seq (W.block (W.seq (W.block (W.seq (W.block (W.seq (W.block (W.seq (W.seq (W.seq (W.region (Jx.eqlI rfl rfl rfl ?_))))))))))))))
 (refine Jx.assign rfl rfl (J.nil (N.seq (W.cF rfl ?_))))
 (refine W.skip (N.seq (W.seq (W.seq (W.region (Jx.eqlI rfl rfl rfl (Jx.assign rfl rfl (J.nil (N.seq (W.cF rfl ?_))))))))))
 (refine W.skip (N.seq (W.seq (W.region (Jx.eqlI rfl rfl rfl (Jx.assign rfl rfl (J.nil (N.seq (W.cF rfl ?_)))))))))
 (refine W.skip (N.seq (W.exit (N.seq (W.seq (W.region (Jx.fieldAddr rfl rfl ?_)))))))
 (refine Jx.load rfl 0 rfl rfl rfl ?_)
 (refine J.call (cm) rfl (evs_args rfl) rfl ?_; rintro _ _ ⟨rfl, rfl⟩; simp only [la1, la2, la3])
 (refine Jx.eqlI rfl rfl rfl (Jx.assign rfl rfl (J.nil (N.seq (W.exit (N.blockHere ?_))))))
 (refine id ?_; rotate_left))
            exact N.joinE () trivial rfl ⟨ref0 rfl, ⟨_, rfl, Sub.of_eq (by rw [kindTx, if_neg h1, if_neg h2, if_neg h3]; exact congrArg bool hz)⟩, trivial⟩
    · intro _ _
      cases hk : kindTx x
      · focus (
 (refine N.seq (W.seq (W.seq (W.region (Jx.move rfl rfl (Jx.not rfl rfl (J.nil (N.seq (W.cT rfl ?_)))))))))
 (refine W.seq (W.region (Jx.assign rfl rfl (J.nil (N.seq (W.ret (N.seqRet ?_)))))))
 (refine id ?_; rotate_left))
        exact N.retD (rs := [.tmp 2]) (L1 := []) rfl (.tmp rfl .nil) (List.nil_sublist _) ⟨rfl, rfl⟩
      · focus (
 (refine N.seq (W.seq (W.seq (W.region (Jx.move rfl rfl (Jx.not rfl rfl (J.nil (N.seq (W.cF rfl ?_)))))))))
 (refine W.skip (N.seq (W.seq (W.region (Jx.assign rfl rfl (J.nil (N.seq (W.ret ?_))))))))
 (refine id ?_; rotate_left))
        exact N.retD (rs := [.tmp 2]) (L1 := []) rfl (.tmp rfl .nil) (List.nil_sublist _) ⟨rfl, rfl⟩
set_option maxHeartbeats 1000000 in
theorem tencode_ok (x : Tx) : FnC Tryz.prog 68 [.agg (txC x)] [] (fun v L => v = .tup [str (encO fineTx encTx x), int (codeB (fineTx x) 150)] ∧ L = []) := by
  have c0 := tcheck_ok x
  refine FnC.intro Tryz.func68 rfl Tryz.ntmps68 rfl fun Z w0 hG => ?_
  unfold encO
  cases hf : fineTx x with
  | false =>
    rw [hf] at c0
    focus (
 (refine W.seq (W.region ?_))
 (refine J.boxAg rfl rfl ?_; intro b')
 (refine Jx.assign rfl rfl (Jx.assign rfl rfl (J.nil (N.seq (W.seq (W.seq (W.region (Jx.loadAll rfl 0 rfl rfl rfl ?_))))))))
 (refine J.call (c0) rfl (evs_args rfl) rfl ?_; rintro _ _ ⟨rfl, rfl⟩; simp only [la1, la2, la3])
 (refine Jx.assign rfl rfl (J.nil (N.seq (W.seq (W.region (Jx.move rfl rfl (Jx.neqI rfl rfl rfl (J.nil (N.seq (W.cT rfl ?_))))))))))
 (refine W.seq (W.region (Jx.move rfl rfl (Jx.assign rfl rfl (Jx.assign rfl rfl (J.nil (N.seq (W.ret (N.seqRet ?_)))))))))
 (refine id ?_; rotate_left))
    exact N.retD (rs := [.tmp 2, .tmp 3]) (L1 := []) rfl (.tmp rfl (.tmp rfl .nil)) (List.nil_sublist _) ⟨rfl, rfl⟩
  | true =>
    rw [hf] at c0
    have hF := (fineTx_iff x).1 hf
    have hk := hF.kind
    have f6 := hF.from6
    have fs0 := hF.seq0
    have fsM := hF.seqM
    have c1 := Num_ok x.seq (by omega)
    rw [numR_pos fs0] at c1
    have l1 := numB9 fsM
    have c2 := text_ok x.from_ (by omega)
    have l2 := textB_len f6 (by omega)
    have hkn : x.kind = ((x.kind.toNat : Nat) : Int) := by omega
    have he : encTx x = [UInt8.ofNat x.kind.toNat] ++ textB x.from_ ++ numB x.seq.toNat ++ bodyTx x := rfl
    rw [if_pos rfl, he]
    generalize textB x.from_ = tf at *
    generalize numB x.seq.toNat = nq at *
    focus (
 (refine W.seq (W.region ?_))
 (refine J.boxAg rfl rfl ?_; intro b')
 (refine Jx.assign rfl rfl (Jx.assign rfl rfl (J.nil (N.seq (W.seq (W.seq (W.region (Jx.loadAll rfl 0 rfl rfl rfl ?_))))))))
 (refine J.call (c0) rfl (evs_args rfl) rfl ?_; rintro _ _ ⟨rfl, rfl⟩; simp only [la1, la2, la3])
 (refine Jx.assign rfl rfl (J.nil (N.seq (W.seq (W.region (Jx.move rfl rfl (Jx.neqI rfl rfl rfl (J.nil (N.seq (W.cF rfl ?_))))))))))
 (refine W.skip (N.seq (W.seq (W.region (Jx.fieldAddr rfl rfl ?_)))))
 (refine Jx.load rfl 0 rfl rfl rfl ?_)
 (refine J.call (c1) rfl (evs_args rfl) rfl ?_; rintro _ _ ⟨rfl, rfl⟩; simp only [la1, la2, la3])
 (refine Jx.move rfl rfl (Jx.extract rfl rfl rfl ?_))
 (refine Jx.extract rfl rfl rfl ?_)
 (refine Jx.assign rfl rfl (Jx.assign rfl rfl (J.nil (N.seq (W.seq ?_)))))
 (refine W.draw follows ?_)
 (refine JD.calm rfl (by decide +kernel) ?_)
 (refine Cx.fieldAddr rfl rfl ?_)
 (refine Cx.load rfl 0 rfl rfl rfl ?_)
 (refine Cx.numByte x.kind.toNat rfl rfl hkn rfl ?_)
 (refine SegC.q (Qs.buildBytes [UInt8.ofNat x.kind.toNat] rfl rfl rfl (by decide) (by decide)) rfl ?_)
 (refine Cx.bytesStr rfl rfl ?_)
 (refine Cx.fieldAddr rfl rfl ?_)
 (refine Cx.load rfl 0 rfl rfl rfl ?_)
 (refine SegC.q (Qs.call (Lc := []) (c2) (fun s L' h => h) (List.Perm.refl _) (evs_args rfl)) rfl ?_)
 (refine Cx.cat rfl rfl (by first | omega | (simp only [List.length_append, List.length_cons, List.length_nil]; omega)) rfl ?_)
 (refine Cx.move rfl rfl ?_)
 (refine Cx.cat rfl rfl (by first | omega | (simp only [List.length_append, List.length_cons, List.length_nil]; omega)) rfl ?_)
 (refine Cx.assign rfl rfl ?_)
 (refine SegC.nil ?_)
 (refine N.seq (W.seq (W.seq (W.region (Jx.fieldAddr rfl rfl ?_)))))
 (refine Jx.load rfl 0 rfl rfl rfl ?_)
 (refine J.nil (N.seq (W.block (W.seq (W.region (Jx.eqlI rfl rfl rfl (Jx.assign rfl rfl (J.nil (N.seq ?_)))))))))
 (refine id ?_; rotate_left))
    refine W.cond rfl (fun h1 => ?_) (fun h1 => ?_)
    · have h1 := of_decide_eq_true h1
      obtain ⟨⟨a1, a2, a3, a4⟩, _⟩ := hF.k1 h1
      have hb : bodyTx x = textB x.to_ ++ numB x.amount.toNat := by rw [bodyTx, if_pos h1]
      have c3 := Num_ok x.amount (by omega)
      rw [numR_pos (by omega)] at c3
      have c4 := text_ok x.to_ (by omega)
      have l3 := numB9 a4
      have l4 := textB_len a2 (by omega)
      rw [hb]
      generalize textB x.to_ = tt at *
      generalize numB x.amount.toNat = na at *
      focus (
 (refine W.seq (W.region (Jx.fieldAddr rfl rfl ?_)))
 (refine Jx.load rfl 0 rfl rfl rfl ?_)
 (refine J.call (c3) rfl (evs_args rfl) rfl ?_; rintro _ _ ⟨rfl, rfl⟩; simp only [la1, la2, la3])
 (refine Jx.move rfl rfl (Jx.extract rfl rfl rfl ?_))
 (refine Jx.extract rfl rfl rfl ?_)
 (refine Jx.assign rfl rfl (Jx.assign rfl rfl (J.nil (N.seq (W.region (Jx.move rfl rfl (Jx.fieldAddr rfl rfl ?_)))))))
 (refine Jx.load rfl 0 rfl rfl rfl ?_)
 (refine J.call (c4) rfl (evs_args rfl) rfl ?_; rintro _ _ ⟨rfl, rfl⟩; simp only [la1, la2, la3])
 (refine Jx.move rfl rfl (Jx.cat rfl rfl (by first | omega | (simp only [List.length_append, List.length_cons, List.length_nil]; omega)) rfl ?_))
 (refine Jx.cat rfl rfl (by first | omega | (simp only [List.length_append, List.length_cons, List.length_nil]; omega)) rfl ?_)
 (refine Jx.assign rfl rfl (J.nil (N.seq (W.seq (W.region (Jx.move rfl rfl (Jx.assign rfl rfl (Jx.assign rfl rfl (J.nil (N.seq (W.ret ?_)))))))))))
 (refine id ?_; rotate_left))
      exact N.retD (rs := [.tmp 2, .tmp 3]) (L1 := []) rfl (.tmp rfl (.tmp rfl .nil)) (List.nil_sublist _) ⟨rfl, rfl⟩
    · have h1 := of_decide_eq_false h1
      focus (
 (refine W.seq (W.region (Jx.eqlI rfl rfl rfl (Jx.assign rfl rfl (J.nil (N.seq ?_))))))
 (refine id ?_; rotate_left))
      refine W.cond rfl (fun h2 => ?_) (fun h2 => ?_)
      · have h2 := of_decide_eq_true h2
        obtain ⟨⟨a1, a2, a3, a4⟩, _⟩ := hF.k2 h2
        have hb : bodyTx x = textB x.key ++ textB x.value := by rw [bodyTx, if_neg h1, if_pos h2]
        have c3 := text_ok x.key (by omega)
        have c4 := text_ok x.value (by omega)
        have l3 := textB_len a2 (by omega)
        have l4 := textB_len a4 (by omega)
        rw [hb]
        generalize textB x.key = tt at *
        generalize textB x.value = na at *
        focus (
 (refine W.draw follows ?_)
 (refine JD.calm rfl (by decide +kernel) ?_)
 (refine Cx.move rfl rfl ?_)
 (refine Cx.fieldAddr rfl rfl ?_)
 (refine Cx.load rfl 0 rfl rfl rfl ?_)
 (refine SegC.q (Qs.call (Lc := []) (c3) (fun s L' h => h) (List.Perm.refl _) (evs_args rfl)) rfl ?_)
 (refine Cx.fieldAddr rfl rfl ?_)
 (refine Cx.load rfl 0 rfl rfl rfl ?_)
 (refine SegC.q (Qs.call (Lc := []) (c4) (fun s L' h => h) (List.Perm.refl _) (evs_args rfl)) rfl ?_)
 (refine Cx.cat rfl rfl (by first | omega | (simp only [List.length_append, List.length_cons, List.length_nil]; omega)) rfl ?_)
 (refine Cx.cat rfl rfl (by first | omega | (simp only [List.length_append, List.length_cons, List.length_nil]; omega)) rfl ?_)
 (refine Cx.assign rfl rfl ?_)
 (refine SegC.nil ?_)
 (refine N.seq (W.seq (W.region (Jx.move rfl rfl (Jx.assign rfl rfl (Jx.assign rfl rfl (J.nil (N.seq (W.ret ?_)))))))))
 (refine id ?_; rotate_left))
        exact N.retD (rs := [.tmp 2, .tmp 3]) (L1 := []) rfl (.tmp rfl (.tmp rfl .nil)) (List.nil_sublist _) ⟨rfl, rfl⟩
      · have h2 := of_decide_eq_false h2
        focus (
 (refine W.seq (W.region (Jx.eqlI rfl rfl rfl (Jx.assign rfl rfl (J.nil (N.seq ?_))))))
 (refine id ?_; rotate_left))
        refine W.cond rfl (fun h3 => ?_) (fun h3 => ?_)
        · have h3 := of_decide_eq_true h3
          obtain ⟨⟨a1, a2⟩, _⟩ := hF.k3 h3
          have hb : bodyTx x = textB x.key := by rw [bodyTx, if_neg h1, if_neg h2, if_pos h3]
          have c3 := text_ok x.key (by omega)
          have l3 := textB_len a2 (by omega)
          rw [hb]
          generalize textB x.key = tt at *
          focus (
 (refine W.region (Jx.move rfl rfl (Jx.fieldAddr rfl rfl ?_)))
 (refine Jx.load rfl 0 rfl rfl rfl ?_)
 (refine J.call (c3) rfl (evs_args rfl) rfl ?_; rintro _ _ ⟨rfl, rfl⟩; simp only [la1, la2, la3])
 (refine Jx.cat rfl rfl (by first | omega | (simp only [List.length_append, List.length_cons, List.length_nil]; omega)) rfl ?_)
 (refine Jx.assign rfl rfl (J.nil (N.seq (W.seq (W.region (Jx.move rfl rfl (Jx.assign rfl rfl (Jx.assign rfl rfl (J.nil (N.seq (W.ret ?_)))))))))))
 (refine id ?_; rotate_left))
          exact N.retD (rs := [.tmp 2, .tmp 3]) (L1 := []) rfl (.tmp rfl (.tmp rfl .nil)) (List.nil_sublist _) ⟨rfl, rfl⟩
        · have h3 := of_decide_eq_false h3
          have h4 : x.kind = 4 := by omega
          have a1 := (hF.k4 h4).1
          have hb : bodyTx x = textB (encSet x.members) := by rw [bodyTx, if_neg h1, if_neg h2, if_neg h3]
          have c3 := pencode_ok x.members
          rw [a1, encO, if_pos a1] at c3
          have hl := encSet_len a1
          have c4 := text_ok (encSet x.members) (by omega)
          have l3 := textB_len hl (by omega)
          rw [hb]
          generalize textB (encSet x.members) = tt at *
          generalize encSet x.members = es at *
          focus (
 (refine W.seq (W.region (Jx.eqlI rfl rfl rfl (Jx.assign rfl rfl (J.nil (N.seq (W.cT rfl ?_)))))))
 (refine W.seq (W.region (Jx.fieldAddr rfl rfl ?_)))
 (refine Jx.load rfl 0 rfl rfl rfl ?_)
 (refine J.call (c3) rfl (evs_args rfl) rfl ?_; rintro _ _ ⟨rfl, rfl⟩; simp only [la1, la2, la3])
 (refine Jx.move rfl rfl (Jx.extract rfl rfl rfl ?_))
 (refine Jx.extract rfl rfl rfl ?_)
 (refine Jx.assign rfl rfl (Jx.assign rfl rfl (J.nil (N.seq (W.region (Jx.move rfl rfl (Jx.move rfl rfl ?_)))))))
 (refine J.call (c4) rfl (evs_args rfl) rfl ?_; rintro _ _ ⟨rfl, rfl⟩; simp only [la1, la2, la3])
 (refine Jx.cat rfl rfl (by first | omega | (simp only [List.length_append, List.length_cons, List.length_nil]; omega)) rfl ?_)
 (refine Jx.assign rfl rfl (J.nil (N.seq (W.seq (W.region (Jx.move rfl rfl (Jx.assign rfl rfl (Jx.assign rfl rfl (J.nil (N.seq (W.ret ?_)))))))))))
 (refine id ?_; rotate_left))
          exact N.retD (rs := [.tmp 2, .tmp 3]) (L1 := []) rfl (.tmp rfl (.tmp rfl .nil)) (List.nil_sublist _) ⟨rfl, rfl⟩
end Go.Proofs.YtlfdhkahiaammaaGreatDoor
namespace Go.Proofs.YtlfdhkahiaammaaGreatDoor
open Go Go.Sse
set_option linter.unusedVariables false
set_option linter.unusedSimpArgs false
set_option maxRecDepth 10000
theorem nameB_iff (s : List UInt8) : nameB s = true ↔ 1 ≤ s.length ∧ s.length ≤ 6 := by
  cases s <;> simp [nameB] <;> omega
theorem rname_ok (s : List UInt8) : FnC Tryz.prog 99 [str s] [] (fun v L => v = bool (nameB s) ∧ L = []) := by
  refine FnC.intro Tryz.func99 rfl Tryz.ntmps99 rfl fun Z w0 hG => ?_
  focus (
 (refine W.seq (W.region (Jx.assign rfl rfl (J.nil (N.seq (W.seq (W.region (Jx.move rfl rfl (Jx.lenS rfl rfl ?_)))))))))
 (refine Jx.geqI rfl rfl rfl (Jx.move rfl rfl ?_))
 (refine' J.guardAnd rfl rfl rfl rfl rfl rfl rfl rfl (fun _ => ?_) ?_; rotate_left)
 (refine J.gY rfl rfl rfl ?_)
 (refine Jx.move rfl rfl (J.gY rfl rfl rfl ?_))
 (refine Jx.lenS rfl rfl ?_)
 (refine J.gY rfl rfl rfl ?_)
 (refine Jx.leqI rfl rfl rfl (J.nil ?_))
 (refine N.joinedN rfl rfl rfl)
 (refine Jx.assign rfl rfl (J.nil (N.seq (W.ret ?_))))
 (refine id ?_; rotate_left))
  refine N.ret (rs := [.tmp 2]) rfl (.tmp rfl .nil) ⟨congrArg Sse.bool ?_, rfl⟩
  rw [Bool.eq_iff_iff, nameB_iff]
  simp only [Bool.and_eq_true, decide_eq_true_eq]
  omega
theorem fineTx_off (x : Tx) (h : nameB x.from_ = false ∨ x.seq < 0 ∨ 1099511627776 < x.seq) : fineTx x = false := by
  have : badTx x = true := by
    simp only [badTx, Bool.or_eq_true, Bool.not_eq_true', decide_eq_true_eq]
    rcases h with h | h | h
    · exact .inl (.inl (.inr h))
    · exact .inl (.inr h)
    · exact .inr h
  rw [fineTx, this]; rfl
theorem fineTx_on (x : Tx) (h1 : nameB x.from_ = true) (h2 : ¬ x.seq < 0) (h3 : ¬ 1099511627776 < x.seq) : fineTx x = (bareTx x && kindTx x) := by
  have : badTx x = !bareTx x := by simp only [badTx, h1, decide_eq_false h2, decide_eq_false h3, Bool.not_true, Bool.or_false]
  rw [fineTx, this, Bool.not_not]
set_option maxHeartbeats 4000000 in
theorem rtfine_ok (x : Tx) : FnC Tryz.prog 113 [.agg (txC x)] [] (fun v L => v = bool (fineTx x) ∧ L = []) := by
  have cn := rname_ok x.from_
  have cn2 := rname_ok x.to_
  have cm := rpcheck_ok x.members
  have hz := codeB_zero (fineSet x.members) 50 (by decide)
  refine FnC.intro Tryz.func113 rfl Tryz.ntmps113 rfl fun Z w0 hG => ?_
  focus (
 (refine W.seq (W.region ?_))
 (refine J.boxAg rfl rfl ?_; intro b')
 (refine Jx.assign rfl rfl (J.nil (N.seq (W.seq (W.seq (W.region (Jx.fieldAddr rfl rfl ?_)))))))
 (refine Jx.load rfl 0 rfl rfl rfl ?_)
 (refine J.call (cn) rfl (evs_args rfl) rfl ?_; rintro _ _ ⟨rfl, rfl⟩; simp only [la1, la2, la3])
 (refine Jx.not rfl rfl (Jx.move rfl rfl ?_))
 (refine' J.guardOr rfl rfl rfl rfl rfl rfl rfl rfl (fun _ => ?_) ?_; rotate_left)
 (refine J.gY rfl rfl rfl ?_)
 (refine Jx.fieldAddr rfl rfl ?_)
 (refine J.gY rfl rfl rfl ?_)
 (refine Jx.load rfl 0 rfl rfl rfl ?_)
 (refine J.gY rfl rfl rfl ?_)
 (refine Jx.lssI rfl rfl rfl (J.nil ?_))
 (refine N.joinedN rfl rfl rfl)
 (refine Jx.move rfl rfl ?_)
 (refine' J.guardOr rfl rfl rfl rfl rfl rfl rfl rfl (fun _ => ?_) ?_; rotate_left)
 (refine J.gY rfl rfl rfl ?_)
 (refine Jx.fieldAddr rfl rfl ?_)
 (refine J.gY rfl rfl rfl ?_)
 (refine Jx.load rfl 0 rfl rfl rfl ?_)
 (refine J.gY rfl rfl rfl ?_)
 (refine Jx.gtrI rfl rfl rfl (J.nil ?_))
 (refine N.joinedN rfl rfl rfl)
 (refine J.nil (N.seq ?_))
 (refine id ?_; rotate_left))
  refine W.cond rfl (fun hb => ?_) (fun hb => ?_)
  · have hf : fineTx x = false := fineTx_off x (by
      simp only [Bool.or_eq_true, Bool.not_eq_true', decide_eq_true_eq] at hb
      rcases hb with (h | h) | h
      · exact .inl h
      · exact .inr (.inl h)
      · exact .inr (.inr h))
    rw [hf]
    focus (
 (refine W.seq (W.region (Jx.assign rfl rfl (J.nil (N.seq (W.ret (N.seqRet ?_)))))))
 (refine id ?_; rotate_left))
    exact N.retD (rs := [.tmp 2]) (L1 := []) rfl (.tmp rfl .nil) (List.nil_sublist _) ⟨rfl, rfl⟩
  · simp only [Bool.or_eq_false_iff, Bool.not_eq_false', decide_eq_false_iff_not] at hb
    have hf := fineTx_on x hb.1.1 hb.1.2 hb.2
    rw [hf]
    by_cases h1 : x.kind = 1
    · have e : (bareTx x && kindTx x) = ((noneKV x && noneM x) && moveB x) := by rw [bareTx, kindTx, if_pos h1, if_pos h1]
      rw [e]
      by_cases ha : 1 ≤ x.amount
      · focus (
 (refine W.skip (N.seq (W.seq ?_)))
 (refine W.draw follows ?_)
 (refine JD.calm rfl (by decide +kernel) ?_)
 (refine Cx.fieldAddr rfl rfl ?_)
 (refine Cx.load rfl 0 rfl rfl rfl ?_)
 (refine Cx.eqlS rfl rfl rfl ?_)
 (refine Cx.fieldAddr rfl rfl ?_)
 (refine Cx.load rfl 0 rfl rfl rfl ?_)
 (refine Cx.eqlI rfl rfl rfl ?_)
 (refine Cx.assign rfl rfl ?_)
 (refine Cx.assign rfl rfl ?_)
 (refine SegC.nil ?_)
 (refine N.seq (W.seq ?_))
 (refine W.draw follows ?_)
 (refine JD.calm rfl (by decide +kernel) ?_)
 (refine Cx.fieldAddr rfl rfl ?_)
 (refine Cx.load rfl 0 rfl rfl rfl ?_)
 (refine Cx.eqlS rfl rfl rfl ?_)
 (refine Cx.fieldAddr rfl rfl ?_)
 (refine Cx.load rfl 0 rfl rfl rfl ?_)
 (refine Cx.eqlS rfl rfl rfl ?_)
 (refine Cx.fieldAddr rfl rfl ?_)
 (refine Cx.load rfl 0 rfl rfl rfl ?_)
 (refine Cx.lenSl rfl rfl ?_)
 (refine Cx.eqlI rfl rfl rfl ?_)
 (refine Cx.assign rfl rfl ?_)
 (refine Cx.assign rfl rfl ?_)
 (refine Cx.assign rfl rfl ?_)
 (refine SegC.nil ?_)
 (refine N.seq (W.seq (W.seq (W.region (Jx.fieldAddr rfl rfl ?_)))))
 (refine Jx.load rfl 0 rfl rfl rfl ?_)
 (refine J.nil (N.seq (W.block (W.seq (W.region (Jx.eqlI rfl rfl rfl (Jx.assign rfl rfl (J.nil (N.seq (W.cT rfl ?_))))))))))
 (refine W.draw follows ?_)
 (refine JD.calm rfl (by decide +kernel) ?_)
 (refine Cx.fieldAddr rfl rfl ?_)
 (refine Cx.load rfl 0 rfl rfl rfl ?_)
 (refine SegC.q (Qs.call (Lc := []) (cn2) (fun s L' h => h) (List.Perm.refl _) (evs_args rfl)) rfl ?_)
 (refine Cx.fieldAddr rfl rfl ?_)
 (refine Cx.load rfl 0 rfl rfl rfl ?_)
 (refine Cx.geqI rfl rfl rfl ?_)
 (refine Cx.move rfl rfl ?_)
 (refine SegC.gY rfl rfl rfl ?_)
 (refine Cx.fieldAddr rfl rfl ?_)
 (refine SegC.gY rfl rfl rfl ?_)
 (refine Cx.load rfl 0 rfl rfl rfl ?_)
 (refine SegC.gY rfl rfl rfl ?_)
 (refine Cx.leqI rfl rfl rfl ?_)
 (refine Cx.pickT rfl (by first | rfl | assumption | (exact decide_eq_true (by first | assumption | omega | rfl)) | (exact decide_eq_false (by first | assumption | omega | rfl)) | (simp; done) | (simp; omega)) rfl rfl ?_)
 (refine Cx.assign rfl rfl ?_)
 (refine Cx.assign rfl rfl ?_)
 (refine SegC.nil ?_)
 (refine N.seq (W.seq (W.region (Jx.move rfl rfl (Jx.move rfl rfl ?_)))))
 (refine' J.guardAnd rfl rfl rfl rfl rfl rfl rfl rfl (fun _ => ?_) ?_; rotate_left)
 (refine J.gY rfl rfl rfl ?_)
 (refine Jx.move rfl rfl (J.nil ?_))
 (refine N.joinedN rfl rfl rfl)
 (refine Jx.move rfl rfl ?_)
 (refine' J.guardAnd rfl rfl rfl rfl rfl rfl rfl rfl (fun _ => ?_) ?_; rotate_left)
 (refine J.gY rfl rfl rfl ?_)
 (refine Jx.move rfl rfl (J.nil ?_))
 (refine N.joinedN rfl rfl rfl)
 (refine Jx.move rfl rfl ?_)
 (refine' J.guardAnd rfl rfl rfl rfl rfl rfl rfl rfl (fun _ => ?_) ?_; rotate_left)
 (refine J.gY rfl rfl rfl ?_)
 (refine Jx.move rfl rfl (J.nil ?_))
 (refine N.joinedN rfl rfl rfl)
 (refine Jx.move rfl rfl ?_)
 (refine' J.guardAnd rfl rfl rfl rfl rfl rfl rfl rfl (fun _ => ?_) ?_; rotate_left)
 (refine J.gY rfl rfl rfl ?_)
 (refine Jx.move rfl rfl (J.nil ?_))
 (refine N.joinedN rfl rfl rfl)
 (refine Jx.assign rfl rfl (J.nil (N.seq (W.ret ?_))))
 (refine id ?_; rotate_left))
        refine N.retD (rs := [.tmp 2]) (L1 := []) rfl (.tmp rfl .nil) (List.nil_sublist _) ⟨congrArg Sse.bool ?_, rfl⟩
        rw [Bool.eq_iff_iff]
        simp only [noneKV, noneM, moveB, Bool.and_eq_true, decide_eq_true_eq]
        grind
      · focus (
 (refine W.skip (N.seq (W.seq ?_)))
 (refine W.draw follows ?_)
 (refine JD.calm rfl (by decide +kernel) ?_)
 (refine Cx.fieldAddr rfl rfl ?_)
 (refine Cx.load rfl 0 rfl rfl rfl ?_)
 (refine Cx.eqlS rfl rfl rfl ?_)
 (refine Cx.fieldAddr rfl rfl ?_)
 (refine Cx.load rfl 0 rfl rfl rfl ?_)
 (refine Cx.eqlI rfl rfl rfl ?_)
 (refine Cx.assign rfl rfl ?_)
 (refine Cx.assign rfl rfl ?_)
 (refine SegC.nil ?_)
 (refine N.seq (W.seq ?_))
 (refine W.draw follows ?_)
 (refine JD.calm rfl (by decide +kernel) ?_)
 (refine Cx.fieldAddr rfl rfl ?_)
 (refine Cx.load rfl 0 rfl rfl rfl ?_)
 (refine Cx.eqlS rfl rfl rfl ?_)
 (refine Cx.fieldAddr rfl rfl ?_)
 (refine Cx.load rfl 0 rfl rfl rfl ?_)
 (refine Cx.eqlS rfl rfl rfl ?_)
 (refine Cx.fieldAddr rfl rfl ?_)
 (refine Cx.load rfl 0 rfl rfl rfl ?_)
 (refine Cx.lenSl rfl rfl ?_)
 (refine Cx.eqlI rfl rfl rfl ?_)
 (refine Cx.assign rfl rfl ?_)
 (refine Cx.assign rfl rfl ?_)
 (refine Cx.assign rfl rfl ?_)
 (refine SegC.nil ?_)
 (refine N.seq (W.seq (W.seq (W.region (Jx.fieldAddr rfl rfl ?_)))))
 (refine Jx.load rfl 0 rfl rfl rfl ?_)
 (refine J.nil (N.seq (W.block (W.seq (W.region (Jx.eqlI rfl rfl rfl (Jx.assign rfl rfl (J.nil (N.seq (W.cT rfl ?_))))))))))
 (refine W.draw follows ?_)
 (refine JD.calm rfl (by decide +kernel) ?_)
 (refine Cx.fieldAddr rfl rfl ?_)
 (refine Cx.load rfl 0 rfl rfl rfl ?_)
 (refine SegC.q (Qs.call (Lc := []) (cn2) (fun s L' h => h) (List.Perm.refl _) (evs_args rfl)) rfl ?_)
 (refine Cx.fieldAddr rfl rfl ?_)
 (refine Cx.load rfl 0 rfl rfl rfl ?_)
 (refine Cx.geqI rfl rfl rfl ?_)
 (refine Cx.move rfl rfl ?_)
 (refine SegC.gN rfl rfl rfl rfl ?_)
 (refine SegC.gN rfl rfl rfl rfl ?_)
 (refine SegC.gN rfl rfl rfl rfl ?_)
 (refine Cx.pickF rfl (by first | rfl | assumption | (exact decide_eq_true (by first | assumption | omega | rfl)) | (exact decide_eq_false (by first | assumption | omega | rfl)) | (simp; done) | (simp; omega)) rfl rfl ?_)
 (refine Cx.assign rfl rfl ?_)
 (refine Cx.assign rfl rfl ?_)
 (refine SegC.nil ?_)
 (refine N.seq (W.seq (W.region (Jx.move rfl rfl (Jx.move rfl rfl ?_)))))
 (refine' J.guardAnd rfl rfl rfl rfl rfl rfl rfl rfl (fun _ => ?_) ?_; rotate_left)
 (refine J.gY rfl rfl rfl ?_)
 (refine Jx.move rfl rfl (J.nil ?_))
 (refine N.joinedN rfl rfl rfl)
 (refine Jx.move rfl rfl (J.gN rfl rfl rfl rfl ?_))
 (refine Jx.pF rfl rfl rfl ?_)
 (refine Jx.move rfl rfl (J.gN rfl rfl rfl rfl ?_))
 (refine Jx.pF rfl rfl rfl ?_)
 (refine Jx.move rfl rfl (J.gN rfl rfl rfl rfl ?_))
 (refine Jx.pF rfl rfl rfl ?_)
 (refine Jx.assign rfl rfl (J.nil (N.seq (W.ret ?_))))
 (refine id ?_; rotate_left))
        refine N.retD (rs := [.tmp 2]) (L1 := []) rfl (.tmp rfl .nil) (List.nil_sublist _) ⟨congrArg Sse.bool ?_, rfl⟩
        rw [Bool.eq_iff_iff]
        simp only [noneKV, noneM, moveB, Bool.and_eq_true, decide_eq_true_eq]
        grind
    · by_cases h2 : x.kind = 2
      · have e : (bareTx x && kindTx x) = ((noneTA x && noneM x) && keyB (valB' x) x) := by rw [bareTx, kindTx, if_neg h1, if_neg h1, if_pos h2, if_pos h2]
        rw [e]
        by_cases ha : 1 ≤ (x.key.length : Int)
        · have hk : x.key ≠ [] := fun h => by rw [h] at ha; simp at ha
          by_cases hc : 1 ≤ (x.value.length : Int)
          · have hv : x.value ≠ [] := fun h => by rw [h] at hc; simp at hc
            focus (
 (refine W.skip (N.seq (W.seq ?_)))
 (refine W.draw follows ?_)
 (refine JD.calm rfl (by decide +kernel) ?_)
 (refine Cx.fieldAddr rfl rfl ?_)
 (refine Cx.load rfl 0 rfl rfl rfl ?_)
 (refine Cx.eqlS rfl rfl rfl ?_)
 (refine Cx.fieldAddr rfl rfl ?_)
 (refine Cx.load rfl 0 rfl rfl rfl ?_)
 (refine Cx.eqlI rfl rfl rfl ?_)
 (refine Cx.assign rfl rfl ?_)
 (refine Cx.assign rfl rfl ?_)
 (refine SegC.nil ?_)
 (refine N.seq (W.seq ?_))
 (refine W.draw follows ?_)
 (refine JD.calm rfl (by decide +kernel) ?_)
 (refine Cx.fieldAddr rfl rfl ?_)
 (refine Cx.load rfl 0 rfl rfl rfl ?_)
 (refine Cx.eqlS rfl rfl rfl ?_)
 (refine Cx.fieldAddr rfl rfl ?_)
 (refine Cx.load rfl 0 rfl rfl rfl ?_)
 (refine Cx.eqlS rfl rfl rfl ?_)
 (refine Cx.fieldAddr rfl rfl ?_)
 (refine Cx.load rfl 0 rfl rfl rfl ?_)
 (refine Cx.lenSl rfl rfl ?_)
 (refine Cx.eqlI rfl rfl rfl ?_)
 (refine Cx.assign rfl rfl ?_)
 (refine Cx.assign rfl rfl ?_)
 (refine Cx.assign rfl rfl ?_)
 (refine SegC.nil ?_)
 (refine N.seq (W.seq (W.seq (W.region (Jx.fieldAddr rfl rfl ?_)))))
 (refine Jx.load rfl 0 rfl rfl rfl ?_)
 (refine J.nil (N.seq (W.block (W.seq (W.region (Jx.eqlI rfl rfl rfl (Jx.assign rfl rfl (J.nil (N.seq (W.cF rfl ?_))))))))))
 (refine W.seq (W.region (Jx.eqlI rfl rfl rfl (Jx.assign rfl rfl (J.nil (N.seq (W.cT rfl ?_)))))))
 (refine W.draw follows ?_)
 (refine JD.calm rfl (by decide +kernel) ?_)
 (refine Cx.fieldAddr rfl rfl ?_)
 (refine Cx.load rfl 0 rfl rfl rfl ?_)
 (refine Cx.lenS rfl rfl ?_)
 (refine Cx.geqI rfl rfl rfl ?_)
 (refine Cx.move rfl rfl ?_)
 (refine SegC.gY rfl rfl rfl ?_)
 (refine Cx.fieldAddr rfl rfl ?_)
 (refine SegC.gY rfl rfl rfl ?_)
 (refine Cx.load rfl 0 rfl rfl rfl ?_)
 (refine SegC.gY rfl rfl rfl ?_)
 (refine Cx.lenS rfl rfl ?_)
 (refine SegC.gY rfl rfl rfl ?_)
 (refine Cx.leqI rfl rfl rfl ?_)
 (refine Cx.pickT rfl (by first | rfl | assumption | (exact decide_eq_true (by first | assumption | omega | rfl)) | (exact decide_eq_false (by first | assumption | omega | rfl)) | (simp; done) | (simp; omega)) rfl rfl ?_)
 (refine Cx.fieldAddr rfl rfl ?_)
 (refine Cx.load rfl 0 rfl rfl rfl ?_)
 (refine Cx.lenS rfl rfl ?_)
 (refine Cx.geqI rfl rfl rfl ?_)
 (refine Cx.move rfl rfl ?_)
 (refine SegC.gY rfl rfl rfl ?_)
 (refine Cx.fieldAddr rfl rfl ?_)
 (refine SegC.gY rfl rfl rfl ?_)
 (refine Cx.load rfl 0 rfl rfl rfl ?_)
 (refine SegC.gY rfl rfl rfl ?_)
 (refine Cx.lenS rfl rfl ?_)
 (refine SegC.gY rfl rfl rfl ?_)
 (refine Cx.leqI rfl rfl rfl ?_)
 (refine Cx.pickT rfl (by first | rfl | assumption | (exact decide_eq_true (by first | assumption | omega | rfl)) | (exact decide_eq_false (by first | assumption | omega | rfl)) | (simp; done) | (simp; omega)) rfl rfl ?_)
 (refine Cx.assign rfl rfl ?_)
 (refine Cx.assign rfl rfl ?_)
 (refine SegC.nil ?_)
 (refine N.seq (W.seq (W.region (Jx.move rfl rfl (Jx.move rfl rfl ?_)))))
 (refine' J.guardAnd rfl rfl rfl rfl rfl rfl rfl rfl (fun _ => ?_) ?_; rotate_left)
 (refine J.gY rfl rfl rfl ?_)
 (refine Jx.move rfl rfl (J.nil ?_))
 (refine N.joinedN rfl rfl rfl)
 (refine Jx.move rfl rfl ?_)
 (refine' J.guardAnd rfl rfl rfl rfl rfl rfl rfl rfl (fun _ => ?_) ?_; rotate_left)
 (refine J.gY rfl rfl rfl ?_)
 (refine Jx.move rfl rfl (J.nil ?_))
 (refine N.joinedN rfl rfl rfl)
 (refine Jx.move rfl rfl ?_)
 (refine' J.guardAnd rfl rfl rfl rfl rfl rfl rfl rfl (fun _ => ?_) ?_; rotate_left)
 (refine J.gY rfl rfl rfl ?_)
 (refine Jx.move rfl rfl (J.nil ?_))
 (refine N.joinedN rfl rfl rfl)
 (refine Jx.move rfl rfl ?_)
 (refine' J.guardAnd rfl rfl rfl rfl rfl rfl rfl rfl (fun _ => ?_) ?_; rotate_left)
 (refine J.gY rfl rfl rfl ?_)
 (refine Jx.move rfl rfl (J.nil ?_))
 (refine N.joinedN rfl rfl rfl)
 (refine Jx.assign rfl rfl (J.nil (N.seq (W.ret ?_))))
 (refine id ?_; rotate_left))
            refine N.retD (rs := [.tmp 2]) (L1 := []) rfl (.tmp rfl .nil) (List.nil_sublist _) ⟨congrArg Sse.bool ?_, rfl⟩
            rw [Bool.eq_iff_iff]
            simp only [noneTA, noneM, keyB, valB', Bool.and_eq_true, decide_eq_true_eq]
            grind
          · have hv : x.value = [] := List.eq_nil_of_length_eq_zero (by omega)
            focus (
 (refine W.skip (N.seq (W.seq ?_)))
 (refine W.draw follows ?_)
 (refine JD.calm rfl (by decide +kernel) ?_)
 (refine Cx.fieldAddr rfl rfl ?_)
 (refine Cx.load rfl 0 rfl rfl rfl ?_)
 (refine Cx.eqlS rfl rfl rfl ?_)
 (refine Cx.fieldAddr rfl rfl ?_)
 (refine Cx.load rfl 0 rfl rfl rfl ?_)
 (refine Cx.eqlI rfl rfl rfl ?_)
 (refine Cx.assign rfl rfl ?_)
 (refine Cx.assign rfl rfl ?_)
 (refine SegC.nil ?_)
 (refine N.seq (W.seq ?_))
 (refine W.draw follows ?_)
 (refine JD.calm rfl (by decide +kernel) ?_)
 (refine Cx.fieldAddr rfl rfl ?_)
 (refine Cx.load rfl 0 rfl rfl rfl ?_)
 (refine Cx.eqlS rfl rfl rfl ?_)
 (refine Cx.fieldAddr rfl rfl ?_)
 (refine Cx.load rfl 0 rfl rfl rfl ?_)
 (refine Cx.eqlS rfl rfl rfl ?_)
 (refine Cx.fieldAddr rfl rfl ?_)
 (refine Cx.load rfl 0 rfl rfl rfl ?_)
 (refine Cx.lenSl rfl rfl ?_)
 (refine Cx.eqlI rfl rfl rfl ?_)
 (refine Cx.assign rfl rfl ?_)
 (refine Cx.assign rfl rfl ?_)
 (refine Cx.assign rfl rfl ?_)
 (refine SegC.nil ?_)
 (refine N.seq (W.seq (W.seq (W.region (Jx.fieldAddr rfl rfl ?_)))))
 (refine Jx.load rfl 0 rfl rfl rfl ?_)
 (refine J.nil (N.seq (W.block (W.seq (W.region (Jx.eqlI rfl rfl rfl (Jx.assign rfl rfl (J.nil (N.seq (W.cF rfl ?_))))))))))
 (refine W.seq (W.region (Jx.eqlI rfl rfl rfl (Jx.assign rfl rfl (J.nil (N.seq (W.cT rfl ?_)))))))
 (refine W.draw follows ?_)
 (refine JD.calm rfl (by decide +kernel) ?_)
 (refine Cx.fieldAddr rfl rfl ?_)
 (refine Cx.load rfl 0 rfl rfl rfl ?_)
 (refine Cx.lenS rfl rfl ?_)
 (refine Cx.geqI rfl rfl rfl ?_)
 (refine Cx.move rfl rfl ?_)
 (refine SegC.gY rfl rfl rfl ?_)
 (refine Cx.fieldAddr rfl rfl ?_)
 (refine SegC.gY rfl rfl rfl ?_)
 (refine Cx.load rfl 0 rfl rfl rfl ?_)
 (refine SegC.gY rfl rfl rfl ?_)
 (refine Cx.lenS rfl rfl ?_)
 (refine SegC.gY rfl rfl rfl ?_)
 (refine Cx.leqI rfl rfl rfl ?_)
 (refine Cx.pickT rfl (by first | rfl | assumption | (exact decide_eq_true (by first | assumption | omega | rfl)) | (exact decide_eq_false (by first | assumption | omega | rfl)) | (simp; done) | (simp; omega)) rfl rfl ?_)
 (refine Cx.fieldAddr rfl rfl ?_)
 (refine Cx.load rfl 0 rfl rfl rfl ?_)
 (refine Cx.lenS rfl rfl ?_)
 (refine Cx.geqI rfl rfl rfl ?_)
 (refine Cx.move rfl rfl ?_)
 (refine SegC.gN rfl rfl rfl rfl ?_)
 (refine SegC.gN rfl rfl rfl rfl ?_)
 (refine SegC.gN rfl rfl rfl rfl ?_)
 (refine SegC.gN rfl rfl rfl rfl ?_)
 (refine Cx.pickF rfl (by first | rfl | assumption | (exact decide_eq_true (by first | assumption | omega | rfl)) | (exact decide_eq_false (by first | assumption | omega | rfl)) | (simp; done) | (simp; omega)) rfl rfl ?_)
 (refine Cx.assign rfl rfl ?_)
 (refine Cx.assign rfl rfl ?_)
 (refine SegC.nil ?_)
 (refine N.seq (W.seq (W.region (Jx.move rfl rfl (Jx.move rfl rfl ?_)))))
 (refine' J.guardAnd rfl rfl rfl rfl rfl rfl rfl rfl (fun _ => ?_) ?_; rotate_left)
 (refine J.gY rfl rfl rfl ?_)
 (refine Jx.move rfl rfl (J.nil ?_))
 (refine N.joinedN rfl rfl rfl)
 (refine Jx.move rfl rfl ?_)
 (refine' J.guardAnd rfl rfl rfl rfl rfl rfl rfl rfl (fun _ => ?_) ?_; rotate_left)
 (refine J.gY rfl rfl rfl ?_)
 (refine Jx.move rfl rfl (J.nil ?_))
 (refine N.joinedN rfl rfl rfl)
 (refine Jx.move rfl rfl ?_)
 (refine' J.guardAnd rfl rfl rfl rfl rfl rfl rfl rfl (fun _ => ?_) ?_; rotate_left)
 (refine J.gY rfl rfl rfl ?_)
 (refine Jx.move rfl rfl (J.nil ?_))
 (refine N.joinedN rfl rfl rfl)
 (refine Jx.move rfl rfl (J.gN rfl rfl rfl rfl ?_))
 (refine Jx.pF rfl rfl rfl ?_)
 (refine Jx.assign rfl rfl (J.nil (N.seq (W.ret ?_))))
 (refine id ?_; rotate_left))
            refine N.retD (rs := [.tmp 2]) (L1 := []) rfl (.tmp rfl .nil) (List.nil_sublist _) ⟨congrArg Sse.bool ?_, rfl⟩
            rw [Bool.eq_iff_iff]
            simp only [noneTA, noneM, keyB, valB', Bool.and_eq_true, decide_eq_true_eq]
            grind
        · have hk : x.key = [] := List.eq_nil_of_length_eq_zero (by omega)
          by_cases hc : 1 ≤ (x.value.length : Int)
          · focus (
 (refine W.skip (N.seq (W.seq ?_)))
 (refine W.draw follows ?_)
 (refine JD.calm rfl (by decide +kernel) ?_)
 (refine Cx.fieldAddr rfl rfl ?_)
 (refine Cx.load rfl 0 rfl rfl rfl ?_)
 (refine Cx.eqlS rfl rfl rfl ?_)
 (refine Cx.fieldAddr rfl rfl ?_)
 (refine Cx.load rfl 0 rfl rfl rfl ?_)
 (refine Cx.eqlI rfl rfl rfl ?_)
 (refine Cx.assign rfl rfl ?_)
 (refine Cx.assign rfl rfl ?_)
 (refine SegC.nil ?_)
 (refine N.seq (W.seq ?_))
 (refine W.draw follows ?_)
 (refine JD.calm rfl (by decide +kernel) ?_)
 (refine Cx.fieldAddr rfl rfl ?_)
 (refine Cx.load rfl 0 rfl rfl rfl ?_)
 (refine Cx.eqlS rfl rfl rfl ?_)
 (refine Cx.fieldAddr rfl rfl ?_)
 (refine Cx.load rfl 0 rfl rfl rfl ?_)
 (refine Cx.eqlS rfl rfl rfl ?_)
 (refine Cx.fieldAddr rfl rfl ?_)
 (refine Cx.load rfl 0 rfl rfl rfl ?_)
 (refine Cx.lenSl rfl rfl ?_)
 (refine Cx.eqlI rfl rfl rfl ?_)
 (refine Cx.assign rfl rfl ?_)
 (refine Cx.assign rfl rfl ?_)
 (refine Cx.assign rfl rfl ?_)
 (refine SegC.nil ?_)
 (refine N.seq (W.seq (W.seq (W.region (Jx.fieldAddr rfl rfl ?_)))))
 (refine Jx.load rfl 0 rfl rfl rfl ?_)
 (refine J.nil (N.seq (W.block (W.seq (W.region (Jx.eqlI rfl rfl rfl (Jx.assign rfl rfl (J.nil (N.seq (W.cF rfl ?_))))))))))
 (refine W.seq (W.region (Jx.eqlI rfl rfl rfl (Jx.assign rfl rfl (J.nil (N.seq (W.cT rfl ?_)))))))
 (refine W.draw follows ?_)
 (refine JD.calm rfl (by decide +kernel) ?_)
 (refine Cx.fieldAddr rfl rfl ?_)
 (refine Cx.load rfl 0 rfl rfl rfl ?_)
 (refine Cx.lenS rfl rfl ?_)
 (refine Cx.geqI rfl rfl rfl ?_)
 (refine Cx.move rfl rfl ?_)
 (refine SegC.gN rfl rfl rfl rfl ?_)
 (refine SegC.gN rfl rfl rfl rfl ?_)
 (refine SegC.gN rfl rfl rfl rfl ?_)
 (refine SegC.gN rfl rfl rfl rfl ?_)
 (refine Cx.pickF rfl (by first | rfl | assumption | (exact decide_eq_true (by first | assumption | omega | rfl)) | (exact decide_eq_false (by first | assumption | omega | rfl)) | (simp; done) | (simp; omega)) rfl rfl ?_)
 (refine Cx.fieldAddr rfl rfl ?_)
 (refine Cx.load rfl 0 rfl rfl rfl ?_)
 (refine Cx.lenS rfl rfl ?_)
 (refine Cx.geqI rfl rfl rfl ?_)
 (refine Cx.move rfl rfl ?_)
 (refine SegC.gY rfl rfl rfl ?_)
 (refine Cx.fieldAddr rfl rfl ?_)
 (refine SegC.gY rfl rfl rfl ?_)
 (refine Cx.load rfl 0 rfl rfl rfl ?_)
 (refine SegC.gY rfl rfl rfl ?_)
 (refine Cx.lenS rfl rfl ?_)
 (refine SegC.gY rfl rfl rfl ?_)
 (refine Cx.leqI rfl rfl rfl ?_)
 (refine Cx.pickT rfl (by first | rfl | assumption | (exact decide_eq_true (by first | assumption | omega | rfl)) | (exact decide_eq_false (by first | assumption | omega | rfl)) | (simp; done) | (simp; omega)) rfl rfl ?_)
 (refine Cx.assign rfl rfl ?_)
 (refine Cx.assign rfl rfl ?_)
 (refine SegC.nil ?_)
 (refine N.seq (W.seq (W.region (Jx.move rfl rfl (Jx.move rfl rfl ?_)))))
 (refine' J.guardAnd rfl rfl rfl rfl rfl rfl rfl rfl (fun _ => ?_) ?_; rotate_left)
 (refine J.gY rfl rfl rfl ?_)
 (refine Jx.move rfl rfl (J.nil ?_))
 (refine N.joinedN rfl rfl rfl)
 (refine Jx.move rfl rfl ?_)
 (refine' J.guardAnd rfl rfl rfl rfl rfl rfl rfl rfl (fun _ => ?_) ?_; rotate_left)
 (refine J.gY rfl rfl rfl ?_)
 (refine Jx.move rfl rfl (J.nil ?_))
 (refine N.joinedN rfl rfl rfl)
 (refine Jx.move rfl rfl (J.gN rfl rfl rfl rfl ?_))
 (refine Jx.pF rfl rfl rfl ?_)
 (refine Jx.move rfl rfl (J.gN rfl rfl rfl rfl ?_))
 (refine Jx.pF rfl rfl rfl ?_)
 (refine Jx.assign rfl rfl (J.nil (N.seq (W.ret ?_))))
 (refine id ?_; rotate_left))
            refine N.retD (rs := [.tmp 2]) (L1 := []) rfl (.tmp rfl .nil) (List.nil_sublist _) ⟨congrArg Sse.bool ?_, rfl⟩
            rw [Bool.eq_iff_iff]
            simp only [noneTA, noneM, keyB, valB', Bool.and_eq_true, decide_eq_true_eq]
            grind
          · focus (
 (refine W.skip (N.seq (W.seq ?_)))
 (refine W.draw follows ?_)
 (refine JD.calm rfl (by decide +kernel) ?_)
 (refine Cx.fieldAddr rfl rfl ?_)
 (refine Cx.load rfl 0 rfl rfl rfl ?_)
 (refine Cx.eqlS rfl rfl rfl ?_)
 (refine Cx.fieldAddr rfl rfl ?_)
 (refine Cx.load rfl 0 rfl rfl rfl ?_)
 (refine Cx.eqlI rfl rfl rfl ?_)
 (refine Cx.assign rfl rfl ?_)
 (refine Cx.assign rfl rfl ?_)
 (refine SegC.nil ?_)
 (refine N.seq (W.seq ?_))
 (refine W.draw follows ?_)
 (refine JD.calm rfl (by decide +kernel) ?_)
 (refine Cx.fieldAddr rfl rfl ?_)
 (refine Cx.load rfl 0 rfl rfl rfl ?_)
 (refine Cx.eqlS rfl rfl rfl ?_)
 (refine Cx.fieldAddr rfl rfl ?_)
 (refine Cx.load rfl 0 rfl rfl rfl ?_)
 (refine Cx.eqlS rfl rfl rfl ?_)
 (refine Cx.fieldAddr rfl rfl ?_)
 (refine Cx.load rfl 0 rfl rfl rfl ?_)
 (refine Cx.lenSl rfl rfl ?_)
 (refine Cx.eqlI rfl rfl rfl ?_)
 (refine Cx.assign rfl rfl ?_)
 (refine Cx.assign rfl rfl ?_)
 (refine Cx.assign rfl rfl ?_)
 (refine SegC.nil ?_)
 (refine N.seq (W.seq (W.seq (W.region (Jx.fieldAddr rfl rfl ?_)))))
 (refine Jx.load rfl 0 rfl rfl rfl ?_)
 (refine J.nil (N.seq (W.block (W.seq (W.region (Jx.eqlI rfl rfl rfl (Jx.assign rfl rfl (J.nil (N.seq (W.cF rfl ?_))))))))))
 (refine W.seq (W.region (Jx.eqlI rfl rfl rfl (Jx.assign rfl rfl (J.nil (N.seq (W.cT rfl ?_)))))))
 (refine W.draw follows ?_)
 (refine JD.calm rfl (by decide +kernel) ?_)
 (refine Cx.fieldAddr rfl rfl ?_)
 (refine Cx.load rfl 0 rfl rfl rfl ?_)
 (refine Cx.lenS rfl rfl ?_)
 (refine Cx.geqI rfl rfl rfl ?_)
 (refine Cx.move rfl rfl ?_)
 (refine SegC.gN rfl rfl rfl rfl ?_)
 (refine SegC.gN rfl rfl rfl rfl ?_)
 (refine SegC.gN rfl rfl rfl rfl ?_)
 (refine SegC.gN rfl rfl rfl rfl ?_)
 (refine Cx.pickF rfl (by first | rfl | assumption | (exact decide_eq_true (by first | assumption | omega | rfl)) | (exact decide_eq_false (by first | assumption | omega | rfl)) | (simp; done) | (simp; omega)) rfl rfl ?_)
 (refine Cx.fieldAddr rfl rfl ?_)
 (refine Cx.load rfl 0 rfl rfl rfl ?_)
 (refine Cx.lenS rfl rfl ?_)
 (refine Cx.geqI rfl rfl rfl ?_)
 (refine Cx.move rfl rfl ?_)
 (refine SegC.gN rfl rfl rfl rfl ?_)
 (refine SegC.gN rfl rfl rfl rfl ?_)
 (refine SegC.gN rfl rfl rfl rfl ?_)
 (refine SegC.gN rfl rfl rfl rfl ?_)
 (refine Cx.pickF rfl (by first | rfl | assumption | (exact decide_eq_true (by first | assumption | omega | rfl)) | (exact decide_eq_false (by first | assumption | omega | rfl)) | (simp; done) | (simp; omega)) rfl rfl ?_)
 (refine Cx.assign rfl rfl ?_)
 (refine Cx.assign rfl rfl ?_)
 (refine SegC.nil ?_)
 (refine N.seq (W.seq (W.region (Jx.move rfl rfl (Jx.move rfl rfl ?_)))))
 (refine' J.guardAnd rfl rfl rfl rfl rfl rfl rfl rfl (fun _ => ?_) ?_; rotate_left)
 (refine J.gY rfl rfl rfl ?_)
 (refine Jx.move rfl rfl (J.nil ?_))
 (refine N.joinedN rfl rfl rfl)
 (refine Jx.move rfl rfl ?_)
 (refine' J.guardAnd rfl rfl rfl rfl rfl rfl rfl rfl (fun _ => ?_) ?_; rotate_left)
 (refine J.gY rfl rfl rfl ?_)
 (refine Jx.move rfl rfl (J.nil ?_))
 (refine N.joinedN rfl rfl rfl)
 (refine Jx.move rfl rfl (J.gN rfl rfl rfl rfl ?_))
 (refine Jx.pF rfl rfl rfl ?_)
 (refine Jx.move rfl rfl (J.gN rfl rfl rfl rfl ?_))
 (refine Jx.pF rfl rfl rfl ?_)
 (refine Jx.assign rfl rfl (J.nil (N.seq (W.ret ?_))))
 (refine id ?_; rotate_left))
            refine N.retD (rs := [.tmp 2]) (L1 := []) rfl (.tmp rfl .nil) (List.nil_sublist _) ⟨congrArg Sse.bool ?_, rfl⟩
            rw [Bool.eq_iff_iff]
            simp only [noneTA, noneM, keyB, valB', Bool.and_eq_true, decide_eq_true_eq]
            grind
      · by_cases h3 : x.kind = 3
        · have e : (bareTx x && kindTx x) = (((noneTA x && noneM x) && decide (x.value = [])) && keyB true x) := by rw [bareTx, kindTx, if_neg h1, if_neg h1, if_neg h2, if_neg h2, if_pos h3, if_pos h3]
          rw [e]
          have hk : 1 ≤ (x.key.length : Int) ↔ x.key ≠ [] := ⟨fun h e => by rw [e] at h; simp at h, fun h => by have := List.length_pos_iff.2 h; omega⟩
          focus (
 (refine W.skip (N.seq (W.seq ?_)))
 (refine W.draw follows ?_)
 (refine JD.calm rfl (by decide +kernel) ?_)
 (refine Cx.fieldAddr rfl rfl ?_)
 (refine Cx.load rfl 0 rfl rfl rfl ?_)
 (refine Cx.eqlS rfl rfl rfl ?_)
 (refine Cx.fieldAddr rfl rfl ?_)
 (refine Cx.load rfl 0 rfl rfl rfl ?_)
 (refine Cx.eqlI rfl rfl rfl ?_)
 (refine Cx.assign rfl rfl ?_)
 (refine Cx.assign rfl rfl ?_)
 (refine SegC.nil ?_)
 (refine N.seq (W.seq ?_))
 (refine W.draw follows ?_)
 (refine JD.calm rfl (by decide +kernel) ?_)
 (refine Cx.fieldAddr rfl rfl ?_)
 (refine Cx.load rfl 0 rfl rfl rfl ?_)
 (refine Cx.eqlS rfl rfl rfl ?_)
 (refine Cx.fieldAddr rfl rfl ?_)
 (refine Cx.load rfl 0 rfl rfl rfl ?_)
 (refine Cx.eqlS rfl rfl rfl ?_)
 (refine Cx.fieldAddr rfl rfl ?_)
 (refine Cx.load rfl 0 rfl rfl rfl ?_)
 (refine Cx.lenSl rfl rfl ?_)
 (refine Cx.eqlI rfl rfl rfl ?_)
 (refine Cx.assign rfl rfl ?_)
 (refine Cx.assign rfl rfl ?_)
 (refine Cx.assign rfl rfl ?_)
 (refine SegC.nil ?_)
 (refine N.seq (W.seq (W.seq (W.region (Jx.fieldAddr rfl rfl ?_)))))
 (refine Jx.load rfl 0 rfl rfl rfl ?_)
 (refine J.nil (N.seq (W.block (W.seq (W.region (Jx.eqlI rfl rfl rfl (Jx.assign rfl rfl (J.nil (N.seq (W.cF rfl ?_))))))))))
 (refine W.seq (W.region (Jx.eqlI rfl rfl rfl (Jx.assign rfl rfl (J.nil (N.seq (W.cF rfl ?_)))))))
 (refine W.seq (W.region (Jx.eqlI rfl rfl rfl (Jx.assign rfl rfl (J.nil (N.seq (W.cT rfl ?_)))))))
 (refine W.region (Jx.fieldAddr rfl rfl ?_))
 (refine Jx.load rfl 0 rfl rfl rfl ?_)
 (refine Jx.lenS rfl rfl ?_)
 (refine Jx.geqI rfl rfl rfl (Jx.move rfl rfl ?_))
 (refine' J.guardAnd rfl rfl rfl rfl rfl rfl rfl rfl (fun _ => ?_) ?_; rotate_left)
 (refine J.gY rfl rfl rfl ?_)
 (refine Jx.fieldAddr rfl rfl ?_)
 (refine J.gY rfl rfl rfl ?_)
 (refine Jx.load rfl 0 rfl rfl rfl ?_)
 (refine J.gY rfl rfl rfl ?_)
 (refine Jx.lenS rfl rfl ?_)
 (refine J.gY rfl rfl rfl ?_)
 (refine Jx.leqI rfl rfl rfl (J.nil ?_))
 (refine N.joinedN rfl rfl rfl)
 (refine Jx.assign rfl rfl (J.nil (N.seq (W.seq (W.region (Jx.move rfl rfl (Jx.move rfl rfl ?_)))))))
 (refine' J.guardAnd rfl rfl rfl rfl rfl rfl rfl rfl (fun _ => ?_) ?_; rotate_left)
 (refine J.gY rfl rfl rfl ?_)
 (refine Jx.move rfl rfl (J.nil ?_))
 (refine N.joinedN rfl rfl rfl)
 (refine Jx.move rfl rfl ?_)
 (refine' J.guardAnd rfl rfl rfl rfl rfl rfl rfl rfl (fun _ => ?_) ?_; rotate_left)
 (refine J.gY rfl rfl rfl ?_)
 (refine Jx.move rfl rfl (J.nil ?_))
 (refine N.joinedN rfl rfl rfl)
 (refine Jx.move rfl rfl ?_)
 (refine' J.guardAnd rfl rfl rfl rfl rfl rfl rfl rfl (fun _ => ?_) ?_; rotate_left)
 (refine J.gY rfl rfl rfl ?_)
 (refine Jx.move rfl rfl (J.nil ?_))
 (refine N.joinedN rfl rfl rfl)
 (refine Jx.move rfl rfl ?_)
 (refine' J.guardAnd rfl rfl rfl rfl rfl rfl rfl rfl (fun _ => ?_) ?_; rotate_left)
 (refine J.gY rfl rfl rfl ?_)
 (refine Jx.move rfl rfl (J.nil ?_))
 (refine N.joinedN rfl rfl rfl)
 (refine Jx.assign rfl rfl (J.nil (N.seq (W.ret ?_))))
 (refine id ?_; rotate_left))
          refine N.retD (rs := [.tmp 2]) (L1 := []) rfl (.tmp rfl .nil) (List.nil_sublist _) ⟨congrArg Sse.bool ?_, rfl⟩
          rw [Bool.eq_iff_iff]
          simp only [noneTA, noneM, keyB, Bool.and_eq_true, decide_eq_true_eq]
          grind
        · by_cases h4 : x.kind = 4
          · have e : (bareTx x && kindTx x) = ((noneTA x && noneKV x) && fineSet x.members) := by rw [bareTx, kindTx, if_neg h1, if_neg h1, if_neg h2, if_neg h2, if_neg h3, if_neg h3, if_pos h4]
            rw [e]
            focus (
 (refine W.skip (N.seq (W.seq ?_)))
 (refine W.draw follows ?_)
 (refine JD.calm rfl (by decide +kernel) ?_)
 (refine Cx.fieldAddr rfl rfl ?_)
 (refine Cx.load rfl 0 rfl rfl rfl ?_)
 (refine Cx.eqlS rfl rfl rfl ?_)
 (refine Cx.fieldAddr rfl rfl ?_)
 (refine Cx.load rfl 0 rfl rfl rfl ?_)
 (refine Cx.eqlI rfl rfl rfl ?_)
 (refine Cx.assign rfl rfl ?_)
 (refine Cx.assign rfl rfl ?_)
 (refine SegC.nil ?_)
 (refine N.seq (W.seq ?_))
 (refine W.draw follows ?_)
 (refine JD.calm rfl (by decide +kernel) ?_)
 (refine Cx.fieldAddr rfl rfl ?_)
 (refine Cx.load rfl 0 rfl rfl rfl ?_)
 (refine Cx.eqlS rfl rfl rfl ?_)
 (refine Cx.fieldAddr rfl rfl ?_)
 (refine Cx.load rfl 0 rfl rfl rfl ?_)
 (refine Cx.eqlS rfl rfl rfl ?_)
 (refine Cx.fieldAddr rfl rfl ?_)
 (refine Cx.load rfl 0 rfl rfl rfl ?_)
 (refine Cx.lenSl rfl rfl ?_)
 (refine Cx.eqlI rfl rfl rfl ?_)
 (refine Cx.assign rfl rfl ?_)
 (refine Cx.assign rfl rfl ?_)
 (refine Cx.assign rfl rfl ?_)
 (refine SegC.nil ?_)
 (refine N.seq (W.seq (W.seq (W.region (Jx.fieldAddr rfl rfl ?_)))))
 (refine Jx.load rfl 0 rfl rfl rfl ?_)
 (refine J.nil (N.seq (W.block (W.seq (W.region (Jx.eqlI rfl rfl rfl (Jx.assign rfl rfl (J.nil (N.seq (W.cF rfl ?_))))))))))
 (refine W.seq (W.region (Jx.eqlI rfl rfl rfl (Jx.assign rfl rfl (J.nil (N.seq (W.cF rfl ?_)))))))
 (refine W.seq (W.region (Jx.eqlI rfl rfl rfl (Jx.assign rfl rfl (J.nil (N.seq (W.cF rfl ?_)))))))
 (refine W.seq (W.region (Jx.eqlI rfl rfl rfl (Jx.assign rfl rfl (J.nil (N.seq (W.cT rfl ?_)))))))
 (refine W.region (Jx.fieldAddr rfl rfl ?_))
 (refine Jx.load rfl 0 rfl rfl rfl ?_)
 (refine J.call (cm) rfl (evs_args rfl) rfl ?_; rintro _ _ ⟨rfl, rfl⟩; simp only [la1, la2, la3])
 (refine Jx.eqlI rfl rfl rfl (Jx.assign rfl rfl (J.nil (N.seq (W.seq (W.region (Jx.move rfl rfl (Jx.move rfl rfl ?_))))))))
 (refine' J.guardAnd rfl rfl rfl rfl rfl rfl rfl rfl (fun _ => ?_) ?_; rotate_left)
 (refine J.gY rfl rfl rfl ?_)
 (refine Jx.move rfl rfl (J.nil ?_))
 (refine N.joinedN rfl rfl rfl)
 (refine Jx.move rfl rfl ?_)
 (refine' J.guardAnd rfl rfl rfl rfl rfl rfl rfl rfl (fun _ => ?_) ?_; rotate_left)
 (refine J.gY rfl rfl rfl ?_)
 (refine Jx.move rfl rfl (J.nil ?_))
 (refine N.joinedN rfl rfl rfl)
 (refine Jx.move rfl rfl ?_)
 (refine' J.guardAnd rfl rfl rfl rfl rfl rfl rfl rfl (fun _ => ?_) ?_; rotate_left)
 (refine J.gY rfl rfl rfl ?_)
 (refine Jx.move rfl rfl (J.nil ?_))
 (refine N.joinedN rfl rfl rfl)
 (refine Jx.move rfl rfl ?_)
 (refine' J.guardAnd rfl rfl rfl rfl rfl rfl rfl rfl (fun _ => ?_) ?_; rotate_left)
 (refine J.gY rfl rfl rfl ?_)
 (refine Jx.move rfl rfl (J.nil ?_))
 (refine N.joinedN rfl rfl rfl)
 (refine Jx.assign rfl rfl (J.nil (N.seq (W.ret ?_))))
 (refine id ?_; rotate_left))
            refine N.retD (rs := [.tmp 2]) (L1 := []) rfl (.tmp rfl .nil) (List.nil_sublist _) ⟨congrArg Sse.bool ?_, rfl⟩
            rw [hz, Bool.eq_iff_iff]
            simp only [noneTA, noneKV, Bool.and_eq_true, decide_eq_true_eq]
            grind
          · have e : (bareTx x && kindTx x) = false := by rw [bareTx, if_neg h1, if_neg h2, if_neg h3, if_neg h4]; rfl
            rw [e]
            focus (
 (refine W.skip (N.seq (W.seq ?_)))
 (refine W.draw follows ?_)
 (refine JD.calm rfl (by decide +kernel) ?_)
 (refine Cx.fieldAddr rfl rfl ?_)
 (refine Cx.load rfl 0 rfl rfl rfl ?_)
 (refine Cx.eqlS rfl rfl rfl ?_)
 (refine Cx.fieldAddr rfl rfl ?_)
 (refine Cx.load rfl 0 rfl rfl rfl ?_)
 (refine Cx.eqlI rfl rfl rfl ?_)
 (refine Cx.assign rfl rfl ?_)
 (refine Cx.assign rfl rfl ?_)
 (refine SegC.nil ?_)
 (refine N.seq (W.seq ?_))
 (refine W.draw follows ?_)
 (refine JD.calm rfl (by decide +kernel) ?_)
 (refine Cx.fieldAddr rfl rfl ?_)
 (refine Cx.load rfl 0 rfl rfl rfl ?_)
 (refine Cx.eqlS rfl rfl rfl ?_)
 (refine Cx.fieldAddr rfl rfl ?_)
 (refine Cx.load rfl 0 rfl rfl rfl ?_)
 (refine Cx.eqlS rfl rfl rfl ?_)
 (refine Cx.fieldAddr rfl rfl ?_)
 (refine Cx.load rfl 0 rfl rfl rfl ?_)
 (refine Cx.lenSl rfl rfl ?_)
 (refine Cx.eqlI rfl rfl rfl ?_)
 (refine Cx.assign rfl rfl ?_)
 (refine Cx.assign rfl rfl ?_)
 (refine Cx.assign rfl rfl ?_)
 (refine SegC.nil ?_)
 (refine N.seq (W.seq (W.seq (W.region (Jx.fieldAddr rfl rfl ?_)))))
 (refine Jx.load rfl 0 rfl rfl rfl ?_)
 (refine J.nil (N.seq (W.block (W.seq (W.region (Jx.eqlI rfl rfl rfl (Jx.assign rfl rfl (J.nil (N.seq (W.cF rfl ?_))))))))))
 (refine W.seq (W.region (Jx.eqlI rfl rfl rfl (Jx.assign rfl rfl (J.nil (N.seq (W.cF rfl ?_)))))))
 (refine W.seq (W.region (Jx.eqlI rfl rfl rfl (Jx.assign rfl rfl (J.nil (N.seq (W.cF rfl ?_)))))))
 (refine W.seq (W.region (Jx.eqlI rfl rfl rfl (Jx.assign rfl rfl (J.nil (N.seq (W.cF rfl ?_)))))))
 (refine W.seq (W.region (Jx.assign rfl rfl (J.nil (N.seq (W.ret (N.blockRet (N.seqRet ?_))))))))
 (refine id ?_; rotate_left))
            exact N.retD (rs := [.tmp 2]) (L1 := []) rfl (.tmp rfl .nil) (List.nil_sublist _) ⟨rfl, rfl⟩
set_option maxHeartbeats 2000000 in
theorem rtwritten_ok (x : Tx) (hf : fineTx x = true) : FnC Tryz.prog 114 [.agg (txC x)] [] (fun v L => v = str (encTx x) ∧ L = []) := by
  have hF := (fineTx_iff x).1 hf
  have hk := hF.kind
  have f6 := hF.from6
  have fs0 := hF.seq0
  have fsM := hF.seqM
  have c1 := number_ok x.seq.toNat (by omega)
  rw [Int.toNat_of_nonneg fs0] at c1
  have l1 := numB9 fsM
  have c2 := rtext_ok x.from_ (by omega)
  have l2 := textB_len f6 (by omega)
  have hkn : x.kind = ((x.kind.toNat : Nat) : Int) := by omega
  have he : encTx x = [UInt8.ofNat x.kind.toNat] ++ textB x.from_ ++ numB x.seq.toNat ++ bodyTx x := rfl
  rw [he]
  generalize textB x.from_ = tf at *
  generalize numB x.seq.toNat = nq at *
  refine FnC.intro Tryz.func114 rfl Tryz.ntmps114 rfl fun Z w0 hG => ?_
  focus (
 (refine W.seq (W.region ?_))
 (refine J.boxAg rfl rfl ?_; intro b')
 (refine Jx.assign rfl rfl (J.nil (N.seq (W.seq ?_))))
 (refine W.draw follows ?_)
 (refine JD.calm rfl (by decide +kernel) ?_)
 (refine Cx.fieldAddr rfl rfl ?_)
 (refine Cx.load rfl 0 rfl rfl rfl ?_)
 (refine Cx.numByte x.kind.toNat rfl rfl hkn rfl ?_)
 (refine SegC.q (Qs.buildBytes [UInt8.ofNat x.kind.toNat] rfl rfl rfl (by decide) (by decide)) rfl ?_)
 (refine Cx.bytesStr rfl rfl ?_)
 (refine Cx.fieldAddr rfl rfl ?_)
 (refine Cx.load rfl 0 rfl rfl rfl ?_)
 (refine SegC.q (Qs.call (Lc := []) (c2) (fun s L' h => h) (List.Perm.refl _) (evs_args rfl)) rfl ?_)
 (refine Cx.cat rfl rfl (by first | omega | (simp only [List.length_append, List.length_cons, List.length_nil]; omega)) rfl ?_)
 (refine Cx.fieldAddr rfl rfl ?_)
 (refine Cx.load rfl 0 rfl rfl rfl ?_)
 (refine SegC.q (Qs.call (Lc := []) (c1) (fun s L' h => h) (List.Perm.refl _) (evs_args rfl)) rfl ?_)
 (refine Cx.cat rfl rfl (by first | omega | (simp only [List.length_append, List.length_cons, List.length_nil]; omega)) rfl ?_)
 (refine Cx.assign rfl rfl ?_)
 (refine SegC.nil ?_)
 (refine N.seq (W.seq (W.region (Jx.fieldAddr rfl rfl ?_))))
 (refine Jx.load rfl 0 rfl rfl rfl ?_)
 (refine J.nil (N.seq (W.block (W.seq (W.region (Jx.eqlI rfl rfl rfl (Jx.assign rfl rfl (J.nil (N.seq ?_)))))))))
 (refine id ?_; rotate_left))
  refine W.cond rfl (fun h1 => ?_) (fun h1 => ?_)
  · have h1 := of_decide_eq_true h1
    obtain ⟨⟨a1, a2, a3, a4⟩, _⟩ := hF.k1 h1
    have hb : bodyTx x = textB x.to_ ++ numB x.amount.toNat := by rw [bodyTx, if_pos h1]
    have c3 := number_ok x.amount.toNat (by omega)
    rw [Int.toNat_of_nonneg (by omega)] at c3
    have c4 := rtext_ok x.to_ (by omega)
    have l3 := numB9 a4
    have l4 := textB_len a2 (by omega)
    rw [hb]
    generalize textB x.to_ = tt at *
    generalize numB x.amount.toNat = na at *
    focus (
 (refine W.seq ?_)
 (refine W.draw follows ?_)
 (refine JD.calm rfl (by decide +kernel) ?_)
 (refine Cx.move rfl rfl ?_)
 (refine Cx.fieldAddr rfl rfl ?_)
 (refine Cx.load rfl 0 rfl rfl rfl ?_)
 (refine SegC.q (Qs.call (Lc := []) (c4) (fun s L' h => h) (List.Perm.refl _) (evs_args rfl)) rfl ?_)
 (refine Cx.cat rfl rfl (by first | omega | (simp only [List.length_append, List.length_cons, List.length_nil]; omega)) rfl ?_)
 (refine Cx.fieldAddr rfl rfl ?_)
 (refine Cx.load rfl 0 rfl rfl rfl ?_)
 (refine SegC.q (Qs.call (Lc := []) (c3) (fun s L' h => h) (List.Perm.refl _) (evs_args rfl)) rfl ?_)
 (refine Cx.cat rfl rfl (by first | omega | (simp only [List.length_append, List.length_cons, List.length_nil]; omega)) rfl ?_)
 (refine Cx.assign rfl rfl ?_)
 (refine SegC.nil ?_)
 (refine N.seq (W.ret (N.blockRet ?_)))
 (refine id ?_; rotate_left))
    exact N.retD (rs := [.tmp 2]) (L1 := []) rfl (.tmp rfl .nil) (List.nil_sublist _) ⟨congrArg str (by simp only [List.append_assoc]), rfl⟩
  · have h1 := of_decide_eq_false h1
    focus (
 (refine W.seq (W.region (Jx.eqlI rfl rfl rfl (Jx.assign rfl rfl (J.nil (N.seq ?_))))))
 (refine id ?_; rotate_left))
    refine W.cond rfl (fun h2 => ?_) (fun h2 => ?_)
    · have h2 := of_decide_eq_true h2
      obtain ⟨⟨a1, a2, a3, a4⟩, _⟩ := hF.k2 h2
      have hb : bodyTx x = textB x.key ++ textB x.value := by rw [bodyTx, if_neg h1, if_pos h2]
      have c3 := rtext_ok x.key (by omega)
      have c4 := rtext_ok x.value (by omega)
      have l3 := textB_len a2 (by omega)
      have l4 := textB_len a4 (by omega)
      rw [hb]
      generalize textB x.key = tt at *
      generalize textB x.value = na at *
      focus (
 (refine W.seq ?_)
 (refine W.draw follows ?_)
 (refine JD.calm rfl (by decide +kernel) ?_)
 (refine Cx.move rfl rfl ?_)
 (refine Cx.fieldAddr rfl rfl ?_)
 (refine Cx.load rfl 0 rfl rfl rfl ?_)
 (refine SegC.q (Qs.call (Lc := []) (c3) (fun s L' h => h) (List.Perm.refl _) (evs_args rfl)) rfl ?_)
 (refine Cx.cat rfl rfl (by first | omega | (simp only [List.length_append, List.length_cons, List.length_nil]; omega)) rfl ?_)
 (refine Cx.fieldAddr rfl rfl ?_)
 (refine Cx.load rfl 0 rfl rfl rfl ?_)
 (refine SegC.q (Qs.call (Lc := []) (c4) (fun s L' h => h) (List.Perm.refl _) (evs_args rfl)) rfl ?_)
 (refine Cx.cat rfl rfl (by first | omega | (simp only [List.length_append, List.length_cons, List.length_nil]; omega)) rfl ?_)
 (refine Cx.assign rfl rfl ?_)
 (refine SegC.nil ?_)
 (refine N.seq (W.ret (N.blockRet ?_)))
 (refine id ?_; rotate_left))
      exact N.retD (rs := [.tmp 2]) (L1 := []) rfl (.tmp rfl .nil) (List.nil_sublist _) ⟨congrArg str (by simp only [List.append_assoc]), rfl⟩
    · have h2 := of_decide_eq_false h2
      focus (
 (refine W.seq (W.region (Jx.eqlI rfl rfl rfl (Jx.assign rfl rfl (J.nil (N.seq ?_))))))
 (refine id ?_; rotate_left))
      refine W.cond rfl (fun h3 => ?_) (fun h3 => ?_)
      · have h3 := of_decide_eq_true h3
        obtain ⟨⟨a1, a2⟩, _⟩ := hF.k3 h3
        have hb : bodyTx x = textB x.key := by rw [bodyTx, if_neg h1, if_neg h2, if_pos h3]
        have c3 := rtext_ok x.key (by omega)
        have l3 := textB_len a2 (by omega)
        rw [hb]
        generalize textB x.key = tt at *
        focus (
 (refine W.seq (W.region (Jx.move rfl rfl (Jx.fieldAddr rfl rfl ?_))))
 (refine Jx.load rfl 0 rfl rfl rfl ?_)
 (refine J.call (c3) rfl (evs_args rfl) rfl ?_; rintro _ _ ⟨rfl, rfl⟩; simp only [la1, la2, la3])
 (refine Jx.cat rfl rfl (by first | omega | (simp only [List.length_append, List.length_cons, List.length_nil]; omega)) rfl ?_)
 (refine Jx.assign rfl rfl (J.nil (N.seq (W.ret (N.blockRet ?_)))))
 (refine id ?_; rotate_left))
        exact N.retD (rs := [.tmp 2]) (L1 := []) rfl (.tmp rfl .nil) (List.nil_sublist _) ⟨rfl, rfl⟩
      · have h3 := of_decide_eq_false h3
        have h4 : x.kind = 4 := by omega
        have a1 := (hF.k4 h4).1
        have hb : bodyTx x = textB (encSet x.members) := by rw [bodyTx, if_neg h1, if_neg h2, if_neg h3]
        have c3 := rpencode_ok x.members
        rw [a1, encO, if_pos a1] at c3
        have hl := encSet_len a1
        have c4 := rtext_ok (encSet x.members) (by omega)
        have l3 := textB_len hl (by omega)
        rw [hb]
        generalize textB (encSet x.members) = tt at *
        generalize encSet x.members = es at *
        focus (
 (refine W.seq (W.region (Jx.fieldAddr rfl rfl ?_)))
 (refine Jx.load rfl 0 rfl rfl rfl ?_)
 (refine J.call (c3) rfl (evs_args rfl) rfl ?_; rintro _ _ ⟨rfl, rfl⟩; simp only [la1, la2, la3])
 (refine Jx.move rfl rfl (Jx.extract rfl rfl rfl ?_))
 (refine Jx.extract rfl rfl rfl ?_)
 (refine Jx.assign rfl rfl (Jx.assign rfl rfl (J.nil (N.seq (W.seq (W.region (Jx.move rfl rfl (Jx.move rfl rfl ?_))))))))
 (refine J.call (c4) rfl (evs_args rfl) rfl ?_; rintro _ _ ⟨rfl, rfl⟩; simp only [la1, la2, la3])
 (refine Jx.cat rfl rfl (by first | omega | (simp only [List.length_append, List.length_cons, List.length_nil]; omega)) rfl ?_)
 (refine Jx.assign rfl rfl (J.nil (N.seq (W.ret (N.blockRet ?_)))))
 (refine id ?_; rotate_left))
        exact N.retD (rs := [.tmp 2]) (L1 := []) rfl (.tmp rfl .nil) (List.nil_sublist _) ⟨rfl, rfl⟩
set_option maxHeartbeats 2000000 in
theorem sameT_ok (x y : Tx) (hb : x.members.length ≤ 1048576) : FnC Tryz.prog 91 [.agg (txC x), .agg (txC y)] [] (fun v L => v = bool (decide (x = y)) ∧ L = []) := by
  have c := sameM_ok x.members y.members hb
  refine FnC.intro Tryz.func91 rfl Tryz.ntmps91 rfl fun Z w0 hG => ?_
  focus (
 (refine W.seq (W.region ?_))
 (refine J.boxAg rfl rfl ?_; intro b')
 (refine J.boxAg rfl rfl ?_; intro b')
 (refine Jx.assign rfl rfl (J.nil (N.seq (W.seq (W.seq (W.region (Jx.fieldAddr rfl rfl ?_)))))))
 (refine Jx.load rfl 1 rfl rfl rfl ?_)
 (refine Jx.fieldAddr rfl rfl ?_)
 (refine Jx.load rfl 0 rfl rfl rfl ?_)
 (refine Jx.neqI rfl rfl rfl (Jx.move rfl rfl ?_))
 (refine' J.guardOr rfl rfl rfl rfl rfl rfl rfl rfl (fun _ => ?_) ?_; rotate_left)
 (refine J.gY rfl rfl rfl ?_)
 (refine Jx.fieldAddr rfl rfl ?_)
 (refine J.gY rfl rfl rfl ?_)
 (refine Jx.load rfl 1 rfl rfl rfl ?_)
 (refine J.gY rfl rfl rfl ?_)
 (refine Jx.fieldAddr rfl rfl ?_)
 (refine J.gY rfl rfl rfl ?_)
 (refine Jx.load rfl 0 rfl rfl rfl ?_)
 (refine J.gY rfl rfl rfl ?_)
 (refine Jx.neqS rfl rfl rfl (J.nil ?_))
 (refine N.joinedN rfl rfl rfl)
 (refine Jx.move rfl rfl ?_)
 (refine' J.guardOr rfl rfl rfl rfl rfl rfl rfl rfl (fun _ => ?_) ?_; rotate_left)
 (refine J.gY rfl rfl rfl ?_)
 (refine Jx.fieldAddr rfl rfl ?_)
 (refine J.gY rfl rfl rfl ?_)
 (refine Jx.load rfl 1 rfl rfl rfl ?_)
 (refine J.gY rfl rfl rfl ?_)
 (refine Jx.fieldAddr rfl rfl ?_)
 (refine J.gY rfl rfl rfl ?_)
 (refine Jx.load rfl 0 rfl rfl rfl ?_)
 (refine J.gY rfl rfl rfl ?_)
 (refine Jx.neqI rfl rfl rfl (J.nil ?_))
 (refine N.joinedN rfl rfl rfl)
 (refine Jx.move rfl rfl ?_)
 (refine' J.guardOr rfl rfl rfl rfl rfl rfl rfl rfl (fun _ => ?_) ?_; rotate_left)
 (refine J.gY rfl rfl rfl ?_)
 (refine Jx.fieldAddr rfl rfl ?_)
 (refine J.gY rfl rfl rfl ?_)
 (refine Jx.load rfl 1 rfl rfl rfl ?_)
 (refine J.gY rfl rfl rfl ?_)
 (refine Jx.fieldAddr rfl rfl ?_)
 (refine J.gY rfl rfl rfl ?_)
 (refine Jx.load rfl 0 rfl rfl rfl ?_)
 (refine J.gY rfl rfl rfl ?_)
 (refine Jx.neqS rfl rfl rfl (J.nil ?_))
 (refine N.joinedN rfl rfl rfl)
 (refine Jx.move rfl rfl ?_)
 (refine' J.guardOr rfl rfl rfl rfl rfl rfl rfl rfl (fun _ => ?_) ?_; rotate_left)
 (refine J.gY rfl rfl rfl ?_)
 (refine Jx.fieldAddr rfl rfl ?_)
 (refine J.gY rfl rfl rfl ?_)
 (refine Jx.load rfl 1 rfl rfl rfl ?_)
 (refine J.gY rfl rfl rfl ?_)
 (refine Jx.fieldAddr rfl rfl ?_)
 (refine J.gY rfl rfl rfl ?_)
 (refine Jx.load rfl 0 rfl rfl rfl ?_)
 (refine J.gY rfl rfl rfl ?_)
 (refine Jx.neqI rfl rfl rfl (J.nil ?_))
 (refine N.joinedN rfl rfl rfl)
 (refine Jx.move rfl rfl ?_)
 (refine' J.guardOr rfl rfl rfl rfl rfl rfl rfl rfl (fun _ => ?_) ?_; rotate_left)
 (refine J.gY rfl rfl rfl ?_)
 (refine Jx.fieldAddr rfl rfl ?_)
 (refine J.gY rfl rfl rfl ?_)
 (refine Jx.load rfl 1 rfl rfl rfl ?_)
 (refine J.gY rfl rfl rfl ?_)
 (refine Jx.fieldAddr rfl rfl ?_)
 (refine J.gY rfl rfl rfl ?_)
 (refine Jx.load rfl 0 rfl rfl rfl ?_)
 (refine J.gY rfl rfl rfl ?_)
 (refine Jx.neqS rfl rfl rfl (J.nil ?_))
 (refine N.joinedN rfl rfl rfl)
 (refine Jx.move rfl rfl ?_)
 (refine' J.guardOr rfl rfl rfl rfl rfl rfl rfl rfl (fun _ => ?_) ?_; rotate_left)
 (refine J.gY rfl rfl rfl ?_)
 (refine Jx.fieldAddr rfl rfl ?_)
 (refine J.gY rfl rfl rfl ?_)
 (refine Jx.load rfl 1 rfl rfl rfl ?_)
 (refine J.gY rfl rfl rfl ?_)
 (refine Jx.fieldAddr rfl rfl ?_)
 (refine J.gY rfl rfl rfl ?_)
 (refine Jx.load rfl 0 rfl rfl rfl ?_)
 (refine J.gY rfl rfl rfl ?_)
 (refine Jx.neqS rfl rfl rfl (J.nil ?_))
 (refine N.joinedN rfl rfl rfl)
 (refine J.nil (N.seq ?_))
 (refine id ?_; rotate_left))
  refine W.cond rfl (fun hb => ?_) (fun hb => ?_)
  · have hne : x ≠ y := fun e => by subst e; simp at hb
    focus (
 (refine W.seq (W.region (Jx.assign rfl rfl (J.nil (N.seq (W.ret (N.seqRet ?_)))))))
 (refine id ?_; rotate_left))
    exact N.retD (rs := [.tmp 4]) (L1 := []) rfl (.tmp rfl .nil) (List.nil_sublist _) ⟨by rw [decide_eq_false hne]; rfl, rfl⟩
  · simp only [Bool.or_eq_false_iff, decide_eq_false_iff_not, Classical.not_not] at hb
    obtain ⟨⟨⟨⟨⟨⟨e1, e2⟩, e3⟩, e4⟩, e5⟩, e6⟩, e7⟩ := hb
    have he : decide (x.members = y.members) = decide (x = y) := by
      by_cases h : x.members = y.members
      · rw [decide_eq_true h, decide_eq_true (Tx.ext' e1 e2 e3 e4 e5 e6 e7 h)]
      · rw [decide_eq_false h, decide_eq_false fun e => h (by rw [e])]
    focus (
 (refine W.skip (N.seq (W.seq (W.region (Jx.fieldAddr rfl rfl ?_)))))
 (refine Jx.load rfl 1 rfl rfl rfl ?_)
 (refine Jx.fieldAddr rfl rfl ?_)
 (refine Jx.load rfl 0 rfl rfl rfl ?_)
 (refine J.call (c) rfl (evs_args rfl) rfl ?_; rintro _ _ ⟨rfl, rfl⟩; simp only [la1, la2, la3])
 (refine Jx.assign rfl rfl (J.nil (N.seq (W.ret ?_))))
 (refine id ?_; rotate_left))
    exact N.retD (rs := [.tmp 4]) (L1 := []) rfl (.tmp rfl .nil) (List.nil_sublist _) ⟨by rw [he]; rfl, rfl⟩
end Go.Proofs.YtlfdhkahiaammaaGreatDoor
namespace Go.Proofs.YtlfdhkahiaammaaGreatDoor
open Go Go.Sse
set_option linter.unusedVariables false
set_option linter.unusedSimpArgs false
set_option maxRecDepth 10000
abbrev txz : List SV := [int 0, str [], int 0, str [], int 0, str [], str [], .val (.slice none 0 0)]
theorem txz_sub : SubL txz (txC tx0) := .cons (.refl _) (.cons (.refl _) (.cons (.refl _) (.cons (.refl _) (.cons (.refl _) (.cons (.refl _) (.cons (.refl _) (.cons (Sub.nil 2 _) .nil)))))))
theorem tx_sub (k q a : Int) (f t ky v : List UInt8) : SubL [int k, str f, int q, str t, int a, str ky, str v, .val (.slice none 0 0)] (txC ⟨k, f, q, t, a, ky, v, []⟩) := .cons (.refl _) (.cons (.refl _) (.cons (.refl _) (.cons (.refl _) (.cons (.refl _) (.cons (.refl _) (.cons (.refl _) (.cons (Sub.nil 2 _) .nil)))))))
theorem agTx : TAg Tryz.prog tTx 8 := inferInstance
def kdOf (k : List UInt8) : Int := (((k.getD 0 0).toNat : Nat) : Int)
theorem lf_len {s l : List UInt8} {a : Nat} {c : Int} (h : lf s a c = some l) : l.length ≤ s.length := by
  unfold lf at h
  split at h
  · simp only [Option.some.injEq] at h
    rw [← h, List.length_drop]; omega
  · cases h
theorem bound_text {m : Int} {s t : List UInt8} {a : Nat} {c : Int} {st : PSt} (h : textP m (lf s a c) = (t, st)) : t.length ≤ s.length := by
  cases st with
  | none => rw [textP_short h]; simp
  | some r =>
    have h1 := (textP_good h).1
    have h2 := lf_len h1
    rw [List.length_append, textB, List.length_append] at h2
    omega
set_option maxHeartbeats 4000000 in
theorem tdecode_ok (s : List UInt8) (hs : s.length ≤ 1099511627776) : FnC Tryz.prog 117 [str s] [] (fun v L => (∃ o, DecR fineTx encTx s o ∧ v = .tup [.agg (txC (o.getD tx0)), int (codeO o 150)]) ∧ L = []) := by
  have c0 := read_ok s
  have c1 := fun b => rd_Bytes b s 0 0 1 (Nat.zero_le _) hs
  refine FnC.intro Tryz.func117 rfl Tryz.ntmps117 rfl fun Z w0 hG => ?_
  focus (
 (refine W.seq (W.region ?_))
 (refine J.alloc (by simp only [List.map_cons, List.map_nil]; rfl) rfl rfl ?_; intro b')
 (refine Jx.assign rfl rfl (J.nil (N.seq (W.seq (W.region (Jx.move rfl rfl ?_))))))
 (refine J.call (Lc := []) c0 rfl (evs_args rfl) rfl ?_; rintro _ _ ⟨b, rfl, rfl⟩; simp only [la1, la2, la3])
 (refine Jx.assign rfl rfl (J.nil (N.seq (W.seq (W.region ?_)))))
 (refine J.alloc (by simp only [List.map_cons, List.map_nil]; rfl) rfl rfl ?_; intro b')
 (refine J.nil (N.seq (W.seq (W.seq (W.region (Jx.move rfl rfl ?_))))))
 (refine J.call1 1 ((c1 _)) rfl (evs_args rfl) rfl (by rintro _ _ ⟨k, a1, c1', rfl, rfl, ha1, hk⟩; exact ⟨_, rfl⟩) ?_; rintro _ _ ⟨k, a1, c1', rfl, ⟨⟩, ha1, hk⟩; simp only [la4, la5])
 (refine Jx.assign rfl rfl (J.nil (N.seq (W.seq (W.region (Jx.move rfl rfl (Jx.neqS rfl rfl rfl (J.nil (N.seq ?_)))))))))
 (refine id ?_; rotate_left))
  rename_i p2
  refine W.joinE (α := Unit) (fun _ => [(4, ptr b), (5, ptr b'), (2, ptr p2)]) (fun _ => [.obj b' tTx [int (kdOf k), str [], int 0, str [], int 0, str [], str [], .val (.slice none 0 0)], rdO b ⟨s, a1, c1'⟩, .obj p2 tTx txz]) (fun _ => True) ?_ ?_
  · refine W.cond rfl (fun h1 => ?_) (fun h1 => ?_)
    · have h1 := of_decide_eq_true h1
      have hl : (0 : Int) < (k.length : Int) := by have := List.length_pos_iff.2 h1; omega
      focus (
 (refine W.region (Jx.move rfl rfl ?_))
 (refine Jx.indexS (m := 0) rfl rfl (by decide) hl rfl ?_)
 (refine Jx.byteNum rfl rfl rfl ?_)
 (refine Jx.fieldAddr rfl rfl ?_)
 (refine J.st 0 rfl rfl rfl rfl rfl rfl ?_)
 (refine J.nil ?_)
 (refine id ?_; rotate_left))
      exact N.joinE () trivial rfl ⟨ref0 rfl, ref0 rfl, ref0 rfl, trivial⟩
    · have h1 : k = [] := by have := of_decide_eq_false h1; exact Classical.not_not.1 this
      focus (
 (refine W.skip ?_)
 (refine id ?_; rotate_left))
      exact N.joinE () trivial (by rw [h1]; rfl) ⟨ref0 rfl, ref0 rfl, ref0 rfl, trivial⟩
  · intro _ _
    have c2 := rd_Text b s a1 c1' 6 ha1 hs
    generalize hkd : kdOf k = kd at *
    focus (
 (refine N.seq (W.seq (W.region (Jx.move rfl rfl ?_))))
 (refine J.call1 1 (c2) rfl (evs_args rfl) rfl (by rintro _ _ ⟨f, a2, c2', rfl, rfl, ha2, hf⟩; exact ⟨_, rfl⟩) ?_; rintro _ _ ⟨f, a2, c2', rfl, ⟨⟩, ha2, hf⟩; simp only [la4, la5])
 (refine Jx.fieldAddr rfl rfl ?_)
 (refine J.st 0 rfl rfl rfl rfl rfl rfl ?_)
 (refine J.nil (N.seq (W.seq (W.region (Jx.move rfl rfl ?_)))))
 (refine J.call1 1 ((rd_Num b s a2 c2' ha2 hs)) rfl (evs_args rfl) rfl (by rintro _ _ ⟨q, a3, c3', rfl, rfl, ha3, hql, hq⟩; exact ⟨_, rfl⟩) ?_; rintro _ _ ⟨q, a3, c3', rfl, ⟨⟩, ha3, hql, hq⟩; simp only [la4, la5])
 (refine Jx.fieldAddr rfl rfl ?_)
 (refine J.st 0 rfl rfl rfl rfl rfl rfl ?_)
 (refine J.nil (N.seq (W.seq (W.seq (W.region (Jx.fieldAddr rfl rfl ?_))))))
 (refine Jx.load rfl 0 rfl rfl rfl ?_)
 (refine J.nil (N.seq ?_))
 (refine id ?_; rotate_left))
    refine W.joinE (α := Tx × Nat × Int) (fun x => [(4, ptr b), (5, ptr b'), (2, ptr p2)]) (fun x => [.obj b' tTx (txC x.1), rdO b ⟨s, x.2.1, x.2.2⟩, .obj p2 tTx txz]) (fun x => x.2.1 ≤ s.length ∧ ReadT 6 6 8 32 65536 s x.1 (lf s x.2.1 x.2.2)) ?_ ?_
    · have mk : ∀ (x : Tx) st, x.kind = kd → x.from_ = f → x.seq = (q : Int) → TailR 6 8 32 65536 x (lf s a3 c3') st → ReadT 6 6 8 32 65536 s x st := fun x st h1 h2 h3 h4 =>
        ⟨k, _, _, _, q, hk, by rw [h1, ← hkd]; rfl, by rw [h2]; exact hf, hq, h3, h4⟩
      by_cases e1 : kd = 1
      · focus (
 (refine W.block (W.seq (W.region (Jx.eqlI rfl rfl rfl (Jx.assign rfl rfl (J.nil (N.seq (W.cT rfl ?_))))))))
 (refine W.seq (W.region (Jx.move rfl rfl ?_)))
 (refine J.call1 1 ((rd_Text b s a3 c3' 6 ha3 hs)) rfl (evs_args rfl) rfl (by rintro _ _ ⟨t, a4, c4', rfl, rfl, ha4, ht⟩; exact ⟨_, rfl⟩) ?_; rintro _ _ ⟨t, a4, c4', rfl, ⟨⟩, ha4, ht⟩; simp only [la4, la5])
 (refine Jx.fieldAddr rfl rfl ?_)
 (refine J.st 0 rfl rfl rfl rfl rfl rfl ?_)
 (refine J.nil (N.seq (W.region (Jx.move rfl rfl ?_))))
 (refine J.call1 1 ((rd_Num b s a4 c4' ha4 hs)) rfl (evs_args rfl) rfl (by rintro _ _ ⟨n, a5, c5', rfl, rfl, ha5, hnl, hn⟩; exact ⟨_, rfl⟩) ?_; rintro _ _ ⟨n, a5, c5', rfl, ⟨⟩, ha5, hnl, hn⟩; simp only [la4, la5])
 (refine Jx.fieldAddr rfl rfl ?_)
 (refine J.st 0 rfl rfl rfl rfl rfl rfl ?_)
 (refine J.nil (N.blockNormal ?_))
 (refine id ?_; rotate_left))
        refine N.objSub 0 (txC ⟨kd, f, q, t, n, [], [], []⟩) rfl (tx_sub _ _ _ _ _ _ _) rfl ?_
        exact N.joinE (⟨kd, f, q, t, n, [], [], []⟩, a5, c5') ⟨ha5, mk _ _ rfl rfl rfl (by unfold TailR; rw [if_pos (by exact e1)]; exact ⟨⟨_, n, ht, hn, rfl⟩, rfl, rfl, rfl⟩)⟩ rfl ⟨ref0 rfl, ref0 rfl, ref0 rfl, trivial⟩
      · by_cases e2 : kd = 2
        · focus (
 (refine W.block (W.seq (W.region (Jx.eqlI rfl rfl rfl (Jx.assign rfl rfl (J.nil (N.seq (W.cF rfl ?_))))))))
 (refine W.seq (W.region (Jx.eqlI rfl rfl rfl (Jx.assign rfl rfl (J.nil (N.seq (W.cT rfl ?_)))))))
 (refine W.seq (W.region (Jx.move rfl rfl ?_)))
 (refine J.call1 1 ((rd_Text b s a3 c3' 8 ha3 hs)) rfl (evs_args rfl) rfl (by rintro _ _ ⟨t, a4, c4', rfl, rfl, ha4, ht⟩; exact ⟨_, rfl⟩) ?_; rintro _ _ ⟨t, a4, c4', rfl, ⟨⟩, ha4, ht⟩; simp only [la4, la5])
 (refine Jx.fieldAddr rfl rfl ?_)
 (refine J.st 0 rfl rfl rfl rfl rfl rfl ?_)
 (refine J.nil (N.seq (W.region (Jx.move rfl rfl ?_))))
 (refine J.call1 1 ((rd_Text b s a4 c4' 32 ha4 hs)) rfl (evs_args rfl) rfl (by rintro _ _ ⟨n, a5, c5', rfl, rfl, ha5, hn⟩; exact ⟨_, rfl⟩) ?_; rintro _ _ ⟨n, a5, c5', rfl, ⟨⟩, ha5, hn⟩; simp only [la4, la5])
 (refine Jx.fieldAddr rfl rfl ?_)
 (refine J.st 0 rfl rfl rfl rfl rfl rfl ?_)
 (refine J.nil (N.blockNormal ?_))
 (refine id ?_; rotate_left))
          refine N.objSub 0 (txC ⟨kd, f, q, [], 0, t, n, []⟩) rfl (tx_sub _ _ _ _ _ _ _) rfl ?_
          exact N.joinE (⟨kd, f, q, [], 0, t, n, []⟩, a5, c5') ⟨ha5, mk _ _ rfl rfl rfl (by unfold TailR; rw [if_neg (by exact e1), if_pos (by exact e2)]; exact ⟨⟨_, ht, hn⟩, rfl, rfl, rfl⟩)⟩ rfl ⟨ref0 rfl, ref0 rfl, ref0 rfl, trivial⟩
        · by_cases e3 : kd = 3
          · focus (
 (refine W.block (W.seq (W.region (Jx.eqlI rfl rfl rfl (Jx.assign rfl rfl (J.nil (N.seq (W.cF rfl ?_))))))))
 (refine W.seq (W.region (Jx.eqlI rfl rfl rfl (Jx.assign rfl rfl (J.nil (N.seq (W.cF rfl ?_)))))))
 (refine W.seq (W.region (Jx.eqlI rfl rfl rfl (Jx.assign rfl rfl (J.nil (N.seq (W.cT rfl ?_)))))))
 (refine W.region (Jx.move rfl rfl ?_))
 (refine J.call1 1 ((rd_Text b s a3 c3' 8 ha3 hs)) rfl (evs_args rfl) rfl (by rintro _ _ ⟨t, a4, c4', rfl, rfl, ha4, ht⟩; exact ⟨_, rfl⟩) ?_; rintro _ _ ⟨t, a4, c4', rfl, ⟨⟩, ha4, ht⟩; simp only [la4, la5])
 (refine Jx.fieldAddr rfl rfl ?_)
 (refine J.st 0 rfl rfl rfl rfl rfl rfl ?_)
 (refine J.nil (N.blockNormal ?_))
 (refine id ?_; rotate_left))
            refine N.objSub 0 (txC ⟨kd, f, q, [], 0, t, [], []⟩) rfl (tx_sub _ _ _ _ _ _ _) rfl ?_
            exact N.joinE (⟨kd, f, q, [], 0, t, [], []⟩, a4, c4') ⟨ha4, mk _ _ rfl rfl rfl (by unfold TailR; rw [if_neg (by exact e1), if_neg (by exact e2), if_pos (by exact e3)]; exact ⟨ht, rfl, rfl, rfl, rfl⟩)⟩ rfl ⟨ref0 rfl, ref0 rfl, ref0 rfl, trivial⟩
          · by_cases e4 : kd = 4
            · focus (
 (refine W.block (W.seq (W.region (Jx.eqlI rfl rfl rfl (Jx.assign rfl rfl (J.nil (N.seq (W.cF rfl ?_))))))))
 (refine W.seq (W.region (Jx.eqlI rfl rfl rfl (Jx.assign rfl rfl (J.nil (N.seq (W.cF rfl ?_)))))))
 (refine W.seq (W.region (Jx.eqlI rfl rfl rfl (Jx.assign rfl rfl (J.nil (N.seq (W.cF rfl ?_)))))))
 (refine W.seq (W.region (Jx.eqlI rfl rfl rfl (Jx.assign rfl rfl (J.nil (N.seq (W.cT rfl ?_)))))))
 (refine W.region (Jx.move rfl rfl ?_))
 (refine J.call1 1 ((rd_Text b s a3 c3' 65536 ha3 hs)) rfl (evs_args rfl) rfl (by rintro _ _ ⟨t, a4, c4', rfl, rfl, ha4, ht⟩; exact ⟨_, rfl⟩) ?_; rintro _ _ ⟨t, a4, c4', rfl, ⟨⟩, ha4, ht⟩; simp only [la4, la5])
 (refine J.call (Lc := []) (pdecode_ok t (by have := bound_text ht; omega)) rfl (evs_args rfl) rfl ?_; rintro _ _ ⟨⟨o, ho, rfl⟩, rfl⟩; simp only [la1, la2, la3])
 (refine Jx.move rfl rfl (Jx.extract rfl rfl rfl ?_))
 (refine Jx.extract rfl rfl rfl ?_)
 (refine Jx.fieldAddr rfl rfl ?_)
 (refine J.st 0 rfl rfl rfl rfl rfl rfl ?_)
 (refine J.nil (N.blockNormal ?_))
 (refine id ?_; rotate_left))
              exact N.joinE (⟨kd, f, q, [], 0, [], [], o.getD []⟩, a4, c4') ⟨ha4, mk _ _ rfl rfl rfl (by unfold TailR; rw [if_neg (by exact e1), if_neg (by exact e2), if_neg (by exact e3), if_pos (by exact e4)]; exact ⟨⟨t, o, ht, ho, rfl⟩, rfl, rfl, rfl, rfl⟩)⟩ rfl ⟨ref0 rfl, ref0 rfl, ref0 rfl, trivial⟩
            · focus (
 (refine W.block (W.seq (W.region (Jx.eqlI rfl rfl rfl (Jx.assign rfl rfl (J.nil (N.seq (W.cF rfl ?_))))))))
 (refine W.seq (W.region (Jx.eqlI rfl rfl rfl (Jx.assign rfl rfl (J.nil (N.seq (W.cF rfl ?_)))))))
 (refine W.seq (W.region (Jx.eqlI rfl rfl rfl (Jx.assign rfl rfl (J.nil (N.seq (W.cF rfl ?_)))))))
 (refine W.seq (W.region (Jx.eqlI rfl rfl rfl (Jx.assign rfl rfl (J.nil (N.seq (W.cF rfl ?_)))))))
 (refine W.skip (N.blockNormal ?_))
 (refine id ?_; rotate_left))
              refine N.objSub 0 (txC ⟨kd, f, q, [], 0, [], [], []⟩) rfl (tx_sub _ _ _ _ _ _ _) rfl ?_
              exact N.joinE (⟨kd, f, q, [], 0, [], [], []⟩, a3, c3') ⟨ha3, mk _ _ rfl rfl rfl (by unfold TailR; rw [if_neg (by exact e1), if_neg (by exact e2), if_neg (by exact e3), if_neg (by exact e4)]; trivial)⟩ rfl ⟨ref0 rfl, ref0 rfl, ref0 rfl, trivial⟩
    · rintro ⟨x, a, c⟩ ⟨ha, hr⟩
      simp only at ha hr ⊢
      have ce := rd_End b s a c ha hs
      have ck := tcheck_ok x
      focus (
 (refine N.seq (W.seq (W.seq (W.region (Jx.move rfl rfl ?_)))))
 (refine J.call1 1 (ce) rfl (evs_args rfl) rfl (by rintro _ _ ⟨e, a4, c4, rfl, rfl, he⟩; exact ⟨_, rfl⟩) ?_; rintro _ _ ⟨e, a4, c4, rfl, ⟨⟩, he⟩; simp only [la4, la5])
 (refine Jx.neqI rfl rfl rfl (Jx.move rfl rfl ?_))
 (refine' J.guardOr rfl rfl rfl rfl rfl rfl rfl rfl (fun _ => ?_) ?_; rotate_left)
 (refine J.gY rfl rfl rfl ?_)
 (refine Jx.loadAll rfl 0 rfl rfl rfl ?_)
 (refine J.gY rfl rfl rfl ?_)
 (refine J.cP ck (evs_args rfl) rfl ?_; try simp only)
 (refine J.gY rfl rfl rfl ?_)
 (refine Jx.neqI rfl rfl rfl (J.nil ?_))
 (refine N.joinedN rfl rfl rfl)
 (refine J.nil (N.seq ?_))
 (refine id ?_; rotate_left))
      refine W.cond rfl (fun hb => ?_) (fun hb => ?_)
      · focus (
 (refine W.seq (W.region (Jx.buildB rfl rfl rfl rfl rfl ?_)))
 (refine J.storeAll rfl rfl rfl 2 rfl rfl rfl ?_)
 (refine Jx.assign rfl rfl (J.nil (N.seq (W.ret (N.seqRet ?_)))))
 (refine id ?_; rotate_left))
        refine N.objSub 2 (txC tx0) rfl txz_sub rfl ?_
        refine N.retD (rs := [.cell 2 tTx, .tmp 3]) (L1 := []) rfl (.cell rfl 2 rfl agTx (.tmp rfl .nil)) (List.nil_sublist _) ⟨⟨none, fun y hy hz => ?_, rfl⟩, rfl⟩
        obtain ⟨rfl, h2⟩ := hr.whole (by decide) (by decide) (by decide) (by decide) (by decide) hy hz
        rw [he.2 h2, hy] at hb
        simp at hb
      · focus (
 (refine W.skip (N.seq (W.seq (W.region (Jx.loadAll rfl 0 rfl rfl rfl ?_)))))
 (refine J.storeAll rfl rfl rfl 2 rfl rfl rfl ?_)
 (refine Jx.assign rfl rfl (J.nil (N.seq (W.ret ?_))))
 (refine id ?_; rotate_left))
        refine N.retD (rs := [.cell 2 tTx, .tmp 3]) (L1 := []) rfl (.cell rfl 2 rfl agTx (.tmp rfl .nil)) (List.nil_sublist _) ⟨⟨some x, ?_, rfl⟩, rfl⟩
        simp only [Bool.or_eq_false_iff, decide_eq_false_iff_not] at hb
        have hf : fineTx x = true := by
          cases hf : fineTx x with
          | true => rfl
          | false => rw [hf] at hb; simp at hb
        rw [he.1 (by omega)] at hr
        exact ⟨hf, hr.sound hf⟩
end Go.Proofs.YtlfdhkahiaammaaGreatDoor
namespace Go.Proofs.YtlfdhkahiaammaaGreatDoor
open Go Go.Sse
set_option linter.unusedVariables false
set_option linter.unusedSimpArgs false
set_option maxRecDepth 10000
theorem rf_len {s s' : List UInt8} {c c' : Int} {m : Int} {t : List UInt8} (h : textP m (rf s c) = (t, rf s' c')) : t.length ≤ s.length := by
  cases hs : rf s' c' with
  | none => rw [hs] at h; rw [textP_short h]; simp
  | some r =>
    rw [hs] at h
    have h1 := (textP_good h).1
    unfold rf at h1
    split at h1
    · simp only [Option.some.injEq] at h1
      rw [h1, List.length_append, textB, List.length_append]; omega
    · cases h1
set_option maxHeartbeats 4000000 in
theorem rtdecode_ok (s : List UInt8) (hs : s.length ≤ 1099511627776) : FnC Tryz.prog 89 [str s] [] (fun v L => (∃ o, DecR fineTx encTx s o ∧ v = .tup [.agg (txC (o.getD tx0)), int (codeO o 150)]) ∧ L = []) := by
  refine FnC.intro Tryz.func89 rfl Tryz.ntmps89 rfl fun Z w0 hG => ?_
  match s, hs with
  | [], _ =>
    focus (
 (refine W.seq (W.region ?_))
 (refine J.alloc (by simp only [List.map_cons, List.map_nil]; rfl) rfl rfl ?_; intro b')
 (refine Jx.assign rfl rfl (J.nil (N.seq (W.seq (W.seq (W.region (Jx.move rfl rfl (Jx.eqlS rfl rfl rfl (J.nil (N.seq (W.cT rfl ?_)))))))))))
 (refine W.seq (W.region (Jx.buildB rfl rfl rfl rfl rfl ?_)))
 (refine J.storeAll rfl rfl rfl 0 rfl rfl rfl ?_)
 (refine Jx.assign rfl rfl (J.nil (N.seq (W.ret (N.seqRet ?_)))))
 (refine id ?_; rotate_left))
    refine N.objSub 0 (txC tx0) rfl txz_sub rfl ?_
    refine N.retD (rs := [.cell 2 tTx, .tmp 3]) (L1 := []) rfl (.cell rfl 0 rfl agTx (.tmp rfl .nil)) (List.nil_sublist _) ⟨⟨none, fun y hy hz => ?_, rfl⟩, rfl⟩
    simp [encTx] at hz
  | k0 :: s1, hs =>
    have hl0 : (0 : Int) < ((k0 :: s1).length : Int) := by simp only [List.length_cons]; omega
    have hl1 : (1 : Int) ≤ ((k0 :: s1).length : Int) := by simp only [List.length_cons]; omega
    have hg0 : (k0 :: s1).getD (Int.toNat 0) 0 = k0 := rfl
    have hne : ¬ (k0 :: s1) = [] := by simp
    have hd : (k0 :: s1).drop (Int.toNat 1) = s1 := rfl
    have hk : bytesP 1 (some (k0 :: s1)) = ([k0], rf s1 0) := by simp [bytesP, rf]
    have hs1 : s1.length ≤ 1099511627776 := by simp only [List.length_cons] at hs; omega
    generalize hst : k0 :: s1 = st at *
    clear hst
    generalize hkd : ((k0.toNat : Nat) : Int) = kd at *
    have c2 := fun b => r_Text b s1 0 100 hs1
    focus (
 (refine W.seq (W.region ?_))
 (refine J.alloc (by simp only [List.map_cons, List.map_nil]; rfl) rfl rfl ?_; intro b')
 (refine Jx.assign rfl rfl (J.nil (N.seq (W.seq (W.seq (W.region (Jx.move rfl rfl (Jx.eqlS rfl rfl rfl (J.nil (N.seq (W.cF rfl ?_)))))))))))
 (refine W.skip (N.seq (W.seq (W.region (Jx.move rfl rfl ?_)))))
 (refine Jx.sliceSl rfl rfl (by decide) hl1 rfl ?_; rw [hd])
 (refine Jx.buildB rfl rfl rfl rfl rfl ?_)
 (refine J.boxAg rfl rfl ?_; intro b')
 (refine Jx.assign rfl rfl (J.nil (N.seq (W.seq (W.region (Jx.move rfl rfl ?_))))))
 (refine Jx.indexS (m := 0) rfl rfl (by decide) hl0 rfl ?_; rw [hg0])
 (refine Jx.byteNum rfl rfl rfl ?_; rw [hkd])
 (refine Jx.buildB rfl rfl rfl rfl rfl ?_)
 (refine J.alloc (by simp only [List.map_cons, List.map_nil]; rfl) rfl rfl ?_; intro b')
 (refine J.storeAll rfl rfl rfl 0 rfl rfl rfl ?_)
 (refine J.nil (N.seq (W.seq (W.region (Jx.move rfl rfl ?_)))))
 (refine J.call1 1 ((c2 _)) rfl (evs_args rfl) rfl (by rintro _ _ ⟨f, s2, e2, rfl, rfl, hs2, hf⟩; exact ⟨_, rfl⟩) ?_; rintro _ _ ⟨f, s2, e2, rfl, ⟨⟩, hs2, hf⟩; simp only [la4, la5])
 (refine Jx.fieldAddr rfl rfl ?_)
 (refine J.st 0 rfl rfl rfl rfl rfl rfl ?_)
 (refine J.nil (N.seq (W.seq (W.region (Jx.move rfl rfl ?_)))))
 (refine J.call1 1 (r_Num _ s2 e2 (by omega)) rfl (evs_args rfl) rfl (by rintro _ _ ⟨q, s3, e3, rfl, rfl, hs3, hq⟩; exact ⟨_, rfl⟩) ?_; rintro _ _ ⟨q, s3, e3, rfl, ⟨⟩, hs3, hq⟩; simp only [la4, la5])
 (refine Jx.fieldAddr rfl rfl ?_)
 (refine J.st 0 rfl rfl rfl rfl rfl rfl ?_)
 (refine J.nil (N.seq (W.seq (W.seq (W.region (Jx.fieldAddr rfl rfl ?_))))))
 (refine Jx.load rfl 0 rfl rfl rfl ?_)
 (refine J.nil (N.seq ?_))
 (refine id ?_; rotate_left))
    rename_i p2 p4
    have mk : ∀ (x : Tx) st', x.kind = kd → x.from_ = f → x.seq = (q : Int) → TailR 100 100 100 100000 x (rf s3 e3) st' → ReadT 100 100 100 100 100000 st x st' := fun x st' h1 h2 h3 h4 =>
      ⟨[k0], _, _, _, q, hk, by rw [h1, ← hkd]; rfl, by rw [h2]; exact hf, hq, h3, h4⟩
    have wh : ∀ {x y : Tx} {st'}, ReadT 100 100 100 100 100000 st x st' → fineTx y = true → encTx y = st → x = y ∧ st' = some [] := fun h hy hz => h.whole (by decide) (by decide) (by decide) (by decide) (by decide) hy hz
    refine W.joinQ (α := Tx × List UInt8 × Int) (fun x => [(0, str st), (4, ptr p4), (5, ptr b'), (2, ptr p2)]) (fun x => [.obj b' tTx (txC x.1), rrO p4 x.2.1 x.2.2, .obj p2 tTx txz]) (fun x => ReadT 100 100 100 100 100000 st x.1 (rf x.2.1 x.2.2)) ?_ ?_
    · by_cases e1 : kd = 1
      · focus (
 (refine W.block (W.seq (W.region (Jx.eqlI rfl rfl rfl (Jx.assign rfl rfl (J.nil (N.seq (W.cT rfl ?_))))))))
 (refine W.seq (W.region (Jx.move rfl rfl ?_)))
 (refine J.call1 1 ((r_Text _ s3 e3 100 (by omega))) rfl (evs_args rfl) rfl (by rintro _ _ ⟨t, s4, e4, rfl, rfl, hs4, ht⟩; exact ⟨_, rfl⟩) ?_; rintro _ _ ⟨t, s4, e4, rfl, ⟨⟩, hs4, ht⟩; simp only [la4, la5])
 (refine Jx.fieldAddr rfl rfl ?_)
 (refine J.st 0 rfl rfl rfl rfl rfl rfl ?_)
 (refine J.nil (N.seq (W.region (Jx.move rfl rfl ?_))))
 (refine J.call1 1 ((r_Num _ s4 e4 (by omega))) rfl (evs_args rfl) rfl (by rintro _ _ ⟨n, s5, e5, rfl, rfl, hs5, hn⟩; exact ⟨_, rfl⟩) ?_; rintro _ _ ⟨n, s5, e5, rfl, ⟨⟩, hs5, hn⟩; simp only [la4, la5])
 (refine Jx.fieldAddr rfl rfl ?_)
 (refine J.st 0 rfl rfl rfl rfl rfl rfl ?_)
 (refine J.nil (N.blockNormal ?_))
 (refine id ?_; rotate_left))
        refine N.objSub 0 (txC ⟨kd, f, q, t, n, [], [], []⟩) rfl (tx_sub _ _ _ _ _ _ _) rfl ?_
        exact N.joinQ (⟨kd, f, q, t, n, [], [], []⟩, s5, e5) (mk _ _ rfl rfl rfl (by unfold TailR; rw [if_pos (by exact e1)]; exact ⟨⟨_, n, ht, hn, rfl⟩, rfl, rfl, rfl⟩)) rfl ⟨ref0 rfl, ref0 rfl, ref0 rfl, ref0 rfl, trivial⟩
      · by_cases e2' : kd = 2
        · focus (
 (refine W.block (W.seq (W.region (Jx.eqlI rfl rfl rfl (Jx.assign rfl rfl (J.nil (N.seq (W.cF rfl ?_))))))))
 (refine W.seq (W.region (Jx.eqlI rfl rfl rfl (Jx.assign rfl rfl (J.nil (N.seq (W.cT rfl ?_)))))))
 (refine W.seq (W.region (Jx.move rfl rfl ?_)))
 (refine J.call1 1 ((r_Text _ s3 e3 100 (by omega))) rfl (evs_args rfl) rfl (by rintro _ _ ⟨t, s4, e4, rfl, rfl, hs4, ht⟩; exact ⟨_, rfl⟩) ?_; rintro _ _ ⟨t, s4, e4, rfl, ⟨⟩, hs4, ht⟩; simp only [la4, la5])
 (refine Jx.fieldAddr rfl rfl ?_)
 (refine J.st 0 rfl rfl rfl rfl rfl rfl ?_)
 (refine J.nil (N.seq (W.region (Jx.move rfl rfl ?_))))
 (refine J.call1 1 ((r_Text _ s4 e4 100 (by omega))) rfl (evs_args rfl) rfl (by rintro _ _ ⟨n, s5, e5, rfl, rfl, hs5, hn⟩; exact ⟨_, rfl⟩) ?_; rintro _ _ ⟨n, s5, e5, rfl, ⟨⟩, hs5, hn⟩; simp only [la4, la5])
 (refine Jx.fieldAddr rfl rfl ?_)
 (refine J.st 0 rfl rfl rfl rfl rfl rfl ?_)
 (refine J.nil (N.blockNormal ?_))
 (refine id ?_; rotate_left))
          refine N.objSub 0 (txC ⟨kd, f, q, [], 0, t, n, []⟩) rfl (tx_sub _ _ _ _ _ _ _) rfl ?_
          exact N.joinQ (⟨kd, f, q, [], 0, t, n, []⟩, s5, e5) (mk _ _ rfl rfl rfl (by unfold TailR; rw [if_neg (by exact e1), if_pos (by exact e2')]; exact ⟨⟨_, ht, hn⟩, rfl, rfl, rfl⟩)) rfl ⟨ref0 rfl, ref0 rfl, ref0 rfl, ref0 rfl, trivial⟩
        · by_cases e3' : kd = 3
          · focus (
 (refine W.block (W.seq (W.region (Jx.eqlI rfl rfl rfl (Jx.assign rfl rfl (J.nil (N.seq (W.cF rfl ?_))))))))
 (refine W.seq (W.region (Jx.eqlI rfl rfl rfl (Jx.assign rfl rfl (J.nil (N.seq (W.cF rfl ?_)))))))
 (refine W.seq (W.region (Jx.eqlI rfl rfl rfl (Jx.assign rfl rfl (J.nil (N.seq (W.cT rfl ?_)))))))
 (refine W.region (Jx.move rfl rfl ?_))
 (refine J.call1 1 ((r_Text _ s3 e3 100 (by omega))) rfl (evs_args rfl) rfl (by rintro _ _ ⟨t, s4, e4, rfl, rfl, hs4, ht⟩; exact ⟨_, rfl⟩) ?_; rintro _ _ ⟨t, s4, e4, rfl, ⟨⟩, hs4, ht⟩; simp only [la4, la5])
 (refine Jx.fieldAddr rfl rfl ?_)
 (refine J.st 0 rfl rfl rfl rfl rfl rfl ?_)
 (refine J.nil (N.blockNormal ?_))
 (refine id ?_; rotate_left))
            refine N.objSub 0 (txC ⟨kd, f, q, [], 0, t, [], []⟩) rfl (tx_sub _ _ _ _ _ _ _) rfl ?_
            exact N.joinQ (⟨kd, f, q, [], 0, t, [], []⟩, s4, e4) (mk _ _ rfl rfl rfl (by unfold TailR; rw [if_neg (by exact e1), if_neg (by exact e2'), if_pos (by exact e3')]; exact ⟨ht, rfl, rfl, rfl, rfl⟩)) rfl ⟨ref0 rfl, ref0 rfl, ref0 rfl, ref0 rfl, trivial⟩
          · focus (
 (refine W.block (W.seq (W.region (Jx.eqlI rfl rfl rfl (Jx.assign rfl rfl (J.nil (N.seq (W.cF rfl ?_))))))))
 (refine W.seq (W.region (Jx.eqlI rfl rfl rfl (Jx.assign rfl rfl (J.nil (N.seq (W.cF rfl ?_)))))))
 (refine W.seq (W.region (Jx.eqlI rfl rfl rfl (Jx.assign rfl rfl (J.nil (N.seq (W.cF rfl ?_)))))))
 (refine W.seq (W.region (Jx.move rfl rfl ?_)))
 (refine J.call1 1 ((r_Text _ s3 e3 100000 (by omega))) rfl (evs_args rfl) rfl (by rintro _ _ ⟨t, s4, e4, rfl, rfl, hs4, ht⟩; exact ⟨_, rfl⟩) ?_; rintro _ _ ⟨t, s4, e4, rfl, ⟨⟩, hs4, ht⟩; simp only [la4, la5])
 (refine J.call (Lc := []) (rpdecode_ok t (by have := rf_len ht; omega)) rfl (evs_args rfl) rfl ?_; rintro _ _ ⟨⟨o, ho, rfl⟩, rfl⟩; simp only [la1, la2, la3])
 (refine Jx.move rfl rfl (Jx.extract rfl rfl rfl ?_))
 (refine Jx.extract rfl rfl rfl ?_)
 (refine Jx.assign rfl rfl (Jx.assign rfl rfl (J.nil (N.seq (W.seq (W.seq (W.region (Jx.move rfl rfl (Jx.neqI rfl rfl rfl (J.nil (N.seq ?_)))))))))))
 (refine id ?_; rotate_left))
            have tl : TailR 100 100 100 100000 ⟨kd, f, q, [], 0, [], [], o.getD []⟩ (rf s3 e3) (rf s4 e4) := by
              unfold TailR
              rw [if_neg (by exact e1), if_neg (by exact e2'), if_neg (by exact e3')]
              split
              · exact ⟨⟨t, o, ht, ho, rfl⟩, rfl, rfl, rfl, rfl⟩
              · trivial
            have hr := mk ⟨kd, f, q, [], 0, [], [], o.getD []⟩ _ rfl rfl rfl tl
            cases o with
            | none =>
              focus (
 (refine W.cT rfl ?_)
 (refine W.seq (W.region (Jx.buildB rfl rfl rfl rfl rfl ?_)))
 (refine J.storeAll rfl rfl rfl 2 rfl rfl rfl ?_)
 (refine Jx.assign rfl rfl (J.nil (N.seq (W.ret (N.outRet (N.seqRet ?_))))))
 (refine id ?_; rotate_left))
              refine N.objSub 2 (txC tx0) rfl txz_sub rfl ?_
              refine N.retD (rs := [.cell 2 tTx, .tmp 3]) (L1 := []) rfl (.cell rfl 2 rfl agTx (.tmp rfl .nil)) (List.nil_sublist _) ⟨⟨none, fun y hy hz => ?_, rfl⟩, rfl⟩
              obtain ⟨rfl, h2⟩ := wh hr hy hz
              have hF := (fineTx_iff _).1 hy
              have hkk := hF.kind
              have h4 := (hF.k4 (by simp only at hkk ⊢; omega)).1
              cases h4
            | some l =>
              focus (
 (refine W.cF rfl ?_)
 (refine W.skip (N.seq (W.region (Jx.move rfl rfl (Jx.fieldAddr rfl rfl ?_)))))
 (refine J.st 0 rfl rfl rfl rfl rfl rfl ?_)
 (refine J.nil (N.blockNormal ?_))
 (refine id ?_; rotate_left))
              exact N.joinQ (⟨kd, f, q, [], 0, [], [], l⟩, s4, e4) hr rfl ⟨ref0 rfl, ref0 rfl, ref0 rfl, ref0 rfl, trivial⟩
    · rintro ⟨x, s4, e4⟩ hr
      simp only at hr ⊢
      have ck := rtfine_ok x
      cases hf : fineTx x with
      | false =>
        rw [hf] at ck
        focus (
 (refine N.seq (W.seq (W.seq (W.region (Jx.move rfl rfl (Jx.nilCheck rfl rfl ?_))))))
 (refine Jx.fieldAddr rfl rfl ?_)
 (refine Jx.load rfl 1 rfl rfl rfl ?_)
 (refine Jx.neqI rfl rfl rfl (Jx.move rfl rfl ?_))
 (refine' J.guardOr rfl rfl rfl rfl rfl rfl rfl rfl (fun _ => ?_) ?_; rotate_left)
 (refine J.gY rfl rfl rfl ?_)
 (refine Jx.loadAll rfl 0 rfl rfl rfl ?_)
 (refine J.gY rfl rfl rfl ?_)
 (refine J.cP ck (evs_args rfl) rfl ?_; try simp only)
 (refine J.gY rfl rfl rfl ?_)
 (refine Jx.not rfl rfl (J.nil ?_))
 (refine N.joinedN rfl rfl rfl)
 (refine Jx.move rfl rfl (J.gN rfl rfl rfl rfl ?_))
 (refine J.gN rfl rfl rfl rfl ?_)
 (refine J.gN rfl rfl rfl rfl ?_)
 (refine J.gN rfl rfl rfl rfl ?_)
 (refine Jx.pT rfl rfl rfl ?_)
 (refine J.nil (N.seq (W.cT rfl ?_)))
 (refine W.seq (W.region (Jx.buildB rfl rfl rfl rfl rfl ?_)))
 (refine J.storeAll rfl rfl rfl 2 rfl rfl rfl ?_)
 (refine Jx.assign rfl rfl (J.nil (N.seq (W.ret (N.seqRet ?_)))))
 (refine id ?_; rotate_left))
        refine N.objSub 2 (txC tx0) rfl txz_sub rfl ?_
        refine N.retD (rs := [.cell 2 tTx, .tmp 3]) (L1 := []) rfl (.cell rfl 2 rfl agTx (.tmp rfl .nil)) (List.nil_sublist _) ⟨⟨none, fun y hy hz => ?_, rfl⟩, rfl⟩
        obtain ⟨rfl, h2⟩ := wh hr hy hz
        rw [hf] at hy; cases hy
      | true =>
        rw [hf] at ck
        have cw := rtwritten_ok x hf
        focus (
 (refine N.seq (W.seq (W.seq (W.region (Jx.move rfl rfl (Jx.nilCheck rfl rfl ?_))))))
 (refine Jx.fieldAddr rfl rfl ?_)
 (refine Jx.load rfl 1 rfl rfl rfl ?_)
 (refine Jx.neqI rfl rfl rfl (Jx.move rfl rfl ?_))
 (refine' J.guardOr rfl rfl rfl rfl rfl rfl rfl rfl (fun _ => ?_) ?_; rotate_left)
 (refine J.gY rfl rfl rfl ?_)
 (refine Jx.loadAll rfl 0 rfl rfl rfl ?_)
 (refine J.gY rfl rfl rfl ?_)
 (refine J.cP ck (evs_args rfl) rfl ?_; try simp only)
 (refine J.gY rfl rfl rfl ?_)
 (refine Jx.not rfl rfl (J.nil ?_))
 (refine N.joinedN rfl rfl rfl)
 (refine Jx.move rfl rfl ?_)
 (refine' J.guardOr rfl rfl rfl rfl rfl rfl rfl rfl (fun _ => ?_) ?_; rotate_left)
 (refine J.gY rfl rfl rfl ?_)
 (refine Jx.loadAll rfl 0 rfl rfl rfl ?_)
 (refine J.gY rfl rfl rfl ?_)
 (refine J.cP cw (evs_args rfl) rfl ?_; try simp only)
 (refine J.gY rfl rfl rfl ?_)
 (refine Jx.move rfl rfl (J.gY rfl rfl rfl ?_))
 (refine Jx.neqS rfl rfl rfl (J.nil ?_))
 (refine N.joinedN rfl rfl rfl)
 (refine J.nil (N.seq ?_))
 (refine id ?_; rotate_left))
        refine W.cond rfl (fun hb => ?_) (fun hb => ?_)
        · focus (
 (refine W.seq (W.region (Jx.buildB rfl rfl rfl rfl rfl ?_)))
 (refine J.storeAll rfl rfl rfl 2 rfl rfl rfl ?_)
 (refine Jx.assign rfl rfl (J.nil (N.seq (W.ret (N.seqRet ?_)))))
 (refine id ?_; rotate_left))
          refine N.objSub 2 (txC tx0) rfl txz_sub rfl ?_
          refine N.retD (rs := [.cell 2 tTx, .tmp 3]) (L1 := []) rfl (.cell rfl 2 rfl agTx (.tmp rfl .nil)) (List.nil_sublist _) ⟨⟨none, fun y hy hz => ?_, rfl⟩, rfl⟩
          obtain ⟨rfl, h2⟩ := wh hr hy hz
          have he4 : e4 = 0 := Classical.byContradiction fun h => by rw [rf_no h] at h2; cases h2
          rw [he4, hz] at hb
          simp at hb
        · focus (
 (refine W.skip (N.seq (W.seq (W.region (Jx.loadAll rfl 0 rfl rfl rfl ?_)))))
 (refine J.storeAll rfl rfl rfl 2 rfl rfl rfl ?_)
 (refine Jx.assign rfl rfl (J.nil (N.seq (W.ret ?_))))
 (refine id ?_; rotate_left))
          refine N.retD (rs := [.cell 2 tTx, .tmp 3]) (L1 := []) rfl (.cell rfl 2 rfl agTx (.tmp rfl .nil)) (List.nil_sublist _) ⟨⟨some x, ⟨hf, ?_⟩, rfl⟩, rfl⟩
          simp only [Bool.or_eq_false_iff, decide_eq_false_iff_not, Classical.not_not] at hb
          exact hb.2
end Go.Proofs.YtlfdhkahiaammaaGreatDoor
namespace Go.Proofs.YtlfdhkahiaammaaGreatDoor
open Go Go.Sse
set_option linter.unusedVariables false
set_option linter.unusedSimpArgs false
set_option maxRecDepth 10000
def sumD (tag : Nat) (s : List UInt8) : List UInt8 := Sha.shaS ([UInt8.ofNat tag] ++ s)
theorem sumD_len (tag : Nat) (s : List UInt8) : (sumD tag s).length = 32 := Sha.shaS_len _
theorem dsum_ok (tag : Nat) (s : List UInt8) (h1 : 1 ≤ tag) (h2 : tag ≤ 255) (hs : s.length ≤ 1073741824) : FnC Tryz.prog 66 [int (tag : Int), str s] [] (fun v L => v = .tup [str (sumD tag s), int 0] ∧ L = []) := by
  have c := Sha.hsum_ok ([UInt8.ofNat tag] ++ s) (by simp only [List.length_append, List.length_cons, List.length_nil]; omega)
  have e : sumD tag s = Sha.shaS ([UInt8.ofNat tag] ++ s) := rfl
  rw [e]
  generalize Sha.shaS ([UInt8.ofNat tag] ++ s) = sm at *
  refine FnC.intro Tryz.func66 rfl Tryz.ntmps66 rfl fun Z w0 hG => ?_
  focus (
 (refine W.seq (W.region (Jx.assign rfl rfl (Jx.assign rfl rfl (J.nil (N.seq (W.seq (W.seq (W.region (Jx.move rfl rfl (Jx.lssI rfl rfl rfl (Jx.move rfl rfl (J.gY rfl rfl rfl ?_)))))))))))))
 (refine Jx.move rfl rfl (J.gY rfl rfl rfl ?_))
 (refine Jx.gtrI rfl rfl rfl (Jx.pF rfl rfl rfl ?_))
 (refine J.nil (N.seq (W.cF rfl ?_)))
 (refine W.skip (N.seq (W.seq (W.region (Jx.move rfl rfl ?_)))))
 (refine Jx.numByte tag rfl rfl rfl rfl ?_)
 (refine J.qs (Qs.buildBytes [UInt8.ofNat tag] rfl rfl rfl (by decide) (by decide)) rfl ?_)
 (refine Jx.bytesStr rfl rfl ?_)
 (refine Jx.move rfl rfl (Jx.cat rfl rfl (by first | omega | (simp only [List.length_append, List.length_cons, List.length_nil]; omega)) rfl ?_))
 (refine J.call (c) rfl (evs_args rfl) rfl ?_; rintro _ _ ⟨rfl, rfl⟩; simp only [la1, la2, la3])
 (refine Jx.assign rfl rfl (Jx.assign rfl rfl (J.nil (N.seq (W.ret ?_)))))
 (refine id ?_; rotate_left))
  exact N.ret (rs := [.tmp 4, .tmp 5]) rfl (.tmp rfl (.tmp rfl .nil)) ⟨rfl, rfl⟩
theorem rtagged_ok (tag : Nat) (s : List UInt8) (hs : s.length ≤ 1073741824) : FnC Tryz.prog 92 [int (tag : Int), str s] [] (fun v L => v = str (sumD tag s) ∧ L = []) := by
  have c := Sha.rsum_ok ([UInt8.ofNat tag] ++ s) (by simp only [List.length_append, List.length_cons, List.length_nil]; omega)
  have e : sumD tag s = Sha.shaS ([UInt8.ofNat tag] ++ s) := rfl
  rw [e]
  generalize Sha.shaS ([UInt8.ofNat tag] ++ s) = sm at *
  refine FnC.intro Tryz.func92 rfl Tryz.ntmps92 rfl fun Z w0 hG => ?_
  focus (
 (refine W.seq (W.region (Jx.assign rfl rfl (J.nil (N.seq (W.seq (W.region (Jx.move rfl rfl ?_))))))))
 (refine Jx.numByte tag rfl rfl rfl rfl ?_)
 (refine J.qs (Qs.buildBytes [UInt8.ofNat tag] rfl rfl rfl (by decide) (by decide)) rfl ?_)
 (refine Jx.bytesStr rfl rfl ?_)
 (refine Jx.move rfl rfl (Jx.cat rfl rfl (by first | omega | (simp only [List.length_append, List.length_cons, List.length_nil]; omega)) rfl ?_))
 (refine J.call (c) rfl (evs_args rfl) rfl ?_; rintro _ _ ⟨rfl, rfl⟩; simp only [la1, la2, la3])
 (refine Jx.assign rfl rfl (J.nil (N.seq (W.ret ?_))))
 (refine id ?_; rotate_left))
  exact N.ret (rs := [.tmp 4]) rfl (.tmp rfl .nil) ⟨rfl, rfl⟩
end Go.Proofs.YtlfdhkahiaammaaGreatDoor
namespace Go.Proofs.YtlfdhkahiaammaaGreatDoor
open Go Go.Sse
set_option linter.unusedVariables false
set_option linter.unusedSimpArgs false
set_option maxRecDepth 10000
theorem encTx_ap {x y : Tx} {r q : List UInt8} (hx : fineTx x = true) (hy : fineTx y = true) (h : encTx x ++ r = encTx y ++ q) : x = y ∧ r = q := by
  have fx := (fineTx_iff x).1 hx
  have fy := (fineTx_iff y).1 hy
  have kx := fx.kind; have ky := fy.kind
  have a1 := fx.from6; have a2 := fy.from6; have a3 := fx.seq0; have a4 := fy.seq0; have a5 := fx.seqM; have a6 := fy.seqM
  simp only [encTx, List.append_assoc, List.cons_append, List.nil_append, List.cons.injEq] at h
  obtain ⟨h0, h⟩ := h
  have hk := congrArg UInt8.toNat h0
  simp only [UInt8.toNat_ofNat'] at hk
  obtain ⟨h1, h⟩ := textB_ap (by omega) (by omega) h
  obtain ⟨h2, h⟩ := numB_ap (by omega) (by omega) h
  have ek : x.kind = y.kind := by omega
  have es : x.seq = y.seq := by omega
  unfold bodyTx at h
  by_cases c1 : y.kind = 1
  · rw [if_pos (by omega), if_pos c1] at h
    obtain ⟨⟨b1, b2, b3, b4⟩, b5, b6, b7⟩ := fx.k1 (by omega)
    obtain ⟨⟨d1, d2, d3, d4⟩, d5, d6, d7⟩ := fy.k1 c1
    rw [List.append_assoc, List.append_assoc] at h
    obtain ⟨h3, h⟩ := textB_ap (by omega) (by omega) h
    obtain ⟨h4, h⟩ := numB_ap (by omega) (by omega) h
    exact ⟨Tx.ext' ek h1 es h3 (by omega) (by rw [b5, d5]) (by rw [b6, d6]) (by rw [b7, d7]), h⟩
  · by_cases c2 : y.kind = 2
    · rw [if_neg (by omega), if_pos (by omega), if_neg c1, if_pos c2] at h
      obtain ⟨⟨b1, b2, b3, b4⟩, b5, b6, b7⟩ := fx.k2 (by omega)
      obtain ⟨⟨d1, d2, d3, d4⟩, d5, d6, d7⟩ := fy.k2 c2
      rw [List.append_assoc, List.append_assoc] at h
      obtain ⟨h3, h⟩ := textB_ap (by omega) (by omega) h
      obtain ⟨h4, h⟩ := textB_ap (by omega) (by omega) h
      exact ⟨Tx.ext' ek h1 es (by rw [b5, d5]) (by rw [b6, d6]) h3 h4 (by rw [b7, d7]), h⟩
    · by_cases c3 : y.kind = 3
      · rw [if_neg (by omega), if_neg (by omega), if_pos (by omega), if_neg c1, if_neg c2, if_pos c3] at h
        obtain ⟨⟨b1, b2⟩, b3, b4, b5, b6⟩ := fx.k3 (by omega)
        obtain ⟨⟨d1, d2⟩, d3, d4, d5, d6⟩ := fy.k3 c3
        obtain ⟨h4, h⟩ := textB_ap (by omega) (by omega) h
        exact ⟨Tx.ext' ek h1 es (by rw [b4, d4]) (by rw [b5, d5]) h4 (by rw [b3, d3]) (by rw [b6, d6]), h⟩
      · have c4 : y.kind = 4 := by omega
        rw [if_neg (by omega), if_neg (by omega), if_neg (by omega), if_neg c1, if_neg c2, if_neg c3] at h
        obtain ⟨b1, b2, b3, b4, b5⟩ := fx.k4 (by omega)
        obtain ⟨d1, d2, d3, d4, d5⟩ := fy.k4 c4
        have l1 := encSet_len b1; have l2 := encSet_len d1
        obtain ⟨h4, h⟩ := textB_ap (by omega) (by omega) h
        exact ⟨Tx.ext' ek h1 es (by rw [b2, d2]) (by rw [b3, d3]) (by rw [b4, d4]) (by rw [b5, d5]) (encSet_inj b1 d1 h4), h⟩
theorem encTx_inj {x y : Tx} (hx : fineTx x = true) (hy : fineTx y = true) (h : encTx x = encTx y) : x = y := (encTx_ap (r := []) (q := []) hx hy (by rw [h])).1
structure Apart {α : Type} (fine : α → Bool) (enc : α → List UInt8) : Prop where
  ap : ∀ x y (r q : List UInt8), fine x = true → fine y = true → enc x ++ r = enc y ++ q → x = y ∧ r = q
theorem Apart.some' {α : Type} {fine : α → Bool} {enc : α → List UInt8} (h : Apart fine enc) {s : List UInt8} {o : Option α} {x : α} (ho : DecR fine enc s o) (h1 : fine x = true) (h2 : enc x = s) : o = some x := by
  cases o with
  | none => exact absurd h2 (ho x h1)
  | some y => rw [(h.ap y x [] [] ho.1 h1 (by rw [ho.2, h2])).1]
theorem Apart.same {α : Type} {fine : α → Bool} {enc : α → List UInt8} (h : Apart fine enc) {s : List UInt8} {o p : Option α} (ho : DecR fine enc s o) (hp : DecR fine enc s p) : o = p := by
  cases p with
  | some y => exact h.some' ho hp.1 hp.2
  | none =>
    cases o with
    | none => rfl
    | some x => exact absurd ho.2 (hp x ho.1)
def fineAll (l : List Tx) : Bool := decide (l.length ≤ 8) && l.all fineTx
def encAll (l : List Tx) : List UInt8 := listB (l.map encTx)
def codeAll (l : List Tx) : Int := if 8 < l.length then 2 else if l.all fineTx then 0 else 150
theorem codeAll_zero (l : List Tx) : codeAll l = 0 ↔ fineAll l = true := by
  unfold codeAll fineAll
  by_cases h : 8 < l.length
  · simp [h]; omega
  · rw [if_neg h]
    cases l.all fineTx <;> simp; omega
theorem fineAll_spec {l : List Tx} (h : fineAll l = true) : l.length ≤ 8 ∧ ∀ x ∈ l, fineTx x = true := by
  simp only [fineAll, Bool.and_eq_true, decide_eq_true_eq, List.all_eq_true] at h
  exact h
theorem map_take {α β : Type} (f : α → β) (d : α) (l : List α) (i : Nat) (h : i < l.length) : (l.take i).map f ++ [f (l.getD i d)] = (l.take (i + 1)).map f := by
  rw [List.take_add_one, List.getElem?_eq_getElem h, List.getD_eq_getElem?_getD, List.getElem?_eq_getElem h]
  simp only [List.map_append, Option.toList_some, List.map_cons, List.map_nil, Option.getD_some]
theorem listB_len' {l : List (List UInt8)} {k n : Nat} (hl : l.length ≤ n) (hn : n ≤ 1048576) (h : ∀ s ∈ l, s.length ≤ k) (hk : k ≤ 1048576) : (listB l).length ≤ 9 + (k + 9) * n := by
  have h1 : (flT textB l).length ≤ (k + 9) * l.length := flT_len fun s hs => textB_len (h s hs) (by omega)
  have h2 := (numB_len (n := l.length) (by omega)).2
  have h3 : (k + 9) * l.length ≤ (k + 9) * n := Nat.mul_le_mul_left _ hl
  have h4 : (listB l).length = (numB l.length).length + (flT textB l).length := by rw [listB, List.length_append]; rfl
  omega
theorem encAll_len {l : List Tx} (h : fineAll l = true) : (encAll l).length ≤ 1769 := by
  obtain ⟨h1, h2⟩ := fineAll_spec h
  have := listB_len' (l := l.map encTx) (k := 211) (n := 8) (by simpa using h1) (by omega) (fun s hs => by obtain ⟨x, hx, rfl⟩ := List.mem_map.1 hs; exact encTx_len ((fineTx_iff x).1 (h2 x hx))) (by omega)
  unfold encAll; omega
set_option maxHeartbeats 1000000 in
theorem tencAll_ok (l : List Tx) : FnC Tryz.prog 30 [txsl l] [] (fun v L => v = .tup [str (encO fineAll encAll l), int (codeAll l)] ∧ L = []) := by
  refine FnC.intro Tryz.func30 rfl Tryz.ntmps30 rfl fun Z w0 hG => ?_
  by_cases h8 : 8 < l.length
  · have hf : fineAll l = false := by rw [fineAll, decide_eq_false (by omega)]; rfl
    have hc : codeAll l = 2 := if_pos h8
    rw [encO, hf, hc]
    focus (
 (refine W.seq (W.region (Jx.assign rfl rfl (Jx.assign rfl rfl (J.nil (N.seq (W.seq (W.seq (W.region (Jx.move rfl rfl (Jx.lenSl rfl rfl ?_)))))))))))
 (refine Jx.gtrI rfl rfl rfl (J.nil (N.seq (W.cT rfl ?_))))
 (refine W.seq (W.region (Jx.assign rfl rfl (Jx.assign rfl rfl (J.nil (N.seq (W.ret (N.seqRet ?_))))))))
 (refine id ?_; rotate_left))
    exact N.ret (rs := [.tmp 2, .tmp 3]) rfl (.tmp rfl (.tmp rfl .nil)) ⟨rfl, rfl⟩
  · focus (
 (refine W.seq (W.region (Jx.assign rfl rfl (Jx.assign rfl rfl (J.nil (N.seq (W.seq (W.seq (W.region (Jx.move rfl rfl (Jx.lenSl rfl rfl ?_)))))))))))
 (refine Jx.gtrI rfl rfl rfl (J.nil (N.seq (W.cF rfl ?_))))
 (refine W.skip (N.seq (W.seq (W.region (Jx.assign rfl rfl (J.nil (N.seq (W.seq (W.seq (W.region (Jx.move rfl rfl (Jx.lenSl rfl rfl ?_))))))))))))
 (refine Jx.move rfl rfl (J.nil (N.seq (W.block ?_))))
 (refine id ?_; rotate_left))
    refine W.rowNil 9 1 (elOf (fun a => [str a]) [] []) ?_
    refine W.loop (α := Nat × Value) (fun x => [(14, int (x.1 : Int)), (13, int l.length), (12, txsl l), (4, .val x.2)]) (fun x => [.row x.2 9 1 ((l.take x.1).map encTx).length (elOf (fun a => [str a]) [] ((l.take x.1).map encTx))]) (fun x => x.1 ≤ l.length ∧ ∀ y ∈ l.take x.1, fineTx y = true) (fun x => l.length - x.1) (0, .slice none 0 0) ⟨by simp, by simp⟩ (by simp) ⟨ref0 rfl, ref0 rfl, ref0 rfl, ref0 rfl, trivial⟩ ?_
    rintro ⟨i, u⟩ ⟨hi, hall⟩
    simp only at hi hall ⊢
    by_cases h1 : i < l.length
    · have c1 := tencode_ok (l.getD i tx0)
      have hti := map_take encTx tx0 l i h1
      have hlen : ((l.take i).map encTx).length ≤ 8 := by rw [List.length_map, List.length_take]; omega
      cases hf : fineTx (l.getD i tx0) with
      | false =>
        have hna : l.all fineTx = false := List.all_eq_false.2 ⟨_, getD_mem h1, by rw [hf]; simp⟩
        have hfa : fineAll l = false := by rw [fineAll, hna, Bool.and_false]
        have hc : codeAll l = 150 := by rw [codeAll, if_neg h8, hna]; rfl
        rw [encO, hf] at c1
        rw [encO, hfa, hc]
        focus (
 (refine W.seq (W.region (Jx.lssI rfl rfl rfl (J.nil (N.seq (W.seq (W.cT rfl ?_)))))))
 (refine W.skip (N.seq (W.seq (W.block (W.seq (W.region (Jx.indexEl rfl rfl (by assumption) rfl rfl ?_)))))))
 (refine Jx.loadPPall rfl rfl rfl ?_)
 (refine J.alloc (by simp only [List.map_cons, List.map_nil]; rfl) rfl rfl ?_; intro b')
 (refine J.storeAll rfl rfl rfl 0 rfl rfl rfl ?_)
 (refine J.nil (N.seq (W.seq (W.region (Jx.loadAll rfl 0 rfl rfl rfl ?_)))))
 (refine J.cP c1 (evs_args rfl) rfl ?_; try simp only)
 (refine Jx.move rfl rfl (Jx.extract rfl rfl rfl ?_))
 (refine Jx.extract rfl rfl rfl ?_)
 (refine Jx.assign rfl rfl (Jx.assign rfl rfl (J.nil (N.seq (W.seq (W.seq (W.region (Jx.move rfl rfl (Jx.neqI rfl rfl rfl (J.nil (N.seq (W.cT rfl ?_))))))))))))
 (refine W.seq (W.region (Jx.move rfl rfl (Jx.assign rfl rfl (Jx.assign rfl rfl (J.nil (N.seq (W.ret (N.seqRet (N.blockRet (N.seqRet (N.seqRet (N.blockRet (N.seqRet ?_))))))))))))))
 (refine id ?_; rotate_left))
        exact N.retD (rs := [.tmp 2, .tmp 3]) (L1 := []) rfl (.tmp rfl (.tmp rfl .nil)) (List.nil_sublist _) ⟨rfl, rfl⟩
      | true =>
        rw [encO, hf] at c1
        simp only [if_true] at c1
        have hmx : ((l.take i).map encTx).length + [encTx (l.getD i tx0)].length ≤ maxLen ∧ (((l.take i).map encTx).length + [encTx (l.getD i tx0)].length) * 16 ≤ 140737488355328 := by simp only [maxLen, List.length_cons, List.length_nil]; omega
        generalize encTx (l.getD i tx0) = e at *
        focus (
 (refine W.seq (W.region (Jx.lssI rfl rfl rfl (J.nil (N.seq (W.seq (W.cT rfl ?_)))))))
 (refine W.skip (N.seq (W.seq (W.block (W.seq (W.region (Jx.indexEl rfl rfl (by assumption) rfl rfl ?_)))))))
 (refine Jx.loadPPall rfl rfl rfl ?_)
 (refine J.alloc (by simp only [List.map_cons, List.map_nil]; rfl) rfl rfl ?_; intro b')
 (refine J.storeAll rfl rfl rfl 0 rfl rfl rfl ?_)
 (refine J.nil (N.seq (W.seq (W.region (Jx.loadAll rfl 0 rfl rfl rfl ?_)))))
 (refine J.cP c1 (evs_args rfl) rfl ?_; try simp only)
 (refine Jx.move rfl rfl (Jx.extract rfl rfl rfl ?_))
 (refine Jx.extract rfl rfl rfl ?_)
 (refine Jx.assign rfl rfl (Jx.assign rfl rfl (J.nil (N.seq (W.seq (W.seq (W.region (Jx.move rfl rfl (Jx.neqI rfl rfl rfl (J.nil (N.seq (W.cF rfl ?_))))))))))))
 (refine W.skip (N.seq (W.region (Jx.move rfl rfl (Jx.move rfl rfl ?_)))))
 (refine J.qs (Qs.buildTexts [e] rfl rfl rfl (by decide) (by decide)) rfl ?_)
 (refine J.appendAt (l := (l.take i).map encTx) (l2 := [e]) 1 rfl rfl (SrcOK.sl rfl) rfl rfl hmx rfl ?_; intro v2 hv2)
 (refine Jx.assign rfl rfl (J.nil (N.seq (W.region (Jx.add64 rfl rfl (by omega) rfl ?_)))))
 (refine Jx.move rfl rfl (J.nil ?_))
 (refine id ?_; rotate_left))
        refine N.drop (List.sublist_cons_self _ _) ?_
        refine N.round (i + 1, v2) ⟨h1, fun y hy => ?_⟩ (by simp only; omega) (by rw [hti]; rfl) ⟨ref0 rfl, ref0 rfl, ref0 rfl, ref0 rfl, trivial⟩
        rw [List.take_add_one, List.getElem?_eq_getElem h1] at hy
        rcases List.mem_append.1 hy with hy | hy
        · exact hall y hy
        · simp only [Option.toList_some, List.mem_singleton] at hy
          subst hy
          rw [List.getD_eq_getElem?_getD, List.getElem?_eq_getElem h1] at hf
          exact hf
    · have hil : i = l.length := by omega
      subst hil
      rw [List.take_length] at hall ⊢
      have hfa : fineAll l = true := by rw [fineAll, decide_eq_true (by omega), List.all_eq_true.2 hall]; rfl
      have hc : codeAll l = 0 := (codeAll_zero l).2 hfa
      have cl := list_ok (l.map encTx) (by rw [List.length_map]; omega) (fun s hs => by obtain ⟨x, hx, rfl⟩ := List.mem_map.1 hs; have := encTx_len ((fineTx_iff x).1 (hall x hx)); omega)
      rw [encO, hfa, hc, if_pos rfl, encAll]
      refine W.freezeAt 0 4 rfl rfl (by rw [List.length_map]; simp only [maxLen]; omega) ?_
      generalize listB (l.map encTx) = lb at *
      generalize l.map encTx = le at *
      focus (
 (refine W.seq (W.region (Jx.lssI rfl rfl rfl (J.nil (N.seq (W.seq (W.cF rfl ?_)))))))
 (refine W.exit (N.seq (W.seq (W.region (Jx.move rfl rfl ?_)))))
 (refine J.cP cl (evs_args rfl) rfl ?_; try simp only)
 (refine Jx.assign rfl rfl (Jx.assign rfl rfl (J.nil (N.seq (W.ret ?_)))))
 (refine id ?_; rotate_left))
      exact N.retD (rs := [.tmp 2, .tmp 3]) (L1 := []) rfl (.tmp rfl (.tmp rfl .nil)) (List.nil_sublist _) ⟨rfl, rfl⟩
set_option maxHeartbeats 1000000 in
theorem rtencAll_ok (l : List Tx) : FnC Tryz.prog 76 [txsl l] [] (fun v L => v = .tup [str (encO fineAll encAll l), int (codeAll l)] ∧ L = []) := by
  refine FnC.intro Tryz.func76 rfl Tryz.ntmps76 rfl fun Z w0 hG => ?_
  by_cases h8 : 8 < l.length
  · have hf : fineAll l = false := by rw [fineAll, decide_eq_false (by omega)]; rfl
    have hc : codeAll l = 2 := if_pos h8
    rw [encO, hf, hc]
    focus (
 (refine W.seq (W.region (Jx.assign rfl rfl (Jx.assign rfl rfl (J.nil (N.seq (W.seq (W.seq (W.region (Jx.move rfl rfl (Jx.lenSl rfl rfl ?_)))))))))))
 (refine Jx.gtrI rfl rfl rfl (J.nil (N.seq (W.cT rfl ?_))))
 (refine W.seq (W.region (Jx.assign rfl rfl (Jx.assign rfl rfl (J.nil (N.seq (W.ret (N.seqRet ?_))))))))
 (refine id ?_; rotate_left))
    exact N.ret (rs := [.tmp 2, .tmp 3]) rfl (.tmp rfl (.tmp rfl .nil)) ⟨rfl, rfl⟩
  · focus (
 (refine W.seq (W.region (Jx.assign rfl rfl (Jx.assign rfl rfl (J.nil (N.seq (W.seq (W.seq (W.region (Jx.move rfl rfl (Jx.lenSl rfl rfl ?_)))))))))))
 (refine Jx.gtrI rfl rfl rfl (J.nil (N.seq (W.cF rfl ?_))))
 (refine W.skip (N.seq (W.seq (W.region (Jx.assign rfl rfl (J.nil (N.seq (W.seq (W.seq (W.region (Jx.assign rfl rfl (J.nil (N.seq (W.block ?_))))))))))))))
 (refine id ?_; rotate_left))
    refine W.rowNil 9 1 (elOf (fun a => [str a]) [] []) ?_
    refine W.loop (α := Nat × Value) (fun x => [(5, int (x.1 : Int)), (0, txsl l), (4, .val x.2)]) (fun x => [.row x.2 9 1 ((l.take x.1).map encTx).length (elOf (fun a => [str a]) [] ((l.take x.1).map encTx))]) (fun x => x.1 ≤ l.length ∧ ∀ y ∈ l.take x.1, fineTx y = true) (fun x => l.length - x.1) (0, .slice none 0 0) ⟨by simp, by simp⟩ (by simp) ⟨ref0 rfl, ref0 rfl, ref0 rfl, trivial⟩ ?_
    rintro ⟨i, u⟩ ⟨hi, hall⟩
    simp only at hi hall ⊢
    by_cases h1 : i < l.length
    · have c1 := rtfine_ok (l.getD i tx0)
      have hti := map_take encTx tx0 l i h1
      have hlen : ((l.take i).map encTx).length ≤ 8 := by rw [List.length_map, List.length_take]; omega
      cases hf : fineTx (l.getD i tx0) with
      | false =>
        have hna : l.all fineTx = false := List.all_eq_false.2 ⟨_, getD_mem h1, by rw [hf]; simp⟩
        have hfa : fineAll l = false := by rw [fineAll, hna, Bool.and_false]
        have hc : codeAll l = 150 := by rw [codeAll, if_neg h8, hna]; rfl
        rw [hf] at c1
        rw [encO, hfa, hc]
        focus (
 (refine W.seq (W.seq (W.region (Jx.move rfl rfl (Jx.move rfl rfl (Jx.lenSl rfl rfl ?_))))))
 (refine Jx.lssI rfl rfl rfl (J.nil (N.seq (W.cT rfl ?_))))
 (refine W.skip (N.seq (W.seq (W.block (W.seq (W.seq (W.region (Jx.move rfl rfl (Jx.move rfl rfl (Jx.indexEl rfl rfl (by assumption) rfl rfl ?_))))))))))
 (refine Jx.loadPPall rfl rfl rfl ?_)
 (refine J.cP c1 (evs_args rfl) rfl ?_; try simp only)
 (refine Jx.not rfl rfl (J.nil (N.seq (W.cT rfl ?_))))
 (refine W.seq (W.region (Jx.assign rfl rfl (Jx.assign rfl rfl (J.nil (N.seq (W.ret (N.seqRet (N.blockRet (N.seqRet (N.seqRet (N.blockRet (N.seqRet ?_)))))))))))))
 (refine id ?_; rotate_left))
        exact N.retD (rs := [.tmp 2, .tmp 3]) (L1 := []) rfl (.tmp rfl (.tmp rfl .nil)) (List.nil_sublist _) ⟨rfl, rfl⟩
      | true =>
        rw [hf] at c1
        have c2 := rtwritten_ok _ hf
        have hmx : ((l.take i).map encTx).length + [encTx (l.getD i tx0)].length ≤ maxLen ∧ (((l.take i).map encTx).length + [encTx (l.getD i tx0)].length) * 16 ≤ 140737488355328 := by simp only [maxLen, List.length_cons, List.length_nil]; omega
        generalize encTx (l.getD i tx0) = e at *
        focus (
 (refine W.seq (W.seq (W.region (Jx.move rfl rfl (Jx.move rfl rfl (Jx.lenSl rfl rfl ?_))))))
 (refine Jx.lssI rfl rfl rfl (J.nil (N.seq (W.cT rfl ?_))))
 (refine W.skip (N.seq (W.seq (W.block (W.seq (W.seq (W.region (Jx.move rfl rfl (Jx.move rfl rfl (Jx.indexEl rfl rfl (by assumption) rfl rfl ?_))))))))))
 (refine Jx.loadPPall rfl rfl rfl ?_)
 (refine J.cP c1 (evs_args rfl) rfl ?_; try simp only)
 (refine Jx.not rfl rfl (J.nil (N.seq (W.cF rfl ?_))))
 (refine W.skip (N.seq (W.region (Jx.move rfl rfl (Jx.move rfl rfl (Jx.move rfl rfl (Jx.indexEl rfl rfl (by assumption) rfl rfl ?_)))))))
 (refine Jx.loadPPall rfl rfl rfl ?_)
 (refine J.cP c2 (evs_args rfl) rfl ?_; try simp only)
 (refine J.qs (Qs.buildTexts [e] rfl rfl rfl (by decide) (by decide)) rfl ?_)
 (refine J.appendAt (l := (l.take i).map encTx) (l2 := [e]) 0 rfl rfl (SrcOK.sl rfl) rfl rfl hmx rfl ?_; intro v2 hv2)
 (refine Jx.assign rfl rfl (J.nil (N.seq (W.region (Jx.move rfl rfl (Jx.add64 rfl rfl (by omega) rfl ?_))))))
 (refine Jx.assign rfl rfl (J.nil ?_))
 (refine id ?_; rotate_left))
        refine N.round (i + 1, v2) ⟨h1, fun y hy => ?_⟩ (by simp only; omega) (by rw [hti]; rfl) ⟨ref0 rfl, ref0 rfl, ref0 rfl, trivial⟩
        rw [List.take_add_one, List.getElem?_eq_getElem h1] at hy
        rcases List.mem_append.1 hy with hy | hy
        · exact hall y hy
        · simp only [Option.toList_some, List.mem_singleton] at hy
          subst hy
          rw [List.getD_eq_getElem?_getD, List.getElem?_eq_getElem h1] at hf
          exact hf
    · have hil : i = l.length := by omega
      subst hil
      rw [List.take_length] at hall ⊢
      have hfa : fineAll l = true := by rw [fineAll, decide_eq_true (by omega), List.all_eq_true.2 hall]; rfl
      have hc : codeAll l = 0 := (codeAll_zero l).2 hfa
      have cl := rlist_ok (l.map encTx) (by rw [List.length_map]; omega) (fun s hs => by obtain ⟨x, hx, rfl⟩ := List.mem_map.1 hs; have := encTx_len ((fineTx_iff x).1 (hall x hx)); omega)
      rw [encO, hfa, hc, if_pos rfl, encAll]
      refine W.freezeAt 0 4 rfl rfl (by rw [List.length_map]; simp only [maxLen]; omega) ?_
      generalize listB (l.map encTx) = lb at *
      generalize l.map encTx = le at *
      focus (
 (refine W.seq (W.seq (W.region (Jx.move rfl rfl (Jx.move rfl rfl (Jx.lenSl rfl rfl ?_))))))
 (refine Jx.lssI rfl rfl rfl (J.nil (N.seq (W.cF rfl ?_))))
 (refine W.exit (N.seq (W.seq (W.region (Jx.move rfl rfl ?_)))))
 (refine J.cP cl (evs_args rfl) rfl ?_; try simp only)
 (refine Jx.assign rfl rfl (Jx.assign rfl rfl (J.nil (N.seq (W.ret ?_)))))
 (refine id ?_; rotate_left))
      exact N.retD (rs := [.tmp 2, .tmp 3]) (L1 := []) rfl (.tmp rfl (.tmp rfl .nil)) (List.nil_sublist _) ⟨rfl, rfl⟩
end Go.Proofs.YtlfdhkahiaammaaGreatDoor
namespace Go.Proofs.YtlfdhkahiaammaaGreatDoor
open Go Go.Sse
set_option linter.unusedVariables false
set_option linter.unusedSimpArgs false
set_option maxRecDepth 10000
theorem all_back {m e : Int} {s : List UInt8} {st : PSt} {all : List (List UInt8)} (hm : 8 ≤ m) (he : 211 ≤ e) (h : listP m e (some s) = (all, st)) {l : List Tx} (hf : fineAll l = true) (hs : encAll l = s) : all = l.map encTx ∧ st = some [] := by
  obtain ⟨h1, h2⟩ := fineAll_spec hf
  have h3 := listP_back (m := m) (e := e) (l.map encTx) [] (by rw [List.length_map]; omega) (by rw [List.length_map]; omega) (fun t ht => by
    obtain ⟨x, hx, rfl⟩ := List.mem_map.1 ht
    have := encTx_len ((fineTx_iff x).1 (h2 x hx))
    exact ⟨by omega, by omega⟩)
  rw [List.append_nil, show listB (l.map encTx) = s from hs, h] at h3
  simp only [Prod.mk.injEq] at h3
  exact h3
theorem all_done {m e : Int} {s : List UInt8} {st : PSt} {all : List (List UInt8)} (hm : m = 8) (h : listP m e (some s) = (all, st)) (hst : st = some []) {acc : List Tx} (h1 : acc.map encTx = all) (h2 : ∀ x ∈ acc, fineTx x = true) : DecR fineAll encAll s (some acc) := by
  subst hst
  obtain ⟨g1, g2, g3, g4⟩ := listP_good h
  simp only [Option.some.injEq, List.append_nil] at g1
  refine ⟨?_, by rw [encAll, h1, g1]⟩
  have : acc.length = all.length := by rw [← h1, List.length_map]
  rw [fineAll, decide_eq_true (by omega), List.all_eq_true.2 h2]; rfl
theorem all_no {all : List (List UInt8)} {l : List Tx} (h : all = l.map encTx) (hf : fineAll l = true) {i : Nat} (hi : i < all.length) (hn : DecR fineTx encTx (all.getD i []) none) : False := by
  subst h
  have hi' : i < l.length := by simpa using hi
  refine hn (l.getD i tx0) ((fineAll_spec hf).2 _ (getD_mem hi')) ?_
  rw [List.getD_eq_getElem?_getD, List.getD_eq_getElem?_getD, List.getElem?_map, List.getElem?_eq_getElem hi']; rfl
theorem take_snoc {α : Type} {l : List α} {d : α} {i : Nat} (h : i < l.length) : l.take (i + 1) = l.take i ++ [l.getD i d] := by
  rw [List.take_add_one, List.getElem?_eq_getElem h, List.getD_eq_getElem?_getD, List.getElem?_eq_getElem h]; rfl
theorem listP_mem {m e : Int} {st st' : PSt} {l : List (List UInt8)} (he : 0 ≤ e) (h : listP m e st = (l, st')) : ∀ t ∈ l, (t.length : Int) ≤ e := by
  cases st' with
  | none => rw [listP_short h]; simp
  | some r => exact fun t ht => ((listP_good h).2.2.2 t ht).1
set_option maxHeartbeats 2000000 in
theorem tdecAll_ok (s : List UInt8) (hs : s.length ≤ 1099511627776) : FnC Tryz.prog 82 [str s] [] (fun v L => (∃ o, DecR fineAll encAll s o ∧ v = .tup [txsl (o.getD []), int (codeO o 150)]) ∧ L = []) := by
  have c0 := read_ok s
  have c1 := fun b => rd_List b s 0 0 8 65536 (Nat.zero_le _) hs (by decide)
  refine FnC.intro Tryz.func82 rfl Tryz.ntmps82 rfl fun Z w0 hG => ?_
  focus (
 (refine W.seq (W.region (Jx.assign rfl rfl (Jx.assign rfl rfl (J.nil (N.seq (W.seq (W.region (Jx.move rfl rfl ?_)))))))))
 (refine J.call (Lc := []) c0 rfl (evs_args rfl) rfl ?_; rintro _ _ ⟨b, rfl, rfl⟩; simp only [la1, la2, la3])
 (refine Jx.assign rfl rfl (J.nil (N.seq (W.seq (W.region (Jx.move rfl rfl ?_))))))
 (refine J.call ((c1 _)) rfl (evs_args rfl) rfl ?_; rintro _ _ ⟨all, a1, c1', rfl, rfl, ha1, hall⟩; simp only [la1, la2, la3])
 (refine Jx.assign rfl rfl (J.nil (N.seq (W.seq (W.seq (W.region (Jx.move rfl rfl ?_)))))))
 (refine J.call ((rd_End _ s a1 c1' ha1 hs)) rfl (evs_args rfl) rfl ?_; rintro _ _ ⟨e, a2, c2', rfl, rfl, he⟩; simp only [la1, la2, la3])
 (refine Jx.neqI rfl rfl rfl (J.nil (N.seq ?_)))
 (refine id ?_; rotate_left))
  have hall : listP 8 65536 (some s) = (all, lf s a1 c1') := hall
  have hmem := listP_mem (by decide) hall
  refine W.cond rfl (fun hb => ?_) (fun hb => ?_)
  · focus (
 (refine W.seq (W.region (Jx.assign rfl rfl (Jx.assign rfl rfl (J.nil (N.seq (W.ret (N.seqRet ?_))))))))
 (refine id ?_; rotate_left))
    refine N.told (G := [(2, txsl []), (3, int 150)]) ⟨⟨_, rfl, Sub.nil 8 _⟩, ref0 rfl, trivial⟩ ?_
    refine N.retD (rs := [.tmp 2, .tmp 3]) (L1 := []) rfl (.tmp rfl (.tmp rfl .nil)) (List.nil_sublist _) ⟨⟨none, fun y hy hz => ?_, rfl⟩, rfl⟩
    have := (all_back (by decide) (by decide) hall hy hz).2
    rw [he.2 this] at hb
    simp at hb
  · have he0 : e = 0 := by simpa using hb
    have hst := he.1 he0
    have h8 : all.length ≤ 8 := by rw [hst] at hall; have := (listP_good hall).2.1; omega
    focus (
 (refine W.skip (N.seq (W.seq (W.region (Jx.assign rfl rfl (J.nil (N.seq (W.seq (W.seq (W.region (Jx.move rfl rfl (Jx.lenSl rfl rfl ?_))))))))))))
 (refine Jx.move rfl rfl (J.nil (N.seq (W.block ?_))))
 (refine id ?_; rotate_left))
    refine W.rowNil tTx 8 (elOf txC tx0 []) ?_
    refine W.loop (α := Value × List Tx) (fun x => [(20, int (x.2.length : Int)), (19, int all.length), (18, ssl all), (6, .val x.1)]) (fun x => [.row x.1 tTx 8 x.2.length (elOf txC tx0 x.2), rdO b ⟨s, a2, c2'⟩]) (fun x => x.2.length ≤ all.length ∧ x.2.map encTx = all.take x.2.length ∧ ∀ y ∈ x.2, fineTx y = true) (fun x => all.length - x.2.length) (.slice none 0 0, []) ⟨by simp, by simp, by simp⟩ rfl ⟨ref0 rfl, ref0 rfl, ref0 rfl, ref0 rfl, trivial⟩ ?_
    rintro ⟨u, acc⟩ ⟨hi, hm, hf⟩
    simp only at hi hm hf ⊢
    by_cases h1 : acc.length < all.length
    · have c3 := tdecode_ok (all.getD acc.length []) (by have := hmem _ (getD_mem (d := []) h1); omega)
      have hmx : ∀ x : Tx, acc.length + [x].length ≤ maxLen ∧ (acc.length + [x].length) * 112 ≤ 140737488355328 := fun x => by simp only [maxLen, List.length_cons, List.length_nil]; omega
      focus (
 (refine W.seq (W.region (Jx.lssI rfl rfl rfl (J.nil (N.seq (W.seq (W.cT rfl ?_)))))))
 (refine W.skip (N.seq (W.seq (W.block (W.seq (W.region (Jx.indexEl rfl rfl (by assumption) rfl rfl ?_)))))))
 (refine Jx.loadPP rfl rfl ?_)
 (refine Jx.assign rfl rfl (J.nil (N.seq (W.seq (W.region (Jx.move rfl rfl ?_))))))
 (refine J.call (Lc := []) c3 rfl (evs_args rfl) rfl ?_; rintro _ _ ⟨⟨o, ho, rfl⟩, rfl⟩; simp only [la1, la2, la3])
 (refine Jx.move rfl rfl (Jx.extract rfl rfl rfl ?_))
 (refine Jx.extract rfl rfl rfl ?_)
 (refine J.alloc (by simp only [List.map_cons, List.map_nil]; rfl) rfl rfl ?_; intro b')
 (refine J.storeAll rfl rfl rfl 0 rfl rfl rfl ?_)
 (refine Jx.assign rfl rfl (J.nil (N.seq (W.seq (W.seq (W.region (Jx.move rfl rfl (Jx.neqI rfl rfl rfl (J.nil (N.seq ?_))))))))))
 (refine id ?_; rotate_left))
      cases o with
      | none =>
        focus (
 (refine W.cT rfl ?_)
 (refine W.seq (W.region (Jx.move rfl rfl (Jx.assign rfl rfl (Jx.assign rfl rfl (J.nil (N.seq (W.ret (N.seqRet (N.blockRet (N.seqRet (N.seqRet (N.blockRet (N.seqRet ?_))))))))))))))
 (refine id ?_; rotate_left))
        refine N.told (G := [(2, txsl []), (3, int 150)]) ⟨⟨_, rfl, Sub.nil 8 _⟩, ref0 rfl, trivial⟩ ?_
        refine N.retD (rs := [.tmp 2, .tmp 3]) (L1 := []) rfl (.tmp rfl (.tmp rfl .nil)) (List.nil_sublist _) ⟨⟨none, fun y hy hz => ?_, rfl⟩, rfl⟩
        exact all_no (all_back (by decide) (by decide) hall hy hz).1 hy h1 ho
      | some x =>
        simp only [Option.getD_some]
        focus (
 (refine W.cF rfl ?_)
 (refine W.skip (N.seq (W.region (Jx.move rfl rfl (Jx.loadAll rfl 0 rfl rfl rfl ?_)))))
 (refine J.qs (Qs.buildOne txC tx0 x rfl rfl rfl rfl rfl rfl rfl) rfl ?_)
 (refine J.appendAt (l := acc) (l2 := [x]) 1 rfl rfl (SrcOK.sl rfl) rfl rfl (hmx x) rfl ?_; intro v2 hv2)
 (refine Jx.assign rfl rfl (J.nil (N.seq (W.region (Jx.add64 rfl rfl (by omega) rfl ?_)))))
 (refine Jx.move rfl rfl (J.nil ?_))
 (refine id ?_; rotate_left))
        refine N.drop (List.sublist_cons_self _ _) ?_
        refine N.round (v2, acc ++ [x]) ⟨by simp only [List.length_append, List.length_cons, List.length_nil]; omega, ?_, ?_⟩ (by simp only [List.length_append, List.length_cons, List.length_nil]; omega) rfl ⟨⟨_, rfl, Sub.of_eq (by simp)⟩, ref0 rfl, ref0 rfl, ref0 rfl, trivial⟩
        · simp only [List.length_append, List.length_cons, List.length_nil, List.map_append, List.map_cons, List.map_nil]
          rw [hm, take_snoc (d := []) h1, ho.2]
        · intro y hy
          rcases List.mem_append.1 hy with hy | hy
          · exact hf y hy
          · simp only [List.mem_singleton] at hy; subst hy; exact ho.1
    · refine W.freezeAt 0 6 rfl rfl (by simp only [maxLen]; omega) ?_
      focus (
 (refine W.seq (W.region (Jx.lssI rfl rfl rfl (J.nil (N.seq (W.seq (W.cF rfl ?_)))))))
 (refine W.exit (N.seq (W.seq (W.region (Jx.move rfl rfl (Jx.assign rfl rfl (Jx.assign rfl rfl (J.nil (N.seq (W.ret ?_))))))))))
 (refine id ?_; rotate_left))
      refine N.retD (rs := [.tmp 2, .tmp 3]) (L1 := []) rfl (.tmp rfl (.tmp rfl .nil)) (List.nil_sublist _) ⟨⟨some acc, all_done rfl hall hst ?_ hf, rfl⟩, rfl⟩
      rw [hm, List.take_of_length_le (by omega)]
set_option maxHeartbeats 2000000 in
theorem rtdecAll_ok (s : List UInt8) (hs : s.length ≤ 1099511627776) : FnC Tryz.prog 46 [str s] [] (fun v L => (∃ o, DecR fineAll encAll s o ∧ v = .tup [txsl (o.getD []), int (codeO o 150)]) ∧ L = []) := by
  have c1 := fun b => r_List b s 0 8 100000 hs (by decide)
  refine FnC.intro Tryz.func46 rfl Tryz.ntmps46 rfl fun Z w0 hG => ?_
  focus (
 (refine W.seq (W.region (Jx.assign rfl rfl (Jx.assign rfl rfl (J.nil (N.seq (W.seq (W.region (Jx.move rfl rfl (Jx.buildB rfl rfl rfl rfl rfl ?_))))))))))
 (refine J.boxAg rfl rfl ?_; intro b')
 (refine Jx.assign rfl rfl (J.nil (N.seq (W.seq (W.region (Jx.move rfl rfl ?_))))))
 (refine J.call ((c1 _)) rfl (evs_args rfl) rfl ?_; rintro _ _ ⟨all, s1, c1', rfl, rfl, hs1, hall⟩; simp only [la1, la2, la3])
 (refine Jx.assign rfl rfl (J.nil (N.seq (W.seq (W.seq (W.region (Jx.move rfl rfl ?_)))))))
 (refine J.call ((r_End _ s1 c1')) rfl (evs_args rfl) rfl ?_; rintro _ _ ⟨e, s2, c2', rfl, rfl, he⟩; simp only [la1, la2, la3])
 (refine Jx.neqI rfl rfl rfl (J.nil (N.seq ?_)))
 (refine id ?_; rotate_left))
  have hall : listP 8 100000 (some s) = (all, rf s1 c1') := hall
  have hmem := listP_mem (by decide) hall
  refine W.cond rfl (fun hb => ?_) (fun hb => ?_)
  · focus (
 (refine W.seq (W.region (Jx.assign rfl rfl (Jx.assign rfl rfl (J.nil (N.seq (W.ret (N.seqRet ?_))))))))
 (refine id ?_; rotate_left))
    refine N.told (G := [(2, txsl []), (3, int 150)]) ⟨⟨_, rfl, Sub.nil 8 _⟩, ref0 rfl, trivial⟩ ?_
    refine N.retD (rs := [.tmp 2, .tmp 3]) (L1 := []) rfl (.tmp rfl (.tmp rfl .nil)) (List.nil_sublist _) ⟨⟨none, fun y hy hz => ?_, rfl⟩, rfl⟩
    have := (all_back (by decide) (by decide) hall hy hz).2
    rw [he.2 this] at hb
    simp at hb
  · have he0 : e = 0 := by simpa using hb
    have hst := he.1 he0
    have h8 : all.length ≤ 8 := by rw [hst] at hall; have := (listP_good hall).2.1; omega
    focus (
 (refine W.skip (N.seq (W.seq (W.region (Jx.assign rfl rfl (J.nil (N.seq (W.seq (W.seq (W.region (Jx.assign rfl rfl (J.nil (N.seq (W.block ?_))))))))))))))
 (refine id ?_; rotate_left))
    refine W.rowNil tTx 8 (elOf txC tx0 []) ?_
    refine W.loop (α := Value × List Tx) (fun x => [(7, int (x.2.length : Int)), (5, ssl all), (6, .val x.1)]) (fun x => [.row x.1 tTx 8 x.2.length (elOf txC tx0 x.2), rrO b' s2 c2']) (fun x => x.2.length ≤ all.length ∧ x.2.map encTx = all.take x.2.length ∧ ∀ y ∈ x.2, fineTx y = true) (fun x => all.length - x.2.length) (.slice none 0 0, []) ⟨by simp, by simp, by simp⟩ rfl ⟨ref0 rfl, ref0 rfl, ref0 rfl, trivial⟩ ?_
    rintro ⟨u, acc⟩ ⟨hi, hm, hf⟩
    simp only at hi hm hf ⊢
    by_cases h1 : acc.length < all.length
    · have c3 := rtdecode_ok (all.getD acc.length []) (by have := hmem _ (getD_mem (d := []) h1); omega)
      have hmx : ∀ x : Tx, acc.length + [x].length ≤ maxLen ∧ (acc.length + [x].length) * 112 ≤ 140737488355328 := fun x => by simp only [maxLen, List.length_cons, List.length_nil]; omega
      focus (
 (refine W.seq (W.seq (W.region (Jx.move rfl rfl (Jx.move rfl rfl (Jx.lenSl rfl rfl ?_))))))
 (refine Jx.lssI rfl rfl rfl (J.nil (N.seq (W.cT rfl ?_))))
 (refine W.skip (N.seq (W.seq (W.block (W.seq (W.region (Jx.move rfl rfl (Jx.move rfl rfl (Jx.indexEl rfl rfl (by assumption) rfl rfl ?_)))))))))
 (refine Jx.loadPP rfl rfl ?_)
 (refine J.call (Lc := []) c3 rfl (evs_args rfl) rfl ?_; rintro _ _ ⟨⟨o, ho, rfl⟩, rfl⟩; simp only [la1, la2, la3])
 (refine Jx.move rfl rfl (Jx.extract rfl rfl rfl ?_))
 (refine Jx.extract rfl rfl rfl ?_)
 (refine J.alloc (by simp only [List.map_cons, List.map_nil]; rfl) rfl rfl ?_; intro b')
 (refine J.storeAll rfl rfl rfl 0 rfl rfl rfl ?_)
 (refine Jx.assign rfl rfl (J.nil (N.seq (W.seq (W.seq (W.region (Jx.move rfl rfl (Jx.neqI rfl rfl rfl (J.nil (N.seq ?_))))))))))
 (refine id ?_; rotate_left))
      cases o with
      | none =>
        focus (
 (refine W.cT rfl ?_)
 (refine W.seq (W.region (Jx.assign rfl rfl (Jx.assign rfl rfl (J.nil (N.seq (W.ret (N.seqRet (N.blockRet (N.seqRet (N.seqRet (N.blockRet (N.seqRet ?_)))))))))))))
 (refine id ?_; rotate_left))
        refine N.told (G := [(2, txsl []), (3, int 150)]) ⟨⟨_, rfl, Sub.nil 8 _⟩, ref0 rfl, trivial⟩ ?_
        refine N.retD (rs := [.tmp 2, .tmp 3]) (L1 := []) rfl (.tmp rfl (.tmp rfl .nil)) (List.nil_sublist _) ⟨⟨none, fun y hy hz => ?_, rfl⟩, rfl⟩
        exact all_no (all_back (by decide) (by decide) hall hy hz).1 hy h1 ho
      | some x =>
        simp only [Option.getD_some]
        focus (
 (refine W.cF rfl ?_)
 (refine W.skip (N.seq (W.region (Jx.move rfl rfl (Jx.loadAll rfl 0 rfl rfl rfl ?_)))))
 (refine J.qs (Qs.buildOne txC tx0 x rfl rfl rfl rfl rfl rfl rfl) rfl ?_)
 (refine J.appendAt (l := acc) (l2 := [x]) 1 rfl rfl (SrcOK.sl rfl) rfl rfl (hmx x) rfl ?_; intro v2 hv2)
 (refine Jx.assign rfl rfl (J.nil (N.seq (W.region (Jx.move rfl rfl (Jx.add64 rfl rfl (by omega) rfl ?_))))))
 (refine Jx.assign rfl rfl (J.nil ?_))
 (refine id ?_; rotate_left))
        refine N.drop (List.sublist_cons_self _ _) ?_
        refine N.round (v2, acc ++ [x]) ⟨by simp only [List.length_append, List.length_cons, List.length_nil]; omega, ?_, ?_⟩ (by simp only [List.length_append, List.length_cons, List.length_nil]; omega) rfl ⟨⟨_, rfl, Sub.of_eq (by simp)⟩, ref0 rfl, ref0 rfl, trivial⟩
        · simp only [List.length_append, List.length_cons, List.length_nil, List.map_append, List.map_cons, List.map_nil]
          rw [hm, take_snoc (d := []) h1, ho.2]
        · intro y hy
          rcases List.mem_append.1 hy with hy | hy
          · exact hf y hy
          · simp only [List.mem_singleton] at hy; subst hy; exact ho.1
    · refine W.freezeAt 0 6 rfl rfl (by simp only [maxLen]; omega) ?_
      focus (
 (refine W.seq (W.seq (W.region (Jx.move rfl rfl (Jx.move rfl rfl (Jx.lenSl rfl rfl ?_))))))
 (refine Jx.lssI rfl rfl rfl (J.nil (N.seq (W.cF rfl ?_))))
 (refine W.exit (N.seq (W.seq (W.region (Jx.move rfl rfl (Jx.assign rfl rfl (Jx.assign rfl rfl (J.nil (N.seq (W.ret ?_))))))))))
 (refine id ?_; rotate_left))
      refine N.retD (rs := [.tmp 2, .tmp 3]) (L1 := []) rfl (.tmp rfl (.tmp rfl .nil)) (List.nil_sublist _) ⟨⟨some acc, all_done rfl hall hst ?_ hf, rfl⟩, rfl⟩
      rw [hm, List.take_of_length_le (by omega)]
def rootT (l : List Tx) : List UInt8 := if fineAll l then sumD 3 (encAll l) else []
theorem troot_ok (l : List Tx) : FnC Tryz.prog 29 [txsl l] [] (fun v L => v = .tup [str (rootT l), int (codeAll l)] ∧ L = []) := by
  have c := tencAll_ok l
  have hz := codeAll_zero l
  refine FnC.intro Tryz.func29 rfl Tryz.ntmps29 rfl fun Z w0 hG => ?_
  unfold rootT
  cases hf : fineAll l with
  | false =>
    have hc : codeAll l ≠ 0 := fun h => by rw [hz.1 h] at hf; cases hf
    rw [encO, hf] at c
    generalize codeAll l = e at *
    focus (
 (refine W.seq (W.region (Jx.assign rfl rfl (Jx.assign rfl rfl (J.nil (N.seq (W.seq (W.region (Jx.move rfl rfl ?_)))))))))
 (refine J.cP c (evs_args rfl) rfl ?_; try simp only)
 (refine Jx.move rfl rfl (Jx.extract rfl rfl rfl ?_))
 (refine Jx.extract rfl rfl rfl ?_)
 (refine Jx.assign rfl rfl (Jx.assign rfl rfl (J.nil (N.seq (W.seq (W.seq (W.region (Jx.move rfl rfl (Jx.neqI rfl rfl rfl (J.nil (N.seq (W.cT rfl ?_))))))))))))
 (refine W.seq (W.region (Jx.move rfl rfl (Jx.assign rfl rfl (Jx.assign rfl rfl (J.nil (N.seq (W.ret (N.seqRet ?_)))))))))
 (refine id ?_; rotate_left))
    exact N.ret (rs := [.tmp 2, .tmp 3]) rfl (.tmp rfl (.tmp rfl .nil)) ⟨rfl, rfl⟩
  | true =>
    have hc := hz.2 hf
    rw [encO, if_pos hf, hc] at c
    rw [if_pos rfl, hc]
    have cs := dsum_ok 3 (encAll l) (by decide) (by decide) (by have := encAll_len hf; omega)
    generalize sumD 3 (encAll l) = sm at *
    generalize encAll l = ea at *
    focus (
 (refine W.seq (W.region (Jx.assign rfl rfl (Jx.assign rfl rfl (J.nil (N.seq (W.seq (W.region (Jx.move rfl rfl ?_)))))))))
 (refine J.cP c (evs_args rfl) rfl ?_; try simp only)
 (refine Jx.move rfl rfl (Jx.extract rfl rfl rfl ?_))
 (refine Jx.extract rfl rfl rfl ?_)
 (refine Jx.assign rfl rfl (Jx.assign rfl rfl (J.nil (N.seq (W.seq (W.seq (W.region (Jx.move rfl rfl (Jx.neqI rfl rfl rfl (J.nil (N.seq (W.cF rfl ?_))))))))))))
 (refine W.skip (N.seq (W.seq (W.region (Jx.move rfl rfl ?_)))))
 (refine J.cP cs (evs_args rfl) rfl ?_; try simp only)
 (refine Jx.extract rfl rfl rfl ?_)
 (refine Jx.extract rfl rfl rfl ?_)
 (refine Jx.assign rfl rfl (Jx.assign rfl rfl (J.nil (N.seq (W.ret ?_)))))
 (refine id ?_; rotate_left))
    exact N.ret (rs := [.tmp 2, .tmp 3]) rfl (.tmp rfl (.tmp rfl .nil)) ⟨rfl, rfl⟩
theorem rtroot_ok (l : List Tx) : FnC Tryz.prog 72 [txsl l] [] (fun v L => v = .tup [str (rootT l), int (codeAll l)] ∧ L = []) := by
  have c := rtencAll_ok l
  have hz := codeAll_zero l
  refine FnC.intro Tryz.func72 rfl Tryz.ntmps72 rfl fun Z w0 hG => ?_
  unfold rootT
  cases hf : fineAll l with
  | false =>
    have hc : codeAll l ≠ 0 := fun h => by rw [hz.1 h] at hf; cases hf
    rw [encO, hf] at c
    generalize codeAll l = e at *
    focus (
 (refine W.seq (W.region (Jx.assign rfl rfl (Jx.assign rfl rfl (J.nil (N.seq (W.seq (W.region (Jx.move rfl rfl ?_)))))))))
 (refine J.cP c (evs_args rfl) rfl ?_; try simp only)
 (refine Jx.move rfl rfl (Jx.extract rfl rfl rfl ?_))
 (refine Jx.extract rfl rfl rfl ?_)
 (refine Jx.assign rfl rfl (Jx.assign rfl rfl (J.nil (N.seq (W.seq (W.seq (W.region (Jx.move rfl rfl (Jx.neqI rfl rfl rfl (J.nil (N.seq (W.cT rfl ?_))))))))))))
 (refine W.seq (W.region (Jx.move rfl rfl (Jx.assign rfl rfl (Jx.assign rfl rfl (J.nil (N.seq (W.ret (N.seqRet ?_)))))))))
 (refine id ?_; rotate_left))
    exact N.ret (rs := [.tmp 2, .tmp 3]) rfl (.tmp rfl (.tmp rfl .nil)) ⟨rfl, rfl⟩
  | true =>
    have hc := hz.2 hf
    rw [encO, if_pos hf, hc] at c
    rw [if_pos rfl, hc]
    have cs := rtagged_ok 3 (encAll l) (by have := encAll_len hf; omega)
    generalize sumD 3 (encAll l) = sm at *
    generalize encAll l = ea at *
    focus (
 (refine W.seq (W.region (Jx.assign rfl rfl (Jx.assign rfl rfl (J.nil (N.seq (W.seq (W.region (Jx.move rfl rfl ?_)))))))))
 (refine J.cP c (evs_args rfl) rfl ?_; try simp only)
 (refine Jx.move rfl rfl (Jx.extract rfl rfl rfl ?_))
 (refine Jx.extract rfl rfl rfl ?_)
 (refine Jx.assign rfl rfl (Jx.assign rfl rfl (J.nil (N.seq (W.seq (W.seq (W.region (Jx.move rfl rfl (Jx.neqI rfl rfl rfl (J.nil (N.seq (W.cF rfl ?_))))))))))))
 (refine W.skip (N.seq (W.seq (W.region (Jx.move rfl rfl ?_)))))
 (refine J.cP cs (evs_args rfl) rfl ?_; try simp only)
 (refine Jx.assign rfl rfl (Jx.assign rfl rfl (J.nil (N.seq (W.ret ?_)))))
 (refine id ?_; rotate_left))
    exact N.ret (rs := [.tmp 2, .tmp 3]) rfl (.tmp rfl (.tmp rfl .nil)) ⟨rfl, rfl⟩
set_option maxHeartbeats 1000000 in
theorem sameTs_ok (l m : List Tx) (hb : l.length ≤ 1048576) (hm : ∀ x ∈ l, x.members.length ≤ 1048576) : FnC Tryz.prog 51 [txsl l, txsl m] [] (fun v L => v = bool (decide (l = m)) ∧ L = []) := by
  refine FnC.intro Tryz.func51 rfl Tryz.ntmps51 rfl fun Z w0 hG => ?_
  by_cases hl : l.length = m.length
  · focus (
 (refine W.seq (W.region (Jx.assign rfl rfl (J.nil (N.seq (W.seq (W.region (Jx.move rfl rfl (Jx.lenSl rfl rfl ?_)))))))))
 (refine Jx.move rfl rfl (Jx.lenSl rfl rfl ?_))
 (refine Jx.eqlI rfl rfl rfl (Jx.assign rfl rfl (J.nil (N.seq (W.seq (W.seq (W.region (Jx.assign rfl rfl (J.nil (N.seq (W.block ?_)))))))))))
 (refine id ?_; rotate_left))
    refine W.loop (α := Nat × Bool) (fun x => [(6, int (x.1 : Int)), (5, bool x.2), (0, txsl l), (1, txsl m)]) (fun _ => []) (fun x => x.1 ≤ l.length ∧ (x.2 = true → l.take x.1 = m.take x.1) ∧ (x.2 = false → l ≠ m)) (fun x => l.length - x.1) (0, true) ⟨by omega, by simp, by simp⟩ rfl ⟨ref0 rfl, ⟨_, rfl, Sub.of_eq (by simp [hl])⟩, ref0 rfl, ref0 rfl, trivial⟩ ?_
    rintro ⟨i, q⟩ ⟨hi, h1, h2⟩
    simp only at hi h1 h2
    cases q with
    | false =>
      focus (
 (refine W.seq (W.seq (W.region (Jx.move rfl rfl (Jx.move rfl rfl (J.gN rfl rfl rfl rfl ?_))))))
 (refine J.gN rfl rfl rfl rfl ?_)
 (refine J.gN rfl rfl rfl rfl ?_)
 (refine J.gN rfl rfl rfl rfl ?_)
 (refine Jx.pF rfl rfl rfl ?_)
 (refine J.nil (N.seq (W.cF rfl ?_)))
 (refine W.exit (N.seq (W.seq (W.region (Jx.move rfl rfl (Jx.assign rfl rfl (J.nil (N.seq (W.ret ?_)))))))))
 (refine id ?_; rotate_left))
      exact N.ret (rs := [.tmp 4]) rfl (.tmp rfl .nil) ⟨by rw [decide_eq_false (h2 rfl)]; rfl, rfl⟩
    | true =>
      by_cases h3 : i < l.length
      · have h4 : i < m.length := by omega
        have e1 := take_snoc (d := tx0) h3
        have e2 := take_snoc (d := tx0) h4
        have c := sameT_ok (l.getD i tx0) (m.getD i tx0) (hm _ (getD_mem h3))
        focus (
 (refine W.seq (W.seq (W.region (Jx.move rfl rfl (Jx.move rfl rfl (J.gY rfl rfl rfl ?_))))))
 (refine Jx.move rfl rfl (J.gY rfl rfl rfl ?_))
 (refine Jx.move rfl rfl (J.gY rfl rfl rfl ?_))
 (refine Jx.lenSl rfl rfl ?_)
 (refine J.gY rfl rfl rfl ?_)
 (refine Jx.lssI rfl rfl rfl (Jx.pT rfl rfl rfl ?_))
 (refine J.nil (N.seq (W.cT rfl ?_)))
 (refine W.skip (N.seq (W.seq (W.block ?_))))
 (refine W.draw follows ?_)
 (refine JD.calm rfl (by decide +kernel) ?_)
 (refine Cx.move rfl rfl ?_)
 (refine Cx.move rfl rfl ?_)
 (refine Cx.indexEl rfl rfl (by assumption) rfl rfl ?_)
 (refine Cx.loadPPall rfl rfl rfl ?_)
 (refine Cx.move rfl rfl ?_)
 (refine Cx.move rfl rfl ?_)
 (refine Cx.indexEl rfl rfl (by assumption) rfl rfl ?_)
 (refine Cx.loadPPall rfl rfl rfl ?_)
 (refine SegC.q (Qs.call (Lc := []) (c) (fun s L' h => h) (List.Perm.refl _) (evs_args rfl)) rfl ?_)
 (refine Cx.assign rfl rfl ?_)
 (refine SegC.nil ?_)
 (refine N.seq (W.region (Jx.move rfl rfl (Jx.add64 rfl rfl (by omega) rfl ?_))))
 (refine Jx.assign rfl rfl (J.nil ?_))
 (refine id ?_; rotate_left))
        refine N.round (i + 1, decide (l.getD i tx0 = m.getD i tx0)) ⟨h3, fun h => ?_, fun h e => ?_⟩ (by simp only; omega) rfl ⟨ref0 rfl, ref0 rfl, ref0 rfl, ref0 rfl, trivial⟩
        · simp only [decide_eq_true_eq] at h
          rw [e1, e2, h1 rfl, h]
        · simp only [decide_eq_false_iff_not] at h
          exact h (by rw [e])
      · have e := h1 rfl
        rw [List.take_of_length_le (by omega), List.take_of_length_le (by omega)] at e
        focus (
 (refine W.seq (W.seq (W.region (Jx.move rfl rfl (Jx.move rfl rfl (J.gY rfl rfl rfl ?_))))))
 (refine Jx.move rfl rfl (J.gY rfl rfl rfl ?_))
 (refine Jx.move rfl rfl (J.gY rfl rfl rfl ?_))
 (refine Jx.lenSl rfl rfl ?_)
 (refine J.gY rfl rfl rfl ?_)
 (refine Jx.lssI rfl rfl rfl (Jx.pT rfl rfl rfl ?_))
 (refine J.nil (N.seq (W.cF rfl ?_)))
 (refine W.exit (N.seq (W.seq (W.region (Jx.move rfl rfl (Jx.assign rfl rfl (J.nil (N.seq (W.ret ?_)))))))))
 (refine id ?_; rotate_left))
        exact N.ret (rs := [.tmp 4]) rfl (.tmp rfl .nil) ⟨by rw [decide_eq_true e]; rfl, rfl⟩
  · have hne : l ≠ m := fun e => hl (by rw [e])
    focus (
 (refine W.seq (W.region (Jx.assign rfl rfl (J.nil (N.seq (W.seq (W.region (Jx.move rfl rfl (Jx.lenSl rfl rfl ?_)))))))))
 (refine Jx.move rfl rfl (Jx.lenSl rfl rfl ?_))
 (refine Jx.eqlI rfl rfl rfl (Jx.assign rfl rfl (J.nil (N.seq (W.seq (W.seq (W.region (Jx.assign rfl rfl (J.nil (N.seq (W.block ?_)))))))))))
 (refine id ?_; rotate_left))
    refine W.loop (α := Unit) (fun x => [(5, bool false)]) (fun _ => []) (fun x => True) (fun x => 0) () trivial rfl ⟨⟨_, rfl, Sub.of_eq (by simp; omega)⟩, trivial⟩ ?_
    rintro _ _
    focus (
 (refine W.seq (W.seq (W.region (Jx.move rfl rfl (Jx.move rfl rfl (J.gN rfl rfl rfl rfl ?_))))))
 (refine J.gN rfl rfl rfl rfl ?_)
 (refine J.gN rfl rfl rfl rfl ?_)
 (refine J.gN rfl rfl rfl rfl ?_)
 (refine Jx.pF rfl rfl rfl ?_)
 (refine J.nil (N.seq (W.cF rfl ?_)))
 (refine W.exit (N.seq (W.seq (W.region (Jx.move rfl rfl (Jx.assign rfl rfl (J.nil (N.seq (W.ret ?_)))))))))
 (refine id ?_; rotate_left))
    exact N.ret (rs := [.tmp 4]) rfl (.tmp rfl .nil) ⟨by rw [decide_eq_false hne]; rfl, rfl⟩
end Go.Proofs.YtlfdhkahiaammaaGreatDoor
namespace Go.Proofs.YtlfdhkahiaammaaGreatDoor
open Go Go.Sse
set_option linter.unusedVariables false
set_option linter.unusedSimpArgs false
set_option maxRecDepth 10000
structure Ct where
  digest : List UInt8
  signers : List (List UInt8)
theorem Ct.ext' {x y : Ct} (h1 : x.digest = y.digest) (h2 : x.signers = y.signers) : x = y := by cases x; cases y; simp_all
instance : DecidableEq Ct := fun x y => decidable_of_iff (x.digest = y.digest ∧ x.signers = y.signers) ⟨fun h => Ct.ext' h.1 h.2, fun h => by subst h; simp⟩
abbrev ctC (c : Ct) : List SV := [str c.digest, ssl c.signers]
def ct0 : Ct := ⟨[], []⟩
def okN (last s : List UInt8) : Bool := !leB s last && decide (s.length ≤ 6)
def fineN : List UInt8 → List (List UInt8) → Bool
  | _, [] => true
  | last, s :: r => okN last s && fineN s r
def fineCt (c : Ct) : Bool := (decide (c.digest.length = 32) && decide (c.signers.length ≤ 7)) && fineN [] c.signers
def bareCt (c : Ct) : Bool := decide (c.digest = []) && decide ((c.signers.length : Int) = 0)
def encCt (c : Ct) : List UInt8 := c.digest ++ listB c.signers
def lastS (l : List (List UInt8)) (i : Nat) : List UInt8 := if i = 0 then [] else l.getD (i - 1) []
theorem lastS_succ (l : List (List UInt8)) (i : Nat) : lastS l (i + 1) = l.getD i [] := by simp [lastS]
theorem fineN_step (l : List (List UInt8)) (i : Nat) (h : i < l.length) (last : List UInt8) : fineN last (l.drop i) = (okN last (l.getD i []) && fineN (l.getD i []) (l.drop (i + 1))) := by
  rw [List.drop_eq_getElem_cons h, List.getD_eq_getElem?_getD, List.getElem?_eq_getElem h]; rfl
theorem fineN_mem : ∀ {l : List (List UInt8)} {last : List UInt8}, fineN last l = true → ∀ s ∈ l, s.length ≤ 6
  | [], _, _, m, hm => by simp at hm
  | x :: r, last, h, m, hm => by
    simp only [fineN, okN, Bool.and_eq_true, decide_eq_true_eq] at h
    rcases List.mem_cons.1 hm with rfl | hm
    · exact h.1.2
    · exact fineN_mem h.2 m hm
theorem fineCt_spec {c : Ct} (h : fineCt c = true) : c.digest.length = 32 ∧ c.signers.length ≤ 7 ∧ ∀ s ∈ c.signers, s.length ≤ 6 := by
  simp only [fineCt, Bool.and_eq_true, decide_eq_true_eq] at h
  exact ⟨h.1.1, h.1.2, fineN_mem h.2⟩
theorem encCt_len {c : Ct} (h : fineCt c = true) : (encCt c).length ≤ 146 := by
  obtain ⟨h1, h2, h3⟩ := fineCt_spec h
  have := listB_len' (l := c.signers) (k := 6) (n := 7) h2 (by decide) h3 (by decide)
  simp only [encCt, List.length_append]; omega
theorem bare_fine {c : Ct} (h : bareCt c = true) : fineCt c = false := by
  simp only [bareCt, Bool.and_eq_true, decide_eq_true_eq] at h
  simp [fineCt, h.1]
theorem bare_eq {c : Ct} (h : bareCt c = true) : c = ct0 := by
  simp only [bareCt, Bool.and_eq_true, decide_eq_true_eq] at h
  exact Ct.ext' h.1 (List.eq_nil_of_length_eq_zero (by omega))
structure ReadC (m e : Int) (s : List UInt8) (c : Ct) (st : PSt) : Prop where
  go : ∃ s1 : PSt, bytesP 32 (some s) = (c.digest, s1) ∧ listP m e s1 = (c.signers, st)
theorem ReadC.sound {m e : Int} {s : List UInt8} {c : Ct} (h : ReadC m e s c (some [])) : encCt c = s := by
  obtain ⟨s1, e1, e2⟩ := h.go
  obtain ⟨rfl, _⟩ := listP_good e2
  obtain ⟨h1, _⟩ := bytesP_good e1
  simp only [Option.some.injEq, List.append_nil] at h1
  rw [encCt, h1]
theorem readC_back {m e : Int} (hm : 7 ≤ m) (he : 6 ≤ e) {y : Ct} (r : List UInt8) (hf : fineCt y = true) : bytesP 32 (some (encCt y ++ r)) = (y.digest, some (listB y.signers ++ r)) ∧ listP m e (some (listB y.signers ++ r)) = (y.signers, some r) := by
  obtain ⟨h1, h2, h3⟩ := fineCt_spec hf
  refine ⟨by rw [encCt, List.append_assoc]; exact bytesP_back' _ _ h1, listP_back _ _ (by omega) (by omega) fun t ht => ?_⟩
  have := h3 t ht
  omega
theorem ReadC.whole {m e : Int} (hm : 7 ≤ m) (he : 6 ≤ e) {s : List UInt8} {c y : Ct} {st : PSt} (h : ReadC m e s c st) (hf : fineCt y = true) (hs : encCt y = s) : c = y ∧ st = some [] := by
  obtain ⟨s1, e1, e2⟩ := h.go
  obtain ⟨g1, g2⟩ := readC_back hm he [] hf
  rw [List.append_nil, hs, e1] at g1
  simp only [Prod.mk.injEq] at g1
  obtain ⟨k1, rfl⟩ := g1
  rw [e2] at g2
  simp only [Prod.mk.injEq] at g2
  exact ⟨Ct.ext' k1 g2.1, g2.2⟩
theorem apCt : Apart fineCt encCt := ⟨fun x y r q hx hy h => by
  obtain ⟨a1, a2⟩ := readC_back (m := 7) (e := 6) (by decide) (by decide) r hx
  obtain ⟨b1, b2⟩ := readC_back (m := 7) (e := 6) (by decide) (by decide) q hy
  rw [h, b1] at a1
  simp only [Prod.mk.injEq, Option.some.injEq] at a1
  rw [a1.2, a2] at b2
  simp only [Prod.mk.injEq, Option.some.injEq] at b2
  exact ⟨Ct.ext' a1.1.symm b2.1, b2.2⟩⟩
end Go.Proofs.YtlfdhkahiaammaaGreatDoor
namespace Go.Proofs.YtlfdhkahiaammaaGreatDoor
open Go Go.Sse
set_option linter.unusedVariables false
set_option linter.unusedSimpArgs false
set_option maxRecDepth 10000
abbrev isl (l : List Int) : SV := .sl 1 l.length (elOf (fun n => [int n]) 0 l)
def linksTo (n k : Nat) : List Int := ((List.range k).filter (fun j => n % 2 ^ (j + 1) = 0)).map (fun j => (n : Int) - ((2 ^ (j + 1) : Nat) : Int))
def linksI (h : Int) : List Int := if 1 ≤ h ∧ h ≤ 1048576 then linksTo h.toNat 20 else []
theorem linksTo_yes (n k : Nat) (h : n % 2 ^ (k + 1) = 0) : linksTo n (k + 1) = linksTo n k ++ [(n : Int) - ((2 ^ (k + 1) : Nat) : Int)] := by
  simp only [linksTo, List.range_succ, List.filter_append, List.map_append]
  simp [h]
theorem linksTo_no (n k : Nat) (h : ¬ n % 2 ^ (k + 1) = 0) : linksTo n (k + 1) = linksTo n k := by
  simp only [linksTo, List.range_succ, List.filter_append, List.map_append]
  simp [h]
theorem mod_up {n k : Nat} (h : ¬ n % 2 ^ (k + 1) = 0) : ∀ j, ¬ n % 2 ^ (k + 1 + j) = 0
  | 0 => h
  | j + 1 => fun h2 => by
    refine mod_up h j ?_
    have : 2 ^ (k + 1 + (j + 1)) = 2 ^ (k + 1 + j) * 2 := by rw [show k + 1 + (j + 1) = (k + 1 + j) + 1 by omega, Nat.pow_succ]
    rw [this] at h2
    exact Nat.mod_eq_zero_of_dvd (Nat.dvd_trans (Nat.dvd_mul_right _ _) (Nat.dvd_of_mod_eq_zero h2))
theorem linksTo_end {n k : Nat} (h : ¬ n % 2 ^ (k + 1) = 0) : ∀ d, linksTo n (k + d) = linksTo n k
  | 0 => rfl
  | d + 1 => by rw [show k + (d + 1) = (k + d) + 1 by omega, linksTo_no _ _ (by rw [show k + d + 1 = k + 1 + d by omega]; exact mod_up h d), linksTo_end h d]
theorem linksTo_len (n k : Nat) : (linksTo n k).length ≤ k := by
  simp only [linksTo, List.length_map]
  exact Nat.le_trans (List.length_filter_le _ _) (by simp)
theorem linksI_len (h : Int) : (linksI h).length ≤ 20 := by
  unfold linksI
  split
  · exact linksTo_len _ _
  · simp
theorem linksI_zero {h : Int} (h0 : h < 1) : linksI h = [] := by rw [linksI, if_neg (by omega)]
theorem pow_small {n k : Nat} (h1 : 1 ≤ n) (h2 : n ≤ 1048576) (h : n % 2 ^ (k + 1) = 0) : k < 20 ∧ 2 ^ (k + 1) ≤ 1048576 := by
  have hle : 2 ^ (k + 1) ≤ n := Nat.le_of_dvd (by omega) (Nat.dvd_of_mod_eq_zero h)
  refine ⟨?_, by omega⟩
  rcases Nat.lt_or_ge k 20 with hk | hk
  · exact hk
  · have : 2 ^ 21 ≤ 2 ^ (k + 1) := Nat.pow_le_pow_right (by omega) (by omega)
    have h21 : 2 ^ 21 = 2097152 := by decide
    omega
set_option maxHeartbeats 2000000 in
theorem links_ok (h : Int) : FnC Tryz.prog 116 [int h] [] (fun v L => v = isl (linksI h) ∧ L = []) := by
  refine FnC.intro Tryz.func116 rfl Tryz.ntmps116 rfl fun Z w0 hG => ?_
  by_cases hh : 1 ≤ h ∧ h ≤ 1048576
  · obtain ⟨n, rfl⟩ : ∃ n : Nat, h = n := ⟨h.toNat, by omega⟩
    have h1 : 1 ≤ n := by omega
    have h2 : n ≤ 1048576 := by omega
    have hl : linksI (n : Int) = linksTo n 20 := by rw [linksI, if_pos hh, Int.toNat_natCast]
    rw [hl]
    focus (
 (refine W.seq (W.region (Jx.assign rfl rfl (J.nil (N.seq ?_)))))
 (refine id ?_; rotate_left))
    refine W.scopeL (α := Nat × Value) 0 (fun x => [(3, .val x.2), (4, int ((2 ^ (x.1 + 1) : Nat) : Int)), (0, int (n : Int))]) (fun x => [.row x.2 3 1 (linksTo n x.1).length (elOf (fun n => [int n]) 0 (linksTo n x.1))]) (fun x => 2 ^ (x.1 + 1) ≤ 2097152) 4 (fun x => ((2 ^ (x.1 + 1) : Nat) : Int)) (fun m => (4194304 - m).toNat) rfl (fun _ _ => rfl) ?_ ?_
    · intro hr
      focus (
 (refine W.seq (W.seq (W.region (Jx.move rfl rfl (Jx.lssI rfl rfl rfl (Jx.move rfl rfl (J.gY rfl rfl rfl ?_)))))))
 (refine Jx.move rfl rfl (J.gY rfl rfl rfl ?_))
 (refine Jx.gtrI rfl rfl rfl (Jx.pF rfl rfl rfl ?_))
 (refine J.nil (N.seq (W.cF rfl ?_)))
 (refine W.skip (N.seq (W.seq (W.region (Jx.assign rfl rfl (J.nil (N.seq (W.seq (W.region (Jx.assign rfl rfl (J.nil (N.seq (W.seq ?_)))))))))))))
 (refine id ?_; rotate_left))
      refine W.label ?_
      refine N.seq ?_
      refine W.rowNil 3 1 (elOf (fun n => [int n]) 0 []) ?_
      refine W.told ?_ (hr (0, .slice none 0 0) (by decide))
      exact ⟨ref0 rfl, ref0 rfl, ref0 rfl, trivial⟩
    · rintro ⟨k, u⟩ hk
      simp only at hk ⊢
      have hlen := linksTo_len n k
      have hpos : 0 < 2 ^ (k + 1) := Nat.pow_pos (by omega)
      have hmax : (linksTo n k).length ≤ maxLen := by
        have : k ≤ 2 ^ (k + 1) := Nat.le_of_lt (Nat.lt_of_lt_of_le (Nat.lt_two_pow_self) (Nat.pow_le_pow_right (by omega) (by omega)))
        simp only [maxLen]; omega
      have hm : (n : Int) % ((2 ^ (k + 1) : Nat) : Int) = ((n % 2 ^ (k + 1) : Nat) : Int) := by rw [Int.natCast_emod]
      by_cases h0 : n % 2 ^ (k + 1) = 0
      · obtain ⟨g1, g2⟩ := pow_small h1 h2 h0
        have hy := linksTo_yes n k h0
        have hp : 2 ^ (k + 1 + 1) = 2 ^ (k + 1) * 2 := Nat.pow_succ ..
        have hp2 : (((2 ^ (k + 1) : Nat) : Int)) * 2 = ((2 ^ (k + 1 + 1) : Nat) : Int) := by omega
        have hmx : (linksTo n k).length + [(n : Int) - ((2 ^ (k + 1) : Nat) : Int)].length ≤ maxLen ∧ ((linksTo n k).length + [(n : Int) - ((2 ^ (k + 1) : Nat) : Int)].length) * 8 ≤ 140737488355328 := by simp only [maxLen, List.length_cons, List.length_nil]; omega
        rw [h0] at hm
        generalize 2 ^ (k + 1) = p at *
        generalize linksTo n k = acc at *
        focus (
 (refine W.seq (W.seq (W.region (Jx.move rfl rfl (Jx.move rfl rfl ?_)))))
 (refine Jx.rem64 rfl rfl (by omega) (by omega) rfl ?_; rw [hm])
 (refine Jx.eqlI rfl rfl rfl (J.nil (N.seq (W.cT rfl ?_))))
 (refine W.seq (W.region (Jx.move rfl rfl (Jx.move rfl rfl (Jx.move rfl rfl (Jx.sub64 rfl rfl (by omega) rfl ?_))))))
 (refine J.qs (Qs.buildL (fun n : Int => int n) 0 [(n : Int) - (p : Int)] (fun _ => .val rfl) rfl rfl rfl (by decide) (by decide) rfl) rfl ?_)
 (refine J.appendAt (l := acc) (l2 := [(n : Int) - (p : Int)]) 0 rfl rfl (SrcOK.sl rfl) rfl rfl hmx rfl ?_; intro v2 hv2)
 (refine Jx.assign rfl rfl (J.nil (N.seq (W.seq (W.region (Jx.move rfl rfl (Jx.mul64 rfl rfl (by omega) rfl ?_)))))))
 (refine Jx.assign rfl rfl (J.nil (N.seq (W.goto (N.seqGoto (N.jump ?_))))))
 (refine id ?_; rotate_left))
        exact N.atJump (k + 1, v2) ⟨by simp only; omega, by simp only [hp]; omega⟩ (by rw [hy]; rfl) ⟨ref0 rfl, ⟨_, rfl, Sub.of_eq (by simp only; rw [hp2])⟩, ref0 rfl, trivial⟩
      · have hle : k ≤ 20 := by
          rcases Nat.lt_or_ge 20 k with h | h
          · have : 2 ^ 22 ≤ 2 ^ (k + 1) := Nat.pow_le_pow_right (by omega) (by omega)
            have h22 : 2 ^ 22 = 4194304 := by decide
            omega
          · exact h
        have he : linksTo n 20 = linksTo n k := by rw [show 20 = k + (20 - k) by omega, linksTo_end h0]
        rw [he]
        have hm0 : ¬ ((n % 2 ^ (k + 1) : Nat) : Int) = 0 := by omega
        generalize n % 2 ^ (k + 1) = r at *
        generalize linksTo n k = acc at *
        refine W.freezeAt 0 3 rfl rfl hmax ?_
        focus (
 (refine W.seq (W.seq (W.region (Jx.move rfl rfl (Jx.move rfl rfl ?_)))))
 (refine Jx.rem64 rfl rfl (by omega) (by omega) rfl ?_; rw [hm])
 (refine Jx.eqlI rfl rfl rfl (J.nil (N.seq (W.cF rfl ?_))))
 (refine W.skip (N.seq (W.seq (W.region (Jx.move rfl rfl (Jx.assign rfl rfl (J.nil (N.seq (W.ret (N.noGotoRet ?_))))))))))
 (refine id ?_; rotate_left))
        exact N.ret (rs := [.tmp 2]) rfl (.tmp rfl .nil) ⟨rfl, rfl⟩
  · have hl : linksI h = [] := if_neg hh
    rw [hl]
    focus (
 (refine W.seq (W.region (Jx.assign rfl rfl (J.nil (N.seq ?_)))))
 (refine id ?_; rotate_left))
    refine W.scopeS ?_
    by_cases h1 : h < 1
    · focus (
 (refine W.seq (W.seq (W.region (Jx.move rfl rfl (Jx.lssI rfl rfl rfl (Jx.move rfl rfl (J.gN rfl rfl rfl rfl ?_)))))))
 (refine J.gN rfl rfl rfl rfl ?_)
 (refine Jx.pT rfl rfl rfl ?_)
 (refine J.nil (N.seq (W.cT rfl ?_)))
 (refine W.seq (W.region (Jx.assign rfl rfl (J.nil (N.seq (W.ret (N.noGotoRet (N.noGotoRet ?_))))))))
 (refine id ?_; rotate_left))
      refine N.told (G := [(2, isl [])]) ⟨⟨_, rfl, Sub.nil 1 _⟩, trivial⟩ ?_
      exact N.ret (rs := [.tmp 2]) rfl (.tmp rfl .nil) ⟨rfl, rfl⟩
    · focus (
 (refine W.seq (W.seq (W.region (Jx.move rfl rfl (Jx.lssI rfl rfl rfl (Jx.move rfl rfl (J.gY rfl rfl rfl ?_)))))))
 (refine Jx.move rfl rfl (J.gY rfl rfl rfl ?_))
 (refine Jx.gtrI rfl rfl rfl (Jx.pF rfl rfl rfl ?_))
 (refine J.nil (N.seq (W.cT rfl ?_)))
 (refine W.seq (W.region (Jx.assign rfl rfl (J.nil (N.seq (W.ret (N.noGotoRet (N.noGotoRet ?_))))))))
 (refine id ?_; rotate_left))
      refine N.told (G := [(2, isl [])]) ⟨⟨_, rfl, Sub.nil 1 _⟩, trivial⟩ ?_
      exact N.ret (rs := [.tmp 2]) rfl (.tmp rfl .nil) ⟨rfl, rfl⟩
theorem findIdx_take {α : Type} {p : α → Bool} {l : List α} {i : Nat} (h : ∀ y ∈ l.take i, p y = false) (hi : i < l.length) (d : α) (hp : p (l.getD i d) = true) : l.findIdx? p = some i := by
  rw [List.findIdx?_eq_some_iff_getElem]
  refine ⟨hi, by rw [List.getD_eq_getElem?_getD, List.getElem?_eq_getElem hi] at hp; exact hp, fun j hj => ?_⟩
  have : l[j] ∈ l.take i := by
    rw [List.mem_take_iff_getElem]
    exact ⟨j, by omega, rfl⟩
  rw [h _ this]; simp
set_option maxHeartbeats 2000000 in
theorem rlinks_ok (h : Int) : FnC Tryz.prog 86 [int h] [] (fun v L => v = isl (linksI h) ∧ L = []) := by
  refine FnC.intro Tryz.func86 rfl Tryz.ntmps86 rfl fun Z w0 hG => ?_
  by_cases hh : 1 ≤ h ∧ h ≤ 1048576
  · obtain ⟨n, rfl⟩ : ∃ n : Nat, h = n := ⟨h.toNat, by omega⟩
    have h1 : 1 ≤ n := by omega
    have h2 : n ≤ 1048576 := by omega
    have hl : linksI (n : Int) = linksTo n 20 := by rw [linksI, if_pos hh, Int.toNat_natCast]
    rw [hl]
    focus (
 (refine W.seq (W.region (Jx.assign rfl rfl (J.nil (N.seq (W.seq (W.region (Jx.assign rfl rfl (J.nil (N.seq (W.seq (W.seq (W.region (Jx.move rfl rfl ?_))))))))))))))
 (refine Jx.lssI rfl rfl rfl (Jx.move rfl rfl (J.gY rfl rfl rfl ?_)))
 (refine Jx.move rfl rfl (J.gY rfl rfl rfl ?_))
 (refine Jx.gtrI rfl rfl rfl (Jx.pF rfl rfl rfl ?_))
 (refine J.nil (N.seq (W.cF rfl ?_)))
 (refine W.skip (N.seq (W.seq (W.seq (W.region (Jx.assign rfl rfl (J.nil (N.seq (W.block ?_)))))))))
 (refine id ?_; rotate_left))
    refine W.rowNil 3 1 (elOf (fun n => [int n]) 0 []) ?_
    refine W.loop (α := Nat × Value) (fun x => [(4, int ((x.1 + 1 : Nat) : Int)), (3, .val x.2), (0, int (n : Int))]) (fun x => [.row x.2 3 1 (linksTo n x.1).length (elOf (fun n => [int n]) 0 (linksTo n x.1))]) (fun x => x.1 ≤ 20) (fun x => 20 - x.1) (0, .slice none 0 0) (by simp) rfl ⟨ref0 rfl, ref0 rfl, ref0 rfl, trivial⟩ ?_
    rintro ⟨k, u⟩ hk
    simp only at hk ⊢
    have hlen := linksTo_len n k
    have hmax : (linksTo n k).length ≤ maxLen := by simp only [maxLen]; omega
    by_cases hk2 : k < 20
    · have hpos : 0 < 2 ^ (k + 1) := Nat.pow_pos (by omega)
      have hple : 2 ^ (k + 1) ≤ 2 ^ 20 := Nat.pow_le_pow_right (by omega) (by omega)
      have h20 : 2 ^ 20 = 1048576 := by decide
      have hone : 1 * 2 ^ (k + 1) = 2 ^ (k + 1) := Nat.one_mul _
      have hm : (n : Int) % ((2 ^ (k + 1) : Nat) : Int) = ((n % 2 ^ (k + 1) : Nat) : Int) := by rw [Int.natCast_emod]
      have hw : IntKind.u64.wrap ((k + 1 : Nat) : Int) = ((k + 1 : Nat) : Int) := wrap_u64 (by omega)
      by_cases h0 : n % 2 ^ (k + 1) = 0
      · have hy := linksTo_yes n k h0
        have hmx : (linksTo n k).length + [(n : Int) - ((2 ^ (k + 1) : Nat) : Int)].length ≤ maxLen ∧ ((linksTo n k).length + [(n : Int) - ((2 ^ (k + 1) : Nat) : Int)].length) * 8 ≤ 140737488355328 := by simp only [maxLen, List.length_cons, List.length_nil]; omega
        rw [h0] at hm
        generalize hp : 2 ^ (k + 1) = p at *
        generalize linksTo n k = acc at *
        focus (
 (refine W.seq (W.seq (W.region (Jx.move rfl rfl (Jx.leqI rfl rfl rfl (J.nil (N.seq (W.cT rfl ?_))))))))
 (refine W.skip (N.seq (W.seq (W.block (W.seq (W.region (Jx.move rfl rfl (Jx.move rfl rfl ?_))))))))
 (refine Jx.convI (by kernel_rfl) rfl rfl ?_; rw [hw])
 (refine Jx.shlN (n := 1) (s := k + 1) rfl rfl rfl (by omega) (by rw [hp]; omega) rfl ?_; rw [hp, Nat.one_mul])
 (refine Jx.rem64 rfl rfl (by omega) (by omega) rfl ?_; rw [hm])
 (refine Jx.eqlI rfl rfl rfl (J.nil (N.seq (W.cT rfl ?_))))
 (refine W.region (Jx.move rfl rfl (Jx.move rfl rfl (Jx.move rfl rfl ?_))))
 (refine Jx.convI (by kernel_rfl) rfl rfl ?_; rw [hw])
 (refine Jx.shlN (n := 1) (s := k + 1) rfl rfl rfl (by omega) (by rw [hp]; omega) rfl ?_; rw [hp, Nat.one_mul])
 (refine Jx.sub64 rfl rfl (by omega) rfl ?_)
 (refine J.qs (Qs.buildL (fun n : Int => int n) 0 [(n : Int) - (p : Int)] (fun _ => .val rfl) rfl rfl rfl (by decide) (by decide) rfl) rfl ?_)
 (refine J.appendAt (l := acc) (l2 := [(n : Int) - (p : Int)]) 0 rfl rfl (SrcOK.sl rfl) rfl rfl hmx rfl ?_; intro v2 hv2)
 (refine Jx.assign rfl rfl (J.nil (N.seq (W.region (Jx.move rfl rfl (Jx.add64 rfl rfl (by omega) rfl ?_))))))
 (refine Jx.assign rfl rfl (J.nil ?_))
 (refine id ?_; rotate_left))
        exact N.round (k + 1, v2) (by simp only; omega) (by simp only; omega) (by rw [hy]; rfl) ⟨ref0 rfl, ref0 rfl, ref0 rfl, trivial⟩
      · have hy := linksTo_no n k h0
        have hm0 : ¬ ((n % 2 ^ (k + 1) : Nat) : Int) = 0 := by omega
        generalize n % 2 ^ (k + 1) = r at *
        generalize hp : 2 ^ (k + 1) = p at *
        generalize linksTo n k = acc at *
        focus (
 (refine W.seq (W.seq (W.region (Jx.move rfl rfl (Jx.leqI rfl rfl rfl (J.nil (N.seq (W.cT rfl ?_))))))))
 (refine W.skip (N.seq (W.seq (W.block (W.seq (W.region (Jx.move rfl rfl (Jx.move rfl rfl ?_))))))))
 (refine Jx.convI (by kernel_rfl) rfl rfl ?_; rw [hw])
 (refine Jx.shlN (n := 1) (s := k + 1) rfl rfl rfl (by omega) (by rw [hp]; omega) rfl ?_; rw [hp, Nat.one_mul])
 (refine Jx.rem64 rfl rfl (by omega) (by omega) rfl ?_; rw [hm])
 (refine Jx.eqlI rfl rfl rfl (J.nil (N.seq (W.cF rfl ?_))))
 (refine W.skip (N.seq (W.region (Jx.move rfl rfl (Jx.add64 rfl rfl (by omega) rfl ?_)))))
 (refine Jx.assign rfl rfl (J.nil ?_))
 (refine id ?_; rotate_left))
        exact N.round (k + 1, u) (by simp only; omega) (by simp only; omega) (by rw [hy]) ⟨ref0 rfl, ref0 rfl, ref0 rfl, trivial⟩
    · have hk3 : k = 20 := by omega
      subst hk3
      refine W.freezeAt 0 3 rfl rfl hmax ?_
      generalize linksTo n 20 = acc at *
      focus (
 (refine W.seq (W.seq (W.region (Jx.move rfl rfl (Jx.leqI rfl rfl rfl (J.nil (N.seq (W.cF rfl ?_))))))))
 (refine W.exit (N.seq (W.seq (W.region (Jx.move rfl rfl (Jx.assign rfl rfl (J.nil (N.seq (W.ret ?_)))))))))
 (refine id ?_; rotate_left))
      exact N.ret (rs := [.tmp 2]) rfl (.tmp rfl .nil) ⟨rfl, rfl⟩
  · have hl : linksI h = [] := if_neg hh
    rw [hl]
    by_cases h1 : h < 1
    · focus (
 (refine W.seq (W.region (Jx.assign rfl rfl (J.nil (N.seq (W.seq (W.region (Jx.assign rfl rfl (J.nil (N.seq (W.seq (W.seq (W.region (Jx.move rfl rfl ?_))))))))))))))
 (refine Jx.lssI rfl rfl rfl (Jx.move rfl rfl (J.gN rfl rfl rfl rfl ?_)))
 (refine J.gN rfl rfl rfl rfl ?_)
 (refine Jx.pT rfl rfl rfl ?_)
 (refine J.nil (N.seq (W.cT rfl ?_)))
 (refine W.seq (W.region (Jx.assign rfl rfl (J.nil (N.seq (W.ret (N.noGotoRet ?_)))))))
 (refine id ?_; rotate_left))
      refine N.told (G := [(2, isl [])]) ⟨⟨_, rfl, Sub.nil 1 _⟩, trivial⟩ ?_
      exact N.ret (rs := [.tmp 2]) rfl (.tmp rfl .nil) ⟨rfl, rfl⟩
    · focus (
 (refine W.seq (W.region (Jx.assign rfl rfl (J.nil (N.seq (W.seq (W.region (Jx.assign rfl rfl (J.nil (N.seq (W.seq (W.seq (W.region (Jx.move rfl rfl ?_))))))))))))))
 (refine Jx.lssI rfl rfl rfl (Jx.move rfl rfl (J.gY rfl rfl rfl ?_)))
 (refine Jx.move rfl rfl (J.gY rfl rfl rfl ?_))
 (refine Jx.gtrI rfl rfl rfl (Jx.pF rfl rfl rfl ?_))
 (refine J.nil (N.seq (W.cT rfl ?_)))
 (refine W.seq (W.region (Jx.assign rfl rfl (J.nil (N.seq (W.ret (N.noGotoRet ?_)))))))
 (refine id ?_; rotate_left))
      refine N.told (G := [(2, isl [])]) ⟨⟨_, rfl, Sub.nil 1 _⟩, trivial⟩ ?_
      exact N.ret (rs := [.tmp 2]) rfl (.tmp rfl .nil) ⟨rfl, rfl⟩
end Go.Proofs.YtlfdhkahiaammaaGreatDoor
namespace Go.Proofs.YtlfdhkahiaammaaGreatDoor
open Go Go.Sse
set_option linter.unusedVariables false
set_option linter.unusedSimpArgs false
set_option maxRecDepth 10000
structure Hd where
  height : Int
  epoch : Int
  view : Int
  last : Bool
  parent : List UInt8
  state : List UInt8
  receipts : List UInt8
  txs : List UInt8
  members : List UInt8
  next : List UInt8
  skips : List (List UInt8)
theorem Hd.ext' {x y : Hd} (h1 : x.height = y.height) (h2 : x.epoch = y.epoch) (h3 : x.view = y.view) (h4 : x.last = y.last) (h5 : x.parent = y.parent) (h6 : x.state = y.state) (h7 : x.receipts = y.receipts) (h8 : x.txs = y.txs) (h9 : x.members = y.members) (h10 : x.next = y.next) (h11 : x.skips = y.skips) : x = y := by
  cases x; cases y; simp_all
instance : DecidableEq Hd := fun x y => decidable_of_iff (x.height = y.height ∧ x.epoch = y.epoch ∧ x.view = y.view ∧ x.last = y.last ∧ x.parent = y.parent ∧ x.state = y.state ∧ x.receipts = y.receipts ∧ x.txs = y.txs ∧ x.members = y.members ∧ x.next = y.next ∧ x.skips = y.skips) ⟨fun h => by cases x; cases y; simp_all, fun h => by subst h; simp⟩
abbrev hdC (h : Hd) : List SV := [int h.height, int h.epoch, int h.view, bool h.last, str h.parent, str h.state, str h.receipts, str h.txs, str h.members, str h.next, ssl h.skips]
def hd0 : Hd := ⟨0, 0, 0, false, [], [], [], [], [], [], []⟩
def inB (n : Int) : Bool := decide (0 ≤ n) && decide (n ≤ 1048576)
def sumB (s : List UInt8) : Bool := decide ((s.length : Int) = 32)
def maybeB (s : List UInt8) : Bool := decide (s = []) || sumB s
def numbersH (h : Hd) : Bool := (inB h.height && inB h.epoch) && inB h.view
def firstH (h : Hd) : Bool := if 0 < h.height then sumB h.parent else ((decide (h.parent = []) && decide (h.epoch = 0)) && decide (h.view = 0)) && h.last
def tailH (b : Bool) (h : Hd) : Bool := ((((b && sumB h.txs) && sumB h.members) && sumB h.next) && maybeB h.state) && maybeB h.receipts
def skipsH (h : Hd) : Bool := decide ((h.skips.length : Int) = ((linksI h.height).length : Int)) && !h.skips.any fun s => !sumB s
def sumsH (h : Hd) : Bool := if 0 < h.height then tailH (skipsH h) h else if (h.skips.length : Int) = 0 then tailH true h else false
def badH (h : Hd) : Bool := ((!numbersH h || !firstH h) || !sumsH h) || (!h.last && decide (h.next ≠ h.members))
def fineHd (h : Hd) : Bool := !badH h
structure FineH (h : Hd) : Prop where
  height : 0 ≤ h.height ∧ h.height ≤ 1048576
  epoch : 0 ≤ h.epoch ∧ h.epoch ≤ 1048576
  view : 0 ≤ h.view ∧ h.view ≤ 1048576
  parent : (0 < h.height → h.parent.length = 32) ∧ (h.height = 0 → h.parent = [] ∧ h.epoch = 0 ∧ h.view = 0 ∧ h.last = true)
  txs : h.txs.length = 32
  members : h.members.length = 32
  next : h.next.length = 32
  state : h.state = [] ∨ h.state.length = 32
  receipts : h.receipts = [] ∨ h.receipts.length = 32
  skips : h.skips.length = (linksI h.height).length
  each : ∀ s ∈ h.skips, s.length = 32
  same : h.last = false → h.next = h.members
theorem sumB_iff (s : List UInt8) : sumB s = true ↔ s.length = 32 := by simp only [sumB, decide_eq_true_eq]; omega
theorem maybeB_iff (s : List UInt8) : maybeB s = true ↔ s = [] ∨ s.length = 32 := by simp only [maybeB, Bool.or_eq_true, decide_eq_true_eq, sumB_iff]
theorem inB_iff (n : Int) : inB n = true ↔ 0 ≤ n ∧ n ≤ 1048576 := by simp only [inB, Bool.and_eq_true, decide_eq_true_eq]
theorem tailH_iff (b : Bool) (h : Hd) : tailH b h = true ↔ b = true ∧ h.txs.length = 32 ∧ h.members.length = 32 ∧ h.next.length = 32 ∧ (h.state = [] ∨ h.state.length = 32) ∧ (h.receipts = [] ∨ h.receipts.length = 32) := by
  simp only [tailH, Bool.and_eq_true, sumB_iff, maybeB_iff]
  constructor
  · rintro ⟨⟨⟨⟨⟨a, b⟩, c⟩, d⟩, e⟩, f⟩; exact ⟨a, b, c, d, e, f⟩
  · rintro ⟨a, b, c, d, e, f⟩; exact ⟨⟨⟨⟨⟨a, b⟩, c⟩, d⟩, e⟩, f⟩
theorem skipsH_iff (h : Hd) : skipsH h = true ↔ h.skips.length = (linksI h.height).length ∧ ∀ s ∈ h.skips, s.length = 32 := by
  simp only [skipsH, Bool.and_eq_true, decide_eq_true_eq, Bool.not_eq_true', List.any_eq_false, Bool.not_eq_true]
  constructor
  · rintro ⟨a, b⟩
    refine ⟨by omega, fun s hs => ?_⟩
    have := b s hs
    exact (sumB_iff s).1 (by simpa using this)
  · rintro ⟨a, b⟩
    refine ⟨by omega, fun s hs => ?_⟩
    have := (sumB_iff s).2 (b s hs)
    simp [this]
theorem fineHd_iff (h : Hd) : fineHd h = true ↔ FineH h := by
  simp only [fineHd, badH, Bool.not_eq_true', Bool.or_eq_false_iff, Bool.not_eq_false', Bool.and_eq_false_iff, numbersH, Bool.and_eq_true, inB_iff, decide_eq_false_iff_not, Classical.not_not]
  constructor
  · rintro ⟨⟨⟨⟨⟨n1, n2⟩, n3⟩, hf⟩, hs⟩, hl⟩
    have hsame : h.last = false → h.next = h.members := fun he => by
      rcases hl with h' | h'
      · rw [he] at h'; cases h'
      · exact h'
    by_cases h0 : 0 < h.height
    · rw [firstH, if_pos h0, sumB_iff] at hf
      rw [sumsH, if_pos h0, tailH_iff, skipsH_iff] at hs
      obtain ⟨⟨s1, s2⟩, t1, t2, t3, t4, t5⟩ := hs
      exact ⟨n1, n2, n3, ⟨fun _ => hf, fun h' => by omega⟩, t1, t2, t3, t4, t5, s1, s2, hsame⟩
    · have hz : h.height = 0 := by omega
      rw [firstH, if_neg h0] at hf
      simp only [Bool.and_eq_true, decide_eq_true_eq] at hf
      obtain ⟨⟨⟨f1, f2⟩, f3⟩, f4⟩ := hf
      rw [sumsH, if_neg h0] at hs
      split at hs
      · rename_i hk
        rw [tailH_iff] at hs
        obtain ⟨_, t1, t2, t3, t4, t5⟩ := hs
        have he : h.skips = [] := List.eq_nil_of_length_eq_zero (by omega)
        refine ⟨n1, n2, n3, ⟨fun h' => by omega, fun _ => ⟨f1, f2, f3, f4⟩⟩, t1, t2, t3, t4, t5, ?_, by rw [he]; simp, hsame⟩
        rw [he, linksI_zero (by omega)]; rfl
      · cases hs
  · intro f
    have hl : h.last = true ∨ h.next = h.members := by
      cases hb : h.last with
      | true => exact .inl rfl
      | false => exact .inr (f.same hb)
    refine ⟨⟨⟨⟨⟨f.height, f.epoch⟩, f.view⟩, ?_⟩, ?_⟩, hl⟩
    · by_cases h0 : 0 < h.height
      · rw [firstH, if_pos h0, sumB_iff]; exact f.parent.1 h0
      · have hz : h.height = 0 := by have := f.height; omega
        obtain ⟨p1, p2, p3, p4⟩ := f.parent.2 hz
        rw [firstH, if_neg h0, p1, p2, p3, p4]; rfl
    · by_cases h0 : 0 < h.height
      · rw [sumsH, if_pos h0, tailH_iff, skipsH_iff]
        exact ⟨⟨f.skips, f.each⟩, f.txs, f.members, f.next, f.state, f.receipts⟩
      · have hz : h.height = 0 := by have := f.height; omega
        have hk := f.skips
        rw [linksI_zero (by omega)] at hk
        simp only [List.length_nil] at hk
        rw [sumsH, if_neg h0, if_pos (by omega), tailH_iff]
        exact ⟨rfl, f.txs, f.members, f.next, f.state, f.receipts⟩
def idB (s : List UInt8) : List UInt8 := s
def encHd (h : Hd) : List UInt8 := numB h.height.toNat ++ (numB h.epoch.toNat ++ (numB h.view.toNat ++ (flagB h.last ++ (textB h.parent ++ (textB h.state ++ (textB h.receipts ++ (h.txs ++ (h.members ++ (h.next ++ flT idB h.skips)))))))))
theorem flag_len (f : Bool) : (flagB f).length = 1 := by cases f <;> rfl
theorem FineH.parent32 {h : Hd} (f : FineH h) : h.parent.length ≤ 32 := by
  have := f.height
  by_cases h0 : 0 < h.height
  · have := f.parent.1 h0; omega
  · have := (f.parent.2 (by omega)).1; rw [this]; simp
theorem FineH.state32 {h : Hd} (f : FineH h) : h.state.length ≤ 32 := by rcases f.state with h | h <;> simp [h]
theorem FineH.receipts32 {h : Hd} (f : FineH h) : h.receipts.length ≤ 32 := by rcases f.receipts with h | h <;> simp [h]
theorem FineH.skips20 {h : Hd} (f : FineH h) : h.skips.length ≤ 20 := by rw [f.skips]; exact linksI_len _
theorem flS_len {h : Hd} (f : FineH h) : (flT idB h.skips).length ≤ 640 := by
  have h1 := flT_len (f := idB) (k := 32) (l := h.skips) fun s hs => by rw [idB, f.each s hs]; exact Nat.le_refl _
  have := f.skips20
  omega
theorem numBs {n : Int} (h : n ≤ 1048576) : (numB n.toNat).length ≤ 9 := (numB_len (n := n.toNat) (by omega)).2
theorem encHd_len {h : Hd} (f : FineH h) : (encHd h).length ≤ 887 := by
  have := numBs f.height.2; have := numBs f.epoch.2; have := numBs f.view.2; have := flag_len h.last
  have := textB_len f.parent32 (by omega); have := textB_len f.state32 (by omega); have := textB_len f.receipts32 (by omega)
  have := flS_len f
  simp only [encHd, List.length_append, f.txs, f.members, f.next]
  omega
def reps : Nat → PSt → List (List UInt8) × PSt
  | 0, st => ([], st)
  | n + 1, st => ((bytesP 32 st).1 :: (reps n (bytesP 32 st).2).1, (reps n (bytesP 32 st).2).2)
theorem reps_none : ∀ n, (reps n none).2 = none
  | 0 => rfl
  | n + 1 => by simp only [reps, bytesP]; exact reps_none n
theorem reps_good : ∀ {n : Nat} {st : PSt} {l : List (List UInt8)} {r : List UInt8}, reps n st = (l, some r) → st = some (flT idB l ++ r) ∧ l.length = n ∧ ∀ t ∈ l, t.length = 32
  | 0, st, l, r, h => by
    simp only [reps, Prod.mk.injEq] at h
    obtain ⟨rfl, rfl⟩ := h
    exact ⟨rfl, rfl, by simp⟩
  | n + 1, st, l, r, h => by
    simp only [reps, Prod.mk.injEq] at h
    obtain ⟨rfl, h2⟩ := h
    cases hb : bytesP 32 st with
    | mk t s1 =>
      rw [hb] at h2
      simp only at h2 ⊢
      cases s1 with
      | none => rw [reps_none] at h2; cases h2
      | some q =>
        obtain ⟨g1, g2⟩ := bytesP_good hb
        cases hr : reps n (some q) with
        | mk l2 s2 =>
          rw [hr] at h2
          simp only at h2 ⊢
          subst h2
          obtain ⟨e1, e2, e3⟩ := reps_good hr
          simp only [Option.some.injEq] at e1
          refine ⟨by rw [g1, e1, flT_cons, idB, List.append_assoc], by simp [e2], ?_⟩
          intro u hu
          rcases List.mem_cons.1 hu with rfl | hu
          · exact g2
          · exact e3 u hu
theorem reps_back : ∀ (l : List (List UInt8)) (r : List UInt8), (∀ t ∈ l, t.length = 32) → reps l.length (some (flT idB l ++ r)) = (l, some r)
  | [], r, _ => rfl
  | t :: l, r, h => by
    have h0 := h t (List.mem_cons_self ..)
    simp only [List.length_cons, reps, flT_cons, List.append_assoc]
    rw [show idB t = t from rfl, bytesP_back' t _ h0]
    simp only
    rw [reps_back l r fun u hu => h u (List.mem_cons_of_mem _ hu)]
structure ReadH (s : List UInt8) (h : Hd) (st : PSt) : Prop where
  go : ∃ (n1 n2 n3 : Nat) (s1 s2 s3 s4 s5 s6 s7 s8 s9 s10 : PSt), numP (some s) = (n1, s1) ∧ h.height = n1 ∧ numP s1 = (n2, s2) ∧ h.epoch = n2 ∧ numP s2 = (n3, s3) ∧ h.view = n3 ∧ flagP s3 = (h.last, s4) ∧
    textP 32 s4 = (h.parent, s5) ∧ textP 32 s5 = (h.state, s6) ∧ textP 32 s6 = (h.receipts, s7) ∧ bytesP 32 s7 = (h.txs, s8) ∧ bytesP 32 s8 = (h.members, s9) ∧ bytesP 32 s9 = (h.next, s10) ∧ reps (linksI h.height).length s10 = (h.skips, st)
theorem ReadH.sound {s : List UInt8} {h : Hd} (hr : ReadH s h (some [])) : encHd h = s := by
  obtain ⟨n1, n2, n3, s1, s2, s3, s4, s5, s6, s7, s8, s9, s10, e1, k1, e2, k2, e3, k3, e4, e5, e6, e7, e8, e9, e10, e11⟩ := hr.go
  obtain ⟨rfl, _⟩ := reps_good e11
  obtain ⟨rfl, _⟩ := bytesP_good e10
  obtain ⟨rfl, _⟩ := bytesP_good e9
  obtain ⟨rfl, _⟩ := bytesP_good e8
  obtain ⟨rfl, _⟩ := textP_good e7
  obtain ⟨rfl, _⟩ := textP_good e6
  obtain ⟨rfl, _⟩ := textP_good e5
  obtain rfl := flagP_good e4
  obtain ⟨rfl, _⟩ := numP_good e3
  obtain ⟨rfl, _⟩ := numP_good e2
  obtain ⟨h1, _⟩ := numP_good e1
  simp only [Option.some.injEq] at h1
  rw [h1, encHd, k1, k2, k3]
  simp only [Int.toNat_natCast, List.append_nil]
theorem ReadH.whole {s : List UInt8} {h y : Hd} {st : PSt} (hr : ReadH s h st) (hf : FineH y) (hs : encHd y = s) : h = y ∧ st = some [] := by
  obtain ⟨n1, n2, n3, s1, s2, s3, s4, s5, s6, s7, s8, s9, s10, e1, k1, e2, k2, e3, k3, e4, e5, e6, e7, e8, e9, e10, e11⟩ := hr.go
  have f1 := hf.height; have f2 := hf.epoch; have f3 := hf.view
  have p1 := hf.parent32; have p2 := hf.state32; have p3 := hf.receipts32
  rw [← hs, encHd, numP_back _ (by omega)] at e1
  simp only [Prod.mk.injEq] at e1
  obtain ⟨rfl, rfl⟩ := e1
  rw [numP_back _ (by omega)] at e2
  simp only [Prod.mk.injEq] at e2
  obtain ⟨rfl, rfl⟩ := e2
  rw [numP_back _ (by omega)] at e3
  simp only [Prod.mk.injEq] at e3
  obtain ⟨rfl, rfl⟩ := e3
  rw [flagP_back] at e4
  simp only [Prod.mk.injEq] at e4
  obtain ⟨g4, rfl⟩ := e4
  rw [textP_back _ _ (by omega) (by omega)] at e5
  simp only [Prod.mk.injEq] at e5
  obtain ⟨g5, rfl⟩ := e5
  rw [textP_back _ _ (by omega) (by omega)] at e6
  simp only [Prod.mk.injEq] at e6
  obtain ⟨g6, rfl⟩ := e6
  rw [textP_back _ _ (by omega) (by omega)] at e7
  simp only [Prod.mk.injEq] at e7
  obtain ⟨g7, rfl⟩ := e7
  rw [bytesP_back' _ _ hf.txs] at e8
  simp only [Prod.mk.injEq] at e8
  obtain ⟨g8, rfl⟩ := e8
  rw [bytesP_back' _ _ hf.members] at e9
  simp only [Prod.mk.injEq] at e9
  obtain ⟨g9, rfl⟩ := e9
  rw [bytesP_back' _ _ hf.next] at e10
  simp only [Prod.mk.injEq] at e10
  obtain ⟨g10, rfl⟩ := e10
  have kh : h.height = y.height := by omega
  rw [kh, ← hf.skips, ← List.append_nil (flT idB y.skips), reps_back _ _ hf.each] at e11
  simp only [Prod.mk.injEq] at e11
  obtain ⟨g11, rfl⟩ := e11
  exact ⟨Hd.ext' kh (by omega) (by omega) g4.symm g5.symm g6.symm g7.symm g8.symm g9.symm g10.symm g11.symm, rfl⟩
theorem flS_ap : ∀ {a b : List (List UInt8)} {r q : List UInt8}, a.length = b.length → (∀ s ∈ a, s.length = 32) → (∀ s ∈ b, s.length = 32) → flT idB a ++ r = flT idB b ++ q → a = b ∧ r = q
  | [], [], r, q, _, _, _, h => ⟨rfl, h⟩
  | [], _ :: _, _, _, h, _, _, _ => by simp at h
  | _ :: _, [], _, _, h, _, _, _ => by simp at h
  | x :: a, y :: b, r, q, h, ha, hb, he => by
    rw [flT_cons, flT_cons, List.append_assoc, List.append_assoc] at he
    obtain ⟨e1, he⟩ := List.append_inj he (by rw [idB, idB, ha x (List.mem_cons_self ..), hb y (List.mem_cons_self ..)])
    obtain ⟨e2, e3⟩ := flS_ap (by simpa using h) (fun s hs => ha s (List.mem_cons_of_mem _ hs)) (fun s hs => hb s (List.mem_cons_of_mem _ hs)) he
    rw [show x = y from e1, e2]
    exact ⟨rfl, e3⟩
theorem flag_ap {a b : Bool} {r q : List UInt8} (h : flagB a ++ r = flagB b ++ q) : a = b ∧ r = q := by
  have h1 := flagP_back a r
  rw [h, flagP_back] at h1
  simp only [Prod.mk.injEq, Option.some.injEq] at h1
  exact ⟨h1.1.symm, h1.2.symm⟩
theorem encHd_ap {x y : Hd} {r q : List UInt8} (hx : fineHd x = true) (hy : fineHd y = true) (h : encHd x ++ r = encHd y ++ q) : x = y ∧ r = q := by
  have fx := (fineHd_iff x).1 hx
  have fy := (fineHd_iff y).1 hy
  have f1 := fx.height; have f2 := fx.epoch; have f3 := fx.view; have p1 := fx.parent32; have p2 := fx.state32; have p3 := fx.receipts32
  have g1 := fy.height; have g2 := fy.epoch; have g3 := fy.view; have q1 := fy.parent32; have q2 := fy.state32; have q3 := fy.receipts32
  simp only [encHd, List.append_assoc] at h
  obtain ⟨e1, h⟩ := numB_ap (by omega) (by omega) h
  obtain ⟨e2, h⟩ := numB_ap (by omega) (by omega) h
  obtain ⟨e3, h⟩ := numB_ap (by omega) (by omega) h
  obtain ⟨e4, h⟩ := flag_ap h
  obtain ⟨e5, h⟩ := textB_ap (by omega) (by omega) h
  obtain ⟨e6, h⟩ := textB_ap (by omega) (by omega) h
  obtain ⟨e7, h⟩ := textB_ap (by omega) (by omega) h
  obtain ⟨e8, h⟩ := List.append_inj h (by rw [fx.txs, fy.txs])
  obtain ⟨e9, h⟩ := List.append_inj h (by rw [fx.members, fy.members])
  obtain ⟨e10, h⟩ := List.append_inj h (by rw [fx.next, fy.next])
  have kh : x.height = y.height := by omega
  obtain ⟨e11, h⟩ := flS_ap (by rw [fx.skips, fy.skips, kh]) fx.each fy.each h
  exact ⟨Hd.ext' kh (by omega) (by omega) e4 e5 e6 e7 e8 e9 e10 e11, h⟩
theorem apHd : Apart fineHd encHd := ⟨fun x y r q hx hy h => encHd_ap hx hy h⟩
end Go.Proofs.YtlfdhkahiaammaaGreatDoor
namespace Go.Proofs.YtlfdhkahiaammaaGreatDoor
open Go Go.Sse
set_option linter.unusedVariables false
set_option linter.unusedSimpArgs false
set_option maxRecDepth 10000
theorem encAll_ap {a b : List Tx} {r q : List UInt8} (ha : fineAll a = true) (hb : fineAll b = true) (h : encAll a ++ r = encAll b ++ q) : a = b ∧ r = q := by
  obtain ⟨a1, a2⟩ := fineAll_spec ha
  obtain ⟨b1, b2⟩ := fineAll_spec hb
  have key : ∀ {l : List Tx} (t : List UInt8), fineAll l = true → listP 8 65536 (some (encAll l ++ t)) = (l.map encTx, some t) := fun {l} t hl => by
    obtain ⟨l1, l2⟩ := fineAll_spec hl
    exact listP_back _ _ (by rw [List.length_map]; omega) (by rw [List.length_map]; omega) fun u hu => by
      obtain ⟨x, hx, rfl⟩ := List.mem_map.1 hu
      have := encTx_len ((fineTx_iff x).1 (l2 x hx))
      exact ⟨by omega, by omega⟩
  have h1 := key r ha
  rw [h, key q hb] at h1
  simp only [Prod.mk.injEq, Option.some.injEq] at h1
  obtain ⟨h2, rfl⟩ := h1
  refine ⟨?_, rfl⟩
  clear key h ha hb a1 b1
  induction a generalizing b with
  | nil => cases b with
    | nil => rfl
    | cons y b => simp at h2
  | cons x a ih => cases b with
    | nil => simp at h2
    | cons y b =>
      simp only [List.map_cons, List.cons.injEq] at h2
      rw [encTx_inj (a2 x (List.mem_cons_self ..)) (b2 y (List.mem_cons_self ..)) h2.1.symm, ih (fun z hz => a2 z (List.mem_cons_of_mem _ hz)) (fun z hz => b2 z (List.mem_cons_of_mem _ hz)) h2.2]
theorem apAll : Apart fineAll encAll := ⟨fun x y r q hx hy h => encAll_ap hx hy h⟩
end Go.Proofs.YtlfdhkahiaammaaGreatDoor
namespace Go.Proofs.YtlfdhkahiaammaaGreatDoor
open Go Go.Sse
set_option linter.unusedVariables false
set_option linter.unusedSimpArgs false
set_option maxRecDepth 10000
structure Bk where
  head : Hd
  txs : List Tx
  just : Ct
theorem Bk.ext' {x y : Bk} (h1 : x.head = y.head) (h2 : x.txs = y.txs) (h3 : x.just = y.just) : x = y := by cases x; cases y; simp_all
instance : DecidableEq Bk := fun x y => decidable_of_iff (x.head = y.head ∧ x.txs = y.txs ∧ x.just = y.just) ⟨fun h => Bk.ext' h.1 h.2.1 h.2.2, fun h => by subst h; simp⟩
abbrev bkC (b : Bk) : List SV := [int b.head.height, int b.head.epoch, int b.head.view, bool b.head.last, str b.head.parent, str b.head.state, str b.head.receipts, str b.head.txs, str b.head.members, str b.head.next, ssl b.head.skips, txsl b.txs, str b.just.digest, ssl b.just.signers]
def bk0 : Bk := ⟨hd0, [], ct0⟩
def justB (b : Bk) : Bool := bareCt b.just || (fineCt b.just && decide (b.just.digest = b.head.parent))
def topB (b : Bk) : Bool := ((fineHd b.head && decide (1 ≤ b.head.height)) && fineAll b.txs) && decide (rootT b.txs = b.head.txs)
def fineBk (b : Bk) : Bool := topB b && justB b
def justE (c : Ct) : List UInt8 := if bareCt c then flagB false else flagB true ++ textB (encCt c)
def encBk (b : Bk) : List UInt8 := textB (encHd b.head) ++ (textB (encAll b.txs) ++ justE b.just)
structure FineB (b : Bk) : Prop where
  head : fineHd b.head = true
  high : 1 ≤ b.head.height
  txs : fineAll b.txs = true
  root : rootT b.txs = b.head.txs
  just : bareCt b.just = true ∨ fineCt b.just = true ∧ b.just.digest = b.head.parent
theorem fineBk_iff (b : Bk) : fineBk b = true ↔ FineB b := by
  simp only [fineBk, topB, justB, Bool.and_eq_true, Bool.or_eq_true, decide_eq_true_eq]
  exact ⟨fun ⟨⟨⟨⟨a, b⟩, c⟩, d⟩, e⟩ => ⟨a, b, c, d, e⟩, fun ⟨a, b, c, d, e⟩ => ⟨⟨⟨⟨a, b⟩, c⟩, d⟩, e⟩⟩
theorem FineB.lens {b : Bk} (f : FineB b) : (encHd b.head).length ≤ 887 ∧ (encAll b.txs).length ≤ 1769 ∧ (bareCt b.just = false → fineCt b.just = true ∧ (encCt b.just).length ≤ 146) := by
  refine ⟨encHd_len ((fineHd_iff _).1 f.head), encAll_len f.txs, fun hb => ?_⟩
  have h : fineCt b.just = true := by
    rcases f.just with h | h
    · rw [hb] at h; cases h
    · exact h.1
  exact ⟨h, encCt_len h⟩
theorem justE_len {b : Bk} (f : FineB b) : (justE b.just).length ≤ 156 := by
  unfold justE
  cases hb : bareCt b.just with
  | true => simp [flag_len]
  | false =>
    have := (f.lens.2.2 hb).2
    have h2 := textB_len this (by omega)
    simp only [Bool.false_eq_true, if_false, List.length_append, flag_len]
    omega
theorem encBk_len {b : Bk} (f : FineB b) : (encBk b).length ≤ 2830 := by
  obtain ⟨h1, h2, _⟩ := f.lens
  have := textB_len h1 (by omega); have := textB_len h2 (by omega); have := justE_len f
  simp only [encBk, List.length_append]; omega
structure JustR (m : Int) (st2 : PSt) (c : Ct) (ok : Bool) (st : PSt) : Prop where
  go : ∃ f s3, flagP st2 = (f, s3) ∧ (f = false → c = ct0 ∧ ok = true ∧ st = s3) ∧ (f = true → ∃ t o, textP m s3 = (t, st) ∧ DecR fineCt encCt t o ∧ c = o.getD ct0 ∧ ok = o.isSome)
structure ReadB (m : Int) (s : List UInt8) (b : Bk) (k1 k2 k3 : Bool) (st : PSt) : Prop where
  go : ∃ t1 s1 t2 s2 o1 o2, textP m (some s) = (t1, s1) ∧ DecR fineHd encHd t1 o1 ∧ b.head = o1.getD hd0 ∧ k1 = o1.isSome ∧ textP m s1 = (t2, s2) ∧ DecR fineAll encAll t2 o2 ∧ b.txs = o2.getD [] ∧ k2 = o2.isSome ∧ JustR m s2 b.just k3 st
theorem fine_bare {c : Ct} (h : fineCt c = true) : bareCt c = false := by
  cases hb : bareCt c with
  | false => rfl
  | true => rw [bare_fine hb] at h; cases h
theorem JustR.sound {m : Int} {r : List UInt8} {st2 : PSt} {c : Ct} (h : JustR m st2 c true (some r)) : st2 = some (justE c ++ r) := by
  obtain ⟨f, s3, e1, h1, h2⟩ := h.go
  cases f with
  | false =>
    obtain ⟨rfl, _, h3⟩ := h1 rfl
    subst h3
    rw [flagP_good e1]; rfl
  | true =>
    obtain ⟨t, o, e2, ho, rfl, hs⟩ := h2 rfl
    cases o with
    | none => cases hs
    | some c =>
      obtain ⟨g1, g2, g3⟩ := textP_good e2
      subst g1
      rw [flagP_good e1, justE, if_neg (by rw [Option.getD_some, fine_bare ho.1]; simp), Option.getD_some, ho.2, List.append_assoc]
theorem JustR.whole {m : Int} (hm : 65536 ≤ m) {r : List UInt8} {st st2 : PSt} {c : Ct} {k : Bool} (h : JustR m st2 c k st) {b : Bk} (f : FineB b) (hs : st2 = some (justE b.just ++ r)) : c = b.just ∧ k = true ∧ st = some r := by
  obtain ⟨fl, s3, e1, h1, h2⟩ := h.go
  subst hs
  unfold justE at e1
  cases hb : bareCt b.just with
  | true =>
    rw [hb, if_pos rfl, flagP_back] at e1
    simp only [Prod.mk.injEq] at e1
    obtain ⟨rfl, rfl⟩ := e1
    obtain ⟨rfl, rfl, rfl⟩ := h1 rfl
    exact ⟨(bare_eq hb).symm, rfl, rfl⟩
  | false =>
    obtain ⟨g1, g2⟩ := f.lens.2.2 hb
    rw [hb, if_neg (by simp), List.append_assoc, flagP_back] at e1
    simp only [Prod.mk.injEq] at e1
    obtain ⟨rfl, rfl⟩ := e1
    obtain ⟨t, o, e2, ho, rfl, rfl⟩ := h2 rfl
    rw [textP_back _ _ (by omega) (by omega)] at e2
    simp only [Prod.mk.injEq] at e2
    obtain ⟨rfl, rfl⟩ := e2
    rw [apCt.some' ho g1 rfl]
    exact ⟨rfl, rfl, rfl⟩
theorem ReadB.sound {m : Int} {s : List UInt8} {b : Bk} (h : ReadB m s b true true true (some [])) : encBk b = s := by
  obtain ⟨t1, s1, t2, s2, o1, o2, e1, d1, q1, k1, e2, d2, q2, k2, hj⟩ := h.go
  have h3 := hj.sound
  subst h3
  obtain ⟨h2, _⟩ := textP_good e2
  subst h2
  obtain ⟨h1, _⟩ := textP_good e1
  simp only [Option.some.injEq] at h1
  cases o1 with
  | none => cases k1
  | some x =>
    cases o2 with
    | none => cases k2
    | some l =>
      rw [encBk, q1, q2, Option.getD_some, Option.getD_some, d1.2, d2.2, h1, List.append_nil]
theorem ReadB.whole {m : Int} (hm : 65536 ≤ m) {s : List UInt8} {b y : Bk} {k1 k2 k3 : Bool} {st : PSt} (h : ReadB m s b k1 k2 k3 st) (f : FineB y) {r : List UInt8} (hs : encBk y ++ r = s) : b = y ∧ k1 = true ∧ k2 = true ∧ k3 = true ∧ st = some r := by
  obtain ⟨t1, s1, t2, s2, o1, o2, e1, d1, q1, rfl, e2, d2, q2, rfl, hj⟩ := h.go
  obtain ⟨l1, l2, _⟩ := f.lens
  subst hs
  rw [encBk, List.append_assoc, List.append_assoc, textP_back _ _ (by omega) (by omega)] at e1
  simp only [Prod.mk.injEq] at e1
  obtain ⟨rfl, rfl⟩ := e1
  rw [textP_back _ _ (by omega) (by omega)] at e2
  simp only [Prod.mk.injEq] at e2
  obtain ⟨rfl, rfl⟩ := e2
  obtain ⟨g1, g2, g3⟩ := hj.whole hm f rfl
  rw [apHd.some' d1 f.head rfl] at q1 ⊢
  rw [apAll.some' d2 f.txs rfl] at q2 ⊢
  exact ⟨Bk.ext' q1 q2 g1, rfl, rfl, g2, g3⟩
end Go.Proofs.YtlfdhkahiaammaaGreatDoor
