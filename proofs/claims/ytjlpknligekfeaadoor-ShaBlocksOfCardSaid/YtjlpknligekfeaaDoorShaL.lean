/-
  ShaBlocksOf.
-/
import Derived.Test.YtjlpknligekfeaaDoorShaK
import Derived.Test.YtjlpknligekfeaaDoorSseO
namespace Go.Proofs.YtjlpknligekfeaaDoor
open Go Go.Sse
set_option linter.unusedVariables false
set_option linter.unusedSimpArgs false
set_option maxRecDepth 100000

set_option maxHeartbeats 4000000 in
theorem ltold_ok (h : S8) : FnC Tryd.prog 19 [.agg h.cells] [] (fun s L => s = str (toldS h) ∧ L = []) := by
  refine FnC.intro Tryd.func19 rfl Tryd.ntmps19 rfl fun Z w0 hG => ?_
  focus (
    (refine W.seq ?_)
    (refine W.region ?_)
    (refine J.boxAg rfl rfl ?_; intro b')
    (refine Jx.assign rfl rfl ?_)
    (refine J.nil ?_)
    (refine N.seq ?_)
    (refine W.seq ?_)
    (refine W.region ?_)
    (refine Jx.assign rfl rfl ?_)
    (refine J.nil ?_)
    (refine N.seq ?_)
    (refine W.seq ?_)
    (refine W.seq ?_)
    (refine W.region ?_)
    (refine Jx.assign rfl rfl ?_)
    (refine J.nil ?_)
    (refine N.seq ?_)
    (refine W.block ?_)
    (refine id ?_; rotate_left))
  refine W.loop (α := Nat × List UInt8) (fun x => [(4, int x.1), (3, str x.2), (1, ptr b')]) (fun x => [.obj b' 23 (h.list.map u32)]) (fun x => x.1 ≤ 8 ∧ x.2 = (h.list.take x.1).flatMap wordB) (fun x => 8 - x.1) (0, []) ⟨by simp, by simp⟩ rfl ⟨ref0 rfl, ref0 rfl, ref0 rfl, trivial⟩ ?_
  rintro ⟨i, acc⟩ ⟨hi, ha⟩
  simp only at hi ha ⊢
  have hlen : acc.length = 4 * i := by rw [ha]; exact told_take_len h i hi
  by_cases h1 : i < 8
  · focus (
    (refine W.seq ?_)
    (refine W.seq ?_)
    (refine W.region ?_)
    (refine Jx.move rfl rfl ?_)
    (refine Jx.lssI rfl rfl rfl ?_)
    (refine J.nil ?_)
    (refine N.seq ?_)
    (refine W.condT rfl (by first | rfl | assumption | (exact decide_eq_true (by first | assumption | omega | rfl)) | (exact decide_eq_false (by first | assumption | omega | rfl)) | (simp; done) | (simp; omega)) ?_)
    (refine W.skip ?_)
    (refine N.seq ?_)
    (refine W.seq ?_)
    (refine W.block ?_)
    (refine W.draw follows ?_)
    (refine JD.calm rfl (by decide +kernel) ?_)
    (refine Cx.move rfl rfl ?_)
    (refine Cx.move rfl rfl ?_)
    (refine Cx.index0 i rfl rfl rfl (by omega) rfl ?_)
    (refine Cx.loadA u32 0 rfl 0 rfl h1 rfl ?_)
    (refine Cx.shrU rfl rfl (by decide) rfl ?_)
    (refine Cx.convByte rfl rfl rfl ?_)
    (refine Cx.move rfl rfl ?_)
    (refine Cx.index0 i rfl rfl rfl (by omega) rfl ?_)
    (refine Cx.loadA u32 0 rfl 0 rfl h1 rfl ?_)
    (refine Cx.shrU rfl rfl (by decide) rfl ?_)
    (refine Cx.convByte rfl rfl rfl ?_)
    (refine Cx.move rfl rfl ?_)
    (refine Cx.index0 i rfl rfl rfl (by omega) rfl ?_)
    (refine Cx.loadA u32 0 rfl 0 rfl h1 rfl ?_)
    (refine Cx.shrU rfl rfl (by decide) rfl ?_)
    (refine Cx.convByte rfl rfl rfl ?_)
    (refine Cx.move rfl rfl ?_)
    (refine Cx.index0 i rfl rfl rfl (by omega) rfl ?_)
    (refine Cx.loadA u32 0 rfl 0 rfl h1 rfl ?_)
    (refine Cx.convByte rfl rfl rfl ?_)
    (refine SegC.q (Qs.buildBytes (wordB (h.list.getD i 0)) rfl rfl rfl (by decide) (by decide)) rfl ?_)
    (refine Cx.bytesStr rfl rfl ?_)
    (refine Cx.cat rfl rfl (by rw [hlen]; simp only [wordB, List.length_cons, List.length_nil]; omega) rfl ?_)
    (refine Cx.assign rfl rfl ?_)
    (refine SegC.nil ?_)
    (refine N.seq ?_)
    (refine W.region ?_)
    (refine Jx.move rfl rfl ?_)
    (refine Jx.add64 rfl rfl (by omega) rfl ?_)
    (refine Jx.assign rfl rfl ?_)
    (refine J.nil ?_)
    (refine id ?_; rotate_left))
    exact N.round (i + 1, acc ++ wordB (h.list.getD i 0)) ⟨by simp only; omega, by simp only; rw [ha, told_take_succ h i h1]⟩ (by simp only; omega) rfl ⟨ref0 rfl, ref0 rfl, ref0 rfl, trivial⟩
  · have h8 : i = 8 := by omega
    focus (
    (refine W.seq ?_)
    (refine W.seq ?_)
    (refine W.region ?_)
    (refine Jx.move rfl rfl ?_)
    (refine Jx.lssI rfl rfl rfl ?_)
    (refine J.nil ?_)
    (refine N.seq ?_)
    (refine W.condF rfl (by first | rfl | assumption | (exact decide_eq_true (by first | assumption | omega | rfl)) | (exact decide_eq_false (by first | assumption | omega | rfl)) | (simp; done) | (simp; omega)) ?_)
    (refine W.exit ?_)
    (refine N.seq ?_)
    (refine W.seq ?_)
    (refine W.region ?_)
    (refine Jx.move rfl rfl ?_)
    (refine Jx.assign rfl rfl ?_)
    (refine J.nil ?_)
    (refine N.seq ?_)
    (refine W.ret ?_)
    (refine id ?_; rotate_left))
    refine N.retD (rs := [.tmp 2]) (L1 := []) rfl (.tmp rfl .nil) (List.nil_sublist _) ⟨?_, rfl⟩
    rw [ha, h8]; rfl

def z64 : List UInt8 := List.replicate 64 0
theorem blocksS_flat : ∀ (l : List (List UInt8)) (s : S8), (∀ b ∈ l, b.length = 64) → blocksS s l.flatten = (l.foldl blockS s, [])
  | [], s, _ => blocksS_lt (by simp)
  | b :: l, s, h => by
    have hb := h b (List.mem_cons_self ..)
    rw [List.flatten_cons, blocksS_ge (by rw [List.length_append]; omega), List.take_append_of_le_length (by omega), List.take_of_length_le (by omega), ← hb, List.drop_append_of_le_length (Nat.le_refl _), List.drop_length, List.nil_append]
    exact blocksS_flat l _ fun c hc => h c (List.mem_cons_of_mem _ hc)
def endL (a c : UInt8) : List UInt8 := [128] ++ List.replicate 61 0 ++ [a, c]
theorem pad_whole : ∀ k, k < 7 → padS (64 * k) = endL (UInt8.ofNat (512 * k / 2 ^ 8)) (UInt8.ofNat (512 * k)) := by decide
theorem len64 {l : List (List UInt8)} (h : ∀ b ∈ l, b.length = 64) : l.flatten.length = 64 * l.length := by
  induction l with
  | nil => rfl
  | cons b l ih => rw [List.flatten_cons, List.length_append, h b (List.mem_cons_self ..), ih (fun c hc => h c (List.mem_cons_of_mem _ hc)), List.length_cons]; omega
theorem sha_whole (l : List (List UInt8)) (h : ∀ b ∈ l, b.length = 64) (hk : l.length < 7) : shaS l.flatten = toldS (blockS (l.foldl blockS first8) (endL (UInt8.ofNat (512 * l.length / 2 ^ 8)) (UInt8.ofNat (512 * l.length)))) := by
  unfold shaS
  rw [blocksS_app _ _ _ _ (Nat.le_refl _), blocksS_flat l _ h, len64 h, pad_whole _ hk, List.nil_append]
  have hl : ∀ a c, (endL a c).length = 64 := fun a c => rfl
  rw [blocksS_ge (by rw [hl]; omega), blocksS_lt (by rw [List.length_drop, hl]; omega), List.take_of_length_le (by rw [hl]; omega)]
theorem lenB_small : ∀ n, n < 56 → lenB n = [0, 0, 0, 0, 0, 0, UInt8.ofNat (n / 2 ^ 5), UInt8.ofNat (n * 2 ^ 3)] := by decide
theorem pad_small (s : List UInt8) (h : s.length ≤ 55) : (((s ++ List.replicate (64 - s.length) 0).set s.length 128).set 62 (UInt8.ofNat (s.length / 2 ^ 5))).set 63 (UInt8.ofNat (s.length * 2 ^ 3)) = s ++ padS s.length := by
  have hz : zerosOf s.length = 55 - s.length := by unfold zerosOf; omega
  have e : List.replicate (64 - s.length) (0 : UInt8) = 0 :: (List.replicate (55 - s.length) 0 ++ [0, 0, 0, 0, 0, 0, 0, 0]) := by
    rw [show 64 - s.length = (55 - s.length + 8) + 1 by omega, List.replicate_succ, ← List.replicate_append_replicate]; rfl
  rw [e, List.set_append_right _ _ (Nat.le_refl _), Nat.sub_self, List.set_cons_zero]
  have e2 : s ++ 128 :: (List.replicate (55 - s.length) 0 ++ [0, 0, 0, 0, 0, 0, 0, 0]) = (s ++ [128] ++ List.replicate (55 - s.length) 0) ++ [0, 0, 0, 0, 0, 0, 0, 0] := by simp
  have hA : (s ++ [128] ++ List.replicate (55 - s.length) 0).length = 56 := by simp only [List.length_append, List.length_cons, List.length_nil, List.length_replicate]; omega
  rw [e2, List.set_append_right _ _ (by omega), List.set_append_right _ _ (by omega), hA]
  simp only [padS, hz, lenB_small _ (show s.length < 56 by omega), List.append_assoc]
  rfl
theorem fold_take (l : List (List UInt8)) (i : Nat) (h : i < l.length) (s : S8) : (l.take (i + 1)).foldl blockS s = blockS ((l.take i).foldl blockS s) (l.getD i z64) := by
  rw [List.take_add_one, List.getElem?_eq_getElem h, List.getD_eq_getElem?_getD, List.getElem?_eq_getElem h, List.foldl_append]; rfl
theorem flat_take64 (l : List (List UInt8)) (i : Nat) (h : i < l.length) : (l.take i).flatten ++ l.getD i z64 = (l.take (i + 1)).flatten := by
  rw [List.take_add_one, List.getElem?_eq_getElem h, List.getD_eq_getElem?_getD, List.getElem?_eq_getElem h]
  simp only [Option.toList_some, Option.getD_some, List.flatten_append, List.flatten_cons, List.flatten_nil, List.append_nil]
abbrev blkSl (l : List (List UInt8)) : SV := .sl 64 l.length (elOf (fun b : List UInt8 => b.map byte) z64 l)

set_option maxHeartbeats 4000000 in
theorem shaBlocksOf_ok (l : List (List UInt8)) (h64 : ∀ b ∈ l, b.length = 64) (s : List UInt8) : FnC Tryd.prog 6 [blkSl l, str s] [] (fun s L => s = bool true ∧ L = []) := by
  refine FnC.intro Tryd.func6 rfl Tryd.ntmps6 rfl fun Z w0 hG => ?_
  by_cases hl6 : 6 < (l.length : Int)
  · focus (
    (refine W.seq ?_)
    (refine W.region ?_)
    (refine Jx.assign rfl rfl ?_)
    (refine J.nil ?_)
    (refine N.seq ?_)
    (refine W.seq ?_)
    (refine W.seq ?_)
    (refine W.region ?_)
    (refine J.call (works_ok) rfl (evs_args rfl) rfl ?_; rintro _ _ ⟨rfl, rfl⟩; simp only [List.cons_append, List.nil_append, List.append_nil])
    (refine Jx.not rfl rfl ?_)
    (refine J.nil ?_)
    (refine N.seq ?_)
    (refine W.condF rfl (by first | rfl | assumption | (exact decide_eq_true (by first | assumption | omega | rfl)) | (exact decide_eq_false (by first | assumption | omega | rfl)) | (simp; done) | (simp; omega)) ?_)
    (refine W.skip ?_)
    (refine N.seq ?_)
    (refine W.seq ?_)
    (refine W.seq ?_)
    (refine W.region ?_)
    (refine Jx.move rfl rfl ?_)
    (refine Jx.lenSl rfl rfl ?_)
    (refine Jx.gtrI rfl rfl rfl ?_)
    (refine Jx.move rfl rfl ?_)
    (refine J.guardNoU rfl rfl rfl (by first | rfl | assumption | (exact decide_eq_true (by first | assumption | omega | rfl)) | (exact decide_eq_false (by first | assumption | omega | rfl)) | (simp; done) | (simp; omega)) rfl ?_)
    (refine J.guardNoU rfl rfl rfl (by first | rfl | assumption | (exact decide_eq_true (by first | assumption | omega | rfl)) | (exact decide_eq_false (by first | assumption | omega | rfl)) | (simp; done) | (simp; omega)) rfl ?_)
    (refine J.guardNoU rfl rfl rfl (by first | rfl | assumption | (exact decide_eq_true (by first | assumption | omega | rfl)) | (exact decide_eq_false (by first | assumption | omega | rfl)) | (simp; done) | (simp; omega)) rfl ?_)
    (refine Jx.pickT rfl (by first | rfl | assumption | (exact decide_eq_true (by first | assumption | omega | rfl)) | (exact decide_eq_false (by first | assumption | omega | rfl)) | (simp; done) | (simp; omega)) rfl rfl ?_)
    (refine J.nil ?_)
    (refine N.seq ?_)
    (refine W.condT rfl (by first | rfl | assumption | (exact decide_eq_true (by first | assumption | omega | rfl)) | (exact decide_eq_false (by first | assumption | omega | rfl)) | (simp; done) | (simp; omega)) ?_)
    (refine W.seq ?_)
    (refine W.region ?_)
    (refine Jx.assign rfl rfl ?_)
    (refine J.nil ?_)
    (refine N.seq ?_)
    (refine W.ret ?_)
    (refine N.seqRet ?_)
    (refine id ?_; rotate_left))
    exact N.ret (rs := [.tmp 4]) rfl (.tmp rfl .nil) ⟨rfl, rfl⟩
  · by_cases hs55 : 55 < (s.length : Int)
    · focus (
    (refine W.seq ?_)
    (refine W.region ?_)
    (refine Jx.assign rfl rfl ?_)
    (refine J.nil ?_)
    (refine N.seq ?_)
    (refine W.seq ?_)
    (refine W.seq ?_)
    (refine W.region ?_)
    (refine J.call (works_ok) rfl (evs_args rfl) rfl ?_; rintro _ _ ⟨rfl, rfl⟩; simp only [List.cons_append, List.nil_append, List.append_nil])
    (refine Jx.not rfl rfl ?_)
    (refine J.nil ?_)
    (refine N.seq ?_)
    (refine W.condF rfl (by first | rfl | assumption | (exact decide_eq_true (by first | assumption | omega | rfl)) | (exact decide_eq_false (by first | assumption | omega | rfl)) | (simp; done) | (simp; omega)) ?_)
    (refine W.skip ?_)
    (refine N.seq ?_)
    (refine W.seq ?_)
    (refine W.seq ?_)
    (refine W.region ?_)
    (refine Jx.move rfl rfl ?_)
    (refine Jx.lenSl rfl rfl ?_)
    (refine Jx.gtrI rfl rfl rfl ?_)
    (refine Jx.move rfl rfl ?_)
    (refine J.guardYes rfl rfl rfl (by first | rfl | assumption | (exact decide_eq_true (by first | assumption | omega | rfl)) | (exact decide_eq_false (by first | assumption | omega | rfl)) | (simp; done) | (simp; omega)) ?_)
    (refine Jx.move rfl rfl ?_)
    (refine J.guardYes rfl rfl rfl (by first | rfl | assumption | (exact decide_eq_true (by first | assumption | omega | rfl)) | (exact decide_eq_false (by first | assumption | omega | rfl)) | (simp; done) | (simp; omega)) ?_)
    (refine Jx.lenS rfl rfl ?_)
    (refine J.guardYes rfl rfl rfl (by first | rfl | assumption | (exact decide_eq_true (by first | assumption | omega | rfl)) | (exact decide_eq_false (by first | assumption | omega | rfl)) | (simp; done) | (simp; omega)) ?_)
    (refine Jx.gtrI rfl rfl rfl ?_)
    (refine Jx.pickF rfl (by first | rfl | assumption | (exact decide_eq_true (by first | assumption | omega | rfl)) | (exact decide_eq_false (by first | assumption | omega | rfl)) | (simp; done) | (simp; omega)) rfl rfl ?_)
    (refine J.nil ?_)
    (refine N.seq ?_)
    (refine W.condT rfl (by first | rfl | assumption | (exact decide_eq_true (by first | assumption | omega | rfl)) | (exact decide_eq_false (by first | assumption | omega | rfl)) | (simp; done) | (simp; omega)) ?_)
    (refine W.seq ?_)
    (refine W.region ?_)
    (refine Jx.assign rfl rfl ?_)
    (refine J.nil ?_)
    (refine N.seq ?_)
    (refine W.ret ?_)
    (refine N.seqRet ?_)
    (refine id ?_; rotate_left))
      exact N.ret (rs := [.tmp 4]) rfl (.tmp rfl .nil) ⟨rfl, rfl⟩
    · focus (
    (refine W.seq ?_)
    (refine W.region ?_)
    (refine Jx.assign rfl rfl ?_)
    (refine J.nil ?_)
    (refine N.seq ?_)
    (refine W.seq ?_)
    (refine W.seq ?_)
    (refine W.region ?_)
    (refine J.call (works_ok) rfl (evs_args rfl) rfl ?_; rintro _ _ ⟨rfl, rfl⟩; simp only [List.cons_append, List.nil_append, List.append_nil])
    (refine Jx.not rfl rfl ?_)
    (refine J.nil ?_)
    (refine N.seq ?_)
    (refine W.condF rfl (by first | rfl | assumption | (exact decide_eq_true (by first | assumption | omega | rfl)) | (exact decide_eq_false (by first | assumption | omega | rfl)) | (simp; done) | (simp; omega)) ?_)
    (refine W.skip ?_)
    (refine N.seq ?_)
    (refine W.seq ?_)
    (refine W.seq ?_)
    (refine W.region ?_)
    (refine Jx.move rfl rfl ?_)
    (refine Jx.lenSl rfl rfl ?_)
    (refine Jx.gtrI rfl rfl rfl ?_)
    (refine Jx.move rfl rfl ?_)
    (refine J.guardYes rfl rfl rfl (by first | rfl | assumption | (exact decide_eq_true (by first | assumption | omega | rfl)) | (exact decide_eq_false (by first | assumption | omega | rfl)) | (simp; done) | (simp; omega)) ?_)
    (refine Jx.move rfl rfl ?_)
    (refine J.guardYes rfl rfl rfl (by first | rfl | assumption | (exact decide_eq_true (by first | assumption | omega | rfl)) | (exact decide_eq_false (by first | assumption | omega | rfl)) | (simp; done) | (simp; omega)) ?_)
    (refine Jx.lenS rfl rfl ?_)
    (refine J.guardYes rfl rfl rfl (by first | rfl | assumption | (exact decide_eq_true (by first | assumption | omega | rfl)) | (exact decide_eq_false (by first | assumption | omega | rfl)) | (simp; done) | (simp; omega)) ?_)
    (refine Jx.gtrI rfl rfl rfl ?_)
    (refine Jx.pickF rfl (by first | rfl | assumption | (exact decide_eq_true (by first | assumption | omega | rfl)) | (exact decide_eq_false (by first | assumption | omega | rfl)) | (simp; done) | (simp; omega)) rfl rfl ?_)
    (refine J.nil ?_)
    (refine N.seq ?_)
    (refine W.condF rfl (by first | rfl | assumption | (exact decide_eq_true (by first | assumption | omega | rfl)) | (exact decide_eq_false (by first | assumption | omega | rfl)) | (simp; done) | (simp; omega)) ?_)
    (refine W.skip ?_)
    (refine N.seq ?_)
    (refine W.seq ?_)
    (refine W.region ?_)
    (refine J.call (first_ok) rfl (evs_args rfl) rfl ?_; rintro _ _ ⟨rfl, rfl⟩; simp only [List.cons_append, List.nil_append, List.append_nil])
    (refine J.alloc (by simp only [List.map_cons, List.map_nil]; rfl) rfl rfl ?_; intro b')
    (refine J.storeAll rfl rfl rfl 0 rfl rfl rfl ?_)
    (refine J.nil ?_)
    (refine N.seq ?_)
    (refine W.seq ?_)
    (refine W.region ?_)
    (refine Jx.assign rfl rfl ?_)
    (refine J.nil ?_)
    (refine N.seq ?_)
    (refine W.seq ?_)
    (refine W.seq ?_)
    (refine W.region ?_)
    (refine Jx.move rfl rfl ?_)
    (refine Jx.lenSl rfl rfl ?_)
    (refine Jx.move rfl rfl ?_)
    (refine J.nil ?_)
    (refine N.seq ?_)
    (refine W.block ?_)
    (refine id ?_; rotate_left))
      revert b'; intro p5
      refine W.loop (α := Nat) (fun i => [(25, int (i : Int)), (24, int (l.length : Int)), (23, blkSl l), (5, ptr p5), (6, str (l.take i).flatten), (0, blkSl l), (1, str s)]) (fun i => [.obj p5 23 ((l.take i).foldl blockS first8).cells]) (fun i => i ≤ l.length) (fun i => l.length - i) 0 (by simp) rfl ⟨ref0 rfl, ref0 rfl, ref0 rfl, ref0 rfl, ref0 rfl, ref0 rfl, ref0 rfl, trivial⟩ ?_
      intro i hi
      by_cases h1 : i < l.length
      · have hb : (l.getD i z64).length = 64 := by
          rw [List.getD_eq_getElem?_getD, List.getElem?_eq_getElem h1]; exact h64 _ (List.getElem_mem _)
        have hft := flat_take64 l i h1
        have hfo := fold_take l i h1 first8
        have hcl : (l.take i).flatten.length + (l.getD i z64).length ≤ 9223372036854775807 := by
          rw [len64 (fun b hb => h64 b (List.mem_of_mem_take hb)), List.length_take, hb]; omega
        generalize (l.take i).foldl blockS first8 = s0 at *
        generalize (l.take i).flatten = acc at *
        generalize hbs : l.getD i z64 = bs at *
        have hbm : (bs.map byte).length = 64 := by rw [List.length_map]; exact hb
        focus (
    (refine W.seq ?_)
    (refine W.region ?_)
    (refine Jx.lssI rfl rfl rfl ?_)
    (refine J.nil ?_)
    (refine N.seq ?_)
    (refine W.seq ?_)
    (refine W.condT rfl (by first | rfl | assumption | (exact decide_eq_true (by first | assumption | omega | rfl)) | (exact decide_eq_false (by first | assumption | omega | rfl)) | (simp; done) | (simp; omega)) ?_)
    (refine W.skip ?_)
    (refine N.seq ?_)
    (refine W.seq ?_)
    (refine W.block ?_)
    (refine W.seq ?_)
    (refine W.region ?_)
    (refine Jx.indexEl rfl rfl (by assumption) rfl rfl ?_)
    (refine Jx.loadPPag (ds := bs.map byte) rfl (by rw [hbs]; exact List.take_of_length_le (by omega)) hbm rfl ?_)
    (refine J.alloc (by simp only [List.map_cons, List.map_nil]; rfl) rfl rfl ?_; intro b')
    (refine J.storeArr hbm rfl rfl 0 rfl rfl rfl ?_)
    (refine J.nil ?_)
    (refine N.seq ?_)
    (refine W.seq ?_)
    (refine W.region ?_)
    (refine Jx.loadAll rfl 1 rfl rfl rfl ?_)
    (refine Jx.loadArr hbm rfl 0 rfl rfl ?_)
    (refine J.call (block_ok s0 bs hb) rfl (evs_args rfl) rfl ?_; rintro _ _ ⟨rfl, rfl⟩; simp only [List.cons_append, List.nil_append, List.append_nil])
    (refine J.storeAll rfl rfl rfl 1 rfl rfl rfl ?_)
    (refine J.nil ?_)
    (refine N.seq ?_)
    (refine W.region ?_)
    (refine Jx.move rfl rfl ?_)
    (refine Jx.sliceArr rfl rfl ?_)
    (refine Jx.arrAllStr bs rfl 0 rfl hb rfl ?_)
    (refine Jx.cat rfl rfl hcl rfl ?_)
    (refine Jx.assign rfl rfl ?_)
    (refine J.nil ?_)
    (refine N.seq ?_)
    (refine W.region ?_)
    (refine Jx.add64 rfl rfl (by omega) rfl ?_)
    (refine Jx.move rfl rfl ?_)
    (refine J.nil ?_)
    (refine id ?_; rotate_left))
        refine N.drop (List.sublist_cons_self _ _) ?_
        exact N.round (i + 1) h1 (by omega) (by simp only [hfo]; rfl) ⟨ref0 rfl, ref0 rfl, ref0 rfl, ref0 rfl, ⟨_, rfl, Sub.of_eq (by rw [hft])⟩, ref0 rfl, ref0 rfl, trivial⟩
      · have hil : i = l.length := by omega
        subst hil
        have hk7 : l.length < 7 := by omega
        rw [List.take_length]
        have e1 := sha_whole l h64 hk7
        have hfl := len64 h64
        have hs := shaS_small s (by rw [← pad_small s (by omega)]; simp only [List.length_set, List.length_append, List.length_replicate]; omega)
        have hps := pad_small s (by omega)
        have c1 := hsum_ok l.flatten (by omega)
        have c2 := hsum_ok s (by omega)
        generalize l.foldl blockS first8 = s0 at *
        generalize hea : UInt8.ofNat (512 * l.length / 2 ^ 8) = ea at *
        generalize hec : UInt8.ofNat (512 * l.length) = ec at *
        generalize hpl : s ++ padS s.length = pl at *
        have hpl64 : pl.length = 64 := by rw [← hps]; simp only [List.length_set, List.length_append, List.length_replicate]; omega
        have c3 := block_ok s0 (endL ea ec) rfl
        have c4 := block_ok first8 pl hpl64
        generalize blockS s0 (endL ea ec) = t1 at *
        generalize blockS first8 pl = t2 at *
        have c5 := ltold_ok t1
        have c6 := ltold_ok t2
        rw [e1] at c1
        rw [hs] at c2
        generalize toldS t1 = T1 at *
        generalize toldS t2 = T2 at *
        generalize l.flatten = all at *
        have hbits : 512 * (l.length : Int) = ((512 * l.length : Nat) : Int) := by omega
        have hcp : (List.replicate 64 (byte 0)).take 0 ++ s.map byte ++ (List.replicate 64 (byte 0)).drop (0 + s.length) = (s ++ List.replicate (64 - s.length) 0).map byte := by
          rw [List.drop_replicate, Nat.zero_add, List.map_append, List.map_replicate]; rfl
        focus (
    (refine W.seq ?_)
    (refine W.region ?_)
    (refine Jx.lssI rfl rfl rfl ?_)
    (refine J.nil ?_)
    (refine N.seq ?_)
    (refine W.seq ?_)
    (refine W.condF rfl (by first | rfl | assumption | (exact decide_eq_true (by first | assumption | omega | rfl)) | (exact decide_eq_false (by first | assumption | omega | rfl)) | (simp; done) | (simp; omega)) ?_)
    (refine W.exit ?_)
    (refine N.seq ?_)
    (refine W.seq ?_)
    (refine W.region ?_)
    (refine Jx.move rfl rfl ?_)
    (refine Jx.lenSl rfl rfl ?_)
    (refine Jx.mul64 rfl rfl (by omega) rfl ?_; rw [hbits])
    (refine Jx.assign rfl rfl ?_)
    (refine J.nil ?_)
    (refine N.seq ?_)
    (refine W.seq ?_)
    (refine W.region ?_)
    (refine Jx.move rfl rfl ?_)
    (refine Jx.shrN (s := 8) rfl rfl rfl (by decide) rfl ?_)
    (refine Jx.numByte (512 * l.length / 2 ^ 8) rfl rfl rfl rfl ?_; rw [hea])
    (refine Jx.move rfl rfl ?_)
    (refine Jx.numByte (512 * l.length) rfl rfl rfl rfl ?_; rw [hec])
    (refine Jx.buildA (cs' := (endL ea ec).map byte) rfl rfl rfl rfl rfl ?_)
    (refine J.alloc (by simp only [List.map_cons, List.map_nil]; rfl) rfl rfl ?_; intro b')
    (refine J.storeAll rfl rfl rfl 0 rfl rfl rfl ?_)
    (refine J.nil ?_)
    (refine N.seq ?_)
    (refine W.seq ?_)
    (refine W.region ?_)
    (refine J.alloc (by simp only [List.map_cons, List.map_nil]; rfl) rfl rfl ?_; intro b')
    (refine J.nil ?_)
    (refine N.seq ?_)
    (refine W.seq ?_)
    (refine W.region ?_)
    (refine Jx.sliceArr rfl rfl ?_)
    (refine Jx.move rfl rfl ?_)
    (refine J.copyStr rfl rfl 0 rfl (by omega) (by simp; omega) hcp rfl ?_)
    (refine J.nil ?_)
    (refine N.seq ?_)
    (refine W.seq ?_)
    (refine W.region ?_)
    (refine Jx.move rfl rfl ?_)
    (refine Jx.lenS rfl rfl ?_)
    (refine Jx.index0 s.length rfl rfl rfl (by omega) rfl ?_)
    (refine J.storeA byte 128 rfl rfl (One.val rfl) 0 rfl (by simp only [List.length_append, List.length_replicate]; omega) rfl ?_)
    (refine J.nil ?_)
    (refine N.seq ?_)
    (refine W.seq ?_)
    (refine W.region ?_)
    (refine Jx.move rfl rfl ?_)
    (refine Jx.lenS rfl rfl ?_)
    (refine Jx.shrN (s := 5) rfl rfl rfl (by decide) rfl ?_)
    (refine Jx.numByte (s.length / 2 ^ 5) rfl rfl rfl rfl ?_)
    (refine Jx.move rfl rfl ?_)
    (refine Jx.lenS rfl rfl ?_)
    (refine Jx.shlN (s := 3) rfl rfl rfl (by decide) (by omega) rfl ?_)
    (refine Jx.numByte (s.length * 2 ^ 3) rfl rfl rfl rfl ?_)
    (refine Jx.index0 62 rfl rfl rfl (by omega) rfl ?_)
    (refine J.storeA byte (UInt8.ofNat (s.length / 2 ^ 5)) rfl rfl (One.val rfl) 0 rfl (by simp only [List.length_set, List.length_append, List.length_replicate]; omega) rfl ?_)
    (refine Jx.index0 63 rfl rfl rfl (by omega) rfl ?_)
    (refine J.storeA byte (UInt8.ofNat (s.length * 2 ^ 3)) rfl rfl (One.val rfl) 0 rfl (by simp only [List.length_set, List.length_append, List.length_replicate]; omega) rfl ?_)
    (refine J.nil ?_)
    (refine N.seq ?_)
    (refine W.seq ?_)
    (refine W.draw follows ?_)
    (refine JD.calm rfl (by decide +kernel) ?_)
    (refine Cx.move rfl rfl ?_)
    (refine SegC.q (Qs.call (Lc := []) (c1) (fun s L' h => h) (List.Perm.refl _) (evs_args rfl)) rfl ?_)
    (refine Cx.loadAll rfl 2 rfl rfl rfl ?_)
    (refine Cx.loadAll rfl 1 rfl rfl rfl ?_)
    (refine SegC.q (Qs.call (Lc := []) (c3) (fun s L' h => h) (List.Perm.refl _) (evs_args rfl)) rfl ?_)
    (refine SegC.q (Qs.call (Lc := []) (c5) (fun s L' h => h) (List.Perm.refl _) (evs_args rfl)) rfl ?_)
    (refine Cx.eqlS rfl rfl rfl ?_)
    (refine Cx.move rfl rfl ?_)
    (refine SegC.yes rfl rfl rfl (by first | rfl | assumption | (exact decide_eq_true (by first | assumption | omega | rfl)) | (exact decide_eq_false (by first | assumption | omega | rfl)) | (simp; done) | (simp; omega)) ?_)
    (refine Cx.move rfl rfl ?_)
    (refine SegC.yes rfl rfl rfl (by first | rfl | assumption | (exact decide_eq_true (by first | assumption | omega | rfl)) | (exact decide_eq_false (by first | assumption | omega | rfl)) | (simp; done) | (simp; omega)) ?_)
    (refine SegC.q (Qs.call (Lc := []) (c2) (fun s L' h => h) (List.Perm.refl _) (evs_args rfl)) rfl ?_)
    (refine SegC.yes rfl rfl rfl (by first | rfl | assumption | (exact decide_eq_true (by first | assumption | omega | rfl)) | (exact decide_eq_false (by first | assumption | omega | rfl)) | (simp; done) | (simp; omega)) ?_)
    (refine SegC.q (Qs.call (Lc := []) (first_ok) (fun s L' h => h) (List.Perm.refl _) (evs_args rfl)) rfl ?_)
    (refine SegC.yes rfl rfl rfl (by first | rfl | assumption | (exact decide_eq_true (by first | assumption | omega | rfl)) | (exact decide_eq_false (by first | assumption | omega | rfl)) | (simp; done) | (simp; omega)) ?_)
    (refine Cx.loadArr (by simp only [List.length_map, List.length_set, List.length_append, List.length_replicate]; omega) rfl 0 rfl rfl ?_; rw [hps])
    (refine SegC.yes rfl rfl rfl (by first | rfl | assumption | (exact decide_eq_true (by first | assumption | omega | rfl)) | (exact decide_eq_false (by first | assumption | omega | rfl)) | (simp; done) | (simp; omega)) ?_)
    (refine SegC.q (Qs.call (Lc := []) (c4) (fun s L' h => h) (List.Perm.refl _) (evs_args rfl)) rfl ?_)
    (refine SegC.yes rfl rfl rfl (by first | rfl | assumption | (exact decide_eq_true (by first | assumption | omega | rfl)) | (exact decide_eq_false (by first | assumption | omega | rfl)) | (simp; done) | (simp; omega)) ?_)
    (refine SegC.q (Qs.call (Lc := []) (c6) (fun s L' h => h) (List.Perm.refl _) (evs_args rfl)) rfl ?_)
    (refine SegC.yes rfl rfl rfl (by first | rfl | assumption | (exact decide_eq_true (by first | assumption | omega | rfl)) | (exact decide_eq_false (by first | assumption | omega | rfl)) | (simp; done) | (simp; omega)) ?_)
    (refine Cx.eqlS rfl rfl rfl ?_)
    (refine Cx.pickT rfl (by first | rfl | assumption | (exact decide_eq_true (by first | assumption | omega | rfl)) | (exact decide_eq_false (by first | assumption | omega | rfl)) | (simp; done) | (simp; omega)) rfl rfl ?_)
    (refine Cx.assign rfl rfl ?_)
    (refine SegC.nil ?_)
    (refine N.seq ?_)
    (refine W.ret ?_)
    (refine id ?_; rotate_left))
        exact N.retD (rs := [.tmp 4]) (L1 := []) rfl (.tmp rfl .nil) (List.nil_sublist _) ⟨by simp [oneOr], rfl⟩
end Go.Proofs.YtjlpknligekfeaaDoor
