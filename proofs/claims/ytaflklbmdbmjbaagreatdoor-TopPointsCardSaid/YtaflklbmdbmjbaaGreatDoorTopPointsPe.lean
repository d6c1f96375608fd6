/-
  Lemmas for the claim, part 5.
-/
import Derived.Test.YtaflklbmdbmjbaaGreatDoorTopPointsPd
namespace Go.Proofs.YtaflklbmdbmjbaaGreatDoor
open Go Go.Sse
set_option linter.unusedVariables false
set_option linter.unusedSimpArgs false
set_option maxRecDepth 10000
theorem ver_nil {root key v : Bs} {l : List Bs} {found : Bool} (hV : verP root key l = (v, found, 0)) (hr : root = []) : found = false := by
  unfold verP at hV
  split at hV
  · simp at hV
  split at hV
  · simp only [Prod.mk.injEq] at hV; exact hV.2.1.symm
  · simp at hV
theorem ver_ok {root key v : Bs} {l : List Bs} {found : Bool} (hV : verP root key l = (v, found, 0)) (hr : root ≠ []) : key ≠ [] ∧ key.length ≤ 8 ∧ folP root (ofN key) l = (v, l.length, true) ∧ found = decide (v ≠ []) ∧ 0 < l.length := by
  unfold verP at hV
  split at hV
  · simp at hV
  rename_i hk
  split at hV
  case isFalse => simp at hV
  rename_i hf
  simp only [Prod.mk.injEq, and_true] at hV
  obtain ⟨h1, h2⟩ := hV
  have hk' : key ≠ [] ∧ key.length ≤ 8 := Classical.byContradiction hk
  refine ⟨hk'.1, hk'.2, ?_, ?_, ?_⟩
  · rw [← h1, ← hf.1, ← hf.2]
  · rw [← h2, h1]
  · cases l with
    | nil => have := hf.1; simp [folP, followP] at this
    | cons _ _ => simp
theorem seen_next {items : List It} {key : Bs} {i : Nat} {seen : Bool} (h : seen = true ↔ ∃ j, j < i ∧ (items.getD j it0).1 = key) :
    ((items.getD i it0).1 = key → ∃ j, j < i + 1 ∧ (items.getD j it0).1 = key) ∧ (¬ (items.getD i it0).1 = key → (seen = true ↔ ∃ j, j < i + 1 ∧ (items.getD j it0).1 = key)) := by
  refine ⟨fun hk => ⟨i, by omega, hk⟩, fun hk => ?_⟩
  rw [h]
  constructor
  · rintro ⟨j, h1, h2⟩; exact ⟨j, by omega, h2⟩
  · rintro ⟨j, h1, h2⟩
    refine ⟨j, ?_, h2⟩
    rcases Nat.lt_or_ge j i with h3 | h3
    · exact h3
    · obtain rfl : j = i := by omega
      exact absurd h2 hk
theorem seen_end {items : List It} {key v : Bs} {seen found : Bool} (h : seen = true ↔ ∃ j, j < items.length ∧ (items.getD j it0).1 = key) (hf : found = decide (v ≠ []))
    (ha : (v ≠ [] → (key, v) ∈ items) ∧ ∀ y ∈ items, y.1 = key → v ≠ [] ∧ y.2 = v) : seen = found := by
  rw [Bool.eq_iff_iff, h, hf, decide_eq_true_eq]
  constructor
  · rintro ⟨j, h1, h2⟩
    exact (ha.2 _ (getD_memT h1) h2).1
  · intro hv
    obtain ⟨j, hj, he⟩ := List.getElem_of_mem (ha.1 hv)
    exact ⟨j, hj, by rw [List.getD_eq_getElem?_getD, List.getElem?_eq_getElem hj, he]; rfl⟩
set_option maxHeartbeats 32000000 in
theorem points_ok (hk : FnC Tryz.prog 4 [] [] (fun r L => r = Sse.bool true ∧ L = [])) (root key lo hi next : Bs) (most : Int) (nodes pnodes : List Bs) (items : List It) (hlo : lo.length ≤ 140737488351232) (hhi : hi.length ≤ 140737488351232) (hnx0 : next.length ≤ 140737488351232) :
    FnC Tryz.prog 3 [str root, .agg [str key, str lo, str hi, int most, ssl nodes, itl items, str next, ssl pnodes]] [] (fun r L => r = Sse.bool true ∧ L = []) := by
  have cf1 := few_ok nodes 60 700 (by decide)
  have cf2 := few_ok pnodes 60 700 (by decide)
  by_cases g1 : fewB nodes 60 700 = true
  case neg =>
    have g1f : fewB nodes 60 700 = false := by simpa using g1
    rw [g1f] at cf1
    refine FnC.intro Tryz.func3 rfl Tryz.ntmps3 rfl fun Z w0 hG => ?_
    focus (
 (refine W.seq (W.region ?_))
 (refine J.boxAg (d := 3) rfl rfl ?_; intro p3)
 (refine Jx.assign rfl rfl (J.nil (N.seq (W.seq (W.seq (W.region ?_))))))
 (refine J.call (Lc := []) hk rfl (evs_args rfl) rfl ?_; rintro _ _ ⟨rfl, rfl⟩; rw [List.nil_append])
 (refine Jx.not rfl rfl (J.nil (N.seq (W.cF rfl ?_))))
 (refine W.skip (N.seq (W.seq (W.seq (W.region (Jx.fieldAddr rfl rfl ?_))))))
 (refine Jx.load rfl 0 rfl rfl rfl ?_)
 (refine J.call (Lc := []) cf1 rfl (evs_args rfl) rfl ?_; rintro _ _ ⟨rfl, rfl⟩; rw [List.nil_append])
 (refine Jx.not rfl rfl (Jx.move rfl rfl (J.gN rfl rfl rfl rfl ?_)))
 (refine J.gN rfl rfl rfl rfl ?_)
 (refine J.gN rfl rfl rfl rfl ?_)
 (refine J.gN rfl rfl rfl rfl ?_)
 (refine J.gN rfl rfl rfl rfl ?_)
 (refine Jx.pT rfl rfl rfl ?_)
 (refine Jx.move rfl rfl (J.gN rfl rfl rfl rfl ?_))
 (refine J.gN rfl rfl rfl rfl ?_)
 (refine J.gN rfl rfl rfl rfl ?_)
 (refine J.gN rfl rfl rfl rfl ?_)
 (refine J.gN rfl rfl rfl rfl ?_)
 (refine Jx.pT rfl rfl rfl ?_)
 (refine Jx.move rfl rfl (J.gN rfl rfl rfl rfl ?_))
 (refine J.gN rfl rfl rfl rfl ?_)
 (refine J.gN rfl rfl rfl rfl ?_)
 (refine Jx.pT rfl rfl rfl ?_)
 (refine J.nil (N.seq (W.cT rfl ?_)))
 (refine W.seq (W.region (Jx.assign rfl rfl (J.nil (N.seq (W.ret (N.noGotoRet ?_)))))))
 (refine id ?_; rotate_left))
    exact N.retD (rs := [.tmp 4]) (L1 := []) rfl (.tmp rfl .nil) (List.nil_sublist _) ⟨by first | rfl | simp [oneOr], rfl⟩
  by_cases g2 : fewB pnodes 60 700 = true
  case neg =>
    have g2f : fewB pnodes 60 700 = false := by simpa using g2
    rw [g1] at cf1
    rw [g2f] at cf2
    refine FnC.intro Tryz.func3 rfl Tryz.ntmps3 rfl fun Z w0 hG => ?_
    focus (
 (refine W.seq (W.region ?_))
 (refine J.boxAg (d := 3) rfl rfl ?_; intro p3)
 (refine Jx.assign rfl rfl (J.nil (N.seq (W.seq (W.seq (W.region ?_))))))
 (refine J.call (Lc := []) hk rfl (evs_args rfl) rfl ?_; rintro _ _ ⟨rfl, rfl⟩; rw [List.nil_append])
 (refine Jx.not rfl rfl (J.nil (N.seq (W.cF rfl ?_))))
 (refine W.skip (N.seq (W.seq (W.seq (W.region (Jx.fieldAddr rfl rfl ?_))))))
 (refine Jx.load rfl 0 rfl rfl rfl ?_)
 (refine J.call (Lc := []) cf1 rfl (evs_args rfl) rfl ?_; rintro _ _ ⟨rfl, rfl⟩; rw [List.nil_append])
 (refine Jx.not rfl rfl (Jx.move rfl rfl (J.gY rfl rfl rfl ?_)))
 (refine Jx.fieldAddr rfl rfl ?_)
 (refine J.gY rfl rfl rfl ?_)
 (refine Jx.fieldAddr rfl rfl ?_)
 (refine J.gY rfl rfl rfl ?_)
 (refine Jx.load rfl 0 rfl rfl rfl ?_)
 (refine J.gY rfl rfl rfl ?_)
 (refine J.call (Lc := []) cf2 rfl (evs_args rfl) rfl ?_; rintro _ _ ⟨rfl, rfl⟩; rw [List.nil_append])
 (refine J.gY rfl rfl rfl ?_)
 (refine Jx.not rfl rfl (Jx.pF rfl rfl rfl ?_))
 (refine Jx.move rfl rfl (J.gN rfl rfl rfl rfl ?_))
 (refine J.gN rfl rfl rfl rfl ?_)
 (refine J.gN rfl rfl rfl rfl ?_)
 (refine J.gN rfl rfl rfl rfl ?_)
 (refine J.gN rfl rfl rfl rfl ?_)
 (refine Jx.pT rfl rfl rfl ?_)
 (refine Jx.move rfl rfl (J.gN rfl rfl rfl rfl ?_))
 (refine J.gN rfl rfl rfl rfl ?_)
 (refine J.gN rfl rfl rfl rfl ?_)
 (refine Jx.pT rfl rfl rfl ?_)
 (refine J.nil (N.seq (W.cT rfl ?_)))
 (refine W.seq (W.region (Jx.assign rfl rfl (J.nil (N.seq (W.ret (N.noGotoRet ?_)))))))
 (refine id ?_; rotate_left))
    exact N.retD (rs := [.tmp 4]) (L1 := []) rfl (.tmp rfl .nil) (List.nil_sublist _) ⟨by first | rfl | simp [oneOr], rfl⟩
  have hf1 := few_spec (n := 60) (e := 700) g1
  have hf2 := few_spec (n := 60) (e := 700) g2
  rw [g1] at cf1
  rw [g2] at cf2
  by_cases g3 : (60 : Int) < (items.length : Int)
  · refine FnC.intro Tryz.func3 rfl Tryz.ntmps3 rfl fun Z w0 hG => ?_
    focus (
 (refine W.seq (W.region ?_))
 (refine J.boxAg (d := 3) rfl rfl ?_; intro p3)
 (refine Jx.assign rfl rfl (J.nil (N.seq (W.seq (W.seq (W.region ?_))))))
 (refine J.call (Lc := []) hk rfl (evs_args rfl) rfl ?_; rintro _ _ ⟨rfl, rfl⟩; rw [List.nil_append])
 (refine Jx.not rfl rfl (J.nil (N.seq (W.cF rfl ?_))))
 (refine W.skip (N.seq (W.seq (W.seq (W.region (Jx.fieldAddr rfl rfl ?_))))))
 (refine Jx.load rfl 0 rfl rfl rfl ?_)
 (refine J.call (Lc := []) cf1 rfl (evs_args rfl) rfl ?_; rintro _ _ ⟨rfl, rfl⟩; rw [List.nil_append])
 (refine Jx.not rfl rfl (Jx.move rfl rfl (J.gY rfl rfl rfl ?_)))
 (refine Jx.fieldAddr rfl rfl ?_)
 (refine J.gY rfl rfl rfl ?_)
 (refine Jx.fieldAddr rfl rfl ?_)
 (refine J.gY rfl rfl rfl ?_)
 (refine Jx.load rfl 0 rfl rfl rfl ?_)
 (refine J.gY rfl rfl rfl ?_)
 (refine J.call (Lc := []) cf2 rfl (evs_args rfl) rfl ?_; rintro _ _ ⟨rfl, rfl⟩; rw [List.nil_append])
 (refine J.gY rfl rfl rfl ?_)
 (refine Jx.not rfl rfl (Jx.pF rfl rfl rfl ?_))
 (refine Jx.move rfl rfl (J.gY rfl rfl rfl ?_))
 (refine Jx.fieldAddr rfl rfl ?_)
 (refine J.gY rfl rfl rfl ?_)
 (refine Jx.fieldAddr rfl rfl ?_)
 (refine J.gY rfl rfl rfl ?_)
 (refine Jx.load rfl 0 rfl rfl rfl ?_)
 (refine J.gY rfl rfl rfl ?_)
 (refine Jx.lenSl rfl rfl ?_)
 (refine J.gY rfl rfl rfl ?_)
 (refine Jx.gtrI rfl rfl rfl (Jx.pF rfl rfl rfl ?_))
 (refine Jx.move rfl rfl (J.gN rfl rfl rfl rfl ?_))
 (refine J.gN rfl rfl rfl rfl ?_)
 (refine J.gN rfl rfl rfl rfl ?_)
 (refine Jx.pT rfl rfl rfl ?_)
 (refine J.nil (N.seq (W.cT rfl ?_)))
 (refine W.seq (W.region (Jx.assign rfl rfl (J.nil (N.seq (W.ret (N.noGotoRet ?_)))))))
 (refine id ?_; rotate_left))
    exact N.retD (rs := [.tmp 4]) (L1 := []) rfl (.tmp rfl .nil) (List.nil_sublist _) ⟨by first | rfl | simp [oneOr], rfl⟩
  by_cases g3b : (100 : Int) < (root.length : Int)
  · refine FnC.intro Tryz.func3 rfl Tryz.ntmps3 rfl fun Z w0 hG => ?_
    focus (
 (refine W.seq (W.region ?_))
 (refine J.boxAg (d := 3) rfl rfl ?_; intro p3)
 (refine Jx.assign rfl rfl (J.nil (N.seq (W.seq (W.seq (W.region ?_))))))
 (refine J.call (Lc := []) hk rfl (evs_args rfl) rfl ?_; rintro _ _ ⟨rfl, rfl⟩; rw [List.nil_append])
 (refine Jx.not rfl rfl (J.nil (N.seq (W.cF rfl ?_))))
 (refine W.skip (N.seq (W.seq (W.seq (W.region (Jx.fieldAddr rfl rfl ?_))))))
 (refine Jx.load rfl 0 rfl rfl rfl ?_)
 (refine J.call (Lc := []) cf1 rfl (evs_args rfl) rfl ?_; rintro _ _ ⟨rfl, rfl⟩; rw [List.nil_append])
 (refine Jx.not rfl rfl (Jx.move rfl rfl (J.gY rfl rfl rfl ?_)))
 (refine Jx.fieldAddr rfl rfl ?_)
 (refine J.gY rfl rfl rfl ?_)
 (refine Jx.fieldAddr rfl rfl ?_)
 (refine J.gY rfl rfl rfl ?_)
 (refine Jx.load rfl 0 rfl rfl rfl ?_)
 (refine J.gY rfl rfl rfl ?_)
 (refine J.call (Lc := []) cf2 rfl (evs_args rfl) rfl ?_; rintro _ _ ⟨rfl, rfl⟩; rw [List.nil_append])
 (refine J.gY rfl rfl rfl ?_)
 (refine Jx.not rfl rfl (Jx.pF rfl rfl rfl ?_))
 (refine Jx.move rfl rfl (J.gY rfl rfl rfl ?_))
 (refine Jx.fieldAddr rfl rfl ?_)
 (refine J.gY rfl rfl rfl ?_)
 (refine Jx.fieldAddr rfl rfl ?_)
 (refine J.gY rfl rfl rfl ?_)
 (refine Jx.load rfl 0 rfl rfl rfl ?_)
 (refine J.gY rfl rfl rfl ?_)
 (refine Jx.lenSl rfl rfl ?_)
 (refine J.gY rfl rfl rfl ?_)
 (refine Jx.gtrI rfl rfl rfl (Jx.pF rfl rfl rfl ?_))
 (refine Jx.move rfl rfl (J.gY rfl rfl rfl ?_))
 (refine Jx.move rfl rfl (J.gY rfl rfl rfl ?_))
 (refine Jx.lenS rfl rfl ?_)
 (refine J.gY rfl rfl rfl ?_)
 (refine Jx.gtrI rfl rfl rfl (Jx.pF rfl rfl rfl ?_))
 (refine J.nil (N.seq (W.cT rfl ?_)))
 (refine W.seq (W.region (Jx.assign rfl rfl (J.nil (N.seq (W.ret (N.noGotoRet ?_)))))))
 (refine id ?_; rotate_left))
    exact N.retD (rs := [.tmp 4]) (L1 := []) rfl (.tmp rfl .nil) (List.nil_sublist _) ⟨by first | rfl | simp [oneOr], rfl⟩
  have cv := pverify_ok root key nodes (by omega) (fun t ht => by have := hf1.2 t ht; omega)
  have cs := sverify_ok root lo hi next most pnodes items hlo hhi hnx0 hf2.1 (fun t ht => by have := hf2.2 t ht; omega) (by omega)
  have cU := unlikes_ok (nodes ++ pnodes) (by rw [List.length_append]; omega) (fun t ht => by
    rcases List.mem_append.1 ht with h | h
    · have := hf1.2 t h; omega
    · have := hf2.2 t h; omega)
  have hmx1 : nodes.length ≤ maxLen ∧ nodes.length * 16 ≤ 140737488355328 := by simp only [maxLen]; omega
  have hmx2 : nodes.length + pnodes.length ≤ maxLen ∧ (nodes.length + pnodes.length) * 16 ≤ 140737488355328 := by simp only [maxLen]; omega
  have hmx3 : (nodes ++ pnodes).length ≤ maxLen := by rw [List.length_append]; exact hmx2.1
  generalize hV : verP root key nodes = V at *
  obtain ⟨v, found, e1⟩ := V
  simp only at cv
  refine FnC.intro Tryz.func3 rfl Tryz.ntmps3 rfl fun Z w0 hG => ?_
  focus (
 (refine W.seq (W.region ?_))
 (refine J.boxAg (d := 3) rfl rfl ?_; intro p3)
 (refine Jx.assign rfl rfl (J.nil (N.seq (W.seq (W.seq (W.region ?_))))))
 (refine J.call (Lc := []) hk rfl (evs_args rfl) rfl ?_; rintro _ _ ⟨rfl, rfl⟩; rw [List.nil_append])
 (refine Jx.not rfl rfl (J.nil (N.seq (W.cF rfl ?_))))
 (refine W.skip (N.seq (W.seq (W.seq (W.region (Jx.fieldAddr rfl rfl ?_))))))
 (refine Jx.load rfl 0 rfl rfl rfl ?_)
 (refine J.call (Lc := []) cf1 rfl (evs_args rfl) rfl ?_; rintro _ _ ⟨rfl, rfl⟩; rw [List.nil_append])
 (refine Jx.not rfl rfl (Jx.move rfl rfl (J.gY rfl rfl rfl ?_)))
 (refine Jx.fieldAddr rfl rfl ?_)
 (refine J.gY rfl rfl rfl ?_)
 (refine Jx.fieldAddr rfl rfl ?_)
 (refine J.gY rfl rfl rfl ?_)
 (refine Jx.load rfl 0 rfl rfl rfl ?_)
 (refine J.gY rfl rfl rfl ?_)
 (refine J.call (Lc := []) cf2 rfl (evs_args rfl) rfl ?_; rintro _ _ ⟨rfl, rfl⟩; rw [List.nil_append])
 (refine J.gY rfl rfl rfl ?_)
 (refine Jx.not rfl rfl (Jx.pF rfl rfl rfl ?_))
 (refine Jx.move rfl rfl (J.gY rfl rfl rfl ?_))
 (refine Jx.fieldAddr rfl rfl ?_)
 (refine J.gY rfl rfl rfl ?_)
 (refine Jx.fieldAddr rfl rfl ?_)
 (refine J.gY rfl rfl rfl ?_)
 (refine Jx.load rfl 0 rfl rfl rfl ?_)
 (refine J.gY rfl rfl rfl ?_)
 (refine Jx.lenSl rfl rfl ?_)
 (refine J.gY rfl rfl rfl ?_)
 (refine Jx.gtrI rfl rfl rfl (Jx.pF rfl rfl rfl ?_))
 (refine Jx.move rfl rfl (J.gY rfl rfl rfl ?_))
 (refine Jx.move rfl rfl (J.gY rfl rfl rfl ?_))
 (refine Jx.lenS rfl rfl ?_)
 (refine J.gY rfl rfl rfl ?_)
 (refine Jx.gtrI rfl rfl rfl (Jx.pF rfl rfl rfl ?_))
 (refine J.nil (N.seq (W.cF rfl ?_)))
 (refine W.skip (N.seq (W.seq (W.region (Jx.move rfl rfl (Jx.fieldAddr rfl rfl ?_))))))
 (refine Jx.load rfl 0 rfl rfl rfl ?_)
 (refine Jx.fieldAddr rfl rfl ?_)
 (refine Jx.load rfl 0 rfl rfl rfl ?_)
 (refine J.call (Lc := []) cv rfl (evs_args rfl) rfl ?_; rintro _ _ ⟨rfl, rfl⟩; rw [List.nil_append])
 (refine Jx.move rfl rfl (Jx.extract rfl rfl rfl ?_))
 (refine Jx.extract rfl rfl rfl ?_)
 (refine Jx.extract rfl rfl rfl ?_)
 (refine Jx.assign rfl rfl (Jx.assign rfl rfl (Jx.assign rfl rfl (J.nil (N.seq (W.seq (W.region (Jx.move rfl rfl (Jx.fieldAddr rfl rfl ?_)))))))))
 (refine Jx.load rfl 0 rfl rfl rfl ?_)
 (refine Jx.fieldAddr rfl rfl ?_)
 (refine Jx.load rfl 0 rfl rfl rfl ?_)
 (refine Jx.fieldAddr rfl rfl ?_)
 (refine Jx.load rfl 0 rfl rfl rfl ?_)
 (refine Jx.fieldAddr rfl rfl ?_)
 (refine Jx.loadAg rfl 0 rfl rfl rfl rfl ?_)
 (refine J.call (Lc := []) cs rfl (evs_args rfl) rfl ?_; rintro _ _ ⟨⟨X, nx, e2, rfl, hp⟩, rfl⟩; rw [List.nil_append])
 (refine Jx.move rfl rfl (Jx.extract rfl rfl rfl ?_))
 (refine Jx.extract rfl rfl rfl ?_)
 (refine Jx.extract rfl rfl rfl ?_)
 (refine Jx.assign rfl rfl (Jx.assign rfl rfl (Jx.assign rfl rfl (J.nil (N.seq (W.seq (W.region (Jx.fieldAddr rfl rfl ?_))))))))
 (refine Jx.load rfl 0 rfl rfl rfl ?_)
 (refine Jx.assign rfl rfl (J.nil (N.seq (W.seq (W.seq (W.region (Jx.move rfl rfl (Jx.neqS rfl rfl rfl (J.nil (N.seq ?_))))))))))
 (refine id ?_; rotate_left))
  by_cases hn : nx ≠ []
  case pos =>
    by_cases he1 : e1 = 0
    case neg =>
      have he1n : e1 ≠ 0 := he1
      focus (
 (refine W.cT rfl ?_)
 (refine W.region (Jx.move rfl rfl (Jx.assign rfl rfl (J.nil (N.seq (W.seq (W.seq (W.region (Jx.move rfl rfl (Jx.neqI rfl rfl rfl (Jx.move rfl rfl (J.gN rfl rfl rfl rfl ?_))))))))))))
 (refine J.gN rfl rfl rfl rfl ?_)
 (refine Jx.pT rfl rfl rfl ?_)
 (refine Jx.move rfl rfl (J.gN rfl rfl rfl rfl ?_))
 (refine J.gN rfl rfl rfl rfl ?_)
 (refine J.gN rfl rfl rfl rfl ?_)
 (refine J.gN rfl rfl rfl rfl ?_)
 (refine J.gN rfl rfl rfl rfl ?_)
 (refine Jx.pT rfl rfl rfl ?_)
 (refine Jx.move rfl rfl (J.gN rfl rfl rfl rfl ?_))
 (refine J.gN rfl rfl rfl rfl ?_)
 (refine J.gN rfl rfl rfl rfl ?_)
 (refine J.guardSkip rfl rfl rfl rfl ?_)
 (refine J.guardSkip rfl rfl rfl rfl ?_)
 (refine J.guardSkip rfl rfl rfl rfl ?_)
 (refine J.guardSkip rfl rfl rfl rfl ?_)
 (refine J.gN rfl rfl rfl rfl ?_)
 (refine Jx.pT rfl rfl rfl ?_)
 (refine J.nil (N.seq (W.cT rfl ?_)))
 (refine W.seq (W.region (Jx.assign rfl rfl (J.nil (N.seq (W.ret (N.noGotoRet ?_)))))))
 (refine id ?_; rotate_left))
      exact N.retD (rs := [.tmp 4]) (L1 := []) rfl (.tmp rfl .nil) (List.nil_sublist _) ⟨by first | rfl | simp [oneOr], rfl⟩
    subst he1
    by_cases he2 : e2 = 0
    case neg =>
      have he2n : e2 ≠ 0 := he2
      focus (
 (refine W.cT rfl ?_)
 (refine W.region (Jx.move rfl rfl (Jx.assign rfl rfl (J.nil (N.seq (W.seq (W.seq (W.region (Jx.move rfl rfl (Jx.neqI rfl rfl rfl (Jx.move rfl rfl (J.gY rfl rfl rfl ?_))))))))))))
 (refine Jx.move rfl rfl (J.gY rfl rfl rfl ?_))
 (refine Jx.neqI rfl rfl rfl (Jx.pF rfl rfl rfl ?_))
 (refine Jx.move rfl rfl (J.gN rfl rfl rfl rfl ?_))
 (refine J.gN rfl rfl rfl rfl ?_)
 (refine J.gN rfl rfl rfl rfl ?_)
 (refine J.gN rfl rfl rfl rfl ?_)
 (refine J.gN rfl rfl rfl rfl ?_)
 (refine Jx.pT rfl rfl rfl ?_)
 (refine Jx.move rfl rfl (J.gN rfl rfl rfl rfl ?_))
 (refine J.gN rfl rfl rfl rfl ?_)
 (refine J.gN rfl rfl rfl rfl ?_)
 (refine J.guardSkip rfl rfl rfl rfl ?_)
 (refine J.guardSkip rfl rfl rfl rfl ?_)
 (refine J.guardSkip rfl rfl rfl rfl ?_)
 (refine J.guardSkip rfl rfl rfl rfl ?_)
 (refine J.gN rfl rfl rfl rfl ?_)
 (refine Jx.pT rfl rfl rfl ?_)
 (refine J.nil (N.seq (W.cT rfl ?_)))
 (refine W.seq (W.region (Jx.assign rfl rfl (J.nil (N.seq (W.ret (N.noGotoRet ?_)))))))
 (refine id ?_; rotate_left))
      exact N.retD (rs := [.tmp 4]) (L1 := []) rfl (.tmp rfl .nil) (List.nil_sublist _) ⟨by first | rfl | simp [oneOr], rfl⟩
    subst he2
    by_cases g4 : ltL key lo
    · have b4 := less_true g4
      focus (
 (refine W.cT rfl ?_)
 (refine W.region (Jx.move rfl rfl (Jx.assign rfl rfl (J.nil (N.seq (W.seq (W.seq (W.region (Jx.move rfl rfl (Jx.neqI rfl rfl rfl (Jx.move rfl rfl (J.gY rfl rfl rfl ?_))))))))))))
 (refine Jx.move rfl rfl (J.gY rfl rfl rfl ?_))
 (refine Jx.neqI rfl rfl rfl (Jx.pF rfl rfl rfl ?_))
 (refine Jx.move rfl rfl (J.gY rfl rfl rfl ?_))
 (refine Jx.fieldAddr rfl rfl ?_)
 (refine J.gY rfl rfl rfl ?_)
 (refine Jx.load rfl 0 rfl rfl rfl ?_)
 (refine J.gY rfl rfl rfl ?_)
 (refine Jx.fieldAddr rfl rfl ?_)
 (refine J.gY rfl rfl rfl ?_)
 (refine Jx.load rfl 0 rfl rfl rfl ?_)
 (refine J.gY rfl rfl rfl ?_)
 (refine Jx.lssS rfl rfl rfl ?_; rw [b4])
 (refine Jx.pF rfl rfl rfl ?_)
 (refine Jx.move rfl rfl (J.gN rfl rfl rfl rfl ?_))
 (refine J.gN rfl rfl rfl rfl ?_)
 (refine J.gN rfl rfl rfl rfl ?_)
 (refine J.guardSkip rfl rfl rfl rfl ?_)
 (refine J.guardSkip rfl rfl rfl rfl ?_)
 (refine J.guardSkip rfl rfl rfl rfl ?_)
 (refine J.guardSkip rfl rfl rfl rfl ?_)
 (refine J.gN rfl rfl rfl rfl ?_)
 (refine Jx.pT rfl rfl rfl ?_)
 (refine J.nil (N.seq (W.cT rfl ?_)))
 (refine W.seq (W.region (Jx.assign rfl rfl (J.nil (N.seq (W.ret (N.noGotoRet ?_)))))))
 (refine id ?_; rotate_left))
      exact N.retD (rs := [.tmp 4]) (L1 := []) rfl (.tmp rfl .nil) (List.nil_sublist _) ⟨by first | rfl | simp [oneOr], rfl⟩
    have b4 := less_false g4
    have g5n : nx ≠ [] := hn
    by_cases g6 : ltL key nx
    case neg =>
      have b6 := less_false g6
      focus (
 (refine W.cT rfl ?_)
 (refine W.region (Jx.move rfl rfl (Jx.assign rfl rfl (J.nil (N.seq (W.seq (W.seq (W.region (Jx.move rfl rfl (Jx.neqI rfl rfl rfl (Jx.move rfl rfl (J.gY rfl rfl rfl ?_))))))))))))
 (refine Jx.move rfl rfl (J.gY rfl rfl rfl ?_))
 (refine Jx.neqI rfl rfl rfl (Jx.pF rfl rfl rfl ?_))
 (refine Jx.move rfl rfl (J.gY rfl rfl rfl ?_))
 (refine Jx.fieldAddr rfl rfl ?_)
 (refine J.gY rfl rfl rfl ?_)
 (refine Jx.load rfl 0 rfl rfl rfl ?_)
 (refine J.gY rfl rfl rfl ?_)
 (refine Jx.fieldAddr rfl rfl ?_)
 (refine J.gY rfl rfl rfl ?_)
 (refine Jx.load rfl 0 rfl rfl rfl ?_)
 (refine J.gY rfl rfl rfl ?_)
 (refine Jx.lssS rfl rfl rfl ?_; rw [b4])
 (refine Jx.pF rfl rfl rfl ?_)
 (refine Jx.move rfl rfl (J.gY rfl rfl rfl ?_))
 (refine Jx.move rfl rfl (J.gY rfl rfl rfl ?_))
 (refine Jx.neqS rfl rfl rfl (J.gY rfl rfl rfl ?_))
 (refine Jx.move rfl rfl (J.gY rfl rfl rfl ?_))
 (refine Jx.fieldAddr rfl rfl ?_)
 (refine J.gY rfl rfl rfl ?_)
 (refine Jx.load rfl 0 rfl rfl rfl ?_)
 (refine J.gY rfl rfl rfl ?_)
 (refine Jx.move rfl rfl (J.gY rfl rfl rfl ?_))
 (refine Jx.geqS rfl rfl rfl ?_; rw [b6])
 (refine J.gY rfl rfl rfl ?_)
 (refine Jx.pT rfl rfl rfl ?_)
 (refine Jx.pF rfl rfl rfl ?_)
 (refine J.nil (N.seq (W.cT rfl ?_)))
 (refine W.seq (W.region (Jx.assign rfl rfl (J.nil (N.seq (W.ret (N.noGotoRet ?_)))))))
 (refine id ?_; rotate_left))
      exact N.retD (rs := [.tmp 4]) (L1 := []) rfl (.tmp rfl .nil) (List.nil_sublist _) ⟨by first | rfl | simp [oneOr], rfl⟩
    have b6 := less_true g6
    have hin : inR lo nx key := ⟨g4, .inr g6⟩
    rcases hp with hp | ⟨_, hr0, hpn, rfl, hnn⟩ | ⟨_, hr0, hg, rfl, hnn⟩
    · exact absurd rfl hp
    · exact absurd hnn hn
    have hiq : hiN next hi = nx := by rw [← hnn]; exact if_pos hn
    rw [hiq] at hg
    obtain ⟨hk0, hk8, hf, hfd, hpos⟩ := ver_ok hV hr0
    have hag : ¬ clashes (nodes ++ pnodes) → _ := fun h => shown_agree h hin hk0 hk8 hf hg
    focus (
 (refine W.cT rfl ?_)
 (refine W.region (Jx.move rfl rfl (Jx.assign rfl rfl (J.nil (N.seq (W.seq (W.seq (W.region (Jx.move rfl rfl (Jx.neqI rfl rfl rfl (Jx.move rfl rfl (J.gY rfl rfl rfl ?_))))))))))))
 (refine Jx.move rfl rfl (J.gY rfl rfl rfl ?_))
 (refine Jx.neqI rfl rfl rfl (Jx.pF rfl rfl rfl ?_))
 (refine Jx.move rfl rfl (J.gY rfl rfl rfl ?_))
 (refine Jx.fieldAddr rfl rfl ?_)
 (refine J.gY rfl rfl rfl ?_)
 (refine Jx.load rfl 0 rfl rfl rfl ?_)
 (refine J.gY rfl rfl rfl ?_)
 (refine Jx.fieldAddr rfl rfl ?_)
 (refine J.gY rfl rfl rfl ?_)
 (refine Jx.load rfl 0 rfl rfl rfl ?_)
 (refine J.gY rfl rfl rfl ?_)
 (refine Jx.lssS rfl rfl rfl ?_; rw [b4])
 (refine Jx.pF rfl rfl rfl ?_)
 (refine Jx.move rfl rfl (J.gY rfl rfl rfl ?_))
 (refine Jx.move rfl rfl (J.gY rfl rfl rfl ?_))
 (refine Jx.neqS rfl rfl rfl (J.gY rfl rfl rfl ?_))
 (refine Jx.move rfl rfl (J.gY rfl rfl rfl ?_))
 (refine Jx.fieldAddr rfl rfl ?_)
 (refine J.gY rfl rfl rfl ?_)
 (refine Jx.load rfl 0 rfl rfl rfl ?_)
 (refine J.gY rfl rfl rfl ?_)
 (refine Jx.move rfl rfl (J.gY rfl rfl rfl ?_))
 (refine Jx.geqS rfl rfl rfl ?_; rw [b6])
 (refine J.gY rfl rfl rfl ?_)
 (refine Jx.pT rfl rfl rfl ?_)
 (refine Jx.pF rfl rfl rfl ?_)
 (refine J.nil (N.seq (W.cF rfl ?_)))
 (refine W.skip (N.seq (W.seq (W.region (Jx.assign rfl rfl (J.nil (N.seq (W.seq (W.seq (W.region (Jx.move rfl rfl (Jx.lenSl rfl rfl ?_))))))))))))
 (refine Jx.move rfl rfl (J.nil (N.seq (W.block ?_))))
 (refine id ?_; rotate_left))
    refine W.loop (α := Nat × Bool) (fun x => [(94, int (x.1 : Int)), (93, int (items.length : Int)), (92, itl items), (12, Sse.bool x.2), (6, Sse.bool found), (5, str v), (3, ptr p3)]) (fun _ => [.obj p3 27 [str key, str lo, str hi, int most, ssl nodes, itl items, str next, ssl pnodes]]) (fun x => x.1 ≤ items.length ∧ (x.2 = true ↔ ∃ j, j < x.1 ∧ (items.getD j it0).1 = key)) (fun x => items.length - x.1) (0, false) ⟨Nat.zero_le _, by simp⟩ rfl ⟨ref0 rfl, ref0 rfl, ref0 rfl, ref0 rfl, ref0 rfl, ref0 rfl, ref0 rfl, trivial⟩ ?_
    rintro ⟨i, seen⟩ ⟨hi1, hse⟩
    simp only at hi1 hse ⊢
    by_cases h1 : i < items.length
    · have h1' : (i : Int) < (items.length : Int) := by omega
      have e1 : (i : Int) + 1 = ((i + 1 : Nat) : Int) := by omega
      have hym := getD_memT (d := it0) h1
      have hnx := seen_next hse
      obtain ⟨y, hy⟩ : ∃ y, items.getD i it0 = y := ⟨_, rfl⟩
      obtain ⟨yk, yv⟩ := y
      rw [hy] at hym hnx
      simp only at hnx
      by_cases g7 : yk = key
      case neg =>
        focus (
 (refine W.seq (W.region (Jx.lssI rfl rfl rfl (J.nil (N.seq (W.seq (W.cT rfl ?_)))))))
 (refine W.skip (N.seq (W.seq (W.block (W.seq (W.region ?_))))))
 (refine Jx.indexEl rfl rfl h1 rfl rfl ?_; rw [hy])
 (refine Jx.loadPPall rfl rfl rfl ?_)
 (refine J.alloc (d := 14) (by simp only [List.map_cons, List.map_nil]; rfl) rfl rfl ?_; intro p14)
 (refine J.storeAll rfl rfl rfl 0 rfl rfl rfl ?_)
 (refine J.nil (N.seq (W.seq (W.region (Jx.fieldAddr rfl rfl ?_)))))
 (refine Jx.load rfl 0 rfl rfl rfl ?_)
 (refine Jx.fieldAddr rfl rfl ?_)
 (refine Jx.load rfl 1 rfl rfl rfl ?_)
 (refine Jx.eqlS rfl rfl rfl (J.nil (N.seq (W.cF rfl ?_))))
 (refine W.skip (N.seq (W.region ?_)))
 (refine Jx.add64 rfl rfl (by omega) rfl ?_; rw [e1])
 (refine Jx.move rfl rfl (J.nil ?_))
 (refine id ?_; rotate_left))
        refine N.drop (List.sublist_cons_self _ _) ?_
        exact N.round (i + 1, seen) ⟨h1, hnx.2 g7⟩ (by simp only; omega) rfl ⟨ref0 rfl, ref0 rfl, ref0 rfl, ref0 rfl, ref0 rfl, ref0 rfl, ref0 rfl, trivial⟩
      cases hfq : found with
      | false =>
        have hcl : clashes (nodes ++ pnodes) := Classical.byContradiction fun h => by
          have := ((hag h).2 _ hym g7).1
          rw [hfq] at hfd
          exact of_decide_eq_false hfd.symm this
        subst hfq
        focus (
 (refine W.seq (W.region (Jx.lssI rfl rfl rfl (J.nil (N.seq (W.seq (W.cT rfl ?_)))))))
 (refine W.skip (N.seq (W.seq (W.block (W.seq (W.region ?_))))))
 (refine Jx.indexEl rfl rfl h1 rfl rfl ?_; rw [hy])
 (refine Jx.loadPPall rfl rfl rfl ?_)
 (refine J.alloc (d := 14) (by simp only [List.map_cons, List.map_nil]; rfl) rfl rfl ?_; intro p14)
 (refine J.storeAll rfl rfl rfl 0 rfl rfl rfl ?_)
 (refine J.nil (N.seq (W.seq (W.region (Jx.fieldAddr rfl rfl ?_)))))
 (refine Jx.load rfl 0 rfl rfl rfl ?_)
 (refine Jx.fieldAddr rfl rfl ?_)
 (refine Jx.load rfl 1 rfl rfl rfl ?_)
 (refine Jx.eqlS rfl rfl rfl (J.nil (N.seq (W.cT rfl ?_))))
 (refine W.seq (W.region (Jx.assign rfl rfl (J.nil (N.seq (W.seq (W.region (Jx.move rfl rfl (Jx.not rfl rfl (Jx.move rfl rfl (J.gN rfl rfl rfl rfl ?_)))))))))))
 (refine J.gN rfl rfl rfl rfl ?_)
 (refine J.gN rfl rfl rfl rfl ?_)
 (refine J.gN rfl rfl rfl rfl ?_)
 (refine Jx.pT rfl rfl rfl ?_)
 (refine J.nil (N.seq (W.cT rfl ?_)))
 (refine W.seq ?_)
 (refine W.draw follows ?_)
 (refine JD.begin 10 rfl ?_; refine JP.more [0, 1, 2, 4, 5, 6] _ rfl (by decide +kernel) ?_)
 (refine SegC.q (Qs.buildNone (elOf encS [] [])) rfl ?_)
 (refine Cx.fieldAddr rfl rfl ?_)
 (refine Cx.load rfl 1 rfl rfl rfl ?_)
 (refine Cx.fieldAddr rfl rfl ?_)
 (refine Cx.fieldAddr rfl rfl ?_)
 (refine Cx.load rfl 1 rfl rfl rfl ?_)
 (refine SegC.nil ?_)
 (focus (refine JP.appendZ (idx := [0, 1, 2, 4, 5, 6]) (m2 := nodes) (enc := encS) (dd := []) 3 [111, 113] [0, 1, 2, 3] [4, 5, 6] (by decide +kernel) rfl ?_ rfl (SrcOK.sl rfl) rfl rfl hmx1 hpos rfl ?_; rotate_left); intro u1 hu1)
 (focus (refine JP.append (idx := [4, 5, 6]) (m := nodes) (m2 := pnodes) (enc := encS) (dd := []) 7 [114, 117] [0, 1, 2, 3, 4, 5, 6, 7] [] (by decide +kernel) rfl ?_ rfl (SrcOK.sl rfl) rfl rfl hmx2 rfl ?_; rotate_left); intro u2 hu2; refine JP.freeze 118 rfl (by decide +kernel) hmx3 ?_)
 (refine JP.tail (idx := []) 8 (by decide +kernel) (by decide +kernel) rfl rfl ?_ ?_)
 (refine SegC.nil ?_)
 (refine Ag.nil)
 (refine J.call (Lc := []) cU rfl (evs_args rfl) rfl ?_; rintro _ _ ⟨⟨q, rfl, hq⟩, rfl⟩; obtain rfl := hq hcl; rw [List.nil_append])
 (refine Jx.assign rfl rfl (J.nil (N.seq (W.ret (N.noGotoRet (N.noGotoRet (N.noGotoRet (N.noGotoRet (N.noGotoRet ?_)))))))))
 (refine id ?_; rotate_left)
 (refine Cx.fieldAddr rfl rfl ?_)
 (refine Cx.fieldAddr rfl rfl ?_)
 (refine Cx.load rfl 2 rfl rfl rfl ?_)
 (refine SegC.nil ?_)
 (refine Ag.cons rfl ?_)
 (refine Ag.cons rfl ?_)
 (refine Ag.cons rfl ?_)
 (refine Ag.nil)
 (refine SegC.q (Qs.buildNone (elOf encS [] [])) rfl ?_)
 (refine Cx.fieldAddr rfl rfl ?_)
 (refine Cx.load rfl 1 rfl rfl rfl ?_)
 (refine Cx.fieldAddr rfl rfl ?_)
 (refine Cx.fieldAddr rfl rfl ?_)
 (refine Cx.load rfl 1 rfl rfl rfl ?_)
 (refine SegC.nil ?_)
 (refine Ag.cons rfl ?_)
 (refine Ag.cons rfl ?_)
 (refine Ag.cons rfl ?_)
 (refine Ag.cons rfl ?_)
 (refine Ag.cons rfl ?_)
 (refine Ag.cons rfl ?_)
 (refine Ag.nil))
        exact N.retD (rs := [.tmp 4]) (L1 := []) rfl (.tmp rfl .nil) (List.nil_sublist _) ⟨by first | rfl | simp [oneOr], rfl⟩
      | true =>
        subst hfq
        by_cases g8 : yv = v
        · have g8n : ¬ (yv ≠ v) := fun h => h g8
          focus (
 (refine W.seq (W.region (Jx.lssI rfl rfl rfl (J.nil (N.seq (W.seq (W.cT rfl ?_)))))))
 (refine W.skip (N.seq (W.seq (W.block (W.seq (W.region ?_))))))
 (refine Jx.indexEl rfl rfl h1 rfl rfl ?_; rw [hy])
 (refine Jx.loadPPall rfl rfl rfl ?_)
 (refine J.alloc (d := 14) (by simp only [List.map_cons, List.map_nil]; rfl) rfl rfl ?_; intro p14)
 (refine J.storeAll rfl rfl rfl 0 rfl rfl rfl ?_)
 (refine J.nil (N.seq (W.seq (W.region (Jx.fieldAddr rfl rfl ?_)))))
 (refine Jx.load rfl 0 rfl rfl rfl ?_)
 (refine Jx.fieldAddr rfl rfl ?_)
 (refine Jx.load rfl 1 rfl rfl rfl ?_)
 (refine Jx.eqlS rfl rfl rfl (J.nil (N.seq (W.cT rfl ?_))))
 (refine W.seq (W.region (Jx.assign rfl rfl (J.nil (N.seq (W.seq (W.region (Jx.move rfl rfl (Jx.not rfl rfl (Jx.move rfl rfl (J.gY rfl rfl rfl ?_)))))))))))
 (refine Jx.fieldAddr rfl rfl ?_)
 (refine J.gY rfl rfl rfl ?_)
 (refine Jx.load rfl 0 rfl rfl rfl ?_)
 (refine J.gY rfl rfl rfl ?_)
 (refine Jx.move rfl rfl (J.gY rfl rfl rfl ?_))
 (refine Jx.neqS rfl rfl rfl (Jx.pF rfl rfl rfl ?_))
 (refine J.nil (N.seq (W.cF rfl ?_)))
 (refine W.skip (N.seq (W.region ?_)))
 (refine Jx.add64 rfl rfl (by omega) rfl ?_; rw [e1])
 (refine Jx.move rfl rfl (J.nil ?_))
 (refine id ?_; rotate_left))
          refine N.drop (List.sublist_cons_self _ _) ?_
          exact N.round (i + 1, true) ⟨h1, by simp only [true_iff]; exact hnx.1 g7⟩ (by simp only; omega) rfl ⟨ref0 rfl, ref0 rfl, ref0 rfl, ref0 rfl, ref0 rfl, ref0 rfl, ref0 rfl, trivial⟩
        · have g8n : yv ≠ v := g8
          have hcl : clashes (nodes ++ pnodes) := Classical.byContradiction fun h => g8 ((hag h).2 _ hym g7).2
          focus (
 (refine W.seq (W.region (Jx.lssI rfl rfl rfl (J.nil (N.seq (W.seq (W.cT rfl ?_)))))))
 (refine W.skip (N.seq (W.seq (W.block (W.seq (W.region ?_))))))
 (refine Jx.indexEl rfl rfl h1 rfl rfl ?_; rw [hy])
 (refine Jx.loadPPall rfl rfl rfl ?_)
 (refine J.alloc (d := 14) (by simp only [List.map_cons, List.map_nil]; rfl) rfl rfl ?_; intro p14)
 (refine J.storeAll rfl rfl rfl 0 rfl rfl rfl ?_)
 (refine J.nil (N.seq (W.seq (W.region (Jx.fieldAddr rfl rfl ?_)))))
 (refine Jx.load rfl 0 rfl rfl rfl ?_)
 (refine Jx.fieldAddr rfl rfl ?_)
 (refine Jx.load rfl 1 rfl rfl rfl ?_)
 (refine Jx.eqlS rfl rfl rfl (J.nil (N.seq (W.cT rfl ?_))))
 (refine W.seq (W.region (Jx.assign rfl rfl (J.nil (N.seq (W.seq (W.region (Jx.move rfl rfl (Jx.not rfl rfl (Jx.move rfl rfl (J.gY rfl rfl rfl ?_)))))))))))
 (refine Jx.fieldAddr rfl rfl ?_)
 (refine J.gY rfl rfl rfl ?_)
 (refine Jx.load rfl 0 rfl rfl rfl ?_)
 (refine J.gY rfl rfl rfl ?_)
 (refine Jx.move rfl rfl (J.gY rfl rfl rfl ?_))
 (refine Jx.neqS rfl rfl rfl (Jx.pF rfl rfl rfl ?_))
 (refine J.nil (N.seq (W.cT rfl ?_)))
 (refine W.seq ?_)
 (refine W.draw follows ?_)
 (refine JD.begin 10 rfl ?_; refine JP.more [0, 1, 2, 4, 5, 6] _ rfl (by decide +kernel) ?_)
 (refine SegC.q (Qs.buildNone (elOf encS [] [])) rfl ?_)
 (refine Cx.fieldAddr rfl rfl ?_)
 (refine Cx.load rfl 1 rfl rfl rfl ?_)
 (refine Cx.fieldAddr rfl rfl ?_)
 (refine Cx.fieldAddr rfl rfl ?_)
 (refine Cx.load rfl 1 rfl rfl rfl ?_)
 (refine SegC.nil ?_)
 (focus (refine JP.appendZ (idx := [0, 1, 2, 4, 5, 6]) (m2 := nodes) (enc := encS) (dd := []) 3 [111, 113] [0, 1, 2, 3] [4, 5, 6] (by decide +kernel) rfl ?_ rfl (SrcOK.sl rfl) rfl rfl hmx1 hpos rfl ?_; rotate_left); intro u1 hu1)
 (focus (refine JP.append (idx := [4, 5, 6]) (m := nodes) (m2 := pnodes) (enc := encS) (dd := []) 7 [114, 117] [0, 1, 2, 3, 4, 5, 6, 7] [] (by decide +kernel) rfl ?_ rfl (SrcOK.sl rfl) rfl rfl hmx2 rfl ?_; rotate_left); intro u2 hu2; refine JP.freeze 118 rfl (by decide +kernel) hmx3 ?_)
 (refine JP.tail (idx := []) 8 (by decide +kernel) (by decide +kernel) rfl rfl ?_ ?_)
 (refine SegC.nil ?_)
 (refine Ag.nil)
 (refine J.call (Lc := []) cU rfl (evs_args rfl) rfl ?_; rintro _ _ ⟨⟨q, rfl, hq⟩, rfl⟩; obtain rfl := hq hcl; rw [List.nil_append])
 (refine Jx.assign rfl rfl (J.nil (N.seq (W.ret (N.noGotoRet (N.noGotoRet (N.noGotoRet (N.noGotoRet (N.noGotoRet ?_)))))))))
 (refine id ?_; rotate_left)
 (refine Cx.fieldAddr rfl rfl ?_)
 (refine Cx.fieldAddr rfl rfl ?_)
 (refine Cx.load rfl 2 rfl rfl rfl ?_)
 (refine SegC.nil ?_)
 (refine Ag.cons rfl ?_)
 (refine Ag.cons rfl ?_)
 (refine Ag.cons rfl ?_)
 (refine Ag.nil)
 (refine SegC.q (Qs.buildNone (elOf encS [] [])) rfl ?_)
 (refine Cx.fieldAddr rfl rfl ?_)
 (refine Cx.load rfl 1 rfl rfl rfl ?_)
 (refine Cx.fieldAddr rfl rfl ?_)
 (refine Cx.fieldAddr rfl rfl ?_)
 (refine Cx.load rfl 1 rfl rfl rfl ?_)
 (refine SegC.nil ?_)
 (refine Ag.cons rfl ?_)
 (refine Ag.cons rfl ?_)
 (refine Ag.cons rfl ?_)
 (refine Ag.cons rfl ?_)
 (refine Ag.cons rfl ?_)
 (refine Ag.cons rfl ?_)
 (refine Ag.nil))
          exact N.retD (rs := [.tmp 4]) (L1 := []) rfl (.tmp rfl .nil) (List.nil_sublist _) ⟨by first | rfl | simp [oneOr], rfl⟩
    · have h1' : ¬ (i : Int) < (items.length : Int) := by omega
      obtain rfl : i = items.length := by omega
      have hend := fun h => seen_end hse hfd (hag h)
      cases seen with
      | false =>
        cases hfq : found with
        | false =>
          subst hfq
          focus (
 (refine W.seq (W.region (Jx.lssI rfl rfl rfl (J.nil (N.seq (W.seq (W.cF rfl ?_)))))))
 (refine W.exit (N.seq (W.seq ?_)))
 (refine W.draw follows ?_)
 (refine JD.calm rfl (by decide +kernel) ?_)
 (refine Cx.move rfl rfl ?_)
 (refine Cx.move rfl rfl ?_)
 (refine Cx.eqlB rfl rfl rfl ?_)
 (refine Cx.move rfl rfl ?_)
 (refine SegC.gU rfl rfl rfl rfl ?_)
 (refine SegC.gU rfl rfl rfl rfl ?_)
 (refine SegC.gU rfl rfl rfl rfl ?_)
 (refine SegC.gU rfl rfl rfl rfl ?_)
 (refine SegC.gU rfl rfl rfl rfl ?_)
 (refine SegC.gU rfl rfl rfl rfl ?_)
 (refine SegC.gU rfl rfl rfl rfl ?_)
 (refine SegC.gU rfl rfl rfl rfl ?_)
 (refine SegC.gU rfl rfl rfl rfl ?_)
 (refine Cx.pickT rfl (by first | rfl | assumption | (exact decide_eq_true (by first | assumption | omega | rfl)) | (exact decide_eq_false (by first | assumption | omega | rfl)) | (simp; done) | (simp; omega)) rfl rfl ?_)
 (refine Cx.assign rfl rfl ?_)
 (refine SegC.nil ?_)
 (refine N.seq (W.ret ?_))
 (refine id ?_; rotate_left))
          exact N.retD (rs := [.tmp 4]) (L1 := []) rfl (.tmp rfl .nil) (List.nil_sublist _) ⟨by first | rfl | simp [oneOr], rfl⟩
        | true =>
          subst hfq
          have hcl : clashes (nodes ++ pnodes) := Classical.byContradiction fun h => by have := hend h; cases this
          focus (
 (refine W.seq (W.region (Jx.lssI rfl rfl rfl (J.nil (N.seq (W.seq (W.cF rfl ?_)))))))
 (refine W.exit (N.seq (W.seq ?_)))
 (refine W.draw follows ?_)
 (refine JD.begin 15 rfl ?_; refine JP.more [0, 1, 2, 3, 4, 5, 6, 8, 9, 10] _ rfl (by decide +kernel) ?_)
 (refine Cx.move rfl rfl ?_)
 (refine Cx.move rfl rfl ?_)
 (refine Cx.eqlB rfl rfl rfl ?_)
 (refine Cx.move rfl rfl ?_)
 (refine SegC.gY rfl rfl rfl ?_)
 (refine SegC.q (Qs.buildNone (elOf encS [] [])) rfl ?_)
 (refine SegC.gY rfl rfl rfl ?_)
 (refine Cx.fieldAddr rfl rfl ?_)
 (refine SegC.gY rfl rfl rfl ?_)
 (refine Cx.load rfl 0 rfl rfl rfl ?_)
 (refine SegC.gY rfl rfl rfl ?_)
 (refine Cx.fieldAddr rfl rfl ?_)
 (refine SegC.gY rfl rfl rfl ?_)
 (refine Cx.fieldAddr rfl rfl ?_)
 (refine SegC.gY rfl rfl rfl ?_)
 (refine Cx.load rfl 0 rfl rfl rfl ?_)
 (refine SegC.nil ?_)
 (focus (refine JP.appendZG (idx := [0, 1, 2, 3, 4, 5, 6, 8, 9, 10]) (m2 := nodes) (enc := encS) (dd := []) (gd := 124) 7 [125, 127, 124] [0, 1, 2, 3, 4, 5, 6, 7] [8, 9, 10] (by decide +kernel) rfl rfl rfl rfl ?_ rfl (SrcOK.sl rfl) rfl rfl hmx1 hpos rfl ?_; rotate_left); intro u1 hu1)
 (focus (refine JP.appendG (idx := [8, 9, 10]) (m := nodes) (m2 := pnodes) (enc := encS) (dd := []) (gd := 124) 11 [128, 131, 124] [0, 1, 2, 3, 4, 5, 6, 7, 8, 9, 10, 11] [] (by decide +kernel) rfl rfl rfl rfl ?_ rfl (SrcOK.sl rfl) rfl rfl hmx2 rfl ?_; rotate_left); intro u2 hu2; refine JP.freeze 132 rfl (by decide +kernel) hmx3 ?_)
 (refine JP.tail (idx := []) 12 (by decide +kernel) (by decide +kernel) rfl rfl ?_ ?_)
 (refine SegC.nil ?_)
 (refine Ag.nil)
 (refine J.gY rfl rfl rfl ?_)
 (refine J.call (Lc := []) cU rfl (evs_args rfl) rfl ?_; rintro _ _ ⟨⟨q, rfl, hq⟩, rfl⟩; obtain rfl := hq hcl; rw [List.nil_append])
 (refine Jx.pF rfl rfl rfl ?_)
 (refine Jx.assign rfl rfl (J.nil (N.seq (W.ret ?_))))
 (refine id ?_; rotate_left)
 (refine SegC.gY rfl rfl rfl ?_)
 (refine Cx.fieldAddr rfl rfl ?_)
 (refine SegC.gY rfl rfl rfl ?_)
 (refine Cx.fieldAddr rfl rfl ?_)
 (refine SegC.gY rfl rfl rfl ?_)
 (refine Cx.load rfl 1 rfl rfl rfl ?_)
 (refine SegC.nil ?_)
 (refine Ag.cons rfl ?_)
 (refine Ag.cons rfl ?_)
 (refine Ag.cons rfl ?_)
 (refine Ag.nil)
 (refine Cx.move rfl rfl ?_)
 (refine Cx.move rfl rfl ?_)
 (refine Cx.eqlB rfl rfl rfl ?_)
 (refine Cx.move rfl rfl ?_)
 (refine SegC.gY rfl rfl rfl ?_)
 (refine SegC.q (Qs.buildNone (elOf encS [] [])) rfl ?_)
 (refine SegC.gY rfl rfl rfl ?_)
 (refine Cx.fieldAddr rfl rfl ?_)
 (refine SegC.gY rfl rfl rfl ?_)
 (refine Cx.load rfl 0 rfl rfl rfl ?_)
 (refine SegC.gY rfl rfl rfl ?_)
 (refine Cx.fieldAddr rfl rfl ?_)
 (refine SegC.gY rfl rfl rfl ?_)
 (refine Cx.fieldAddr rfl rfl ?_)
 (refine SegC.gY rfl rfl rfl ?_)
 (refine Cx.load rfl 0 rfl rfl rfl ?_)
 (refine SegC.nil ?_)
 (refine Ag.cons rfl ?_)
 (refine Ag.cons rfl ?_)
 (refine Ag.cons rfl ?_)
 (refine Ag.cons rfl ?_)
 (refine Ag.cons rfl ?_)
 (refine Ag.cons rfl ?_)
 (refine Ag.cons rfl ?_)
 (refine Ag.cons rfl ?_)
 (refine Ag.cons rfl ?_)
 (refine Ag.cons rfl ?_)
 (refine Ag.nil))
          exact N.retD (rs := [.tmp 4]) (L1 := []) rfl (.tmp rfl .nil) (List.nil_sublist _) ⟨by first | rfl | simp [oneOr], rfl⟩
      | true =>
        cases hfq : found with
        | true =>
          subst hfq
          focus (
 (refine W.seq (W.region (Jx.lssI rfl rfl rfl (J.nil (N.seq (W.seq (W.cF rfl ?_)))))))
 (refine W.exit (N.seq (W.seq ?_)))
 (refine W.draw follows ?_)
 (refine JD.calm rfl (by decide +kernel) ?_)
 (refine Cx.move rfl rfl ?_)
 (refine Cx.move rfl rfl ?_)
 (refine Cx.eqlB rfl rfl rfl ?_)
 (refine Cx.move rfl rfl ?_)
 (refine SegC.gU rfl rfl rfl rfl ?_)
 (refine SegC.gU rfl rfl rfl rfl ?_)
 (refine SegC.gU rfl rfl rfl rfl ?_)
 (refine SegC.gU rfl rfl rfl rfl ?_)
 (refine SegC.gU rfl rfl rfl rfl ?_)
 (refine SegC.gU rfl rfl rfl rfl ?_)
 (refine SegC.gU rfl rfl rfl rfl ?_)
 (refine SegC.gU rfl rfl rfl rfl ?_)
 (refine SegC.gU rfl rfl rfl rfl ?_)
 (refine Cx.pickT rfl (by first | rfl | assumption | (exact decide_eq_true (by first | assumption | omega | rfl)) | (exact decide_eq_false (by first | assumption | omega | rfl)) | (simp; done) | (simp; omega)) rfl rfl ?_)
 (refine Cx.assign rfl rfl ?_)
 (refine SegC.nil ?_)
 (refine N.seq (W.ret ?_))
 (refine id ?_; rotate_left))
          exact N.retD (rs := [.tmp 4]) (L1 := []) rfl (.tmp rfl .nil) (List.nil_sublist _) ⟨by first | rfl | simp [oneOr], rfl⟩
        | false =>
          subst hfq
          have hcl : clashes (nodes ++ pnodes) := Classical.byContradiction fun h => by have := hend h; cases this
          focus (
 (refine W.seq (W.region (Jx.lssI rfl rfl rfl (J.nil (N.seq (W.seq (W.cF rfl ?_)))))))
 (refine W.exit (N.seq (W.seq ?_)))
 (refine W.draw follows ?_)
 (refine JD.begin 15 rfl ?_; refine JP.more [0, 1, 2, 3, 4, 5, 6, 8, 9, 10] _ rfl (by decide +kernel) ?_)
 (refine Cx.move rfl rfl ?_)
 (refine Cx.move rfl rfl ?_)
 (refine Cx.eqlB rfl rfl rfl ?_)
 (refine Cx.move rfl rfl ?_)
 (refine SegC.gY rfl rfl rfl ?_)
 (refine SegC.q (Qs.buildNone (elOf encS [] [])) rfl ?_)
 (refine SegC.gY rfl rfl rfl ?_)
 (refine Cx.fieldAddr rfl rfl ?_)
 (refine SegC.gY rfl rfl rfl ?_)
 (refine Cx.load rfl 0 rfl rfl rfl ?_)
 (refine SegC.gY rfl rfl rfl ?_)
 (refine Cx.fieldAddr rfl rfl ?_)
 (refine SegC.gY rfl rfl rfl ?_)
 (refine Cx.fieldAddr rfl rfl ?_)
 (refine SegC.gY rfl rfl rfl ?_)
 (refine Cx.load rfl 0 rfl rfl rfl ?_)
 (refine SegC.nil ?_)
 (focus (refine JP.appendZG (idx := [0, 1, 2, 3, 4, 5, 6, 8, 9, 10]) (m2 := nodes) (enc := encS) (dd := []) (gd := 124) 7 [125, 127, 124] [0, 1, 2, 3, 4, 5, 6, 7] [8, 9, 10] (by decide +kernel) rfl rfl rfl rfl ?_ rfl (SrcOK.sl rfl) rfl rfl hmx1 hpos rfl ?_; rotate_left); intro u1 hu1)
 (focus (refine JP.appendG (idx := [8, 9, 10]) (m := nodes) (m2 := pnodes) (enc := encS) (dd := []) (gd := 124) 11 [128, 131, 124] [0, 1, 2, 3, 4, 5, 6, 7, 8, 9, 10, 11] [] (by decide +kernel) rfl rfl rfl rfl ?_ rfl (SrcOK.sl rfl) rfl rfl hmx2 rfl ?_; rotate_left); intro u2 hu2; refine JP.freeze 132 rfl (by decide +kernel) hmx3 ?_)
 (refine JP.tail (idx := []) 12 (by decide +kernel) (by decide +kernel) rfl rfl ?_ ?_)
 (refine SegC.nil ?_)
 (refine Ag.nil)
 (refine J.gY rfl rfl rfl ?_)
 (refine J.call (Lc := []) cU rfl (evs_args rfl) rfl ?_; rintro _ _ ⟨⟨q, rfl, hq⟩, rfl⟩; obtain rfl := hq hcl; rw [List.nil_append])
 (refine Jx.pF rfl rfl rfl ?_)
 (refine Jx.assign rfl rfl (J.nil (N.seq (W.ret ?_))))
 (refine id ?_; rotate_left)
 (refine SegC.gY rfl rfl rfl ?_)
 (refine Cx.fieldAddr rfl rfl ?_)
 (refine SegC.gY rfl rfl rfl ?_)
 (refine Cx.fieldAddr rfl rfl ?_)
 (refine SegC.gY rfl rfl rfl ?_)
 (refine Cx.load rfl 1 rfl rfl rfl ?_)
 (refine SegC.nil ?_)
 (refine Ag.cons rfl ?_)
 (refine Ag.cons rfl ?_)
 (refine Ag.cons rfl ?_)
 (refine Ag.nil)
 (refine Cx.move rfl rfl ?_)
 (refine Cx.move rfl rfl ?_)
 (refine Cx.eqlB rfl rfl rfl ?_)
 (refine Cx.move rfl rfl ?_)
 (refine SegC.gY rfl rfl rfl ?_)
 (refine SegC.q (Qs.buildNone (elOf encS [] [])) rfl ?_)
 (refine SegC.gY rfl rfl rfl ?_)
 (refine Cx.fieldAddr rfl rfl ?_)
 (refine SegC.gY rfl rfl rfl ?_)
 (refine Cx.load rfl 0 rfl rfl rfl ?_)
 (refine SegC.gY rfl rfl rfl ?_)
 (refine Cx.fieldAddr rfl rfl ?_)
 (refine SegC.gY rfl rfl rfl ?_)
 (refine Cx.fieldAddr rfl rfl ?_)
 (refine SegC.gY rfl rfl rfl ?_)
 (refine Cx.load rfl 0 rfl rfl rfl ?_)
 (refine SegC.nil ?_)
 (refine Ag.cons rfl ?_)
 (refine Ag.cons rfl ?_)
 (refine Ag.cons rfl ?_)
 (refine Ag.cons rfl ?_)
 (refine Ag.cons rfl ?_)
 (refine Ag.cons rfl ?_)
 (refine Ag.cons rfl ?_)
 (refine Ag.cons rfl ?_)
 (refine Ag.cons rfl ?_)
 (refine Ag.cons rfl ?_)
 (refine Ag.nil))
          exact N.retD (rs := [.tmp 4]) (L1 := []) rfl (.tmp rfl .nil) (List.nil_sublist _) ⟨by first | rfl | simp [oneOr], rfl⟩
  have hn := Classical.not_not.1 hn
  subst hn
  have hn : ([] : Bs) = [] := rfl
  by_cases he1 : e1 = 0
  case neg =>
    have he1n : e1 ≠ 0 := he1
    focus (
 (refine W.cF rfl ?_)
 (refine W.skip (N.seq (W.seq (W.seq (W.region (Jx.move rfl rfl (Jx.neqI rfl rfl rfl (Jx.move rfl rfl (J.gN rfl rfl rfl rfl ?_)))))))))
 (refine J.gN rfl rfl rfl rfl ?_)
 (refine Jx.pT rfl rfl rfl ?_)
 (refine Jx.move rfl rfl (J.gN rfl rfl rfl rfl ?_))
 (refine J.gN rfl rfl rfl rfl ?_)
 (refine J.gN rfl rfl rfl rfl ?_)
 (refine J.gN rfl rfl rfl rfl ?_)
 (refine J.gN rfl rfl rfl rfl ?_)
 (refine Jx.pT rfl rfl rfl ?_)
 (refine Jx.move rfl rfl (J.gN rfl rfl rfl rfl ?_))
 (refine J.gN rfl rfl rfl rfl ?_)
 (refine J.gN rfl rfl rfl rfl ?_)
 (refine J.guardSkip rfl rfl rfl rfl ?_)
 (refine J.guardSkip rfl rfl rfl rfl ?_)
 (refine J.guardSkip rfl rfl rfl rfl ?_)
 (refine J.guardSkip rfl rfl rfl rfl ?_)
 (refine J.gN rfl rfl rfl rfl ?_)
 (refine Jx.pT rfl rfl rfl ?_)
 (refine J.nil (N.seq (W.cT rfl ?_)))
 (refine W.seq (W.region (Jx.assign rfl rfl (J.nil (N.seq (W.ret (N.noGotoRet ?_)))))))
 (refine id ?_; rotate_left))
    exact N.retD (rs := [.tmp 4]) (L1 := []) rfl (.tmp rfl .nil) (List.nil_sublist _) ⟨by first | rfl | simp [oneOr], rfl⟩
  subst he1
  by_cases he2 : e2 = 0
  case neg =>
    have he2n : e2 ≠ 0 := he2
    focus (
 (refine W.cF rfl ?_)
 (refine W.skip (N.seq (W.seq (W.seq (W.region (Jx.move rfl rfl (Jx.neqI rfl rfl rfl (Jx.move rfl rfl (J.gY rfl rfl rfl ?_)))))))))
 (refine Jx.move rfl rfl (J.gY rfl rfl rfl ?_))
 (refine Jx.neqI rfl rfl rfl (Jx.pF rfl rfl rfl ?_))
 (refine Jx.move rfl rfl (J.gN rfl rfl rfl rfl ?_))
 (refine J.gN rfl rfl rfl rfl ?_)
 (refine J.gN rfl rfl rfl rfl ?_)
 (refine J.gN rfl rfl rfl rfl ?_)
 (refine J.gN rfl rfl rfl rfl ?_)
 (refine Jx.pT rfl rfl rfl ?_)
 (refine Jx.move rfl rfl (J.gN rfl rfl rfl rfl ?_))
 (refine J.gN rfl rfl rfl rfl ?_)
 (refine J.gN rfl rfl rfl rfl ?_)
 (refine J.guardSkip rfl rfl rfl rfl ?_)
 (refine J.guardSkip rfl rfl rfl rfl ?_)
 (refine J.guardSkip rfl rfl rfl rfl ?_)
 (refine J.guardSkip rfl rfl rfl rfl ?_)
 (refine J.gN rfl rfl rfl rfl ?_)
 (refine Jx.pT rfl rfl rfl ?_)
 (refine J.nil (N.seq (W.cT rfl ?_)))
 (refine W.seq (W.region (Jx.assign rfl rfl (J.nil (N.seq (W.ret (N.noGotoRet ?_)))))))
 (refine id ?_; rotate_left))
    exact N.retD (rs := [.tmp 4]) (L1 := []) rfl (.tmp rfl .nil) (List.nil_sublist _) ⟨by first | rfl | simp [oneOr], rfl⟩
  subst he2
  by_cases g4 : ltL key lo
  · have b4 := less_true g4
    focus (
 (refine W.cF rfl ?_)
 (refine W.skip (N.seq (W.seq (W.seq (W.region (Jx.move rfl rfl (Jx.neqI rfl rfl rfl (Jx.move rfl rfl (J.gY rfl rfl rfl ?_)))))))))
 (refine Jx.move rfl rfl (J.gY rfl rfl rfl ?_))
 (refine Jx.neqI rfl rfl rfl (Jx.pF rfl rfl rfl ?_))
 (refine Jx.move rfl rfl (J.gY rfl rfl rfl ?_))
 (refine Jx.fieldAddr rfl rfl ?_)
 (refine J.gY rfl rfl rfl ?_)
 (refine Jx.load rfl 0 rfl rfl rfl ?_)
 (refine J.gY rfl rfl rfl ?_)
 (refine Jx.fieldAddr rfl rfl ?_)
 (refine J.gY rfl rfl rfl ?_)
 (refine Jx.load rfl 0 rfl rfl rfl ?_)
 (refine J.gY rfl rfl rfl ?_)
 (refine Jx.lssS rfl rfl rfl ?_; rw [b4])
 (refine Jx.pF rfl rfl rfl ?_)
 (refine Jx.move rfl rfl (J.gN rfl rfl rfl rfl ?_))
 (refine J.gN rfl rfl rfl rfl ?_)
 (refine J.gN rfl rfl rfl rfl ?_)
 (refine J.guardSkip rfl rfl rfl rfl ?_)
 (refine J.guardSkip rfl rfl rfl rfl ?_)
 (refine J.guardSkip rfl rfl rfl rfl ?_)
 (refine J.guardSkip rfl rfl rfl rfl ?_)
 (refine J.gN rfl rfl rfl rfl ?_)
 (refine Jx.pT rfl rfl rfl ?_)
 (refine J.nil (N.seq (W.cT rfl ?_)))
 (refine W.seq (W.region (Jx.assign rfl rfl (J.nil (N.seq (W.ret (N.noGotoRet ?_)))))))
 (refine id ?_; rotate_left))
    exact N.retD (rs := [.tmp 4]) (L1 := []) rfl (.tmp rfl .nil) (List.nil_sublist _) ⟨by first | rfl | simp [oneOr], rfl⟩
  have b4 := less_false g4
  by_cases g5 : hi = []
  · have g5n : ¬ (hi ≠ []) := fun h => h g5
    have hin : inR lo hi key := ⟨g4, .inl g5⟩
    rcases hp with hp | ⟨_, hr0, hpn, rfl, _⟩ | ⟨_, hr0, hg, rfl, hnn⟩
    · exact absurd rfl hp
    · have hfd : found = false := ver_nil hV hr0
      subst hfd
      refine W.rowNil tIt 2 (elOf itC it0 []) ?_
      refine W.freezeAt 0 8 rfl rfl (by decide) ?_
      focus (
 (refine W.cF rfl ?_)
 (refine W.skip (N.seq (W.seq (W.seq (W.region (Jx.move rfl rfl (Jx.neqI rfl rfl rfl (Jx.move rfl rfl (J.gY rfl rfl rfl ?_)))))))))
 (refine Jx.move rfl rfl (J.gY rfl rfl rfl ?_))
 (refine Jx.neqI rfl rfl rfl (Jx.pF rfl rfl rfl ?_))
 (refine Jx.move rfl rfl (J.gY rfl rfl rfl ?_))
 (refine Jx.fieldAddr rfl rfl ?_)
 (refine J.gY rfl rfl rfl ?_)
 (refine Jx.load rfl 0 rfl rfl rfl ?_)
 (refine J.gY rfl rfl rfl ?_)
 (refine Jx.fieldAddr rfl rfl ?_)
 (refine J.gY rfl rfl rfl ?_)
 (refine Jx.load rfl 0 rfl rfl rfl ?_)
 (refine J.gY rfl rfl rfl ?_)
 (refine Jx.lssS rfl rfl rfl ?_; rw [b4])
 (refine Jx.pF rfl rfl rfl ?_)
 (refine Jx.move rfl rfl (J.gY rfl rfl rfl ?_))
 (refine Jx.move rfl rfl (J.gY rfl rfl rfl ?_))
 (refine Jx.neqS rfl rfl rfl (J.gY rfl rfl rfl ?_))
 (refine Jx.move rfl rfl (J.gN rfl rfl rfl rfl ?_))
 (refine J.gN rfl rfl rfl rfl ?_)
 (refine J.gN rfl rfl rfl rfl ?_)
 (refine J.gN rfl rfl rfl rfl ?_)
 (refine J.gY rfl rfl rfl ?_)
 (refine Jx.pF rfl rfl rfl ?_)
 (refine Jx.pF rfl rfl rfl ?_)
 (refine J.nil (N.seq (W.cF rfl ?_)))
 (refine W.skip (N.seq (W.seq (W.region (Jx.assign rfl rfl (J.nil (N.seq (W.seq (W.seq (W.region (Jx.move rfl rfl (Jx.lenSl rfl rfl ?_))))))))))))
 (refine Jx.move rfl rfl (J.nil (N.seq (W.block ?_))))
 (refine id ?_; rotate_left))
      refine W.loop (α := Unit) (fun _ => [(94, int 0), (93, int 0), (92, itl []), (12, Sse.bool false), (6, Sse.bool false), (3, ptr p3)]) (fun _ => [.obj p3 27 [str key, str lo, str hi, int most, ssl nodes, itl items, str next, ssl pnodes]]) (fun _ => True) (fun _ => 0) () trivial rfl ⟨ref0 rfl, ref0 rfl, ref0 rfl, ref0 rfl, ref0 rfl, ref0 rfl, trivial⟩ ?_
      rintro _ _
      focus (
 (refine W.seq (W.region (Jx.lssI rfl rfl rfl (J.nil (N.seq (W.seq (W.cF rfl ?_)))))))
 (refine W.exit (N.seq (W.seq ?_)))
 (refine W.draw follows ?_)
 (refine JD.calm rfl (by decide +kernel) ?_)
 (refine Cx.move rfl rfl ?_)
 (refine Cx.move rfl rfl ?_)
 (refine Cx.eqlB rfl rfl rfl ?_)
 (refine Cx.move rfl rfl ?_)
 (refine SegC.gU rfl rfl rfl rfl ?_)
 (refine SegC.gU rfl rfl rfl rfl ?_)
 (refine SegC.gU rfl rfl rfl rfl ?_)
 (refine SegC.gU rfl rfl rfl rfl ?_)
 (refine SegC.gU rfl rfl rfl rfl ?_)
 (refine SegC.gU rfl rfl rfl rfl ?_)
 (refine SegC.gU rfl rfl rfl rfl ?_)
 (refine SegC.gU rfl rfl rfl rfl ?_)
 (refine SegC.gU rfl rfl rfl rfl ?_)
 (refine Cx.pickT rfl (by first | rfl | assumption | (exact decide_eq_true (by first | assumption | omega | rfl)) | (exact decide_eq_false (by first | assumption | omega | rfl)) | (simp; done) | (simp; omega)) rfl rfl ?_)
 (refine Cx.assign rfl rfl ?_)
 (refine SegC.nil ?_)
 (refine N.seq (W.ret ?_))
 (refine id ?_; rotate_left))
      exact N.retD (rs := [.tmp 4]) (L1 := []) rfl (.tmp rfl .nil) (List.nil_sublist _) ⟨by first | rfl | simp [oneOr], rfl⟩
    have hiq : hiN next hi = hi := by rw [← hnn]; exact if_neg (fun h => h hn)
    rw [hiq] at hg
    obtain ⟨hk0, hk8, hf, hfd, hpos⟩ := ver_ok hV hr0
    have hag : ¬ clashes (nodes ++ pnodes) → _ := fun h => shown_agree h hin hk0 hk8 hf hg
    focus (
 (refine W.cF rfl ?_)
 (refine W.skip (N.seq (W.seq (W.seq (W.region (Jx.move rfl rfl (Jx.neqI rfl rfl rfl (Jx.move rfl rfl (J.gY rfl rfl rfl ?_)))))))))
 (refine Jx.move rfl rfl (J.gY rfl rfl rfl ?_))
 (refine Jx.neqI rfl rfl rfl (Jx.pF rfl rfl rfl ?_))
 (refine Jx.move rfl rfl (J.gY rfl rfl rfl ?_))
 (refine Jx.fieldAddr rfl rfl ?_)
 (refine J.gY rfl rfl rfl ?_)
 (refine Jx.load rfl 0 rfl rfl rfl ?_)
 (refine J.gY rfl rfl rfl ?_)
 (refine Jx.fieldAddr rfl rfl ?_)
 (refine J.gY rfl rfl rfl ?_)
 (refine Jx.load rfl 0 rfl rfl rfl ?_)
 (refine J.gY rfl rfl rfl ?_)
 (refine Jx.lssS rfl rfl rfl ?_; rw [b4])
 (refine Jx.pF rfl rfl rfl ?_)
 (refine Jx.move rfl rfl (J.gY rfl rfl rfl ?_))
 (refine Jx.move rfl rfl (J.gY rfl rfl rfl ?_))
 (refine Jx.neqS rfl rfl rfl (J.gY rfl rfl rfl ?_))
 (refine Jx.move rfl rfl (J.gN rfl rfl rfl rfl ?_))
 (refine J.gN rfl rfl rfl rfl ?_)
 (refine J.gN rfl rfl rfl rfl ?_)
 (refine J.gN rfl rfl rfl rfl ?_)
 (refine J.gY rfl rfl rfl ?_)
 (refine Jx.pF rfl rfl rfl ?_)
 (refine Jx.pF rfl rfl rfl ?_)
 (refine J.nil (N.seq (W.cF rfl ?_)))
 (refine W.skip (N.seq (W.seq (W.region (Jx.assign rfl rfl (J.nil (N.seq (W.seq (W.seq (W.region (Jx.move rfl rfl (Jx.lenSl rfl rfl ?_))))))))))))
 (refine Jx.move rfl rfl (J.nil (N.seq (W.block ?_))))
 (refine id ?_; rotate_left))
    refine W.loop (α := Nat × Bool) (fun x => [(94, int (x.1 : Int)), (93, int (items.length : Int)), (92, itl items), (12, Sse.bool x.2), (6, Sse.bool found), (5, str v), (3, ptr p3)]) (fun _ => [.obj p3 27 [str key, str lo, str hi, int most, ssl nodes, itl items, str next, ssl pnodes]]) (fun x => x.1 ≤ items.length ∧ (x.2 = true ↔ ∃ j, j < x.1 ∧ (items.getD j it0).1 = key)) (fun x => items.length - x.1) (0, false) ⟨Nat.zero_le _, by simp⟩ rfl ⟨ref0 rfl, ref0 rfl, ref0 rfl, ref0 rfl, ref0 rfl, ref0 rfl, ref0 rfl, trivial⟩ ?_
    rintro ⟨i, seen⟩ ⟨hi1, hse⟩
    simp only at hi1 hse ⊢
    by_cases h1 : i < items.length
    · have h1' : (i : Int) < (items.length : Int) := by omega
      have e1 : (i : Int) + 1 = ((i + 1 : Nat) : Int) := by omega
      have hym := getD_memT (d := it0) h1
      have hnx := seen_next hse
      obtain ⟨y, hy⟩ : ∃ y, items.getD i it0 = y := ⟨_, rfl⟩
      obtain ⟨yk, yv⟩ := y
      rw [hy] at hym hnx
      simp only at hnx
      by_cases g7 : yk = key
      case neg =>
        focus (
 (refine W.seq (W.region (Jx.lssI rfl rfl rfl (J.nil (N.seq (W.seq (W.cT rfl ?_)))))))
 (refine W.skip (N.seq (W.seq (W.block (W.seq (W.region ?_))))))
 (refine Jx.indexEl rfl rfl h1 rfl rfl ?_; rw [hy])
 (refine Jx.loadPPall rfl rfl rfl ?_)
 (refine J.alloc (d := 14) (by simp only [List.map_cons, List.map_nil]; rfl) rfl rfl ?_; intro p14)
 (refine J.storeAll rfl rfl rfl 0 rfl rfl rfl ?_)
 (refine J.nil (N.seq (W.seq (W.region (Jx.fieldAddr rfl rfl ?_)))))
 (refine Jx.load rfl 0 rfl rfl rfl ?_)
 (refine Jx.fieldAddr rfl rfl ?_)
 (refine Jx.load rfl 1 rfl rfl rfl ?_)
 (refine Jx.eqlS rfl rfl rfl (J.nil (N.seq (W.cF rfl ?_))))
 (refine W.skip (N.seq (W.region ?_)))
 (refine Jx.add64 rfl rfl (by omega) rfl ?_; rw [e1])
 (refine Jx.move rfl rfl (J.nil ?_))
 (refine id ?_; rotate_left))
        refine N.drop (List.sublist_cons_self _ _) ?_
        exact N.round (i + 1, seen) ⟨h1, hnx.2 g7⟩ (by simp only; omega) rfl ⟨ref0 rfl, ref0 rfl, ref0 rfl, ref0 rfl, ref0 rfl, ref0 rfl, ref0 rfl, trivial⟩
      cases hfq : found with
      | false =>
        have hcl : clashes (nodes ++ pnodes) := Classical.byContradiction fun h => by
          have := ((hag h).2 _ hym g7).1
          rw [hfq] at hfd
          exact of_decide_eq_false hfd.symm this
        subst hfq
        focus (
 (refine W.seq (W.region (Jx.lssI rfl rfl rfl (J.nil (N.seq (W.seq (W.cT rfl ?_)))))))
 (refine W.skip (N.seq (W.seq (W.block (W.seq (W.region ?_))))))
 (refine Jx.indexEl rfl rfl h1 rfl rfl ?_; rw [hy])
 (refine Jx.loadPPall rfl rfl rfl ?_)
 (refine J.alloc (d := 14) (by simp only [List.map_cons, List.map_nil]; rfl) rfl rfl ?_; intro p14)
 (refine J.storeAll rfl rfl rfl 0 rfl rfl rfl ?_)
 (refine J.nil (N.seq (W.seq (W.region (Jx.fieldAddr rfl rfl ?_)))))
 (refine Jx.load rfl 0 rfl rfl rfl ?_)
 (refine Jx.fieldAddr rfl rfl ?_)
 (refine Jx.load rfl 1 rfl rfl rfl ?_)
 (refine Jx.eqlS rfl rfl rfl (J.nil (N.seq (W.cT rfl ?_))))
 (refine W.seq (W.region (Jx.assign rfl rfl (J.nil (N.seq (W.seq (W.region (Jx.move rfl rfl (Jx.not rfl rfl (Jx.move rfl rfl (J.gN rfl rfl rfl rfl ?_)))))))))))
 (refine J.gN rfl rfl rfl rfl ?_)
 (refine J.gN rfl rfl rfl rfl ?_)
 (refine J.gN rfl rfl rfl rfl ?_)
 (refine Jx.pT rfl rfl rfl ?_)
 (refine J.nil (N.seq (W.cT rfl ?_)))
 (refine W.seq ?_)
 (refine W.draw follows ?_)
 (refine JD.begin 10 rfl ?_; refine JP.more [0, 1, 2, 4, 5, 6] _ rfl (by decide +kernel) ?_)
 (refine SegC.q (Qs.buildNone (elOf encS [] [])) rfl ?_)
 (refine Cx.fieldAddr rfl rfl ?_)
 (refine Cx.load rfl 1 rfl rfl rfl ?_)
 (refine Cx.fieldAddr rfl rfl ?_)
 (refine Cx.fieldAddr rfl rfl ?_)
 (refine Cx.load rfl 1 rfl rfl rfl ?_)
 (refine SegC.nil ?_)
 (focus (refine JP.appendZ (idx := [0, 1, 2, 4, 5, 6]) (m2 := nodes) (enc := encS) (dd := []) 3 [111, 113] [0, 1, 2, 3] [4, 5, 6] (by decide +kernel) rfl ?_ rfl (SrcOK.sl rfl) rfl rfl hmx1 hpos rfl ?_; rotate_left); intro u1 hu1)
 (focus (refine JP.append (idx := [4, 5, 6]) (m := nodes) (m2 := pnodes) (enc := encS) (dd := []) 7 [114, 117] [0, 1, 2, 3, 4, 5, 6, 7] [] (by decide +kernel) rfl ?_ rfl (SrcOK.sl rfl) rfl rfl hmx2 rfl ?_; rotate_left); intro u2 hu2; refine JP.freeze 118 rfl (by decide +kernel) hmx3 ?_)
 (refine JP.tail (idx := []) 8 (by decide +kernel) (by decide +kernel) rfl rfl ?_ ?_)
 (refine SegC.nil ?_)
 (refine Ag.nil)
 (refine J.call (Lc := []) cU rfl (evs_args rfl) rfl ?_; rintro _ _ ⟨⟨q, rfl, hq⟩, rfl⟩; obtain rfl := hq hcl; rw [List.nil_append])
 (refine Jx.assign rfl rfl (J.nil (N.seq (W.ret (N.noGotoRet (N.noGotoRet (N.noGotoRet (N.noGotoRet (N.noGotoRet ?_)))))))))
 (refine id ?_; rotate_left)
 (refine Cx.fieldAddr rfl rfl ?_)
 (refine Cx.fieldAddr rfl rfl ?_)
 (refine Cx.load rfl 2 rfl rfl rfl ?_)
 (refine SegC.nil ?_)
 (refine Ag.cons rfl ?_)
 (refine Ag.cons rfl ?_)
 (refine Ag.cons rfl ?_)
 (refine Ag.nil)
 (refine SegC.q (Qs.buildNone (elOf encS [] [])) rfl ?_)
 (refine Cx.fieldAddr rfl rfl ?_)
 (refine Cx.load rfl 1 rfl rfl rfl ?_)
 (refine Cx.fieldAddr rfl rfl ?_)
 (refine Cx.fieldAddr rfl rfl ?_)
 (refine Cx.load rfl 1 rfl rfl rfl ?_)
 (refine SegC.nil ?_)
 (refine Ag.cons rfl ?_)
 (refine Ag.cons rfl ?_)
 (refine Ag.cons rfl ?_)
 (refine Ag.cons rfl ?_)
 (refine Ag.cons rfl ?_)
 (refine Ag.cons rfl ?_)
 (refine Ag.nil))
        exact N.retD (rs := [.tmp 4]) (L1 := []) rfl (.tmp rfl .nil) (List.nil_sublist _) ⟨by first | rfl | simp [oneOr], rfl⟩
      | true =>
        subst hfq
        by_cases g8 : yv = v
        · have g8n : ¬ (yv ≠ v) := fun h => h g8
          focus (
 (refine W.seq (W.region (Jx.lssI rfl rfl rfl (J.nil (N.seq (W.seq (W.cT rfl ?_)))))))
 (refine W.skip (N.seq (W.seq (W.block (W.seq (W.region ?_))))))
 (refine Jx.indexEl rfl rfl h1 rfl rfl ?_; rw [hy])
 (refine Jx.loadPPall rfl rfl rfl ?_)
 (refine J.alloc (d := 14) (by simp only [List.map_cons, List.map_nil]; rfl) rfl rfl ?_; intro p14)
 (refine J.storeAll rfl rfl rfl 0 rfl rfl rfl ?_)
 (refine J.nil (N.seq (W.seq (W.region (Jx.fieldAddr rfl rfl ?_)))))
 (refine Jx.load rfl 0 rfl rfl rfl ?_)
 (refine Jx.fieldAddr rfl rfl ?_)
 (refine Jx.load rfl 1 rfl rfl rfl ?_)
 (refine Jx.eqlS rfl rfl rfl (J.nil (N.seq (W.cT rfl ?_))))
 (refine W.seq (W.region (Jx.assign rfl rfl (J.nil (N.seq (W.seq (W.region (Jx.move rfl rfl (Jx.not rfl rfl (Jx.move rfl rfl (J.gY rfl rfl rfl ?_)))))))))))
 (refine Jx.fieldAddr rfl rfl ?_)
 (refine J.gY rfl rfl rfl ?_)
 (refine Jx.load rfl 0 rfl rfl rfl ?_)
 (refine J.gY rfl rfl rfl ?_)
 (refine Jx.move rfl rfl (J.gY rfl rfl rfl ?_))
 (refine Jx.neqS rfl rfl rfl (Jx.pF rfl rfl rfl ?_))
 (refine J.nil (N.seq (W.cF rfl ?_)))
 (refine W.skip (N.seq (W.region ?_)))
 (refine Jx.add64 rfl rfl (by omega) rfl ?_; rw [e1])
 (refine Jx.move rfl rfl (J.nil ?_))
 (refine id ?_; rotate_left))
          refine N.drop (List.sublist_cons_self _ _) ?_
          exact N.round (i + 1, true) ⟨h1, by simp only [true_iff]; exact hnx.1 g7⟩ (by simp only; omega) rfl ⟨ref0 rfl, ref0 rfl, ref0 rfl, ref0 rfl, ref0 rfl, ref0 rfl, ref0 rfl, trivial⟩
        · have g8n : yv ≠ v := g8
          have hcl : clashes (nodes ++ pnodes) := Classical.byContradiction fun h => g8 ((hag h).2 _ hym g7).2
          focus (
 (refine W.seq (W.region (Jx.lssI rfl rfl rfl (J.nil (N.seq (W.seq (W.cT rfl ?_)))))))
 (refine W.skip (N.seq (W.seq (W.block (W.seq (W.region ?_))))))
 (refine Jx.indexEl rfl rfl h1 rfl rfl ?_; rw [hy])
 (refine Jx.loadPPall rfl rfl rfl ?_)
 (refine J.alloc (d := 14) (by simp only [List.map_cons, List.map_nil]; rfl) rfl rfl ?_; intro p14)
 (refine J.storeAll rfl rfl rfl 0 rfl rfl rfl ?_)
 (refine J.nil (N.seq (W.seq (W.region (Jx.fieldAddr rfl rfl ?_)))))
 (refine Jx.load rfl 0 rfl rfl rfl ?_)
 (refine Jx.fieldAddr rfl rfl ?_)
 (refine Jx.load rfl 1 rfl rfl rfl ?_)
 (refine Jx.eqlS rfl rfl rfl (J.nil (N.seq (W.cT rfl ?_))))
 (refine W.seq (W.region (Jx.assign rfl rfl (J.nil (N.seq (W.seq (W.region (Jx.move rfl rfl (Jx.not rfl rfl (Jx.move rfl rfl (J.gY rfl rfl rfl ?_)))))))))))
 (refine Jx.fieldAddr rfl rfl ?_)
 (refine J.gY rfl rfl rfl ?_)
 (refine Jx.load rfl 0 rfl rfl rfl ?_)
 (refine J.gY rfl rfl rfl ?_)
 (refine Jx.move rfl rfl (J.gY rfl rfl rfl ?_))
 (refine Jx.neqS rfl rfl rfl (Jx.pF rfl rfl rfl ?_))
 (refine J.nil (N.seq (W.cT rfl ?_)))
 (refine W.seq ?_)
 (refine W.draw follows ?_)
 (refine JD.begin 10 rfl ?_; refine JP.more [0, 1, 2, 4, 5, 6] _ rfl (by decide +kernel) ?_)
 (refine SegC.q (Qs.buildNone (elOf encS [] [])) rfl ?_)
 (refine Cx.fieldAddr rfl rfl ?_)
 (refine Cx.load rfl 1 rfl rfl rfl ?_)
 (refine Cx.fieldAddr rfl rfl ?_)
 (refine Cx.fieldAddr rfl rfl ?_)
 (refine Cx.load rfl 1 rfl rfl rfl ?_)
 (refine SegC.nil ?_)
 (focus (refine JP.appendZ (idx := [0, 1, 2, 4, 5, 6]) (m2 := nodes) (enc := encS) (dd := []) 3 [111, 113] [0, 1, 2, 3] [4, 5, 6] (by decide +kernel) rfl ?_ rfl (SrcOK.sl rfl) rfl rfl hmx1 hpos rfl ?_; rotate_left); intro u1 hu1)
 (focus (refine JP.append (idx := [4, 5, 6]) (m := nodes) (m2 := pnodes) (enc := encS) (dd := []) 7 [114, 117] [0, 1, 2, 3, 4, 5, 6, 7] [] (by decide +kernel) rfl ?_ rfl (SrcOK.sl rfl) rfl rfl hmx2 rfl ?_; rotate_left); intro u2 hu2; refine JP.freeze 118 rfl (by decide +kernel) hmx3 ?_)
 (refine JP.tail (idx := []) 8 (by decide +kernel) (by decide +kernel) rfl rfl ?_ ?_)
 (refine SegC.nil ?_)
 (refine Ag.nil)
 (refine J.call (Lc := []) cU rfl (evs_args rfl) rfl ?_; rintro _ _ ⟨⟨q, rfl, hq⟩, rfl⟩; obtain rfl := hq hcl; rw [List.nil_append])
 (refine Jx.assign rfl rfl (J.nil (N.seq (W.ret (N.noGotoRet (N.noGotoRet (N.noGotoRet (N.noGotoRet (N.noGotoRet ?_)))))))))
 (refine id ?_; rotate_left)
 (refine Cx.fieldAddr rfl rfl ?_)
 (refine Cx.fieldAddr rfl rfl ?_)
 (refine Cx.load rfl 2 rfl rfl rfl ?_)
 (refine SegC.nil ?_)
 (refine Ag.cons rfl ?_)
 (refine Ag.cons rfl ?_)
 (refine Ag.cons rfl ?_)
 (refine Ag.nil)
 (refine SegC.q (Qs.buildNone (elOf encS [] [])) rfl ?_)
 (refine Cx.fieldAddr rfl rfl ?_)
 (refine Cx.load rfl 1 rfl rfl rfl ?_)
 (refine Cx.fieldAddr rfl rfl ?_)
 (refine Cx.fieldAddr rfl rfl ?_)
 (refine Cx.load rfl 1 rfl rfl rfl ?_)
 (refine SegC.nil ?_)
 (refine Ag.cons rfl ?_)
 (refine Ag.cons rfl ?_)
 (refine Ag.cons rfl ?_)
 (refine Ag.cons rfl ?_)
 (refine Ag.cons rfl ?_)
 (refine Ag.cons rfl ?_)
 (refine Ag.nil))
          exact N.retD (rs := [.tmp 4]) (L1 := []) rfl (.tmp rfl .nil) (List.nil_sublist _) ⟨by first | rfl | simp [oneOr], rfl⟩
    · have h1' : ¬ (i : Int) < (items.length : Int) := by omega
      obtain rfl : i = items.length := by omega
      have hend := fun h => seen_end hse hfd (hag h)
      cases seen with
      | false =>
        cases hfq : found with
        | false =>
          subst hfq
          focus (
 (refine W.seq (W.region (Jx.lssI rfl rfl rfl (J.nil (N.seq (W.seq (W.cF rfl ?_)))))))
 (refine W.exit (N.seq (W.seq ?_)))
 (refine W.draw follows ?_)
 (refine JD.calm rfl (by decide +kernel) ?_)
 (refine Cx.move rfl rfl ?_)
 (refine Cx.move rfl rfl ?_)
 (refine Cx.eqlB rfl rfl rfl ?_)
 (refine Cx.move rfl rfl ?_)
 (refine SegC.gU rfl rfl rfl rfl ?_)
 (refine SegC.gU rfl rfl rfl rfl ?_)
 (refine SegC.gU rfl rfl rfl rfl ?_)
 (refine SegC.gU rfl rfl rfl rfl ?_)
 (refine SegC.gU rfl rfl rfl rfl ?_)
 (refine SegC.gU rfl rfl rfl rfl ?_)
 (refine SegC.gU rfl rfl rfl rfl ?_)
 (refine SegC.gU rfl rfl rfl rfl ?_)
 (refine SegC.gU rfl rfl rfl rfl ?_)
 (refine Cx.pickT rfl (by first | rfl | assumption | (exact decide_eq_true (by first | assumption | omega | rfl)) | (exact decide_eq_false (by first | assumption | omega | rfl)) | (simp; done) | (simp; omega)) rfl rfl ?_)
 (refine Cx.assign rfl rfl ?_)
 (refine SegC.nil ?_)
 (refine N.seq (W.ret ?_))
 (refine id ?_; rotate_left))
          exact N.retD (rs := [.tmp 4]) (L1 := []) rfl (.tmp rfl .nil) (List.nil_sublist _) ⟨by first | rfl | simp [oneOr], rfl⟩
        | true =>
          subst hfq
          have hcl : clashes (nodes ++ pnodes) := Classical.byContradiction fun h => by have := hend h; cases this
          focus (
 (refine W.seq (W.region (Jx.lssI rfl rfl rfl (J.nil (N.seq (W.seq (W.cF rfl ?_)))))))
 (refine W.exit (N.seq (W.seq ?_)))
 (refine W.draw follows ?_)
 (refine JD.begin 15 rfl ?_; refine JP.more [0, 1, 2, 3, 4, 5, 6, 8, 9, 10] _ rfl (by decide +kernel) ?_)
 (refine Cx.move rfl rfl ?_)
 (refine Cx.move rfl rfl ?_)
 (refine Cx.eqlB rfl rfl rfl ?_)
 (refine Cx.move rfl rfl ?_)
 (refine SegC.gY rfl rfl rfl ?_)
 (refine SegC.q (Qs.buildNone (elOf encS [] [])) rfl ?_)
 (refine SegC.gY rfl rfl rfl ?_)
 (refine Cx.fieldAddr rfl rfl ?_)
 (refine SegC.gY rfl rfl rfl ?_)
 (refine Cx.load rfl 0 rfl rfl rfl ?_)
 (refine SegC.gY rfl rfl rfl ?_)
 (refine Cx.fieldAddr rfl rfl ?_)
 (refine SegC.gY rfl rfl rfl ?_)
 (refine Cx.fieldAddr rfl rfl ?_)
 (refine SegC.gY rfl rfl rfl ?_)
 (refine Cx.load rfl 0 rfl rfl rfl ?_)
 (refine SegC.nil ?_)
 (focus (refine JP.appendZG (idx := [0, 1, 2, 3, 4, 5, 6, 8, 9, 10]) (m2 := nodes) (enc := encS) (dd := []) (gd := 124) 7 [125, 127, 124] [0, 1, 2, 3, 4, 5, 6, 7] [8, 9, 10] (by decide +kernel) rfl rfl rfl rfl ?_ rfl (SrcOK.sl rfl) rfl rfl hmx1 hpos rfl ?_; rotate_left); intro u1 hu1)
 (focus (refine JP.appendG (idx := [8, 9, 10]) (m := nodes) (m2 := pnodes) (enc := encS) (dd := []) (gd := 124) 11 [128, 131, 124] [0, 1, 2, 3, 4, 5, 6, 7, 8, 9, 10, 11] [] (by decide +kernel) rfl rfl rfl rfl ?_ rfl (SrcOK.sl rfl) rfl rfl hmx2 rfl ?_; rotate_left); intro u2 hu2; refine JP.freeze 132 rfl (by decide +kernel) hmx3 ?_)
 (refine JP.tail (idx := []) 12 (by decide +kernel) (by decide +kernel) rfl rfl ?_ ?_)
 (refine SegC.nil ?_)
 (refine Ag.nil)
 (refine J.gY rfl rfl rfl ?_)
 (refine J.call (Lc := []) cU rfl (evs_args rfl) rfl ?_; rintro _ _ ⟨⟨q, rfl, hq⟩, rfl⟩; obtain rfl := hq hcl; rw [List.nil_append])
 (refine Jx.pF rfl rfl rfl ?_)
 (refine Jx.assign rfl rfl (J.nil (N.seq (W.ret ?_))))
 (refine id ?_; rotate_left)
 (refine SegC.gY rfl rfl rfl ?_)
 (refine Cx.fieldAddr rfl rfl ?_)
 (refine SegC.gY rfl rfl rfl ?_)
 (refine Cx.fieldAddr rfl rfl ?_)
 (refine SegC.gY rfl rfl rfl ?_)
 (refine Cx.load rfl 1 rfl rfl rfl ?_)
 (refine SegC.nil ?_)
 (refine Ag.cons rfl ?_)
 (refine Ag.cons rfl ?_)
 (refine Ag.cons rfl ?_)
 (refine Ag.nil)
 (refine Cx.move rfl rfl ?_)
 (refine Cx.move rfl rfl ?_)
 (refine Cx.eqlB rfl rfl rfl ?_)
 (refine Cx.move rfl rfl ?_)
 (refine SegC.gY rfl rfl rfl ?_)
 (refine SegC.q (Qs.buildNone (elOf encS [] [])) rfl ?_)
 (refine SegC.gY rfl rfl rfl ?_)
 (refine Cx.fieldAddr rfl rfl ?_)
 (refine SegC.gY rfl rfl rfl ?_)
 (refine Cx.load rfl 0 rfl rfl rfl ?_)
 (refine SegC.gY rfl rfl rfl ?_)
 (refine Cx.fieldAddr rfl rfl ?_)
 (refine SegC.gY rfl rfl rfl ?_)
 (refine Cx.fieldAddr rfl rfl ?_)
 (refine SegC.gY rfl rfl rfl ?_)
 (refine Cx.load rfl 0 rfl rfl rfl ?_)
 (refine SegC.nil ?_)
 (refine Ag.cons rfl ?_)
 (refine Ag.cons rfl ?_)
 (refine Ag.cons rfl ?_)
 (refine Ag.cons rfl ?_)
 (refine Ag.cons rfl ?_)
 (refine Ag.cons rfl ?_)
 (refine Ag.cons rfl ?_)
 (refine Ag.cons rfl ?_)
 (refine Ag.cons rfl ?_)
 (refine Ag.cons rfl ?_)
 (refine Ag.nil))
          exact N.retD (rs := [.tmp 4]) (L1 := []) rfl (.tmp rfl .nil) (List.nil_sublist _) ⟨by first | rfl | simp [oneOr], rfl⟩
      | true =>
        cases hfq : found with
        | true =>
          subst hfq
          focus (
 (refine W.seq (W.region (Jx.lssI rfl rfl rfl (J.nil (N.seq (W.seq (W.cF rfl ?_)))))))
 (refine W.exit (N.seq (W.seq ?_)))
 (refine W.draw follows ?_)
 (refine JD.calm rfl (by decide +kernel) ?_)
 (refine Cx.move rfl rfl ?_)
 (refine Cx.move rfl rfl ?_)
 (refine Cx.eqlB rfl rfl rfl ?_)
 (refine Cx.move rfl rfl ?_)
 (refine SegC.gU rfl rfl rfl rfl ?_)
 (refine SegC.gU rfl rfl rfl rfl ?_)
 (refine SegC.gU rfl rfl rfl rfl ?_)
 (refine SegC.gU rfl rfl rfl rfl ?_)
 (refine SegC.gU rfl rfl rfl rfl ?_)
 (refine SegC.gU rfl rfl rfl rfl ?_)
 (refine SegC.gU rfl rfl rfl rfl ?_)
 (refine SegC.gU rfl rfl rfl rfl ?_)
 (refine SegC.gU rfl rfl rfl rfl ?_)
 (refine Cx.pickT rfl (by first | rfl | assumption | (exact decide_eq_true (by first | assumption | omega | rfl)) | (exact decide_eq_false (by first | assumption | omega | rfl)) | (simp; done) | (simp; omega)) rfl rfl ?_)
 (refine Cx.assign rfl rfl ?_)
 (refine SegC.nil ?_)
 (refine N.seq (W.ret ?_))
 (refine id ?_; rotate_left))
          exact N.retD (rs := [.tmp 4]) (L1 := []) rfl (.tmp rfl .nil) (List.nil_sublist _) ⟨by first | rfl | simp [oneOr], rfl⟩
        | false =>
          subst hfq
          have hcl : clashes (nodes ++ pnodes) := Classical.byContradiction fun h => by have := hend h; cases this
          focus (
 (refine W.seq (W.region (Jx.lssI rfl rfl rfl (J.nil (N.seq (W.seq (W.cF rfl ?_)))))))
 (refine W.exit (N.seq (W.seq ?_)))
 (refine W.draw follows ?_)
 (refine JD.begin 15 rfl ?_; refine JP.more [0, 1, 2, 3, 4, 5, 6, 8, 9, 10] _ rfl (by decide +kernel) ?_)
 (refine Cx.move rfl rfl ?_)
 (refine Cx.move rfl rfl ?_)
 (refine Cx.eqlB rfl rfl rfl ?_)
 (refine Cx.move rfl rfl ?_)
 (refine SegC.gY rfl rfl rfl ?_)
 (refine SegC.q (Qs.buildNone (elOf encS [] [])) rfl ?_)
 (refine SegC.gY rfl rfl rfl ?_)
 (refine Cx.fieldAddr rfl rfl ?_)
 (refine SegC.gY rfl rfl rfl ?_)
 (refine Cx.load rfl 0 rfl rfl rfl ?_)
 (refine SegC.gY rfl rfl rfl ?_)
 (refine Cx.fieldAddr rfl rfl ?_)
 (refine SegC.gY rfl rfl rfl ?_)
 (refine Cx.fieldAddr rfl rfl ?_)
 (refine SegC.gY rfl rfl rfl ?_)
 (refine Cx.load rfl 0 rfl rfl rfl ?_)
 (refine SegC.nil ?_)
 (focus (refine JP.appendZG (idx := [0, 1, 2, 3, 4, 5, 6, 8, 9, 10]) (m2 := nodes) (enc := encS) (dd := []) (gd := 124) 7 [125, 127, 124] [0, 1, 2, 3, 4, 5, 6, 7] [8, 9, 10] (by decide +kernel) rfl rfl rfl rfl ?_ rfl (SrcOK.sl rfl) rfl rfl hmx1 hpos rfl ?_; rotate_left); intro u1 hu1)
 (focus (refine JP.appendG (idx := [8, 9, 10]) (m := nodes) (m2 := pnodes) (enc := encS) (dd := []) (gd := 124) 11 [128, 131, 124] [0, 1, 2, 3, 4, 5, 6, 7, 8, 9, 10, 11] [] (by decide +kernel) rfl rfl rfl rfl ?_ rfl (SrcOK.sl rfl) rfl rfl hmx2 rfl ?_; rotate_left); intro u2 hu2; refine JP.freeze 132 rfl (by decide +kernel) hmx3 ?_)
 (refine JP.tail (idx := []) 12 (by decide +kernel) (by decide +kernel) rfl rfl ?_ ?_)
 (refine SegC.nil ?_)
 (refine Ag.nil)
 (refine J.gY rfl rfl rfl ?_)
 (refine J.call (Lc := []) cU rfl (evs_args rfl) rfl ?_; rintro _ _ ⟨⟨q, rfl, hq⟩, rfl⟩; obtain rfl := hq hcl; rw [List.nil_append])
 (refine Jx.pF rfl rfl rfl ?_)
 (refine Jx.assign rfl rfl (J.nil (N.seq (W.ret ?_))))
 (refine id ?_; rotate_left)
 (refine SegC.gY rfl rfl rfl ?_)
 (refine Cx.fieldAddr rfl rfl ?_)
 (refine SegC.gY rfl rfl rfl ?_)
 (refine Cx.fieldAddr rfl rfl ?_)
 (refine SegC.gY rfl rfl rfl ?_)
 (refine Cx.load rfl 1 rfl rfl rfl ?_)
 (refine SegC.nil ?_)
 (refine Ag.cons rfl ?_)
 (refine Ag.cons rfl ?_)
 (refine Ag.cons rfl ?_)
 (refine Ag.nil)
 (refine Cx.move rfl rfl ?_)
 (refine Cx.move rfl rfl ?_)
 (refine Cx.eqlB rfl rfl rfl ?_)
 (refine Cx.move rfl rfl ?_)
 (refine SegC.gY rfl rfl rfl ?_)
 (refine SegC.q (Qs.buildNone (elOf encS [] [])) rfl ?_)
 (refine SegC.gY rfl rfl rfl ?_)
 (refine Cx.fieldAddr rfl rfl ?_)
 (refine SegC.gY rfl rfl rfl ?_)
 (refine Cx.load rfl 0 rfl rfl rfl ?_)
 (refine SegC.gY rfl rfl rfl ?_)
 (refine Cx.fieldAddr rfl rfl ?_)
 (refine SegC.gY rfl rfl rfl ?_)
 (refine Cx.fieldAddr rfl rfl ?_)
 (refine SegC.gY rfl rfl rfl ?_)
 (refine Cx.load rfl 0 rfl rfl rfl ?_)
 (refine SegC.nil ?_)
 (refine Ag.cons rfl ?_)
 (refine Ag.cons rfl ?_)
 (refine Ag.cons rfl ?_)
 (refine Ag.cons rfl ?_)
 (refine Ag.cons rfl ?_)
 (refine Ag.cons rfl ?_)
 (refine Ag.cons rfl ?_)
 (refine Ag.cons rfl ?_)
 (refine Ag.cons rfl ?_)
 (refine Ag.cons rfl ?_)
 (refine Ag.nil))
          exact N.retD (rs := [.tmp 4]) (L1 := []) rfl (.tmp rfl .nil) (List.nil_sublist _) ⟨by first | rfl | simp [oneOr], rfl⟩
  have g5n : hi ≠ [] := g5
  by_cases g6 : ltL key hi
  case neg =>
    have b6 := less_false g6
    focus (
 (refine W.cF rfl ?_)
 (refine W.skip (N.seq (W.seq (W.seq (W.region (Jx.move rfl rfl (Jx.neqI rfl rfl rfl (Jx.move rfl rfl (J.gY rfl rfl rfl ?_)))))))))
 (refine Jx.move rfl rfl (J.gY rfl rfl rfl ?_))
 (refine Jx.neqI rfl rfl rfl (Jx.pF rfl rfl rfl ?_))
 (refine Jx.move rfl rfl (J.gY rfl rfl rfl ?_))
 (refine Jx.fieldAddr rfl rfl ?_)
 (refine J.gY rfl rfl rfl ?_)
 (refine Jx.load rfl 0 rfl rfl rfl ?_)
 (refine J.gY rfl rfl rfl ?_)
 (refine Jx.fieldAddr rfl rfl ?_)
 (refine J.gY rfl rfl rfl ?_)
 (refine Jx.load rfl 0 rfl rfl rfl ?_)
 (refine J.gY rfl rfl rfl ?_)
 (refine Jx.lssS rfl rfl rfl ?_; rw [b4])
 (refine Jx.pF rfl rfl rfl ?_)
 (refine Jx.move rfl rfl (J.gY rfl rfl rfl ?_))
 (refine Jx.move rfl rfl (J.gY rfl rfl rfl ?_))
 (refine Jx.neqS rfl rfl rfl (J.gY rfl rfl rfl ?_))
 (refine Jx.move rfl rfl (J.gY rfl rfl rfl ?_))
 (refine Jx.fieldAddr rfl rfl ?_)
 (refine J.gY rfl rfl rfl ?_)
 (refine Jx.load rfl 0 rfl rfl rfl ?_)
 (refine J.gY rfl rfl rfl ?_)
 (refine Jx.move rfl rfl (J.gY rfl rfl rfl ?_))
 (refine Jx.geqS rfl rfl rfl ?_; rw [b6])
 (refine J.gY rfl rfl rfl ?_)
 (refine Jx.pT rfl rfl rfl ?_)
 (refine Jx.pF rfl rfl rfl ?_)
 (refine J.nil (N.seq (W.cT rfl ?_)))
 (refine W.seq (W.region (Jx.assign rfl rfl (J.nil (N.seq (W.ret (N.noGotoRet ?_)))))))
 (refine id ?_; rotate_left))
    exact N.retD (rs := [.tmp 4]) (L1 := []) rfl (.tmp rfl .nil) (List.nil_sublist _) ⟨by first | rfl | simp [oneOr], rfl⟩
  have b6 := less_true g6
  have hin : inR lo hi key := ⟨g4, .inr g6⟩
  rcases hp with hp | ⟨_, hr0, hpn, rfl, _⟩ | ⟨_, hr0, hg, rfl, hnn⟩
  · exact absurd rfl hp
  · have hfd : found = false := ver_nil hV hr0
    subst hfd
    refine W.rowNil tIt 2 (elOf itC it0 []) ?_
    refine W.freezeAt 0 8 rfl rfl (by decide) ?_
    focus (
 (refine W.cF rfl ?_)
 (refine W.skip (N.seq (W.seq (W.seq (W.region (Jx.move rfl rfl (Jx.neqI rfl rfl rfl (Jx.move rfl rfl (J.gY rfl rfl rfl ?_)))))))))
 (refine Jx.move rfl rfl (J.gY rfl rfl rfl ?_))
 (refine Jx.neqI rfl rfl rfl (Jx.pF rfl rfl rfl ?_))
 (refine Jx.move rfl rfl (J.gY rfl rfl rfl ?_))
 (refine Jx.fieldAddr rfl rfl ?_)
 (refine J.gY rfl rfl rfl ?_)
 (refine Jx.load rfl 0 rfl rfl rfl ?_)
 (refine J.gY rfl rfl rfl ?_)
 (refine Jx.fieldAddr rfl rfl ?_)
 (refine J.gY rfl rfl rfl ?_)
 (refine Jx.load rfl 0 rfl rfl rfl ?_)
 (refine J.gY rfl rfl rfl ?_)
 (refine Jx.lssS rfl rfl rfl ?_; rw [b4])
 (refine Jx.pF rfl rfl rfl ?_)
 (refine Jx.move rfl rfl (J.gY rfl rfl rfl ?_))
 (refine Jx.move rfl rfl (J.gY rfl rfl rfl ?_))
 (refine Jx.neqS rfl rfl rfl (J.gY rfl rfl rfl ?_))
 (refine Jx.move rfl rfl (J.gY rfl rfl rfl ?_))
 (refine Jx.fieldAddr rfl rfl ?_)
 (refine J.gY rfl rfl rfl ?_)
 (refine Jx.load rfl 0 rfl rfl rfl ?_)
 (refine J.gY rfl rfl rfl ?_)
 (refine Jx.move rfl rfl (J.gY rfl rfl rfl ?_))
 (refine Jx.geqS rfl rfl rfl ?_; rw [b6])
 (refine J.gY rfl rfl rfl ?_)
 (refine Jx.pT rfl rfl rfl ?_)
 (refine Jx.pF rfl rfl rfl ?_)
 (refine J.nil (N.seq (W.cF rfl ?_)))
 (refine W.skip (N.seq (W.seq (W.region (Jx.assign rfl rfl (J.nil (N.seq (W.seq (W.seq (W.region (Jx.move rfl rfl (Jx.lenSl rfl rfl ?_))))))))))))
 (refine Jx.move rfl rfl (J.nil (N.seq (W.block ?_))))
 (refine id ?_; rotate_left))
    refine W.loop (α := Unit) (fun _ => [(94, int 0), (93, int 0), (92, itl []), (12, Sse.bool false), (6, Sse.bool false), (3, ptr p3)]) (fun _ => [.obj p3 27 [str key, str lo, str hi, int most, ssl nodes, itl items, str next, ssl pnodes]]) (fun _ => True) (fun _ => 0) () trivial rfl ⟨ref0 rfl, ref0 rfl, ref0 rfl, ref0 rfl, ref0 rfl, ref0 rfl, trivial⟩ ?_
    rintro _ _
    focus (
 (refine W.seq (W.region (Jx.lssI rfl rfl rfl (J.nil (N.seq (W.seq (W.cF rfl ?_)))))))
 (refine W.exit (N.seq (W.seq ?_)))
 (refine W.draw follows ?_)
 (refine JD.calm rfl (by decide +kernel) ?_)
 (refine Cx.move rfl rfl ?_)
 (refine Cx.move rfl rfl ?_)
 (refine Cx.eqlB rfl rfl rfl ?_)
 (refine Cx.move rfl rfl ?_)
 (refine SegC.gU rfl rfl rfl rfl ?_)
 (refine SegC.gU rfl rfl rfl rfl ?_)
 (refine SegC.gU rfl rfl rfl rfl ?_)
 (refine SegC.gU rfl rfl rfl rfl ?_)
 (refine SegC.gU rfl rfl rfl rfl ?_)
 (refine SegC.gU rfl rfl rfl rfl ?_)
 (refine SegC.gU rfl rfl rfl rfl ?_)
 (refine SegC.gU rfl rfl rfl rfl ?_)
 (refine SegC.gU rfl rfl rfl rfl ?_)
 (refine Cx.pickT rfl (by first | rfl | assumption | (exact decide_eq_true (by first | assumption | omega | rfl)) | (exact decide_eq_false (by first | assumption | omega | rfl)) | (simp; done) | (simp; omega)) rfl rfl ?_)
 (refine Cx.assign rfl rfl ?_)
 (refine SegC.nil ?_)
 (refine N.seq (W.ret ?_))
 (refine id ?_; rotate_left))
    exact N.retD (rs := [.tmp 4]) (L1 := []) rfl (.tmp rfl .nil) (List.nil_sublist _) ⟨by first | rfl | simp [oneOr], rfl⟩
  have hiq : hiN next hi = hi := by rw [← hnn]; exact if_neg (fun h => h hn)
  rw [hiq] at hg
  obtain ⟨hk0, hk8, hf, hfd, hpos⟩ := ver_ok hV hr0
  have hag : ¬ clashes (nodes ++ pnodes) → _ := fun h => shown_agree h hin hk0 hk8 hf hg
  focus (
 (refine W.cF rfl ?_)
 (refine W.skip (N.seq (W.seq (W.seq (W.region (Jx.move rfl rfl (Jx.neqI rfl rfl rfl (Jx.move rfl rfl (J.gY rfl rfl rfl ?_)))))))))
 (refine Jx.move rfl rfl (J.gY rfl rfl rfl ?_))
 (refine Jx.neqI rfl rfl rfl (Jx.pF rfl rfl rfl ?_))
 (refine Jx.move rfl rfl (J.gY rfl rfl rfl ?_))
 (refine Jx.fieldAddr rfl rfl ?_)
 (refine J.gY rfl rfl rfl ?_)
 (refine Jx.load rfl 0 rfl rfl rfl ?_)
 (refine J.gY rfl rfl rfl ?_)
 (refine Jx.fieldAddr rfl rfl ?_)
 (refine J.gY rfl rfl rfl ?_)
 (refine Jx.load rfl 0 rfl rfl rfl ?_)
 (refine J.gY rfl rfl rfl ?_)
 (refine Jx.lssS rfl rfl rfl ?_; rw [b4])
 (refine Jx.pF rfl rfl rfl ?_)
 (refine Jx.move rfl rfl (J.gY rfl rfl rfl ?_))
 (refine Jx.move rfl rfl (J.gY rfl rfl rfl ?_))
 (refine Jx.neqS rfl rfl rfl (J.gY rfl rfl rfl ?_))
 (refine Jx.move rfl rfl (J.gY rfl rfl rfl ?_))
 (refine Jx.fieldAddr rfl rfl ?_)
 (refine J.gY rfl rfl rfl ?_)
 (refine Jx.load rfl 0 rfl rfl rfl ?_)
 (refine J.gY rfl rfl rfl ?_)
 (refine Jx.move rfl rfl (J.gY rfl rfl rfl ?_))
 (refine Jx.geqS rfl rfl rfl ?_; rw [b6])
 (refine J.gY rfl rfl rfl ?_)
 (refine Jx.pT rfl rfl rfl ?_)
 (refine Jx.pF rfl rfl rfl ?_)
 (refine J.nil (N.seq (W.cF rfl ?_)))
 (refine W.skip (N.seq (W.seq (W.region (Jx.assign rfl rfl (J.nil (N.seq (W.seq (W.seq (W.region (Jx.move rfl rfl (Jx.lenSl rfl rfl ?_))))))))))))
 (refine Jx.move rfl rfl (J.nil (N.seq (W.block ?_))))
 (refine id ?_; rotate_left))
  refine W.loop (α := Nat × Bool) (fun x => [(94, int (x.1 : Int)), (93, int (items.length : Int)), (92, itl items), (12, Sse.bool x.2), (6, Sse.bool found), (5, str v), (3, ptr p3)]) (fun _ => [.obj p3 27 [str key, str lo, str hi, int most, ssl nodes, itl items, str next, ssl pnodes]]) (fun x => x.1 ≤ items.length ∧ (x.2 = true ↔ ∃ j, j < x.1 ∧ (items.getD j it0).1 = key)) (fun x => items.length - x.1) (0, false) ⟨Nat.zero_le _, by simp⟩ rfl ⟨ref0 rfl, ref0 rfl, ref0 rfl, ref0 rfl, ref0 rfl, ref0 rfl, ref0 rfl, trivial⟩ ?_
  rintro ⟨i, seen⟩ ⟨hi1, hse⟩
  simp only at hi1 hse ⊢
  by_cases h1 : i < items.length
  · have h1' : (i : Int) < (items.length : Int) := by omega
    have e1 : (i : Int) + 1 = ((i + 1 : Nat) : Int) := by omega
    have hym := getD_memT (d := it0) h1
    have hnx := seen_next hse
    obtain ⟨y, hy⟩ : ∃ y, items.getD i it0 = y := ⟨_, rfl⟩
    obtain ⟨yk, yv⟩ := y
    rw [hy] at hym hnx
    simp only at hnx
    by_cases g7 : yk = key
    case neg =>
      focus (
 (refine W.seq (W.region (Jx.lssI rfl rfl rfl (J.nil (N.seq (W.seq (W.cT rfl ?_)))))))
 (refine W.skip (N.seq (W.seq (W.block (W.seq (W.region ?_))))))
 (refine Jx.indexEl rfl rfl h1 rfl rfl ?_; rw [hy])
 (refine Jx.loadPPall rfl rfl rfl ?_)
 (refine J.alloc (d := 14) (by simp only [List.map_cons, List.map_nil]; rfl) rfl rfl ?_; intro p14)
 (refine J.storeAll rfl rfl rfl 0 rfl rfl rfl ?_)
 (refine J.nil (N.seq (W.seq (W.region (Jx.fieldAddr rfl rfl ?_)))))
 (refine Jx.load rfl 0 rfl rfl rfl ?_)
 (refine Jx.fieldAddr rfl rfl ?_)
 (refine Jx.load rfl 1 rfl rfl rfl ?_)
 (refine Jx.eqlS rfl rfl rfl (J.nil (N.seq (W.cF rfl ?_))))
 (refine W.skip (N.seq (W.region ?_)))
 (refine Jx.add64 rfl rfl (by omega) rfl ?_; rw [e1])
 (refine Jx.move rfl rfl (J.nil ?_))
 (refine id ?_; rotate_left))
      refine N.drop (List.sublist_cons_self _ _) ?_
      exact N.round (i + 1, seen) ⟨h1, hnx.2 g7⟩ (by simp only; omega) rfl ⟨ref0 rfl, ref0 rfl, ref0 rfl, ref0 rfl, ref0 rfl, ref0 rfl, ref0 rfl, trivial⟩
    cases hfq : found with
    | false =>
      have hcl : clashes (nodes ++ pnodes) := Classical.byContradiction fun h => by
        have := ((hag h).2 _ hym g7).1
        rw [hfq] at hfd
        exact of_decide_eq_false hfd.symm this
      subst hfq
      focus (
 (refine W.seq (W.region (Jx.lssI rfl rfl rfl (J.nil (N.seq (W.seq (W.cT rfl ?_)))))))
 (refine W.skip (N.seq (W.seq (W.block (W.seq (W.region ?_))))))
 (refine Jx.indexEl rfl rfl h1 rfl rfl ?_; rw [hy])
 (refine Jx.loadPPall rfl rfl rfl ?_)
 (refine J.alloc (d := 14) (by simp only [List.map_cons, List.map_nil]; rfl) rfl rfl ?_; intro p14)
 (refine J.storeAll rfl rfl rfl 0 rfl rfl rfl ?_)
 (refine J.nil (N.seq (W.seq (W.region (Jx.fieldAddr rfl rfl ?_)))))
 (refine Jx.load rfl 0 rfl rfl rfl ?_)
 (refine Jx.fieldAddr rfl rfl ?_)
 (refine Jx.load rfl 1 rfl rfl rfl ?_)
 (refine Jx.eqlS rfl rfl rfl (J.nil (N.seq (W.cT rfl ?_))))
 (refine W.seq (W.region (Jx.assign rfl rfl (J.nil (N.seq (W.seq (W.region (Jx.move rfl rfl (Jx.not rfl rfl (Jx.move rfl rfl (J.gN rfl rfl rfl rfl ?_)))))))))))
 (refine J.gN rfl rfl rfl rfl ?_)
 (refine J.gN rfl rfl rfl rfl ?_)
 (refine J.gN rfl rfl rfl rfl ?_)
 (refine Jx.pT rfl rfl rfl ?_)
 (refine J.nil (N.seq (W.cT rfl ?_)))
 (refine W.seq ?_)
 (refine W.draw follows ?_)
 (refine JD.begin 10 rfl ?_; refine JP.more [0, 1, 2, 4, 5, 6] _ rfl (by decide +kernel) ?_)
 (refine SegC.q (Qs.buildNone (elOf encS [] [])) rfl ?_)
 (refine Cx.fieldAddr rfl rfl ?_)
 (refine Cx.load rfl 1 rfl rfl rfl ?_)
 (refine Cx.fieldAddr rfl rfl ?_)
 (refine Cx.fieldAddr rfl rfl ?_)
 (refine Cx.load rfl 1 rfl rfl rfl ?_)
 (refine SegC.nil ?_)
 (focus (refine JP.appendZ (idx := [0, 1, 2, 4, 5, 6]) (m2 := nodes) (enc := encS) (dd := []) 3 [111, 113] [0, 1, 2, 3] [4, 5, 6] (by decide +kernel) rfl ?_ rfl (SrcOK.sl rfl) rfl rfl hmx1 hpos rfl ?_; rotate_left); intro u1 hu1)
 (focus (refine JP.append (idx := [4, 5, 6]) (m := nodes) (m2 := pnodes) (enc := encS) (dd := []) 7 [114, 117] [0, 1, 2, 3, 4, 5, 6, 7] [] (by decide +kernel) rfl ?_ rfl (SrcOK.sl rfl) rfl rfl hmx2 rfl ?_; rotate_left); intro u2 hu2; refine JP.freeze 118 rfl (by decide +kernel) hmx3 ?_)
 (refine JP.tail (idx := []) 8 (by decide +kernel) (by decide +kernel) rfl rfl ?_ ?_)
 (refine SegC.nil ?_)
 (refine Ag.nil)
 (refine J.call (Lc := []) cU rfl (evs_args rfl) rfl ?_; rintro _ _ ⟨⟨q, rfl, hq⟩, rfl⟩; obtain rfl := hq hcl; rw [List.nil_append])
 (refine Jx.assign rfl rfl (J.nil (N.seq (W.ret (N.noGotoRet (N.noGotoRet (N.noGotoRet (N.noGotoRet (N.noGotoRet ?_)))))))))
 (refine id ?_; rotate_left)
 (refine Cx.fieldAddr rfl rfl ?_)
 (refine Cx.fieldAddr rfl rfl ?_)
 (refine Cx.load rfl 2 rfl rfl rfl ?_)
 (refine SegC.nil ?_)
 (refine Ag.cons rfl ?_)
 (refine Ag.cons rfl ?_)
 (refine Ag.cons rfl ?_)
 (refine Ag.nil)
 (refine SegC.q (Qs.buildNone (elOf encS [] [])) rfl ?_)
 (refine Cx.fieldAddr rfl rfl ?_)
 (refine Cx.load rfl 1 rfl rfl rfl ?_)
 (refine Cx.fieldAddr rfl rfl ?_)
 (refine Cx.fieldAddr rfl rfl ?_)
 (refine Cx.load rfl 1 rfl rfl rfl ?_)
 (refine SegC.nil ?_)
 (refine Ag.cons rfl ?_)
 (refine Ag.cons rfl ?_)
 (refine Ag.cons rfl ?_)
 (refine Ag.cons rfl ?_)
 (refine Ag.cons rfl ?_)
 (refine Ag.cons rfl ?_)
 (refine Ag.nil))
      exact N.retD (rs := [.tmp 4]) (L1 := []) rfl (.tmp rfl .nil) (List.nil_sublist _) ⟨by first | rfl | simp [oneOr], rfl⟩
    | true =>
      subst hfq
      by_cases g8 : yv = v
      · have g8n : ¬ (yv ≠ v) := fun h => h g8
        focus (
 (refine W.seq (W.region (Jx.lssI rfl rfl rfl (J.nil (N.seq (W.seq (W.cT rfl ?_)))))))
 (refine W.skip (N.seq (W.seq (W.block (W.seq (W.region ?_))))))
 (refine Jx.indexEl rfl rfl h1 rfl rfl ?_; rw [hy])
 (refine Jx.loadPPall rfl rfl rfl ?_)
 (refine J.alloc (d := 14) (by simp only [List.map_cons, List.map_nil]; rfl) rfl rfl ?_; intro p14)
 (refine J.storeAll rfl rfl rfl 0 rfl rfl rfl ?_)
 (refine J.nil (N.seq (W.seq (W.region (Jx.fieldAddr rfl rfl ?_)))))
 (refine Jx.load rfl 0 rfl rfl rfl ?_)
 (refine Jx.fieldAddr rfl rfl ?_)
 (refine Jx.load rfl 1 rfl rfl rfl ?_)
 (refine Jx.eqlS rfl rfl rfl (J.nil (N.seq (W.cT rfl ?_))))
 (refine W.seq (W.region (Jx.assign rfl rfl (J.nil (N.seq (W.seq (W.region (Jx.move rfl rfl (Jx.not rfl rfl (Jx.move rfl rfl (J.gY rfl rfl rfl ?_)))))))))))
 (refine Jx.fieldAddr rfl rfl ?_)
 (refine J.gY rfl rfl rfl ?_)
 (refine Jx.load rfl 0 rfl rfl rfl ?_)
 (refine J.gY rfl rfl rfl ?_)
 (refine Jx.move rfl rfl (J.gY rfl rfl rfl ?_))
 (refine Jx.neqS rfl rfl rfl (Jx.pF rfl rfl rfl ?_))
 (refine J.nil (N.seq (W.cF rfl ?_)))
 (refine W.skip (N.seq (W.region ?_)))
 (refine Jx.add64 rfl rfl (by omega) rfl ?_; rw [e1])
 (refine Jx.move rfl rfl (J.nil ?_))
 (refine id ?_; rotate_left))
        refine N.drop (List.sublist_cons_self _ _) ?_
        exact N.round (i + 1, true) ⟨h1, by simp only [true_iff]; exact hnx.1 g7⟩ (by simp only; omega) rfl ⟨ref0 rfl, ref0 rfl, ref0 rfl, ref0 rfl, ref0 rfl, ref0 rfl, ref0 rfl, trivial⟩
      · have g8n : yv ≠ v := g8
        have hcl : clashes (nodes ++ pnodes) := Classical.byContradiction fun h => g8 ((hag h).2 _ hym g7).2
        focus (
 (refine W.seq (W.region (Jx.lssI rfl rfl rfl (J.nil (N.seq (W.seq (W.cT rfl ?_)))))))
 (refine W.skip (N.seq (W.seq (W.block (W.seq (W.region ?_))))))
 (refine Jx.indexEl rfl rfl h1 rfl rfl ?_; rw [hy])
 (refine Jx.loadPPall rfl rfl rfl ?_)
 (refine J.alloc (d := 14) (by simp only [List.map_cons, List.map_nil]; rfl) rfl rfl ?_; intro p14)
 (refine J.storeAll rfl rfl rfl 0 rfl rfl rfl ?_)
 (refine J.nil (N.seq (W.seq (W.region (Jx.fieldAddr rfl rfl ?_)))))
 (refine Jx.load rfl 0 rfl rfl rfl ?_)
 (refine Jx.fieldAddr rfl rfl ?_)
 (refine Jx.load rfl 1 rfl rfl rfl ?_)
 (refine Jx.eqlS rfl rfl rfl (J.nil (N.seq (W.cT rfl ?_))))
 (refine W.seq (W.region (Jx.assign rfl rfl (J.nil (N.seq (W.seq (W.region (Jx.move rfl rfl (Jx.not rfl rfl (Jx.move rfl rfl (J.gY rfl rfl rfl ?_)))))))))))
 (refine Jx.fieldAddr rfl rfl ?_)
 (refine J.gY rfl rfl rfl ?_)
 (refine Jx.load rfl 0 rfl rfl rfl ?_)
 (refine J.gY rfl rfl rfl ?_)
 (refine Jx.move rfl rfl (J.gY rfl rfl rfl ?_))
 (refine Jx.neqS rfl rfl rfl (Jx.pF rfl rfl rfl ?_))
 (refine J.nil (N.seq (W.cT rfl ?_)))
 (refine W.seq ?_)
 (refine W.draw follows ?_)
 (refine JD.begin 10 rfl ?_; refine JP.more [0, 1, 2, 4, 5, 6] _ rfl (by decide +kernel) ?_)
 (refine SegC.q (Qs.buildNone (elOf encS [] [])) rfl ?_)
 (refine Cx.fieldAddr rfl rfl ?_)
 (refine Cx.load rfl 1 rfl rfl rfl ?_)
 (refine Cx.fieldAddr rfl rfl ?_)
 (refine Cx.fieldAddr rfl rfl ?_)
 (refine Cx.load rfl 1 rfl rfl rfl ?_)
 (refine SegC.nil ?_)
 (focus (refine JP.appendZ (idx := [0, 1, 2, 4, 5, 6]) (m2 := nodes) (enc := encS) (dd := []) 3 [111, 113] [0, 1, 2, 3] [4, 5, 6] (by decide +kernel) rfl ?_ rfl (SrcOK.sl rfl) rfl rfl hmx1 hpos rfl ?_; rotate_left); intro u1 hu1)
 (focus (refine JP.append (idx := [4, 5, 6]) (m := nodes) (m2 := pnodes) (enc := encS) (dd := []) 7 [114, 117] [0, 1, 2, 3, 4, 5, 6, 7] [] (by decide +kernel) rfl ?_ rfl (SrcOK.sl rfl) rfl rfl hmx2 rfl ?_; rotate_left); intro u2 hu2; refine JP.freeze 118 rfl (by decide +kernel) hmx3 ?_)
 (refine JP.tail (idx := []) 8 (by decide +kernel) (by decide +kernel) rfl rfl ?_ ?_)
 (refine SegC.nil ?_)
 (refine Ag.nil)
 (refine J.call (Lc := []) cU rfl (evs_args rfl) rfl ?_; rintro _ _ ⟨⟨q, rfl, hq⟩, rfl⟩; obtain rfl := hq hcl; rw [List.nil_append])
 (refine Jx.assign rfl rfl (J.nil (N.seq (W.ret (N.noGotoRet (N.noGotoRet (N.noGotoRet (N.noGotoRet (N.noGotoRet ?_)))))))))
 (refine id ?_; rotate_left)
 (refine Cx.fieldAddr rfl rfl ?_)
 (refine Cx.fieldAddr rfl rfl ?_)
 (refine Cx.load rfl 2 rfl rfl rfl ?_)
 (refine SegC.nil ?_)
 (refine Ag.cons rfl ?_)
 (refine Ag.cons rfl ?_)
 (refine Ag.cons rfl ?_)
 (refine Ag.nil)
 (refine SegC.q (Qs.buildNone (elOf encS [] [])) rfl ?_)
 (refine Cx.fieldAddr rfl rfl ?_)
 (refine Cx.load rfl 1 rfl rfl rfl ?_)
 (refine Cx.fieldAddr rfl rfl ?_)
 (refine Cx.fieldAddr rfl rfl ?_)
 (refine Cx.load rfl 1 rfl rfl rfl ?_)
 (refine SegC.nil ?_)
 (refine Ag.cons rfl ?_)
 (refine Ag.cons rfl ?_)
 (refine Ag.cons rfl ?_)
 (refine Ag.cons rfl ?_)
 (refine Ag.cons rfl ?_)
 (refine Ag.cons rfl ?_)
 (refine Ag.nil))
        exact N.retD (rs := [.tmp 4]) (L1 := []) rfl (.tmp rfl .nil) (List.nil_sublist _) ⟨by first | rfl | simp [oneOr], rfl⟩
  · have h1' : ¬ (i : Int) < (items.length : Int) := by omega
    obtain rfl : i = items.length := by omega
    have hend := fun h => seen_end hse hfd (hag h)
    cases seen with
    | false =>
      cases hfq : found with
      | false =>
        subst hfq
        focus (
 (refine W.seq (W.region (Jx.lssI rfl rfl rfl (J.nil (N.seq (W.seq (W.cF rfl ?_)))))))
 (refine W.exit (N.seq (W.seq ?_)))
 (refine W.draw follows ?_)
 (refine JD.calm rfl (by decide +kernel) ?_)
 (refine Cx.move rfl rfl ?_)
 (refine Cx.move rfl rfl ?_)
 (refine Cx.eqlB rfl rfl rfl ?_)
 (refine Cx.move rfl rfl ?_)
 (refine SegC.gU rfl rfl rfl rfl ?_)
 (refine SegC.gU rfl rfl rfl rfl ?_)
 (refine SegC.gU rfl rfl rfl rfl ?_)
 (refine SegC.gU rfl rfl rfl rfl ?_)
 (refine SegC.gU rfl rfl rfl rfl ?_)
 (refine SegC.gU rfl rfl rfl rfl ?_)
 (refine SegC.gU rfl rfl rfl rfl ?_)
 (refine SegC.gU rfl rfl rfl rfl ?_)
 (refine SegC.gU rfl rfl rfl rfl ?_)
 (refine Cx.pickT rfl (by first | rfl | assumption | (exact decide_eq_true (by first | assumption | omega | rfl)) | (exact decide_eq_false (by first | assumption | omega | rfl)) | (simp; done) | (simp; omega)) rfl rfl ?_)
 (refine Cx.assign rfl rfl ?_)
 (refine SegC.nil ?_)
 (refine N.seq (W.ret ?_))
 (refine id ?_; rotate_left))
        exact N.retD (rs := [.tmp 4]) (L1 := []) rfl (.tmp rfl .nil) (List.nil_sublist _) ⟨by first | rfl | simp [oneOr], rfl⟩
      | true =>
        subst hfq
        have hcl : clashes (nodes ++ pnodes) := Classical.byContradiction fun h => by have := hend h; cases this
        focus (
 (refine W.seq (W.region (Jx.lssI rfl rfl rfl (J.nil (N.seq (W.seq (W.cF rfl ?_)))))))
 (refine W.exit (N.seq (W.seq ?_)))
 (refine W.draw follows ?_)
 (refine JD.begin 15 rfl ?_; refine JP.more [0, 1, 2, 3, 4, 5, 6, 8, 9, 10] _ rfl (by decide +kernel) ?_)
 (refine Cx.move rfl rfl ?_)
 (refine Cx.move rfl rfl ?_)
 (refine Cx.eqlB rfl rfl rfl ?_)
 (refine Cx.move rfl rfl ?_)
 (refine SegC.gY rfl rfl rfl ?_)
 (refine SegC.q (Qs.buildNone (elOf encS [] [])) rfl ?_)
 (refine SegC.gY rfl rfl rfl ?_)
 (refine Cx.fieldAddr rfl rfl ?_)
 (refine SegC.gY rfl rfl rfl ?_)
 (refine Cx.load rfl 0 rfl rfl rfl ?_)
 (refine SegC.gY rfl rfl rfl ?_)
 (refine Cx.fieldAddr rfl rfl ?_)
 (refine SegC.gY rfl rfl rfl ?_)
 (refine Cx.fieldAddr rfl rfl ?_)
 (refine SegC.gY rfl rfl rfl ?_)
 (refine Cx.load rfl 0 rfl rfl rfl ?_)
 (refine SegC.nil ?_)
 (focus (refine JP.appendZG (idx := [0, 1, 2, 3, 4, 5, 6, 8, 9, 10]) (m2 := nodes) (enc := encS) (dd := []) (gd := 124) 7 [125, 127, 124] [0, 1, 2, 3, 4, 5, 6, 7] [8, 9, 10] (by decide +kernel) rfl rfl rfl rfl ?_ rfl (SrcOK.sl rfl) rfl rfl hmx1 hpos rfl ?_; rotate_left); intro u1 hu1)
 (focus (refine JP.appendG (idx := [8, 9, 10]) (m := nodes) (m2 := pnodes) (enc := encS) (dd := []) (gd := 124) 11 [128, 131, 124] [0, 1, 2, 3, 4, 5, 6, 7, 8, 9, 10, 11] [] (by decide +kernel) rfl rfl rfl rfl ?_ rfl (SrcOK.sl rfl) rfl rfl hmx2 rfl ?_; rotate_left); intro u2 hu2; refine JP.freeze 132 rfl (by decide +kernel) hmx3 ?_)
 (refine JP.tail (idx := []) 12 (by decide +kernel) (by decide +kernel) rfl rfl ?_ ?_)
 (refine SegC.nil ?_)
 (refine Ag.nil)
 (refine J.gY rfl rfl rfl ?_)
 (refine J.call (Lc := []) cU rfl (evs_args rfl) rfl ?_; rintro _ _ ⟨⟨q, rfl, hq⟩, rfl⟩; obtain rfl := hq hcl; rw [List.nil_append])
 (refine Jx.pF rfl rfl rfl ?_)
 (refine Jx.assign rfl rfl (J.nil (N.seq (W.ret ?_))))
 (refine id ?_; rotate_left)
 (refine SegC.gY rfl rfl rfl ?_)
 (refine Cx.fieldAddr rfl rfl ?_)
 (refine SegC.gY rfl rfl rfl ?_)
 (refine Cx.fieldAddr rfl rfl ?_)
 (refine SegC.gY rfl rfl rfl ?_)
 (refine Cx.load rfl 1 rfl rfl rfl ?_)
 (refine SegC.nil ?_)
 (refine Ag.cons rfl ?_)
 (refine Ag.cons rfl ?_)
 (refine Ag.cons rfl ?_)
 (refine Ag.nil)
 (refine Cx.move rfl rfl ?_)
 (refine Cx.move rfl rfl ?_)
 (refine Cx.eqlB rfl rfl rfl ?_)
 (refine Cx.move rfl rfl ?_)
 (refine SegC.gY rfl rfl rfl ?_)
 (refine SegC.q (Qs.buildNone (elOf encS [] [])) rfl ?_)
 (refine SegC.gY rfl rfl rfl ?_)
 (refine Cx.fieldAddr rfl rfl ?_)
 (refine SegC.gY rfl rfl rfl ?_)
 (refine Cx.load rfl 0 rfl rfl rfl ?_)
 (refine SegC.gY rfl rfl rfl ?_)
 (refine Cx.fieldAddr rfl rfl ?_)
 (refine SegC.gY rfl rfl rfl ?_)
 (refine Cx.fieldAddr rfl rfl ?_)
 (refine SegC.gY rfl rfl rfl ?_)
 (refine Cx.load rfl 0 rfl rfl rfl ?_)
 (refine SegC.nil ?_)
 (refine Ag.cons rfl ?_)
 (refine Ag.cons rfl ?_)
 (refine Ag.cons rfl ?_)
 (refine Ag.cons rfl ?_)
 (refine Ag.cons rfl ?_)
 (refine Ag.cons rfl ?_)
 (refine Ag.cons rfl ?_)
 (refine Ag.cons rfl ?_)
 (refine Ag.cons rfl ?_)
 (refine Ag.cons rfl ?_)
 (refine Ag.nil))
        exact N.retD (rs := [.tmp 4]) (L1 := []) rfl (.tmp rfl .nil) (List.nil_sublist _) ⟨by first | rfl | simp [oneOr], rfl⟩
    | true =>
      cases hfq : found with
      | true =>
        subst hfq
        focus (
 (refine W.seq (W.region (Jx.lssI rfl rfl rfl (J.nil (N.seq (W.seq (W.cF rfl ?_)))))))
 (refine W.exit (N.seq (W.seq ?_)))
 (refine W.draw follows ?_)
 (refine JD.calm rfl (by decide +kernel) ?_)
 (refine Cx.move rfl rfl ?_)
 (refine Cx.move rfl rfl ?_)
 (refine Cx.eqlB rfl rfl rfl ?_)
 (refine Cx.move rfl rfl ?_)
 (refine SegC.gU rfl rfl rfl rfl ?_)
 (refine SegC.gU rfl rfl rfl rfl ?_)
 (refine SegC.gU rfl rfl rfl rfl ?_)
 (refine SegC.gU rfl rfl rfl rfl ?_)
 (refine SegC.gU rfl rfl rfl rfl ?_)
 (refine SegC.gU rfl rfl rfl rfl ?_)
 (refine SegC.gU rfl rfl rfl rfl ?_)
 (refine SegC.gU rfl rfl rfl rfl ?_)
 (refine SegC.gU rfl rfl rfl rfl ?_)
 (refine Cx.pickT rfl (by first | rfl | assumption | (exact decide_eq_true (by first | assumption | omega | rfl)) | (exact decide_eq_false (by first | assumption | omega | rfl)) | (simp; done) | (simp; omega)) rfl rfl ?_)
 (refine Cx.assign rfl rfl ?_)
 (refine SegC.nil ?_)
 (refine N.seq (W.ret ?_))
 (refine id ?_; rotate_left))
        exact N.retD (rs := [.tmp 4]) (L1 := []) rfl (.tmp rfl .nil) (List.nil_sublist _) ⟨by first | rfl | simp [oneOr], rfl⟩
      | false =>
        subst hfq
        have hcl : clashes (nodes ++ pnodes) := Classical.byContradiction fun h => by have := hend h; cases this
        focus (
 (refine W.seq (W.region (Jx.lssI rfl rfl rfl (J.nil (N.seq (W.seq (W.cF rfl ?_)))))))
 (refine W.exit (N.seq (W.seq ?_)))
 (refine W.draw follows ?_)
 (refine JD.begin 15 rfl ?_; refine JP.more [0, 1, 2, 3, 4, 5, 6, 8, 9, 10] _ rfl (by decide +kernel) ?_)
 (refine Cx.move rfl rfl ?_)
 (refine Cx.move rfl rfl ?_)
 (refine Cx.eqlB rfl rfl rfl ?_)
 (refine Cx.move rfl rfl ?_)
 (refine SegC.gY rfl rfl rfl ?_)
 (refine SegC.q (Qs.buildNone (elOf encS [] [])) rfl ?_)
 (refine SegC.gY rfl rfl rfl ?_)
 (refine Cx.fieldAddr rfl rfl ?_)
 (refine SegC.gY rfl rfl rfl ?_)
 (refine Cx.load rfl 0 rfl rfl rfl ?_)
 (refine SegC.gY rfl rfl rfl ?_)
 (refine Cx.fieldAddr rfl rfl ?_)
 (refine SegC.gY rfl rfl rfl ?_)
 (refine Cx.fieldAddr rfl rfl ?_)
 (refine SegC.gY rfl rfl rfl ?_)
 (refine Cx.load rfl 0 rfl rfl rfl ?_)
 (refine SegC.nil ?_)
 (focus (refine JP.appendZG (idx := [0, 1, 2, 3, 4, 5, 6, 8, 9, 10]) (m2 := nodes) (enc := encS) (dd := []) (gd := 124) 7 [125, 127, 124] [0, 1, 2, 3, 4, 5, 6, 7] [8, 9, 10] (by decide +kernel) rfl rfl rfl rfl ?_ rfl (SrcOK.sl rfl) rfl rfl hmx1 hpos rfl ?_; rotate_left); intro u1 hu1)
 (focus (refine JP.appendG (idx := [8, 9, 10]) (m := nodes) (m2 := pnodes) (enc := encS) (dd := []) (gd := 124) 11 [128, 131, 124] [0, 1, 2, 3, 4, 5, 6, 7, 8, 9, 10, 11] [] (by decide +kernel) rfl rfl rfl rfl ?_ rfl (SrcOK.sl rfl) rfl rfl hmx2 rfl ?_; rotate_left); intro u2 hu2; refine JP.freeze 132 rfl (by decide +kernel) hmx3 ?_)
 (refine JP.tail (idx := []) 12 (by decide +kernel) (by decide +kernel) rfl rfl ?_ ?_)
 (refine SegC.nil ?_)
 (refine Ag.nil)
 (refine J.gY rfl rfl rfl ?_)
 (refine J.call (Lc := []) cU rfl (evs_args rfl) rfl ?_; rintro _ _ ⟨⟨q, rfl, hq⟩, rfl⟩; obtain rfl := hq hcl; rw [List.nil_append])
 (refine Jx.pF rfl rfl rfl ?_)
 (refine Jx.assign rfl rfl (J.nil (N.seq (W.ret ?_))))
 (refine id ?_; rotate_left)
 (refine SegC.gY rfl rfl rfl ?_)
 (refine Cx.fieldAddr rfl rfl ?_)
 (refine SegC.gY rfl rfl rfl ?_)
 (refine Cx.fieldAddr rfl rfl ?_)
 (refine SegC.gY rfl rfl rfl ?_)
 (refine Cx.load rfl 1 rfl rfl rfl ?_)
 (refine SegC.nil ?_)
 (refine Ag.cons rfl ?_)
 (refine Ag.cons rfl ?_)
 (refine Ag.cons rfl ?_)
 (refine Ag.nil)
 (refine Cx.move rfl rfl ?_)
 (refine Cx.move rfl rfl ?_)
 (refine Cx.eqlB rfl rfl rfl ?_)
 (refine Cx.move rfl rfl ?_)
 (refine SegC.gY rfl rfl rfl ?_)
 (refine SegC.q (Qs.buildNone (elOf encS [] [])) rfl ?_)
 (refine SegC.gY rfl rfl rfl ?_)
 (refine Cx.fieldAddr rfl rfl ?_)
 (refine SegC.gY rfl rfl rfl ?_)
 (refine Cx.load rfl 0 rfl rfl rfl ?_)
 (refine SegC.gY rfl rfl rfl ?_)
 (refine Cx.fieldAddr rfl rfl ?_)
 (refine SegC.gY rfl rfl rfl ?_)
 (refine Cx.fieldAddr rfl rfl ?_)
 (refine SegC.gY rfl rfl rfl ?_)
 (refine Cx.load rfl 0 rfl rfl rfl ?_)
 (refine SegC.nil ?_)
 (refine Ag.cons rfl ?_)
 (refine Ag.cons rfl ?_)
 (refine Ag.cons rfl ?_)
 (refine Ag.cons rfl ?_)
 (refine Ag.cons rfl ?_)
 (refine Ag.cons rfl ?_)
 (refine Ag.cons rfl ?_)
 (refine Ag.cons rfl ?_)
 (refine Ag.cons rfl ?_)
 (refine Ag.cons rfl ?_)
 (refine Ag.nil))
        exact N.retD (rs := [.tmp 4]) (L1 := []) rfl (.tmp rfl .nil) (List.nil_sublist _) ⟨by first | rfl | simp [oneOr], rfl⟩
end Go.Proofs.YtaflklbmdbmjbaaGreatDoor
namespace Go.Proofs.YtaflklbmdbmjbaaGreatDoor
open Go Go.Sse Go.ChangeShapes Go.WideShapes Go.ChangeAt Go.RowKit
set_option linter.unusedVariables false
set_option linter.unusedSimpArgs false
set_option maxRecDepth 100000
section
variable {H : Type} {en : TypeId × Value → H} {P : Program} {T t : TypeId} {w : World} {base : Nat} {sp : Nat → Bool} {held : Bool} {fuel : Nat} {cs : List Value} {x : DataW H × List MemPlace}
theorem field_in {tos : List (TypeId × Nat)} (h : fieldsAt P T = some tos) (hx : DataW.trod en P w base sp held fuel T cs = some x) (i : Nat) {off : Nat} (hi : tos[i]? = some (t, off)) :
    ∃ n x', DataW.trod en P w base sp held n t ((cs.drop off).take (P.cellsOf t)) = some x' ∧ ∀ k ∈ x'.1.weights P t, k ∈ x.1.weights P T := by
  obtain ⟨fs, hu, rfl⟩ := fieldsAt_spec h
  obtain ⟨xs, n, rfl, rfl, hl, hxl, hf⟩ := DataW.trod_struct hu hx
  rw [List.getElem?_map, Option.map_eq_some_iff] at hi
  obtain ⟨f, hf1, hf2⟩ := hi
  simp only [Prod.mk.injEq] at hf2
  obtain ⟨rfl, rfl⟩ := hf2
  have hi' : fs[i]? = some f := by simpa using hf1
  have hlt : i < xs.length := by have := (Array.getElem?_eq_some_iff.1 hi').1; omega
  have hq := hf i f hi'
  rw [List.getElem?_eq_getElem hlt] at hq
  refine ⟨n, xs[i], hq, fun k hk => ?_⟩
  simp only [DataW.weights, hu]
  exact DataW.weights_mem_each (j := i) (t := f.type) (d := xs[i].1) (by simp [hf1]) (by simp [hlt]) k hk
theorem str_in (hS : P.underlying t = some .string) (hx : DataW.trod en P w base sp held fuel t cs = some x) {s : List UInt8} (hcs : cs = [sv s]) : s.length ∈ x.1.weights P t := by
  subst hcs
  obtain ⟨b, hb, rfl, _⟩ := DataW.trod_string hS hx
  simp only [List.cons.injEq, and_true, sv, Value.string.injEq] at hb
  subst hb
  simp [DataW.weights]
end
noncomputable def rdIt : Rd Tryz.prog 36 It :=
  rdIso (Rd.struct (tos := [(9, 0), (9, 1)]) (by kernel_rfl) (Fds.cons rdStr (Fds.cons rdStr Fds.nil)) (by kernel_rfl)) (fun x => (x.1, x.2.1)) (fun m => (m.1, m.2, ())) (fun _ => rfl) itC (fun _ => rfl) (fun _ => rfl)
noncomputable def rdIts : Rd Tryz.prog 23 (List It) := Rd.slice (by kernel_rfl) (by kernel_rfl) rdIt rfl
noncomputable def rdPg : Rd Tryz.prog 25 (List It × Bs × List Bs × Unit) :=
  Rd.struct (tos := [(23, 0), (9, 1), (22, 2)]) (by kernel_rfl) (Fds.cons rdIts (Fds.cons rdStr (Fds.cons rdStrs Fds.nil))) (by kernel_rfl)
noncomputable def rdSh : Rd Tryz.prog 27 (Bs × Bs × Bs × Int × List Bs × (List It × Bs × List Bs × Unit) × Unit) :=
  Rd.struct (tos := [(9, 0), (9, 1), (9, 2), (3, 3), (22, 4), (25, 5)]) (by kernel_rfl)
    (Fds.cons rdStr (Fds.cons rdStr (Fds.cons rdStr (Fds.cons rdInt (Fds.cons rdStrs (Fds.cons rdPg Fds.nil)))))) (by kernel_rfl)
noncomputable def rdsA : Rds Tryz.prog [9, 27] (Bs × (Bs × Bs × Bs × Int × List Bs × (List It × Bs × List Bs × Unit) × Unit) × Unit) := Rds.cons rdStr rfl (by kernel_rfl) (Rds.consAgg rdSh (by kernel_rfl) Rds.nil)
theorem shown_small {H : Type} {en : TypeId × Value → H} {W : World} {apart : Bool} {args : Array Value} {ds gs : List (DataW H)} {before : List MemPlace} {vts : List TypeId} {vars : List String} (hW : DataW.Whole en Tryz.prog [9, 27] vars apart W args.toList ds gs before)
    (hwt : (DataW.weightsEach Tryz.prog ([9, 27] ++ vts) (ds ++ gs)).all (· ≤ reachBytes) = true) {key lo hi next : Bs} {most : Int} {a b c : SV}
    (hrel : Rel Z0 W (.agg [str key, str lo, str hi, int most, a, b, str next, c]) (args.toList.getD 1 undef)) : lo.length ≤ 140737488351232 ∧ hi.length ≤ 140737488351232 ∧ next.length ≤ 140737488351232 := by
  obtain ⟨p, q, hA, _⟩ := hW
  generalize args.toList = vs at *
  obtain ⟨v1, vs, d1, ds, p1, q1, rfl, rfl, rfl, ht1, hA⟩ := trodAll_cons hA
  obtain ⟨v2, vs, d2, ds, p2, q2, rfl, rfl, rfl, ⟨fuel, hf⟩, hA⟩ := trodAll_cons hA
  simp only [List.getD_cons_succ, List.getD_cons_zero] at hrel
  have hcap : ∀ n ∈ d2.weights Tryz.prog 27, n ≤ 140737488351232 := fun n hn => by
    have := List.all_eq_true.1 hwt n (DataW.weights_mem_each (j := 1) rfl rfl n hn)
    have h3 : n ≤ reachBytes := of_decide_eq_true this
    exact h3
  cases hrel with
  | agg _ us hl h1 hr =>
    simp only [List.length_cons, List.length_nil] at hl hr
    have g1 : us.getD 1 undef = sv lo := (hr 1 (by omega)).val_eq
    have g2 : us.getD 2 undef = sv hi := (hr 2 (by omega)).val_eq
    have g6 : us.getD 6 undef = sv next := (hr 6 (by omega)).val_eq
    match us, hl with
    | [u0, u1, u2, u3, u4, u5, u6, u7], _ =>
      simp only [List.getD_cons_succ, List.getD_cons_zero] at g1 g2 g6
      subst g1 g2 g6
      have hS : Tryz.prog.underlying 9 = some .string := by kernel_rfl
      have hc : Tryz.prog.cellsOf 9 = 1 := by kernel_rfl
      have hc5 : Tryz.prog.cellsOf 25 = 3 := by kernel_rfl
      have hft : fieldsAt Tryz.prog 27 = some [(9, 0), (9, 1), (9, 2), (3, 3), (22, 4), (25, 5)] := by kernel_rfl
      have hfp : fieldsAt Tryz.prog 25 = some [(23, 0), (9, 1), (22, 2)] := by kernel_rfl
      obtain ⟨n1, x1, e1, k1⟩ := field_in hft hf 1 rfl
      obtain ⟨n2, x2, e2, k2⟩ := field_in hft hf 2 rfl
      obtain ⟨n5, x5, e5, k5⟩ := field_in hft hf 5 rfl
      obtain ⟨n6, x6, e6, k6⟩ := field_in hfp e5 1 rfl
      rw [hc] at e1 e2 e6
      rw [hc5] at e6
      exact ⟨hcap _ (k1 _ (str_in hS e1 rfl)), hcap _ (k2 _ (str_in hS e2 rfl)), hcap _ (k5 _ (k6 _ (str_in hS e6 rfl)))⟩
end Go.Proofs.YtaflklbmdbmjbaaGreatDoor
namespace Go.Proofs.YtaflklbmdbmjbaaGreatDoor
open Go Go.Sse
set_option linter.unusedVariables false
set_option linter.unusedSimpArgs false
set_option maxRecDepth 10000
theorem tkeyed_ok (k : Bs) : FnC Tryz.prog 57 [str k] [] (fun r L => r = Sse.bool (decide (k ≠ []) && decide ((k.length : Int) ≤ 8)) ∧ L = []) := by
  refine FnC.intro Tryz.func57 rfl Tryz.ntmps57 rfl fun Z w0 hG => ?_
  focus (
 (refine W.seq (W.region (Jx.assign rfl rfl (J.nil (N.seq (W.seq (W.region (Jx.move rfl rfl (Jx.neqS rfl rfl rfl (Jx.move rfl rfl ?_))))))))))
 (refine' J.guardAnd rfl rfl rfl rfl rfl rfl rfl rfl (fun _ => ?_) ?_; rotate_left)
 (refine J.gY rfl rfl rfl ?_)
 (refine Jx.move rfl rfl (J.gY rfl rfl rfl ?_))
 (refine Jx.lenS rfl rfl ?_)
 (refine J.gY rfl rfl rfl ?_)
 (refine Jx.leqI rfl rfl rfl (J.nil ?_))
 (refine N.joinedN rfl rfl rfl)
 (refine Jx.assign rfl rfl (J.nil (N.seq (W.ret ?_))))
 (refine id ?_; rotate_left))
  exact N.ret (rs := [.tmp 2]) rfl (.tmp rfl .nil) ⟨rfl, rfl⟩
theorem rem2 {n : Nat} (h : n = 2) : (n : Int) % 2 = 0 := by subst h; rfl
set_option maxHeartbeats 4000000 in
theorem pack_ok (p : Bs) (hf : fitN p = true) (hl : p.length = 2) : FnC Tryz.prog 97 [str p, Sse.bool true] [] (fun r L => r = .tup [str ([32] ++ joinN p), int 0] ∧ L = []) := by
  have c1 := fit_ok p (by omega)
  rw [hf] at c1
  have c2 := joined_ok p (by omega) hf
  have hm := rem2 hl
  have hjl : (joinN p).length ≤ p.length := joinN_len p
  have hcl : [(32 : UInt8)].length + (joinN p).length ≤ 9223372036854775807 := by simp only [List.length_cons, List.length_nil]; omega
  refine FnC.intro Tryz.func97 rfl Tryz.ntmps97 rfl fun Z w0 hG => ?_
  focus (
 (refine W.seq (W.region (Jx.assign rfl rfl (Jx.assign rfl rfl (J.nil (N.seq (W.seq (W.seq (W.region (Jx.move rfl rfl ?_))))))))))
 (refine J.call (Lc := []) c1 rfl (evs_args rfl) rfl ?_; rintro _ _ ⟨rfl, rfl⟩; rw [List.nil_append])
 (refine Jx.not rfl rfl (J.nil (N.seq (W.cF rfl ?_))))
 (refine W.skip (N.seq (W.seq (W.region (Jx.assign rfl rfl (J.nil (N.seq (W.seq (W.seq (W.region (Jx.move rfl rfl (J.nil (N.seq (W.cT rfl ?_))))))))))))))
 (refine W.region (Jx.assign rfl rfl (J.nil (N.seq (W.seq (W.seq (W.region (Jx.move rfl rfl (Jx.lenS rfl rfl ?_)))))))))
 (refine Jx.rem64 rfl rfl (by omega) (by omega) rfl ?_; rw [hm])
 (refine Jx.eqlI rfl rfl rfl (J.nil (N.seq (W.cF rfl ?_))))
 (refine W.skip (N.seq (W.seq ?_)))
 (refine W.draw follows ?_)
 (refine JD.calm rfl (by decide +kernel) ?_)
 (refine Cx.move rfl rfl ?_)
 (refine SegC.q (Qs.buildBytes [32] rfl rfl rfl (by decide) (by decide)) rfl ?_)
 (refine Cx.bytesStr rfl rfl ?_)
 (refine Cx.move rfl rfl ?_)
 (refine SegC.q (Qs.call (Lc := []) (c2) (fun s L' h => h) (List.Perm.refl _) (evs_args rfl)) rfl ?_)
 (refine Cx.cat rfl rfl hcl rfl ?_)
 (refine Cx.assign rfl rfl ?_)
 (refine Cx.assign rfl rfl ?_)
 (refine SegC.nil ?_)
 (refine N.seq (W.ret ?_))
 (refine id ?_; rotate_left))
  exact N.ret (rs := [.tmp 4, .tmp 5]) rfl (.tmp rfl (.tmp rfl .nil)) ⟨rfl, rfl⟩
end Go.Proofs.YtaflklbmdbmjbaaGreatDoor
namespace Go.Proofs.YtaflklbmdbmjbaaGreatDoor
open Go Go.Sse
set_option linter.unusedVariables false
set_option linter.unusedSimpArgs false
set_option maxRecDepth 10000
abbrev leafN (p v : Bs) : Nd := ⟨1, p, v, List.replicate 16 []⟩
def leafT (p v : Bs) : Bs := ([1] ++ textB ([32] ++ joinN p)) ++ textB v
set_option maxHeartbeats 4000000 in
theorem encode_ok (p v : Bs) (hfine : fineNd (leafN p v) = true) (hf : fitN p = true) (hl : p.length = 2) (hv : v.length ≤ 32) (h1 : (textB ([32] ++ joinN p)).length ≤ 1000) (h2 : (textB v).length ≤ 1000) :
    FnC Tryz.prog 90 [.agg (ndC (leafN p v))] [] (fun r L => r = .tup [str (leafT p v), int 0] ∧ L = []) := by
  have cc := ncheck_ok (leafN p v) rfl (by show p.length ≤ _; omega)
  rw [if_pos hfine] at cc
  have cp := pack_ok p hf hl
  have hjl : (joinN p).length ≤ p.length := joinN_len p
  have ct := text_ok ([32] ++ joinN p) (by rw [List.length_append, List.length_singleton]; omega)
  have cv := text_ok v (by omega)
  unfold leafT
  generalize [32] ++ joinN p = pk at *
  obtain ⟨ta, hta⟩ : ∃ t, textB pk = t := ⟨_, rfl⟩
  obtain ⟨tb, htb⟩ : ∃ t, textB v = t := ⟨_, rfl⟩
  rw [hta] at ct h1 ⊢
  rw [htb] at cv h2 ⊢
  have hc1 : [(1 : UInt8)].length + ta.length ≤ 9223372036854775807 := by simp only [List.length_cons, List.length_nil]; omega
  have hc2 : ([(1 : UInt8)] ++ ta).length + tb.length ≤ 9223372036854775807 := by rw [List.length_append]; simp only [List.length_cons, List.length_nil]; omega
  refine FnC.intro Tryz.func90 rfl Tryz.ntmps90 rfl fun Z w0 hG => ?_
  focus (
 (refine W.seq (W.region ?_))
 (refine J.boxAg (d := 1) rfl rfl ?_; intro p1)
 (refine Jx.assign rfl rfl (Jx.assign rfl rfl (J.nil (N.seq (W.seq (W.seq (W.region (Jx.loadAll rfl 0 rfl rfl rfl ?_))))))))
 (refine J.call (Lc := []) cc rfl (evs_args rfl) rfl ?_; rintro _ _ ⟨rfl, rfl⟩; rw [List.nil_append])
 (refine Jx.assign rfl rfl (J.nil (N.seq (W.seq (W.region (Jx.move rfl rfl (Jx.neqI rfl rfl rfl (J.nil (N.seq (W.cF rfl ?_))))))))))
 (refine W.skip (N.seq (W.seq (W.region (Jx.fieldAddr rfl rfl ?_)))))
 (refine Jx.load rfl 0 rfl rfl rfl ?_)
 (refine Jx.numByte 1 rfl rfl rfl rfl ?_)
 (refine J.qs (Qs.buildBytes [1] rfl rfl rfl (by decide) (by decide)) rfl ?_)
 (refine Jx.bytesStr rfl rfl ?_)
 (refine Jx.assign rfl rfl (J.nil (N.seq (W.seq (W.seq (W.region (Jx.fieldAddr rfl rfl ?_)))))))
 (refine Jx.load rfl 0 rfl rfl rfl ?_)
 (refine Jx.eqlI rfl rfl rfl (J.nil (N.seq (W.cF rfl ?_))))
 (refine W.skip (N.seq (W.seq (W.region (Jx.fieldAddr rfl rfl ?_)))))
 (refine Jx.load rfl 0 rfl rfl rfl ?_)
 (refine Jx.fieldAddr rfl rfl ?_)
 (refine Jx.load rfl 0 rfl rfl rfl ?_)
 (refine Jx.eqlI rfl rfl rfl ?_)
 (refine J.call (Lc := []) cp rfl (evs_args rfl) rfl ?_; rintro _ _ ⟨rfl, rfl⟩; rw [List.nil_append])
 (refine Jx.move rfl rfl (Jx.extract rfl rfl rfl ?_))
 (refine Jx.extract rfl rfl rfl ?_)
 (refine Jx.assign rfl rfl (Jx.assign rfl rfl (J.nil (N.seq (W.seq (W.region (Jx.move rfl rfl (Jx.move rfl rfl ?_))))))))
 (refine J.call (Lc := []) ct rfl (evs_args rfl) rfl ?_; rintro _ _ ⟨rfl, rfl⟩; rw [List.nil_append])
 (refine Jx.cat rfl rfl hc1 rfl ?_)
 (refine Jx.assign rfl rfl (J.nil (N.seq (W.seq (W.seq (W.region (Jx.fieldAddr rfl rfl ?_)))))))
 (refine Jx.load rfl 0 rfl rfl rfl ?_)
 (refine Jx.eqlI rfl rfl rfl (J.nil (N.seq (W.cT rfl ?_))))
 (refine W.seq (W.region (Jx.move rfl rfl (Jx.fieldAddr rfl rfl ?_))))
 (refine Jx.load rfl 0 rfl rfl rfl ?_)
 (refine J.call (Lc := []) cv rfl (evs_args rfl) rfl ?_; rintro _ _ ⟨rfl, rfl⟩; rw [List.nil_append])
 (refine Jx.cat rfl rfl hc2 rfl ?_)
 (refine Jx.assign rfl rfl (Jx.assign rfl rfl (J.nil (N.seq (W.ret (N.noGotoRet ?_))))))
 (refine id ?_; rotate_left))
  exact N.retD (rs := [.tmp 2, .tmp 3]) (L1 := []) rfl (.tmp rfl (.tmp rfl .nil)) (List.nil_sublist _) ⟨rfl, rfl⟩
set_option maxHeartbeats 4000000 in
theorem ndigest_ok (p v : Bs) (hfine : fineNd (leafN p v) = true) (hf : fitN p = true) (hl : p.length = 2) (hv : v.length ≤ 32) (h1 : (textB ([32] ++ joinN p)).length ≤ 1000) (h2 : (textB v).length ≤ 1000) :
    FnC Tryz.prog 91 [.agg (ndC (leafN p v))] [] (fun r L => r = str (sumD 1 (leafT p v)) ∧ L = []) := by
  have ce := encode_ok p v hfine hf hl hv h1 h2
  have cd := dsum_ok 1 (leafT p v) (by decide) (by decide) (by unfold leafT; rw [List.length_append, List.length_append, List.length_singleton]; omega)
  generalize leafT p v = T at *
  refine FnC.intro Tryz.func91 rfl Tryz.ntmps91 rfl fun Z w0 hG => ?_
  focus (
 (refine W.seq (W.region ?_))
 (refine J.boxAg (d := 1) rfl rfl ?_; intro p1)
 (refine Jx.assign rfl rfl (J.nil (N.seq (W.seq (W.region (Jx.loadAll rfl 0 rfl rfl rfl ?_))))))
 (refine J.call (Lc := []) ce rfl (evs_args rfl) rfl ?_; rintro _ _ ⟨rfl, rfl⟩; rw [List.nil_append])
 (refine Jx.move rfl rfl (Jx.extract rfl rfl rfl ?_))
 (refine Jx.extract rfl rfl rfl ?_)
 (refine Jx.assign rfl rfl (Jx.assign rfl rfl (J.nil (N.seq (W.seq (W.seq (W.region (Jx.move rfl rfl (Jx.neqI rfl rfl rfl (J.nil (N.seq (W.cF rfl ?_))))))))))))
 (refine W.skip (N.seq (W.seq (W.region (Jx.move rfl rfl ?_)))))
 (refine J.call (Lc := []) cd rfl (evs_args rfl) rfl ?_; rintro _ _ ⟨rfl, rfl⟩; rw [List.nil_append])
 (refine Jx.move rfl rfl (Jx.extract rfl rfl rfl ?_))
 (refine Jx.extract rfl rfl rfl ?_)
 (refine Jx.assign rfl rfl (Jx.assign rfl rfl (J.nil (N.seq (W.seq (W.region (Jx.move rfl rfl (Jx.assign rfl rfl (J.nil (N.seq (W.ret ?_)))))))))))
 (refine id ?_; rotate_left))
  exact N.retD (rs := [.tmp 2]) (L1 := []) rfl (.tmp rfl .nil) (List.nil_sublist _) ⟨rfl, rfl⟩
end Go.Proofs.YtaflklbmdbmjbaaGreatDoor
namespace Go.Proofs.YtaflklbmdbmjbaaGreatDoor
open Go Go.Sse
set_option linter.unusedVariables false
set_option linter.unusedSimpArgs false
set_option maxRecDepth 10000
abbrev nilP : SV := .val (.pointer none)
abbrev kids0 : List SV := (List.replicate 16 ()).map (fun _ => nilP)
abbrev tKn : Nat := 121
abbrev knO (b : Nat) (p v T D : Bs) (n : Int) : Own := .obj b tKn (ndC (leafN p v) ++ kids0 ++ [str T, str D, int n])
set_option maxHeartbeats 4000000 in
theorem tied_ok (p v : Bs) (hfine : fineNd (leafN p v) = true) (hf : fitN p = true) (hl : p.length = 2) (hv : v.length ≤ 32) (hv0 : v ≠ []) (h1 : (textB ([32] ++ joinN p)).length ≤ 1000) (h2 : (textB v).length ≤ 1000) :
    FnC Tryz.prog 67 [.agg (ndC (leafN p v)), .agg kids0] [] (fun r L => ∃ b, r = ptr b ∧ L = [knO b p v (leafT p v) (sumD 1 (leafT p v)) 1]) := by
  have ce := encode_ok p v hfine hf hl hv h1 h2
  have cd := ndigest_ok p v hfine hf hl hv h1 h2
  generalize leafT p v = T at *
  generalize sumD 1 T = D at *
  refine FnC.intro Tryz.func67 rfl Tryz.ntmps67 rfl fun Z w0 hG => ?_
  focus (
 (refine W.seq (W.region ?_))
 (refine J.boxAg (d := 2) rfl rfl ?_; intro p2)
 (refine J.boxAg (d := 3) rfl rfl ?_; intro p3)
 (refine Jx.assign rfl rfl (J.nil (N.seq (W.seq (W.region (Jx.loadAll rfl 1 rfl rfl rfl ?_))))))
 (refine Jx.loadAll rfl 0 rfl rfl rfl ?_)
 (refine Jx.buildB rfl rfl rfl rfl rfl ?_)
 (refine J.boxAg (d := 11) rfl rfl ?_; intro p11)
 (refine Jx.assign rfl rfl (J.nil (N.seq (W.seq (W.seq (W.region (Jx.loadAll rfl 1 rfl rfl rfl ?_)))))))
 (refine Jx.move rfl rfl (J.nil (N.seq (W.block ?_))))
 (refine id ?_; rotate_left))
  refine W.loop (α := Nat) (fun i => [(13, int (i : Int)), (12, .agg kids0), (5, ptr p11), (3, ptr p3), (2, ptr p2)]) (fun _ => [knO p11 p v [] [] 0, .obj p3 119 kids0, .obj p2 tNd (ndC (leafN p v))]) (fun i => i ≤ 16) (fun i => 16 - i) 0 (Nat.zero_le _) rfl ⟨ref0 rfl, ref0 rfl, ref0 rfl, ref0 rfl, ref0 rfl, trivial⟩ ?_
  rintro i hi
  by_cases g1 : i < 16
  · have g1' : (i : Int) < 16 := by omega
    have e1 : (i : Int) + 1 = ((i + 1 : Nat) : Int) := by omega
    have g1k : i < (List.replicate 16 ()).length := g1
    focus (
 (refine W.seq (W.region (Jx.lssI rfl rfl rfl (J.nil (N.seq (W.seq (W.cT rfl ?_)))))))
 (refine W.skip (N.seq (W.seq (W.block (W.seq (W.region (Jx.move rfl rfl ?_)))))))
 (refine Jx.indexAg (fun _ : Unit => nilP) () i rfl rfl rfl g1 g1k rfl ?_)
 (refine Jx.assign rfl rfl (Jx.assign rfl rfl (J.nil (N.seq (W.seq (W.region (Jx.move rfl rfl (Jx.neqNil rfl rfl ?_))))))))
 (refine J.nil (N.seq (W.cF rfl ?_)))
 (refine W.skip (N.seq (W.region ?_)))
 (refine Jx.add64 rfl rfl (by omega) rfl ?_; rw [e1])
 (refine Jx.move rfl rfl (J.nil ?_))
 (refine id ?_; rotate_left))
    exact N.round (i + 1) g1 (by omega) rfl ⟨ref0 rfl, ref0 rfl, ref0 rfl, ref0 rfl, ref0 rfl, trivial⟩
  · have g1' : ¬ (i : Int) < 16 := by omega
    focus (
 (refine W.seq (W.region (Jx.lssI rfl rfl rfl (J.nil (N.seq (W.seq (W.cF rfl ?_)))))))
 (refine W.exit (N.seq (W.seq (W.seq (W.region (Jx.fieldAddr rfl rfl ?_))))))
 (refine Jx.load rfl 2 rfl rfl rfl ?_)
 (refine Jx.neqS rfl rfl rfl (J.nil (N.seq (W.cT rfl ?_))))
 (refine W.region (Jx.move rfl rfl (Jx.nilCheck rfl rfl ?_)))
 (refine Jx.fieldAddr rfl rfl ?_)
 (refine Jx.load rfl 0 rfl rfl rfl ?_)
 (refine Jx.add64 rfl rfl (by omega) rfl ?_)
 (refine Jx.nilCheck rfl rfl ?_)
 (refine Jx.fieldAddr rfl rfl ?_)
 (refine J.st 0 rfl rfl rfl rfl rfl rfl ?_)
 (refine J.nil (N.seq (W.seq (W.region (Jx.move rfl rfl (Jx.move rfl rfl (Jx.nilCheck rfl rfl ?_)))))))
 (refine Jx.fieldAddr rfl rfl ?_)
 (refine Jx.loadAg rfl 0 rfl rfl rfl rfl ?_)
 (refine J.call (Lc := []) ce rfl (evs_args rfl) rfl ?_; rintro _ _ ⟨rfl, rfl⟩; rw [List.nil_append])
 (refine Jx.move rfl rfl (Jx.extract rfl rfl rfl ?_))
 (refine Jx.extract rfl rfl rfl ?_)
 (refine Jx.nilCheck rfl rfl ?_)
 (refine Jx.fieldAddr rfl rfl ?_)
 (refine J.st 0 rfl rfl rfl rfl rfl rfl ?_)
 (refine J.nil (N.seq (W.seq (W.region (Jx.move rfl rfl (Jx.move rfl rfl (Jx.nilCheck rfl rfl ?_)))))))
 (refine Jx.fieldAddr rfl rfl ?_)
 (refine Jx.loadAg rfl 0 rfl rfl rfl rfl ?_)
 (refine J.call (Lc := []) cd rfl (evs_args rfl) rfl ?_; rintro _ _ ⟨rfl, rfl⟩; rw [List.nil_append])
 (refine Jx.nilCheck rfl rfl ?_)
 (refine Jx.fieldAddr rfl rfl ?_)
 (refine J.st 0 rfl rfl rfl rfl rfl rfl ?_)
 (refine J.nil (N.seq (W.seq (W.region (Jx.move rfl rfl (Jx.assign rfl rfl (J.nil (N.seq (W.ret ?_)))))))))
 (refine id ?_; rotate_left))
    exact N.retD (rs := [.tmp 4]) (L1 := [_]) rfl (.tmp rfl .nil) (List.sublist_append_left [_] [_, _]) ⟨p11, rfl, rfl⟩
end Go.Proofs.YtaflklbmdbmjbaaGreatDoor
namespace Go.Proofs.YtaflklbmdbmjbaaGreatDoor
open Go Go.Sse
set_option linter.unusedVariables false
set_option linter.unusedSimpArgs false
set_option maxRecDepth 10000
structure LeafOK (p v : Bs) : Prop where
  fine : fineNd (leafN p v) = true
  fit : fitN p = true
  len : p.length = 2
  vlen : v.length ≤ 32
  v0 : v ≠ []
  t1 : (textB ([32] ++ joinN p)).length ≤ 1000
  t2 : (textB v).length ≤ 1000
abbrev tTr : Nat := 89
abbrev lfK (b : Nat) (p v : Bs) : Own := knO b p v (leafT p v) (sumD 1 (leafT p v)) 1
theorem tied_ok' {p v : Bs} (h : LeafOK p v) : FnC Tryz.prog 67 [.agg (ndC (leafN p v)), .agg kids0] [] (fun r L => ∃ b, r = ptr b ∧ L = [lfK b p v]) :=
  tied_ok p v h.fine h.fit h.len h.vlen h.v0 h.t1 h.t2
theorem leaf_ok {p v : Bs} (h : LeafOK p v) : FnC Tryz.prog 85 [str p, str v] [] (fun r L => ∃ b, r = ptr b ∧ L = [lfK b p v]) := by
  have c := tied_ok' h
  refine FnC.intro Tryz.func85 rfl Tryz.ntmps85 rfl fun Z w0 hG => ?_
  focus (
 (refine W.seq (W.region (Jx.assign rfl rfl (J.nil (N.seq (W.seq (W.region (Jx.move rfl rfl (Jx.move rfl rfl (Jx.buildB rfl rfl rfl rfl rfl ?_))))))))))
 (refine Jx.buildA rfl rfl rfl rfl rfl ?_)
 (refine J.call (Lc := []) c rfl (evs_args rfl) rfl ?_; rintro _ _ ⟨b, rfl, rfl⟩; rw [List.append_nil])
 (refine Jx.assign rfl rfl (J.nil (N.seq (W.ret ?_))))
 (refine id ?_; rotate_left))
  exact N.ret (rs := [.tmp 4]) rfl (.tmp rfl .nil) ⟨b, rfl, rfl⟩
theorem kput_ok {p v : Bs} (h : LeafOK p v) : FnC Tryz.prog 60 [nilP, str p, str v] [] (fun r L => ∃ b, r = ptr b ∧ L = [lfK b p v]) := by
  have c := leaf_ok h
  refine FnC.intro Tryz.func60 rfl Tryz.ntmps60 rfl fun Z w0 hG => ?_
  focus (
 (refine W.seq (W.region (Jx.assign rfl rfl (J.nil (N.seq (W.seq (W.seq (W.region (Jx.move rfl rfl (Jx.eqlNil rfl rfl ?_))))))))))
 (refine J.nil (N.seq (W.cT rfl ?_)))
 (refine W.seq (W.region (Jx.move rfl rfl (Jx.move rfl rfl ?_))))
 (refine J.call (Lc := []) c rfl (evs_args rfl) rfl ?_; rintro _ _ ⟨b, rfl, rfl⟩; rw [List.append_nil])
 (refine Jx.assign rfl rfl (J.nil (N.seq (W.ret (N.noGotoRet ?_)))))
 (refine id ?_; rotate_left))
  exact N.ret (rs := [.tmp 6]) rfl (.tmp rfl .nil) ⟨b, rfl, rfl⟩
theorem tlen_ok (t : Nat) : FnC Tryz.prog 58 [ptr t] [.obj t tTr [nilP]] (fun r L => r = int 0 ∧ L = [.obj t tTr [nilP]]) := by
  refine FnC.intro Tryz.func58 rfl Tryz.ntmps58 rfl fun Z w0 hG => ?_
  focus (
 (refine W.seq (W.region (Jx.assign rfl rfl (J.nil (N.seq (W.seq (W.seq (W.region (Jx.move rfl rfl (Jx.nilCheck rfl rfl ?_))))))))))
 (refine Jx.fieldAddr rfl rfl ?_)
 (refine Jx.load rfl 0 rfl rfl rfl ?_)
 (refine Jx.eqlNil rfl rfl ?_)
 (refine J.nil (N.seq (W.cT rfl ?_)))
 (refine W.seq (W.region (Jx.assign rfl rfl (J.nil (N.seq (W.ret (N.noGotoRet ?_)))))))
 (refine id ?_; rotate_left))
  exact N.ret (rs := [.tmp 2]) rfl (.tmp rfl .nil) ⟨rfl, rfl⟩
set_option maxHeartbeats 4000000 in
theorem tput_ok (t : Nat) {k v : Bs} (hk0 : k ≠ []) (hk8 : k.length ≤ 8) (h : LeafOK (ofN k) v) : FnC Tryz.prog 36 [ptr t, str k, str v] [.obj t tTr [nilP]] (fun r L => ∃ b c, r = .tup [ptr c, int 0] ∧ L = [.obj c tTr [ptr b], lfK b (ofN k) v, .obj t tTr [nilP]]) := by
  have ck := tkeyed_ok k
  rw [decide_eq_true hk0, decide_eq_true (show (k.length : Int) ≤ 8 by omega)] at ck
  have co := of_ok k (by omega)
  have cl := tlen_ok t
  have cp := kput_ok h
  have g1 : ¬ v = [] := h.v0
  have g2 : ¬ (32 : Int) < (v.length : Int) := by have := h.vlen; omega
  refine FnC.intro Tryz.func36 rfl Tryz.ntmps36 rfl fun Z w0 hG => ?_
  focus (
 (refine W.seq (W.region (Jx.assign rfl rfl (Jx.assign rfl rfl (J.nil (N.seq (W.seq (W.seq (W.region (Jx.move rfl rfl ?_))))))))))
 (refine J.call (Lc := []) ck rfl (evs_args rfl) rfl ?_; rintro _ _ ⟨rfl, rfl⟩; rw [List.nil_append])
 (refine Jx.not rfl rfl (J.nil (N.seq (W.cF rfl ?_))))
 (refine W.skip (N.seq (W.seq (W.seq (W.region (Jx.move rfl rfl (Jx.eqlS rfl rfl rfl (Jx.move rfl rfl (J.gY rfl rfl rfl ?_)))))))))
 (refine Jx.move rfl rfl (J.gY rfl rfl rfl ?_))
 (refine Jx.lenS rfl rfl ?_)
 (refine J.gY rfl rfl rfl ?_)
 (refine Jx.gtrI rfl rfl rfl (Jx.pF rfl rfl rfl ?_))
 (refine J.nil (N.seq (W.cF rfl ?_)))
 (refine W.skip (N.seq (W.seq (W.region (Jx.move rfl rfl ?_)))))
 (refine J.call (Lc := []) co rfl (evs_args rfl) rfl ?_; rintro _ _ ⟨rfl, rfl⟩; rw [List.nil_append])
 (refine Jx.assign rfl rfl (J.nil (N.seq (W.seq (W.seq (W.region (Jx.move rfl rfl ?_)))))))
 (refine J.call (Lc := [_]) cl rfl (evs_args rfl) rfl ?_; rintro _ _ ⟨rfl, rfl⟩; rw [List.singleton_append])
 (refine Jx.geqI rfl rfl rfl (Jx.move rfl rfl (J.gN rfl rfl rfl rfl ?_)))
 (refine J.gN rfl rfl rfl rfl ?_)
 (refine J.gN rfl rfl rfl rfl ?_)
 (refine J.gN rfl rfl rfl rfl ?_)
 (refine J.gN rfl rfl rfl rfl ?_)
 (refine J.gN rfl rfl rfl rfl ?_)
 (refine J.gN rfl rfl rfl rfl ?_)
 (refine Jx.pF rfl rfl rfl ?_)
 (refine J.nil (N.seq (W.cF rfl ?_)))
 (refine W.skip (N.seq (W.seq (W.region (Jx.move rfl rfl (Jx.nilCheck rfl rfl ?_))))))
 (refine Jx.fieldAddr rfl rfl ?_)
 (refine Jx.load rfl 0 rfl rfl rfl ?_)
 (refine Jx.move rfl rfl (Jx.move rfl rfl ?_))
 (refine J.call (Lc := []) cp rfl (evs_args rfl) rfl ?_; rintro _ _ ⟨b, rfl, rfl⟩; rw [List.singleton_append])
 (refine Jx.buildB rfl rfl rfl rfl rfl ?_)
 (refine J.boxAg (d := 41) rfl rfl ?_; intro p41)
 (refine Jx.assign rfl rfl (Jx.assign rfl rfl (J.nil (N.seq (W.ret ?_)))))
 (refine id ?_; rotate_left))
  exact N.ret (rs := [.tmp 6, .tmp 7]) rfl (.tmp rfl (.tmp rfl .nil)) ⟨b, p41, rfl, rfl⟩
theorem tnew_ok : FnC Tryz.prog 23 [] [] (fun r L => ∃ t, r = ptr t ∧ L = [.obj t tTr [nilP]]) := by
  refine FnC.intro Tryz.func23 rfl Tryz.ntmps23 rfl fun Z w0 hG => ?_
  focus (
 (refine W.seq (W.region (Jx.assign rfl rfl (J.nil (N.seq (W.seq (W.region (Jx.buildB rfl rfl rfl rfl rfl ?_))))))))
 (refine J.boxAg (d := 2) rfl rfl ?_; intro p2)
 (refine Jx.assign rfl rfl (J.nil (N.seq (W.ret ?_))))
 (refine id ?_; rotate_left))
  exact N.ret (rs := [.tmp 0]) rfl (.tmp rfl .nil) ⟨p2, rfl, rfl⟩
abbrev tSt : Nat := 86
abbrev mapP (m : Nat) : SV := .val (.map (some m))
theorem snew_ok : FnC Tryz.prog 22 [] [] (fun r L => ∃ s m, r = ptr s ∧ L = [.obj s tSt [mapP m], mapO m []]) := by
  refine FnC.intro Tryz.func22 rfl Tryz.ntmps22 rfl fun Z w0 hG => ?_
  focus (
 (refine W.seq (W.region (Jx.assign rfl rfl (J.nil (N.seq (W.seq (W.region ?_)))))))
 (refine J.makeMap rfl ?_; intro m1)
 (refine Jx.buildB rfl rfl rfl rfl rfl ?_)
 (refine J.boxAg (d := 3) rfl rfl ?_; intro p3)
 (refine Jx.assign rfl rfl (J.nil (N.seq (W.ret ?_))))
 (refine id ?_; rotate_left))
  exact N.ret (rs := [.tmp 0]) rfl (.tmp rfl .nil) ⟨p3, m1, rfl, rfl⟩
end Go.Proofs.YtaflklbmdbmjbaaGreatDoor
namespace Go.Proofs.YtaflklbmdbmjbaaGreatDoor
open Go Go.Sse
set_option linter.unusedVariables false
set_option linter.unusedSimpArgs false
set_option maxRecDepth 10000
noncomputable instance : TZero Tryz.prog 69 (.slice none 0 0) := ⟨by kernel_rfl⟩
abbrev mapS (m : Nat) (l : List (Bs × Value)) : Own := mapO m (l.map fun p => (sv p.1, p.2))
abbrev rowB (u : Value) (T : Bs) : Own := .row u 5 1 T.length (elOf encB 0 T)
set_option maxHeartbeats 4000000 in
theorem sput_ok (s m : Nat) (T : Bs) (hT : T.length ≤ 100000) : FnC Tryz.prog 39 [ptr s, str T] [.obj s tSt [mapP m], mapS m []] (fun r L => ∃ u, r = str (sumD 1 T) ∧ L = [rowB u T, .obj s tSt [mapP m], mapS m [(sumD 1 T, u)]]) := by
  have cd := dsum_ok 1 T (by decide) (by decide) (by omega)
  have hmx : T.length ≤ maxLen := by simp only [maxLen]; omega
  have hlk : lk ([] : List (Bs × Value)) (sumD 1 T) = none := rfl
  generalize sumD 1 T = D at *
  refine FnC.intro Tryz.func39 rfl Tryz.ntmps39 rfl fun Z w0 hG => ?_
  focus (
 (refine W.seq (W.region (Jx.assign rfl rfl (J.nil (N.seq (W.seq (W.region (Jx.move rfl rfl ?_))))))))
 (refine J.call (Lc := []) cd rfl (evs_args rfl) rfl ?_; rintro _ _ ⟨rfl, rfl⟩; rw [List.nil_append])
 (refine Jx.move rfl rfl (Jx.extract rfl rfl rfl ?_))
 (refine Jx.extract rfl rfl rfl ?_)
 (refine Jx.assign rfl rfl (Jx.assign rfl rfl (J.nil (N.seq (W.seq (W.seq (W.region (Jx.move rfl rfl (Jx.nilCheck rfl rfl ?_)))))))))
 (refine Jx.fieldAddr rfl rfl ?_)
 (refine Jx.load rfl 0 rfl rfl rfl ?_)
 (refine Jx.move rfl rfl ?_)
 (refine Jx.lookupS (l := []) rfl rfl 1 rfl rfl ?_; rw [hlk])
 (refine Jx.move rfl rfl (Jx.extract rfl rfl rfl ?_))
 (refine Jx.extract rfl rfl rfl ?_)
 (refine Jx.assign rfl rfl (Jx.assign rfl rfl (J.nil (N.seq (W.seq (W.region (Jx.move rfl rfl (Jx.not rfl rfl (J.nil (N.seq (W.cT rfl ?_)))))))))))
 (refine W.region (Jx.move rfl rfl (Jx.nilCheck rfl rfl ?_)))
 (refine Jx.fieldAddr rfl rfl ?_)
 (refine Jx.load rfl 0 rfl rfl rfl ?_)
 (refine Jx.move rfl rfl (Jx.move rfl rfl ?_))
 (refine J.strBytes rfl hmx rfl ?_; intro u)
 (refine J.mapUpdS (l := []) rfl rfl rfl 2 rfl hlk rfl ?_)
 (refine J.nil (N.seq (W.seq (W.region (Jx.move rfl rfl (Jx.assign rfl rfl (J.nil (N.seq (W.ret ?_)))))))))
 (refine id ?_; rotate_left))
  exact N.ret (rs := [.tmp 4]) rfl (.tmp rfl .nil) ⟨u, rfl, rfl⟩
theorem nodes1_ok (at' : Bs) : FnC Tryz.prog 63 [str at'] [] (fun r L => r = Sse.bool true ∧ L = []) := by
  refine FnC.intro Tryz.func63 rfl Tryz.ntmps63 rfl fun Z w0 hG => ?_
  focus (
 (refine W.seq (W.region (Jx.assign rfl rfl (J.nil (N.seq (W.seq (W.region (Jx.assign rfl rfl (J.nil (N.seq (W.ret ?_)))))))))))
 (refine id ?_; rotate_left))
  exact N.ret (rs := [.tmp 2]) rfl (.tmp rfl .nil) ⟨rfl, rfl⟩
theorem troot_ok (c b : Nat) (p v T D : Bs) : FnC Tryz.prog 40 [ptr c] [.obj c tTr [ptr b], knO b p v T D 1] (fun r L => r = str D ∧ L = [.obj c tTr [ptr b], knO b p v T D 1]) := by
  refine FnC.intro Tryz.func40 rfl Tryz.ntmps40 rfl fun Z w0 hG => ?_
  focus (
 (refine W.seq (W.region (Jx.assign rfl rfl (J.nil (N.seq (W.seq (W.seq (W.region (Jx.move rfl rfl (Jx.nilCheck rfl rfl ?_))))))))))
 (refine Jx.fieldAddr rfl rfl ?_)
 (refine Jx.load rfl 0 rfl rfl rfl ?_)
 (refine Jx.eqlNil rfl rfl ?_)
 (refine J.nil (N.seq (W.cF rfl ?_)))
 (refine W.skip (N.seq (W.seq (W.region (Jx.move rfl rfl (Jx.nilCheck rfl rfl ?_))))))
 (refine Jx.fieldAddr rfl rfl ?_)
 (refine Jx.load rfl 0 rfl rfl rfl ?_)
 (refine Jx.nilCheck rfl rfl ?_)
 (refine Jx.fieldAddr rfl rfl ?_)
 (refine Jx.load rfl 1 rfl rfl rfl ?_)
 (refine Jx.assign rfl rfl (J.nil (N.seq (W.ret ?_))))
 (refine id ?_; rotate_left))
  exact N.ret (rs := [.tmp 2]) rfl (.tmp rfl .nil) ⟨rfl, rfl⟩
end Go.Proofs.YtaflklbmdbmjbaaGreatDoor
namespace Go.Proofs.YtaflklbmdbmjbaaGreatDoor
open Go Go.Sse
set_option linter.unusedVariables false
set_option linter.unusedSimpArgs false
set_option maxRecDepth 10000
abbrev tFb : Nat := 48
abbrev fvN : Value := .func (.func 63) #[] #[]
abbrev fvR (q : Nat) : Value := .func (.func 43) #[] #[.pointer (some ⟨q, 0, none⟩)]
set_option maxHeartbeats 4000000 in
theorem told1N_ok (b pf po : Nat) (p v T D : Bs) : FnC Tryz.prog 69 [str [], ptr b, ptr pf, ptr po] [knO b p v T D 1, .obj po 22 [.val (.slice none 0 0)], rowT (.slice none 0 0) [], .obj pf tFb [.val fvN]]
    (fun r L => ∃ u, r = Sse.bool true ∧ L = [knO b p v T D 1, .obj po 22 [.val u], rowT u [T], .obj pf tFb [.val fvN]]) := by
  have cf := nodes1_ok []
  have hmx : ([] : List Bs).length + [T].length ≤ maxLen ∧ (([] : List Bs).length + [T].length) * 16 ≤ 140737488355328 := by simp [maxLen]
  refine FnC.intro Tryz.func69 rfl Tryz.ntmps69 rfl fun Z w0 hG => ?_
  focus (
 (refine W.seq (W.region (Jx.assign rfl rfl (J.nil (N.seq (W.seq (W.seq (W.region (Jx.load rfl 3 rfl rfl rfl ?_)))))))))
 (refine Jx.move rfl rfl ?_)
 (refine J.callV (us := []) (vs := []) (args := [str []]) (Lc := []) rfl cf rfl (evs_args rfl) rfl ?_; rintro _ _ ⟨rfl, rfl⟩; rw [List.nil_append])
 (refine Jx.not rfl rfl (J.nil (N.seq (W.cF rfl ?_))))
 (refine W.skip (N.seq (W.seq ?_)))
 (refine W.draw follows ?_)
 (refine JD.till 6 (by decide +kernel) (by decide +kernel) rfl rfl ?_)
 (refine Cx.load rfl 1 rfl rfl rfl ?_)
 (refine Cx.move rfl rfl ?_)
 (refine Cx.nilCheck rfl rfl ?_)
 (refine Cx.fieldAddr rfl rfl ?_)
 (refine Cx.load rfl 0 rfl rfl rfl ?_)
 (refine SegC.q (Qs.buildTexts [T] rfl rfl rfl (by decide) (by decide)) rfl ?_)
 (refine SegC.nil ?_)
 (refine J.appendAt (l := []) (l2 := [T]) 2 rfl rfl (SrcOK.sl rfl) rfl rfl hmx rfl ?_; intro v' hv')
 (refine J.store rfl rfl (One.val hv') 1 rfl rfl rfl rfl ?_)
 (refine J.nil (N.seq (W.seq (W.region (Jx.assign rfl rfl (J.nil (N.seq (W.ret ?_))))))))
 (refine id ?_; rotate_left))
  exact N.ret (rs := [.tmp 6]) rfl (.tmp rfl .nil) ⟨v', rfl, rfl⟩
theorem trail1_ok (q : Nat) (path : Bs) : FnC Tryz.prog 43 [str [], ptr q] [.obj q 9 [str path]] (fun r L => r = Sse.bool true ∧ L = [.obj q 9 [str path]]) := by
  have cc := common_ok [] path (by simp)
  rw [show comN [] path = 0 from by unfold comN; rfl] at cc
  refine FnC.intro Tryz.func43 rfl Tryz.ntmps43 rfl fun Z w0 hG => ?_
  focus (
 (refine W.seq (W.region (Jx.assign rfl rfl (J.nil (N.seq (W.seq (W.region (Jx.move rfl rfl (Jx.load rfl 0 rfl rfl rfl ?_)))))))))
 (refine J.call (Lc := []) cc rfl (evs_args rfl) rfl ?_; rintro _ _ ⟨rfl, rfl⟩; rw [List.nil_append])
 (refine Jx.move rfl rfl (Jx.lenS rfl rfl ?_))
 (refine Jx.eqlI rfl rfl rfl (Jx.assign rfl rfl (J.nil (N.seq (W.ret ?_)))))
 (refine id ?_; rotate_left))
  exact N.ret (rs := [.tmp 3]) rfl (.tmp rfl .nil) ⟨rfl, rfl⟩
set_option maxHeartbeats 4000000 in
theorem told1R_ok (q : Nat) (path : Bs) (b pf po : Nat) (p v T D : Bs) : FnC Tryz.prog 69 [str [], ptr b, ptr pf, ptr po] [knO b p v T D 1, .obj po 22 [.val (.slice none 0 0)], rowT (.slice none 0 0) [], .obj pf tFb [.val (fvR q)], .obj q 9 [str path]]
    (fun r L => ∃ u, r = Sse.bool true ∧ L = [knO b p v T D 1, .obj po 22 [.val u], rowT u [T], .obj pf tFb [.val (fvR q)], .obj q 9 [str path]]) := by
  have cf := trail1_ok q path
  have hmx : ([] : List Bs).length + [T].length ≤ maxLen ∧ (([] : List Bs).length + [T].length) * 16 ≤ 140737488355328 := by simp [maxLen]
  refine FnC.intro Tryz.func69 rfl Tryz.ntmps69 rfl fun Z w0 hG => ?_
  focus (
 (refine W.seq (W.region (Jx.assign rfl rfl (J.nil (N.seq (W.seq (W.seq (W.region (Jx.load rfl 3 rfl rfl rfl ?_)))))))))
 (refine Jx.move rfl rfl ?_)
 (refine J.perm (List.perm_append_comm (l₁ := [_, _, _, _]) (l₂ := [_])) ?_; refine J.callV (us := []) (vs := [.pointer (some ⟨q, 0, none⟩)]) (args := [str []]) (Lc := [_]) rfl cf rfl (evs_args rfl) rfl ?_; rintro _ _ ⟨rfl, rfl⟩; refine J.perm (List.perm_append_comm (l₁ := [_]) (l₂ := [_, _, _, _])) ?_; simp only [List.cons_append, List.nil_append])
 (refine Jx.not rfl rfl (J.nil (N.seq (W.cF rfl ?_))))
 (refine W.skip (N.seq (W.seq ?_)))
 (refine W.draw follows ?_)
 (refine JD.till 6 (by decide +kernel) (by decide +kernel) rfl rfl ?_)
 (refine Cx.load rfl 1 rfl rfl rfl ?_)
 (refine Cx.move rfl rfl ?_)
 (refine Cx.nilCheck rfl rfl ?_)
 (refine Cx.fieldAddr rfl rfl ?_)
 (refine Cx.load rfl 0 rfl rfl rfl ?_)
 (refine SegC.q (Qs.buildTexts [T] rfl rfl rfl (by decide) (by decide)) rfl ?_)
 (refine SegC.nil ?_)
 (refine J.appendAt (l := []) (l2 := [T]) 2 rfl rfl (SrcOK.sl rfl) rfl rfl hmx rfl ?_; intro v' hv')
 (refine J.store rfl rfl (One.val hv') 1 rfl rfl rfl rfl ?_)
 (refine J.nil (N.seq (W.seq (W.region (Jx.assign rfl rfl (J.nil (N.seq (W.ret ?_))))))))
 (refine id ?_; rotate_left))
  exact N.ret (rs := [.tmp 6]) rfl (.tmp rfl .nil) ⟨v', rfl, rfl⟩
end Go.Proofs.YtaflklbmdbmjbaaGreatDoor
namespace Go.Proofs.YtaflklbmdbmjbaaGreatDoor
open Go Go.Sse
set_option linter.unusedVariables false
set_option linter.unusedSimpArgs false
set_option maxRecDepth 10000
theorem walk_nil (at' : Bs) (fv : Value) : FnC Tryz.prog 68 [nilP, str at', .val fv] [] (fun r L => L = []) := by
  refine FnC.intro Tryz.func68 rfl Tryz.ntmps68 rfl fun Z w0 hG => ?_
  focus (
 (refine W.seq (W.seq (W.region (Jx.move rfl rfl (Jx.eqlNil rfl rfl ?_)))))
 (refine Jx.move rfl rfl (J.gN rfl rfl rfl rfl ?_))
 (refine J.gN rfl rfl rfl rfl ?_)
 (refine J.gN rfl rfl rfl rfl ?_)
 (refine J.gN rfl rfl rfl rfl ?_)
 (refine J.gN rfl rfl rfl rfl ?_)
 (refine Jx.pT rfl rfl rfl ?_)
 (refine J.nil (N.seq (W.cT rfl ?_)))
 (refine W.ret (N.noGotoRet ?_))
 (refine id ?_; rotate_left))
  exact N.ret (rs := []) rfl .nil rfl
abbrev fvD (pf po : Nat) : Value := .func (.func 69) #[] #[.pointer (some ⟨pf, 0, none⟩), .pointer (some ⟨po, 0, none⟩)]
set_option maxHeartbeats 4000000 in
theorem walk_ok (b pf po : Nat) (p v T D : Bs) (Lf : List Own) (Lg : Value → List Own) (hf : FnC Tryz.prog 69 [str [], ptr b, ptr pf, ptr po] (knO b p v T D 1 :: Lf) (fun r L => ∃ u, r = Sse.bool true ∧ L = knO b p v T D 1 :: Lg u)) :
    FnC Tryz.prog 68 [ptr b, str [], .val (fvD pf po)] (knO b p v T D 1 :: Lf) (fun r L => ∃ u, L = knO b p v T D 1 :: Lg u) := by
  have cn := fun at' => walk_nil at' (fvD pf po)
  refine FnC.intro Tryz.func68 rfl Tryz.ntmps68 rfl fun Z w0 hG => ?_
  focus (
 (refine W.seq (W.seq (W.region (Jx.move rfl rfl (Jx.eqlNil rfl rfl ?_)))))
 (refine Jx.move rfl rfl (J.gY rfl rfl rfl ?_))
 (refine Jx.move rfl rfl (J.gY rfl rfl rfl ?_))
 (refine Jx.move rfl rfl (J.gY rfl rfl rfl ?_))
 (refine Jx.move rfl rfl (J.gY rfl rfl rfl ?_))
 (refine J.callV (us := []) (vs := [.pointer (some ⟨pf, 0, none⟩), .pointer (some ⟨po, 0, none⟩)]) (args := [str [], ptr b]) (Lc := knO b p v T D 1 :: Lf) rfl hf (List.append_nil _).symm (evs_args rfl) rfl ?_; rintro _ _ ⟨u, rfl, rfl⟩; rw [List.append_nil])
 (refine J.gY rfl rfl rfl ?_)
 (refine Jx.not rfl rfl (Jx.pF rfl rfl rfl ?_))
 (refine J.nil (N.seq (W.cF rfl ?_)))
 (refine W.skip (N.seq (W.seq (W.seq (W.region (Jx.move rfl rfl (Jx.nilCheck rfl rfl ?_)))))))
 (refine Jx.fieldAddr rfl rfl ?_)
 (refine Jx.fieldAddr rfl rfl ?_)
 (refine Jx.load rfl 0 rfl rfl rfl ?_)
 (refine Jx.eqlI rfl rfl rfl (J.nil (N.seq (W.cF rfl ?_))))
 (refine W.skip (N.seq (W.seq (W.region (Jx.move rfl rfl (Jx.nilCheck rfl rfl ?_))))))
 (refine Jx.fieldAddr rfl rfl ?_)
 (refine Jx.loadAg rfl 0 rfl rfl rfl rfl ?_)
 (refine Jx.move rfl rfl (J.nil (N.seq (W.block ?_))))
 (refine id ?_; rotate_left))
  refine W.loop (α := Nat) (fun i => [(41, int (i : Int)), (40, .agg kids0), (1, str []), (2, .val (fvD pf po))]) (fun _ => knO b p v T D 1 :: Lg u) (fun i => i ≤ 16) (fun i => 16 - i) 0 (Nat.zero_le _) rfl ⟨ref0 rfl, ref0 rfl, ref0 rfl, ref0 rfl, trivial⟩ ?_
  rintro i hi
  by_cases g1 : i < 16
  · have g1' : (i : Int) < 16 := by omega
    have e1 : (i : Int) + 1 = ((i + 1 : Nat) : Int) := by omega
    have g1k : i < (List.replicate 16 ()).length := g1
    have hcl : ([] : Bs).length + [UInt8.ofNat i].length ≤ 9223372036854775807 := by simp
    have cn1 := cn ([] ++ [UInt8.ofNat i])
    focus (
 (refine W.seq (W.region (Jx.lssI rfl rfl rfl (J.nil (N.seq (W.seq (W.cT rfl ?_)))))))
 (refine W.skip (N.seq (W.seq (W.block (W.seq (W.region (Jx.move rfl rfl ?_)))))))
 (refine Jx.indexAg (fun _ : Unit => nilP) () i rfl rfl rfl g1 g1k rfl ?_)
 (refine Jx.assign rfl rfl (Jx.assign rfl rfl (J.nil (N.seq (W.region (Jx.move rfl rfl (Jx.move rfl rfl (Jx.move rfl rfl ?_))))))))
 (refine Jx.numByte i rfl rfl rfl rfl ?_)
 (refine J.qs (Qs.buildBytes [UInt8.ofNat i] rfl rfl rfl (by decide) (by decide)) rfl ?_)
 (refine Jx.bytesStr rfl rfl ?_)
 (refine Jx.cat rfl rfl hcl rfl ?_)
 (refine Jx.move rfl rfl ?_)
 (refine J.call (Lc := []) cn1 rfl (evs_args rfl) rfl ?_; rintro _ _ rfl; rw [List.nil_append])
 (refine J.nil (N.seq (W.region ?_)))
 (refine Jx.add64 rfl rfl (by omega) rfl ?_; rw [e1])
 (refine Jx.move rfl rfl (J.nil ?_))
 (refine id ?_; rotate_left))
    exact N.round (i + 1) g1 (by omega) rfl ⟨ref0 rfl, ref0 rfl, ref0 rfl, ref0 rfl, trivial⟩
  · have g1' : ¬ (i : Int) < 16 := by omega
    focus (
 (refine W.seq (W.region (Jx.lssI rfl rfl rfl (J.nil (N.seq (W.seq (W.cF rfl ?_)))))))
 (refine W.exit (N.seqExit (N.seqExit (N.blockHere ?_))))
 (refine id ?_; rotate_left))
    exact N.ret (rs := []) rfl .nil ⟨u, rfl⟩
end Go.Proofs.YtaflklbmdbmjbaaGreatDoor
namespace Go.Proofs.YtaflklbmdbmjbaaGreatDoor
open Go Go.Sse
set_option linter.unusedVariables false
set_option linter.unusedSimpArgs false
set_option maxRecDepth 10000
theorem perm_told (r o f c k : Own) : [r, o, f, c, k].Perm ([k, o, r, f] ++ [c]) :=
  (List.perm_append_comm (l₁ := [r, o, f, c]) (l₂ := [k])).trans ((List.Perm.swap o r [f, c]).cons k)
set_option maxHeartbeats 4000000 in
theorem toldN_ok (b c : Nat) (p v T D : Bs) : FnC Tryz.prog 42 [ptr c, .val fvN] [.obj c tTr [ptr b], knO b p v T D 1] (fun r L => r = ssl [T] ∧ L = [.obj c tTr [ptr b], knO b p v T D 1]) := by
  have cw := fun pf po => walk_ok b pf po p v T D [.obj po 22 [.val (.slice none 0 0)], rowT (.slice none 0 0) [], .obj pf tFb [.val fvN]] (fun u => [.obj po 22 [.val u], rowT u [T], .obj pf tFb [.val fvN]]) (told1N_ok b pf po p v T D)
  refine FnC.intro Tryz.func42 rfl Tryz.ntmps42 rfl fun Z w0 hG => ?_
  focus (
 (refine W.seq (W.region ?_))
 (refine J.boxSc (d := 3) rfl (One.val rfl) rfl ?_; intro p3)
 (refine Jx.assign rfl rfl (J.nil (N.seq (W.seq (W.region ?_)))))
 (refine J.alloc (d := 5) (by simp only [List.map_cons, List.map_nil]; rfl) rfl rfl ?_; intro p5)
 (refine J.nil (N.seq (W.seq (W.region (Jx.move rfl rfl (Jx.nilCheck rfl rfl ?_))))))
 (refine Jx.fieldAddr rfl rfl ?_)
 (refine Jx.load rfl 2 rfl rfl rfl ?_)
 (refine Jx.makeFunc (us := []) (vs := [.pointer (some ⟨p3, 0, none⟩), .pointer (some ⟨p5, 0, none⟩)]) .nil (evs_args rfl) (fun _ => rfl) rfl ?_; refine J.rowNil 9 1 (elOf encS [] []) ?_; refine J.perm (perm_told _ _ _ _ _) ?_)
 (refine J.call (Lc := [_, _, _, _]) (cw p3 p5) rfl (evs_args rfl) rfl ?_; rintro _ _ ⟨u, rfl⟩; simp only [List.cons_append, List.nil_append])
 (refine J.nil (N.seq (W.seq (W.region (Jx.load rfl 1 rfl rfl rfl ?_)))))
 (refine Jx.assign rfl rfl (J.nil (N.seq (W.ret ?_))))
 (refine id ?_; rotate_left))
  refine N.perm (List.perm_append_comm (l₁ := [_, _]) (l₂ := [_, _, _])) ?_
  refine N.freeze 4 rfl (by simp [maxLen]) ?_
  exact N.retD (rs := [.tmp 4]) (L1 := [.obj c tTr [ptr b], knO b p v T D 1]) rfl (.tmp rfl .nil) (.cons _ (.cons_cons _ (.cons_cons _ (.cons _ .slnil)))) ⟨rfl, rfl⟩
theorem perm_toldR (r o f c k q : Own) : [r, o, f, c, k, q].Perm ([k, o, r, f, q] ++ [c]) :=
  ((perm_told r o f c k).append_right [q]).trans ((List.perm_append_comm (l₁ := [c]) (l₂ := [q])).append_left [k, o, r, f])
set_option maxHeartbeats 4000000 in
theorem toldR_ok (q : Nat) (path : Bs) (b c : Nat) (p v T D : Bs) : FnC Tryz.prog 42 [ptr c, .val (fvR q)] [.obj c tTr [ptr b], knO b p v T D 1, .obj q 9 [str path]] (fun r L => r = ssl [T] ∧ L = [.obj q 9 [str path], .obj c tTr [ptr b], knO b p v T D 1]) := by
  have cw := fun pf po => walk_ok b pf po p v T D [.obj po 22 [.val (.slice none 0 0)], rowT (.slice none 0 0) [], .obj pf tFb [.val (fvR q)], .obj q 9 [str path]] (fun u => [.obj po 22 [.val u], rowT u [T], .obj pf tFb [.val (fvR q)], .obj q 9 [str path]]) (told1R_ok q path b pf po p v T D)
  refine FnC.intro Tryz.func42 rfl Tryz.ntmps42 rfl fun Z w0 hG => ?_
  focus (
 (refine W.seq (W.region ?_))
 (refine J.boxSc (d := 3) rfl (One.val rfl) rfl ?_; intro p3)
 (refine Jx.assign rfl rfl (J.nil (N.seq (W.seq (W.region ?_)))))
 (refine J.alloc (d := 5) (by simp only [List.map_cons, List.map_nil]; rfl) rfl rfl ?_; intro p5)
 (refine J.nil (N.seq (W.seq (W.region (Jx.move rfl rfl (Jx.nilCheck rfl rfl ?_))))))
 (refine Jx.fieldAddr rfl rfl ?_)
 (refine Jx.load rfl 2 rfl rfl rfl ?_)
 (refine Jx.makeFunc (us := []) (vs := [.pointer (some ⟨p3, 0, none⟩), .pointer (some ⟨p5, 0, none⟩)]) .nil (evs_args rfl) (fun _ => rfl) rfl ?_; refine J.rowNil 9 1 (elOf encS [] []) ?_; refine J.perm (perm_toldR _ _ _ _ _ _) ?_)
 (refine J.call (Lc := [_, _, _, _, _]) (cw p3 p5) rfl (evs_args rfl) rfl ?_; rintro _ _ ⟨u, rfl⟩; simp only [List.cons_append, List.nil_append])
 (refine J.nil (N.seq (W.seq (W.region (Jx.load rfl 1 rfl rfl rfl ?_)))))
 (refine Jx.assign rfl rfl (J.nil (N.seq (W.ret ?_))))
 (refine id ?_; rotate_left))
  refine N.perm (List.perm_append_comm (l₁ := [_, _]) (l₂ := [_, _, _, _])) ?_
  refine N.freeze 4 rfl (by simp [maxLen]) ?_
  exact N.retD (rs := [.tmp 4]) (L1 := [.obj q 9 [str path], .obj c tTr [ptr b], knO b p v T D 1]) rfl (.tmp rfl .nil) (.cons _ (.cons_cons _ (.cons_cons _ (.cons_cons _ (.cons _ .slnil))))) ⟨rfl, rfl⟩
end Go.Proofs.YtaflklbmdbmjbaaGreatDoor
namespace Go.Proofs.YtaflklbmdbmjbaaGreatDoor
open Go Go.Sse
set_option linter.unusedVariables false
set_option linter.unusedSimpArgs false
set_option maxRecDepth 10000
theorem nodes_ok (b c : Nat) (p v T D : Bs) : FnC Tryz.prog 38 [ptr c] [.obj c tTr [ptr b], knO b p v T D 1] (fun r L => r = ssl [T] ∧ L = [.obj c tTr [ptr b], knO b p v T D 1]) := by
  have ct := toldN_ok b c p v T D
  refine FnC.intro Tryz.func38 rfl Tryz.ntmps38 rfl fun Z w0 hG => ?_
  focus (
 (refine W.seq (W.region (Jx.assign rfl rfl (J.nil (N.seq (W.seq (W.region (Jx.move rfl rfl ?_))))))))
 (refine J.call (Lc := [_, _]) ct rfl (evs_args rfl) rfl ?_; rintro _ _ ⟨rfl, rfl⟩; simp only [List.cons_append, List.nil_append])
 (refine Jx.assign rfl rfl (J.nil (N.seq (W.ret ?_))))
 (refine id ?_; rotate_left))
  exact N.ret (rs := [.tmp 2]) rfl (.tmp rfl .nil) ⟨rfl, rfl⟩
theorem trail_ok (b c : Nat) (p v T D k : Bs) (hk : k.length ≤ 1000000) : FnC Tryz.prog 28 [ptr c, str k] [.obj c tTr [ptr b], knO b p v T D 1] (fun r L => r = ssl [T] ∧ L = [.obj c tTr [ptr b], knO b p v T D 1]) := by
  have co := of_ok k (by omega)
  have ct := fun q => toldR_ok q (ofN k) b c p v T D
  refine FnC.intro Tryz.func28 rfl Tryz.ntmps28 rfl fun Z w0 hG => ?_
  focus (
 (refine W.seq (W.region (Jx.assign rfl rfl (J.nil (N.seq (W.seq (W.region (Jx.move rfl rfl ?_))))))))
 (refine J.call (Lc := []) co rfl (evs_args rfl) rfl ?_; rintro _ _ ⟨rfl, rfl⟩; rw [List.nil_append])
 (refine J.alloc (d := 5) (by simp only [List.map_cons, List.map_nil]; rfl) rfl rfl ?_; intro p5)
 (refine J.st 0 rfl rfl rfl rfl rfl rfl ?_)
 (refine J.nil (N.seq (W.seq (W.region (Jx.move rfl rfl ?_)))))
 (refine Jx.makeFunc (us := []) (vs := [.pointer (some ⟨p5, 0, none⟩)]) .nil (evs_args rfl) (fun _ => rfl) rfl ?_; refine J.perm (List.perm_append_comm (l₁ := [_]) (l₂ := [_, _])) ?_)
 (refine J.call (Lc := [_, _, _]) (ct p5) rfl (evs_args rfl) rfl ?_; rintro _ _ ⟨rfl, rfl⟩; simp only [List.cons_append, List.nil_append])
 (refine Jx.assign rfl rfl (J.nil (N.seq (W.ret ?_))))
 (refine id ?_; rotate_left))
  exact N.retD (rs := [.tmp 4]) (L1 := [_, _]) rfl (.tmp rfl .nil) (List.sublist_cons_self _ _) ⟨rfl, rfl⟩
theorem prove_ok (b c : Nat) (p v T D k : Bs) (hk0 : k ≠ []) (hk : k.length ≤ 8) : FnC Tryz.prog 12 [ptr c, str k] [.obj c tTr [ptr b], knO b p v T D 1] (fun r L => r = .tup [ssl [T], int 0] ∧ L = [.obj c tTr [ptr b], knO b p v T D 1]) := by
  have ck := keyed_ok k
  rw [decide_eq_true hk0, decide_eq_true (show (k.length : Int) ≤ 8 by omega)] at ck
  have ct := trail_ok b c p v T D k (by omega)
  refine FnC.intro Tryz.func12 rfl Tryz.ntmps12 rfl fun Z w0 hG => ?_
  focus (
 (refine W.seq (W.region (Jx.assign rfl rfl (Jx.assign rfl rfl (J.nil (N.seq (W.seq (W.seq (W.region (Jx.move rfl rfl ?_))))))))))
 (refine J.call (Lc := []) ck rfl (evs_args rfl) rfl ?_; rintro _ _ ⟨rfl, rfl⟩; rw [List.nil_append])
 (refine Jx.not rfl rfl (J.nil (N.seq (W.cF rfl ?_))))
 (refine W.skip (N.seq (W.seq (W.region (Jx.move rfl rfl (Jx.move rfl rfl ?_))))))
 (refine J.call (Lc := [_, _]) ct rfl (evs_args rfl) rfl ?_; rintro _ _ ⟨rfl, rfl⟩; simp only [List.cons_append, List.nil_append])
 (refine Jx.assign rfl rfl (Jx.assign rfl rfl (J.nil (N.seq (W.ret ?_)))))
 (refine id ?_; rotate_left))
  exact N.ret (rs := [.tmp 4, .tmp 5]) rfl (.tmp rfl (.tmp rfl .nil)) ⟨rfl, rfl⟩
end Go.Proofs.YtaflklbmdbmjbaaGreatDoor
namespace Go.Proofs.YtaflklbmdbmjbaaGreatDoor
open Go Go.Sse
set_option linter.unusedVariables false
set_option linter.unusedSimpArgs false
set_option maxRecDepth 10000
abbrev tVe : Nat := 66
abbrev versO (x s mv t : Nat) (last : Int) : Own := .obj x tVe [ptr s, mapP mv, ptr t, int last, int 0]
theorem vnew_ok : FnC Tryz.prog 9 [] [] (fun r L => ∃ x s m mv t, r = ptr x ∧ L = [versO x s mv t (-1), .obj t tTr [nilP], mapO mv [], .obj s tSt [mapP m], mapO m []]) := by
  have c1 := snew_ok
  have c2 := tnew_ok
  refine FnC.intro Tryz.func9 rfl Tryz.ntmps9 rfl fun Z w0 hG => ?_
  focus (
 (refine W.seq (W.region (Jx.assign rfl rfl (J.nil (N.seq (W.seq (W.region ?_)))))))
 (refine J.call (Lc := []) c1 rfl (evs_args rfl) rfl ?_; rintro _ _ ⟨s, m, rfl, rfl⟩; simp only [List.cons_append, List.nil_append])
 (refine J.makeMap rfl ?_; intro mv)
 (refine J.call (Lc := []) c2 rfl (evs_args rfl) rfl ?_; rintro _ _ ⟨t, rfl, rfl⟩; simp only [List.cons_append, List.nil_append])
 (refine Jx.buildB rfl rfl rfl rfl rfl ?_)
 (refine J.boxAg (d := 5) rfl rfl ?_; intro p5)
 (refine Jx.assign rfl rfl (J.nil (N.seq (W.ret ?_))))
 (refine id ?_; rotate_left))
  exact N.ret (rs := [.tmp 0]) rfl (.tmp rfl .nil) ⟨p5, s, m, mv, t, rfl, rfl⟩
end Go.Proofs.YtaflklbmdbmjbaaGreatDoor
namespace Go.Proofs.YtaflklbmdbmjbaaGreatDoor
open Go Go.Sse
set_option linter.unusedVariables false
set_option linter.unusedSimpArgs false
set_option maxRecDepth 10000
def savL (b c s m : Nat) (p v T D : Bs) : Option Value → List Own
  | none => [.obj c tTr [ptr b], knO b p v T D 1, .obj s tSt [mapP m], mapS m []]
  | some u => [.obj c tTr [ptr b], knO b p v T D 1, rowB u T, .obj s tSt [mapP m], mapS m [(sumD 1 T, u)]]
set_option maxHeartbeats 4000000 in
theorem save_ok (b c s m : Nat) (p v T D : Bs) (hT : T.length ≤ 100000) : FnC Tryz.prog 25 [ptr c, ptr s] (savL b c s m p v T D none) (fun r L => ∃ u, r = str D ∧ L = savL b c s m p v T D (some u)) := by
  have cn := nodes_ok b c p v T D
  have cp := sput_ok s m T hT
  have cr := troot_ok c b p v T D
  have h01 : (0 : Nat) < [T].length := by simp
  unfold savL
  refine FnC.intro Tryz.func25 rfl Tryz.ntmps25 rfl fun Z w0 hG => ?_
  focus (
 (refine W.seq (W.region (Jx.assign rfl rfl (J.nil (N.seq (W.seq (W.seq (W.region (Jx.move rfl rfl ?_)))))))))
 (refine J.call (Lc := [_, _]) cn rfl (evs_args rfl) rfl ?_; rintro _ _ ⟨rfl, rfl⟩; simp only [List.cons_append, List.nil_append])
 (refine Jx.lenSl rfl rfl ?_)
 (refine Jx.move rfl rfl (J.nil (N.seq (W.block ?_))))
 (refine id ?_; rotate_left))
  refine W.loop (α := Option Value) (fun x => [(10, int (if x.isSome then 1 else 0)), (9, int 1), (8, ssl [T]), (0, ptr c), (1, ptr s)]) (fun x => savL b c s m p v T D x) (fun _ => True) (fun x => if x.isSome then 0 else 1) none trivial rfl ⟨ref0 rfl, ref0 rfl, ref0 rfl, ref0 rfl, ref0 rfl, trivial⟩ ?_
  rintro (_ | u) _
  · simp only [savL, Option.isSome_none, Option.isSome_some]
    focus (
 (refine W.seq (W.region (Jx.lssI rfl rfl rfl (J.nil (N.seq (W.seq (W.cT rfl ?_)))))))
 (refine W.skip (N.seq (W.seq (W.block (W.seq (W.region ?_))))))
 (refine Jx.indexEl (j := 0) rfl rfl h01 rfl rfl ?_)
 (refine Jx.loadPP rfl rfl ?_)
 (refine Jx.assign rfl rfl (J.nil (N.seq (W.region (Jx.move rfl rfl (Jx.move rfl rfl ?_))))))
 (refine J.perm (List.perm_append_comm (l₁ := [_, _]) (l₂ := [_, _])) ?_; refine J.call (Lc := [_, _]) cp rfl (evs_args rfl) rfl ?_; rintro _ _ ⟨u, rfl, rfl⟩; refine J.perm (List.perm_append_comm (l₁ := [_, _, _]) (l₂ := [_, _])) ?_; simp only [List.cons_append, List.nil_append])
 (refine J.nil (N.seq (W.region (Jx.add64 rfl rfl (by omega) rfl ?_))))
 (refine Jx.move rfl rfl (J.nil ?_))
 (refine id ?_; rotate_left))
    exact N.round (some u) trivial (by simp) rfl ⟨ref0 rfl, ref0 rfl, ref0 rfl, ref0 rfl, ref0 rfl, trivial⟩
  · simp only [savL, Option.isSome_none, Option.isSome_some]
    focus (
 (refine W.seq (W.region (Jx.lssI rfl rfl rfl (J.nil (N.seq (W.seq (W.cF rfl ?_)))))))
 (refine W.exit (N.seq (W.seq (W.region (Jx.move rfl rfl ?_)))))
 (refine J.call (Lc := [_, _]) cr rfl (evs_args rfl) rfl ?_; rintro _ _ ⟨rfl, rfl⟩; simp only [List.cons_append, List.nil_append])
 (refine Jx.assign rfl rfl (J.nil (N.seq (W.ret ?_))))
 (refine id ?_; rotate_left))
    exact N.ret (rs := [.tmp 4]) rfl (.tmp rfl .nil) ⟨u, rfl, rfl⟩
end Go.Proofs.YtaflklbmdbmjbaaGreatDoor
namespace Go.Proofs.YtaflklbmdbmjbaaGreatDoor
open Go Go.Sse
set_option linter.unusedVariables false
set_option linter.unusedSimpArgs false
set_option maxRecDepth 10000
theorem changed_ok (t : Nat) {k v : Bs} (hk0 : k ≠ []) (hk8 : k.length ≤ 8) (h : LeafOK (ofN k) v) : FnC Tryz.prog 24 [ptr t, .agg [str k, str v]] [.obj t tTr [nilP]] (fun r L => ∃ b c, r = .tup [ptr c, int 0] ∧ L = [.obj c tTr [ptr b], lfK b (ofN k) v, .obj t tTr [nilP]]) := by
  have cp := tput_ok t hk0 hk8 h
  have hv := h.v0
  refine FnC.intro Tryz.func24 rfl Tryz.ntmps24 rfl fun Z w0 hG => ?_
  focus (
 (refine W.seq (W.region ?_))
 (refine J.boxAg (d := 3) rfl rfl ?_; intro p3)
 (refine Jx.assign rfl rfl (Jx.assign rfl rfl (J.nil (N.seq (W.seq (W.seq (W.region (Jx.fieldAddr rfl rfl ?_))))))))
 (refine Jx.load rfl 0 rfl rfl rfl ?_)
 (refine Jx.neqS rfl rfl rfl (J.nil (N.seq (W.cT rfl ?_))))
 (refine W.seq (W.region (Jx.move rfl rfl (Jx.fieldAddr rfl rfl ?_))))
 (refine Jx.load rfl 0 rfl rfl rfl ?_)
 (refine Jx.fieldAddr rfl rfl ?_)
 (refine Jx.load rfl 0 rfl rfl rfl ?_)
 (refine J.perm (List.perm_append_comm (l₁ := [_]) (l₂ := [_])) ?_; refine J.call (Lc := [_]) cp rfl (evs_args rfl) rfl ?_; rintro _ _ ⟨b, c, rfl, rfl⟩; simp only [List.cons_append, List.nil_append])
 (refine Jx.extract rfl rfl rfl ?_)
 (refine Jx.extract rfl rfl rfl ?_)
 (refine Jx.assign rfl rfl (Jx.assign rfl rfl (J.nil (N.seq (W.ret (N.noGotoRet ?_))))))
 (refine id ?_; rotate_left))
  exact N.retD (rs := [.tmp 4, .tmp 5]) (L1 := [_, _, _]) rfl (.tmp rfl (.tmp rfl .nil)) (List.sublist_append_left [_, _, _] [_]) ⟨b, c, rfl, rfl⟩
end Go.Proofs.YtaflklbmdbmjbaaGreatDoor
namespace Go.Proofs.YtaflklbmdbmjbaaGreatDoor
open Go Go.Sse
set_option linter.unusedVariables false
set_option linter.unusedSimpArgs false
set_option maxRecDepth 10000
abbrev mapV (m : Nat) (l : List (Int × Value)) : Own := mapO m (l.map fun p => (iv p.1, p.2))
def comL (x s m mv t : Nat) (k v : Bs) : Option (Nat × Nat) → List Own
  | none => [versO x s mv t (-1), .obj t tTr [nilP], mapV mv [], .obj s tSt [mapP m], mapS m []]
  | some (b, c) => [.obj c tTr [ptr b], lfK b (ofN k) v, versO x s mv t (-1), mapV mv [], .obj s tSt [mapP m], mapS m []]
def comT (t : Nat) : Option (Nat × Nat) → Nat
  | none => t
  | some (b, c) => c
theorem perm6 (a b c d e f : Own) : [a, b, c, d, e, f].Perm ([a, b, e, f] ++ [c, d]) := (List.perm_append_comm (l₁ := [c, d]) (l₂ := [e, f])).append_left [a, b]
set_option maxHeartbeats 4000000 in
theorem commit_ok (x s m mv t : Nat) {k v : Bs} (hk0 : k ≠ []) (hk8 : k.length ≤ 8) (h : LeafOK (ofN k) v) (hT : (leafT (ofN k) v).length ≤ 100000) :
    FnC Tryz.prog 10 [ptr x, int 1, itl [(k, v)]] [versO x s mv t (-1), .obj t tTr [nilP], mapV mv [], .obj s tSt [mapP m], mapS m []] (fun r L => ∃ b c u u2, r = .tup [str (sumD 1 (leafT (ofN k) v)), int 0] ∧
      L = [rowB u2 (sumD 1 (leafT (ofN k) v)), .obj c tTr [ptr b], lfK b (ofN k) v, rowB u (leafT (ofN k) v), .obj s tSt [mapP m], mapS m [(sumD 1 (leafT (ofN k) v), u)], versO x s mv c 1, mapV mv [(1, u2)]]) := by
  have cc := fun t => changed_ok t hk0 hk8 h
  have h01 : 0 < ([(k, v)] : List It).length := by simp
  have cs := fun b c => save_ok b c s m (ofN k) v (leafT (ofN k) v) (sumD 1 (leafT (ofN k) v)) hT
  have hD : (sumD 1 (leafT (ofN k) v)).length ≤ maxLen := by rw [sumD_len]; simp [maxLen]
  have hlk : lk ([] : List (Int × Value)) 1 = none := rfl
  generalize hTT : leafT (ofN k) v = T at *
  generalize hDD : sumD 1 T = D at *
  refine FnC.intro Tryz.func10 rfl Tryz.ntmps10 rfl fun Z w0 hG => ?_
  focus (
 (refine W.seq (W.region (Jx.assign rfl rfl (Jx.assign rfl rfl (J.nil (N.seq (W.seq (W.seq (W.region (Jx.move rfl rfl (Jx.lssI rfl rfl rfl (Jx.move rfl rfl (J.gY rfl rfl rfl ?_)))))))))))))
 (refine Jx.move rfl rfl (J.gY rfl rfl rfl ?_))
 (refine Jx.gtrI rfl rfl rfl (Jx.pF rfl rfl rfl ?_))
 (refine J.nil (N.seq (W.cF rfl ?_)))
 (refine W.skip (N.seq (W.seq (W.seq (W.region (Jx.move rfl rfl (Jx.move rfl rfl (Jx.nilCheck rfl rfl ?_))))))))
 (refine Jx.fieldAddr rfl rfl ?_)
 (refine Jx.load rfl 0 rfl rfl rfl ?_)
 (refine Jx.leqI rfl rfl rfl (Jx.move rfl rfl (J.gY rfl rfl rfl ?_)))
 (refine Jx.move rfl rfl (J.gY rfl rfl rfl ?_))
 (refine Jx.move rfl rfl (J.gY rfl rfl rfl ?_))
 (refine Jx.nilCheck rfl rfl ?_)
 (refine J.gY rfl rfl rfl ?_)
 (refine Jx.fieldAddr rfl rfl ?_)
 (refine J.gY rfl rfl rfl ?_)
 (refine Jx.load rfl 0 rfl rfl rfl ?_)
 (refine J.gY rfl rfl rfl ?_)
 (refine Jx.lssI rfl rfl rfl (Jx.pF rfl rfl rfl ?_))
 (refine J.nil (N.seq (W.cF rfl ?_)))
 (refine W.skip (N.seq (W.seq (W.region (Jx.move rfl rfl (Jx.nilCheck rfl rfl ?_))))))
 (refine Jx.fieldAddr rfl rfl ?_)
 (refine Jx.load rfl 0 rfl rfl rfl ?_)
 (refine Jx.assign rfl rfl (J.nil (N.seq (W.seq (W.seq (W.region (Jx.move rfl rfl (Jx.lenSl rfl rfl ?_))))))))
 (refine Jx.move rfl rfl (J.nil (N.seq (W.block ?_))))
 (refine id ?_; rotate_left))
  refine W.loop (α := Option (Nat × Nat)) (fun y => [(37, int (if y.isSome then 1 else 0)), (36, int 1), (35, itl [(k, v)]), (8, ptr (comT t y)), (0, ptr x), (1, int 1)]) (fun y => comL x s m mv t k v y) (fun _ => True) (fun y => if y.isSome then 0 else 1) none trivial rfl ⟨ref0 rfl, ref0 rfl, ref0 rfl, ref0 rfl, ref0 rfl, ref0 rfl, trivial⟩ ?_
  rintro (_ | ⟨b, c⟩) _
  · simp only [comL, comT, Option.isSome_none, Option.isSome_some]
    focus (
 (refine W.seq (W.region (Jx.lssI rfl rfl rfl (J.nil (N.seq (W.seq (W.cT rfl ?_)))))))
 (refine W.skip (N.seq (W.seq (W.block (W.seq (W.region ?_))))))
 (refine Jx.indexEl (j := 0) rfl rfl h01 rfl rfl ?_)
 (refine Jx.loadPPall rfl rfl rfl ?_)
 (refine J.alloc (d := 10) (by simp only [List.map_cons, List.map_nil]; rfl) rfl rfl ?_; intro p10)
 (refine J.storeAll rfl rfl rfl 0 rfl rfl rfl ?_)
 (refine J.nil (N.seq (W.seq (W.region (Jx.move rfl rfl (Jx.loadAll rfl 0 rfl rfl rfl ?_))))))
 (refine J.perm (List.perm_middle (l₁ := [_, _])) ?_; simp only [List.cons_append, List.nil_append]; refine J.call (Lc := [_]) (cc t) rfl (evs_args rfl) rfl ?_; rintro _ _ ⟨b, c, rfl, rfl⟩; simp only [List.cons_append, List.nil_append])
 (refine Jx.move rfl rfl (Jx.extract rfl rfl rfl ?_))
 (refine Jx.extract rfl rfl rfl ?_)
 (refine Jx.assign rfl rfl (Jx.assign rfl rfl (J.nil (N.seq (W.seq (W.region (Jx.move rfl rfl (Jx.neqI rfl rfl rfl (J.nil (N.seq (W.cF rfl ?_)))))))))))
 (refine W.skip (N.seq (W.region (Jx.add64 rfl rfl (by omega) rfl ?_))))
 (refine Jx.move rfl rfl (J.nil ?_))
 (refine id ?_; rotate_left))
    refine N.drop (L' := comL x s m mv t k v (some (b, c))) (.cons_cons _ (.cons_cons _ (.cons _ (.cons _ (List.Sublist.refl _))))) ?_
    exact N.round (some (b, c)) trivial (by simp) rfl ⟨ref0 rfl, ref0 rfl, ref0 rfl, ref0 rfl, ref0 rfl, ref0 rfl, trivial⟩
  · simp only [comL, comT, Option.isSome_none, Option.isSome_some, lfK, hTT, hDD]
    focus (
 (refine W.seq (W.region (Jx.lssI rfl rfl rfl (J.nil (N.seq (W.seq (W.cF rfl ?_)))))))
 (refine W.exit (N.seq (W.seq (W.region (Jx.move rfl rfl (Jx.move rfl rfl (Jx.move rfl rfl (Jx.move rfl rfl (Jx.nilCheck rfl rfl ?_)))))))))
 (refine Jx.fieldAddr rfl rfl ?_)
 (refine J.st 2 rfl rfl rfl rfl rfl rfl ?_)
 (refine Jx.nilCheck rfl rfl ?_)
 (refine Jx.fieldAddr rfl rfl ?_)
 (refine J.st 2 rfl rfl rfl rfl rfl rfl ?_)
 (refine J.nil (N.seq (W.seq (W.region (Jx.move rfl rfl (Jx.move rfl rfl (Jx.nilCheck rfl rfl ?_)))))))
 (refine Jx.fieldAddr rfl rfl ?_)
 (refine Jx.load rfl 2 rfl rfl rfl ?_)
 (refine J.perm (perm6 _ _ _ _ _ _) ?_; refine J.call (Lc := [_, _, _, _]) (cs b c) rfl (evs_args rfl) rfl ?_; rintro _ _ ⟨u, rfl, rfl⟩; simp only [savL, hDD, List.cons_append, List.nil_append])
 (refine Jx.assign rfl rfl (J.nil (N.seq (W.seq (W.region (Jx.move rfl rfl (Jx.nilCheck rfl rfl ?_)))))))
 (refine Jx.fieldAddr rfl rfl ?_)
 (refine Jx.load rfl 5 rfl rfl rfl ?_)
 (refine Jx.move rfl rfl (Jx.move rfl rfl ?_))
 (refine J.strBytes rfl hD rfl ?_; intro u2)
 (refine J.mapUpdI (l := []) rfl rfl rfl 7 rfl hlk rfl ?_)
 (refine J.nil (N.seq (W.seq (W.region (Jx.move rfl rfl (Jx.assign rfl rfl (Jx.assign rfl rfl (J.nil (N.seq (W.ret ?_))))))))))
 (refine id ?_; rotate_left))
    exact N.ret (rs := [.tmp 6, .tmp 7]) rfl (.tmp rfl (.tmp rfl .nil)) ⟨b, c, u, u2, rfl, rfl⟩
end Go.Proofs.YtaflklbmdbmjbaaGreatDoor
namespace Go.Proofs.YtaflklbmdbmjbaaGreatDoor
open Go Go.Sse
set_option linter.unusedVariables false
set_option linter.unusedSimpArgs false
set_option maxRecDepth 10000
theorem vroot_ok (x s mv t : Nat) (u2 : Value) (D : Bs) (last : Int) : FnC Tryz.prog 26 [ptr x, int 1] [rowB u2 D, versO x s mv t last, mapV mv [(1, u2)]] (fun r L => r = .tup [str D, int 0] ∧ L = [rowB u2 D, versO x s mv t last, mapV mv [(1, u2)]]) := by
  have hlk : lk ([(1, u2)] : List (Int × Value)) 1 = some u2 := rfl
  refine FnC.intro Tryz.func26 rfl Tryz.ntmps26 rfl fun Z w0 hG => ?_
  focus (
 (refine W.seq (W.region (Jx.assign rfl rfl (Jx.assign rfl rfl (J.nil (N.seq (W.seq (W.region (Jx.move rfl rfl (Jx.nilCheck rfl rfl ?_))))))))))
 (refine Jx.fieldAddr rfl rfl ?_)
 (refine Jx.load rfl 1 rfl rfl rfl ?_)
 (refine Jx.move rfl rfl ?_)
 (refine Jx.lookupI (l := [(1, u2)]) rfl rfl 2 rfl rfl ?_; rw [hlk])
 (refine Jx.move rfl rfl (Jx.extract rfl rfl rfl ?_))
 (refine Jx.extract rfl rfl rfl ?_)
 (refine Jx.assign rfl rfl (Jx.assign rfl rfl (J.nil (N.seq (W.seq (W.block (W.seq (W.region (Jx.move rfl rfl (Jx.assign rfl rfl (J.nil (N.seq (W.cT rfl ?_)))))))))))))
 (refine W.seq (W.region (Jx.move rfl rfl (Jx.bytesStrRow rfl 0 rfl rfl ?_))))
 (refine Jx.assign rfl rfl (Jx.assign rfl rfl (J.nil (N.seq (W.ret (N.noGotoRet (N.noGotoRet ?_)))))))
 (refine id ?_; rotate_left))
  exact N.ret (rs := [.tmp 4, .tmp 5]) rfl (.tmp rfl (.tmp rfl .nil)) ⟨rfl, rfl⟩
theorem lk_one {α : Type} [DecidableEq α] {β : Type} (a : α) (b : β) : lk [(a, b)] a = some b := by simp [lk]
theorem sget_ok (s m : Nat) (u : Value) (T D : Bs) : FnC Tryz.prog 89 [ptr s, str D] [rowB u T, .obj s tSt [mapP m], mapS m [(D, u)]] (fun r L => r = .tup [str T, Sse.bool true] ∧ L = [rowB u T, .obj s tSt [mapP m], mapS m [(D, u)]]) := by
  have hlk := lk_one D u
  refine FnC.intro Tryz.func89 rfl Tryz.ntmps89 rfl fun Z w0 hG => ?_
  focus (
 (refine W.seq (W.region (Jx.assign rfl rfl (Jx.assign rfl rfl (J.nil (N.seq (W.seq (W.region (Jx.move rfl rfl (Jx.nilCheck rfl rfl ?_))))))))))
 (refine Jx.fieldAddr rfl rfl ?_)
 (refine Jx.load rfl 1 rfl rfl rfl ?_)
 (refine Jx.move rfl rfl ?_)
 (refine Jx.lookupS (l := [(D, u)]) rfl rfl 2 rfl rfl ?_; rw [hlk])
 (refine Jx.move rfl rfl (Jx.extract rfl rfl rfl ?_))
 (refine Jx.extract rfl rfl rfl ?_)
 (refine Jx.assign rfl rfl (Jx.assign rfl rfl (J.nil (N.seq (W.seq (W.region (Jx.move rfl rfl (Jx.bytesStrRow rfl 0 rfl rfl ?_))))))))
 (refine Jx.move rfl rfl (Jx.assign rfl rfl (Jx.assign rfl rfl (J.nil (N.seq (W.ret ?_))))))
 (refine id ?_; rotate_left))
  exact N.ret (rs := [.tmp 4, .tmp 5]) rfl (.tmp rfl (.tmp rfl .nil)) ⟨rfl, rfl⟩
theorem snode_ok (s m : Nat) (u : Value) (T D : Bs) (hT : T.length ≤ 100000) : FnC Tryz.prog 64 [ptr s, str D] [rowB u T, .obj s tSt [mapP m], mapS m [(D, u)]] (fun r L => r = .tup [.agg (ndC (decN T).1), int (decN T).2] ∧ L = [rowB u T, .obj s tSt [mapP m], mapS m [(D, u)]]) := by
  have cg := sget_ok s m u T D
  have cd := decode_ok T (by omega)
  have hl := decN_len T
  generalize decN T = d at *
  obtain ⟨n, e⟩ := d
  simp only at cd hl ⊢
  have hbq : Nat.beq (ndC n).length 19 = true := by rw [ndC_len hl.1]; rfl
  refine FnC.intro Tryz.func64 rfl Tryz.ntmps64 rfl fun Z w0 hG => ?_
  focus (
 (refine W.seq (W.region ?_))
 (refine J.alloc (d := 4) (by simp only [List.map_cons, List.map_nil]; rfl) rfl rfl ?_; intro p4)
 (refine Jx.assign rfl rfl (J.nil (N.seq (W.seq (W.region (Jx.move rfl rfl (Jx.move rfl rfl ?_)))))))
 (refine J.perm (List.perm_append_comm (l₁ := [_]) (l₂ := [_, _, _])) ?_; refine J.call (Lc := [_, _, _]) cg rfl (evs_args rfl) rfl ?_; rintro _ _ ⟨rfl, rfl⟩; simp only [List.cons_append, List.nil_append])
 (refine Jx.move rfl rfl (Jx.extract rfl rfl rfl ?_))
 (refine Jx.extract rfl rfl rfl ?_)
 (refine Jx.assign rfl rfl (Jx.assign rfl rfl (J.nil (N.seq (W.seq (W.seq (W.region (Jx.move rfl rfl (Jx.not rfl rfl (J.nil (N.seq (W.cF rfl ?_))))))))))))
 (refine W.skip (N.seq (W.seq (W.region (Jx.move rfl rfl ?_)))))
 (refine J.call (Lc := []) cd rfl (evs_args rfl) rfl ?_; rintro _ _ ⟨rfl, rfl⟩; rw [List.nil_append])
 (refine Jx.extract rfl rfl rfl ?_)
 (refine Jx.extract rfl rfl rfl ?_)
 (refine J.storeAll rfl rfl hbq 3 rfl rfl rfl ?_)
 (refine Jx.assign rfl rfl (J.nil (N.seq (W.ret ?_))))
 (refine id ?_; rotate_left))
  exact N.retD (rs := [.cell 4 tNd, .tmp 5]) (L1 := [_, _, _]) rfl (.cell rfl 3 rfl (by rw [ndC_len hl.1]; exact agN) (.tmp rfl .nil)) (List.sublist_append_left [_, _, _] [_]) ⟨rfl, rfl⟩
end Go.Proofs.YtaflklbmdbmjbaaGreatDoor
namespace Go.Proofs.YtaflklbmdbmjbaaGreatDoor
open Go Go.Sse
set_option linter.unusedVariables false
set_option linter.unusedSimpArgs false
set_option maxRecDepth 10000
abbrev tLo : Nat := 97
theorem litem_ok (q s : Nat) : FnC Tryz.prog 66 [ptr q, int 2] [.obj q tLo [ptr s, int 0, int 0]] (fun r L => r = Sse.bool true ∧ L = [.obj q tLo [ptr s, int 1, int 0]]) := by
  refine FnC.intro Tryz.func66 rfl Tryz.ntmps66 rfl fun Z w0 hG => ?_
  focus (
 (refine W.seq (W.region (Jx.assign rfl rfl (J.nil (N.seq (W.seq (W.seq (W.region (Jx.move rfl rfl (Jx.eqlI rfl rfl rfl (Jx.move rfl rfl (J.gY rfl rfl rfl ?_))))))))))))
 (refine Jx.move rfl rfl (J.gY rfl rfl rfl ?_))
 (refine Jx.rem64 rfl rfl (by omega) (by omega) rfl ?_; rw [show (2 : Int) % 2 = 0 from rfl])
 (refine J.gY rfl rfl rfl ?_)
 (refine Jx.eqlI rfl rfl rfl (Jx.pF rfl rfl rfl ?_))
 (refine J.nil (N.seq (W.cF rfl ?_)))
 (refine W.skip (N.seq (W.seq (W.region (Jx.move rfl rfl (Jx.nilCheck rfl rfl ?_))))))
 (refine Jx.fieldAddr rfl rfl ?_)
 (refine Jx.load rfl 0 rfl rfl rfl ?_)
 (refine Jx.add64 rfl rfl (by omega) rfl ?_)
 (refine Jx.nilCheck rfl rfl ?_)
 (refine Jx.fieldAddr rfl rfl ?_)
 (refine J.st 0 rfl rfl rfl rfl rfl rfl ?_)
 (refine J.nil (N.seq (W.seq (W.seq (W.region (Jx.move rfl rfl (Jx.nilCheck rfl rfl ?_)))))))
 (refine Jx.fieldAddr rfl rfl ?_)
 (refine Jx.load rfl 0 rfl rfl rfl ?_)
 (refine Jx.gtrI rfl rfl rfl (J.nil (N.seq (W.cF rfl ?_))))
 (refine W.skip (N.seq (W.seq (W.region (Jx.assign rfl rfl (J.nil (N.seq (W.ret ?_))))))))
 (refine id ?_; rotate_left))
  exact N.ret (rs := [.tmp 4]) rfl (.tmp rfl .nil) ⟨rfl, rfl⟩
set_option maxHeartbeats 4000000 in
theorem lload_ok (q s m : Nat) (u : Value) (D : Bs) {p v : Bs} (h : LeafOK p v) (hT : (leafT p v).length ≤ 100000) (hd : decN (leafT p v) = (leafN p v, 0)) :
    FnC Tryz.prog 41 [ptr q, str D, str [], Sse.bool false] [rowB u (leafT p v), .obj s tSt [mapP m], mapS m [(D, u)], .obj q tLo [ptr s, int 0, int 0]] (fun r L => ∃ b, r = ptr b ∧ L = [lfK b p v, .obj q tLo [ptr s, int 1, int 0], rowB u (leafT p v), .obj s tSt [mapP m], mapS m [(D, u)]]) := by
  have cn := snode_ok s m u (leafT p v) D hT
  rw [hd] at cn
  simp only at cn
  have ci := litem_ok q s
  have ct := tied_ok' h
  have hp := h.len
  have hv := h.v0
  have hp2 : (p.length : Int) = 2 := by omega
  generalize leafT p v = T at *
  have hbq : Nat.beq (ndC (leafN p v)).length 19 = true := by rw [ndC_len (by simp)]; rfl
  have hlg : (([] : Bs).length : Int) + (p.length : Int) = 2 := by simp; omega
  have hk3 : ((ndC (leafN p v)).drop 3).take 16 = no16.map str := kids_cells (n := leafN p v) (by simp)
  have hkl : (no16.map str).length = 16 := by simp
  refine FnC.intro Tryz.func41 rfl Tryz.ntmps41 rfl fun Z w0 hG => ?_
  focus (
 (refine W.seq (W.region (Jx.assign rfl rfl (J.nil (N.seq (W.seq (W.seq (W.region (Jx.move rfl rfl (Jx.nilCheck rfl rfl ?_))))))))))
 (refine Jx.fieldAddr rfl rfl ?_)
 (refine Jx.load rfl 3 rfl rfl rfl ?_)
 (refine Jx.neqI rfl rfl rfl (J.nil (N.seq (W.cF rfl ?_))))
 (refine W.skip (N.seq (W.seq (W.region (Jx.move rfl rfl (Jx.nilCheck rfl rfl ?_))))))
 (refine Jx.fieldAddr rfl rfl ?_)
 (refine Jx.load rfl 3 rfl rfl rfl ?_)
 (refine Jx.move rfl rfl ?_)
 (refine J.call (Lc := [_, _, _]) cn rfl (evs_args rfl) rfl ?_; rintro _ _ ⟨rfl, rfl⟩; simp only [List.cons_append, List.nil_append])
 (refine Jx.move rfl rfl (Jx.extract rfl rfl rfl ?_))
 (refine Jx.extract rfl rfl rfl ?_)
 (refine J.alloc (d := 9) (by simp only [List.map_cons, List.map_nil]; rfl) rfl rfl ?_; intro p9)
 (refine J.storeAll rfl rfl hbq 0 rfl rfl rfl ?_)
 (refine Jx.assign rfl rfl (J.nil (N.seq (W.seq (W.seq (W.region (Jx.move rfl rfl (Jx.neqI rfl rfl rfl (J.nil (N.seq (W.cF rfl ?_)))))))))))
 (refine W.skip (N.seq (W.seq (W.region (Jx.move rfl rfl (Jx.lenS rfl rfl ?_))))))
 (refine Jx.fieldAddr rfl rfl ?_)
 (refine Jx.load rfl 0 rfl rfl rfl ?_)
 (refine Jx.lenS rfl rfl ?_)
 (refine Jx.add64 rfl rfl (by rw [hlg]; omega) rfl ?_; rw [hlg])
 (refine Jx.assign rfl rfl (J.nil (N.seq (W.seq (W.region (Jx.fieldAddr rfl rfl ?_))))))
 (refine Jx.load rfl 0 rfl rfl rfl ?_)
 (refine Jx.eqlI rfl rfl rfl (Jx.move rfl rfl (J.gN rfl rfl rfl rfl ?_)))
 (refine J.gN rfl rfl rfl rfl ?_)
 (refine J.gN rfl rfl rfl rfl ?_)
 (refine J.gN rfl rfl rfl rfl ?_)
 (refine Jx.pF rfl rfl rfl ?_)
 (refine Jx.assign rfl rfl (J.nil (N.seq (W.seq (W.seq (W.region (Jx.move rfl rfl (Jx.move rfl rfl (J.gN rfl rfl rfl rfl ?_)))))))))
 (refine J.gN rfl rfl rfl rfl ?_)
 (refine J.gN rfl rfl rfl rfl ?_)
 (refine Jx.pF rfl rfl rfl ?_)
 (refine Jx.move rfl rfl (J.gY rfl rfl rfl ?_))
 (refine Jx.move rfl rfl (J.gY rfl rfl rfl ?_))
 (refine Jx.gtrI rfl rfl rfl (Jx.pF rfl rfl rfl ?_))
 (refine Jx.move rfl rfl (J.gY rfl rfl rfl ?_))
 (refine Jx.move rfl rfl (J.gY rfl rfl rfl ?_))
 (refine Jx.move rfl rfl (J.gN rfl rfl rfl rfl ?_))
 (refine J.gN rfl rfl rfl rfl ?_)
 (refine J.gY rfl rfl rfl ?_)
 (refine Jx.pF rfl rfl rfl ?_)
 (refine Jx.pF rfl rfl rfl ?_)
 (refine J.nil (N.seq (W.cF rfl ?_)))
 (refine W.skip (N.seq (W.seq (W.seq (W.region (Jx.fieldAddr rfl rfl ?_))))))
 (refine Jx.load rfl 0 rfl rfl rfl ?_)
 (refine Jx.neqS rfl rfl rfl (Jx.move rfl rfl (J.gY rfl rfl rfl ?_)))
 (refine Jx.move rfl rfl (J.gY rfl rfl rfl ?_))
 (refine Jx.move rfl rfl (J.gY rfl rfl rfl ?_))
 (refine J.perm (List.perm_append_comm (l₁ := [_, _, _, _]) (l₂ := [_])) ?_; refine J.call (Lc := [_]) ci rfl (evs_args rfl) rfl ?_; rintro _ _ ⟨rfl, rfl⟩; simp only [List.cons_append, List.nil_append])
 (refine J.gY rfl rfl rfl ?_)
 (refine Jx.not rfl rfl (Jx.pT rfl rfl rfl ?_))
 (refine J.nil (N.seq (W.cF rfl ?_)))
 (refine W.skip (N.seq (W.seq (W.region ?_))))
 (refine J.alloc (d := 13) (by simp only [List.map_cons, List.map_nil]; rfl) rfl rfl ?_; intro p13)
 (refine J.nil (N.seq (W.seq (W.seq (W.region (Jx.fieldAddr rfl rfl ?_))))))
 (refine Jx.loadAg rfl 2 rfl hk3 hkl rfl ?_)
 (refine Jx.move rfl rfl (J.nil (N.seq (W.block ?_))))
 (refine id ?_; rotate_left))
  refine W.loop (α := Nat) (fun i => [(81, int (i : Int)), (80, .agg (no16.map str)), (13, ptr p13), (9, ptr p9), (0, ptr q)]) (fun _ => [.obj p13 119 kids0, .obj q tLo [ptr s, int 1, int 0], .obj p9 tNd (ndC (leafN p v)), rowB u T, .obj s tSt [mapP m], mapS m [(D, u)]]) (fun i => i ≤ 16) (fun i => 16 - i) 0 (Nat.zero_le _) rfl ⟨ref0 rfl, ref0 rfl, ref0 rfl, ref0 rfl, ref0 rfl, trivial⟩ ?_
  rintro i hi
  by_cases g1 : i < 16
  · have g1' : (i : Int) < 16 := by omega
    have e1 : (i : Int) + 1 = ((i + 1 : Nat) : Int) := by omega
    have g1k : i < no16.length := g1
    have hki : no16.getD i [] = [] := by simp [List.getD_eq_getElem?_getD, List.getElem?_replicate, g1]
    focus (
 (refine W.seq (W.region (Jx.lssI rfl rfl rfl (J.nil (N.seq (W.seq (W.cT rfl ?_)))))))
 (refine W.skip (N.seq (W.seq (W.block (W.seq (W.region (Jx.move rfl rfl ?_)))))))
 (refine Jx.indexAg str [] i rfl rfl rfl g1 g1k rfl ?_; rw [hki])
 (refine Jx.assign rfl rfl (Jx.assign rfl rfl (J.nil (N.seq (W.seq (W.seq (W.region (Jx.move rfl rfl (Jx.eqlS rfl rfl rfl (J.nil (N.seq (W.cT rfl ?_))))))))))))
 (refine W.exit (N.seq (W.region ?_)))
 (refine Jx.add64 rfl rfl (by omega) rfl ?_; rw [e1])
 (refine Jx.move rfl rfl (J.nil ?_))
 (refine id ?_; rotate_left))
    exact N.round (i + 1) g1 (by omega) rfl ⟨ref0 rfl, ref0 rfl, ref0 rfl, ref0 rfl, ref0 rfl, trivial⟩
  · have g1' : ¬ (i : Int) < 16 := by omega
    focus (
 (refine W.seq (W.region (Jx.lssI rfl rfl rfl (J.nil (N.seq (W.seq (W.cF rfl ?_)))))))
 (refine W.exit (N.seq (W.seq (W.seq (W.region (Jx.move rfl rfl (Jx.nilCheck rfl rfl ?_)))))))
 (refine Jx.fieldAddr rfl rfl ?_)
 (refine Jx.load rfl 1 rfl rfl rfl ?_)
 (refine Jx.neqI rfl rfl rfl (J.nil (N.seq (W.cF rfl ?_))))
 (refine W.skip (N.seq (W.seq (W.region ?_))))
 (refine Jx.loadAll rfl 2 rfl hbq rfl ?_)
 (refine Jx.loadAll rfl 0 rfl rfl rfl ?_)
 (refine J.call (Lc := []) ct rfl (evs_args rfl) rfl ?_; rintro _ _ ⟨b, rfl, rfl⟩; rw [List.singleton_append])
 (refine Jx.assign rfl rfl (J.nil (N.seq (W.ret ?_))))
 (refine id ?_; rotate_left))
    exact N.retD (rs := [.tmp 8]) (L1 := [_, _, _, _, _]) rfl (.tmp rfl .nil) (.cons_cons _ (.cons _ (.cons_cons _ (.cons _ (List.Sublist.refl _))))) ⟨b, rfl, rfl⟩
end Go.Proofs.YtaflklbmdbmjbaaGreatDoor
namespace Go.Proofs.YtaflklbmdbmjbaaGreatDoor
open Go Go.Sse
set_option linter.unusedVariables false
set_option linter.unusedSimpArgs false
set_option maxRecDepth 10000
theorem tload_ok (s m : Nat) (u : Value) (D : Bs) (hD : D ≠ []) {p v : Bs} (h : LeafOK p v) (hT : (leafT p v).length ≤ 100000) (hd : decN (leafT p v) = (leafN p v, 0)) :
    FnC Tryz.prog 27 [ptr s, str D] [rowB u (leafT p v), .obj s tSt [mapP m], mapS m [(D, u)]] (fun r L => ∃ b c, r = .tup [ptr c, int 0] ∧ L = [.obj c tTr [ptr b], lfK b p v]) := by
  have cl := fun q => lload_ok q s m u D h hT hd
  refine FnC.intro Tryz.func27 rfl Tryz.ntmps27 rfl fun Z w0 hG => ?_
  focus (
 (refine W.seq (W.region (Jx.assign rfl rfl (Jx.assign rfl rfl (J.nil (N.seq (W.seq (W.seq (W.region (Jx.move rfl rfl (Jx.eqlS rfl rfl rfl (J.nil (N.seq (W.cF rfl ?_))))))))))))))
 (refine W.skip (N.seq (W.seq (W.region (Jx.move rfl rfl (Jx.buildB rfl rfl rfl rfl rfl ?_))))))
 (refine J.boxAg (d := 13) rfl rfl ?_; intro p13)
 (refine Jx.assign rfl rfl (J.nil (N.seq (W.seq (W.region (Jx.move rfl rfl (Jx.move rfl rfl ?_)))))))
 (refine J.perm (List.perm_append_comm (l₁ := [_]) (l₂ := [_, _, _])) ?_; refine J.call (Lc := [_, _, _, _]) (cl p13) rfl (evs_args rfl) rfl ?_; rintro _ _ ⟨b, rfl, rfl⟩; simp only [List.cons_append, List.nil_append])
 (refine Jx.assign rfl rfl (J.nil (N.seq (W.seq (W.seq (W.region (Jx.move rfl rfl (Jx.nilCheck rfl rfl ?_))))))))
 (refine Jx.fieldAddr rfl rfl ?_)
 (refine Jx.load rfl 1 rfl rfl rfl ?_)
 (refine Jx.neqI rfl rfl rfl (J.nil (N.seq (W.cF rfl ?_))))
 (refine W.skip (N.seq (W.seq (W.region (Jx.move rfl rfl (Jx.buildB rfl rfl rfl rfl rfl ?_))))))
 (refine J.boxAg (d := 28) rfl rfl ?_; intro p28)
 (refine Jx.assign rfl rfl (Jx.assign rfl rfl (J.nil (N.seq (W.ret ?_)))))
 (refine id ?_; rotate_left))
  exact N.retD (rs := [.tmp 4, .tmp 5]) (L1 := [_, _]) rfl (.tmp rfl (.tmp rfl .nil)) (List.sublist_append_left [_, _] [_, _, _, _]) ⟨b, p28, rfl, rfl⟩
theorem at_ok (x s m mv t : Nat) (u u2 : Value) (D : Bs) (hD : D ≠ []) (last : Int) {p v : Bs} (h : LeafOK p v) (hT : (leafT p v).length ≤ 100000) (hd : decN (leafT p v) = (leafN p v, 0)) :
    FnC Tryz.prog 11 [ptr x, int 1] [rowB u2 D, versO x s mv t last, mapV mv [(1, u2)], rowB u (leafT p v), .obj s tSt [mapP m], mapS m [(D, u)]] (fun r L => ∃ b c, r = .tup [ptr c, int 0] ∧ L = [.obj c tTr [ptr b], lfK b p v]) := by
  have cr := vroot_ok x s mv t u2 D last
  have cl := tload_ok s m u D hD h hT hd
  refine FnC.intro Tryz.func11 rfl Tryz.ntmps11 rfl fun Z w0 hG => ?_
  focus (
 (refine W.seq (W.region (Jx.assign rfl rfl (Jx.assign rfl rfl (J.nil (N.seq (W.seq (W.region (Jx.move rfl rfl (Jx.move rfl rfl ?_))))))))))
 (refine J.call (Lc := [_, _, _]) cr rfl (evs_args rfl) rfl ?_; rintro _ _ ⟨rfl, rfl⟩; simp only [List.cons_append, List.nil_append])
 (refine Jx.move rfl rfl (Jx.extract rfl rfl rfl ?_))
 (refine Jx.extract rfl rfl rfl ?_)
 (refine Jx.assign rfl rfl (Jx.assign rfl rfl (J.nil (N.seq (W.seq (W.seq (W.region (Jx.move rfl rfl (Jx.neqI rfl rfl rfl (J.nil (N.seq (W.cF rfl ?_))))))))))))
 (refine W.skip (N.seq (W.seq (W.region (Jx.move rfl rfl (Jx.nilCheck rfl rfl ?_))))))
 (refine Jx.fieldAddr rfl rfl ?_)
 (refine Jx.load rfl 1 rfl rfl rfl ?_)
 (refine Jx.move rfl rfl ?_)
 (refine J.perm (List.perm_append_comm (l₁ := [_, _, _]) (l₂ := [_, _, _])) ?_; refine J.call (Lc := [_, _, _]) cl rfl (evs_args rfl) rfl ?_; rintro _ _ ⟨b, c, rfl, rfl⟩; simp only [List.cons_append, List.nil_append])
 (refine Jx.extract rfl rfl rfl ?_)
 (refine Jx.extract rfl rfl rfl ?_)
 (refine Jx.assign rfl rfl (Jx.assign rfl rfl (J.nil (N.seq (W.ret ?_)))))
 (refine id ?_; rotate_left))
  exact N.retD (rs := [.tmp 4, .tmp 5]) (L1 := [_, _]) rfl (.tmp rfl (.tmp rfl .nil)) (List.sublist_append_left [_, _] [_, _, _]) ⟨b, c, rfl, rfl⟩
end Go.Proofs.YtaflklbmdbmjbaaGreatDoor
namespace Go.Proofs.YtaflklbmdbmjbaaGreatDoor
open Go Go.Sse
set_option linter.unusedVariables false
set_option linter.unusedSimpArgs false
set_option maxRecDepth 10000
theorem kv_leaf : LeafOK (ofN [107]) [118] := ⟨by decide +kernel, by decide +kernel, by decide +kernel, by decide +kernel, by decide +kernel, by decide +kernel, by decide +kernel⟩
theorem kv_len : (leafT (ofN [107]) [118]).length ≤ 100000 := by decide +kernel
theorem kv_dec : decN (leafT (ofN [107]) [118]) = (leafN (ofN [107]) [118], 0) := by
  have h1 : (decN (leafT (ofN [107]) [118])).1.kind = 1 := by decide +kernel
  have h2 : (decN (leafT (ofN [107]) [118])).1.path = ofN [107] := by decide +kernel
  have h3 : (decN (leafT (ofN [107]) [118])).1.value = [118] := by decide +kernel
  have h4 : (decN (leafT (ofN [107]) [118])).1.kids = List.replicate 16 [] := by decide +kernel
  have h5 : (decN (leafT (ofN [107]) [118])).2 = 0 := by decide +kernel
  generalize decN (leafT (ofN [107]) [118]) = d at *
  obtain ⟨⟨a, b, c, e⟩, z⟩ := d
  simp only at h1 h2 h3 h4 h5
  subst h1 h2 h3 h4 h5
  rfl
theorem kv_ver : verP (sumD 1 (leafT (ofN [107]) [118])) [107] [leafT (ofN [107]) [118]] = ([118], true, 0) := by
  have hD : sumD 1 (leafT (ofN [107]) [118]) ≠ [] := fun e => by have := sumD_len 1 (leafT (ofN [107]) [118]); rw [e] at this; cases this
  have hd := kv_dec
  generalize leafT (ofN [107]) [118] = T at *
  have hf : folP (sumD 1 T) (ofN [107]) [T] = ([118], 1, true) := by
    unfold folP followP
    rw [hd]
    simp only [ne_eq, not_true_eq_false, or_self, if_false]
    rfl
  unfold verP
  rw [hf]
  rfl
theorem kv_ne : sumD 1 (leafT (ofN [107]) [118]) ≠ [] := fun e => by have := sumD_len 1 (leafT (ofN [107]) [118]); rw [e] at this; cases this
set_option maxHeartbeats 4000000 in
theorem keeps_ok : FnC Tryz.prog 4 [] [] (fun r L => r = Sse.bool true ∧ L = []) := by
  have cn := vnew_ok
  have cm := fun x s m mv t => commit_ok x s m mv t (k := [107]) (v := [118]) (by decide) (by decide) kv_leaf kv_len
  have ca := fun x s m mv t u u2 => at_ok x s m mv t u u2 (sumD 1 (leafT (ofN [107]) [118])) kv_ne 1 kv_leaf kv_len kv_dec
  have cp := fun b c => prove_ok b c (ofN [107]) [118] (leafT (ofN [107]) [118]) (sumD 1 (leafT (ofN [107]) [118])) [107] (by decide) (by decide)
  have cv := pverify_ok (sumD 1 (leafT (ofN [107]) [118])) [107] [leafT (ofN [107]) [118]] (by simp) (fun t ht => by obtain rfl := List.mem_singleton.1 ht; have := kv_len; omega)
  rw [kv_ver] at cv
  simp only [lfK] at cm ca
  simp only at cv
  generalize sumD 1 (leafT (ofN [107]) [118]) = D at *
  generalize leafT (ofN [107]) [118] = T at *
  generalize ofN [107] = p at *
  refine FnC.intro Tryz.func4 rfl Tryz.ntmps4 rfl fun Z w0 hG => ?_
  focus (
 (refine W.seq (W.region (Jx.assign rfl rfl (J.nil (N.seq (W.seq (W.region ?_)))))))
 (refine J.call (Lc := []) cn rfl (evs_args rfl) rfl ?_; rintro _ _ ⟨x, s, m, mv, t, rfl, rfl⟩; rw [List.append_nil])
 (refine Jx.assign rfl rfl (J.nil (N.seq (W.seq (W.seq (W.region (Jx.move rfl rfl (Jx.eqlNil rfl rfl ?_))))))))
 (refine J.nil (N.seq (W.cF rfl ?_)))
 (refine W.skip (N.seq (W.seq (W.region (Jx.move rfl rfl (Jx.buildB rfl rfl rfl rfl rfl ?_))))))
 (refine J.qs (Qs.buildOne itC it0 ([107], [118]) rfl rfl rfl rfl rfl rfl rfl) rfl ?_)
 (refine J.call (Lc := [_, _, _, _, _]) (cm x s m mv t) rfl (evs_args rfl) rfl ?_; rintro _ _ ⟨b, c, u, u2, rfl, rfl⟩; rw [List.append_nil]; refine J.drop (.cons_cons _ (.cons _ (.cons _ (List.Sublist.refl _)))) ?_; refine J.perm ((List.perm_append_comm (l₁ := [_, _, _]) (l₂ := [_, _])).cons _) ?_; simp only [List.cons_append, List.nil_append])
 (refine Jx.move rfl rfl (Jx.extract rfl rfl rfl ?_))
 (refine Jx.extract rfl rfl rfl ?_)
 (refine Jx.assign rfl rfl (Jx.assign rfl rfl (J.nil (N.seq (W.seq (W.region (Jx.move rfl rfl ?_)))))))
 (refine J.call (Lc := [_, _, _, _, _, _]) (ca x s m mv c u u2) rfl (evs_args rfl) rfl ?_; rintro _ _ ⟨b2, c2, rfl, rfl⟩; rw [List.append_nil])
 (refine Jx.move rfl rfl (Jx.extract rfl rfl rfl ?_))
 (refine Jx.extract rfl rfl rfl ?_)
 (refine Jx.assign rfl rfl (Jx.assign rfl rfl (J.nil (N.seq (W.seq (W.seq (W.region (Jx.move rfl rfl (Jx.neqI rfl rfl rfl (Jx.move rfl rfl (J.gY rfl rfl rfl ?_)))))))))))
 (refine Jx.move rfl rfl (J.gY rfl rfl rfl ?_))
 (refine Jx.neqI rfl rfl rfl (Jx.pF rfl rfl rfl ?_))
 (refine Jx.move rfl rfl (J.gY rfl rfl rfl ?_))
 (refine Jx.move rfl rfl (J.gY rfl rfl rfl ?_))
 (refine Jx.eqlNil rfl rfl ?_)
 (refine Jx.pF rfl rfl rfl ?_)
 (refine J.nil (N.seq (W.cF rfl ?_)))
 (refine W.skip (N.seq (W.seq (W.region (Jx.move rfl rfl ?_)))))
 (refine J.call (Lc := [_, _]) (cp b2 c2) rfl (evs_args rfl) rfl ?_; rintro _ _ ⟨rfl, rfl⟩; rw [List.append_nil])
 (refine Jx.move rfl rfl (Jx.extract rfl rfl rfl ?_))
 (refine Jx.extract rfl rfl rfl ?_)
 (refine Jx.assign rfl rfl (Jx.assign rfl rfl (J.nil (N.seq (W.seq (W.region (Jx.move rfl rfl (Jx.move rfl rfl ?_))))))))
 (refine J.call (Lc := []) cv rfl (evs_args rfl) rfl ?_; rintro _ _ ⟨rfl, rfl⟩; rw [List.nil_append])
 (refine Jx.move rfl rfl (Jx.extract rfl rfl rfl ?_))
 (refine Jx.extract rfl rfl rfl ?_)
 (refine Jx.extract rfl rfl rfl ?_)
 (refine Jx.assign rfl rfl (Jx.assign rfl rfl (Jx.assign rfl rfl (J.nil (N.seq (W.seq (W.region (Jx.move rfl rfl (Jx.eqlI rfl rfl rfl (Jx.move rfl rfl (J.gY rfl rfl rfl ?_)))))))))))
 (refine Jx.move rfl rfl (J.gY rfl rfl rfl ?_))
 (refine Jx.eqlI rfl rfl rfl (Jx.pT rfl rfl rfl ?_))
 (refine Jx.move rfl rfl (J.gY rfl rfl rfl ?_))
 (refine Jx.move rfl rfl (Jx.pT rfl rfl rfl ?_))
 (refine Jx.move rfl rfl (J.gY rfl rfl rfl ?_))
 (refine Jx.move rfl rfl (J.gY rfl rfl rfl ?_))
 (refine Jx.eqlS rfl rfl rfl (Jx.pT rfl rfl rfl ?_))
 (refine Jx.assign rfl rfl (J.nil (N.seq (W.ret ?_))))
 (refine id ?_; rotate_left))
  exact N.retD (rs := [.tmp 0]) (L1 := []) rfl (.tmp rfl .nil) (List.nil_sublist _) ⟨rfl, rfl⟩
end Go.Proofs.YtaflklbmdbmjbaaGreatDoor
