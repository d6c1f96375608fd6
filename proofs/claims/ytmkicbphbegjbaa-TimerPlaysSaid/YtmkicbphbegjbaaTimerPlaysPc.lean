/-
  Lemmas for the claim, part 3.
-/
import Derived.Test.YtmkicbphbegjbaaTimerPlaysPb
namespace Go.Proofs.Ytmkicbphbegjbaa
open Go Go.Sse
set_option linter.unusedVariables false
set_option linter.unusedSimpArgs false
set_option maxRecDepth 10000
abbrev tDd : Nat := 98
abbrev dd0 : List UInt8 × Int := ([], 0)
def ddC (p : List UInt8 × Int) : List SV := [str p.1, int p.2]
abbrev ddl (D : Dd) : SV := .sl 2 D.length (elOf ddC dd0 D)
abbrev rowDd (v : Value) (D : Dd) : Own := .row v tDd 2 D.length (elOf ddC dd0 D)
def rfind (D : Dd) (nm : List UInt8) : Int := if isAt D nm then (findD D nm : Int) else -1
theorem findD_eq {D : Dd} {nm : List UInt8} {i : Nat} (hi : i < D.length) (h1 : (D.getD i dd0).1 = nm) (h2 : ∀ j, j < i → (D.getD j dd0).1 ≠ nm) : findD D nm = i := by
  unfold findD
  rw [List.findIdx_eq hi]
  have hg : ∀ j (h : j < D.length), D.getD j dd0 = D[j] := fun j h => by rw [List.getD_eq_getElem?_getD, List.getElem?_eq_getElem h]; rfl
  refine ⟨decide_eq_true (by rw [← hg i hi]; exact h1), fun j hj => decide_eq_false ?_⟩
  rw [← hg j (by omega)]
  exact h2 j hj
theorem isAt_no {D : Dd} {nm : List UInt8} (h : ∀ j, j < D.length → (D.getD j dd0).1 ≠ nm) : ¬ isAt D nm := by
  intro hh
  obtain ⟨p, hp, e⟩ := List.mem_map.1 (isAt_iff.1 hh)
  obtain ⟨j, hj, e2⟩ := List.getElem_of_mem hp
  exact h j hj (by rw [List.getD_eq_getElem?_getD, List.getElem?_eq_getElem hj, Option.getD_some, e2]; exact e)
theorem rfind_ok (D : Dd) (nm : List UInt8) (hD : D.length < 100000) : FnC Try.prog 40 [ddl D, str nm] [] (fun r L => r = int (rfind D nm) ∧ L = []) := by
  refine FnC.intro Try.func40 rfl Try.ntmps40 rfl fun Z w0 hG => ?_
  focus (
 (refine W.seq (W.region (Jx.assign rfl rfl (J.nil (N.seq (W.seq (W.seq (W.region (Jx.assign rfl rfl (J.nil (N.seq (W.block ?_))))))))))))
 (refine id ?_; rotate_left))
  refine W.loop (α := Nat) (fun i => [(5, int (i : Int)), (0, ddl D), (1, str nm)]) (fun _ => []) (fun i => i ≤ D.length ∧ ∀ j, j < i → (D.getD j dd0).1 ≠ nm) (fun i => D.length - i) 0 ⟨Nat.zero_le _, fun j hj => absurd hj (Nat.not_lt_zero j)⟩ rfl ⟨ref0 rfl, ref0 rfl, ref0 rfl, trivial⟩ ?_
  rintro i ⟨hi, hI⟩
  by_cases h1 : i < D.length
  · have h1' : (i : Int) < (D.length : Int) := by omega
    have e1 : (i : Int) + 1 = ((i + 1 : Nat) : Int) := by omega
    by_cases h2 : (D.getD i dd0).1 = nm
    · have hf := findD_eq h1 h2 hI
      have hr : rfind D nm = (i : Int) := by unfold rfind isAt; rw [if_pos (by omega), hf]
      rw [hr]
      focus (
 (refine W.seq (W.seq (W.region (Jx.move rfl rfl (Jx.move rfl rfl (Jx.lenSl rfl rfl ?_))))))
 (refine Jx.lssI rfl rfl rfl (J.nil (N.seq (W.cT rfl ?_))))
 (refine W.skip (N.seq (W.seq (W.block (W.seq (W.region (Jx.move rfl rfl (Jx.move rfl rfl (Jx.indexEl rfl rfl (by assumption) rfl rfl ?_)))))))))
 (refine Jx.fieldEl rfl rfl rfl ?_)
 (refine Jx.loadPP rfl rfl ?_)
 (refine Jx.move rfl rfl (Jx.eqlS rfl rfl rfl (J.nil (N.seq (W.cT rfl ?_)))))
 (refine W.seq (W.region (Jx.move rfl rfl (Jx.assign rfl rfl (J.nil (N.seq (W.ret (N.noGotoRet (N.noGotoRet (N.noGotoRet (N.noGotoRet (N.noGotoRet ?_))))))))))))
 (refine id ?_; rotate_left))
      exact N.ret (rs := [.tmp 4]) rfl (.tmp rfl .nil) ⟨rfl, rfl⟩
    · focus (
 (refine W.seq (W.seq (W.region (Jx.move rfl rfl (Jx.move rfl rfl (Jx.lenSl rfl rfl ?_))))))
 (refine Jx.lssI rfl rfl rfl (J.nil (N.seq (W.cT rfl ?_))))
 (refine W.skip (N.seq (W.seq (W.block (W.seq (W.region (Jx.move rfl rfl (Jx.move rfl rfl (Jx.indexEl rfl rfl (by assumption) rfl rfl ?_)))))))))
 (refine Jx.fieldEl rfl rfl rfl ?_)
 (refine Jx.loadPP rfl rfl ?_)
 (refine Jx.move rfl rfl (Jx.eqlS rfl rfl rfl (J.nil (N.seq (W.cF rfl ?_)))))
 (refine W.skip (N.seq (W.region (Jx.move rfl rfl ?_))))
 (refine Jx.add64 rfl rfl (by omega) rfl ?_; rw [e1])
 (refine Jx.assign rfl rfl (J.nil ?_))
 (refine id ?_; rotate_left))
      exact N.round (i + 1) ⟨h1, fun j hj => by
        by_cases e : j < i
        · exact hI j e
        · obtain rfl : j = i := by omega
          exact h2⟩ (by omega) rfl ⟨ref0 rfl, ref0 rfl, ref0 rfl, trivial⟩
  · have h1' : ¬ (i : Int) < (D.length : Int) := by omega
    have hr : rfind D nm = -1 := by unfold rfind; rw [if_neg (isAt_no fun j hj => hI j (by omega))]
    rw [hr]
    focus (
 (refine W.seq (W.seq (W.region (Jx.move rfl rfl (Jx.move rfl rfl (Jx.lenSl rfl rfl ?_))))))
 (refine Jx.lssI rfl rfl rfl (J.nil (N.seq (W.cF rfl ?_))))
 (refine W.exit (N.seq (W.seq (W.region (Jx.assign rfl rfl (J.nil (N.seq (W.ret ?_))))))))
 (refine id ?_; rotate_left))
    exact N.ret (rs := [.tmp 4]) rfl (.tmp rfl .nil) ⟨rfl, rfl⟩
theorem take_snoc {D : Dd} {i : Nat} (h : i < D.length) : D.take (i + 1) = D.take i ++ [D.getD i dd0] := by
  rw [List.take_add_one, List.getElem?_eq_getElem h, List.getD_eq_getElem?_getD, List.getElem?_eq_getElem h]; rfl
theorem erase_snoc {D : Dd} {i k : Nat} (h : i < D.length) : (D.take (i + 1)).eraseIdx k = (D.take i).eraseIdx k ++ (if i = k then [] else [D.getD i dd0]) := by
  have hl : (D.take i).length = i := by rw [List.length_take]; omega
  rw [take_snoc h]
  by_cases e : i = k
  · subst e
    rw [if_pos rfl, List.eraseIdx_append_of_length_le (by omega), hl, Nat.sub_self, List.eraseIdx_of_length_le (l := D.take i) (by omega)]
    rfl
  · rw [if_neg e]
    by_cases h2 : k < i
    · rw [List.eraseIdx_append_of_lt_length (by omega)]
    · rw [List.eraseIdx_of_length_le (l := D.take i) (by omega), List.eraseIdx_of_length_le (by simp; omega)]
set_option maxHeartbeats 2000000 in
theorem without_ok (D : Dd) (kk : Int) (k : Nat) (hk : ∀ i : Nat, i < D.length → ((i : Int) = kk ↔ i = k)) (hD : D.length < 100000) : FnC Try.prog 41 [ddl D, int kk] [] (fun r L => ∃ v, v.oneCell' = true ∧ r = .val v ∧ L = [rowDd v (D.eraseIdx k)]) := by
  refine FnC.intro Try.func41 rfl Try.ntmps41 rfl fun Z w0 hG => ?_
  refine W.rowNil tDd 2 (elOf ddC dd0 []) ?_
  focus (
 (refine W.seq (W.region (Jx.assign rfl rfl (J.nil (N.seq (W.seq (W.region (Jx.assign rfl rfl (J.nil (N.seq (W.seq (W.seq (W.region (Jx.assign rfl rfl ?_))))))))))))))
 (refine J.nil (N.seq (W.block ?_)))
 (refine id ?_; rotate_left))
  refine W.loop (α := Nat × Value × Dd) (fun x => [(6, int (x.1 : Int)), (5, .val x.2.1), (0, ddl D), (1, int kk)]) (fun x => [rowDd x.2.1 x.2.2]) (fun x => x.1 ≤ D.length ∧ x.2.2 = (D.take x.1).eraseIdx k ∧ x.2.2.length ≤ x.1 ∧ x.2.1.oneCell' = true) (fun x => D.length - x.1) (0, .slice none 0 0, []) ⟨Nat.zero_le _, rfl, Nat.le_refl _, rfl⟩ rfl ⟨ref0 rfl, ref0 rfl, ref0 rfl, ref0 rfl, trivial⟩ ?_
  rintro ⟨i, v, E⟩ ⟨hi, hE, hl, hv⟩
  simp only at hi hE hl hv ⊢
  by_cases h1 : i < D.length
  · have h1' : (i : Int) < (D.length : Int) := by omega
    have e1 : (i : Int) + 1 = ((i + 1 : Nat) : Int) := by omega
    have hs := erase_snoc (k := k) h1
    rw [← hE] at hs
    by_cases h2 : i = k
    · have h2' : (i : Int) = kk := (hk i h1).2 h2
      rw [if_pos h2, List.append_nil] at hs
      focus (
 (refine W.seq (W.seq (W.region (Jx.move rfl rfl (Jx.move rfl rfl (Jx.lenSl rfl rfl ?_))))))
 (refine Jx.lssI rfl rfl rfl (J.nil (N.seq (W.cT rfl ?_))))
 (refine W.skip (N.seq (W.seq (W.block (W.seq (W.region (Jx.move rfl rfl (Jx.move rfl rfl (Jx.neqI rfl rfl rfl (J.nil (N.seq (W.cF rfl ?_))))))))))))
 (refine W.skip (N.seq (W.region (Jx.move rfl rfl ?_))))
 (refine Jx.add64 rfl rfl (by omega) rfl ?_; rw [e1])
 (refine Jx.assign rfl rfl (J.nil ?_))
 (refine id ?_; rotate_left))
      exact N.round (i + 1, v, E) ⟨h1, hs.symm, by simp only; omega, hv⟩ (by simp only; omega) rfl ⟨ref0 rfl, ref0 rfl, ref0 rfl, ref0 rfl, trivial⟩
    · have h2' : ¬ (i : Int) = kk := fun e => h2 ((hk i h1).1 e)
      rw [if_neg h2] at hs
      have hmx : E.length + [D.getD i dd0].length ≤ maxLen ∧ (E.length + [D.getD i dd0].length) * 24 ≤ 140737488355328 := by simp only [maxLen, List.length_cons, List.length_nil]; omega
      have hl2 : (E ++ [D.getD i dd0]).length = E.length + 1 := by simp
      focus (
 (refine W.seq (W.seq (W.region (Jx.move rfl rfl (Jx.move rfl rfl (Jx.lenSl rfl rfl ?_))))))
 (refine Jx.lssI rfl rfl rfl (J.nil (N.seq (W.cT rfl ?_))))
 (refine W.skip (N.seq (W.seq (W.block (W.seq (W.region (Jx.move rfl rfl (Jx.move rfl rfl (Jx.neqI rfl rfl rfl (J.nil (N.seq (W.cT rfl ?_))))))))))))
 (refine W.region (Jx.move rfl rfl (Jx.move rfl rfl (Jx.move rfl rfl (Jx.indexEl rfl rfl (by assumption) rfl rfl ?_)))))
 (refine Jx.loadPPall rfl rfl rfl ?_)
 (refine J.qs (Qs.buildOne ddC dd0 (D.getD i dd0) rfl rfl rfl rfl rfl rfl rfl) rfl ?_)
 (refine J.appendAt (enc := ddC) (l := E) (l2 := [D.getD i dd0]) 0 rfl rfl (SrcOK.sl rfl) rfl rfl hmx rfl ?_; intro v' hv')
 (refine Jx.assign rfl rfl (J.nil (N.seq (W.region (Jx.move rfl rfl ?_)))))
 (refine Jx.add64 rfl rfl (by omega) rfl ?_; rw [e1])
 (refine Jx.assign rfl rfl (J.nil ?_))
 (refine id ?_; rotate_left))
      exact N.round (i + 1, v', E ++ [D.getD i dd0]) ⟨h1, hs.symm, by simp only [hl2]; omega, hv'⟩ (by simp only; omega) rfl ⟨ref0 rfl, ref0 rfl, ref0 rfl, ref0 rfl, trivial⟩
  · have h1' : ¬ (i : Int) < (D.length : Int) := by omega
    rw [List.take_of_length_le (by omega)] at hE
    focus (
 (refine W.seq (W.seq (W.region (Jx.move rfl rfl (Jx.move rfl rfl (Jx.lenSl rfl rfl ?_))))))
 (refine Jx.lssI rfl rfl rfl (J.nil (N.seq (W.cF rfl ?_))))
 (refine W.exit (N.seq (W.seq (W.region (Jx.move rfl rfl (Jx.assign rfl rfl (J.nil (N.seq (W.ret ?_)))))))))
 (refine id ?_; rotate_left))
    exact N.ret (rs := [.tmp 4]) rfl (.tmp rfl .nil) ⟨v, hv, rfl, by rw [← hE]⟩
def rfirst (D : Dd) : Int := if 0 < D.length then (firstD D : Int) else -1
theorem getD_get {D : Dd} {i : Nat} (h : i < D.length) : D.getD i dd0 = D[i] := by rw [List.getD_eq_getElem?_getD, List.getElem?_eq_getElem h]; rfl
theorem rfirst_at {D : Dd} {k : Nat} (hk : k < D.length) (h1 : ∀ j, j < D.length → (D.getD k dd0).2 ≤ (D.getD j dd0).2) (h2 : ∀ j, j < k → (D.getD k dd0).2 < (D.getD j dd0).2) : rfirst D = (k : Int) := by
  unfold rfirst
  rw [if_pos (by omega), firstD_eq hk]
  · intro q hq
    obtain ⟨j, hj, e⟩ := List.getElem_of_mem hq
    have := h1 j hj
    rwa [getD_get hk, getD_get hj, e] at this
  · intro j hj
    have := h2 j hj
    rwa [getD_get hk, getD_get (by omega)] at this
set_option maxHeartbeats 2000000 in
theorem rfirst_ok (D : Dd) (hD : D.length < 100000) : FnC Try.prog 42 [ddl D] [] (fun r L => r = int (rfirst D) ∧ L = []) := by
  by_cases h0 : 0 < D.length
  · refine FnC.intro Try.func42 rfl Try.ntmps42 rfl fun Z w0 hG => ?_
    focus (
 (refine W.seq (W.region (Jx.assign rfl rfl (J.nil (N.seq (W.seq (W.region (Jx.assign rfl rfl (J.nil (N.seq (W.seq (W.seq (W.region (Jx.assign rfl rfl ?_))))))))))))))
 (refine J.nil (N.seq (W.block ?_)))
 (refine id ?_; rotate_left))
    refine W.loop (α := Nat × Int) (fun x => [(4, int (x.1 : Int)), (3, int x.2), (0, ddl D)]) (fun _ => []) (fun x => x.1 ≤ D.length ∧ (x.1 = 0 → x.2 = -1) ∧ (0 < x.1 → ∃ k : Nat, x.2 = (k : Int) ∧ k < x.1 ∧ (∀ j, j < x.1 → (D.getD k dd0).2 ≤ (D.getD j dd0).2) ∧ ∀ j, j < k → (D.getD k dd0).2 < (D.getD j dd0).2)) (fun x => D.length - x.1) (0, -1) ⟨Nat.zero_le _, fun _ => rfl, fun h => absurd h (Nat.lt_irrefl 0)⟩ rfl ⟨ref0 rfl, ref0 rfl, ref0 rfl, trivial⟩ ?_
    rintro ⟨i, best⟩ ⟨hi, hz, hI⟩
    simp only at hi hz hI ⊢
    by_cases h1 : i < D.length
    · have h1' : (i : Int) < (D.length : Int) := by omega
      have e1 : (i : Int) + 1 = ((i + 1 : Nat) : Int) := by omega
      by_cases hi0 : i = 0
      · subst hi0
        obtain rfl := hz rfl
        focus (
 (refine W.seq (W.seq (W.region (Jx.move rfl rfl (Jx.move rfl rfl (Jx.lenSl rfl rfl ?_))))))
 (refine Jx.lssI rfl rfl rfl (J.nil (N.seq (W.cT rfl ?_))))
 (refine W.skip (N.seq (W.seq (W.block (W.seq ?_)))))
 (refine W.draw follows ?_)
 (refine JD.calm rfl (by decide +kernel) ?_)
 (refine Cx.move rfl rfl ?_)
 (refine Cx.lssI rfl rfl rfl ?_)
 (refine Cx.move rfl rfl ?_)
 (refine SegC.gU rfl rfl rfl rfl ?_)
 (refine SegC.gU rfl rfl rfl rfl ?_)
 (refine SegC.gU rfl rfl rfl rfl ?_)
 (refine SegC.gU rfl rfl rfl rfl ?_)
 (refine SegC.gU rfl rfl rfl rfl ?_)
 (refine SegC.gU rfl rfl rfl rfl ?_)
 (refine SegC.gU rfl rfl rfl rfl ?_)
 (refine SegC.gU rfl rfl rfl rfl ?_)
 (refine SegC.gU rfl rfl rfl rfl ?_)
 (refine SegC.gU rfl rfl rfl rfl ?_)
 (refine SegC.gU rfl rfl rfl rfl ?_)
 (refine Cx.pickT rfl (by first | rfl | assumption | (exact decide_eq_true (by first | assumption | omega | rfl)) | (exact decide_eq_false (by first | assumption | omega | rfl)) | (simp; done) | (simp; omega)) rfl rfl ?_)
 (refine SegC.nil ?_)
 (refine N.seq (W.cT rfl ?_))
 (refine W.region (Jx.move rfl rfl (Jx.assign rfl rfl (J.nil (N.seq (W.region (Jx.move rfl rfl ?_)))))))
 (refine Jx.add64 rfl rfl (by omega) rfl ?_; rw [e1])
 (refine Jx.assign rfl rfl (J.nil ?_))
 (refine id ?_; rotate_left))
        refine N.round (1, 0) ⟨h1, fun h => by simp at h, fun _ => ⟨0, rfl, Nat.zero_lt_one, fun j hj => ?_, fun j hj => absurd hj (Nat.not_lt_zero j)⟩⟩ (by simp only; omega) rfl ⟨ref0 rfl, ref0 rfl, ref0 rfl, trivial⟩
        obtain rfl : j = 0 := by simp only at hj; omega
        exact Int.le_refl _
      · obtain ⟨k, rfl, hk, hk1, hk2⟩ := hI (by omega)
        have hkD : k < D.length := by omega
        have hkn : ¬ ((k : Int) < 0) := by omega
        by_cases h2 : (D.getD i dd0).2 < (D.getD k dd0).2
        · focus (
 (refine W.seq (W.seq (W.region (Jx.move rfl rfl (Jx.move rfl rfl (Jx.lenSl rfl rfl ?_))))))
 (refine Jx.lssI rfl rfl rfl (J.nil (N.seq (W.cT rfl ?_))))
 (refine W.skip (N.seq (W.seq (W.block (W.seq ?_)))))
 (refine W.draw follows ?_)
 (refine JD.calm rfl (by decide +kernel) ?_)
 (refine Cx.move rfl rfl ?_)
 (refine Cx.lssI rfl rfl rfl ?_)
 (refine Cx.move rfl rfl ?_)
 (refine SegC.gY rfl rfl rfl ?_)
 (refine Cx.move rfl rfl ?_)
 (refine SegC.gY rfl rfl rfl ?_)
 (refine Cx.move rfl rfl ?_)
 (refine SegC.gY rfl rfl rfl ?_)
 (refine Cx.indexEl rfl rfl (by assumption) rfl rfl ?_)
 (refine SegC.gY rfl rfl rfl ?_)
 (refine Cx.fieldEl rfl rfl rfl ?_)
 (refine SegC.gY rfl rfl rfl ?_)
 (refine Cx.loadPP rfl rfl ?_)
 (refine SegC.gY rfl rfl rfl ?_)
 (refine Cx.move rfl rfl ?_)
 (refine SegC.gY rfl rfl rfl ?_)
 (refine Cx.move rfl rfl ?_)
 (refine SegC.gY rfl rfl rfl ?_)
 (refine Cx.indexEl rfl rfl (by assumption) rfl rfl ?_)
 (refine SegC.gY rfl rfl rfl ?_)
 (refine Cx.fieldEl rfl rfl rfl ?_)
 (refine SegC.gY rfl rfl rfl ?_)
 (refine Cx.loadPP rfl rfl ?_)
 (refine SegC.gY rfl rfl rfl ?_)
 (refine Cx.lssI rfl rfl rfl ?_)
 (refine Cx.pickF rfl (by first | rfl | assumption | (exact decide_eq_true (by first | assumption | omega | rfl)) | (exact decide_eq_false (by first | assumption | omega | rfl)) | (simp; done) | (simp; omega)) rfl rfl ?_)
 (refine SegC.nil ?_)
 (refine N.seq (W.cT rfl ?_))
 (refine W.region (Jx.move rfl rfl (Jx.assign rfl rfl (J.nil (N.seq (W.region (Jx.move rfl rfl ?_)))))))
 (refine Jx.add64 rfl rfl (by omega) rfl ?_; rw [e1])
 (refine Jx.assign rfl rfl (J.nil ?_))
 (refine id ?_; rotate_left))
          refine N.round (i + 1, (i : Int)) ⟨h1, fun h => by simp at h, fun _ => ⟨i, rfl, by omega, fun j hj => ?_, fun j hj => ?_⟩⟩ (by simp only; omega) rfl ⟨ref0 rfl, ref0 rfl, ref0 rfl, trivial⟩
          · simp only at hj
            by_cases e : j < i
            · have := hk1 j e; omega
            · obtain rfl : j = i := by omega
              exact Int.le_refl _
          · have := hk1 j hj; omega
        · focus (
 (refine W.seq (W.seq (W.region (Jx.move rfl rfl (Jx.move rfl rfl (Jx.lenSl rfl rfl ?_))))))
 (refine Jx.lssI rfl rfl rfl (J.nil (N.seq (W.cT rfl ?_))))
 (refine W.skip (N.seq (W.seq (W.block (W.seq ?_)))))
 (refine W.draw follows ?_)
 (refine JD.calm rfl (by decide +kernel) ?_)
 (refine Cx.move rfl rfl ?_)
 (refine Cx.lssI rfl rfl rfl ?_)
 (refine Cx.move rfl rfl ?_)
 (refine SegC.gY rfl rfl rfl ?_)
 (refine Cx.move rfl rfl ?_)
 (refine SegC.gY rfl rfl rfl ?_)
 (refine Cx.move rfl rfl ?_)
 (refine SegC.gY rfl rfl rfl ?_)
 (refine Cx.indexEl rfl rfl (by assumption) rfl rfl ?_)
 (refine SegC.gY rfl rfl rfl ?_)
 (refine Cx.fieldEl rfl rfl rfl ?_)
 (refine SegC.gY rfl rfl rfl ?_)
 (refine Cx.loadPP rfl rfl ?_)
 (refine SegC.gY rfl rfl rfl ?_)
 (refine Cx.move rfl rfl ?_)
 (refine SegC.gY rfl rfl rfl ?_)
 (refine Cx.move rfl rfl ?_)
 (refine SegC.gY rfl rfl rfl ?_)
 (refine Cx.indexEl rfl rfl (by assumption) rfl rfl ?_)
 (refine SegC.gY rfl rfl rfl ?_)
 (refine Cx.fieldEl rfl rfl rfl ?_)
 (refine SegC.gY rfl rfl rfl ?_)
 (refine Cx.loadPP rfl rfl ?_)
 (refine SegC.gY rfl rfl rfl ?_)
 (refine Cx.lssI rfl rfl rfl ?_)
 (refine Cx.pickF rfl (by first | rfl | assumption | (exact decide_eq_true (by first | assumption | omega | rfl)) | (exact decide_eq_false (by first | assumption | omega | rfl)) | (simp; done) | (simp; omega)) rfl rfl ?_)
 (refine SegC.nil ?_)
 (refine N.seq (W.cF rfl ?_))
 (refine W.skip (N.seq (W.region (Jx.move rfl rfl ?_))))
 (refine Jx.add64 rfl rfl (by omega) rfl ?_; rw [e1])
 (refine Jx.assign rfl rfl (J.nil ?_))
 (refine id ?_; rotate_left))
          refine N.round (i + 1, (k : Int)) ⟨h1, fun h => by simp at h, fun _ => ⟨k, rfl, by omega, fun j hj => ?_, hk2⟩⟩ (by simp only; omega) rfl ⟨ref0 rfl, ref0 rfl, ref0 rfl, trivial⟩
          simp only at hj
          by_cases e : j < i
          · exact hk1 j e
          · obtain rfl : j = i := by omega
            omega
    · have h1' : ¬ (i : Int) < (D.length : Int) := by omega
      obtain ⟨k, rfl, hk, hk1, hk2⟩ := hI (by omega)
      have hr := rfirst_at (D := D) (k := k) (by omega) (fun j hj => hk1 j (by omega)) hk2
      rw [hr]
      focus (
 (refine W.seq (W.seq (W.region (Jx.move rfl rfl (Jx.move rfl rfl (Jx.lenSl rfl rfl ?_))))))
 (refine Jx.lssI rfl rfl rfl (J.nil (N.seq (W.cF rfl ?_))))
 (refine W.exit (N.seq (W.seq (W.region (Jx.move rfl rfl (Jx.assign rfl rfl (J.nil (N.seq (W.ret ?_)))))))))
 (refine id ?_; rotate_left))
      exact N.ret (rs := [.tmp 2]) rfl (.tmp rfl .nil) ⟨rfl, rfl⟩
  · obtain rfl : D = [] := List.eq_nil_of_length_eq_zero (by omega)
    refine FnC.intro Try.func42 rfl Try.ntmps42 rfl fun Z w0 hG => ?_
    focus (
 (refine W.seq (W.region (Jx.assign rfl rfl (J.nil (N.seq (W.seq (W.region (Jx.assign rfl rfl (J.nil (N.seq (W.seq (W.seq (W.region (Jx.assign rfl rfl ?_))))))))))))))
 (refine J.nil (N.seq (W.block ?_)))
 (refine id ?_; rotate_left))
    refine W.loop (α := Unit) (fun x => [(4, int 0), (3, int (-1)), (0, ddl [])]) (fun _ => []) (fun x => True) (fun x => 0) () trivial rfl ⟨ref0 rfl, ref0 rfl, ref0 rfl, trivial⟩ ?_
    rintro _ _
    focus (
 (refine W.seq (W.seq (W.region (Jx.move rfl rfl (Jx.move rfl rfl (Jx.lenSl rfl rfl ?_))))))
 (refine Jx.lssI rfl rfl rfl (J.nil (N.seq (W.cF rfl ?_))))
 (refine W.exit (N.seq (W.seq (W.region (Jx.move rfl rfl (Jx.assign rfl rfl (J.nil (N.seq (W.ret ?_)))))))))
 (refine id ?_; rotate_left))
    exact N.ret (rs := [.tmp 2]) rfl (.tmp rfl .nil) ⟨rfl, rfl⟩
end Go.Proofs.Ytmkicbphbegjbaa
namespace Go.Proofs.Ytmkicbphbegjbaa
open Go Go.Sse
set_option linter.unusedVariables false
set_option linter.unusedSimpArgs false
set_option maxRecDepth 10000
end Go.Proofs.Ytmkicbphbegjbaa
namespace Go.Proofs.Ytmkicbphbegjbaa
open Go Go.Sse
set_option linter.unusedVariables false
set_option linter.unusedSimpArgs false
set_option maxRecDepth 10000
theorem rfind_ix (D : Dd) (nm : List UInt8) : ∀ i : Nat, i < D.length → ((i : Int) = rfind D nm ↔ i = findD D nm) := by
  intro i hi
  unfold rfind
  by_cases h : isAt D nm
  · rw [if_pos h]; omega
  · rw [if_neg h]
    unfold isAt at h
    omega
theorem rfind_neg {D : Dd} {nm : List UInt8} : rfind D nm < 0 ↔ ¬ isAt D nm := by
  unfold rfind
  by_cases h : isAt D nm
  · rw [if_pos h]; constructor
    · intro hh; omega
    · intro hh; exact absurd h hh
  · rw [if_neg h]; exact ⟨fun _ => h, fun _ => by omega⟩
set_option maxHeartbeats 4000000 in
theorem rset_ok (D : Dd) (nm : List UInt8) (tm : Int) (hD : D.length < 100000) : FnC Try.prog 18 [ddl D, str nm, int tm] [] (fun r L => r = .tup [ddl (setD D nm tm).1, int (setD D nm tm).2] ∧ L = []) := by
  by_cases ha : tm < 0 ∨ 1099511627776 < tm
  · rw [show setD D nm tm = (D, 1) by unfold setD; rw [if_pos ha]]
    by_cases h0 : tm < 0
    · refine FnC.intro Try.func18 rfl Try.ntmps18 rfl fun Z w0 hG => ?_
      focus (
 (refine W.seq (W.region (Jx.assign rfl rfl (Jx.assign rfl rfl (J.nil (N.seq (W.seq (W.seq (W.region (Jx.move rfl rfl (Jx.lssI rfl rfl rfl (Jx.move rfl rfl (J.gN rfl rfl rfl rfl ?_)))))))))))))
 (refine J.gN rfl rfl rfl rfl ?_)
 (refine Jx.pT rfl rfl rfl ?_)
 (refine J.nil (N.seq (W.cT rfl ?_)))
 (refine W.seq (W.region (Jx.move rfl rfl (Jx.assign rfl rfl (Jx.assign rfl rfl (J.nil (N.seq (W.ret (N.noGotoRet ?_)))))))))
 (refine id ?_; rotate_left))
      exact N.ret (rs := [.tmp 6, .tmp 7]) rfl (.tmp rfl (.tmp rfl .nil)) ⟨rfl, rfl⟩
    · have h0' : 1099511627776 < tm := by omega
      refine FnC.intro Try.func18 rfl Try.ntmps18 rfl fun Z w0 hG => ?_
      focus (
 (refine W.seq (W.region (Jx.assign rfl rfl (Jx.assign rfl rfl (J.nil (N.seq (W.seq (W.seq (W.region (Jx.move rfl rfl (Jx.lssI rfl rfl rfl (Jx.move rfl rfl (J.gY rfl rfl rfl ?_)))))))))))))
 (refine Jx.move rfl rfl (J.gY rfl rfl rfl ?_))
 (refine Jx.gtrI rfl rfl rfl (Jx.pF rfl rfl rfl ?_))
 (refine J.nil (N.seq (W.cT rfl ?_)))
 (refine W.seq (W.region (Jx.move rfl rfl (Jx.assign rfl rfl (Jx.assign rfl rfl (J.nil (N.seq (W.ret (N.noGotoRet ?_)))))))))
 (refine id ?_; rotate_left))
      exact N.ret (rs := [.tmp 6, .tmp 7]) rfl (.tmp rfl (.tmp rfl .nil)) ⟨rfl, rfl⟩
  have ha1 : ¬ tm < 0 := by omega
  have ha2 : ¬ 1099511627776 < tm := by omega
  have hcase : setD D nm tm = if ¬ isAt D nm ∧ 1024 ≤ D.length then (D, 2) else (newD D nm tm, 0) := by unfold setD; rw [if_neg ha]
  rw [hcase]
  have cf := rfind_ok D nm hD
  have cw := without_ok D (rfind D nm) (findD D nm) (rfind_ix D nm) hD
  have hneg := rfind_neg (D := D) (nm := nm)
  have hlE := (List.eraseIdx_sublist D (findD D nm)).length_le
  unfold newD
  generalize D.eraseIdx (findD D nm) = E at *
  generalize rfind D nm = k at *
  have hmx : E.length + [(nm, tm)].length ≤ maxLen ∧ (E.length + [(nm, tm)].length) * 24 ≤ 140737488355328 := by simp only [maxLen, List.length_cons, List.length_nil]; omega
  have hm1 : (E ++ [(nm, tm)]).length ≤ maxLen := by simp only [maxLen, List.length_append, List.length_cons, List.length_nil]; omega
  by_cases h0 : isAt D nm
  · have hk : ¬ k < 0 := fun h => hneg.1 h h0
    rw [if_neg (fun h => h.1 h0)]
    refine FnC.intro Try.func18 rfl Try.ntmps18 rfl fun Z w0 hG => ?_
    focus (
 (refine W.seq (W.region (Jx.assign rfl rfl (Jx.assign rfl rfl (J.nil (N.seq (W.seq (W.seq (W.region (Jx.move rfl rfl (Jx.lssI rfl rfl rfl (Jx.move rfl rfl (J.gY rfl rfl rfl ?_)))))))))))))
 (refine Jx.move rfl rfl (J.gY rfl rfl rfl ?_))
 (refine Jx.gtrI rfl rfl rfl (Jx.pF rfl rfl rfl ?_))
 (refine J.nil (N.seq (W.cF rfl ?_)))
 (refine W.skip (N.seq (W.seq (W.region (Jx.move rfl rfl (Jx.move rfl rfl ?_))))))
 (refine J.call cf rfl (evs_args rfl) rfl ?_; rintro _ _ ⟨rfl, rfl⟩)
 (refine Jx.assign rfl rfl (J.nil (N.seq (W.seq (W.seq (W.region (Jx.move rfl rfl (Jx.lssI rfl rfl rfl (Jx.move rfl rfl (J.gN rfl rfl rfl rfl ?_))))))))))
 (refine J.gN rfl rfl rfl rfl ?_)
 (refine J.gN rfl rfl rfl rfl ?_)
 (refine Jx.pF rfl rfl rfl ?_)
 (refine J.nil (N.seq (W.cF rfl ?_)))
 (refine W.skip (N.seq (W.seq (W.region (Jx.move rfl rfl (Jx.move rfl rfl ?_))))))
 (refine J.call cw rfl (evs_args rfl) rfl ?_; rintro _ _ ⟨v, hv, rfl, rfl⟩; rw [List.append_nil])
 (refine Jx.move rfl rfl (Jx.move rfl rfl (Jx.buildB rfl rfl rfl rfl rfl ?_)))
 (refine J.qs (Qs.buildOne ddC dd0 (nm, tm) rfl rfl rfl rfl rfl rfl rfl) rfl ?_)
 (refine J.appendAt (enc := ddC) (l := E) (l2 := [(nm, tm)]) 0 rfl rfl (SrcOK.sl rfl) rfl rfl hmx rfl ?_; intro v' hv'; rw [List.set_cons_zero]; refine J.freeze 34 rfl hm1 ?_)
 (refine Jx.assign rfl rfl (Jx.assign rfl rfl (J.nil (N.seq (W.ret ?_)))))
 (refine id ?_; rotate_left))
    exact N.ret (rs := [.tmp 6, .tmp 7]) rfl (.tmp rfl (.tmp rfl .nil)) ⟨rfl, rfl⟩
  · have hk : k < 0 := hneg.2 h0
    by_cases h3 : 1024 ≤ D.length
    · have h3' : 1024 ≤ (D.length : Int) := by omega
      rw [if_pos ⟨h0, h3⟩]
      refine FnC.intro Try.func18 rfl Try.ntmps18 rfl fun Z w0 hG => ?_
      focus (
 (refine W.seq (W.region (Jx.assign rfl rfl (Jx.assign rfl rfl (J.nil (N.seq (W.seq (W.seq (W.region (Jx.move rfl rfl (Jx.lssI rfl rfl rfl (Jx.move rfl rfl (J.gY rfl rfl rfl ?_)))))))))))))
 (refine Jx.move rfl rfl (J.gY rfl rfl rfl ?_))
 (refine Jx.gtrI rfl rfl rfl (Jx.pF rfl rfl rfl ?_))
 (refine J.nil (N.seq (W.cF rfl ?_)))
 (refine W.skip (N.seq (W.seq (W.region (Jx.move rfl rfl (Jx.move rfl rfl ?_))))))
 (refine J.call cf rfl (evs_args rfl) rfl ?_; rintro _ _ ⟨rfl, rfl⟩)
 (refine Jx.assign rfl rfl (J.nil (N.seq (W.seq (W.seq (W.region (Jx.move rfl rfl (Jx.lssI rfl rfl rfl (Jx.move rfl rfl (J.gY rfl rfl rfl ?_))))))))))
 (refine Jx.move rfl rfl (J.gY rfl rfl rfl ?_))
 (refine Jx.lenSl rfl rfl ?_)
 (refine J.gY rfl rfl rfl ?_)
 (refine Jx.geqI rfl rfl rfl (Jx.pT rfl rfl rfl ?_))
 (refine J.nil (N.seq (W.cT rfl ?_)))
 (refine W.seq (W.region (Jx.move rfl rfl (Jx.assign rfl rfl (Jx.assign rfl rfl (J.nil (N.seq (W.ret (N.noGotoRet ?_)))))))))
 (refine id ?_; rotate_left))
      exact N.ret (rs := [.tmp 6, .tmp 7]) rfl (.tmp rfl (.tmp rfl .nil)) ⟨rfl, rfl⟩
    · have h3' : ¬ 1024 ≤ (D.length : Int) := by omega
      rw [if_neg (fun h => h3 h.2)]
      refine FnC.intro Try.func18 rfl Try.ntmps18 rfl fun Z w0 hG => ?_
      focus (
 (refine W.seq (W.region (Jx.assign rfl rfl (Jx.assign rfl rfl (J.nil (N.seq (W.seq (W.seq (W.region (Jx.move rfl rfl (Jx.lssI rfl rfl rfl (Jx.move rfl rfl (J.gY rfl rfl rfl ?_)))))))))))))
 (refine Jx.move rfl rfl (J.gY rfl rfl rfl ?_))
 (refine Jx.gtrI rfl rfl rfl (Jx.pF rfl rfl rfl ?_))
 (refine J.nil (N.seq (W.cF rfl ?_)))
 (refine W.skip (N.seq (W.seq (W.region (Jx.move rfl rfl (Jx.move rfl rfl ?_))))))
 (refine J.call cf rfl (evs_args rfl) rfl ?_; rintro _ _ ⟨rfl, rfl⟩)
 (refine Jx.assign rfl rfl (J.nil (N.seq (W.seq (W.seq (W.region (Jx.move rfl rfl (Jx.lssI rfl rfl rfl (Jx.move rfl rfl (J.gY rfl rfl rfl ?_))))))))))
 (refine Jx.move rfl rfl (J.gY rfl rfl rfl ?_))
 (refine Jx.lenSl rfl rfl ?_)
 (refine J.gY rfl rfl rfl ?_)
 (refine Jx.geqI rfl rfl rfl (Jx.pT rfl rfl rfl ?_))
 (refine J.nil (N.seq (W.cF rfl ?_)))
 (refine W.skip (N.seq (W.seq (W.region (Jx.move rfl rfl (Jx.move rfl rfl ?_))))))
 (refine J.call cw rfl (evs_args rfl) rfl ?_; rintro _ _ ⟨v, hv, rfl, rfl⟩; rw [List.append_nil])
 (refine Jx.move rfl rfl (Jx.move rfl rfl (Jx.buildB rfl rfl rfl rfl rfl ?_)))
 (refine J.qs (Qs.buildOne ddC dd0 (nm, tm) rfl rfl rfl rfl rfl rfl rfl) rfl ?_)
 (refine J.appendAt (enc := ddC) (l := E) (l2 := [(nm, tm)]) 0 rfl rfl (SrcOK.sl rfl) rfl rfl hmx rfl ?_; intro v' hv'; rw [List.set_cons_zero]; refine J.freeze 34 rfl hm1 ?_)
 (refine Jx.assign rfl rfl (Jx.assign rfl rfl (J.nil (N.seq (W.ret ?_)))))
 (refine id ?_; rotate_left))
      exact N.ret (rs := [.tmp 6, .tmp 7]) rfl (.tmp rfl (.tmp rfl .nil)) ⟨rfl, rfl⟩
set_option maxHeartbeats 4000000 in
theorem rdrop_ok (D : Dd) (nm : List UInt8) (hD : D.length < 100000) : FnC Try.prog 19 [ddl D, str nm] [] (fun r L => r = .tup [ddl (dropD D nm).1, int (dropD D nm).2] ∧ L = []) := by
  have cf := rfind_ok D nm hD
  have cw := without_ok D (rfind D nm) (findD D nm) (rfind_ix D nm) hD
  have hneg := rfind_neg (D := D) (nm := nm)
  have hlE := (List.eraseIdx_sublist D (findD D nm)).length_le
  unfold dropD
  generalize D.eraseIdx (findD D nm) = E at *
  generalize rfind D nm = k at *
  have hm1 : E.length ≤ maxLen := by simp only [maxLen]; omega
  by_cases h0 : isAt D nm
  · have hk : ¬ k < 0 := fun h => hneg.1 h h0
    rw [if_pos h0]
    refine FnC.intro Try.func19 rfl Try.ntmps19 rfl fun Z w0 hG => ?_
    focus (
 (refine W.seq (W.region (Jx.assign rfl rfl (Jx.assign rfl rfl (J.nil (N.seq (W.seq (W.region (Jx.move rfl rfl (Jx.move rfl rfl ?_))))))))))
 (refine J.call cf rfl (evs_args rfl) rfl ?_; rintro _ _ ⟨rfl, rfl⟩)
 (refine Jx.assign rfl rfl (J.nil (N.seq (W.seq (W.seq (W.region (Jx.move rfl rfl (Jx.lssI rfl rfl rfl (J.nil (N.seq (W.cF rfl ?_)))))))))))
 (refine W.skip (N.seq (W.seq (W.region (Jx.move rfl rfl (Jx.move rfl rfl ?_))))))
 (refine J.call cw rfl (evs_args rfl) rfl ?_; rintro _ _ ⟨v, hv, rfl, rfl⟩; rw [List.append_nil]; refine J.freeze 15 rfl hm1 ?_)
 (refine Jx.assign rfl rfl (Jx.assign rfl rfl (J.nil (N.seq (W.ret ?_)))))
 (refine id ?_; rotate_left))
    exact N.ret (rs := [.tmp 4, .tmp 5]) rfl (.tmp rfl (.tmp rfl .nil)) ⟨rfl, rfl⟩
  · have hk : k < 0 := hneg.2 h0
    rw [if_neg h0]
    refine FnC.intro Try.func19 rfl Try.ntmps19 rfl fun Z w0 hG => ?_
    focus (
 (refine W.seq (W.region (Jx.assign rfl rfl (Jx.assign rfl rfl (J.nil (N.seq (W.seq (W.region (Jx.move rfl rfl (Jx.move rfl rfl ?_))))))))))
 (refine J.call cf rfl (evs_args rfl) rfl ?_; rintro _ _ ⟨rfl, rfl⟩)
 (refine Jx.assign rfl rfl (J.nil (N.seq (W.seq (W.seq (W.region (Jx.move rfl rfl (Jx.lssI rfl rfl rfl (J.nil (N.seq (W.cT rfl ?_)))))))))))
 (refine W.seq (W.region (Jx.move rfl rfl (Jx.assign rfl rfl (Jx.assign rfl rfl (J.nil (N.seq (W.ret (N.noGotoRet ?_)))))))))
 (refine id ?_; rotate_left))
    exact N.ret (rs := [.tmp 4, .tmp 5]) rfl (.tmp rfl (.tmp rfl .nil)) ⟨rfl, rfl⟩
structure RdS where
  i : Nat
  D : Dd
  v : Value
  out : List (List UInt8)
set_option maxHeartbeats 8000000 in
theorem rdue_ok (D0 : Dd) (now : Int) (hD : D0.length < 100000) : FnC Try.prog 20 [ddl D0, int now] [] (fun r L => r = .tup [ddl (due D0 now).2, ssl (due D0 now).1] ∧ L = []) := by
  generalize hR : due D0 now = R
  have hRl : R.1.length + R.2.length = D0.length := by rw [← hR]; exact due_len now D0
  have hmR : R.1.length ≤ maxLen := by simp only [maxLen]; omega
  refine FnC.intro Try.func20 rfl Try.ntmps20 rfl fun Z w0 hG => ?_
  refine W.rowNil tStr 1 (elOf encS [] []) ?_
  focus (
 (refine W.seq (W.region (Jx.assign rfl rfl (Jx.assign rfl rfl (J.nil (N.seq (W.seq (W.region (Jx.assign rfl rfl (J.nil (N.seq (W.seq (W.seq (W.region ?_))))))))))))))
 (refine Jx.move rfl rfl (Jx.lenSl rfl rfl ?_))
 (refine Jx.move rfl rfl (J.nil (N.seq (W.block ?_))))
 (refine id ?_; rotate_left))
  refine W.loop (α := RdS) (fun x => [(10, int (x.i : Int)), (9, int (D0.length : Int)), (6, .val x.v), (0, ddl x.D), (1, int now)]) (fun x => [rowN x.v x.out]) (fun x => x.i + x.D.length = D0.length ∧ x.out ++ (due x.D now).1 = R.1 ∧ (due x.D now).2 = R.2 ∧ x.v.oneCell' = true ∧ x.out.length ≤ x.i) (fun x => x.D.length) ⟨0, D0, .slice none 0 0, []⟩ ⟨Nat.zero_add _, by rw [hR]; rfl, by rw [hR], rfl, Nat.le_refl _⟩ rfl ⟨ref0 rfl, ref0 rfl, ref0 rfl, ref0 rfl, ref0 rfl, trivial⟩ ?_
  rintro ⟨i, D, v, out⟩ ⟨hi, h1, h2, hv, hl⟩
  simp only at hi h1 h2 hv hl ⊢
  by_cases h0 : 0 < D.length
  · have hlt : (i : Int) < (D0.length : Int) := by omega
    have cf := rfirst_ok D (by omega)
    have hfl := firstD_lt h0
    have hff : rfirst D = (firstD D : Int) := by unfold rfirst; rw [if_pos h0]
    rw [hff] at cf
    have hnn : ¬ ((firstD D : Int) < 0) := by omega
    by_cases h3 : (D.getD (firstD D) dd0).2 ≤ now
    · have cw := without_ok D (firstD D : Int) (firstD D) (fun i _ => by omega) (by omega)
      rw [due_go ⟨h0, h3⟩] at h1 h2
      have hlE : (D.eraseIdx (firstD D)).length = D.length - 1 := List.length_eraseIdx_of_lt hfl
      generalize D.eraseIdx (firstD D) = E at *
      have h3' : ¬ now < (D.getD (firstD D) dd0).2 := by omega
      have hmx : out.length + [(D.getD (firstD D) dd0).1].length ≤ maxLen ∧ (out.length + [(D.getD (firstD D) dd0).1].length) * 16 ≤ 140737488355328 := by simp only [maxLen, List.length_cons, List.length_nil]; omega
      have hmE : E.length ≤ maxLen := by simp only [maxLen]; omega
      have e1 : (i : Int) + 1 = ((i + 1 : Nat) : Int) := by omega
      focus (
 (refine W.seq (W.region (Jx.lssI rfl rfl rfl (J.nil (N.seq (W.seq (W.cT rfl ?_)))))))
 (refine W.skip (N.seq (W.seq (W.block (W.seq (W.region (Jx.move rfl rfl ?_)))))))
 (refine J.call cf (by rfl) (evs_args rfl) rfl ?_; rintro _ _ ⟨rfl, rfl⟩; rw [List.nil_append])
 (refine Jx.assign rfl rfl (J.nil (N.seq (W.seq (W.seq (W.region (Jx.move rfl rfl (Jx.lssI rfl rfl rfl (Jx.move rfl rfl (J.gY rfl rfl rfl ?_))))))))))
 (refine Jx.move rfl rfl (J.gY rfl rfl rfl ?_))
 (refine Jx.move rfl rfl (J.gY rfl rfl rfl ?_))
 (refine Jx.indexEl rfl rfl (by assumption) rfl rfl ?_)
 (refine J.gY rfl rfl rfl ?_)
 (refine Jx.fieldEl rfl rfl rfl ?_)
 (refine J.gY rfl rfl rfl ?_)
 (refine Jx.loadPP rfl rfl ?_)
 (refine J.gY rfl rfl rfl ?_)
 (refine Jx.move rfl rfl (J.gY rfl rfl rfl ?_))
 (refine Jx.gtrI rfl rfl rfl (Jx.pF rfl rfl rfl ?_))
 (refine J.nil (N.seq (W.cF rfl ?_)))
 (refine W.skip (N.seq (W.seq (W.region (Jx.move rfl rfl (Jx.move rfl rfl (Jx.move rfl rfl (Jx.indexEl rfl rfl (by assumption) rfl rfl ?_))))))))
 (refine Jx.fieldEl rfl rfl rfl ?_)
 (refine Jx.loadPP rfl rfl ?_)
 (refine J.qs (Qs.buildTexts [(D.getD (firstD D) dd0).1] rfl rfl rfl (by decide) (by decide)) rfl ?_)
 (refine J.appendAt (enc := encS) (l := out) (l2 := [(D.getD (firstD D) dd0).1]) 0 rfl rfl (SrcOK.sl rfl) rfl rfl hmx rfl ?_; intro v' hv'; rw [List.set_cons_zero])
 (refine Jx.assign rfl rfl (J.nil (N.seq (W.region (Jx.move rfl rfl (Jx.move rfl rfl ?_))))))
 (refine J.call (Lc := []) cw rfl (evs_args rfl) rfl ?_; rintro _ _ ⟨v2, hv2, rfl, rfl⟩; rw [List.singleton_append]; refine J.freeze 35 rfl hmE ?_)
 (refine Jx.assign rfl rfl (J.nil (N.seq (W.region ?_))))
 (refine Jx.add64 rfl rfl (by omega) rfl ?_; rw [e1])
 (refine Jx.move rfl rfl (J.nil ?_))
 (refine id ?_; rotate_left))
      exact N.round ⟨i + 1, E, v', out ++ [(D.getD (firstD D) dd0).1]⟩ ⟨by simp only; omega, by simp only [List.append_assoc, List.singleton_append]; exact h1, h2, hv', by simp; omega⟩ (by simp only; omega) rfl ⟨ref0 rfl, ref0 rfl, ref0 rfl, ref0 rfl, ref0 rfl, trivial⟩
    · rw [due_stop (fun h => h3 h.2), List.append_nil] at h1
      rw [due_stop (fun h => h3 h.2)] at h2
      have h3' : now < (D.getD (firstD D) dd0).2 := by omega
      subst h1
      simp only at h2
      subst h2
      focus (
 (refine W.seq (W.region (Jx.lssI rfl rfl rfl (J.nil (N.seq (W.seq (W.cT rfl ?_)))))))
 (refine W.skip (N.seq (W.seq (W.block (W.seq (W.region (Jx.move rfl rfl ?_)))))))
 (refine J.call cf (by rfl) (evs_args rfl) rfl ?_; rintro _ _ ⟨rfl, rfl⟩; rw [List.nil_append])
 (refine Jx.assign rfl rfl (J.nil (N.seq (W.seq (W.seq (W.region (Jx.move rfl rfl (Jx.lssI rfl rfl rfl (Jx.move rfl rfl (J.gY rfl rfl rfl ?_))))))))))
 (refine Jx.move rfl rfl (J.gY rfl rfl rfl ?_))
 (refine Jx.move rfl rfl (J.gY rfl rfl rfl ?_))
 (refine Jx.indexEl rfl rfl (by assumption) rfl rfl ?_)
 (refine J.gY rfl rfl rfl ?_)
 (refine Jx.fieldEl rfl rfl rfl ?_)
 (refine J.gY rfl rfl rfl ?_)
 (refine Jx.loadPP rfl rfl ?_)
 (refine J.gY rfl rfl rfl ?_)
 (refine Jx.move rfl rfl (J.gY rfl rfl rfl ?_))
 (refine Jx.gtrI rfl rfl rfl (Jx.pF rfl rfl rfl ?_))
 (refine J.nil (N.seq (W.cT rfl ?_)))
 (refine W.exit (N.seq (W.seq (W.region (Jx.move rfl rfl (Jx.move rfl rfl (Jx.assign rfl rfl (Jx.assign rfl rfl (J.nil (N.seq (W.ret ?_)))))))))))
 (refine id ?_; rotate_left))
      refine N.freeze 5 rfl hmR ?_
      exact N.ret (rs := [.tmp 4, .tmp 5]) rfl (.tmp rfl (.tmp rfl .nil)) ⟨rfl, rfl⟩
  · have hlt : ¬ (i : Int) < (D0.length : Int) := by omega
    obtain rfl : D = [] := List.eq_nil_of_length_eq_zero (by omega)
    rw [due_stop (by simp), List.append_nil] at h1
    rw [due_stop (by simp)] at h2
    subst h1
    simp only at h2
    rw [← h2]
    focus (
 (refine W.seq (W.region (Jx.lssI rfl rfl rfl (J.nil (N.seq (W.seq (W.cF rfl ?_)))))))
 (refine W.exit (N.seq (W.seq (W.region (Jx.move rfl rfl (Jx.move rfl rfl (Jx.assign rfl rfl (Jx.assign rfl rfl (J.nil (N.seq (W.ret ?_)))))))))))
 (refine id ?_; rotate_left))
    refine N.freeze 5 rfl hmR ?_
    exact N.ret (rs := [.tmp 4, .tmp 5]) rfl (.tmp rfl (.tmp rfl .nil)) ⟨rfl, rfl⟩
end Go.Proofs.Ytmkicbphbegjbaa
namespace Go.Proofs.Ytmkicbphbegjbaa
open Go Go.Sse
set_option linter.unusedVariables false
set_option linter.unusedSimpArgs false
set_option maxRecDepth 10000
set_option maxHeartbeats 8000000 in
theorem tells_ok (b : Nat) (D : Dd) (n : Nat) (L0 : List Own) (h : Tm b D n L0) (hD : D.length < 100000) (nm : List UInt8) : FnC Try.prog 22 [ptr b, ddl D, str nm] L0 (fun r L => r = Sse.bool true ∧ L = L0) := by
  have ca := tAt_ok b D n L0 h nm
  have cf := rfind_ok D nm hD
  have cn := tNext_ok b D n L0 h
  have cr := rfirst_ok D hD
  have cl := tLen_ok b D n L0 h
  by_cases h1 : isAt D nm
  · have hk : findD D nm < D.length := h1
    have h0 : 0 < D.length := by omega
    have hj := firstD_lt h0
    rw [show whenD D nm = (D.getD (findD D nm) dd0).2 by unfold whenD; rw [if_pos h1], decide_eq_true h1] at ca
    rw [show rfind D nm = (findD D nm : Int) by unfold rfind; rw [if_pos h1]] at cf
    rw [show nextD D = (D.getD (firstD D) dd0).2 by unfold nextD; rw [if_pos h0], decide_eq_true h0] at cn
    rw [show rfirst D = (firstD D : Int) by unfold rfirst; rw [if_pos h0]] at cr
    generalize findD D nm = k at *
    generalize firstD D = j at *
    have g1 : decide ((0 : Int) ≤ (k : Int)) = true := decide_eq_true (by omega)
    have g2 : decide ((0 : Int) ≤ (j : Int)) = true := decide_eq_true (by omega)
    refine FnC.intro Try.func22 rfl Try.ntmps22 rfl fun Z w0 hG => ?_
    focus (
 (refine W.seq (W.region (Jx.assign rfl rfl (J.nil (N.seq (W.seq (W.region (Jx.move rfl rfl (Jx.move rfl rfl ?_)))))))))
 (refine J.call ca (List.append_nil _).symm (evs_args rfl) rfl ?_; rintro _ L9 ⟨rfl, h9⟩; rw [h9, List.append_nil])
 (refine Jx.move rfl rfl (Jx.extract rfl rfl rfl ?_))
 (refine Jx.extract rfl rfl rfl ?_)
 (refine Jx.assign rfl rfl (Jx.assign rfl rfl (J.nil (N.seq (W.seq (W.region (Jx.move rfl rfl (Jx.move rfl rfl ?_))))))))
 (refine J.call (Lc := []) cf rfl (evs_args rfl) rfl ?_; rintro _ _ ⟨rfl, rfl⟩; rw [List.nil_append])
 (refine Jx.assign rfl rfl (J.nil (N.seq (W.seq (W.seq (W.region (Jx.move rfl rfl (Jx.move rfl rfl ?_))))))))
 (refine Jx.geqI rfl rfl rfl ?_; rw [g1])
 (refine Jx.neqB rfl rfl rfl ?_)
 (refine Jx.move rfl rfl (J.gY rfl rfl rfl ?_))
 (refine Jx.move rfl rfl (J.gY rfl rfl rfl ?_))
 (refine Jx.move rfl rfl (J.gY rfl rfl rfl ?_))
 (refine Jx.move rfl rfl (J.gY rfl rfl rfl ?_))
 (refine Jx.move rfl rfl (J.gY rfl rfl rfl ?_))
 (refine Jx.move rfl rfl (J.gY rfl rfl rfl ?_))
 (refine Jx.indexEl rfl rfl (by assumption) rfl rfl ?_)
 (refine J.gY rfl rfl rfl ?_)
 (refine Jx.fieldEl rfl rfl rfl ?_)
 (refine J.gY rfl rfl rfl ?_)
 (refine Jx.loadPP rfl rfl ?_)
 (refine J.gY rfl rfl rfl ?_)
 (refine Jx.neqI rfl rfl rfl (J.gY rfl rfl rfl ?_))
 (refine Jx.pT rfl rfl rfl ?_)
 (refine Jx.pF rfl rfl rfl ?_)
 (refine Jx.move rfl rfl (J.gY rfl rfl rfl ?_))
 (refine Jx.move rfl rfl (J.gY rfl rfl rfl ?_))
 (refine Jx.not rfl rfl (J.gY rfl rfl rfl ?_))
 (refine Jx.move rfl rfl (J.gN rfl rfl rfl rfl ?_))
 (refine J.gN rfl rfl rfl rfl ?_)
 (refine J.gY rfl rfl rfl ?_)
 (refine Jx.pF rfl rfl rfl ?_)
 (refine Jx.pF rfl rfl rfl ?_)
 (refine J.nil (N.seq (W.cF rfl ?_)))
 (refine W.skip (N.seq (W.seq (W.region (Jx.move rfl rfl ?_)))))
 (refine J.call cn (List.append_nil _).symm (evs_args rfl) rfl ?_; rintro _ L9 ⟨rfl, h9⟩; rw [h9, List.append_nil])
 (refine Jx.move rfl rfl (Jx.extract rfl rfl rfl ?_))
 (refine Jx.extract rfl rfl rfl ?_)
 (refine Jx.assign rfl rfl (Jx.assign rfl rfl (J.nil (N.seq (W.seq (W.region (Jx.move rfl rfl ?_)))))))
 (refine J.call (Lc := []) cr rfl (evs_args rfl) rfl ?_; rintro _ _ ⟨rfl, rfl⟩; rw [List.nil_append])
 (refine Jx.assign rfl rfl (J.nil (N.seq (W.seq (W.region (Jx.move rfl rfl (Jx.move rfl rfl ?_)))))))
 (refine Jx.geqI rfl rfl rfl ?_; rw [g2])
 (refine Jx.eqlB rfl rfl rfl ?_)
 (refine Jx.move rfl rfl (J.gY rfl rfl rfl ?_))
 (refine Jx.move rfl rfl (J.gY rfl rfl rfl ?_))
 (refine Jx.not rfl rfl (J.gY rfl rfl rfl ?_))
 (refine Jx.move rfl rfl (J.gY rfl rfl rfl ?_))
 (refine Jx.move rfl rfl (J.gY rfl rfl rfl ?_))
 (refine Jx.move rfl rfl (J.gY rfl rfl rfl ?_))
 (refine Jx.move rfl rfl (J.gY rfl rfl rfl ?_))
 (refine Jx.indexEl rfl rfl (by assumption) rfl rfl ?_)
 (refine J.gY rfl rfl rfl ?_)
 (refine Jx.fieldEl rfl rfl rfl ?_)
 (refine J.gY rfl rfl rfl ?_)
 (refine Jx.loadPP rfl rfl ?_)
 (refine J.gY rfl rfl rfl ?_)
 (refine Jx.eqlI rfl rfl rfl (J.gY rfl rfl rfl ?_))
 (refine Jx.pF rfl rfl rfl ?_)
 (refine Jx.pT rfl rfl rfl ?_)
 (refine Jx.move rfl rfl (J.gY rfl rfl rfl ?_))
 (refine Jx.move rfl rfl (J.gY rfl rfl rfl ?_))
 (refine Jx.move rfl rfl (J.gN rfl rfl rfl rfl ?_))
 (refine J.gN rfl rfl rfl rfl ?_)
 (refine J.gY rfl rfl rfl ?_)
 (refine Jx.pT rfl rfl rfl ?_)
 (refine Jx.pT rfl rfl rfl ?_)
 (refine Jx.move rfl rfl (J.gY rfl rfl rfl ?_))
 (refine Jx.move rfl rfl (J.gY rfl rfl rfl ?_))
 (refine J.call cl (List.append_nil _).symm (evs_args rfl) rfl ?_; rintro _ L9 ⟨rfl, h9⟩; rw [h9, List.append_nil])
 (refine J.gY rfl rfl rfl ?_)
 (refine Jx.move rfl rfl (J.gY rfl rfl rfl ?_))
 (refine Jx.lenSl rfl rfl ?_)
 (refine J.gY rfl rfl rfl ?_)
 (refine Jx.eqlI rfl rfl rfl (Jx.pT rfl rfl rfl ?_))
 (refine Jx.assign rfl rfl (J.nil (N.seq (W.ret ?_))))
 (refine id ?_; rotate_left))
    exact N.ret (rs := [.tmp 6]) rfl (.tmp rfl .nil) ⟨by simp [oneOr], rfl⟩
  · rw [show whenD D nm = 0 by unfold whenD; rw [if_neg h1], decide_eq_false h1] at ca
    rw [show rfind D nm = -1 by unfold rfind; rw [if_neg h1]] at cf
    have g1 : decide ((0 : Int) ≤ -1) = false := rfl
    by_cases h0 : 0 < D.length
    · have hj := firstD_lt h0
      rw [show nextD D = (D.getD (firstD D) dd0).2 by unfold nextD; rw [if_pos h0], decide_eq_true h0] at cn
      rw [show rfirst D = (firstD D : Int) by unfold rfirst; rw [if_pos h0]] at cr
      generalize firstD D = j at *
      have g2 : decide ((0 : Int) ≤ (j : Int)) = true := decide_eq_true (by omega)
      refine FnC.intro Try.func22 rfl Try.ntmps22 rfl fun Z w0 hG => ?_
      focus (
 (refine W.seq (W.region (Jx.assign rfl rfl (J.nil (N.seq (W.seq (W.region (Jx.move rfl rfl (Jx.move rfl rfl ?_)))))))))
 (refine J.call ca (List.append_nil _).symm (evs_args rfl) rfl ?_; rintro _ L9 ⟨rfl, h9⟩; rw [h9, List.append_nil])
 (refine Jx.move rfl rfl (Jx.extract rfl rfl rfl ?_))
 (refine Jx.extract rfl rfl rfl ?_)
 (refine Jx.assign rfl rfl (Jx.assign rfl rfl (J.nil (N.seq (W.seq (W.region (Jx.move rfl rfl (Jx.move rfl rfl ?_))))))))
 (refine J.call (Lc := []) cf rfl (evs_args rfl) rfl ?_; rintro _ _ ⟨rfl, rfl⟩; rw [List.nil_append])
 (refine Jx.assign rfl rfl (J.nil (N.seq (W.seq (W.seq (W.region (Jx.move rfl rfl (Jx.move rfl rfl ?_))))))))
 (refine Jx.geqI rfl rfl rfl ?_; rw [g1])
 (refine Jx.neqB rfl rfl rfl ?_)
 (refine Jx.move rfl rfl (J.gY rfl rfl rfl ?_))
 (refine Jx.move rfl rfl (J.gY rfl rfl rfl ?_))
 (refine Jx.move rfl rfl (J.gN rfl rfl rfl rfl ?_))
 (refine J.gN rfl rfl rfl rfl ?_)
 (refine J.gN rfl rfl rfl rfl ?_)
 (refine J.gN rfl rfl rfl rfl ?_)
 (refine J.gN rfl rfl rfl rfl ?_)
 (refine J.gN rfl rfl rfl rfl ?_)
 (refine J.gN rfl rfl rfl rfl ?_)
 (refine J.gY rfl rfl rfl ?_)
 (refine Jx.pF rfl rfl rfl ?_)
 (refine Jx.pF rfl rfl rfl ?_)
 (refine Jx.move rfl rfl (J.gY rfl rfl rfl ?_))
 (refine Jx.move rfl rfl (J.gY rfl rfl rfl ?_))
 (refine Jx.not rfl rfl (J.gY rfl rfl rfl ?_))
 (refine Jx.move rfl rfl (J.gY rfl rfl rfl ?_))
 (refine Jx.move rfl rfl (J.gY rfl rfl rfl ?_))
 (refine Jx.neqI rfl rfl rfl (J.gY rfl rfl rfl ?_))
 (refine Jx.pT rfl rfl rfl ?_)
 (refine Jx.pF rfl rfl rfl ?_)
 (refine J.nil (N.seq (W.cF rfl ?_)))
 (refine W.skip (N.seq (W.seq (W.region (Jx.move rfl rfl ?_)))))
 (refine J.call cn (List.append_nil _).symm (evs_args rfl) rfl ?_; rintro _ L9 ⟨rfl, h9⟩; rw [h9, List.append_nil])
 (refine Jx.move rfl rfl (Jx.extract rfl rfl rfl ?_))
 (refine Jx.extract rfl rfl rfl ?_)
 (refine Jx.assign rfl rfl (Jx.assign rfl rfl (J.nil (N.seq (W.seq (W.region (Jx.move rfl rfl ?_)))))))
 (refine J.call (Lc := []) cr rfl (evs_args rfl) rfl ?_; rintro _ _ ⟨rfl, rfl⟩; rw [List.nil_append])
 (refine Jx.assign rfl rfl (J.nil (N.seq (W.seq (W.region (Jx.move rfl rfl (Jx.move rfl rfl ?_)))))))
 (refine Jx.geqI rfl rfl rfl ?_; rw [g2])
 (refine Jx.eqlB rfl rfl rfl ?_)
 (refine Jx.move rfl rfl (J.gY rfl rfl rfl ?_))
 (refine Jx.move rfl rfl (J.gY rfl rfl rfl ?_))
 (refine Jx.not rfl rfl (J.gY rfl rfl rfl ?_))
 (refine Jx.move rfl rfl (J.gY rfl rfl rfl ?_))
 (refine Jx.move rfl rfl (J.gY rfl rfl rfl ?_))
 (refine Jx.move rfl rfl (J.gY rfl rfl rfl ?_))
 (refine Jx.move rfl rfl (J.gY rfl rfl rfl ?_))
 (refine Jx.indexEl rfl rfl (by assumption) rfl rfl ?_)
 (refine J.gY rfl rfl rfl ?_)
 (refine Jx.fieldEl rfl rfl rfl ?_)
 (refine J.gY rfl rfl rfl ?_)
 (refine Jx.loadPP rfl rfl ?_)
 (refine J.gY rfl rfl rfl ?_)
 (refine Jx.eqlI rfl rfl rfl (J.gY rfl rfl rfl ?_))
 (refine Jx.pF rfl rfl rfl ?_)
 (refine Jx.pT rfl rfl rfl ?_)
 (refine Jx.move rfl rfl (J.gY rfl rfl rfl ?_))
 (refine Jx.move rfl rfl (J.gY rfl rfl rfl ?_))
 (refine Jx.move rfl rfl (J.gN rfl rfl rfl rfl ?_))
 (refine J.gN rfl rfl rfl rfl ?_)
 (refine J.gY rfl rfl rfl ?_)
 (refine Jx.pT rfl rfl rfl ?_)
 (refine Jx.pT rfl rfl rfl ?_)
 (refine Jx.move rfl rfl (J.gY rfl rfl rfl ?_))
 (refine Jx.move rfl rfl (J.gY rfl rfl rfl ?_))
 (refine J.call cl (List.append_nil _).symm (evs_args rfl) rfl ?_; rintro _ L9 ⟨rfl, h9⟩; rw [h9, List.append_nil])
 (refine J.gY rfl rfl rfl ?_)
 (refine Jx.move rfl rfl (J.gY rfl rfl rfl ?_))
 (refine Jx.lenSl rfl rfl ?_)
 (refine J.gY rfl rfl rfl ?_)
 (refine Jx.eqlI rfl rfl rfl (Jx.pT rfl rfl rfl ?_))
 (refine Jx.assign rfl rfl (J.nil (N.seq (W.ret ?_))))
 (refine id ?_; rotate_left))
      exact N.ret (rs := [.tmp 6]) rfl (.tmp rfl .nil) ⟨by simp [oneOr], rfl⟩
    · obtain rfl : D = [] := List.eq_nil_of_length_eq_zero (by omega)
      rw [show nextD [] = 0 from rfl, show decide (0 < ([] : Dd).length) = false from rfl] at cn
      rw [show rfirst [] = -1 from rfl] at cr
      refine FnC.intro Try.func22 rfl Try.ntmps22 rfl fun Z w0 hG => ?_
      focus (
 (refine W.seq (W.region (Jx.assign rfl rfl (J.nil (N.seq (W.seq (W.region (Jx.move rfl rfl (Jx.move rfl rfl ?_)))))))))
 (refine J.call ca (List.append_nil _).symm (evs_args rfl) rfl ?_; rintro _ L9 ⟨rfl, h9⟩; rw [h9, List.append_nil])
 (refine Jx.move rfl rfl (Jx.extract rfl rfl rfl ?_))
 (refine Jx.extract rfl rfl rfl ?_)
 (refine Jx.assign rfl rfl (Jx.assign rfl rfl (J.nil (N.seq (W.seq (W.region (Jx.move rfl rfl (Jx.move rfl rfl ?_))))))))
 (refine J.call (Lc := []) cf rfl (evs_args rfl) rfl ?_; rintro _ _ ⟨rfl, rfl⟩; rw [List.nil_append])
 (refine Jx.assign rfl rfl (J.nil (N.seq (W.seq (W.seq (W.region (Jx.move rfl rfl (Jx.move rfl rfl ?_))))))))
 (refine Jx.geqI rfl rfl rfl ?_; rw [g1])
 (refine Jx.neqB rfl rfl rfl ?_)
 (refine Jx.move rfl rfl (J.gY rfl rfl rfl ?_))
 (refine Jx.move rfl rfl (J.gY rfl rfl rfl ?_))
 (refine Jx.move rfl rfl (J.gN rfl rfl rfl rfl ?_))
 (refine J.gN rfl rfl rfl rfl ?_)
 (refine J.gN rfl rfl rfl rfl ?_)
 (refine J.gN rfl rfl rfl rfl ?_)
 (refine J.gN rfl rfl rfl rfl ?_)
 (refine J.gN rfl rfl rfl rfl ?_)
 (refine J.gN rfl rfl rfl rfl ?_)
 (refine J.gY rfl rfl rfl ?_)
 (refine Jx.pF rfl rfl rfl ?_)
 (refine Jx.pF rfl rfl rfl ?_)
 (refine Jx.move rfl rfl (J.gY rfl rfl rfl ?_))
 (refine Jx.move rfl rfl (J.gY rfl rfl rfl ?_))
 (refine Jx.not rfl rfl (J.gY rfl rfl rfl ?_))
 (refine Jx.move rfl rfl (J.gY rfl rfl rfl ?_))
 (refine Jx.move rfl rfl (J.gY rfl rfl rfl ?_))
 (refine Jx.neqI rfl rfl rfl (J.gY rfl rfl rfl ?_))
 (refine Jx.pT rfl rfl rfl ?_)
 (refine Jx.pF rfl rfl rfl ?_)
 (refine J.nil (N.seq (W.cF rfl ?_)))
 (refine W.skip (N.seq (W.seq (W.region (Jx.move rfl rfl ?_)))))
 (refine J.call cn (List.append_nil _).symm (evs_args rfl) rfl ?_; rintro _ L9 ⟨rfl, h9⟩; rw [h9, List.append_nil])
 (refine Jx.move rfl rfl (Jx.extract rfl rfl rfl ?_))
 (refine Jx.extract rfl rfl rfl ?_)
 (refine Jx.assign rfl rfl (Jx.assign rfl rfl (J.nil (N.seq (W.seq (W.region (Jx.move rfl rfl ?_)))))))
 (refine J.call (Lc := []) cr rfl (evs_args rfl) rfl ?_; rintro _ _ ⟨rfl, rfl⟩; rw [List.nil_append])
 (refine Jx.assign rfl rfl (J.nil (N.seq (W.seq (W.region (Jx.move rfl rfl (Jx.move rfl rfl ?_)))))))
 (refine Jx.geqI rfl rfl rfl ?_; rw [g1])
 (refine Jx.eqlB rfl rfl rfl ?_)
 (refine Jx.move rfl rfl (J.gY rfl rfl rfl ?_))
 (refine Jx.move rfl rfl (J.gY rfl rfl rfl ?_))
 (refine Jx.not rfl rfl (J.gY rfl rfl rfl ?_))
 (refine Jx.move rfl rfl (J.gN rfl rfl rfl rfl ?_))
 (refine J.gN rfl rfl rfl rfl ?_)
 (refine J.gN rfl rfl rfl rfl ?_)
 (refine J.gN rfl rfl rfl rfl ?_)
 (refine J.gN rfl rfl rfl rfl ?_)
 (refine J.gN rfl rfl rfl rfl ?_)
 (refine J.gN rfl rfl rfl rfl ?_)
 (refine J.gY rfl rfl rfl ?_)
 (refine Jx.pT rfl rfl rfl ?_)
 (refine Jx.pT rfl rfl rfl ?_)
 (refine Jx.move rfl rfl (J.gY rfl rfl rfl ?_))
 (refine Jx.move rfl rfl (J.gY rfl rfl rfl ?_))
 (refine Jx.move rfl rfl (J.gY rfl rfl rfl ?_))
 (refine Jx.move rfl rfl (J.gY rfl rfl rfl ?_))
 (refine Jx.eqlI rfl rfl rfl (J.gY rfl rfl rfl ?_))
 (refine Jx.pF rfl rfl rfl ?_)
 (refine Jx.pT rfl rfl rfl ?_)
 (refine Jx.move rfl rfl (J.gY rfl rfl rfl ?_))
 (refine Jx.move rfl rfl (J.gY rfl rfl rfl ?_))
 (refine J.call cl (List.append_nil _).symm (evs_args rfl) rfl ?_; rintro _ L9 ⟨rfl, h9⟩; rw [h9, List.append_nil])
 (refine J.gY rfl rfl rfl ?_)
 (refine Jx.move rfl rfl (J.gY rfl rfl rfl ?_))
 (refine Jx.lenSl rfl rfl ?_)
 (refine J.gY rfl rfl rfl ?_)
 (refine Jx.eqlI rfl rfl rfl (Jx.pT rfl rfl rfl ?_))
 (refine Jx.assign rfl rfl (J.nil (N.seq (W.ret ?_))))
 (refine id ?_; rotate_left))
      exact N.ret (rs := [.tmp 6]) rfl (.tmp rfl .nil) ⟨by simp [oneOr], rfl⟩
structure PlS where
  i : Nat
  D : Dd
  L : List Own
theorem good_due {D : Dd} {n : Nat} (h : GoodD D n) (now : Int) : GoodD (due D now).2 n := good_sub h (due_sub now D)
set_option maxHeartbeats 16000000 in
theorem timerPlays_ok (l : List Ac) (nm : List UInt8) : FnC Try.prog 5 [acsl l, str nm] [] (fun r L => r = Sse.bool true ∧ L = []) := by
  have k0 : ∀ b : Nat, ¬ (Value.pointer (some ⟨b, 0, none⟩) = Value.pointer none) := fun b h => by cases h
  refine FnC.intro Try.func5 rfl Try.ntmps5 rfl fun Z w0 hG => ?_
  focus (
 (refine W.seq (W.region (Jx.assign rfl rfl (J.nil (N.seq (W.seq (W.region ?_)))))))
 (refine J.call tNew_ok rfl (evs_args rfl) rfl ?_; rintro _ L0 ⟨b, rfl, h0⟩; rw [List.append_nil])
 (refine Jx.assign rfl rfl (J.nil (N.seq (W.seq (W.seq (W.region (Jx.move rfl rfl (Jx.eqlNil rfl rfl ?_))))))))
 (refine J.nil (N.seq (W.cF rfl ?_)))
 (refine W.skip (N.seq (W.seq (W.region (Jx.assign rfl rfl (J.nil (N.seq (W.seq (W.seq (W.region (Jx.assign rfl rfl (J.nil (N.seq (W.block ?_))))))))))))))
 (refine id ?_; rotate_left))
  refine W.rowNil tDd 2 (elOf ddC dd0 []) ?_
  refine W.freeze 6 rfl (by simp only [maxLen]; decide) ?_
  refine W.loop (α := PlS) (fun x => [(7, int (x.i : Int)), (6, ddl x.D), (5, ptr b), (0, acsl l), (1, str nm)]) (fun x => x.L) (fun x => x.i ≤ min l.length 60 ∧ GoodD x.D x.i ∧ Tm b x.D x.i x.L) (fun x => l.length - x.i) ⟨0, [], L0⟩ ⟨Nat.zero_le _, good_nil, h0⟩ rfl ⟨ref0 rfl, ref0 rfl, ref0 rfl, ref0 rfl, ref0 rfl, trivial⟩ ?_
  rintro ⟨i, D, L1⟩ ⟨hi, hg, hT⟩
  simp only at hi hg hT ⊢
  have hi1 : i ≤ l.length := Nat.le_trans hi (Nat.min_le_left _ _)
  have hi2 : i ≤ 60 := Nat.le_trans hi (Nat.min_le_right _ _)
  have hlen := hg.len
  have e1 : (i : Int) + 1 = ((i + 1 : Nat) : Int) := by omega
  by_cases hc : i < l.length ∧ i < 60
  · obtain ⟨h1, h2⟩ := hc
    have h1' : (i : Int) < (l.length : Int) := by omega
    have h2' : (i : Int) < 60 := by omega
    have hle : i + 1 ≤ min l.length 60 := Nat.le_min.2 ⟨h1, h2⟩
    generalize hx : l.getD i ac0 = x at *
    by_cases h3 : 100 < x.name.length
    · have h3' : (100 : Int) < (x.name.length : Int) := by omega
      focus (
 (refine W.seq (W.seq (W.region (Jx.move rfl rfl (Jx.move rfl rfl (Jx.lenSl rfl rfl ?_))))))
 (refine Jx.lssI rfl rfl rfl (Jx.move rfl rfl (J.gY rfl rfl rfl ?_)))
 (refine Jx.move rfl rfl (J.gY rfl rfl rfl ?_))
 (refine Jx.lssI rfl rfl rfl (Jx.pT rfl rfl rfl ?_))
 (refine J.nil (N.seq (W.cT rfl ?_)))
 (refine W.skip (N.seq (W.seq (W.block (W.seq (W.seq (W.region (Jx.move rfl rfl (Jx.move rfl rfl ?_)))))))))
 (refine Jx.indexEl rfl rfl h1 rfl rfl ?_; rw [hx])
 (refine Jx.fieldEl rfl rfl rfl ?_)
 (refine Jx.loadPP rfl rfl ?_)
 (refine Jx.lenS rfl rfl ?_)
 (refine Jx.gtrI rfl rfl rfl (J.nil (N.seq (W.cT rfl ?_))))
 (refine W.exit (N.seq (W.region (Jx.move rfl rfl ?_))))
 (refine Jx.add64 rfl rfl (by omega) rfl ?_; rw [e1])
 (refine Jx.assign rfl rfl (J.nil ?_))
 (refine id ?_; rotate_left))
      exact N.round ⟨i + 1, D, L1⟩ ⟨hle, hg.mono (by simp only; omega), hT.mono (by simp only; omega)⟩ (by simp only; omega) rfl ⟨ref0 rfl, ref0 rfl, ref0 rfl, ref0 rfl, ref0 rfl, trivial⟩
    have h3' : ¬ (100 : Int) < (x.name.length : Int) := by omega
    by_cases k1 : x.kind = 0
    · have cs := tSet_ok b D i L1 hT x.name x.tm (by omega) (by omega)
      have cr := rset_ok D x.name x.tm (by omega)
      have hg2 := good_set hg x.name x.tm
      generalize setD D x.name x.tm = E at *
      obtain ⟨E, c⟩ := E
      simp only at cs cr hg2
      have hlE := hg2.len
      focus (
 (refine W.seq (W.seq (W.region (Jx.move rfl rfl (Jx.move rfl rfl (Jx.lenSl rfl rfl ?_))))))
 (refine Jx.lssI rfl rfl rfl (Jx.move rfl rfl (J.gY rfl rfl rfl ?_)))
 (refine Jx.move rfl rfl (J.gY rfl rfl rfl ?_))
 (refine Jx.lssI rfl rfl rfl (Jx.pT rfl rfl rfl ?_))
 (refine J.nil (N.seq (W.cT rfl ?_)))
 (refine W.skip (N.seq (W.seq (W.block (W.seq (W.seq (W.region (Jx.move rfl rfl (Jx.move rfl rfl ?_)))))))))
 (refine Jx.indexEl rfl rfl h1 rfl rfl ?_; rw [hx])
 (refine Jx.fieldEl rfl rfl rfl ?_)
 (refine Jx.loadPP rfl rfl ?_)
 (refine Jx.lenS rfl rfl ?_)
 (refine Jx.gtrI rfl rfl rfl (J.nil (N.seq (W.cF rfl ?_))))
 (refine W.skip (N.seq (W.seq (W.region (Jx.assign rfl rfl (Jx.assign rfl rfl (J.nil (N.seq (W.seq (W.seq (W.region (Jx.move rfl rfl (Jx.move rfl rfl ?_)))))))))))))
 (refine Jx.indexEl rfl rfl h1 rfl rfl ?_; rw [hx])
 (refine Jx.fieldEl rfl rfl rfl ?_)
 (refine Jx.loadPP rfl rfl ?_)
 (refine J.nil (N.seq (W.block (W.seq (W.region (Jx.eqlI rfl rfl rfl (Jx.assign rfl rfl (J.nil (N.seq (W.cT rfl ?_))))))))))
 (refine W.seq ?_)
 (refine W.draw follows ?_)
 (refine JD.till (l := [_, _, _, _, _, _, _, _, _, _, _, ⟨some 51, .call _, _, _, _, none⟩, _]) 11 (by decide +kernel) (by decide +kernel) rfl rfl ?_)
 (refine Cx.move rfl rfl ?_)
 (refine Cx.move rfl rfl ?_)
 (refine Cx.move rfl rfl ?_)
 (refine Cx.indexEl rfl rfl h1 rfl rfl ?_; rw [hx])
 (refine Cx.fieldEl rfl rfl rfl ?_)
 (refine Cx.loadPP rfl rfl ?_)
 (refine Cx.move rfl rfl ?_)
 (refine Cx.move rfl rfl ?_)
 (refine Cx.indexEl rfl rfl h1 rfl rfl ?_; rw [hx])
 (refine Cx.fieldEl rfl rfl rfl ?_)
 (refine Cx.loadPP rfl rfl ?_)
 (refine SegC.nil ?_)
 (refine J.call cs (List.append_nil _).symm (evs_args rfl) rfl ?_; rintro _ L2 ⟨rfl, hT2⟩; rw [List.append_nil])
 (refine Jx.assign rfl rfl (J.nil (N.seq ?_)))
 (refine W.draw follows ?_)
 (refine JD.calm rfl (by decide +kernel) ?_)
 (refine Cx.move rfl rfl ?_)
 (refine Cx.move rfl rfl ?_)
 (refine Cx.move rfl rfl ?_)
 (refine Cx.indexEl rfl rfl h1 rfl rfl ?_; rw [hx])
 (refine Cx.fieldEl rfl rfl rfl ?_)
 (refine Cx.loadPP rfl rfl ?_)
 (refine Cx.move rfl rfl ?_)
 (refine Cx.move rfl rfl ?_)
 (refine Cx.indexEl rfl rfl h1 rfl rfl ?_; rw [hx])
 (refine Cx.fieldEl rfl rfl rfl ?_)
 (refine Cx.loadPP rfl rfl ?_)
 (refine SegC.q (Qs.call (Lc := []) (cr) (fun s L' h => h) (List.Perm.refl _) (evs_args rfl)) rfl ?_)
 (refine Cx.move rfl rfl ?_)
 (refine Cx.extract rfl rfl rfl ?_)
 (refine Cx.extract rfl rfl rfl ?_)
 (refine Cx.assign rfl rfl ?_)
 (refine Cx.assign rfl rfl ?_)
 (refine SegC.nil ?_)
 (refine N.seq (W.seq (W.region (Jx.move rfl rfl (Jx.move rfl rfl (Jx.neqI rfl rfl rfl (Jx.move rfl rfl (J.gY rfl rfl rfl ?_))))))))
 (refine Jx.move rfl rfl (J.gY rfl rfl rfl ?_))
 (refine Jx.move rfl rfl (J.gY rfl rfl rfl ?_))
 (refine Jx.move rfl rfl (J.gY rfl rfl rfl ?_))
 (refine Jx.move rfl rfl (J.gY rfl rfl rfl ?_))
 (refine Jx.indexEl rfl rfl h1 rfl rfl ?_; rw [hx])
 (refine J.gY rfl rfl rfl ?_)
 (refine Jx.fieldEl rfl rfl rfl ?_)
 (refine J.gY rfl rfl rfl ?_)
 (refine Jx.loadPP rfl rfl ?_)
 (refine J.gY rfl rfl rfl ?_)
 (refine J.call (tells_ok b E (i + 1) L2 hT2 (by omega) x.name) (List.append_nil _).symm (evs_args rfl) rfl ?_; rintro _ L9 ⟨rfl, h9⟩; rw [h9, List.append_nil])
 (refine J.gY rfl rfl rfl ?_)
 (refine Jx.not rfl rfl (Jx.pF rfl rfl rfl ?_))
 (refine Jx.move rfl rfl (J.gY rfl rfl rfl ?_))
 (refine Jx.move rfl rfl (J.gY rfl rfl rfl ?_))
 (refine Jx.move rfl rfl (J.gY rfl rfl rfl ?_))
 (refine Jx.move rfl rfl (J.gY rfl rfl rfl ?_))
 (refine J.call (tells_ok b E (i + 1) L2 hT2 (by omega) nm) (List.append_nil _).symm (evs_args rfl) rfl ?_; rintro _ L9 ⟨rfl, h9⟩; rw [h9, List.append_nil])
 (refine J.gY rfl rfl rfl ?_)
 (refine Jx.not rfl rfl (Jx.pF rfl rfl rfl ?_))
 (refine J.nil (N.seq (W.cF rfl ?_)))
 (refine W.skip (N.seq (W.region (Jx.move rfl rfl ?_))))
 (refine Jx.add64 rfl rfl (by omega) rfl ?_; rw [e1])
 (refine Jx.assign rfl rfl (J.nil ?_))
 (refine id ?_; rotate_left))
      exact N.round ⟨i + 1, E, L2⟩ ⟨hle, hg2, hT2⟩ (by simp only; omega) rfl ⟨ref0 rfl, ref0 rfl, ref0 rfl, ref0 rfl, ref0 rfl, trivial⟩
    by_cases k2 : x.kind = 1
    · have cs := tDrop_ok b D i L1 hT x.name (by omega)
      have cr := rdrop_ok D x.name (by omega)
      have hg2 := good_drop hg x.name
      generalize dropD D x.name = E at *
      obtain ⟨E, c⟩ := E
      simp only at cs cr hg2
      have hlE := hg2.len
      focus (
 (refine W.seq (W.seq (W.region (Jx.move rfl rfl (Jx.move rfl rfl (Jx.lenSl rfl rfl ?_))))))
 (refine Jx.lssI rfl rfl rfl (Jx.move rfl rfl (J.gY rfl rfl rfl ?_)))
 (refine Jx.move rfl rfl (J.gY rfl rfl rfl ?_))
 (refine Jx.lssI rfl rfl rfl (Jx.pT rfl rfl rfl ?_))
 (refine J.nil (N.seq (W.cT rfl ?_)))
 (refine W.skip (N.seq (W.seq (W.block (W.seq (W.seq (W.region (Jx.move rfl rfl (Jx.move rfl rfl ?_)))))))))
 (refine Jx.indexEl rfl rfl h1 rfl rfl ?_; rw [hx])
 (refine Jx.fieldEl rfl rfl rfl ?_)
 (refine Jx.loadPP rfl rfl ?_)
 (refine Jx.lenS rfl rfl ?_)
 (refine Jx.gtrI rfl rfl rfl (J.nil (N.seq (W.cF rfl ?_))))
 (refine W.skip (N.seq (W.seq (W.region (Jx.assign rfl rfl (Jx.assign rfl rfl (J.nil (N.seq (W.seq (W.seq (W.region (Jx.move rfl rfl (Jx.move rfl rfl ?_)))))))))))))
 (refine Jx.indexEl rfl rfl h1 rfl rfl ?_; rw [hx])
 (refine Jx.fieldEl rfl rfl rfl ?_)
 (refine Jx.loadPP rfl rfl ?_)
 (refine J.nil (N.seq (W.block (W.seq (W.region (Jx.eqlI rfl rfl rfl (Jx.assign rfl rfl (J.nil (N.seq (W.cF rfl ?_))))))))))
 (refine W.seq (W.region (Jx.eqlI rfl rfl rfl (Jx.assign rfl rfl (J.nil (N.seq (W.cT rfl ?_)))))))
 (refine W.seq (W.region (Jx.move rfl rfl (Jx.move rfl rfl (Jx.move rfl rfl ?_)))))
 (refine Jx.indexEl rfl rfl h1 rfl rfl ?_; rw [hx])
 (refine Jx.fieldEl rfl rfl rfl ?_)
 (refine Jx.loadPP rfl rfl ?_)
 (refine J.call cs (List.append_nil _).symm (evs_args rfl) rfl ?_; rintro _ L2 ⟨rfl, hT2⟩; rw [List.append_nil])
 (refine Jx.assign rfl rfl (J.nil (N.seq (W.region (Jx.move rfl rfl (Jx.move rfl rfl (Jx.move rfl rfl ?_)))))))
 (refine Jx.indexEl rfl rfl h1 rfl rfl ?_; rw [hx])
 (refine Jx.fieldEl rfl rfl rfl ?_)
 (refine Jx.loadPP rfl rfl ?_)
 (refine J.call (Lc := []) cr rfl (evs_args rfl) rfl ?_; rintro _ _ ⟨rfl, rfl⟩; rw [List.nil_append])
 (refine Jx.move rfl rfl (Jx.extract rfl rfl rfl ?_))
 (refine Jx.extract rfl rfl rfl ?_)
 (refine Jx.assign rfl rfl (Jx.assign rfl rfl (J.nil (N.seq (W.seq (W.region (Jx.move rfl rfl (Jx.move rfl rfl (Jx.neqI rfl rfl rfl (Jx.move rfl rfl (J.gY rfl rfl rfl ?_)))))))))))
 (refine Jx.move rfl rfl (J.gY rfl rfl rfl ?_))
 (refine Jx.move rfl rfl (J.gY rfl rfl rfl ?_))
 (refine Jx.move rfl rfl (J.gY rfl rfl rfl ?_))
 (refine Jx.move rfl rfl (J.gY rfl rfl rfl ?_))
 (refine Jx.indexEl rfl rfl h1 rfl rfl ?_; rw [hx])
 (refine J.gY rfl rfl rfl ?_)
 (refine Jx.fieldEl rfl rfl rfl ?_)
 (refine J.gY rfl rfl rfl ?_)
 (refine Jx.loadPP rfl rfl ?_)
 (refine J.gY rfl rfl rfl ?_)
 (refine J.call (tells_ok b E i L2 hT2 (by omega) x.name) (List.append_nil _).symm (evs_args rfl) rfl ?_; rintro _ L9 ⟨rfl, h9⟩; rw [h9, List.append_nil])
 (refine J.gY rfl rfl rfl ?_)
 (refine Jx.not rfl rfl (Jx.pF rfl rfl rfl ?_))
 (refine Jx.move rfl rfl (J.gY rfl rfl rfl ?_))
 (refine Jx.move rfl rfl (J.gY rfl rfl rfl ?_))
 (refine Jx.move rfl rfl (J.gY rfl rfl rfl ?_))
 (refine Jx.move rfl rfl (J.gY rfl rfl rfl ?_))
 (refine J.call (tells_ok b E i L2 hT2 (by omega) nm) (List.append_nil _).symm (evs_args rfl) rfl ?_; rintro _ L9 ⟨rfl, h9⟩; rw [h9, List.append_nil])
 (refine J.gY rfl rfl rfl ?_)
 (refine Jx.not rfl rfl (Jx.pF rfl rfl rfl ?_))
 (refine J.nil (N.seq (W.cF rfl ?_)))
 (refine W.skip (N.seq (W.region (Jx.move rfl rfl ?_))))
 (refine Jx.add64 rfl rfl (by omega) rfl ?_; rw [e1])
 (refine Jx.assign rfl rfl (J.nil ?_))
 (refine id ?_; rotate_left))
      exact N.round ⟨i + 1, E, L2⟩ ⟨hle, hg2.mono (by simp only; omega), hT2.mono (by simp only; omega)⟩ (by simp only; omega) rfl ⟨ref0 rfl, ref0 rfl, ref0 rfl, ref0 rfl, ref0 rfl, trivial⟩
    by_cases k3 : x.kind = 2
    · have cs := tDue_ok b D i L1 hT x.tm (by omega)
      have cr := rdue_ok D x.tm (by omega)
      have hg2 := good_due hg x.tm
      have hdl := due_len x.tm D
      generalize due D x.tm = E at *
      obtain ⟨A, E⟩ := E
      simp only at cs cr hg2 hdl
      have hlE := hg2.len
      have cm := fun v => sameRow_ok v A A (by omega)
      have cp := fun v => spoil_ok v A (by omega)
      simp only [decide_true] at cm
      focus (
 (refine W.seq (W.seq (W.region (Jx.move rfl rfl (Jx.move rfl rfl (Jx.lenSl rfl rfl ?_))))))
 (refine Jx.lssI rfl rfl rfl (Jx.move rfl rfl (J.gY rfl rfl rfl ?_)))
 (refine Jx.move rfl rfl (J.gY rfl rfl rfl ?_))
 (refine Jx.lssI rfl rfl rfl (Jx.pT rfl rfl rfl ?_))
 (refine J.nil (N.seq (W.cT rfl ?_)))
 (refine W.skip (N.seq (W.seq (W.block (W.seq (W.seq (W.region (Jx.move rfl rfl (Jx.move rfl rfl ?_)))))))))
 (refine Jx.indexEl rfl rfl h1 rfl rfl ?_; rw [hx])
 (refine Jx.fieldEl rfl rfl rfl ?_)
 (refine Jx.loadPP rfl rfl ?_)
 (refine Jx.lenS rfl rfl ?_)
 (refine Jx.gtrI rfl rfl rfl (J.nil (N.seq (W.cF rfl ?_))))
 (refine W.skip (N.seq (W.seq (W.region (Jx.assign rfl rfl (Jx.assign rfl rfl (J.nil (N.seq (W.seq (W.seq (W.region (Jx.move rfl rfl (Jx.move rfl rfl ?_)))))))))))))
 (refine Jx.indexEl rfl rfl h1 rfl rfl ?_; rw [hx])
 (refine Jx.fieldEl rfl rfl rfl ?_)
 (refine Jx.loadPP rfl rfl ?_)
 (refine J.nil (N.seq (W.block (W.seq (W.region (Jx.eqlI rfl rfl rfl (Jx.assign rfl rfl (J.nil (N.seq (W.cF rfl ?_))))))))))
 (refine W.seq (W.region (Jx.eqlI rfl rfl rfl (Jx.assign rfl rfl (J.nil (N.seq (W.cF rfl ?_)))))))
 (refine W.seq (W.region (Jx.eqlI rfl rfl rfl (Jx.assign rfl rfl (J.nil (N.seq (W.cT rfl ?_)))))))
 (refine W.seq (W.region (Jx.move rfl rfl (Jx.move rfl rfl (Jx.move rfl rfl ?_)))))
 (refine Jx.indexEl rfl rfl h1 rfl rfl ?_; rw [hx])
 (refine Jx.fieldEl rfl rfl rfl ?_)
 (refine Jx.loadPP rfl rfl ?_)
 (refine J.call (Lc := []) cr rfl (evs_args rfl) rfl ?_; rintro _ _ ⟨rfl, rfl⟩; rw [List.nil_append])
 (refine Jx.move rfl rfl (Jx.extract rfl rfl rfl ?_))
 (refine Jx.extract rfl rfl rfl ?_)
 (refine Jx.assign rfl rfl (Jx.assign rfl rfl (J.nil (N.seq (W.seq (W.region (Jx.move rfl rfl (Jx.assign rfl rfl (J.nil (N.seq (W.seq (W.region (Jx.move rfl rfl (Jx.move rfl rfl ?_))))))))))))))
 (refine Jx.move rfl rfl ?_)
 (refine Jx.indexEl rfl rfl h1 rfl rfl ?_; rw [hx])
 (refine Jx.fieldEl rfl rfl rfl ?_)
 (refine Jx.loadPP rfl rfl ?_)
 (refine J.call cs (List.append_nil _).symm (evs_args rfl) rfl ?_; rintro _ _ ⟨v2, L2, hv2, rfl, rfl, hT2⟩; rw [List.append_nil])
 (refine Jx.assign rfl rfl (J.nil (N.seq (W.seq (W.seq (W.region (Jx.move rfl rfl (Jx.move rfl rfl ?_))))))))
 (refine J.call (Lc := [_]) (cm v2) rfl (evs_args rfl) rfl ?_; rintro _ _ ⟨rfl, rfl⟩; rw [List.singleton_append])
 (refine Jx.not rfl rfl (J.nil (N.seq (W.cF rfl ?_))))
 (refine W.skip (N.seq (W.region (Jx.move rfl rfl ?_))))
 (refine J.call (Lc := [_]) (cp v2) rfl (evs_args rfl) rfl ?_; rintro _ _ ⟨v3, A3, rfl⟩; refine J.drop (List.sublist_cons_self _ _) ?_)
 (refine J.nil (N.seq (W.seq (W.region (Jx.move rfl rfl (Jx.move rfl rfl (Jx.neqI rfl rfl rfl (Jx.move rfl rfl (J.gY rfl rfl rfl ?_)))))))))
 (refine Jx.move rfl rfl (J.gY rfl rfl rfl ?_))
 (refine Jx.move rfl rfl (J.gY rfl rfl rfl ?_))
 (refine Jx.move rfl rfl (J.gY rfl rfl rfl ?_))
 (refine Jx.move rfl rfl (J.gY rfl rfl rfl ?_))
 (refine Jx.indexEl rfl rfl h1 rfl rfl ?_; rw [hx])
 (refine J.gY rfl rfl rfl ?_)
 (refine Jx.fieldEl rfl rfl rfl ?_)
 (refine J.gY rfl rfl rfl ?_)
 (refine Jx.loadPP rfl rfl ?_)
 (refine J.gY rfl rfl rfl ?_)
 (refine J.call (tells_ok b E i L2 hT2 (by omega) x.name) (List.append_nil _).symm (evs_args rfl) rfl ?_; rintro _ L9 ⟨rfl, h9⟩; rw [h9, List.append_nil])
 (refine J.gY rfl rfl rfl ?_)
 (refine Jx.not rfl rfl (Jx.pF rfl rfl rfl ?_))
 (refine Jx.move rfl rfl (J.gY rfl rfl rfl ?_))
 (refine Jx.move rfl rfl (J.gY rfl rfl rfl ?_))
 (refine Jx.move rfl rfl (J.gY rfl rfl rfl ?_))
 (refine Jx.move rfl rfl (J.gY rfl rfl rfl ?_))
 (refine J.call (tells_ok b E i L2 hT2 (by omega) nm) (List.append_nil _).symm (evs_args rfl) rfl ?_; rintro _ L9 ⟨rfl, h9⟩; rw [h9, List.append_nil])
 (refine J.gY rfl rfl rfl ?_)
 (refine Jx.not rfl rfl (Jx.pF rfl rfl rfl ?_))
 (refine J.nil (N.seq (W.cF rfl ?_)))
 (refine W.skip (N.seq (W.region (Jx.move rfl rfl ?_))))
 (refine Jx.add64 rfl rfl (by omega) rfl ?_; rw [e1])
 (refine Jx.assign rfl rfl (J.nil ?_))
 (refine id ?_; rotate_left))
      exact N.round ⟨i + 1, E, L2⟩ ⟨hle, hg2.mono (by simp only; omega), hT2.mono (by simp only; omega)⟩ (by simp only; omega) rfl ⟨ref0 rfl, ref0 rfl, ref0 rfl, ref0 rfl, ref0 rfl, trivial⟩
    · focus (
 (refine W.seq (W.seq (W.region (Jx.move rfl rfl (Jx.move rfl rfl (Jx.lenSl rfl rfl ?_))))))
 (refine Jx.lssI rfl rfl rfl (Jx.move rfl rfl (J.gY rfl rfl rfl ?_)))
 (refine Jx.move rfl rfl (J.gY rfl rfl rfl ?_))
 (refine Jx.lssI rfl rfl rfl (Jx.pT rfl rfl rfl ?_))
 (refine J.nil (N.seq (W.cT rfl ?_)))
 (refine W.skip (N.seq (W.seq (W.block (W.seq (W.seq (W.region (Jx.move rfl rfl (Jx.move rfl rfl ?_)))))))))
 (refine Jx.indexEl rfl rfl h1 rfl rfl ?_; rw [hx])
 (refine Jx.fieldEl rfl rfl rfl ?_)
 (refine Jx.loadPP rfl rfl ?_)
 (refine Jx.lenS rfl rfl ?_)
 (refine Jx.gtrI rfl rfl rfl (J.nil (N.seq (W.cF rfl ?_))))
 (refine W.skip (N.seq (W.seq (W.region (Jx.assign rfl rfl (Jx.assign rfl rfl (J.nil (N.seq (W.seq (W.seq (W.region (Jx.move rfl rfl (Jx.move rfl rfl ?_)))))))))))))
 (refine Jx.indexEl rfl rfl h1 rfl rfl ?_; rw [hx])
 (refine Jx.fieldEl rfl rfl rfl ?_)
 (refine Jx.loadPP rfl rfl ?_)
 (refine J.nil (N.seq (W.block (W.seq (W.region (Jx.eqlI rfl rfl rfl (Jx.assign rfl rfl (J.nil (N.seq (W.cF rfl ?_))))))))))
 (refine W.seq (W.region (Jx.eqlI rfl rfl rfl (Jx.assign rfl rfl (J.nil (N.seq (W.cF rfl ?_)))))))
 (refine W.seq (W.region (Jx.eqlI rfl rfl rfl (Jx.assign rfl rfl (J.nil (N.seq (W.cF rfl ?_)))))))
 (refine W.skip (N.seq (W.seq (W.region (Jx.move rfl rfl (Jx.move rfl rfl (Jx.neqI rfl rfl rfl (Jx.move rfl rfl (J.gY rfl rfl rfl ?_)))))))))
 (refine Jx.move rfl rfl (J.gY rfl rfl rfl ?_))
 (refine Jx.move rfl rfl (J.gY rfl rfl rfl ?_))
 (refine Jx.move rfl rfl (J.gY rfl rfl rfl ?_))
 (refine Jx.move rfl rfl (J.gY rfl rfl rfl ?_))
 (refine Jx.indexEl rfl rfl h1 rfl rfl ?_; rw [hx])
 (refine J.gY rfl rfl rfl ?_)
 (refine Jx.fieldEl rfl rfl rfl ?_)
 (refine J.gY rfl rfl rfl ?_)
 (refine Jx.loadPP rfl rfl ?_)
 (refine J.gY rfl rfl rfl ?_)
 (refine J.call (tells_ok b D i L1 hT (by omega) x.name) (List.append_nil _).symm (evs_args rfl) rfl ?_; rintro _ L9 ⟨rfl, h9⟩; rw [h9, List.append_nil])
 (refine J.gY rfl rfl rfl ?_)
 (refine Jx.not rfl rfl (Jx.pF rfl rfl rfl ?_))
 (refine Jx.move rfl rfl (J.gY rfl rfl rfl ?_))
 (refine Jx.move rfl rfl (J.gY rfl rfl rfl ?_))
 (refine Jx.move rfl rfl (J.gY rfl rfl rfl ?_))
 (refine Jx.move rfl rfl (J.gY rfl rfl rfl ?_))
 (refine J.call (tells_ok b D i L1 hT (by omega) nm) (List.append_nil _).symm (evs_args rfl) rfl ?_; rintro _ L9 ⟨rfl, h9⟩; rw [h9, List.append_nil])
 (refine J.gY rfl rfl rfl ?_)
 (refine Jx.not rfl rfl (Jx.pF rfl rfl rfl ?_))
 (refine J.nil (N.seq (W.cF rfl ?_)))
 (refine W.skip (N.seq (W.region (Jx.move rfl rfl ?_))))
 (refine Jx.add64 rfl rfl (by omega) rfl ?_; rw [e1])
 (refine Jx.assign rfl rfl (J.nil ?_))
 (refine id ?_; rotate_left))
      exact N.round ⟨i + 1, D, L1⟩ ⟨hle, hg.mono (by simp only; omega), hT.mono (by simp only; omega)⟩ (by simp only; omega) rfl ⟨ref0 rfl, ref0 rfl, ref0 rfl, ref0 rfl, ref0 rfl, trivial⟩
  · have himin : i = min l.length 60 := by omega
    focus (
 (refine W.seq (W.seq (W.region (Jx.move rfl rfl (Jx.move rfl rfl (Jx.lenSl rfl rfl ?_))))))
 (refine Jx.lssI rfl rfl rfl (Jx.move rfl rfl ?_))
 (refine' J.guardAnd rfl rfl rfl rfl rfl rfl rfl rfl (fun _ => ?_) ?_; rotate_left)
 (refine J.gY rfl rfl rfl ?_)
 (refine Jx.move rfl rfl (J.gY rfl rfl rfl ?_))
 (refine Jx.lssI rfl rfl rfl (J.nil ?_))
 (refine N.joinedN rfl rfl rfl)
 (refine J.nil (N.seq (W.cF rfl ?_)))
 (refine W.exit (N.seq (W.seq (W.region ?_))))
 (refine J.drop (List.nil_sublist _) ?_; refine J.call works_ok rfl (evs_args rfl) rfl ?_; rintro _ _ ⟨rfl, rfl⟩)
 (refine Jx.assign rfl rfl (J.nil (N.seq (W.ret ?_))))
 (refine id ?_; rotate_left))
    exact N.ret (rs := [.tmp 4]) rfl (.tmp rfl .nil) ⟨rfl, rfl⟩
end Go.Proofs.Ytmkicbphbegjbaa
