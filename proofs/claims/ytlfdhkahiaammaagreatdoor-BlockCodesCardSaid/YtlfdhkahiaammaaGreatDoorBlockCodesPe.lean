/-
  Lemmas for the claim, part 5.
-/
import Derived.Test.YtlfdhkahiaammaaGreatDoorBlockCodesPd
namespace Go.Proofs.YtlfdhkahiaammaaGreatDoor
open Go Go.Sse
set_option linter.unusedVariables false
set_option linter.unusedSimpArgs false
set_option maxRecDepth 10000
abbrev tCt : Nat := 27
theorem agCt : TAg Tryz.prog tCt 2 := inferInstance
abbrev ctz : List SV := [str [], .val (.slice none 0 0)]
theorem ctz_sub : SubL ctz (ctC ct0) := .cons (.refl _) (.cons (Sub.nil 1 _) .nil)
set_option maxHeartbeats 1000000 in
theorem cmay_ok (c : Ct) : FnC Tryz.prog 71 [.agg (ctC c)] [] (fun v L => v = bool (fineCt c) ∧ L = []) := by
  refine FnC.intro Tryz.func71 rfl Tryz.ntmps71 rfl fun Z w0 hG => ?_
  focus (
 (refine W.seq (W.region ?_))
 (refine J.boxAg rfl rfl ?_; intro b')
 (refine Jx.assign rfl rfl (J.nil (N.seq (W.seq (W.seq (W.region (Jx.fieldAddr rfl rfl ?_)))))))
 (refine Jx.load rfl 0 rfl rfl rfl ?_)
 (refine Jx.lenS rfl rfl ?_)
 (refine Jx.neqI rfl rfl rfl (Jx.move rfl rfl ?_))
 (refine' J.guardOr rfl rfl rfl rfl rfl rfl rfl rfl (fun _ => ?_) ?_; rotate_left)
 (refine J.gY rfl rfl rfl ?_)
 (refine Jx.fieldAddr rfl rfl ?_)
 (refine J.gY rfl rfl rfl ?_)
 (refine Jx.load rfl 0 rfl rfl rfl ?_)
 (refine J.gY rfl rfl rfl ?_)
 (refine Jx.lenSl rfl rfl ?_)
 (refine J.gY rfl rfl rfl ?_)
 (refine Jx.gtrI rfl rfl rfl (J.nil ?_))
 (refine N.joinedN rfl rfl rfl)
 (refine J.nil (N.seq ?_))
 (refine id ?_; rotate_left))
  refine W.cond rfl (fun hb => ?_) (fun hb => ?_)
  · have hf : fineCt c = false := by
      simp only [Bool.or_eq_true, decide_eq_true_eq] at hb
      simp only [fineCt, Bool.and_eq_false_iff, decide_eq_false_iff_not]
      omega
    rw [hf]
    focus (
 (refine W.seq (W.region (Jx.assign rfl rfl (J.nil (N.seq (W.ret (N.noGotoRet ?_)))))))
 (refine id ?_; rotate_left))
    exact N.retD (rs := [.tmp 2]) (L1 := []) rfl (.tmp rfl .nil) (List.nil_sublist _) ⟨rfl, rfl⟩
  · simp only [Bool.or_eq_false_iff, decide_eq_false_iff_not] at hb
    have hf : fineCt c = fineN [] c.signers := by
      simp only [fineCt]
      rw [decide_eq_true (by omega), decide_eq_true (by omega)]
      rfl
    focus (
 (refine W.skip (N.seq (W.seq (W.region (Jx.assign rfl rfl (J.nil (N.seq (W.seq (W.seq (W.region (Jx.fieldAddr rfl rfl ?_)))))))))))
 (refine Jx.load rfl 0 rfl rfl rfl ?_)
 (refine Jx.lenSl rfl rfl ?_)
 (refine Jx.move rfl rfl (J.nil (N.seq (W.block ?_))))
 (refine id ?_; rotate_left))
    refine W.loop (α := Nat) (fun i => [(19, int (i : Int)), (18, int (c.signers.length : Int)), (17, ssl c.signers), (3, str (lastS c.signers i))]) (fun _ => [.obj b' tCt (ctC c)]) (fun i => i ≤ c.signers.length ∧ fineCt c = fineN (lastS c.signers i) (c.signers.drop i)) (fun i => c.signers.length - i) 0 ⟨by omega, hf⟩ rfl ⟨ref0 rfl, ref0 rfl, ref0 rfl, ref0 rfl, trivial⟩ ?_
    rintro i ⟨hi, hs⟩
    by_cases h1 : i < c.signers.length
    · rw [fineN_step c.signers i h1] at hs
      have hns := lastS_succ c.signers i
      generalize lastS c.signers i = last at *
      focus (
 (refine W.seq (W.region (Jx.lssI rfl rfl rfl (J.nil (N.seq (W.seq (W.cT rfl ?_)))))))
 (refine W.skip (N.seq (W.seq (W.block (W.seq (W.region (Jx.indexEl rfl rfl (by assumption) rfl rfl ?_)))))))
 (refine Jx.loadPP rfl rfl ?_)
 (refine Jx.assign rfl rfl (J.nil (N.seq (W.seq (W.seq (W.region (Jx.move rfl rfl (Jx.move rfl rfl (Jx.leqS rfl rfl rfl ?_)))))))))
 (refine Jx.move rfl rfl ?_)
 (refine' J.guardOr rfl rfl rfl rfl rfl rfl rfl rfl (fun _ => ?_) ?_; rotate_left)
 (refine J.gY rfl rfl rfl ?_)
 (refine Jx.move rfl rfl (J.gY rfl rfl rfl ?_))
 (refine Jx.lenS rfl rfl ?_)
 (refine J.gY rfl rfl rfl ?_)
 (refine Jx.gtrI rfl rfl rfl (J.nil ?_))
 (refine N.joinedN rfl rfl rfl)
 (refine J.nil (N.seq ?_))
 (refine id ?_; rotate_left))
      refine W.cond rfl (fun hb => ?_) (fun hb => ?_)
      · have hf : fineCt c = false := by
          rw [hs]
          cases hk : okN last (c.signers.getD i []) with
          | false => rfl
          | true =>
            simp only [okN, leB, Bool.and_eq_true, decide_eq_true_eq, Bool.not_eq_true', Bool.or_eq_false_iff, decide_eq_false_iff_not] at hk
            obtain ⟨⟨k1, k2⟩, k3⟩ := hk
            simp only [Bool.or_eq_true, decide_eq_true_eq] at hb
            rcases hb with (h | h) | h
            · rw [k1] at h; cases h
            · exact absurd h k2
            · omega
        rw [hf]
        focus (
 (refine W.seq (W.region (Jx.assign rfl rfl (J.nil (N.seq (W.ret (N.noGotoRet (N.noGotoRet (N.noGotoRet (N.noGotoRet (N.noGotoRet (N.noGotoRet ?_))))))))))))
 (refine id ?_; rotate_left))
        exact N.retD (rs := [.tmp 2]) (L1 := []) rfl (.tmp rfl .nil) (List.nil_sublist _) ⟨rfl, rfl⟩
      · focus (
 (refine W.skip (N.seq (W.region (Jx.move rfl rfl (Jx.assign rfl rfl (J.nil (N.seq (W.region (Jx.add64 rfl rfl (by omega) rfl ?_)))))))))
 (refine Jx.move rfl rfl (J.nil ?_))
 (refine id ?_; rotate_left))
        refine N.round (i + 1) ⟨h1, ?_⟩ (by omega) rfl ⟨ref0 rfl, ref0 rfl, ref0 rfl, ⟨_, rfl, Sub.of_eq (by rw [hns])⟩, trivial⟩
        have : okN last (c.signers.getD i []) = true := by
          simp only [Bool.or_eq_false_iff, decide_eq_false_iff_not] at hb
          simp only [okN, leB, Bool.and_eq_true, decide_eq_true_eq, Bool.not_eq_true', Bool.or_eq_false_iff, decide_eq_false_iff_not]
          exact ⟨hb.1, by omega⟩
        rw [hs, this, hns, Bool.true_and]
    · have hil : i = c.signers.length := by omega
      subst hil
      rw [List.drop_length] at hs
      rw [hs]
      focus (
 (refine W.seq (W.region (Jx.lssI rfl rfl rfl (J.nil (N.seq (W.seq (W.cF rfl ?_)))))))
 (refine W.exit (N.seq (W.seq (W.region (Jx.assign rfl rfl (J.nil (N.seq (W.ret ?_))))))))
 (refine id ?_; rotate_left))
      exact N.retD (rs := [.tmp 2]) (L1 := []) rfl (.tmp rfl .nil) (List.nil_sublist _) ⟨rfl, rfl⟩
set_option maxHeartbeats 2000000 in
theorem rmay_ok (c : Ct) : FnC Tryz.prog 75 [.agg (ctC c)] [] (fun v L => v = bool (fineCt c) ∧ L = []) := by
  refine FnC.intro Tryz.func75 rfl Tryz.ntmps75 rfl fun Z w0 hG => ?_
  focus (
 (refine W.seq (W.region ?_))
 (refine J.boxAg rfl rfl ?_; intro b')
 (refine Jx.assign rfl rfl (J.nil (N.seq (W.seq (W.seq (W.region (Jx.fieldAddr rfl rfl ?_)))))))
 (refine Jx.load rfl 0 rfl rfl rfl ?_)
 (refine Jx.lenS rfl rfl ?_)
 (refine Jx.neqI rfl rfl rfl (Jx.move rfl rfl ?_))
 (refine' J.guardOr rfl rfl rfl rfl rfl rfl rfl rfl (fun _ => ?_) ?_; rotate_left)
 (refine J.gY rfl rfl rfl ?_)
 (refine Jx.fieldAddr rfl rfl ?_)
 (refine J.gY rfl rfl rfl ?_)
 (refine Jx.load rfl 0 rfl rfl rfl ?_)
 (refine J.gY rfl rfl rfl ?_)
 (refine Jx.lenSl rfl rfl ?_)
 (refine J.gY rfl rfl rfl ?_)
 (refine Jx.gtrI rfl rfl rfl (J.nil ?_))
 (refine N.joinedN rfl rfl rfl)
 (refine J.nil (N.seq ?_))
 (refine id ?_; rotate_left))
  refine W.cond rfl (fun hb => ?_) (fun hb => ?_)
  · have hf : fineCt c = false := by
      simp only [Bool.or_eq_true, decide_eq_true_eq] at hb
      simp only [fineCt, Bool.and_eq_false_iff, decide_eq_false_iff_not]
      omega
    rw [hf]
    focus (
 (refine W.seq (W.region (Jx.assign rfl rfl (J.nil (N.seq (W.ret (N.noGotoRet ?_)))))))
 (refine id ?_; rotate_left))
    exact N.retD (rs := [.tmp 2]) (L1 := []) rfl (.tmp rfl .nil) (List.nil_sublist _) ⟨rfl, rfl⟩
  · simp only [Bool.or_eq_false_iff, decide_eq_false_iff_not] at hb
    have hf : fineCt c = fineN [] c.signers := by
      simp only [fineCt]
      rw [decide_eq_true (by omega), decide_eq_true (by omega)]
      rfl
    focus (
 (refine W.skip (N.seq (W.seq (W.seq (W.region (Jx.assign rfl rfl (J.nil (N.seq (W.block ?_)))))))))
 (refine id ?_; rotate_left))
    refine W.loop (α := Nat) (fun i => [(3, int (i : Int)), (1, ptr b')]) (fun _ => [.obj b' tCt (ctC c)]) (fun i => i ≤ c.signers.length ∧ fineCt c = fineN (lastS c.signers i) (c.signers.drop i)) (fun i => c.signers.length - i) 0 ⟨by omega, hf⟩ rfl ⟨ref0 rfl, ref0 rfl, trivial⟩ ?_
    rintro i ⟨hi, hs⟩
    by_cases h1 : i < c.signers.length
    · rw [fineN_step c.signers i h1] at hs
      have hns := lastS_succ c.signers i
      by_cases a1 : ((c.signers.getD i []).length : Int) < 1
      · have : c.signers.getD i [] = [] := List.eq_nil_of_length_eq_zero (by omega)
        have hf : fineCt c = false := by rw [hs, this, okN, leB_nil]; rfl
        rw [hf]
        focus (
 (refine W.seq (W.seq (W.region (Jx.move rfl rfl (Jx.fieldAddr rfl rfl ?_)))))
 (refine Jx.load rfl 0 rfl rfl rfl ?_)
 (refine Jx.lenSl rfl rfl ?_)
 (refine Jx.lssI rfl rfl rfl (J.nil (N.seq (W.cT rfl ?_))))
 (refine W.skip (N.seq (W.seq (W.block (W.seq ?_)))))
 (refine W.draw follows ?_)
 (refine JD.calm rfl (by decide +kernel) ?_)
 (refine Cx.fieldAddr rfl rfl ?_)
 (refine Cx.load rfl 0 rfl rfl rfl ?_)
 (refine Cx.move rfl rfl ?_)
 (refine Cx.indexEl rfl rfl (by assumption) rfl rfl ?_)
 (refine Cx.loadPP rfl rfl ?_)
 (refine Cx.lenS rfl rfl ?_)
 (refine Cx.lssI rfl rfl rfl ?_)
 (refine Cx.move rfl rfl ?_)
 (refine SegC.gU rfl rfl rfl rfl ?_)
 (refine SegC.gU rfl rfl rfl rfl ?_)
 (refine SegC.gU rfl rfl rfl rfl ?_)
 (refine SegC.gU rfl rfl rfl rfl ?_)
 (refine SegC.gU rfl rfl rfl rfl ?_)
 (refine SegC.gU rfl rfl rfl rfl ?_)
 (refine SegC.gU rfl rfl rfl rfl ?_)
 (refine Cx.pickT rfl (by first | rfl | assumption | (exact decide_eq_true (by first | assumption | omega | rfl)) | (exact decide_eq_false (by first | assumption | omega | rfl)) | (simp; done) | (simp; omega)) rfl rfl ?_)
 (refine Cx.move rfl rfl ?_)
 (refine SegC.gU rfl rfl rfl rfl ?_)
 (refine SegC.gU rfl rfl rfl rfl ?_)
 (refine SegC.gU rfl rfl rfl rfl ?_)
 (refine SegC.gS rfl rfl rfl rfl ?_)
 (refine SegC.gS rfl rfl rfl rfl ?_)
 (refine SegC.gS rfl rfl rfl rfl ?_)
 (refine SegC.gS rfl rfl rfl rfl ?_)
 (refine SegC.gS rfl rfl rfl rfl ?_)
 (refine SegC.gS rfl rfl rfl rfl ?_)
 (refine SegC.gS rfl rfl rfl rfl ?_)
 (refine SegC.gS rfl rfl rfl rfl ?_)
 (refine SegC.gS rfl rfl rfl rfl ?_)
 (refine SegC.gS rfl rfl rfl rfl ?_)
 (refine SegC.gS rfl rfl rfl rfl ?_)
 (refine SegC.gS rfl rfl rfl rfl ?_)
 (refine SegC.gU rfl rfl rfl rfl ?_)
 (refine Cx.pickT rfl (by first | rfl | assumption | (exact decide_eq_true (by first | assumption | omega | rfl)) | (exact decide_eq_false (by first | assumption | omega | rfl)) | (simp; done) | (simp; omega)) rfl rfl ?_)
 (refine SegC.nil ?_)
 (refine N.seq (W.cT rfl ?_))
 (refine W.seq (W.region (Jx.assign rfl rfl (J.nil (N.seq (W.ret (N.noGotoRet (N.noGotoRet (N.noGotoRet (N.noGotoRet (N.noGotoRet ?_)))))))))))
 (refine id ?_; rotate_left))
        exact N.retD (rs := [.tmp 2]) (L1 := []) rfl (.tmp rfl .nil) (List.nil_sublist _) ⟨rfl, rfl⟩
      · by_cases a2 : 6 < ((c.signers.getD i []).length : Int)
        · have hf : fineCt c = false := by rw [hs, okN, decide_eq_false (by omega)]; simp
          rw [hf]
          focus (
 (refine W.seq (W.seq (W.region (Jx.move rfl rfl (Jx.fieldAddr rfl rfl ?_)))))
 (refine Jx.load rfl 0 rfl rfl rfl ?_)
 (refine Jx.lenSl rfl rfl ?_)
 (refine Jx.lssI rfl rfl rfl (J.nil (N.seq (W.cT rfl ?_))))
 (refine W.skip (N.seq (W.seq (W.block (W.seq ?_)))))
 (refine W.draw follows ?_)
 (refine JD.calm rfl (by decide +kernel) ?_)
 (refine Cx.fieldAddr rfl rfl ?_)
 (refine Cx.load rfl 0 rfl rfl rfl ?_)
 (refine Cx.move rfl rfl ?_)
 (refine Cx.indexEl rfl rfl (by assumption) rfl rfl ?_)
 (refine Cx.loadPP rfl rfl ?_)
 (refine Cx.lenS rfl rfl ?_)
 (refine Cx.lssI rfl rfl rfl ?_)
 (refine Cx.move rfl rfl ?_)
 (refine SegC.gY rfl rfl rfl ?_)
 (refine Cx.fieldAddr rfl rfl ?_)
 (refine SegC.gY rfl rfl rfl ?_)
 (refine Cx.load rfl 0 rfl rfl rfl ?_)
 (refine SegC.gY rfl rfl rfl ?_)
 (refine Cx.move rfl rfl ?_)
 (refine SegC.gY rfl rfl rfl ?_)
 (refine Cx.indexEl rfl rfl (by assumption) rfl rfl ?_)
 (refine SegC.gY rfl rfl rfl ?_)
 (refine Cx.loadPP rfl rfl ?_)
 (refine SegC.gY rfl rfl rfl ?_)
 (refine Cx.lenS rfl rfl ?_)
 (refine SegC.gY rfl rfl rfl ?_)
 (refine Cx.gtrI rfl rfl rfl ?_)
 (refine Cx.pickF rfl (by first | rfl | assumption | (exact decide_eq_true (by first | assumption | omega | rfl)) | (exact decide_eq_false (by first | assumption | omega | rfl)) | (simp; done) | (simp; omega)) rfl rfl ?_)
 (refine Cx.move rfl rfl ?_)
 (refine SegC.gU rfl rfl rfl rfl ?_)
 (refine SegC.gU rfl rfl rfl rfl ?_)
 (refine SegC.gU rfl rfl rfl rfl ?_)
 (refine SegC.gS rfl rfl rfl rfl ?_)
 (refine SegC.gS rfl rfl rfl rfl ?_)
 (refine SegC.gS rfl rfl rfl rfl ?_)
 (refine SegC.gS rfl rfl rfl rfl ?_)
 (refine SegC.gS rfl rfl rfl rfl ?_)
 (refine SegC.gS rfl rfl rfl rfl ?_)
 (refine SegC.gS rfl rfl rfl rfl ?_)
 (refine SegC.gS rfl rfl rfl rfl ?_)
 (refine SegC.gS rfl rfl rfl rfl ?_)
 (refine SegC.gS rfl rfl rfl rfl ?_)
 (refine SegC.gS rfl rfl rfl rfl ?_)
 (refine SegC.gS rfl rfl rfl rfl ?_)
 (refine SegC.gU rfl rfl rfl rfl ?_)
 (refine Cx.pickT rfl (by first | rfl | assumption | (exact decide_eq_true (by first | assumption | omega | rfl)) | (exact decide_eq_false (by first | assumption | omega | rfl)) | (simp; done) | (simp; omega)) rfl rfl ?_)
 (refine SegC.nil ?_)
 (refine N.seq (W.cT rfl ?_))
 (refine W.seq (W.region (Jx.assign rfl rfl (J.nil (N.seq (W.ret (N.noGotoRet (N.noGotoRet (N.noGotoRet (N.noGotoRet (N.noGotoRet ?_)))))))))))
 (refine id ?_; rotate_left))
          exact N.retD (rs := [.tmp 2]) (L1 := []) rfl (.tmp rfl .nil) (List.nil_sublist _) ⟨rfl, rfl⟩
        · have hne : c.signers.getD i [] ≠ [] := fun h => by rw [h] at a1; simp at a1
          by_cases h0 : i = 0
          · have hle : leB (c.signers.getD i []) (lastS c.signers i) = false := by rw [h0] at hne ⊢; exact leB_none hne
            focus (
 (refine W.seq (W.seq (W.region (Jx.move rfl rfl (Jx.fieldAddr rfl rfl ?_)))))
 (refine Jx.load rfl 0 rfl rfl rfl ?_)
 (refine Jx.lenSl rfl rfl ?_)
 (refine Jx.lssI rfl rfl rfl (J.nil (N.seq (W.cT rfl ?_))))
 (refine W.skip (N.seq (W.seq (W.block (W.seq ?_)))))
 (refine W.draw follows ?_)
 (refine JD.calm rfl (by decide +kernel) ?_)
 (refine Cx.fieldAddr rfl rfl ?_)
 (refine Cx.load rfl 0 rfl rfl rfl ?_)
 (refine Cx.move rfl rfl ?_)
 (refine Cx.indexEl rfl rfl (by assumption) rfl rfl ?_)
 (refine Cx.loadPP rfl rfl ?_)
 (refine Cx.lenS rfl rfl ?_)
 (refine Cx.lssI rfl rfl rfl ?_)
 (refine Cx.move rfl rfl ?_)
 (refine SegC.gY rfl rfl rfl ?_)
 (refine Cx.fieldAddr rfl rfl ?_)
 (refine SegC.gY rfl rfl rfl ?_)
 (refine Cx.load rfl 0 rfl rfl rfl ?_)
 (refine SegC.gY rfl rfl rfl ?_)
 (refine Cx.move rfl rfl ?_)
 (refine SegC.gY rfl rfl rfl ?_)
 (refine Cx.indexEl rfl rfl (by assumption) rfl rfl ?_)
 (refine SegC.gY rfl rfl rfl ?_)
 (refine Cx.loadPP rfl rfl ?_)
 (refine SegC.gY rfl rfl rfl ?_)
 (refine Cx.lenS rfl rfl ?_)
 (refine SegC.gY rfl rfl rfl ?_)
 (refine Cx.gtrI rfl rfl rfl ?_)
 (refine Cx.pickF rfl (by first | rfl | assumption | (exact decide_eq_true (by first | assumption | omega | rfl)) | (exact decide_eq_false (by first | assumption | omega | rfl)) | (simp; done) | (simp; omega)) rfl rfl ?_)
 (refine Cx.move rfl rfl ?_)
 (refine SegC.gY rfl rfl rfl ?_)
 (refine Cx.move rfl rfl ?_)
 (refine SegC.gY rfl rfl rfl ?_)
 (refine Cx.gtrI rfl rfl rfl ?_)
 (refine SegC.gY rfl rfl rfl ?_)
 (refine Cx.move rfl rfl ?_)
 (refine SegC.gU rfl rfl rfl rfl ?_)
 (refine SegC.gU rfl rfl rfl rfl ?_)
 (refine SegC.gU rfl rfl rfl rfl ?_)
 (refine SegC.gU rfl rfl rfl rfl ?_)
 (refine SegC.gU rfl rfl rfl rfl ?_)
 (refine SegC.gU rfl rfl rfl rfl ?_)
 (refine SegC.gU rfl rfl rfl rfl ?_)
 (refine SegC.gU rfl rfl rfl rfl ?_)
 (refine SegC.gU rfl rfl rfl rfl ?_)
 (refine SegC.gU rfl rfl rfl rfl ?_)
 (refine SegC.gU rfl rfl rfl rfl ?_)
 (refine SegC.gU rfl rfl rfl rfl ?_)
 (refine SegC.gY rfl rfl rfl ?_)
 (refine Cx.pickF rfl (by first | rfl | assumption | (exact decide_eq_true (by first | assumption | omega | rfl)) | (exact decide_eq_false (by first | assumption | omega | rfl)) | (simp; done) | (simp; omega)) rfl rfl ?_)
 (refine Cx.pickF rfl (by first | rfl | assumption | (exact decide_eq_true (by first | assumption | omega | rfl)) | (exact decide_eq_false (by first | assumption | omega | rfl)) | (simp; done) | (simp; omega)) rfl rfl ?_)
 (refine SegC.nil ?_)
 (refine N.seq (W.cF rfl ?_))
 (refine W.skip (N.seq (W.region (Jx.move rfl rfl (Jx.add64 rfl rfl (by omega) rfl ?_)))))
 (refine Jx.assign rfl rfl (J.nil ?_))
 (refine id ?_; rotate_left))
            refine N.round (i + 1) ⟨h1, ?_⟩ (by omega) rfl ⟨ref0 rfl, ref0 rfl, trivial⟩
            have : okN (lastS c.signers i) (c.signers.getD i []) = true := by
              simp only [okN, hle, Bool.and_eq_true, decide_eq_true_eq, Bool.not_false]
              exact ⟨trivial, by omega⟩
            rw [hs, this, hns, Bool.true_and]
          · have hsub : (i : Int) - 1 = ((i - 1 : Nat) : Int) := by omega
            have hl1 : i - 1 < c.signers.length := by omega
            have hla : lastS c.signers i = c.signers.getD (i - 1) [] := by simp [lastS, h0]
            have hi0 : (0 : Int) < (i : Int) := by omega
            focus (
 (refine W.seq (W.seq (W.region (Jx.move rfl rfl (Jx.fieldAddr rfl rfl ?_)))))
 (refine Jx.load rfl 0 rfl rfl rfl ?_)
 (refine Jx.lenSl rfl rfl ?_)
 (refine Jx.lssI rfl rfl rfl (J.nil (N.seq (W.cT rfl ?_))))
 (refine W.skip (N.seq (W.seq (W.block (W.seq ?_)))))
 (refine W.draw follows ?_)
 (refine JD.calm rfl (by decide +kernel) ?_)
 (refine Cx.fieldAddr rfl rfl ?_)
 (refine Cx.load rfl 0 rfl rfl rfl ?_)
 (refine Cx.move rfl rfl ?_)
 (refine Cx.indexEl rfl rfl (by assumption) rfl rfl ?_)
 (refine Cx.loadPP rfl rfl ?_)
 (refine Cx.lenS rfl rfl ?_)
 (refine Cx.lssI rfl rfl rfl ?_)
 (refine Cx.move rfl rfl ?_)
 (refine SegC.gY rfl rfl rfl ?_)
 (refine Cx.fieldAddr rfl rfl ?_)
 (refine SegC.gY rfl rfl rfl ?_)
 (refine Cx.load rfl 0 rfl rfl rfl ?_)
 (refine SegC.gY rfl rfl rfl ?_)
 (refine Cx.move rfl rfl ?_)
 (refine SegC.gY rfl rfl rfl ?_)
 (refine Cx.indexEl rfl rfl (by assumption) rfl rfl ?_)
 (refine SegC.gY rfl rfl rfl ?_)
 (refine Cx.loadPP rfl rfl ?_)
 (refine SegC.gY rfl rfl rfl ?_)
 (refine Cx.lenS rfl rfl ?_)
 (refine SegC.gY rfl rfl rfl ?_)
 (refine Cx.gtrI rfl rfl rfl ?_)
 (refine Cx.pickF rfl (by first | rfl | assumption | (exact decide_eq_true (by first | assumption | omega | rfl)) | (exact decide_eq_false (by first | assumption | omega | rfl)) | (simp; done) | (simp; omega)) rfl rfl ?_)
 (refine Cx.move rfl rfl ?_)
 (refine SegC.gY rfl rfl rfl ?_)
 (refine Cx.move rfl rfl ?_)
 (refine SegC.gY rfl rfl rfl ?_)
 (refine Cx.gtrI rfl rfl rfl ?_)
 (refine SegC.gY rfl rfl rfl ?_)
 (refine Cx.move rfl rfl ?_)
 (refine SegC.gY rfl rfl rfl ?_)
 (refine Cx.fieldAddr rfl rfl ?_)
 (refine SegC.gY rfl rfl rfl ?_)
 (refine Cx.load rfl 0 rfl rfl rfl ?_)
 (refine SegC.gY rfl rfl rfl ?_)
 (refine Cx.move rfl rfl ?_)
 (refine SegC.gY rfl rfl rfl ?_)
 (refine Cx.indexEl rfl rfl (by assumption) rfl rfl ?_)
 (refine SegC.gY rfl rfl rfl ?_)
 (refine Cx.loadPP rfl rfl ?_)
 (refine SegC.gY rfl rfl rfl ?_)
 (refine Cx.fieldAddr rfl rfl ?_)
 (refine SegC.gY rfl rfl rfl ?_)
 (refine Cx.load rfl 0 rfl rfl rfl ?_)
 (refine SegC.gY rfl rfl rfl ?_)
 (refine Cx.move rfl rfl ?_)
 (refine SegC.gY rfl rfl rfl ?_)
 (refine Cx.sub64 rfl rfl (by omega) rfl ?_)
 (refine SegC.gY rfl rfl rfl ?_)
 (refine Cx.indexEl (j := i - 1) rfl (by rw [← hsub]; rfl) hl1 rfl rfl ?_)
 (refine SegC.gY rfl rfl rfl ?_)
 (refine Cx.loadPP rfl rfl ?_)
 (refine SegC.gY rfl rfl rfl ?_)
 (refine Cx.leqS rfl rfl rfl ?_)
 (refine SegC.gY rfl rfl rfl ?_)
 (refine Cx.pickT rfl (by first | rfl | assumption | (exact decide_eq_true (by first | assumption | omega | rfl)) | (exact decide_eq_false (by first | assumption | omega | rfl)) | (simp; done) | (simp; omega)) rfl rfl ?_)
 (refine Cx.pickF rfl (by first | rfl | assumption | (exact decide_eq_true (by first | assumption | omega | rfl)) | (exact decide_eq_false (by first | assumption | omega | rfl)) | (simp; done) | (simp; omega)) rfl rfl ?_)
 (refine SegC.nil ?_)
 (refine N.seq ?_)
 (refine id ?_; rotate_left))
            refine W.cond rfl (fun hb2 => ?_) (fun hb2 => ?_)
            · have hf : fineCt c = false := by
                rw [hs, okN, hla, leB, hb2]; simp
              rw [hf]
              focus (
 (refine W.seq (W.region (Jx.assign rfl rfl (J.nil (N.seq (W.ret (N.noGotoRet (N.noGotoRet (N.noGotoRet (N.noGotoRet (N.noGotoRet ?_)))))))))))
 (refine id ?_; rotate_left))
              exact N.retD (rs := [.tmp 2]) (L1 := []) rfl (.tmp rfl .nil) (List.nil_sublist _) ⟨rfl, rfl⟩
            · focus (
 (refine W.skip (N.seq (W.region (Jx.move rfl rfl (Jx.add64 rfl rfl (by omega) rfl ?_)))))
 (refine Jx.assign rfl rfl (J.nil ?_))
 (refine id ?_; rotate_left))
              refine N.round (i + 1) ⟨h1, ?_⟩ (by omega) rfl ⟨ref0 rfl, ref0 rfl, trivial⟩
              have : okN (lastS c.signers i) (c.signers.getD i []) = true := by
                rw [hla, okN, leB, hb2]
                simp only [Bool.not_false, Bool.true_and, decide_eq_true_eq]
                omega
              rw [hs, this, hns, Bool.true_and]
    · have hil : i = c.signers.length := by omega
      subst hil
      rw [List.drop_length] at hs
      rw [hs]
      focus (
 (refine W.seq (W.seq (W.region (Jx.move rfl rfl (Jx.fieldAddr rfl rfl ?_)))))
 (refine Jx.load rfl 0 rfl rfl rfl ?_)
 (refine Jx.lenSl rfl rfl ?_)
 (refine Jx.lssI rfl rfl rfl (J.nil (N.seq (W.cF rfl ?_))))
 (refine W.exit (N.seq (W.seq (W.region (Jx.assign rfl rfl (J.nil (N.seq (W.ret ?_))))))))
 (refine id ?_; rotate_left))
      exact N.retD (rs := [.tmp 2]) (L1 := []) rfl (.tmp rfl .nil) (List.nil_sublist _) ⟨rfl, rfl⟩
theorem cencode_ok (c : Ct) : FnC Tryz.prog 34 [.agg (ctC c)] [] (fun v L => v = .tup [str (encO fineCt encCt c), int (codeB (fineCt c) 3)] ∧ L = []) := by
  have c0 := cmay_ok c
  refine FnC.intro Tryz.func34 rfl Tryz.ntmps34 rfl fun Z w0 hG => ?_
  unfold encO
  cases hf : fineCt c with
  | false =>
    rw [hf] at c0
    focus (
 (refine W.seq (W.region ?_))
 (refine J.boxAg rfl rfl ?_; intro b')
 (refine Jx.assign rfl rfl (Jx.assign rfl rfl (J.nil (N.seq (W.seq (W.seq (W.region (Jx.loadAll rfl 0 rfl rfl rfl ?_))))))))
 (refine J.call (c0) rfl (evs_args rfl) rfl ?_; rintro _ _ ⟨rfl, rfl⟩; simp only [la1, la2, la3])
 (refine Jx.not rfl rfl (J.nil (N.seq (W.cT rfl ?_))))
 (refine W.seq (W.region (Jx.assign rfl rfl (Jx.assign rfl rfl (J.nil (N.seq (W.ret (N.noGotoRet ?_))))))))
 (refine id ?_; rotate_left))
    exact N.retD (rs := [.tmp 2, .tmp 3]) (L1 := []) rfl (.tmp rfl (.tmp rfl .nil)) (List.nil_sublist _) ⟨rfl, rfl⟩
  | true =>
    rw [hf] at c0
    obtain ⟨h1, h2, h3⟩ := fineCt_spec hf
    have c1 := list_ok c.signers (by omega) (fun s hs => by have := h3 s hs; omega)
    have hlb := listB_len' (l := c.signers) (k := 6) (n := 7) h2 (by decide) h3 (by decide)
    focus (
 (refine W.seq (W.region ?_))
 (refine J.boxAg rfl rfl ?_; intro b')
 (refine Jx.assign rfl rfl (Jx.assign rfl rfl (J.nil (N.seq (W.seq (W.seq (W.region (Jx.loadAll rfl 0 rfl rfl rfl ?_))))))))
 (refine J.call (c0) rfl (evs_args rfl) rfl ?_; rintro _ _ ⟨rfl, rfl⟩; simp only [la1, la2, la3])
 (refine Jx.not rfl rfl (J.nil (N.seq (W.cF rfl ?_))))
 (refine W.skip (N.seq (W.seq ?_)))
 (refine W.draw follows ?_)
 (refine JD.calm rfl (by decide +kernel) ?_)
 (refine Cx.fieldAddr rfl rfl ?_)
 (refine Cx.load rfl 0 rfl rfl rfl ?_)
 (refine Cx.fieldAddr rfl rfl ?_)
 (refine Cx.load rfl 0 rfl rfl rfl ?_)
 (refine SegC.q (Qs.call (Lc := []) (c1) (fun s L' h => h) (List.Perm.refl _) (evs_args rfl)) rfl ?_)
 (refine Cx.cat rfl rfl (by first | omega | (simp only [List.length_append, List.length_cons, List.length_nil]; omega)) rfl ?_)
 (refine Cx.assign rfl rfl ?_)
 (refine Cx.assign rfl rfl ?_)
 (refine SegC.nil ?_)
 (refine N.seq (W.ret ?_))
 (refine id ?_; rotate_left))
    exact N.retD (rs := [.tmp 2, .tmp 3]) (L1 := []) rfl (.tmp rfl (.tmp rfl .nil)) (List.nil_sublist _) ⟨rfl, rfl⟩
theorem rcencode_ok (c : Ct) : FnC Tryz.prog 80 [.agg (ctC c)] [] (fun v L => v = .tup [str (encO fineCt encCt c), int (codeB (fineCt c) 3)] ∧ L = []) := by
  have c0 := rmay_ok c
  refine FnC.intro Tryz.func80 rfl Tryz.ntmps80 rfl fun Z w0 hG => ?_
  unfold encO
  cases hf : fineCt c with
  | false =>
    rw [hf] at c0
    focus (
 (refine W.seq (W.region ?_))
 (refine J.boxAg rfl rfl ?_; intro b')
 (refine Jx.assign rfl rfl (Jx.assign rfl rfl (J.nil (N.seq (W.seq (W.seq (W.region (Jx.loadAll rfl 0 rfl rfl rfl ?_))))))))
 (refine J.call (c0) rfl (evs_args rfl) rfl ?_; rintro _ _ ⟨rfl, rfl⟩; simp only [la1, la2, la3])
 (refine Jx.not rfl rfl (J.nil (N.seq (W.cT rfl ?_))))
 (refine W.seq (W.region (Jx.assign rfl rfl (Jx.assign rfl rfl (J.nil (N.seq (W.ret (N.noGotoRet ?_))))))))
 (refine id ?_; rotate_left))
    exact N.retD (rs := [.tmp 2, .tmp 3]) (L1 := []) rfl (.tmp rfl (.tmp rfl .nil)) (List.nil_sublist _) ⟨rfl, rfl⟩
  | true =>
    rw [hf] at c0
    obtain ⟨h1, h2, h3⟩ := fineCt_spec hf
    have c1 := rlist_ok c.signers (by omega) (fun s hs => by have := h3 s hs; omega)
    have hlb := listB_len' (l := c.signers) (k := 6) (n := 7) h2 (by decide) h3 (by decide)
    focus (
 (refine W.seq (W.region ?_))
 (refine J.boxAg rfl rfl ?_; intro b')
 (refine Jx.assign rfl rfl (Jx.assign rfl rfl (J.nil (N.seq (W.seq (W.seq (W.region (Jx.loadAll rfl 0 rfl rfl rfl ?_))))))))
 (refine J.call (c0) rfl (evs_args rfl) rfl ?_; rintro _ _ ⟨rfl, rfl⟩; simp only [la1, la2, la3])
 (refine Jx.not rfl rfl (J.nil (N.seq (W.cF rfl ?_))))
 (refine W.skip (N.seq (W.seq ?_)))
 (refine W.draw follows ?_)
 (refine JD.calm rfl (by decide +kernel) ?_)
 (refine Cx.fieldAddr rfl rfl ?_)
 (refine Cx.load rfl 0 rfl rfl rfl ?_)
 (refine Cx.fieldAddr rfl rfl ?_)
 (refine Cx.load rfl 0 rfl rfl rfl ?_)
 (refine SegC.q (Qs.call (Lc := []) (c1) (fun s L' h => h) (List.Perm.refl _) (evs_args rfl)) rfl ?_)
 (refine Cx.cat rfl rfl (by first | omega | (simp only [List.length_append, List.length_cons, List.length_nil]; omega)) rfl ?_)
 (refine Cx.assign rfl rfl ?_)
 (refine Cx.assign rfl rfl ?_)
 (refine SegC.nil ?_)
 (refine N.seq (W.ret ?_))
 (refine id ?_; rotate_left))
    exact N.retD (rs := [.tmp 2, .tmp 3]) (L1 := []) rfl (.tmp rfl (.tmp rfl .nil)) (List.nil_sublist _) ⟨rfl, rfl⟩
theorem cdecode_ok (s : List UInt8) (hs : s.length ≤ 1099511627776) : FnC Tryz.prog 62 [str s] [] (fun v L => (∃ o, DecR fineCt encCt s o ∧ v = .tup [.agg (ctC (o.getD ct0)), int (codeO o 3)]) ∧ L = []) := by
  have c0 := read_ok s
  refine FnC.intro Tryz.func62 rfl Tryz.ntmps62 rfl fun Z w0 hG => ?_
  focus (
 (refine W.seq (W.region ?_))
 (refine J.alloc (by simp only [List.map_cons, List.map_nil]; rfl) rfl rfl ?_; intro b')
 (refine Jx.assign rfl rfl (J.nil (N.seq (W.seq (W.region (Jx.move rfl rfl ?_))))))
 (refine J.call (Lc := []) c0 rfl (evs_args rfl) rfl ?_; rintro _ _ ⟨b, rfl, rfl⟩; simp only [la1, la2, la3])
 (refine Jx.assign rfl rfl (J.nil (N.seq (W.seq (W.region (Jx.move rfl rfl ?_))))))
 (refine J.call1 0 ((rd_Bytes b s 0 0 32 (Nat.zero_le _) hs)) rfl (evs_args rfl) rfl (by rintro _ _ ⟨t, a1, c1, rfl, rfl, ha1, e1⟩; exact ⟨_, rfl⟩) ?_; rintro _ _ ⟨t, a1, c1, rfl, ⟨⟩, ha1, e1⟩; simp only [la4, la5])
 (refine Jx.move rfl rfl ?_)
 (refine J.call1 0 ((rd_List b s a1 c1 7 6 ha1 hs (by decide))) rfl (evs_args rfl) rfl (by rintro _ _ ⟨l, a2, c2, rfl, rfl, ha2, e2⟩; exact ⟨_, rfl⟩) ?_; rintro _ _ ⟨l, a2, c2, rfl, ⟨⟩, ha2, e2⟩; simp only [la4, la5])
 (refine Jx.buildB rfl rfl rfl rfl rfl ?_)
 (refine J.alloc (by simp only [List.map_cons, List.map_nil]; rfl) rfl rfl ?_; intro b')
 (refine J.storeAll rfl rfl rfl 0 rfl rfl rfl ?_)
 (refine J.nil (N.seq (W.seq (W.seq (W.region (Jx.move rfl rfl ?_))))))
 (refine J.call1 1 ((rd_End b s a2 c2 ha2 hs)) rfl (evs_args rfl) rfl (by rintro _ _ ⟨e, a3, c3, rfl, rfl, he⟩; exact ⟨_, rfl⟩) ?_; rintro _ _ ⟨e, a3, c3, rfl, ⟨⟩, he⟩; simp only [la4, la5])
 (refine Jx.neqI rfl rfl rfl (Jx.move rfl rfl ?_))
 (refine' J.guardOr rfl rfl rfl rfl rfl rfl rfl rfl (fun _ => ?_) ?_; rotate_left)
 (refine J.gY rfl rfl rfl ?_)
 (refine Jx.loadAll rfl 0 rfl rfl rfl ?_)
 (refine J.gY rfl rfl rfl ?_)
 (refine J.cP (cmay_ok ⟨t, l⟩) (evs_args rfl) rfl ?_; try simp only)
 (refine J.gY rfl rfl rfl ?_)
 (refine Jx.not rfl rfl (J.nil ?_))
 (refine N.joinedN rfl rfl rfl)
 (refine J.nil (N.seq ?_))
 (refine id ?_; rotate_left))
  have hr : ReadC 7 6 s ⟨t, l⟩ (lf s a2 c2) := ⟨_, e1, e2⟩
  refine W.cond rfl (fun hb => ?_) (fun hb => ?_)
  · focus (
 (refine W.seq (W.region (Jx.buildB rfl rfl rfl rfl rfl ?_)))
 (refine J.storeAll rfl rfl rfl 2 rfl rfl rfl ?_)
 (refine Jx.assign rfl rfl (J.nil (N.seq (W.ret (N.noGotoRet ?_)))))
 (refine id ?_; rotate_left))
    refine N.objSub 2 (ctC ct0) rfl ctz_sub rfl ?_
    refine N.retD (rs := [.cell 2 tCt, .tmp 3]) (L1 := []) rfl (.cell rfl 2 rfl agCt (.tmp rfl .nil)) (List.nil_sublist _) ⟨⟨none, fun y hy hz => ?_, rfl⟩, rfl⟩
    obtain ⟨rfl, h2⟩ := hr.whole (by decide) (by decide) hy hz
    rw [he.2 h2, hy] at hb
    simp at hb
  · focus (
 (refine W.skip (N.seq (W.seq (W.region (Jx.loadAll rfl 0 rfl rfl rfl ?_)))))
 (refine J.storeAll rfl rfl rfl 2 rfl rfl rfl ?_)
 (refine Jx.assign rfl rfl (J.nil (N.seq (W.ret ?_))))
 (refine id ?_; rotate_left))
    refine N.retD (rs := [.cell 2 tCt, .tmp 3]) (L1 := []) rfl (.cell rfl 2 rfl agCt (.tmp rfl .nil)) (List.nil_sublist _) ⟨⟨some ⟨t, l⟩, ?_, rfl⟩, rfl⟩
    simp only [Bool.or_eq_false_iff, decide_eq_false_iff_not, Bool.not_eq_false'] at hb
    rw [he.1 (by omega)] at hr
    exact ⟨hb.2, hr.sound⟩
theorem rcdecode_ok (s : List UInt8) (hs : s.length ≤ 1099511627776) : FnC Tryz.prog 48 [str s] [] (fun v L => (∃ o, DecR fineCt encCt s o ∧ v = .tup [.agg (ctC (o.getD ct0)), int (codeO o 3)]) ∧ L = []) := by
  refine FnC.intro Tryz.func48 rfl Tryz.ntmps48 rfl fun Z w0 hG => ?_
  by_cases h32 : (s.length : Int) < 32
  · focus (
 (refine W.seq (W.region ?_))
 (refine J.alloc (by simp only [List.map_cons, List.map_nil]; rfl) rfl rfl ?_; intro b')
 (refine Jx.assign rfl rfl (J.nil (N.seq (W.seq (W.seq (W.region (Jx.move rfl rfl (Jx.lenS rfl rfl ?_))))))))
 (refine Jx.lssI rfl rfl rfl (J.nil (N.seq (W.cT rfl ?_))))
 (refine W.seq (W.region (Jx.buildB rfl rfl rfl rfl rfl ?_)))
 (refine J.storeAll rfl rfl rfl 0 rfl rfl rfl ?_)
 (refine Jx.assign rfl rfl (J.nil (N.seq (W.ret (N.noGotoRet ?_)))))
 (refine id ?_; rotate_left))
    refine N.objSub 0 (ctC ct0) rfl ctz_sub rfl ?_
    refine N.retD (rs := [.cell 2 tCt, .tmp 3]) (L1 := []) rfl (.cell rfl 0 rfl agCt (.tmp rfl .nil)) (List.nil_sublist _) ⟨⟨none, fun y hy hz => ?_, rfl⟩, rfl⟩
    have := (fineCt_spec hy).1
    rw [← hz] at h32
    simp only [encCt, List.length_append] at h32
    omega
  · have h32' : (32 : Int) ≤ (s.length : Int) := by omega
    have e1 : bytesP 32 (some s) = (s.take 32, rf (s.drop 32) 0) := by
      have h : 32 ≤ s.length := by omega
      simp only [bytesP, if_pos h]; rfl
    have hsl : (s.drop 32).length ≤ 1099511627776 := by rw [List.length_drop]; omega
    have hd : s.drop (Int.toNat 32) = s.drop 32 := rfl
    have ht : s.take (Int.toNat 32) = s.take 32 := rfl
    generalize s.take 32 = t at *
    generalize s.drop 32 = s1 at *
    have c1 := fun b => r_List b s1 0 7 6 hsl (by decide)
    focus (
 (refine W.seq (W.region ?_))
 (refine J.alloc (by simp only [List.map_cons, List.map_nil]; rfl) rfl rfl ?_; intro b')
 (refine Jx.assign rfl rfl (J.nil (N.seq (W.seq (W.seq (W.region (Jx.move rfl rfl (Jx.lenS rfl rfl ?_))))))))
 (refine Jx.lssI rfl rfl rfl (J.nil (N.seq (W.cF rfl ?_))))
 (refine W.skip (N.seq (W.seq (W.region (Jx.move rfl rfl ?_)))))
 (refine Jx.sliceSl rfl rfl (by decide) h32' rfl ?_; rw [hd])
 (refine Jx.buildB rfl rfl rfl rfl rfl ?_)
 (refine J.boxAg rfl rfl ?_; intro b')
 (refine Jx.assign rfl rfl (J.nil (N.seq (W.seq (W.region (Jx.move rfl rfl ?_))))))
 (refine J.call1 0 ((c1 _)) rfl (evs_args rfl) rfl (by rintro _ _ ⟨l, s2, c2, rfl, rfl, hs2, e2⟩; exact ⟨_, rfl⟩) ?_; rintro _ _ ⟨l, s2, c2, rfl, ⟨⟩, hs2, e2⟩; simp only [la4, la5])
 (refine Jx.assign rfl rfl (J.nil (N.seq (W.seq (W.region (Jx.move rfl rfl ?_))))))
 (refine Jx.sliceSh rfl rfl (by decide) h32' rfl ?_; rw [ht])
 (refine Jx.move rfl rfl (Jx.buildB rfl rfl rfl rfl rfl ?_))
 (refine J.alloc (by simp only [List.map_cons, List.map_nil]; rfl) rfl rfl ?_; intro b')
 (refine J.storeAll rfl rfl rfl 0 rfl rfl rfl ?_)
 (refine J.nil (N.seq (W.seq (W.seq (W.region (Jx.move rfl rfl ?_))))))
 (refine J.call1 1 ((r_End _ s2 c2)) rfl (evs_args rfl) rfl (by rintro _ _ ⟨e, s3, c3, rfl, rfl, he⟩; exact ⟨_, rfl⟩) ?_; rintro _ _ ⟨e, s3, c3, rfl, ⟨⟩, he⟩; simp only [la4, la5])
 (refine Jx.neqI rfl rfl rfl (Jx.move rfl rfl ?_))
 (refine' J.guardOr rfl rfl rfl rfl rfl rfl rfl rfl (fun _ => ?_) ?_; rotate_left)
 (refine J.gY rfl rfl rfl ?_)
 (refine Jx.loadAll rfl 0 rfl rfl rfl ?_)
 (refine J.gY rfl rfl rfl ?_)
 (refine J.cP (rmay_ok ⟨t, l⟩) (evs_args rfl) rfl ?_; try simp only)
 (refine J.gY rfl rfl rfl ?_)
 (refine Jx.not rfl rfl (J.nil ?_))
 (refine N.joinedN rfl rfl rfl)
 (refine J.nil (N.seq ?_))
 (refine id ?_; rotate_left))
    have hr : ReadC 7 6 s ⟨t, l⟩ (rf s2 c2) := ⟨_, e1, e2⟩
    refine W.cond rfl (fun hb => ?_) (fun hb => ?_)
    · focus (
 (refine W.seq (W.region (Jx.buildB rfl rfl rfl rfl rfl ?_)))
 (refine J.storeAll rfl rfl rfl 2 rfl rfl rfl ?_)
 (refine Jx.assign rfl rfl (J.nil (N.seq (W.ret (N.noGotoRet ?_)))))
 (refine id ?_; rotate_left))
      refine N.objSub 2 (ctC ct0) rfl ctz_sub rfl ?_
      refine N.retD (rs := [.cell 2 tCt, .tmp 3]) (L1 := []) rfl (.cell rfl 2 rfl agCt (.tmp rfl .nil)) (List.nil_sublist _) ⟨⟨none, fun y hy hz => ?_, rfl⟩, rfl⟩
      obtain ⟨rfl, h2⟩ := hr.whole (by decide) (by decide) hy hz
      rw [he.2 h2, hy] at hb
      simp at hb
    · focus (
 (refine W.skip (N.seq (W.seq (W.region (Jx.loadAll rfl 0 rfl rfl rfl ?_)))))
 (refine J.storeAll rfl rfl rfl 2 rfl rfl rfl ?_)
 (refine Jx.assign rfl rfl (J.nil (N.seq (W.ret ?_))))
 (refine id ?_; rotate_left))
      refine N.retD (rs := [.cell 2 tCt, .tmp 3]) (L1 := []) rfl (.cell rfl 2 rfl agCt (.tmp rfl .nil)) (List.nil_sublist _) ⟨⟨some ⟨t, l⟩, ?_, rfl⟩, rfl⟩
      simp only [Bool.or_eq_false_iff, decide_eq_false_iff_not, Bool.not_eq_false'] at hb
      rw [he.1 (by omega)] at hr
      exact ⟨hb.2, hr.sound⟩
theorem sameC_ok (x y : Ct) (hb : x.signers.length ≤ 1048576) : FnC Tryz.prog 52 [.agg (ctC x), .agg (ctC y)] [] (fun v L => v = bool (decide (x = y)) ∧ L = []) := by
  have c := same_ok x.signers y.signers hb
  refine FnC.intro Tryz.func52 rfl Tryz.ntmps52 rfl fun Z w0 hG => ?_
  focus (
 (refine W.seq (W.region ?_))
 (refine J.boxAg rfl rfl ?_; intro b')
 (refine J.boxAg rfl rfl ?_; intro b')
 (refine Jx.assign rfl rfl (J.nil (N.seq (W.seq (W.region (Jx.fieldAddr rfl rfl ?_))))))
 (refine Jx.load rfl 1 rfl rfl rfl ?_)
 (refine Jx.fieldAddr rfl rfl ?_)
 (refine Jx.load rfl 0 rfl rfl rfl ?_)
 (refine Jx.eqlS rfl rfl rfl (Jx.move rfl rfl ?_))
 (refine' J.guardAnd rfl rfl rfl rfl rfl rfl rfl rfl (fun _ => ?_) ?_; rotate_left)
 (refine J.gY rfl rfl rfl ?_)
 (refine Jx.fieldAddr rfl rfl ?_)
 (refine J.gY rfl rfl rfl ?_)
 (refine Jx.load rfl 1 rfl rfl rfl ?_)
 (refine J.gY rfl rfl rfl ?_)
 (refine Jx.fieldAddr rfl rfl ?_)
 (refine J.gY rfl rfl rfl ?_)
 (refine Jx.load rfl 0 rfl rfl rfl ?_)
 (refine J.gY rfl rfl rfl ?_)
 (refine J.call (c) rfl (evs_args rfl) rfl ?_; rintro _ _ ⟨rfl, rfl⟩; simp only [la1, la2, la3])
 (refine J.nil ?_)
 (refine N.joinedN rfl rfl rfl)
 (refine Jx.assign rfl rfl (J.nil (N.seq (W.ret ?_))))
 (refine id ?_; rotate_left))
  refine N.retD (rs := [.tmp 4]) (L1 := []) rfl (.tmp rfl .nil) (List.nil_sublist _) ⟨congrArg Sse.bool ?_, rfl⟩
  rw [Bool.eq_iff_iff]
  simp only [Bool.and_eq_true, decide_eq_true_eq]
  exact ⟨fun h => Ct.ext' h.1 h.2, fun h => by subst h; exact ⟨rfl, rfl⟩⟩
theorem bbare_ok (c : Ct) : FnC Tryz.prog 32 [.agg (ctC c)] [] (fun v L => v = bool (bareCt c) ∧ L = []) := by
  refine FnC.intro Tryz.func32 rfl Tryz.ntmps32 rfl fun Z w0 hG => ?_
  focus (
 (refine W.seq (W.region ?_))
 (refine J.boxAg rfl rfl ?_; intro b')
 (refine Jx.assign rfl rfl (J.nil (N.seq (W.seq (W.region (Jx.fieldAddr rfl rfl ?_))))))
 (refine Jx.load rfl 0 rfl rfl rfl ?_)
 (refine Jx.eqlS rfl rfl rfl (Jx.move rfl rfl ?_))
 (refine' J.guardAnd rfl rfl rfl rfl rfl rfl rfl rfl (fun _ => ?_) ?_; rotate_left)
 (refine J.gY rfl rfl rfl ?_)
 (refine Jx.fieldAddr rfl rfl ?_)
 (refine J.gY rfl rfl rfl ?_)
 (refine Jx.load rfl 0 rfl rfl rfl ?_)
 (refine J.gY rfl rfl rfl ?_)
 (refine Jx.lenSl rfl rfl ?_)
 (refine J.gY rfl rfl rfl ?_)
 (refine Jx.eqlI rfl rfl rfl (J.nil ?_))
 (refine N.joinedN rfl rfl rfl)
 (refine Jx.assign rfl rfl (J.nil (N.seq (W.ret ?_))))
 (refine id ?_; rotate_left))
  exact N.retD (rs := [.tmp 2]) (L1 := []) rfl (.tmp rfl .nil) (List.nil_sublist _) ⟨rfl, rfl⟩
theorem rbare_ok (c : Ct) : FnC Tryz.prog 74 [.agg (ctC c)] [] (fun v L => v = bool (bareCt c) ∧ L = []) := by
  refine FnC.intro Tryz.func74 rfl Tryz.ntmps74 rfl fun Z w0 hG => ?_
  focus (
 (refine W.seq (W.region ?_))
 (refine J.boxAg rfl rfl ?_; intro b')
 (refine Jx.assign rfl rfl (J.nil (N.seq (W.seq (W.region (Jx.fieldAddr rfl rfl ?_))))))
 (refine Jx.load rfl 0 rfl rfl rfl ?_)
 (refine Jx.eqlS rfl rfl rfl (Jx.move rfl rfl ?_))
 (refine' J.guardAnd rfl rfl rfl rfl rfl rfl rfl rfl (fun _ => ?_) ?_; rotate_left)
 (refine J.gY rfl rfl rfl ?_)
 (refine Jx.fieldAddr rfl rfl ?_)
 (refine J.gY rfl rfl rfl ?_)
 (refine Jx.load rfl 0 rfl rfl rfl ?_)
 (refine J.gY rfl rfl rfl ?_)
 (refine Jx.lenSl rfl rfl ?_)
 (refine J.gY rfl rfl rfl ?_)
 (refine Jx.eqlI rfl rfl rfl (J.nil ?_))
 (refine N.joinedN rfl rfl rfl)
 (refine Jx.assign rfl rfl (J.nil (N.seq (W.ret ?_))))
 (refine id ?_; rotate_left))
  exact N.retD (rs := [.tmp 2]) (L1 := []) rfl (.tmp rfl .nil) (List.nil_sublist _) ⟨rfl, rfl⟩
end Go.Proofs.YtlfdhkahiaammaaGreatDoor
namespace Go.Proofs.YtlfdhkahiaammaaGreatDoor
open Go Go.Sse
set_option linter.unusedVariables false
set_option linter.unusedSimpArgs false
set_option maxRecDepth 10000
abbrev tHd : Nat := 24
abbrev fnV (f : Nat) : SV := .val (.func (.func f) #[] #[])
theorem hin_ok (n m : Int) : FnC Tryz.prog 129 [int n, int m] [] (fun v L => v = bool (decide (0 ≤ n) && decide (n ≤ m)) ∧ L = []) := by
  refine FnC.intro Tryz.func129 rfl Tryz.ntmps129 rfl fun Z w0 hG => ?_
  focus (
 (refine W.seq (W.region (Jx.assign rfl rfl (J.nil (N.seq (W.seq (W.region (Jx.move rfl rfl (Jx.geqI rfl rfl rfl (Jx.move rfl rfl ?_))))))))))
 (refine' J.guardAnd rfl rfl rfl rfl rfl rfl rfl rfl (fun _ => ?_) ?_; rotate_left)
 (refine J.gY rfl rfl rfl ?_)
 (refine Jx.move rfl rfl (J.gY rfl rfl rfl ?_))
 (refine Jx.move rfl rfl (J.gY rfl rfl rfl ?_))
 (refine Jx.leqI rfl rfl rfl (J.nil ?_))
 (refine N.joinedN rfl rfl rfl)
 (refine Jx.assign rfl rfl (J.nil (N.seq (W.ret ?_))))
 (refine id ?_; rotate_left))
  exact N.ret (rs := [.tmp 4]) rfl (.tmp rfl .nil) ⟨rfl, rfl⟩
theorem hsum_ok (s : List UInt8) : FnC Tryz.prog 130 [str s] [] (fun v L => v = bool (sumB s) ∧ L = []) := by
  refine FnC.intro Tryz.func130 rfl Tryz.ntmps130 rfl fun Z w0 hG => ?_
  focus (
 (refine W.seq (W.region (Jx.assign rfl rfl (J.nil (N.seq (W.seq (W.region (Jx.move rfl rfl (Jx.lenS rfl rfl ?_)))))))))
 (refine Jx.eqlI rfl rfl rfl (Jx.assign rfl rfl (J.nil (N.seq (W.ret ?_)))))
 (refine id ?_; rotate_left))
  exact N.ret (rs := [.tmp 2]) rfl (.tmp rfl .nil) ⟨rfl, rfl⟩
theorem hodd_ok (s : List UInt8) : FnC Tryz.prog 131 [str s] [] (fun v L => v = bool (!sumB s) ∧ L = []) := by
  have c := hsum_ok s
  refine FnC.intro Tryz.func131 rfl Tryz.ntmps131 rfl fun Z w0 hG => ?_
  focus (
 (refine W.seq (W.region (Jx.assign rfl rfl (J.nil (N.seq (W.seq (W.region (Jx.move rfl rfl ?_))))))))
 (refine J.call (c) rfl (evs_args rfl) rfl ?_; rintro _ _ ⟨rfl, rfl⟩; simp only [la1, la2, la3])
 (refine Jx.not rfl rfl (Jx.assign rfl rfl (J.nil (N.seq (W.ret ?_)))))
 (refine id ?_; rotate_left))
  exact N.ret (rs := [.tmp 2]) rfl (.tmp rfl .nil) ⟨rfl, rfl⟩
theorem hmaybe_ok (s : List UInt8) : FnC Tryz.prog 133 [str s] [] (fun v L => v = bool (maybeB s) ∧ L = []) := by
  have c := hsum_ok s
  refine FnC.intro Tryz.func133 rfl Tryz.ntmps133 rfl fun Z w0 hG => ?_
  focus (
 (refine W.seq (W.region (Jx.assign rfl rfl (J.nil (N.seq (W.seq (W.region (Jx.move rfl rfl (Jx.eqlS rfl rfl rfl (Jx.move rfl rfl ?_))))))))))
 (refine' J.guardOr rfl rfl rfl rfl rfl rfl rfl rfl (fun _ => ?_) ?_; rotate_left)
 (refine J.gY rfl rfl rfl ?_)
 (refine Jx.move rfl rfl (J.gY rfl rfl rfl ?_))
 (refine J.call (c) rfl (evs_args rfl) rfl ?_; rintro _ _ ⟨rfl, rfl⟩; simp only [la1, la2, la3])
 (refine J.nil ?_)
 (refine N.joinedN rfl rfl rfl)
 (refine Jx.assign rfl rfl (J.nil (N.seq (W.ret ?_))))
 (refine id ?_; rotate_left))
  exact N.ret (rs := [.tmp 2]) rfl (.tmp rfl .nil) ⟨rfl, rfl⟩
def idxP (l : List (List UInt8)) (p : List UInt8 → Bool) : Int := match l.findIdx? p with
  | some i => (i : Int)
  | none => -1
theorem indexF_ok (l : List (List UInt8)) (hl : l.length ≤ 1048576) : FnC Tryz.prog 148 [ssl l, fnV 131] [] (fun v L => v = int (idxP l fun s => !sumB s) ∧ L = []) := by
  have c := fun i => hodd_ok (l.getD i [])
  refine FnC.intro Tryz.func148 rfl Tryz.ntmps148 rfl fun Z w0 hG => ?_
  focus (
 (refine W.seq (W.region (Jx.assign rfl rfl (J.nil (N.seq (W.seq (W.seq (W.region (Jx.move rfl rfl (Jx.lenSl rfl rfl ?_))))))))))
 (refine Jx.move rfl rfl (J.nil (N.seq (W.block ?_))))
 (refine id ?_; rotate_left))
  refine W.loop (α := Nat) (fun i => [(8, int (i : Int)), (7, int l.length), (1, fnV 131), (0, ssl l)]) (fun _ => []) (fun i => i ≤ l.length ∧ ∀ y ∈ l.take i, (!sumB y) = false) (fun i => l.length - i) 0 (by simp) rfl ⟨ref0 rfl, ref0 rfl, ref0 rfl, ref0 rfl, trivial⟩ ?_
  rintro i ⟨hi, hn⟩
  by_cases h1 : i < l.length
  · have ci := c i
    cases h2 : (!sumB (l.getD i [])) with
    | true =>
      rw [h2] at ci
      have := findIdx_take (p := fun s => !sumB s) hn h1 [] h2
      focus (
 (refine W.seq (W.region (Jx.lssI rfl rfl rfl (J.nil (N.seq (W.seq (W.cT rfl ?_)))))))
 (refine W.skip (N.seq (W.seq (W.block (W.seq (W.region (Jx.move rfl rfl (Jx.assign rfl rfl (J.nil (N.seq (W.seq (W.region (Jx.move rfl rfl (Jx.move rfl rfl ?_))))))))))))))
 (refine Jx.move rfl rfl (Jx.indexEl rfl rfl (by assumption) rfl rfl ?_))
 (refine Jx.loadPP rfl rfl ?_)
 (refine J.callV (us := []) (vs := []) (args := [str (l.getD i [])]) (Lc := []) rfl ci rfl (evs_args rfl) rfl ?_; rintro _ _ ⟨rfl, rfl⟩; simp only [la1, la2, la3])
 (refine J.nil (N.seq (W.cT rfl ?_)))
 (refine W.seq (W.region (Jx.move rfl rfl (Jx.assign rfl rfl (J.nil (N.seq (W.ret (N.noGotoRet (N.noGotoRet (N.noGotoRet (N.noGotoRet (N.noGotoRet ?_))))))))))))
 (refine id ?_; rotate_left))
      exact N.ret (rs := [.tmp 4]) rfl (.tmp rfl .nil) ⟨by rw [idxP, this]; rfl, rfl⟩
    | false =>
      rw [h2] at ci
      focus (
 (refine W.seq (W.region (Jx.lssI rfl rfl rfl (J.nil (N.seq (W.seq (W.cT rfl ?_)))))))
 (refine W.skip (N.seq (W.seq (W.block (W.seq (W.region (Jx.move rfl rfl (Jx.assign rfl rfl (J.nil (N.seq (W.seq (W.region (Jx.move rfl rfl (Jx.move rfl rfl ?_))))))))))))))
 (refine Jx.move rfl rfl (Jx.indexEl rfl rfl (by assumption) rfl rfl ?_))
 (refine Jx.loadPP rfl rfl ?_)
 (refine J.callV (us := []) (vs := []) (args := [str (l.getD i [])]) (Lc := []) rfl ci rfl (evs_args rfl) rfl ?_; rintro _ _ ⟨rfl, rfl⟩; simp only [la1, la2, la3])
 (refine J.nil (N.seq (W.cF rfl ?_)))
 (refine W.skip (N.seq (W.region (Jx.add64 rfl rfl (by omega) rfl ?_))))
 (refine Jx.move rfl rfl (J.nil ?_))
 (refine id ?_; rotate_left))
      refine N.round (i + 1) ⟨h1, fun y hy => ?_⟩ (by omega) rfl ⟨ref0 rfl, ref0 rfl, ref0 rfl, ref0 rfl, trivial⟩
      rw [List.take_add_one, List.getElem?_eq_getElem h1] at hy
      rcases List.mem_append.1 hy with hy | hy
      · exact hn y hy
      · simp only [Option.toList_some, List.mem_singleton] at hy
        subst hy
        rw [List.getD_eq_getElem?_getD, List.getElem?_eq_getElem h1] at h2
        exact h2
  · have : l.findIdx? (fun s => !sumB s) = none := List.findIdx?_eq_none_iff.2 fun y hy => hn y (by rw [List.take_of_length_le (by omega)]; exact hy)
    focus (
 (refine W.seq (W.region (Jx.lssI rfl rfl rfl (J.nil (N.seq (W.seq (W.cF rfl ?_)))))))
 (refine W.exit (N.seq (W.seq (W.region (Jx.assign rfl rfl (J.nil (N.seq (W.ret ?_))))))))
 (refine id ?_; rotate_left))
    exact N.ret (rs := [.tmp 4]) rfl (.tmp rfl .nil) ⟨by rw [idxP, this]; rfl, rfl⟩
theorem idxP_any (l : List (List UInt8)) (p : List UInt8 → Bool) : decide (0 ≤ idxP l p) = l.any p := by
  unfold idxP
  cases h : l.findIdx? p with
  | none =>
    have := List.findIdx?_eq_none_iff.1 h
    have ha : l.any p = false := List.any_eq_false.2 fun x hx => by rw [this x hx]; simp
    rw [ha]; rfl
  | some i =>
    obtain ⟨hi, hp, _⟩ := List.findIdx?_eq_some_iff_getElem.1 h
    have ha : l.any p = true := List.any_eq_true.2 ⟨_, List.getElem_mem hi, hp⟩
    rw [ha]
    exact decide_eq_true (by show (0 : Int) ≤ (i : Int); omega)
theorem contains_ok (l : List (List UInt8)) (hl : l.length ≤ 1048576) : FnC Tryz.prog 132 [ssl l, fnV 131] [] (fun v L => v = bool (l.any fun s => !sumB s) ∧ L = []) := by
  have c := indexF_ok l hl
  have h := idxP_any l fun s => !sumB s
  refine FnC.intro Tryz.func132 rfl Tryz.ntmps132 rfl fun Z w0 hG => ?_
  focus (
 (refine W.seq (W.region (Jx.assign rfl rfl (J.nil (N.seq (W.seq (W.region (Jx.move rfl rfl (Jx.move rfl rfl ?_)))))))))
 (refine J.call (c) rfl (evs_args rfl) rfl ?_; rintro _ _ ⟨rfl, rfl⟩; simp only [la1, la2, la3])
 (refine Jx.geqI rfl rfl rfl (Jx.assign rfl rfl (J.nil (N.seq (W.ret ?_)))))
 (refine id ?_; rotate_left))
  exact N.ret (rs := [.tmp 4]) rfl (.tmp rfl .nil) ⟨congrArg Sse.bool h, rfl⟩
theorem hnumbers_ok (h : Hd) : FnC Tryz.prog 108 [.agg (hdC h)] [] (fun v L => v = bool (numbersH h) ∧ L = []) := by
  have c1 := hin_ok h.height 1048576
  have c2 := hin_ok h.epoch 1048576
  have c3 := hin_ok h.view 1048576
  refine FnC.intro Tryz.func108 rfl Tryz.ntmps108 rfl fun Z w0 hG => ?_
  focus (
 (refine W.seq (W.region ?_))
 (refine J.boxAg rfl rfl ?_; intro b')
 (refine Jx.assign rfl rfl (J.nil (N.seq (W.seq (W.region (Jx.assign rfl rfl (J.nil (N.seq (W.seq (W.region (Jx.move rfl rfl (Jx.fieldAddr rfl rfl ?_))))))))))))
 (refine Jx.load rfl 0 rfl rfl rfl ?_)
 (refine J.callV (us := []) (vs := []) (args := [int h.height, int 1048576]) (Lc := []) rfl c1 rfl (evs_args rfl) rfl ?_; rintro _ _ ⟨rfl, rfl⟩; simp only [la1, la2, la3])
 (refine Jx.move rfl rfl ?_)
 (refine' J.guardAnd rfl rfl rfl rfl rfl rfl rfl rfl (fun _ => ?_) ?_; rotate_left)
 (refine J.gY rfl rfl rfl ?_)
 (refine Jx.move rfl rfl (J.gY rfl rfl rfl ?_))
 (refine Jx.fieldAddr rfl rfl ?_)
 (refine J.gY rfl rfl rfl ?_)
 (refine Jx.load rfl 0 rfl rfl rfl ?_)
 (refine J.gY rfl rfl rfl ?_)
 (refine J.callV (us := []) (vs := []) (args := [int h.epoch, int 1048576]) (Lc := []) rfl c2 rfl (evs_args rfl) rfl ?_; rintro _ _ ⟨rfl, rfl⟩; simp only [la1, la2, la3])
 (refine J.nil ?_)
 (refine N.joinedN rfl rfl rfl)
 (refine Jx.move rfl rfl ?_)
 (refine' J.guardAnd rfl rfl rfl rfl rfl rfl rfl rfl (fun _ => ?_) ?_; rotate_left)
 (refine J.gY rfl rfl rfl ?_)
 (refine Jx.move rfl rfl (J.gY rfl rfl rfl ?_))
 (refine Jx.fieldAddr rfl rfl ?_)
 (refine J.gY rfl rfl rfl ?_)
 (refine Jx.load rfl 0 rfl rfl rfl ?_)
 (refine J.gY rfl rfl rfl ?_)
 (refine J.callV (us := []) (vs := []) (args := [int h.view, int 1048576]) (Lc := []) rfl c3 rfl (evs_args rfl) rfl ?_; rintro _ _ ⟨rfl, rfl⟩; simp only [la1, la2, la3])
 (refine J.nil ?_)
 (refine N.joinedN rfl rfl rfl)
 (refine Jx.assign rfl rfl (J.nil (N.seq (W.ret ?_))))
 (refine id ?_; rotate_left))
  exact N.retD (rs := [.tmp 2]) (L1 := []) rfl (.tmp rfl .nil) (List.nil_sublist _) ⟨rfl, rfl⟩
theorem hfirst_ok (h : Hd) : FnC Tryz.prog 109 [.agg (hdC h)] [] (fun v L => v = bool (firstH h) ∧ L = []) := by
  have c1 := hsum_ok h.parent
  refine FnC.intro Tryz.func109 rfl Tryz.ntmps109 rfl fun Z w0 hG => ?_
  by_cases h0 : 0 < h.height
  · focus (
 (refine W.seq (W.region ?_))
 (refine J.boxAg rfl rfl ?_; intro b')
 (refine Jx.assign rfl rfl (J.nil (N.seq (W.seq (W.seq (W.region (Jx.fieldAddr rfl rfl ?_)))))))
 (refine Jx.load rfl 0 rfl rfl rfl ?_)
 (refine Jx.gtrI rfl rfl rfl (J.nil (N.seq (W.cT rfl ?_))))
 (refine W.seq (W.region (Jx.fieldAddr rfl rfl ?_)))
 (refine Jx.load rfl 0 rfl rfl rfl ?_)
 (refine J.call (c1) rfl (evs_args rfl) rfl ?_; rintro _ _ ⟨rfl, rfl⟩; simp only [la1, la2, la3])
 (refine Jx.assign rfl rfl (J.nil (N.seq (W.ret (N.noGotoRet ?_)))))
 (refine id ?_; rotate_left))
    exact N.retD (rs := [.tmp 2]) (L1 := []) rfl (.tmp rfl .nil) (List.nil_sublist _) ⟨by rw [firstH, if_pos h0]; rfl, rfl⟩
  · focus (
 (refine W.seq (W.region ?_))
 (refine J.boxAg rfl rfl ?_; intro b')
 (refine Jx.assign rfl rfl (J.nil (N.seq (W.seq (W.seq (W.region (Jx.fieldAddr rfl rfl ?_)))))))
 (refine Jx.load rfl 0 rfl rfl rfl ?_)
 (refine Jx.gtrI rfl rfl rfl (J.nil (N.seq (W.cF rfl ?_))))
 (refine W.skip (N.seq (W.seq (W.region (Jx.fieldAddr rfl rfl ?_)))))
 (refine Jx.load rfl 0 rfl rfl rfl ?_)
 (refine Jx.eqlS rfl rfl rfl (Jx.move rfl rfl ?_))
 (refine' J.guardAnd rfl rfl rfl rfl rfl rfl rfl rfl (fun _ => ?_) ?_; rotate_left)
 (refine J.gY rfl rfl rfl ?_)
 (refine Jx.fieldAddr rfl rfl ?_)
 (refine J.gY rfl rfl rfl ?_)
 (refine Jx.load rfl 0 rfl rfl rfl ?_)
 (refine J.gY rfl rfl rfl ?_)
 (refine Jx.eqlI rfl rfl rfl (J.nil ?_))
 (refine N.joinedN rfl rfl rfl)
 (refine Jx.move rfl rfl ?_)
 (refine' J.guardAnd rfl rfl rfl rfl rfl rfl rfl rfl (fun _ => ?_) ?_; rotate_left)
 (refine J.gY rfl rfl rfl ?_)
 (refine Jx.fieldAddr rfl rfl ?_)
 (refine J.gY rfl rfl rfl ?_)
 (refine Jx.load rfl 0 rfl rfl rfl ?_)
 (refine J.gY rfl rfl rfl ?_)
 (refine Jx.eqlI rfl rfl rfl (J.nil ?_))
 (refine N.joinedN rfl rfl rfl)
 (refine Jx.move rfl rfl ?_)
 (refine' J.guardAnd rfl rfl rfl rfl rfl rfl rfl rfl (fun _ => ?_) ?_; rotate_left)
 (refine J.gY rfl rfl rfl ?_)
 (refine Jx.fieldAddr rfl rfl ?_)
 (refine J.gY rfl rfl rfl ?_)
 (refine Jx.load rfl 0 rfl rfl rfl ?_)
 (refine J.nil ?_)
 (refine N.joinedN rfl rfl rfl)
 (refine Jx.assign rfl rfl (J.nil (N.seq (W.ret ?_))))
 (refine id ?_; rotate_left))
    exact N.retD (rs := [.tmp 2]) (L1 := []) rfl (.tmp rfl .nil) (List.nil_sublist _) ⟨by rw [firstH, if_neg h0]; rfl, rfl⟩
set_option maxHeartbeats 2000000 in
theorem hsums_ok (h : Hd) (hl : h.skips.length ≤ 1048576) : FnC Tryz.prog 110 [.agg (hdC h)] [] (fun v L => v = bool (sumsH h) ∧ L = []) := by
  have c1 := hsum_ok h.txs
  have c2 := hsum_ok h.members
  have c3 := hsum_ok h.next
  have c4 := hmaybe_ok h.state
  have c5 := hmaybe_ok h.receipts
  have c6 := links_ok h.height
  have c7 := contains_ok h.skips hl
  refine FnC.intro Tryz.func110 rfl Tryz.ntmps110 rfl fun Z w0 hG => ?_
  by_cases h0 : 0 < h.height
  · by_cases h1 : (h.skips.length : Int) = ((linksI h.height).length : Int)
    · focus (
 (refine W.seq (W.region ?_))
 (refine J.boxAg rfl rfl ?_; intro b')
 (refine Jx.assign rfl rfl (J.nil (N.seq (W.seq (W.region (Jx.assign rfl rfl (J.nil (N.seq (W.seq (W.region (Jx.assign rfl rfl (J.nil (N.seq (W.seq ?_))))))))))))))
 (refine W.block (W.seq (W.block (W.seq (W.block (W.seq (W.seq (W.seq (W.region (Jx.fieldAddr rfl rfl ?_))))))))))
 (refine Jx.load rfl 0 rfl rfl rfl ?_)
 (refine Jx.gtrI rfl rfl rfl (Jx.assign rfl rfl (J.nil (N.seq (W.cT rfl ?_)))))
 (refine W.exit (N.seq ?_))
 (refine W.draw follows ?_)
 (refine JD.calm rfl (by decide +kernel) ?_)
 (refine Cx.fieldAddr rfl rfl ?_)
 (refine Cx.load rfl 0 rfl rfl rfl ?_)
 (refine Cx.lenSl rfl rfl ?_)
 (refine Cx.fieldAddr rfl rfl ?_)
 (refine Cx.load rfl 0 rfl rfl rfl ?_)
 (refine SegC.q (Qs.call (Lc := []) (c6) (fun s L' h => h) (List.Perm.refl _) (evs_args rfl)) rfl ?_)
 (refine Cx.lenSl rfl rfl ?_)
 (refine Cx.eqlI rfl rfl rfl ?_)
 (refine Cx.move rfl rfl ?_)
 (refine SegC.gY rfl rfl rfl ?_)
 (refine Cx.fieldAddr rfl rfl ?_)
 (refine SegC.gY rfl rfl rfl ?_)
 (refine Cx.load rfl 0 rfl rfl rfl ?_)
 (refine SegC.gY rfl rfl rfl ?_)
 (refine Cx.move rfl rfl ?_)
 (refine SegC.gY rfl rfl rfl ?_)
 (refine SegC.q (Qs.call (Lc := []) (c7) (fun s L' h => h) (List.Perm.refl _) (evs_args rfl)) rfl ?_)
 (refine SegC.gY rfl rfl rfl ?_)
 (refine Cx.not rfl rfl ?_)
 (refine Cx.pickT rfl (by first | rfl | assumption | (exact decide_eq_true (by first | assumption | omega | rfl)) | (exact decide_eq_false (by first | assumption | omega | rfl)) | (simp; done) | (simp; omega)) rfl rfl ?_)
 (refine Cx.assign rfl rfl ?_)
 (refine SegC.nil ?_)
 (refine N.seq (W.seq (W.seq (W.region (Jx.move rfl rfl (Jx.move rfl rfl ?_))))))
 (refine' J.guardAnd rfl rfl rfl rfl rfl rfl rfl rfl (fun _ => ?_) ?_; rotate_left)
 (refine J.gY rfl rfl rfl ?_)
 (refine Jx.fieldAddr rfl rfl ?_)
 (refine J.gY rfl rfl rfl ?_)
 (refine Jx.load rfl 0 rfl rfl rfl ?_)
 (refine J.gY rfl rfl rfl ?_)
 (refine J.call (c1) rfl (evs_args rfl) rfl ?_; rintro _ _ ⟨rfl, rfl⟩; simp only [la1, la2, la3])
 (refine J.nil ?_)
 (refine N.joinedN rfl rfl rfl)
 (refine Jx.move rfl rfl ?_)
 (refine' J.guardAnd rfl rfl rfl rfl rfl rfl rfl rfl (fun _ => ?_) ?_; rotate_left)
 (refine J.gY rfl rfl rfl ?_)
 (refine Jx.fieldAddr rfl rfl ?_)
 (refine J.gY rfl rfl rfl ?_)
 (refine Jx.load rfl 0 rfl rfl rfl ?_)
 (refine J.gY rfl rfl rfl ?_)
 (refine J.call (c2) rfl (evs_args rfl) rfl ?_; rintro _ _ ⟨rfl, rfl⟩; simp only [la1, la2, la3])
 (refine J.nil ?_)
 (refine N.joinedN rfl rfl rfl)
 (refine Jx.move rfl rfl ?_)
 (refine' J.guardAnd rfl rfl rfl rfl rfl rfl rfl rfl (fun _ => ?_) ?_; rotate_left)
 (refine J.gY rfl rfl rfl ?_)
 (refine Jx.fieldAddr rfl rfl ?_)
 (refine J.gY rfl rfl rfl ?_)
 (refine Jx.load rfl 0 rfl rfl rfl ?_)
 (refine J.gY rfl rfl rfl ?_)
 (refine J.call (c3) rfl (evs_args rfl) rfl ?_; rintro _ _ ⟨rfl, rfl⟩; simp only [la1, la2, la3])
 (refine J.nil ?_)
 (refine N.joinedN rfl rfl rfl)
 (refine Jx.move rfl rfl ?_)
 (refine' J.guardAnd rfl rfl rfl rfl rfl rfl rfl rfl (fun _ => ?_) ?_; rotate_left)
 (refine J.gY rfl rfl rfl ?_)
 (refine Jx.fieldAddr rfl rfl ?_)
 (refine J.gY rfl rfl rfl ?_)
 (refine Jx.load rfl 0 rfl rfl rfl ?_)
 (refine J.gY rfl rfl rfl ?_)
 (refine J.call (c4) rfl (evs_args rfl) rfl ?_; rintro _ _ ⟨rfl, rfl⟩; simp only [la1, la2, la3])
 (refine J.nil ?_)
 (refine N.joinedN rfl rfl rfl)
 (refine Jx.move rfl rfl ?_)
 (refine' J.guardAnd rfl rfl rfl rfl rfl rfl rfl rfl (fun _ => ?_) ?_; rotate_left)
 (refine J.gY rfl rfl rfl ?_)
 (refine Jx.fieldAddr rfl rfl ?_)
 (refine J.gY rfl rfl rfl ?_)
 (refine Jx.load rfl 0 rfl rfl rfl ?_)
 (refine J.gY rfl rfl rfl ?_)
 (refine J.call (c5) rfl (evs_args rfl) rfl ?_; rintro _ _ ⟨rfl, rfl⟩; simp only [la1, la2, la3])
 (refine J.nil ?_)
 (refine N.joinedN rfl rfl rfl)
 (refine Jx.assign rfl rfl (J.nil (N.seq (W.ret (N.noGotoRet (N.noGotoRet (N.noGotoRet ?_)))))))
 (refine id ?_; rotate_left))
      refine N.retD (rs := [.tmp 2]) (L1 := []) rfl (.tmp rfl .nil) (List.nil_sublist _) ⟨congrArg Sse.bool ?_, rfl⟩
      rw [sumsH, if_pos h0, skipsH, decide_eq_true h1, Bool.true_and]; rfl
    · focus (
 (refine W.seq (W.region ?_))
 (refine J.boxAg rfl rfl ?_; intro b')
 (refine Jx.assign rfl rfl (J.nil (N.seq (W.seq (W.region (Jx.assign rfl rfl (J.nil (N.seq (W.seq (W.region (Jx.assign rfl rfl (J.nil (N.seq (W.seq ?_))))))))))))))
 (refine W.block (W.seq (W.block (W.seq (W.block (W.seq (W.seq (W.seq (W.region (Jx.fieldAddr rfl rfl ?_))))))))))
 (refine Jx.load rfl 0 rfl rfl rfl ?_)
 (refine Jx.gtrI rfl rfl rfl (Jx.assign rfl rfl (J.nil (N.seq (W.cT rfl ?_)))))
 (refine W.exit (N.seq ?_))
 (refine W.draw follows ?_)
 (refine JD.calm rfl (by decide +kernel) ?_)
 (refine Cx.fieldAddr rfl rfl ?_)
 (refine Cx.load rfl 0 rfl rfl rfl ?_)
 (refine Cx.lenSl rfl rfl ?_)
 (refine Cx.fieldAddr rfl rfl ?_)
 (refine Cx.load rfl 0 rfl rfl rfl ?_)
 (refine SegC.q (Qs.call (Lc := []) (c6) (fun s L' h => h) (List.Perm.refl _) (evs_args rfl)) rfl ?_)
 (refine Cx.lenSl rfl rfl ?_)
 (refine Cx.eqlI rfl rfl rfl ?_)
 (refine Cx.move rfl rfl ?_)
 (refine SegC.gN rfl rfl rfl rfl ?_)
 (refine SegC.gN rfl rfl rfl rfl ?_)
 (refine SegC.gN rfl rfl rfl rfl ?_)
 (refine SegC.gN rfl rfl rfl rfl ?_)
 (refine SegC.gN rfl rfl rfl rfl ?_)
 (refine Cx.pickF rfl (by first | rfl | assumption | (exact decide_eq_true (by first | assumption | omega | rfl)) | (exact decide_eq_false (by first | assumption | omega | rfl)) | (simp; done) | (simp; omega)) rfl rfl ?_)
 (refine Cx.assign rfl rfl ?_)
 (refine SegC.nil ?_)
 (refine N.seq (W.seq (W.seq (W.region (Jx.move rfl rfl (Jx.move rfl rfl (J.gN rfl rfl rfl rfl ?_)))))))
 (refine J.gN rfl rfl rfl rfl ?_)
 (refine J.gN rfl rfl rfl rfl ?_)
 (refine Jx.pF rfl rfl rfl ?_)
 (refine Jx.move rfl rfl (J.gN rfl rfl rfl rfl ?_))
 (refine J.gN rfl rfl rfl rfl ?_)
 (refine J.gN rfl rfl rfl rfl ?_)
 (refine Jx.pF rfl rfl rfl ?_)
 (refine Jx.move rfl rfl (J.gN rfl rfl rfl rfl ?_))
 (refine J.gN rfl rfl rfl rfl ?_)
 (refine J.gN rfl rfl rfl rfl ?_)
 (refine Jx.pF rfl rfl rfl ?_)
 (refine Jx.move rfl rfl (J.gN rfl rfl rfl rfl ?_))
 (refine J.gN rfl rfl rfl rfl ?_)
 (refine J.gN rfl rfl rfl rfl ?_)
 (refine Jx.pF rfl rfl rfl ?_)
 (refine Jx.move rfl rfl (J.gN rfl rfl rfl rfl ?_))
 (refine J.gN rfl rfl rfl rfl ?_)
 (refine J.gN rfl rfl rfl rfl ?_)
 (refine Jx.pF rfl rfl rfl ?_)
 (refine Jx.assign rfl rfl (J.nil (N.seq (W.ret (N.noGotoRet (N.noGotoRet (N.noGotoRet ?_)))))))
 (refine id ?_; rotate_left))
      refine N.retD (rs := [.tmp 2]) (L1 := []) rfl (.tmp rfl .nil) (List.nil_sublist _) ⟨congrArg Sse.bool ?_, rfl⟩
      rw [sumsH, if_pos h0, skipsH, decide_eq_false h1, Bool.false_and]; rfl
  · by_cases h1 : (h.skips.length : Int) = 0
    · focus (
 (refine W.seq (W.region ?_))
 (refine J.boxAg rfl rfl ?_; intro b')
 (refine Jx.assign rfl rfl (J.nil (N.seq (W.seq (W.region (Jx.assign rfl rfl (J.nil (N.seq (W.seq (W.region (Jx.assign rfl rfl (J.nil (N.seq (W.seq ?_))))))))))))))
 (refine W.block (W.seq (W.block (W.seq (W.block (W.seq (W.seq (W.seq (W.region (Jx.fieldAddr rfl rfl ?_))))))))))
 (refine Jx.load rfl 0 rfl rfl rfl ?_)
 (refine Jx.gtrI rfl rfl rfl (Jx.assign rfl rfl (J.nil (N.seq (W.cF rfl ?_)))))
 (refine W.skip (N.seq (W.seq (W.region (Jx.fieldAddr rfl rfl ?_)))))
 (refine Jx.load rfl 0 rfl rfl rfl ?_)
 (refine Jx.lenSl rfl rfl ?_)
 (refine Jx.eqlI rfl rfl rfl (Jx.assign rfl rfl (J.nil (N.seq (W.cT rfl ?_)))))
 (refine W.exit (N.seq (W.seq (W.seq (W.region (Jx.move rfl rfl (Jx.move rfl rfl (J.gY rfl rfl rfl ?_))))))))
 (refine Jx.fieldAddr rfl rfl ?_)
 (refine J.gY rfl rfl rfl ?_)
 (refine Jx.load rfl 0 rfl rfl rfl ?_)
 (refine J.gY rfl rfl rfl ?_)
 (refine J.call (c1) rfl (evs_args rfl) rfl ?_; rintro _ _ ⟨rfl, rfl⟩; simp only [la1, la2, la3])
 (refine Jx.pT rfl rfl rfl ?_)
 (refine Jx.move rfl rfl ?_)
 (refine' J.guardAnd rfl rfl rfl rfl rfl rfl rfl rfl (fun _ => ?_) ?_; rotate_left)
 (refine J.gY rfl rfl rfl ?_)
 (refine Jx.fieldAddr rfl rfl ?_)
 (refine J.gY rfl rfl rfl ?_)
 (refine Jx.load rfl 0 rfl rfl rfl ?_)
 (refine J.gY rfl rfl rfl ?_)
 (refine J.call (c2) rfl (evs_args rfl) rfl ?_; rintro _ _ ⟨rfl, rfl⟩; simp only [la1, la2, la3])
 (refine J.nil ?_)
 (refine N.joinedN rfl rfl rfl)
 (refine Jx.move rfl rfl ?_)
 (refine' J.guardAnd rfl rfl rfl rfl rfl rfl rfl rfl (fun _ => ?_) ?_; rotate_left)
 (refine J.gY rfl rfl rfl ?_)
 (refine Jx.fieldAddr rfl rfl ?_)
 (refine J.gY rfl rfl rfl ?_)
 (refine Jx.load rfl 0 rfl rfl rfl ?_)
 (refine J.gY rfl rfl rfl ?_)
 (refine J.call (c3) rfl (evs_args rfl) rfl ?_; rintro _ _ ⟨rfl, rfl⟩; simp only [la1, la2, la3])
 (refine J.nil ?_)
 (refine N.joinedN rfl rfl rfl)
 (refine Jx.move rfl rfl ?_)
 (refine' J.guardAnd rfl rfl rfl rfl rfl rfl rfl rfl (fun _ => ?_) ?_; rotate_left)
 (refine J.gY rfl rfl rfl ?_)
 (refine Jx.fieldAddr rfl rfl ?_)
 (refine J.gY rfl rfl rfl ?_)
 (refine Jx.load rfl 0 rfl rfl rfl ?_)
 (refine J.gY rfl rfl rfl ?_)
 (refine J.call (c4) rfl (evs_args rfl) rfl ?_; rintro _ _ ⟨rfl, rfl⟩; simp only [la1, la2, la3])
 (refine J.nil ?_)
 (refine N.joinedN rfl rfl rfl)
 (refine Jx.move rfl rfl ?_)
 (refine' J.guardAnd rfl rfl rfl rfl rfl rfl rfl rfl (fun _ => ?_) ?_; rotate_left)
 (refine J.gY rfl rfl rfl ?_)
 (refine Jx.fieldAddr rfl rfl ?_)
 (refine J.gY rfl rfl rfl ?_)
 (refine Jx.load rfl 0 rfl rfl rfl ?_)
 (refine J.gY rfl rfl rfl ?_)
 (refine J.call (c5) rfl (evs_args rfl) rfl ?_; rintro _ _ ⟨rfl, rfl⟩; simp only [la1, la2, la3])
 (refine J.nil ?_)
 (refine N.joinedN rfl rfl rfl)
 (refine Jx.assign rfl rfl (J.nil (N.seq (W.ret (N.noGotoRet (N.noGotoRet (N.noGotoRet ?_)))))))
 (refine id ?_; rotate_left))
      refine N.retD (rs := [.tmp 2]) (L1 := []) rfl (.tmp rfl .nil) (List.nil_sublist _) ⟨congrArg Sse.bool ?_, rfl⟩
      rw [sumsH, if_neg h0, if_pos h1]; rfl
    · focus (
 (refine W.seq (W.region ?_))
 (refine J.boxAg rfl rfl ?_; intro b')
 (refine Jx.assign rfl rfl (J.nil (N.seq (W.seq (W.region (Jx.assign rfl rfl (J.nil (N.seq (W.seq (W.region (Jx.assign rfl rfl (J.nil (N.seq (W.seq ?_))))))))))))))
 (refine W.block (W.seq (W.block (W.seq (W.block (W.seq (W.seq (W.seq (W.region (Jx.fieldAddr rfl rfl ?_))))))))))
 (refine Jx.load rfl 0 rfl rfl rfl ?_)
 (refine Jx.gtrI rfl rfl rfl (Jx.assign rfl rfl (J.nil (N.seq (W.cF rfl ?_)))))
 (refine W.skip (N.seq (W.seq (W.region (Jx.fieldAddr rfl rfl ?_)))))
 (refine Jx.load rfl 0 rfl rfl rfl ?_)
 (refine Jx.lenSl rfl rfl ?_)
 (refine Jx.eqlI rfl rfl rfl (Jx.assign rfl rfl (J.nil (N.seq (W.cF rfl ?_)))))
 (refine W.skip (N.seq (W.exit (N.seq (W.seq (W.region (Jx.assign rfl rfl (J.nil (N.seq (W.ret ?_))))))))))
 (refine id ?_; rotate_left))
      refine N.retD (rs := [.tmp 2]) (L1 := []) rfl (.tmp rfl .nil) (List.nil_sublist _) ⟨congrArg Sse.bool ?_, rfl⟩
      rw [sumsH, if_neg h0, if_neg h1]
theorem hcheck_ok (h : Hd) (hl : h.skips.length ≤ 1048576) : FnC Tryz.prog 67 [.agg (hdC h)] [] (fun v L => v = int (codeB (fineHd h) 190) ∧ L = []) := by
  have c1 := hnumbers_ok h
  have c2 := hfirst_ok h
  have c3 := hsums_ok h hl
  refine FnC.intro Tryz.func67 rfl Tryz.ntmps67 rfl fun Z w0 hG => ?_
  focus (
 (refine W.seq (W.region ?_))
 (refine J.boxAg rfl rfl ?_; intro b')
 (refine Jx.assign rfl rfl (J.nil (N.seq (W.seq (W.seq (W.region (Jx.loadAll rfl 0 rfl rfl rfl ?_)))))))
 (refine J.call (c1) rfl (evs_args rfl) rfl ?_; rintro _ _ ⟨rfl, rfl⟩; simp only [la1, la2, la3])
 (refine Jx.not rfl rfl (Jx.move rfl rfl ?_))
 (refine' J.guardOr rfl rfl rfl rfl rfl rfl rfl rfl (fun _ => ?_) ?_; rotate_left)
 (refine J.gY rfl rfl rfl ?_)
 (refine Jx.loadAll rfl 0 rfl rfl rfl ?_)
 (refine J.gY rfl rfl rfl ?_)
 (refine J.call (c2) rfl (evs_args rfl) rfl ?_; rintro _ _ ⟨rfl, rfl⟩; simp only [la1, la2, la3])
 (refine J.gY rfl rfl rfl ?_)
 (refine Jx.not rfl rfl (J.nil ?_))
 (refine N.joinedN rfl rfl rfl)
 (refine Jx.move rfl rfl ?_)
 (refine' J.guardOr rfl rfl rfl rfl rfl rfl rfl rfl (fun _ => ?_) ?_; rotate_left)
 (refine J.gY rfl rfl rfl ?_)
 (refine Jx.loadAll rfl 0 rfl rfl rfl ?_)
 (refine J.gY rfl rfl rfl ?_)
 (refine J.call (c3) rfl (evs_args rfl) rfl ?_; rintro _ _ ⟨rfl, rfl⟩; simp only [la1, la2, la3])
 (refine J.gY rfl rfl rfl ?_)
 (refine Jx.not rfl rfl (J.nil ?_))
 (refine N.joinedN rfl rfl rfl)
 (refine Jx.move rfl rfl ?_)
 (refine' J.guardOr rfl rfl rfl rfl rfl rfl rfl rfl (fun _ => ?_) ?_; rotate_left)
 (refine J.gY rfl rfl rfl ?_)
 (refine Jx.fieldAddr rfl rfl ?_)
 (refine J.gY rfl rfl rfl ?_)
 (refine Jx.load rfl 0 rfl rfl rfl ?_)
 (refine J.gY rfl rfl rfl ?_)
 (refine Jx.not rfl rfl (J.gY rfl rfl rfl ?_))
 (refine Jx.move rfl rfl ?_)
 (refine' J.guardAndG rfl rfl rfl (by first | rfl | assumption | (exact decide_eq_true (by first | assumption | omega | rfl)) | (exact decide_eq_false (by first | assumption | omega | rfl)) | (simp; done) | (simp; omega)) rfl rfl rfl rfl rfl rfl rfl rfl (fun _ => ?_) ?_; rotate_left)
 (refine J.gY rfl rfl rfl ?_)
 (refine Jx.fieldAddr rfl rfl ?_)
 (refine J.gY rfl rfl rfl ?_)
 (refine Jx.load rfl 0 rfl rfl rfl ?_)
 (refine J.gY rfl rfl rfl ?_)
 (refine Jx.fieldAddr rfl rfl ?_)
 (refine J.gY rfl rfl rfl ?_)
 (refine Jx.load rfl 0 rfl rfl rfl ?_)
 (refine J.gY rfl rfl rfl ?_)
 (refine Jx.neqS rfl rfl rfl (J.nil ?_))
 (refine N.joinedN rfl rfl rfl)
 (refine J.nil ?_)
 (refine N.joinedN rfl rfl rfl)
 (refine J.nil (N.seq ?_))
 (refine id ?_; rotate_left))
  refine W.cond rfl (fun hb => ?_) (fun hb => ?_)
  · have hf : fineHd h = false := by rw [fineHd, show badH h = true from hb]; rfl
    rw [hf]
    focus (
 (refine W.seq (W.region (Jx.assign rfl rfl (J.nil (N.seq (W.ret (N.noGotoRet ?_)))))))
 (refine id ?_; rotate_left))
    exact N.retD (rs := [.tmp 2]) (L1 := []) rfl (.tmp rfl .nil) (List.nil_sublist _) ⟨rfl, rfl⟩
  · have hf : fineHd h = true := by rw [fineHd, show badH h = false from hb]; rfl
    rw [hf]
    focus (
 (refine W.skip (N.seq (W.seq (W.region (Jx.assign rfl rfl (J.nil (N.seq (W.ret ?_))))))))
 (refine id ?_; rotate_left))
    exact N.retD (rs := [.tmp 2]) (L1 := []) rfl (.tmp rfl .nil) (List.nil_sublist _) ⟨rfl, rfl⟩
def nB (n : Int) : List UInt8 := numB n.toNat
set_option maxHeartbeats 4000000 in
theorem hencode_ok (h : Hd) (hl : h.skips.length ≤ 1048576) : FnC Tryz.prog 28 [.agg (hdC h)] [] (fun v L => v = .tup [str (encO fineHd encHd h), int (codeB (fineHd h) 190)] ∧ L = []) := by
  have c0 := hcheck_ok h hl
  refine FnC.intro Tryz.func28 rfl Tryz.ntmps28 rfl fun Z w0 hG => ?_
  unfold encO
  cases hf : fineHd h with
  | false =>
    rw [hf] at c0
    focus (
 (refine W.seq (W.region ?_))
 (refine J.boxAg rfl rfl ?_; intro b')
 (refine Jx.assign rfl rfl (Jx.assign rfl rfl (J.nil (N.seq (W.seq (W.seq (W.region (Jx.loadAll rfl 0 rfl rfl rfl ?_))))))))
 (refine J.call (c0) rfl (evs_args rfl) rfl ?_; rintro _ _ ⟨rfl, rfl⟩; simp only [la1, la2, la3])
 (refine Jx.assign rfl rfl (J.nil (N.seq (W.seq (W.region (Jx.move rfl rfl (Jx.neqI rfl rfl rfl (J.nil (N.seq (W.cT rfl ?_))))))))))
 (refine W.seq (W.region (Jx.move rfl rfl (Jx.assign rfl rfl (Jx.assign rfl rfl (J.nil (N.seq (W.ret (N.noGotoRet ?_)))))))))
 (refine id ?_; rotate_left))
    exact N.retD (rs := [.tmp 2, .tmp 3]) (L1 := []) rfl (.tmp rfl (.tmp rfl .nil)) (List.nil_sublist _) ⟨rfl, rfl⟩
  | true =>
    rw [hf] at c0
    rw [if_pos rfl]
    have f := (fineHd_iff h).1 hf
    have f1 := f.height; have f2 := f.epoch; have f3 := f.view
    focus (
 (refine W.seq (W.region ?_))
 (refine J.boxAg rfl rfl ?_; intro b')
 (refine Jx.assign rfl rfl (Jx.assign rfl rfl (J.nil (N.seq (W.seq (W.seq (W.region (Jx.loadAll rfl 0 rfl rfl rfl ?_))))))))
 (refine J.call (c0) rfl (evs_args rfl) rfl ?_; rintro _ _ ⟨rfl, rfl⟩; simp only [la1, la2, la3])
 (refine Jx.assign rfl rfl (J.nil (N.seq (W.seq (W.region (Jx.move rfl rfl (Jx.neqI rfl rfl rfl (J.nil (N.seq (W.cF rfl ?_))))))))))
 (refine W.skip (N.seq (W.seq (W.region (Jx.assign rfl rfl (J.nil (N.seq (W.seq (W.seq (W.region (Jx.fieldAddr rfl rfl ?_)))))))))))
 (refine Jx.load rfl 0 rfl rfl rfl ?_)
 (refine Jx.fieldAddr rfl rfl ?_)
 (refine Jx.load rfl 0 rfl rfl rfl ?_)
 (refine Jx.fieldAddr rfl rfl ?_)
 (refine Jx.load rfl 0 rfl rfl rfl ?_)
 (refine J.qs (Qs.buildL (fun n : Int => int n) 0 [h.height, h.epoch, h.view] (fun _ => .val rfl) rfl rfl rfl (by decide) (by decide) rfl) rfl ?_)
 (refine Jx.lenSl rfl rfl ?_)
 (refine Jx.move rfl rfl (J.nil (N.seq (W.block ?_))))
 (refine id ?_; rotate_left))
    refine W.loop (α := Nat) (fun i => [(25, int (i : Int)), (24, int (3 : Nat)), (23, isl [h.height, h.epoch, h.view]), (5, str (flT nB ([h.height, h.epoch, h.view].take i))), (1, ptr b')]) (fun _ => [.obj b' tHd (hdC h)]) (fun i => i ≤ 3) (fun i => 3 - i) 0 (by simp) rfl ⟨ref0 rfl, ref0 rfl, ref0 rfl, ref0 rfl, ref0 rfl, trivial⟩ ?_
    intro i hi
    by_cases h1 : i < 3
    · have hg : [h.height, h.epoch, h.view].getD i 0 ≤ 1048576 ∧ 0 ≤ [h.height, h.epoch, h.view].getD i 0 := by
        match i, h1 with
        | 0, _ => exact ⟨f1.2, f1.1⟩
        | 1, _ => exact ⟨f2.2, f2.1⟩
        | 2, _ => exact ⟨f3.2, f3.1⟩
      have h1' : i < [h.height, h.epoch, h.view].length := h1
      have c1 := Num_ok ([h.height, h.epoch, h.view].getD i 0) (by omega)
      rw [numR_pos hg.2] at c1
      have hst := flT_take nB 0 [h.height, h.epoch, h.view] i h1
      have hlen : (flT nB ([h.height, h.epoch, h.view].take i)).length ≤ 27 := by
        have := flT_len (f := nB) (k := 9) (l := [h.height, h.epoch, h.view].take i) (fun n hn => by
          have hn := List.mem_of_mem_take hn
          simp only [List.mem_cons, List.not_mem_nil, or_false] at hn
          rcases hn with rfl | rfl | rfl
          · exact numBs f1.2
          · exact numBs f2.2
          · exact numBs f3.2)
        have h3 : ([h.height, h.epoch, h.view].take i).length ≤ 3 := by rw [List.length_take]; simp only [List.length_cons, List.length_nil]; omega
        omega
      have hnl := numBs hg.1
      have hnn : nB ([h.height, h.epoch, h.view].getD i 0) = numB ([h.height, h.epoch, h.view].getD i 0).toNat := rfl
      rw [hnn] at hst
      generalize numB ([h.height, h.epoch, h.view].getD i 0).toNat = nb at *
      generalize flT nB ([h.height, h.epoch, h.view].take i) = acc at *
      focus (
 (refine W.seq (W.region (Jx.lssI rfl rfl rfl (J.nil (N.seq (W.seq (W.cT rfl ?_)))))))
 (refine W.skip (N.seq (W.seq (W.block (W.seq (W.region (Jx.indexEl rfl rfl (by assumption) rfl rfl ?_)))))))
 (refine Jx.loadPP rfl rfl ?_)
 (refine Jx.assign rfl rfl (J.nil (N.seq (W.seq (W.region (Jx.move rfl rfl ?_))))))
 (refine J.call (c1) rfl (evs_args rfl) rfl ?_; rintro _ _ ⟨rfl, rfl⟩; simp only [la1, la2, la3])
 (refine Jx.move rfl rfl (Jx.extract rfl rfl rfl ?_))
 (refine Jx.extract rfl rfl rfl ?_)
 (refine Jx.assign rfl rfl (Jx.assign rfl rfl (J.nil (N.seq (W.region (Jx.move rfl rfl (Jx.move rfl rfl (Jx.cat rfl rfl (by first | omega | (simp only [List.length_append, List.length_cons, List.length_nil]; omega)) rfl ?_))))))))
 (refine Jx.assign rfl rfl (J.nil (N.seq (W.region (Jx.add64 rfl rfl (by omega) rfl ?_)))))
 (refine Jx.move rfl rfl (J.nil ?_))
 (refine id ?_; rotate_left))
      exact N.round (i + 1) h1 (by omega) rfl ⟨ref0 rfl, ref0 rfl, ref0 rfl, ⟨_, rfl, Sub.of_eq (by rw [hst])⟩, ref0 rfl, trivial⟩
    · have hi3 : i = 3 := by omega
      subst hi3
      have hd : flT nB ([h.height, h.epoch, h.view].take 3) = numB h.height.toNat ++ (numB h.epoch.toNat ++ (numB h.view.toNat ++ [])) := rfl
      rw [hd]
      have n1 := numBs f1.2; have n2 := numBs f2.2; have n3 := numBs f3.2
      have p1 := f.parent32; have p2 := f.state32; have p3 := f.receipts32
      have t1 := textB_len p1 (by omega); have t2 := textB_len p2 (by omega); have t3 := textB_len p3 (by omega)
      have tf := flag_len h.last
      have c2 := flag_ok h.last
      have c3 := text_ok h.parent (by omega)
      have c4 := text_ok h.state (by omega)
      have c5 := text_ok h.receipts (by omega)
      have x1 := f.txs; have x2 := f.members; have x3 := f.next
      have hel := flS_len f
      have he : encHd h = numB h.height.toNat ++ (numB h.epoch.toNat ++ (numB h.view.toNat ++ (flagB h.last ++ (textB h.parent ++ (textB h.state ++ (textB h.receipts ++ (h.txs ++ (h.members ++ (h.next ++ flT idB h.skips))))))))) := rfl
      rw [he]
      have hsk : ∀ i, (flT idB (h.skips.take i)).length ≤ 640 := fun i => by
        have h2 := flT_len (f := idB) (k := 32) (l := h.skips.take i) fun s hs => by rw [idB, f.each s (List.mem_of_mem_take hs)]; exact Nat.le_refl _
        have := f.skips20
        have h3 : (h.skips.take i).length ≤ 20 := by rw [List.length_take]; omega
        omega
      generalize numB h.height.toNat = nb1 at *
      generalize numB h.epoch.toNat = nb2 at *
      generalize numB h.view.toNat = nb3 at *
      generalize flagB h.last = fb at *
      generalize textB h.parent = tp at *
      generalize textB h.state = ts at *
      generalize textB h.receipts = tr at *
      generalize hX : nb1 ++ (nb2 ++ (nb3 ++ [])) ++ (fb ++ tp ++ ts ++ tr ++ h.txs ++ h.members ++ h.next) = X at *
      have hXl : X.length ≤ 300 := by rw [← hX]; simp only [List.length_append, List.length_nil]; omega
      focus (
 (refine W.seq (W.region (Jx.lssI rfl rfl rfl (J.nil (N.seq (W.seq (W.cF rfl ?_)))))))
 (refine W.exit (N.seq (W.seq ?_)))
 (refine W.draw follows ?_)
 (refine JD.calm rfl (by decide +kernel) ?_)
 (refine Cx.move rfl rfl ?_)
 (refine Cx.fieldAddr rfl rfl ?_)
 (refine Cx.load rfl 0 rfl rfl rfl ?_)
 (refine SegC.q (Qs.call (Lc := []) (c2) (fun s L' h => h) (List.Perm.refl _) (evs_args rfl)) rfl ?_)
 (refine Cx.fieldAddr rfl rfl ?_)
 (refine Cx.load rfl 0 rfl rfl rfl ?_)
 (refine SegC.q (Qs.call (Lc := []) (c3) (fun s L' h => h) (List.Perm.refl _) (evs_args rfl)) rfl ?_)
 (refine Cx.cat rfl rfl (by first | omega | (simp only [List.length_append, List.length_cons, List.length_nil]; omega)) rfl ?_)
 (refine Cx.fieldAddr rfl rfl ?_)
 (refine Cx.load rfl 0 rfl rfl rfl ?_)
 (refine SegC.q (Qs.call (Lc := []) (c4) (fun s L' h => h) (List.Perm.refl _) (evs_args rfl)) rfl ?_)
 (refine Cx.cat rfl rfl (by first | omega | (simp only [List.length_append, List.length_cons, List.length_nil]; omega)) rfl ?_)
 (refine Cx.fieldAddr rfl rfl ?_)
 (refine Cx.load rfl 0 rfl rfl rfl ?_)
 (refine SegC.q (Qs.call (Lc := []) (c5) (fun s L' h => h) (List.Perm.refl _) (evs_args rfl)) rfl ?_)
 (refine Cx.cat rfl rfl (by first | omega | (simp only [List.length_append, List.length_cons, List.length_nil]; omega)) rfl ?_)
 (refine Cx.fieldAddr rfl rfl ?_)
 (refine Cx.load rfl 0 rfl rfl rfl ?_)
 (refine Cx.cat rfl rfl (by first | omega | (simp only [List.length_append, List.length_cons, List.length_nil]; omega)) rfl ?_)
 (refine Cx.fieldAddr rfl rfl ?_)
 (refine Cx.load rfl 0 rfl rfl rfl ?_)
 (refine Cx.cat rfl rfl (by first | omega | (simp only [List.length_append, List.length_cons, List.length_nil]; omega)) rfl ?_)
 (refine Cx.fieldAddr rfl rfl ?_)
 (refine Cx.load rfl 0 rfl rfl rfl ?_)
 (refine Cx.cat rfl rfl (by first | omega | (simp only [List.length_append, List.length_cons, List.length_nil]; omega)) rfl ?_)
 (refine Cx.cat rfl rfl (by first | omega | (simp only [List.length_append, List.length_cons, List.length_nil]; omega)) rfl ?_)
 (refine Cx.assign rfl rfl ?_)
 (refine SegC.nil ?_)
 (refine N.seq (W.seq (W.seq (W.region (Jx.fieldAddr rfl rfl ?_)))))
 (refine Jx.load rfl 0 rfl rfl rfl ?_)
 (refine Jx.lenSl rfl rfl ?_)
 (refine Jx.move rfl rfl (J.nil (N.seq (W.block ?_))))
 (refine id ?_; rotate_left))
      refine W.loop (α := Nat) (fun i => [(67, int (i : Int)), (66, int h.skips.length), (65, ssl h.skips), (5, str (X ++ flT idB (h.skips.take i)))]) (fun _ => [.obj b' tHd (hdC h)]) (fun i => i ≤ h.skips.length) (fun i => h.skips.length - i) 0 (by simp) rfl ⟨ref0 rfl, ref0 rfl, ref0 rfl, ⟨_, rfl, Sub.of_eq (by rw [hX]; simp [flT])⟩, trivial⟩ ?_
      intro i hi
      by_cases h2 : i < h.skips.length
      · have hst := flT_take idB [] h.skips i h2
        have hsi : (h.skips.getD i []).length = 32 := f.each _ (getD_mem h2)
        have hki := hsk i
        have hst2 : X ++ flT idB (h.skips.take i) ++ h.skips.getD i [] = X ++ flT idB (h.skips.take (i + 1)) := by rw [← hst, List.append_assoc]; rfl
        generalize flT idB (h.skips.take i) = acc at *
        focus (
 (refine W.seq (W.region (Jx.lssI rfl rfl rfl (J.nil (N.seq (W.seq (W.cT rfl ?_)))))))
 (refine W.skip (N.seq (W.seq (W.block (W.seq (W.region (Jx.indexEl rfl rfl (by assumption) rfl rfl ?_)))))))
 (refine Jx.loadPP rfl rfl ?_)
 (refine Jx.assign rfl rfl (J.nil (N.seq (W.region (Jx.move rfl rfl (Jx.move rfl rfl (Jx.cat rfl rfl (by first | omega | (simp only [List.length_append, List.length_cons, List.length_nil]; omega)) rfl ?_)))))))
 (refine Jx.assign rfl rfl (J.nil (N.seq (W.region (Jx.add64 rfl rfl (by omega) rfl ?_)))))
 (refine Jx.move rfl rfl (J.nil ?_))
 (refine id ?_; rotate_left))
        exact N.round (i + 1) h2 (by omega) rfl ⟨ref0 rfl, ref0 rfl, ref0 rfl, ⟨_, rfl, Sub.of_eq (by rw [hst2])⟩, trivial⟩
      · rw [List.take_of_length_le (by omega)]
        focus (
 (refine W.seq (W.region (Jx.lssI rfl rfl rfl (J.nil (N.seq (W.seq (W.cF rfl ?_)))))))
 (refine W.exit (N.seq (W.seq (W.region (Jx.move rfl rfl (Jx.assign rfl rfl (Jx.assign rfl rfl (J.nil (N.seq (W.ret ?_))))))))))
 (refine id ?_; rotate_left))
        refine N.retD (rs := [.tmp 2, .tmp 3]) (L1 := []) rfl (.tmp rfl (.tmp rfl .nil)) (List.nil_sublist _) ⟨?_, rfl⟩
        rw [← hX]
        simp only [oneOr, List.append_assoc, List.append_nil]
        rfl
end Go.Proofs.YtlfdhkahiaammaaGreatDoor
namespace Go.Proofs.YtlfdhkahiaammaaGreatDoor
open Go Go.Sse
set_option linter.unusedVariables false
set_option linter.unusedSimpArgs false
set_option maxRecDepth 10000
theorem fineHd_no {h : Hd} (hn : ¬ FineH h) : fineHd h = false := by
  cases hf : fineHd h with
  | false => rfl
  | true => exact absurd ((fineHd_iff h).1 hf) hn
set_option maxHeartbeats 4000000 in
theorem rhfine_ok (h : Hd) (hl : h.skips.length ≤ 1048576) : FnC Tryz.prog 73 [.agg (hdC h)] [] (fun v L => v = bool (fineHd h) ∧ L = []) := by
  have c1 := rlinks_ok h.height
  refine FnC.intro Tryz.func73 rfl Tryz.ntmps73 rfl fun Z w0 hG => ?_
  focus (
 (refine W.seq (W.region ?_))
 (refine J.boxAg rfl rfl ?_; intro b')
 (refine Jx.assign rfl rfl (J.nil (N.seq (W.seq (W.seq (W.region (Jx.fieldAddr rfl rfl ?_)))))))
 (refine Jx.load rfl 0 rfl rfl rfl ?_)
 (refine Jx.lssI rfl rfl rfl (Jx.move rfl rfl ?_))
 (refine' J.guardOr rfl rfl rfl rfl rfl rfl rfl rfl (fun _ => ?_) ?_; rotate_left)
 (refine J.gY rfl rfl rfl ?_)
 (refine Jx.fieldAddr rfl rfl ?_)
 (refine J.gY rfl rfl rfl ?_)
 (refine Jx.load rfl 0 rfl rfl rfl ?_)
 (refine J.gY rfl rfl rfl ?_)
 (refine Jx.gtrI rfl rfl rfl (J.nil ?_))
 (refine N.joinedN rfl rfl rfl)
 (refine Jx.move rfl rfl ?_)
 (refine' J.guardOr rfl rfl rfl rfl rfl rfl rfl rfl (fun _ => ?_) ?_; rotate_left)
 (refine J.gY rfl rfl rfl ?_)
 (refine Jx.fieldAddr rfl rfl ?_)
 (refine J.gY rfl rfl rfl ?_)
 (refine Jx.load rfl 0 rfl rfl rfl ?_)
 (refine J.gY rfl rfl rfl ?_)
 (refine Jx.lssI rfl rfl rfl (J.nil ?_))
 (refine N.joinedN rfl rfl rfl)
 (refine Jx.move rfl rfl ?_)
 (refine' J.guardOr rfl rfl rfl rfl rfl rfl rfl rfl (fun _ => ?_) ?_; rotate_left)
 (refine J.gY rfl rfl rfl ?_)
 (refine Jx.fieldAddr rfl rfl ?_)
 (refine J.gY rfl rfl rfl ?_)
 (refine Jx.load rfl 0 rfl rfl rfl ?_)
 (refine J.gY rfl rfl rfl ?_)
 (refine Jx.gtrI rfl rfl rfl (J.nil ?_))
 (refine N.joinedN rfl rfl rfl)
 (refine Jx.move rfl rfl ?_)
 (refine' J.guardOr rfl rfl rfl rfl rfl rfl rfl rfl (fun _ => ?_) ?_; rotate_left)
 (refine J.gY rfl rfl rfl ?_)
 (refine Jx.fieldAddr rfl rfl ?_)
 (refine J.gY rfl rfl rfl ?_)
 (refine Jx.load rfl 0 rfl rfl rfl ?_)
 (refine J.gY rfl rfl rfl ?_)
 (refine Jx.lssI rfl rfl rfl (J.nil ?_))
 (refine N.joinedN rfl rfl rfl)
 (refine Jx.move rfl rfl ?_)
 (refine' J.guardOr rfl rfl rfl rfl rfl rfl rfl rfl (fun _ => ?_) ?_; rotate_left)
 (refine J.gY rfl rfl rfl ?_)
 (refine Jx.fieldAddr rfl rfl ?_)
 (refine J.gY rfl rfl rfl ?_)
 (refine Jx.load rfl 0 rfl rfl rfl ?_)
 (refine J.gY rfl rfl rfl ?_)
 (refine Jx.gtrI rfl rfl rfl (J.nil ?_))
 (refine N.joinedN rfl rfl rfl)
 (refine J.nil (N.seq ?_))
 (refine id ?_; rotate_left))
  refine W.cond rfl (fun hb => ?_) (fun hb => ?_)
  · have hf : fineHd h = false := fineHd_no fun f => by
      have := f.height; have := f.epoch; have := f.view
      simp only [Bool.or_eq_true, decide_eq_true_eq] at hb
      omega
    rw [hf]
    focus (
 (refine W.seq (W.region (Jx.assign rfl rfl (J.nil (N.seq (W.ret (N.noGotoRet ?_)))))))
 (refine id ?_; rotate_left))
    exact N.retD (rs := [.tmp 2]) (L1 := []) rfl (.tmp rfl .nil) (List.nil_sublist _) ⟨rfl, rfl⟩
  · simp only [Bool.or_eq_false_iff, decide_eq_false_iff_not] at hb
    focus (
 (refine W.skip (N.seq (W.seq (W.seq (W.region (Jx.fieldAddr rfl rfl ?_))))))
 (refine Jx.load rfl 0 rfl rfl rfl ?_)
 (refine Jx.lenS rfl rfl ?_)
 (refine Jx.neqI rfl rfl rfl (Jx.move rfl rfl ?_))
 (refine' J.guardOr rfl rfl rfl rfl rfl rfl rfl rfl (fun _ => ?_) ?_; rotate_left)
 (refine J.gY rfl rfl rfl ?_)
 (refine Jx.fieldAddr rfl rfl ?_)
 (refine J.gY rfl rfl rfl ?_)
 (refine Jx.load rfl 0 rfl rfl rfl ?_)
 (refine J.gY rfl rfl rfl ?_)
 (refine Jx.lenS rfl rfl ?_)
 (refine J.gY rfl rfl rfl ?_)
 (refine Jx.neqI rfl rfl rfl (J.nil ?_))
 (refine N.joinedN rfl rfl rfl)
 (refine Jx.move rfl rfl ?_)
 (refine' J.guardOr rfl rfl rfl rfl rfl rfl rfl rfl (fun _ => ?_) ?_; rotate_left)
 (refine J.gY rfl rfl rfl ?_)
 (refine Jx.fieldAddr rfl rfl ?_)
 (refine J.gY rfl rfl rfl ?_)
 (refine Jx.load rfl 0 rfl rfl rfl ?_)
 (refine J.gY rfl rfl rfl ?_)
 (refine Jx.lenS rfl rfl ?_)
 (refine J.gY rfl rfl rfl ?_)
 (refine Jx.neqI rfl rfl rfl (J.nil ?_))
 (refine N.joinedN rfl rfl rfl)
 (refine Jx.move rfl rfl ?_)
 (refine' J.guardOr rfl rfl rfl rfl rfl rfl rfl rfl (fun _ => ?_) ?_; rotate_left)
 (refine J.gY rfl rfl rfl ?_)
 (refine Jx.fieldAddr rfl rfl ?_)
 (refine J.gY rfl rfl rfl ?_)
 (refine Jx.load rfl 0 rfl rfl rfl ?_)
 (refine J.gY rfl rfl rfl ?_)
 (refine Jx.neqS rfl rfl rfl (J.gY rfl rfl rfl ?_))
 (refine Jx.move rfl rfl ?_)
 (refine' J.guardAndG rfl rfl rfl (by first | rfl | assumption | (exact decide_eq_true (by first | assumption | omega | rfl)) | (exact decide_eq_false (by first | assumption | omega | rfl)) | (simp; done) | (simp; omega)) rfl rfl rfl rfl rfl rfl rfl rfl (fun _ => ?_) ?_; rotate_left)
 (refine J.gY rfl rfl rfl ?_)
 (refine Jx.fieldAddr rfl rfl ?_)
 (refine J.gY rfl rfl rfl ?_)
 (refine Jx.load rfl 0 rfl rfl rfl ?_)
 (refine J.gY rfl rfl rfl ?_)
 (refine Jx.lenS rfl rfl ?_)
 (refine J.gY rfl rfl rfl ?_)
 (refine Jx.neqI rfl rfl rfl (J.nil ?_))
 (refine N.joinedN rfl rfl rfl)
 (refine J.nil ?_)
 (refine N.joinedN rfl rfl rfl)
 (refine Jx.move rfl rfl ?_)
 (refine' J.guardOr rfl rfl rfl rfl rfl rfl rfl rfl (fun _ => ?_) ?_; rotate_left)
 (refine J.gY rfl rfl rfl ?_)
 (refine Jx.fieldAddr rfl rfl ?_)
 (refine J.gY rfl rfl rfl ?_)
 (refine Jx.load rfl 0 rfl rfl rfl ?_)
 (refine J.gY rfl rfl rfl ?_)
 (refine Jx.neqS rfl rfl rfl (J.gY rfl rfl rfl ?_))
 (refine Jx.move rfl rfl ?_)
 (refine' J.guardAndG rfl rfl rfl (by first | rfl | assumption | (exact decide_eq_true (by first | assumption | omega | rfl)) | (exact decide_eq_false (by first | assumption | omega | rfl)) | (simp; done) | (simp; omega)) rfl rfl rfl rfl rfl rfl rfl rfl (fun _ => ?_) ?_; rotate_left)
 (refine J.gY rfl rfl rfl ?_)
 (refine Jx.fieldAddr rfl rfl ?_)
 (refine J.gY rfl rfl rfl ?_)
 (refine Jx.load rfl 0 rfl rfl rfl ?_)
 (refine J.gY rfl rfl rfl ?_)
 (refine Jx.lenS rfl rfl ?_)
 (refine J.gY rfl rfl rfl ?_)
 (refine Jx.neqI rfl rfl rfl (J.nil ?_))
 (refine N.joinedN rfl rfl rfl)
 (refine J.nil ?_)
 (refine N.joinedN rfl rfl rfl)
 (refine J.nil (N.seq ?_))
 (refine id ?_; rotate_left))
    refine W.cond rfl (fun hb2 => ?_) (fun hb2 => ?_)
    · have hf : fineHd h = false := fineHd_no fun f => by
        have := f.txs; have := f.members; have := f.next; have := f.state; have := f.receipts
        simp only [Bool.or_eq_true, Bool.and_eq_true, decide_eq_true_eq] at hb2
        rcases hb2 with (((h1 | h1) | h1) | h1) | h1
        · omega
        · omega
        · omega
        · rcases f.state with h2 | h2
          · exact h1.1 h2
          · omega
        · rcases f.receipts with h2 | h2
          · exact h1.1 h2
          · omega
      rw [hf]
      focus (
 (refine W.seq (W.region (Jx.assign rfl rfl (J.nil (N.seq (W.ret (N.noGotoRet ?_)))))))
 (refine id ?_; rotate_left))
      exact N.retD (rs := [.tmp 2]) (L1 := []) rfl (.tmp rfl .nil) (List.nil_sublist _) ⟨rfl, rfl⟩
    · simp only [Bool.or_eq_false_iff, Bool.and_eq_false_iff, decide_eq_false_iff_not, Classical.not_not] at hb2
      obtain ⟨⟨⟨⟨x1, x2⟩, x3⟩, x4⟩, x5⟩ := hb2
      focus (
 (refine W.skip (N.seq (W.seq (W.seq ?_))))
 (refine W.draw follows ?_)
 (refine JD.calm rfl (by decide +kernel) ?_)
 (refine Cx.fieldAddr rfl rfl ?_)
 (refine Cx.load rfl 0 rfl rfl rfl ?_)
 (refine Cx.lenSl rfl rfl ?_)
 (refine Cx.fieldAddr rfl rfl ?_)
 (refine Cx.load rfl 0 rfl rfl rfl ?_)
 (refine SegC.q (Qs.call (Lc := []) (c1) (fun s L' h => h) (List.Perm.refl _) (evs_args rfl)) rfl ?_)
 (refine Cx.lenSl rfl rfl ?_)
 (refine Cx.neqI rfl rfl rfl ?_)
 (refine SegC.nil ?_)
 (refine N.seq ?_)
 (refine id ?_; rotate_left))
      refine W.cond rfl (fun hb3 => ?_) (fun hb3 => ?_)
      · have hf : fineHd h = false := fineHd_no fun f => by
          have := f.skips
          simp only [decide_eq_true_eq] at hb3
          omega
        rw [hf]
        focus (
 (refine W.seq (W.region (Jx.assign rfl rfl (J.nil (N.seq (W.ret (N.noGotoRet ?_)))))))
 (refine id ?_; rotate_left))
        exact N.retD (rs := [.tmp 2]) (L1 := []) rfl (.tmp rfl .nil) (List.nil_sublist _) ⟨rfl, rfl⟩
      · simp only [decide_eq_false_iff_not, Classical.not_not] at hb3
        focus (
 (refine W.skip (N.seq (W.seq (W.seq (W.region (Jx.assign rfl rfl (J.nil (N.seq (W.block ?_)))))))))
 (refine id ?_; rotate_left))
        refine W.loop (α := Nat) (fun i => [(3, int (i : Int)), (1, ptr b')]) (fun _ => [.obj b' tHd (hdC h)]) (fun i => i ≤ h.skips.length ∧ ∀ s ∈ h.skips.take i, s.length = 32) (fun i => h.skips.length - i) 0 (by simp) rfl ⟨ref0 rfl, ref0 rfl, trivial⟩ ?_
        rintro i ⟨hi, hs⟩
        by_cases h1 : i < h.skips.length
        · by_cases h2 : ((h.skips.getD i []).length : Int) = 32
          · focus (
 (refine W.seq (W.seq (W.region (Jx.move rfl rfl (Jx.fieldAddr rfl rfl ?_)))))
 (refine Jx.load rfl 0 rfl rfl rfl ?_)
 (refine Jx.lenSl rfl rfl ?_)
 (refine Jx.lssI rfl rfl rfl (J.nil (N.seq (W.cT rfl ?_))))
 (refine W.skip (N.seq (W.seq (W.block (W.seq (W.region (Jx.fieldAddr rfl rfl ?_)))))))
 (refine Jx.load rfl 0 rfl rfl rfl ?_)
 (refine Jx.move rfl rfl (Jx.indexEl rfl rfl (by assumption) rfl rfl ?_))
 (refine Jx.loadPP rfl rfl ?_)
 (refine Jx.lenS rfl rfl ?_)
 (refine Jx.neqI rfl rfl rfl (J.nil (N.seq (W.cF rfl ?_))))
 (refine W.skip (N.seq (W.region (Jx.move rfl rfl (Jx.add64 rfl rfl (by omega) rfl ?_)))))
 (refine Jx.assign rfl rfl (J.nil ?_))
 (refine id ?_; rotate_left))
            refine N.round (i + 1) ⟨h1, fun s hs2 => ?_⟩ (by omega) rfl ⟨ref0 rfl, ref0 rfl, trivial⟩
            rw [List.take_add_one, List.getElem?_eq_getElem h1] at hs2
            rcases List.mem_append.1 hs2 with hs2 | hs2
            · exact hs s hs2
            · simp only [Option.toList_some, List.mem_singleton] at hs2
              subst hs2
              rw [List.getD_eq_getElem?_getD, List.getElem?_eq_getElem h1] at h2
              simp only [Option.getD_some] at h2
              omega
          · have hf : fineHd h = false := fineHd_no fun f => by
              have := f.each _ (getD_mem (d := []) h1)
              omega
            rw [hf]
            focus (
 (refine W.seq (W.seq (W.region (Jx.move rfl rfl (Jx.fieldAddr rfl rfl ?_)))))
 (refine Jx.load rfl 0 rfl rfl rfl ?_)
 (refine Jx.lenSl rfl rfl ?_)
 (refine Jx.lssI rfl rfl rfl (J.nil (N.seq (W.cT rfl ?_))))
 (refine W.skip (N.seq (W.seq (W.block (W.seq (W.region (Jx.fieldAddr rfl rfl ?_)))))))
 (refine Jx.load rfl 0 rfl rfl rfl ?_)
 (refine Jx.move rfl rfl (Jx.indexEl rfl rfl (by assumption) rfl rfl ?_))
 (refine Jx.loadPP rfl rfl ?_)
 (refine Jx.lenS rfl rfl ?_)
 (refine Jx.neqI rfl rfl rfl (J.nil (N.seq (W.cT rfl ?_))))
 (refine W.seq (W.region (Jx.assign rfl rfl (J.nil (N.seq (W.ret (N.noGotoRet (N.noGotoRet (N.noGotoRet (N.noGotoRet (N.noGotoRet ?_)))))))))))
 (refine id ?_; rotate_left))
            exact N.retD (rs := [.tmp 2]) (L1 := []) rfl (.tmp rfl .nil) (List.nil_sublist _) ⟨rfl, rfl⟩
        · rw [List.take_of_length_le (by omega)] at hs
          have mk : ∀ (_ : (0 < h.height → h.parent.length = 32) ∧ (h.height = 0 → h.parent = [] ∧ h.epoch = 0 ∧ h.view = 0 ∧ h.last = true)) (_ : h.last = false → h.next = h.members), FineH h := fun p1 p2 =>
            ⟨by omega, by omega, by omega, p1, by omega, by omega, by omega, by rcases x4 with q | q; exact .inl q; exact .inr (by omega), by rcases x5 with q | q; exact .inl q; exact .inr (by omega), by omega, hs, p2⟩
          by_cases h0 : h.height = 0
          · focus (
 (refine W.seq (W.seq (W.region (Jx.move rfl rfl (Jx.fieldAddr rfl rfl ?_)))))
 (refine Jx.load rfl 0 rfl rfl rfl ?_)
 (refine Jx.lenSl rfl rfl ?_)
 (refine Jx.lssI rfl rfl rfl (J.nil (N.seq (W.cF rfl ?_))))
 (refine W.exit (N.seq (W.seq (W.seq (W.region (Jx.fieldAddr rfl rfl ?_))))))
 (refine Jx.load rfl 0 rfl rfl rfl ?_)
 (refine Jx.eqlI rfl rfl rfl (J.nil (N.seq (W.cT rfl ?_))))
 (refine W.seq (W.region (Jx.fieldAddr rfl rfl ?_)))
 (refine Jx.load rfl 0 rfl rfl rfl ?_)
 (refine Jx.eqlS rfl rfl rfl (Jx.move rfl rfl ?_))
 (refine' J.guardAnd rfl rfl rfl rfl rfl rfl rfl rfl (fun _ => ?_) ?_; rotate_left)
 (refine J.gY rfl rfl rfl ?_)
 (refine Jx.fieldAddr rfl rfl ?_)
 (refine J.gY rfl rfl rfl ?_)
 (refine Jx.load rfl 0 rfl rfl rfl ?_)
 (refine J.gY rfl rfl rfl ?_)
 (refine Jx.eqlI rfl rfl rfl (J.nil ?_))
 (refine N.joinedN rfl rfl rfl)
 (refine Jx.move rfl rfl ?_)
 (refine' J.guardAnd rfl rfl rfl rfl rfl rfl rfl rfl (fun _ => ?_) ?_; rotate_left)
 (refine J.gY rfl rfl rfl ?_)
 (refine Jx.fieldAddr rfl rfl ?_)
 (refine J.gY rfl rfl rfl ?_)
 (refine Jx.load rfl 0 rfl rfl rfl ?_)
 (refine J.gY rfl rfl rfl ?_)
 (refine Jx.eqlI rfl rfl rfl (J.nil ?_))
 (refine N.joinedN rfl rfl rfl)
 (refine Jx.move rfl rfl ?_)
 (refine' J.guardAnd rfl rfl rfl rfl rfl rfl rfl rfl (fun _ => ?_) ?_; rotate_left)
 (refine J.gY rfl rfl rfl ?_)
 (refine Jx.fieldAddr rfl rfl ?_)
 (refine J.gY rfl rfl rfl ?_)
 (refine Jx.load rfl 0 rfl rfl rfl ?_)
 (refine J.nil ?_)
 (refine N.joinedN rfl rfl rfl)
 (refine Jx.assign rfl rfl (J.nil (N.seq (W.ret (N.noGotoRet ?_)))))
 (refine id ?_; rotate_left))
            refine N.retD (rs := [.tmp 2]) (L1 := []) rfl (.tmp rfl .nil) (List.nil_sublist _) ⟨congrArg Sse.bool ?_, rfl⟩
            rw [Bool.eq_iff_iff, fineHd_iff]
            simp only [Bool.and_eq_true, decide_eq_true_eq]
            constructor
            · rintro ⟨⟨⟨q1, q2⟩, q3⟩, q4⟩
              exact mk ⟨fun h' => by omega, fun _ => ⟨q1, q2, q3, q4⟩⟩ fun h' => by rw [q4] at h'; cases h'
            · intro f
              obtain ⟨q1, q2, q3, q4⟩ := f.parent.2 h0
              exact ⟨⟨⟨q1, q2⟩, q3⟩, q4⟩
          · focus (
 (refine W.seq (W.seq (W.region (Jx.move rfl rfl (Jx.fieldAddr rfl rfl ?_)))))
 (refine Jx.load rfl 0 rfl rfl rfl ?_)
 (refine Jx.lenSl rfl rfl ?_)
 (refine Jx.lssI rfl rfl rfl (J.nil (N.seq (W.cF rfl ?_))))
 (refine W.exit (N.seq (W.seq (W.seq (W.region (Jx.fieldAddr rfl rfl ?_))))))
 (refine Jx.load rfl 0 rfl rfl rfl ?_)
 (refine Jx.eqlI rfl rfl rfl (J.nil (N.seq (W.cF rfl ?_))))
 (refine W.skip (N.seq (W.seq (W.region (Jx.fieldAddr rfl rfl ?_)))))
 (refine Jx.load rfl 0 rfl rfl rfl ?_)
 (refine Jx.lenS rfl rfl ?_)
 (refine Jx.eqlI rfl rfl rfl (Jx.move rfl rfl ?_))
 (refine' J.guardAnd rfl rfl rfl rfl rfl rfl rfl rfl (fun _ => ?_) ?_; rotate_left)
 (refine J.gY rfl rfl rfl ?_)
 (refine Jx.fieldAddr rfl rfl ?_)
 (refine J.gY rfl rfl rfl ?_)
 (refine Jx.load rfl 0 rfl rfl rfl ?_)
 (refine J.gY rfl rfl rfl ?_)
 (refine Jx.move rfl rfl ?_)
 (refine' J.guardOrG rfl rfl rfl (by first | rfl | assumption | (exact decide_eq_true (by first | assumption | omega | rfl)) | (exact decide_eq_false (by first | assumption | omega | rfl)) | (simp; done) | (simp; omega)) rfl rfl rfl rfl rfl rfl rfl rfl (fun _ => ?_) ?_; rotate_left)
 (refine J.gY rfl rfl rfl ?_)
 (refine Jx.fieldAddr rfl rfl ?_)
 (refine J.gY rfl rfl rfl ?_)
 (refine Jx.load rfl 0 rfl rfl rfl ?_)
 (refine J.gY rfl rfl rfl ?_)
 (refine Jx.fieldAddr rfl rfl ?_)
 (refine J.gY rfl rfl rfl ?_)
 (refine Jx.load rfl 0 rfl rfl rfl ?_)
 (refine J.gY rfl rfl rfl ?_)
 (refine Jx.eqlS rfl rfl rfl (J.nil ?_))
 (refine N.joinedN rfl rfl rfl)
 (refine J.nil ?_)
 (refine N.joinedN rfl rfl rfl)
 (refine Jx.assign rfl rfl (J.nil (N.seq (W.ret ?_))))
 (refine id ?_; rotate_left))
            refine N.retD (rs := [.tmp 2]) (L1 := []) rfl (.tmp rfl .nil) (List.nil_sublist _) ⟨congrArg Sse.bool ?_, rfl⟩
            rw [Bool.eq_iff_iff, fineHd_iff]
            simp only [Bool.and_eq_true, Bool.or_eq_true, decide_eq_true_eq]
            constructor
            · rintro ⟨q1, q2⟩
              exact mk ⟨fun _ => by omega, fun h' => absurd h' h0⟩ fun h' => by
                rcases q2 with q2 | q2
                · rw [q2] at h'; cases h'
                · exact q2
            · intro f
              have := f.parent.1 (by omega)
              refine ⟨by omega, ?_⟩
              cases hb : h.last with
              | true => exact .inl rfl
              | false => exact .inr (f.same hb)
set_option maxHeartbeats 4000000 in
theorem rhwritten_ok (h : Hd) (hf : fineHd h = true) : FnC Tryz.prog 78 [.agg (hdC h)] [] (fun v L => v = str (encHd h) ∧ L = []) := by
  have f := (fineHd_iff h).1 hf
  have f1 := f.height; have f2 := f.epoch; have f3 := f.view
  have n1 := numBs f1.2; have n2 := numBs f2.2; have n3 := numBs f3.2
  have p1 := f.parent32; have p2 := f.state32; have p3 := f.receipts32
  have t1 := textB_len p1 (by omega); have t2 := textB_len p2 (by omega); have t3 := textB_len p3 (by omega)
  have tf := flag_len h.last
  have a1 := number_ok h.height.toNat (by omega)
  have a2 := number_ok h.epoch.toNat (by omega)
  have a3 := number_ok h.view.toNat (by omega)
  rw [Int.toNat_of_nonneg f1.1] at a1
  rw [Int.toNat_of_nonneg f2.1] at a2
  rw [Int.toNat_of_nonneg f3.1] at a3
  have c2 := rflag_ok h.last
  have c3 := rtext_ok h.parent (by omega)
  have c4 := rtext_ok h.state (by omega)
  have c5 := rtext_ok h.receipts (by omega)
  have x1 := f.txs; have x2 := f.members; have x3 := f.next
  have he : encHd h = numB h.height.toNat ++ (numB h.epoch.toNat ++ (numB h.view.toNat ++ (flagB h.last ++ (textB h.parent ++ (textB h.state ++ (textB h.receipts ++ (h.txs ++ (h.members ++ (h.next ++ flT idB h.skips))))))))) := rfl
  rw [he]
  have hsk : ∀ i, (flT idB (h.skips.take i)).length ≤ 640 := fun i => by
    have h2 := flT_len (f := idB) (k := 32) (l := h.skips.take i) fun s hs => by rw [idB, f.each s (List.mem_of_mem_take hs)]; exact Nat.le_refl _
    have := f.skips20
    have h3 : (h.skips.take i).length ≤ 20 := by rw [List.length_take]; omega
    omega
  have hs20 := f.skips20
  generalize numB h.height.toNat = nb1 at *
  generalize numB h.epoch.toNat = nb2 at *
  generalize numB h.view.toNat = nb3 at *
  generalize flagB h.last = fb at *
  generalize textB h.parent = tp at *
  generalize textB h.state = ts at *
  generalize textB h.receipts = tr at *
  generalize hX : nb1 ++ nb2 ++ nb3 ++ fb ++ tp ++ ts ++ tr ++ h.txs ++ h.members ++ h.next = X at *
  have hXl : X.length ≤ 300 := by rw [← hX]; simp only [List.length_append]; omega
  refine FnC.intro Tryz.func78 rfl Tryz.ntmps78 rfl fun Z w0 hG => ?_
  focus (
 (refine W.seq (W.region ?_))
 (refine J.boxAg rfl rfl ?_; intro b')
 (refine Jx.assign rfl rfl (J.nil (N.seq (W.seq ?_))))
 (refine W.draw follows ?_)
 (refine JD.calm rfl (by decide +kernel) ?_)
 (refine Cx.fieldAddr rfl rfl ?_)
 (refine Cx.load rfl 0 rfl rfl rfl ?_)
 (refine SegC.q (Qs.call (Lc := []) (a1) (fun s L' h => h) (List.Perm.refl _) (evs_args rfl)) rfl ?_)
 (refine Cx.fieldAddr rfl rfl ?_)
 (refine Cx.load rfl 0 rfl rfl rfl ?_)
 (refine SegC.q (Qs.call (Lc := []) (a2) (fun s L' h => h) (List.Perm.refl _) (evs_args rfl)) rfl ?_)
 (refine Cx.cat rfl rfl (by first | omega | (simp only [List.length_append, List.length_cons, List.length_nil]; omega)) rfl ?_)
 (refine Cx.fieldAddr rfl rfl ?_)
 (refine Cx.load rfl 0 rfl rfl rfl ?_)
 (refine SegC.q (Qs.call (Lc := []) (a3) (fun s L' h => h) (List.Perm.refl _) (evs_args rfl)) rfl ?_)
 (refine Cx.cat rfl rfl (by first | omega | (simp only [List.length_append, List.length_cons, List.length_nil]; omega)) rfl ?_)
 (refine Cx.fieldAddr rfl rfl ?_)
 (refine Cx.load rfl 0 rfl rfl rfl ?_)
 (refine SegC.q (Qs.call (Lc := []) (c2) (fun s L' h => h) (List.Perm.refl _) (evs_args rfl)) rfl ?_)
 (refine Cx.cat rfl rfl (by first | omega | (simp only [List.length_append, List.length_cons, List.length_nil]; omega)) rfl ?_)
 (refine Cx.assign rfl rfl ?_)
 (refine SegC.nil ?_)
 (refine N.seq (W.seq ?_))
 (refine W.draw follows ?_)
 (refine JD.calm rfl (by decide +kernel) ?_)
 (refine Cx.move rfl rfl ?_)
 (refine Cx.fieldAddr rfl rfl ?_)
 (refine Cx.load rfl 0 rfl rfl rfl ?_)
 (refine SegC.q (Qs.call (Lc := []) (c3) (fun s L' h => h) (List.Perm.refl _) (evs_args rfl)) rfl ?_)
 (refine Cx.cat rfl rfl (by first | omega | (simp only [List.length_append, List.length_cons, List.length_nil]; omega)) rfl ?_)
 (refine Cx.fieldAddr rfl rfl ?_)
 (refine Cx.load rfl 0 rfl rfl rfl ?_)
 (refine SegC.q (Qs.call (Lc := []) (c4) (fun s L' h => h) (List.Perm.refl _) (evs_args rfl)) rfl ?_)
 (refine Cx.cat rfl rfl (by first | omega | (simp only [List.length_append, List.length_cons, List.length_nil]; omega)) rfl ?_)
 (refine Cx.fieldAddr rfl rfl ?_)
 (refine Cx.load rfl 0 rfl rfl rfl ?_)
 (refine SegC.q (Qs.call (Lc := []) (c5) (fun s L' h => h) (List.Perm.refl _) (evs_args rfl)) rfl ?_)
 (refine Cx.cat rfl rfl (by first | omega | (simp only [List.length_append, List.length_cons, List.length_nil]; omega)) rfl ?_)
 (refine Cx.fieldAddr rfl rfl ?_)
 (refine Cx.load rfl 0 rfl rfl rfl ?_)
 (refine Cx.cat rfl rfl (by first | omega | (simp only [List.length_append, List.length_cons, List.length_nil]; omega)) rfl ?_)
 (refine Cx.fieldAddr rfl rfl ?_)
 (refine Cx.load rfl 0 rfl rfl rfl ?_)
 (refine Cx.cat rfl rfl (by first | omega | (simp only [List.length_append, List.length_cons, List.length_nil]; omega)) rfl ?_)
 (refine Cx.fieldAddr rfl rfl ?_)
 (refine Cx.load rfl 0 rfl rfl rfl ?_)
 (refine Cx.cat rfl rfl (by first | omega | (simp only [List.length_append, List.length_cons, List.length_nil]; omega)) rfl ?_)
 (refine Cx.assign rfl rfl ?_)
 (refine SegC.nil ?_)
 (refine N.seq (W.seq (W.seq (W.region (Jx.assign rfl rfl (J.nil (N.seq (W.block ?_))))))))
 (refine id ?_; rotate_left))
  refine W.loop (α := Nat) (fun i => [(4, int (i : Int)), (1, ptr b'), (3, str (X ++ flT idB (h.skips.take i)))]) (fun _ => [.obj b' tHd (hdC h)]) (fun i => i ≤ h.skips.length) (fun i => h.skips.length - i) 0 (by simp) rfl ⟨ref0 rfl, ref0 rfl, ⟨_, rfl, Sub.of_eq (by rw [hX]; simp [flT])⟩, trivial⟩ ?_
  intro i hi
  by_cases h2 : i < h.skips.length
  · have hst := flT_take idB [] h.skips i h2
    have hsi : (h.skips.getD i []).length = 32 := f.each _ (getD_mem h2)
    have hki := hsk i
    have hst2 : X ++ flT idB (h.skips.take i) ++ h.skips.getD i [] = X ++ flT idB (h.skips.take (i + 1)) := by rw [← hst, List.append_assoc]; rfl
    generalize flT idB (h.skips.take i) = acc at *
    focus (
 (refine W.seq (W.seq (W.region (Jx.move rfl rfl (Jx.fieldAddr rfl rfl ?_)))))
 (refine Jx.load rfl 0 rfl rfl rfl ?_)
 (refine Jx.lenSl rfl rfl ?_)
 (refine Jx.lssI rfl rfl rfl (J.nil (N.seq (W.cT rfl ?_))))
 (refine W.skip (N.seq (W.seq (W.block (W.region (Jx.move rfl rfl (Jx.fieldAddr rfl rfl ?_)))))))
 (refine Jx.load rfl 0 rfl rfl rfl ?_)
 (refine Jx.move rfl rfl (Jx.indexEl rfl rfl (by assumption) rfl rfl ?_))
 (refine Jx.loadPP rfl rfl ?_)
 (refine Jx.cat rfl rfl (by first | omega | (simp only [List.length_append, List.length_cons, List.length_nil]; omega)) rfl ?_)
 (refine Jx.assign rfl rfl (J.nil (N.seq (W.region (Jx.move rfl rfl (Jx.add64 rfl rfl (by omega) rfl ?_))))))
 (refine Jx.assign rfl rfl (J.nil ?_))
 (refine id ?_; rotate_left))
    exact N.round (i + 1) h2 (by omega) rfl ⟨ref0 rfl, ref0 rfl, ⟨_, rfl, Sub.of_eq (by rw [hst2])⟩, trivial⟩
  · rw [List.take_of_length_le (by omega)]
    focus (
 (refine W.seq (W.seq (W.region (Jx.move rfl rfl (Jx.fieldAddr rfl rfl ?_)))))
 (refine Jx.load rfl 0 rfl rfl rfl ?_)
 (refine Jx.lenSl rfl rfl ?_)
 (refine Jx.lssI rfl rfl rfl (J.nil (N.seq (W.cF rfl ?_))))
 (refine W.exit (N.seq (W.seq (W.region (Jx.move rfl rfl (Jx.assign rfl rfl (J.nil (N.seq (W.ret ?_)))))))))
 (refine id ?_; rotate_left))
    refine N.retD (rs := [.tmp 2]) (L1 := []) rfl (.tmp rfl .nil) (List.nil_sublist _) ⟨?_, rfl⟩
    rw [← hX]
    simp only [oneOr, List.append_assoc]
def digH (h : Hd) : List UInt8 := if fineHd h then sumD 2 (encHd h) else []
theorem hdigest_ok (h : Hd) (hl : h.skips.length ≤ 1048576) : FnC Tryz.prog 27 [.agg (hdC h)] [] (fun v L => v = str (digH h) ∧ L = []) := by
  have c := hencode_ok h hl
  refine FnC.intro Tryz.func27 rfl Tryz.ntmps27 rfl fun Z w0 hG => ?_
  unfold digH
  cases hf : fineHd h with
  | false =>
    rw [encO, hf] at c
    focus (
 (refine W.seq (W.region ?_))
 (refine J.boxAg rfl rfl ?_; intro b')
 (refine Jx.assign rfl rfl (J.nil (N.seq (W.seq (W.region (Jx.loadAll rfl 0 rfl rfl rfl ?_))))))
 (refine J.call (c) rfl (evs_args rfl) rfl ?_; rintro _ _ ⟨rfl, rfl⟩; simp only [la1, la2, la3])
 (refine Jx.move rfl rfl (Jx.extract rfl rfl rfl ?_))
 (refine Jx.extract rfl rfl rfl ?_)
 (refine Jx.assign rfl rfl (Jx.assign rfl rfl (J.nil (N.seq (W.seq (W.seq (W.region (Jx.move rfl rfl (Jx.neqI rfl rfl rfl (J.nil (N.seq (W.cT rfl ?_))))))))))))
 (refine W.seq (W.region (Jx.assign rfl rfl (J.nil (N.seq (W.ret (N.noGotoRet ?_)))))))
 (refine id ?_; rotate_left))
    exact N.retD (rs := [.tmp 2]) (L1 := []) rfl (.tmp rfl .nil) (List.nil_sublist _) ⟨rfl, rfl⟩
  | true =>
    rw [encO, hf, if_pos rfl] at c
    have cs := dsum_ok 2 (encHd h) (by decide) (by decide) (by have := encHd_len ((fineHd_iff h).1 hf); omega)
    rw [if_pos rfl]
    generalize sumD 2 (encHd h) = sm at *
    generalize encHd h = e at *
    focus (
 (refine W.seq (W.region ?_))
 (refine J.boxAg rfl rfl ?_; intro b')
 (refine Jx.assign rfl rfl (J.nil (N.seq (W.seq (W.region (Jx.loadAll rfl 0 rfl rfl rfl ?_))))))
 (refine J.call (c) rfl (evs_args rfl) rfl ?_; rintro _ _ ⟨rfl, rfl⟩; simp only [la1, la2, la3])
 (refine Jx.move rfl rfl (Jx.extract rfl rfl rfl ?_))
 (refine Jx.extract rfl rfl rfl ?_)
 (refine Jx.assign rfl rfl (Jx.assign rfl rfl (J.nil (N.seq (W.seq (W.seq (W.region (Jx.move rfl rfl (Jx.neqI rfl rfl rfl (J.nil (N.seq (W.cF rfl ?_))))))))))))
 (refine W.skip (N.seq (W.seq (W.region (Jx.move rfl rfl ?_)))))
 (refine J.call (cs) rfl (evs_args rfl) rfl ?_; rintro _ _ ⟨rfl, rfl⟩; simp only [la1, la2, la3])
 (refine Jx.move rfl rfl (Jx.extract rfl rfl rfl ?_))
 (refine Jx.extract rfl rfl rfl ?_)
 (refine Jx.assign rfl rfl (Jx.assign rfl rfl (J.nil (N.seq (W.seq (W.region (Jx.move rfl rfl (Jx.assign rfl rfl (J.nil (N.seq (W.ret ?_)))))))))))
 (refine id ?_; rotate_left))
    exact N.retD (rs := [.tmp 2]) (L1 := []) rfl (.tmp rfl .nil) (List.nil_sublist _) ⟨rfl, rfl⟩
theorem rhdigest_ok (h : Hd) (hl : h.skips.length ≤ 1048576) : FnC Tryz.prog 53 [.agg (hdC h)] [] (fun v L => v = str (digH h) ∧ L = []) := by
  have c := rhfine_ok h hl
  refine FnC.intro Tryz.func53 rfl Tryz.ntmps53 rfl fun Z w0 hG => ?_
  unfold digH
  cases hf : fineHd h with
  | false =>
    rw [hf] at c
    focus (
 (refine W.seq (W.region ?_))
 (refine J.boxAg rfl rfl ?_; intro b')
 (refine Jx.assign rfl rfl (J.nil (N.seq (W.seq (W.seq (W.region (Jx.loadAll rfl 0 rfl rfl rfl ?_)))))))
 (refine J.call (c) rfl (evs_args rfl) rfl ?_; rintro _ _ ⟨rfl, rfl⟩; simp only [la1, la2, la3])
 (refine Jx.not rfl rfl (J.nil (N.seq (W.cT rfl ?_))))
 (refine W.seq (W.region (Jx.assign rfl rfl (J.nil (N.seq (W.ret (N.noGotoRet ?_)))))))
 (refine id ?_; rotate_left))
    exact N.retD (rs := [.tmp 2]) (L1 := []) rfl (.tmp rfl .nil) (List.nil_sublist _) ⟨rfl, rfl⟩
  | true =>
    rw [hf] at c
    have c2 := rhwritten_ok h hf
    have cs := rtagged_ok 2 (encHd h) (by have := encHd_len ((fineHd_iff h).1 hf); omega)
    rw [if_pos rfl]
    generalize sumD 2 (encHd h) = sm at *
    generalize encHd h = e at *
    focus (
 (refine W.seq (W.region ?_))
 (refine J.boxAg rfl rfl ?_; intro b')
 (refine Jx.assign rfl rfl (J.nil (N.seq (W.seq (W.seq (W.region (Jx.loadAll rfl 0 rfl rfl rfl ?_)))))))
 (refine J.call (c) rfl (evs_args rfl) rfl ?_; rintro _ _ ⟨rfl, rfl⟩; simp only [la1, la2, la3])
 (refine Jx.not rfl rfl (J.nil (N.seq (W.cF rfl ?_))))
 (refine W.skip (N.seq (W.seq (W.region (Jx.loadAll rfl 0 rfl rfl rfl ?_)))))
 (refine J.call (c2) rfl (evs_args rfl) rfl ?_; rintro _ _ ⟨rfl, rfl⟩; simp only [la1, la2, la3])
 (refine J.call (cs) rfl (evs_args rfl) rfl ?_; rintro _ _ ⟨rfl, rfl⟩; simp only [la1, la2, la3])
 (refine Jx.assign rfl rfl (J.nil (N.seq (W.ret ?_))))
 (refine id ?_; rotate_left))
    exact N.retD (rs := [.tmp 2]) (L1 := []) rfl (.tmp rfl .nil) (List.nil_sublist _) ⟨rfl, rfl⟩
set_option maxHeartbeats 2000000 in
theorem sameH_ok (x y : Hd) (hb : x.skips.length ≤ 1048576) : FnC Tryz.prog 50 [.agg (hdC x), .agg (hdC y)] [] (fun v L => v = bool (decide (x = y)) ∧ L = []) := by
  have c := same_ok x.skips y.skips hb
  refine FnC.intro Tryz.func50 rfl Tryz.ntmps50 rfl fun Z w0 hG => ?_
  focus (
 (refine W.seq (W.region ?_))
 (refine J.boxAg rfl rfl ?_; intro b')
 (refine J.boxAg rfl rfl ?_; intro b')
 (refine Jx.assign rfl rfl (J.nil (N.seq (W.seq (W.seq (W.region (Jx.fieldAddr rfl rfl ?_)))))))
 (refine Jx.load rfl 1 rfl rfl rfl ?_)
 (refine Jx.fieldAddr rfl rfl ?_)
 (refine Jx.load rfl 0 rfl rfl rfl ?_)
 (refine Jx.neqI rfl rfl rfl (Jx.move rfl rfl ?_))
 (refine' J.guardOr rfl rfl rfl rfl rfl rfl rfl rfl (fun _ => ?_) ?_; rotate_left)
 (refine J.gY rfl rfl rfl ?_)
 (refine Jx.fieldAddr rfl rfl ?_)
 (refine J.gY rfl rfl rfl ?_)
 (refine Jx.load rfl 1 rfl rfl rfl ?_)
 (refine J.gY rfl rfl rfl ?_)
 (refine Jx.fieldAddr rfl rfl ?_)
 (refine J.gY rfl rfl rfl ?_)
 (refine Jx.load rfl 0 rfl rfl rfl ?_)
 (refine J.gY rfl rfl rfl ?_)
 (refine Jx.neqI rfl rfl rfl (J.nil ?_))
 (refine N.joinedN rfl rfl rfl)
 (refine Jx.move rfl rfl ?_)
 (refine' J.guardOr rfl rfl rfl rfl rfl rfl rfl rfl (fun _ => ?_) ?_; rotate_left)
 (refine J.gY rfl rfl rfl ?_)
 (refine Jx.fieldAddr rfl rfl ?_)
 (refine J.gY rfl rfl rfl ?_)
 (refine Jx.load rfl 1 rfl rfl rfl ?_)
 (refine J.gY rfl rfl rfl ?_)
 (refine Jx.fieldAddr rfl rfl ?_)
 (refine J.gY rfl rfl rfl ?_)
 (refine Jx.load rfl 0 rfl rfl rfl ?_)
 (refine J.gY rfl rfl rfl ?_)
 (refine Jx.neqI rfl rfl rfl (J.nil ?_))
 (refine N.joinedN rfl rfl rfl)
 (refine Jx.move rfl rfl ?_)
 (refine' J.guardOr rfl rfl rfl rfl rfl rfl rfl rfl (fun _ => ?_) ?_; rotate_left)
 (refine J.gY rfl rfl rfl ?_)
 (refine Jx.fieldAddr rfl rfl ?_)
 (refine J.gY rfl rfl rfl ?_)
 (refine Jx.load rfl 1 rfl rfl rfl ?_)
 (refine J.gY rfl rfl rfl ?_)
 (refine Jx.fieldAddr rfl rfl ?_)
 (refine J.gY rfl rfl rfl ?_)
 (refine Jx.load rfl 0 rfl rfl rfl ?_)
 (refine J.gY rfl rfl rfl ?_)
 (refine Jx.neqB rfl rfl rfl ?_)
 (refine J.nil ?_)
 (refine N.joinedN rfl rfl rfl)
 (refine Jx.move rfl rfl ?_)
 (refine' J.guardOr rfl rfl rfl rfl rfl rfl rfl rfl (fun _ => ?_) ?_; rotate_left)
 (refine J.gY rfl rfl rfl ?_)
 (refine Jx.fieldAddr rfl rfl ?_)
 (refine J.gY rfl rfl rfl ?_)
 (refine Jx.load rfl 1 rfl rfl rfl ?_)
 (refine J.gY rfl rfl rfl ?_)
 (refine Jx.fieldAddr rfl rfl ?_)
 (refine J.gY rfl rfl rfl ?_)
 (refine Jx.load rfl 0 rfl rfl rfl ?_)
 (refine J.gY rfl rfl rfl ?_)
 (refine Jx.neqS rfl rfl rfl (J.nil ?_))
 (refine N.joinedN rfl rfl rfl)
 (refine Jx.move rfl rfl ?_)
 (refine' J.guardOr rfl rfl rfl rfl rfl rfl rfl rfl (fun _ => ?_) ?_; rotate_left)
 (refine J.gY rfl rfl rfl ?_)
 (refine Jx.fieldAddr rfl rfl ?_)
 (refine J.gY rfl rfl rfl ?_)
 (refine Jx.load rfl 1 rfl rfl rfl ?_)
 (refine J.gY rfl rfl rfl ?_)
 (refine Jx.fieldAddr rfl rfl ?_)
 (refine J.gY rfl rfl rfl ?_)
 (refine Jx.load rfl 0 rfl rfl rfl ?_)
 (refine J.gY rfl rfl rfl ?_)
 (refine Jx.neqS rfl rfl rfl (J.nil ?_))
 (refine N.joinedN rfl rfl rfl)
 (refine J.nil (N.seq ?_))
 (refine id ?_; rotate_left))
  refine W.cond rfl (fun hb => ?_) (fun hb => ?_)
  · have hne : x ≠ y := fun e => by subst e; simp at hb
    rw [decide_eq_false hne]
    focus (
 (refine W.seq (W.region (Jx.assign rfl rfl (J.nil (N.seq (W.ret (N.noGotoRet ?_)))))))
 (refine id ?_; rotate_left))
    exact N.retD (rs := [.tmp 4]) (L1 := []) rfl (.tmp rfl .nil) (List.nil_sublist _) ⟨rfl, rfl⟩
  · simp only [Bool.or_eq_false_iff, decide_eq_false_iff_not, Classical.not_not, Bool.not_eq_false', beq_iff_eq] at hb
    obtain ⟨⟨⟨⟨⟨e1, e2⟩, e3⟩, e4⟩, e5⟩, e6⟩ := hb
    focus (
 (refine W.skip (N.seq (W.seq (W.region (Jx.fieldAddr rfl rfl ?_)))))
 (refine Jx.load rfl 1 rfl rfl rfl ?_)
 (refine Jx.fieldAddr rfl rfl ?_)
 (refine Jx.load rfl 0 rfl rfl rfl ?_)
 (refine Jx.eqlS rfl rfl rfl (Jx.move rfl rfl ?_))
 (refine' J.guardAnd rfl rfl rfl rfl rfl rfl rfl rfl (fun _ => ?_) ?_; rotate_left)
 (refine J.gY rfl rfl rfl ?_)
 (refine Jx.fieldAddr rfl rfl ?_)
 (refine J.gY rfl rfl rfl ?_)
 (refine Jx.load rfl 1 rfl rfl rfl ?_)
 (refine J.gY rfl rfl rfl ?_)
 (refine Jx.fieldAddr rfl rfl ?_)
 (refine J.gY rfl rfl rfl ?_)
 (refine Jx.load rfl 0 rfl rfl rfl ?_)
 (refine J.gY rfl rfl rfl ?_)
 (refine Jx.eqlS rfl rfl rfl (J.nil ?_))
 (refine N.joinedN rfl rfl rfl)
 (refine Jx.move rfl rfl ?_)
 (refine' J.guardAnd rfl rfl rfl rfl rfl rfl rfl rfl (fun _ => ?_) ?_; rotate_left)
 (refine J.gY rfl rfl rfl ?_)
 (refine Jx.fieldAddr rfl rfl ?_)
 (refine J.gY rfl rfl rfl ?_)
 (refine Jx.load rfl 1 rfl rfl rfl ?_)
 (refine J.gY rfl rfl rfl ?_)
 (refine Jx.fieldAddr rfl rfl ?_)
 (refine J.gY rfl rfl rfl ?_)
 (refine Jx.load rfl 0 rfl rfl rfl ?_)
 (refine J.gY rfl rfl rfl ?_)
 (refine Jx.eqlS rfl rfl rfl (J.nil ?_))
 (refine N.joinedN rfl rfl rfl)
 (refine Jx.move rfl rfl ?_)
 (refine' J.guardAnd rfl rfl rfl rfl rfl rfl rfl rfl (fun _ => ?_) ?_; rotate_left)
 (refine J.gY rfl rfl rfl ?_)
 (refine Jx.fieldAddr rfl rfl ?_)
 (refine J.gY rfl rfl rfl ?_)
 (refine Jx.load rfl 1 rfl rfl rfl ?_)
 (refine J.gY rfl rfl rfl ?_)
 (refine Jx.fieldAddr rfl rfl ?_)
 (refine J.gY rfl rfl rfl ?_)
 (refine Jx.load rfl 0 rfl rfl rfl ?_)
 (refine J.gY rfl rfl rfl ?_)
 (refine Jx.eqlS rfl rfl rfl (J.nil ?_))
 (refine N.joinedN rfl rfl rfl)
 (refine Jx.move rfl rfl ?_)
 (refine' J.guardAnd rfl rfl rfl rfl rfl rfl rfl rfl (fun _ => ?_) ?_; rotate_left)
 (refine J.gY rfl rfl rfl ?_)
 (refine Jx.fieldAddr rfl rfl ?_)
 (refine J.gY rfl rfl rfl ?_)
 (refine Jx.load rfl 1 rfl rfl rfl ?_)
 (refine J.gY rfl rfl rfl ?_)
 (refine Jx.fieldAddr rfl rfl ?_)
 (refine J.gY rfl rfl rfl ?_)
 (refine Jx.load rfl 0 rfl rfl rfl ?_)
 (refine J.gY rfl rfl rfl ?_)
 (refine J.call (c) rfl (evs_args rfl) rfl ?_; rintro _ _ ⟨rfl, rfl⟩; simp only [la1, la2, la3])
 (refine J.nil ?_)
 (refine N.joinedN rfl rfl rfl)
 (refine Jx.assign rfl rfl (J.nil (N.seq (W.ret ?_))))
 (refine id ?_; rotate_left))
    refine N.retD (rs := [.tmp 4]) (L1 := []) rfl (.tmp rfl .nil) (List.nil_sublist _) ⟨congrArg Sse.bool ?_, rfl⟩
    rw [Bool.eq_iff_iff]
    simp only [Bool.and_eq_true, decide_eq_true_eq]
    constructor
    · rintro ⟨⟨⟨⟨e7, e8⟩, e9⟩, e10⟩, e11⟩
      exact Hd.ext' e1 e2 e3 e4 e5 e6 e7 e8 e9 e10 e11
    · rintro rfl
      exact ⟨⟨⟨⟨rfl, rfl⟩, rfl⟩, rfl⟩, rfl⟩
end Go.Proofs.YtlfdhkahiaammaaGreatDoor
namespace Go.Proofs.YtlfdhkahiaammaaGreatDoor
open Go Go.Sse
set_option linter.unusedVariables false
set_option linter.unusedSimpArgs false
set_option maxRecDepth 10000
abbrev tBk : Nat := 29
theorem agBk : TAg Tryz.prog tBk 14 := inferInstance
abbrev bkz : List SV := [int 0, int 0, int 0, bool false, str [], str [], str [], str [], str [], str [], .val (.slice none 0 0), .val (.slice none 0 0), str [], .val (.slice none 0 0)]
theorem bkz_sub : SubL bkz (bkC bk0) := .cons (.refl _) (.cons (.refl _) (.cons (.refl _) (.cons (.refl _) (.cons (.refl _) (.cons (.refl _) (.cons (.refl _) (.cons (.refl _) (.cons (.refl _) (.cons (.refl _) (.cons (Sub.nil 1 _) (.cons (Sub.nil 8 _) (.cons (.refl _) (.cons (Sub.nil 1 _) .nil)))))))))))))
theorem topB_spec {b : Bk} (h : topB b = true) : fineHd b.head = true ∧ 1 ≤ b.head.height ∧ fineAll b.txs = true ∧ rootT b.txs = b.head.txs := by
  simp only [topB, Bool.and_eq_true, decide_eq_true_eq] at h
  exact ⟨h.1.1.1, h.1.1.2, h.1.2, h.2⟩
theorem topB_bad {b : Bk} (h : topB b = false) (hb : (((decide (codeB (fineHd b.head) 190 ≠ 0) || decide (codeAll b.txs ≠ 0)) || decide (b.head.height = 0)) || decide (rootT b.txs ≠ b.head.txs)) = false) : False := by
  simp only [Bool.or_eq_false_iff, decide_eq_false_iff_not, Classical.not_not] at hb
  obtain ⟨⟨⟨h1, h2⟩, h3⟩, h4⟩ := hb
  have hf : fineHd b.head = true := by
    cases hf : fineHd b.head with
    | true => rfl
    | false => rw [hf] at h1; simp at h1
  have := ((fineHd_iff _).1 hf).height
  rw [topB, hf, decide_eq_true (by omega), (codeAll_zero _).1 h2, decide_eq_true h4] at h
  cases h
theorem rtopB_bad {b : Bk} (h : topB b = false) (hb : (((!fineHd b.head || decide (b.head.height < 1)) || decide (codeAll b.txs ≠ 0)) || decide (rootT b.txs ≠ b.head.txs)) = false) : False := by
  simp only [Bool.or_eq_false_iff, decide_eq_false_iff_not, Classical.not_not, Bool.not_eq_false'] at hb
  obtain ⟨⟨⟨h1, h2⟩, h3⟩, h4⟩ := hb
  rw [topB, h1, decide_eq_true (by omega), (codeAll_zero _).1 h3, decide_eq_true h4] at h
  cases h
theorem fineBk_top {b : Bk} (h : topB b = false) : fineBk b = false := by rw [fineBk, h]; rfl
set_option maxHeartbeats 2000000 in
theorem bencode_ok (b : Bk) (hl : b.head.skips.length ≤ 1048576) : FnC Tryz.prog 7 [.agg (bkC b)] [] (fun v L => v = .tup [str (encO fineBk encBk b), int (codeB (fineBk b) 210)] ∧ L = []) := by
  have c1 := hencode_ok b.head hl
  have c2 := troot_ok b.txs
  have c3 := tencAll_ok b.txs
  have c4 := bbare_ok b.just
  have c5 := cencode_ok b.just
  refine FnC.intro Tryz.func7 rfl Tryz.ntmps7 rfl fun Z w0 hG => ?_
  unfold encO
  cases ht : topB b with
  | false =>
    rw [fineBk_top ht]
    focus (
 (refine W.seq (W.region ?_))
 (refine J.boxAg rfl rfl ?_; intro b')
 (refine Jx.assign rfl rfl (Jx.assign rfl rfl (J.nil (N.seq (W.seq (W.region (Jx.fieldAddr rfl rfl ?_)))))))
 (refine Jx.loadAg rfl 0 rfl rfl rfl rfl ?_)
 (refine J.call (c1) rfl (evs_args rfl) rfl ?_; rintro _ _ ⟨rfl, rfl⟩; simp only [la1, la2, la3])
 (refine Jx.move rfl rfl (Jx.extract rfl rfl rfl ?_))
 (refine Jx.extract rfl rfl rfl ?_)
 (refine Jx.assign rfl rfl (Jx.assign rfl rfl (J.nil (N.seq (W.seq (W.region (Jx.fieldAddr rfl rfl ?_)))))))
 (refine Jx.load rfl 0 rfl rfl rfl ?_)
 (refine J.call (c2) rfl (evs_args rfl) rfl ?_; rintro _ _ ⟨rfl, rfl⟩; simp only [la1, la2, la3])
 (refine Jx.move rfl rfl (Jx.extract rfl rfl rfl ?_))
 (refine Jx.extract rfl rfl rfl ?_)
 (refine Jx.assign rfl rfl (Jx.assign rfl rfl (J.nil (N.seq (W.seq (W.seq (W.region (Jx.move rfl rfl (Jx.neqI rfl rfl rfl (Jx.move rfl rfl ?_))))))))))
 (refine' J.guardOr rfl rfl rfl rfl rfl rfl rfl rfl (fun _ => ?_) ?_; rotate_left)
 (refine J.gY rfl rfl rfl ?_)
 (refine Jx.move rfl rfl (J.gY rfl rfl rfl ?_))
 (refine Jx.neqI rfl rfl rfl (J.nil ?_))
 (refine N.joinedN rfl rfl rfl)
 (refine Jx.move rfl rfl ?_)
 (refine' J.guardOr rfl rfl rfl rfl rfl rfl rfl rfl (fun _ => ?_) ?_; rotate_left)
 (refine J.gY rfl rfl rfl ?_)
 (refine Jx.fieldAddr rfl rfl ?_)
 (refine J.gY rfl rfl rfl ?_)
 (refine Jx.fieldAddr rfl rfl ?_)
 (refine J.gY rfl rfl rfl ?_)
 (refine Jx.load rfl 0 rfl rfl rfl ?_)
 (refine J.gY rfl rfl rfl ?_)
 (refine Jx.eqlI rfl rfl rfl (J.nil ?_))
 (refine N.joinedN rfl rfl rfl)
 (refine Jx.move rfl rfl ?_)
 (refine' J.guardOr rfl rfl rfl rfl rfl rfl rfl rfl (fun _ => ?_) ?_; rotate_left)
 (refine J.gY rfl rfl rfl ?_)
 (refine Jx.move rfl rfl (J.gY rfl rfl rfl ?_))
 (refine Jx.fieldAddr rfl rfl ?_)
 (refine J.gY rfl rfl rfl ?_)
 (refine Jx.fieldAddr rfl rfl ?_)
 (refine J.gY rfl rfl rfl ?_)
 (refine Jx.load rfl 0 rfl rfl rfl ?_)
 (refine J.gY rfl rfl rfl ?_)
 (refine Jx.neqS rfl rfl rfl (J.nil ?_))
 (refine N.joinedN rfl rfl rfl)
 (refine J.nil (N.seq ?_))
 (refine id ?_; rotate_left))
    refine W.cond rfl (fun hb => ?_) (fun hb => ?_)
    · focus (
 (refine W.seq (W.region (Jx.assign rfl rfl (Jx.assign rfl rfl (J.nil (N.seq (W.ret (N.noGotoRet ?_))))))))
 (refine id ?_; rotate_left))
      exact N.retD (rs := [.tmp 2, .tmp 3]) (L1 := []) rfl (.tmp rfl (.tmp rfl .nil)) (List.nil_sublist _) ⟨rfl, rfl⟩
    · exact (topB_bad ht hb).elim
  | true =>
    obtain ⟨t1, t2, t3, t4⟩ := topB_spec ht
    have hroot : ¬ rootT b.txs ≠ b.head.txs := fun h => h t4
    have l1 := encHd_len ((fineHd_iff _).1 t1)
    have l2 := encAll_len t3
    have c6 := text_ok (encHd b.head) (by omega)
    have c7 := text_ok (encAll b.txs) (by omega)
    have k1 := textB_len l1 (by omega); have k2 := textB_len l2 (by omega); have kf1 := flag_len true; have kf0 := flag_len false
    rw [encO, t1, if_pos rfl] at c1
    rw [(codeAll_zero _).2 t3] at c2
    rw [encO, t3, if_pos rfl, (codeAll_zero _).2 t3] at c3
    have e0 : encBk b = textB (encHd b.head) ++ (textB (encAll b.txs) ++ justE b.just) := rfl
    have e1 : fineBk b = justB b := by rw [fineBk, ht]; rfl
    rw [e0, e1]
    unfold justE justB
    clear e0 e1
    generalize rootT b.txs = rt at *
    generalize textB (encHd b.head) = th at *
    generalize textB (encAll b.txs) = ta at *
    generalize encHd b.head = eh at *
    generalize encAll b.txs = ea at *
    cases hbare : bareCt b.just with
    | true =>
      rw [hbare] at c4
      focus (
 (refine W.seq (W.region ?_))
 (refine J.boxAg rfl rfl ?_; intro b')
 (refine Jx.assign rfl rfl (Jx.assign rfl rfl (J.nil (N.seq (W.seq (W.region (Jx.fieldAddr rfl rfl ?_)))))))
 (refine Jx.loadAg rfl 0 rfl rfl rfl rfl ?_)
 (refine J.call (c1) rfl (evs_args rfl) rfl ?_; rintro _ _ ⟨rfl, rfl⟩; simp only [la1, la2, la3])
 (refine Jx.move rfl rfl (Jx.extract rfl rfl rfl ?_))
 (refine Jx.extract rfl rfl rfl ?_)
 (refine Jx.assign rfl rfl (Jx.assign rfl rfl (J.nil (N.seq (W.seq (W.region (Jx.fieldAddr rfl rfl ?_)))))))
 (refine Jx.load rfl 0 rfl rfl rfl ?_)
 (refine J.call (c2) rfl (evs_args rfl) rfl ?_; rintro _ _ ⟨rfl, rfl⟩; simp only [la1, la2, la3])
 (refine Jx.move rfl rfl (Jx.extract rfl rfl rfl ?_))
 (refine Jx.extract rfl rfl rfl ?_)
 (refine Jx.assign rfl rfl (Jx.assign rfl rfl (J.nil (N.seq (W.seq (W.seq (W.region (Jx.move rfl rfl (Jx.neqI rfl rfl rfl (Jx.move rfl rfl (J.gY rfl rfl rfl ?_)))))))))))
 (refine Jx.move rfl rfl (J.gY rfl rfl rfl ?_))
 (refine Jx.neqI rfl rfl rfl (Jx.pF rfl rfl rfl ?_))
 (refine Jx.move rfl rfl (J.gY rfl rfl rfl ?_))
 (refine Jx.fieldAddr rfl rfl ?_)
 (refine J.gY rfl rfl rfl ?_)
 (refine Jx.fieldAddr rfl rfl ?_)
 (refine J.gY rfl rfl rfl ?_)
 (refine Jx.load rfl 0 rfl rfl rfl ?_)
 (refine J.gY rfl rfl rfl ?_)
 (refine Jx.eqlI rfl rfl rfl (Jx.pF rfl rfl rfl ?_))
 (refine Jx.move rfl rfl (J.gY rfl rfl rfl ?_))
 (refine Jx.move rfl rfl (J.gY rfl rfl rfl ?_))
 (refine Jx.fieldAddr rfl rfl ?_)
 (refine J.gY rfl rfl rfl ?_)
 (refine Jx.fieldAddr rfl rfl ?_)
 (refine J.gY rfl rfl rfl ?_)
 (refine Jx.load rfl 0 rfl rfl rfl ?_)
 (refine J.gY rfl rfl rfl ?_)
 (refine Jx.neqS rfl rfl rfl (Jx.pF rfl rfl rfl ?_))
 (refine J.nil (N.seq (W.cF rfl ?_)))
 (refine W.skip (N.seq (W.seq (W.region (Jx.fieldAddr rfl rfl ?_)))))
 (refine Jx.load rfl 0 rfl rfl rfl ?_)
 (refine J.call (c3) rfl (evs_args rfl) rfl ?_; rintro _ _ ⟨rfl, rfl⟩; simp only [la1, la2, la3])
 (refine Jx.move rfl rfl (Jx.extract rfl rfl rfl ?_))
 (refine Jx.extract rfl rfl rfl ?_)
 (refine Jx.assign rfl rfl (Jx.assign rfl rfl (J.nil (N.seq (W.seq (W.region (Jx.move rfl rfl ?_)))))))
 (refine J.call (c6) rfl (evs_args rfl) rfl ?_; rintro _ _ ⟨rfl, rfl⟩; simp only [la1, la2, la3])
 (refine Jx.move rfl rfl ?_)
 (refine J.call (c7) rfl (evs_args rfl) rfl ?_; rintro _ _ ⟨rfl, rfl⟩; simp only [la1, la2, la3])
 (refine Jx.cat rfl rfl (by first | omega | (simp only [List.length_append, List.length_cons, List.length_nil]; omega)) rfl ?_)
 (refine Jx.assign rfl rfl (J.nil (N.seq (W.seq (W.seq (W.region (Jx.fieldAddr rfl rfl ?_)))))))
 (refine Jx.loadAg rfl 0 rfl rfl rfl rfl ?_)
 (refine J.call (c4) rfl (evs_args rfl) rfl ?_; rintro _ _ ⟨rfl, rfl⟩; simp only [la1, la2, la3])
 (refine J.nil (N.seq (W.cT rfl ?_)))
 (refine W.seq (W.region (Jx.move rfl rfl ?_)))
 (refine J.call ((flag_ok false)) rfl (evs_args rfl) rfl ?_; rintro _ _ ⟨rfl, rfl⟩; simp only [la1, la2, la3])
 (refine Jx.cat rfl rfl (by first | omega | (simp only [List.length_append, List.length_cons, List.length_nil]; omega)) rfl ?_)
 (refine Jx.assign rfl rfl (Jx.assign rfl rfl (J.nil (N.seq (W.ret (N.noGotoRet ?_))))))
 (refine id ?_; rotate_left))
      exact N.retD (rs := [.tmp 2, .tmp 3]) (L1 := []) rfl (.tmp rfl (.tmp rfl .nil)) (List.nil_sublist _) ⟨by simp [oneOr], rfl⟩
    | false =>
      rw [hbare] at c4
      cases hj : fineCt b.just with
      | false =>
        rw [hj] at c5
        focus (
 (refine W.seq (W.region ?_))
 (refine J.boxAg rfl rfl ?_; intro b')
 (refine Jx.assign rfl rfl (Jx.assign rfl rfl (J.nil (N.seq (W.seq (W.region (Jx.fieldAddr rfl rfl ?_)))))))
 (refine Jx.loadAg rfl 0 rfl rfl rfl rfl ?_)
 (refine J.call (c1) rfl (evs_args rfl) rfl ?_; rintro _ _ ⟨rfl, rfl⟩; simp only [la1, la2, la3])
 (refine Jx.move rfl rfl (Jx.extract rfl rfl rfl ?_))
 (refine Jx.extract rfl rfl rfl ?_)
 (refine Jx.assign rfl rfl (Jx.assign rfl rfl (J.nil (N.seq (W.seq (W.region (Jx.fieldAddr rfl rfl ?_)))))))
 (refine Jx.load rfl 0 rfl rfl rfl ?_)
 (refine J.call (c2) rfl (evs_args rfl) rfl ?_; rintro _ _ ⟨rfl, rfl⟩; simp only [la1, la2, la3])
 (refine Jx.move rfl rfl (Jx.extract rfl rfl rfl ?_))
 (refine Jx.extract rfl rfl rfl ?_)
 (refine Jx.assign rfl rfl (Jx.assign rfl rfl (J.nil (N.seq (W.seq (W.seq (W.region (Jx.move rfl rfl (Jx.neqI rfl rfl rfl (Jx.move rfl rfl (J.gY rfl rfl rfl ?_)))))))))))
 (refine Jx.move rfl rfl (J.gY rfl rfl rfl ?_))
 (refine Jx.neqI rfl rfl rfl (Jx.pF rfl rfl rfl ?_))
 (refine Jx.move rfl rfl (J.gY rfl rfl rfl ?_))
 (refine Jx.fieldAddr rfl rfl ?_)
 (refine J.gY rfl rfl rfl ?_)
 (refine Jx.fieldAddr rfl rfl ?_)
 (refine J.gY rfl rfl rfl ?_)
 (refine Jx.load rfl 0 rfl rfl rfl ?_)
 (refine J.gY rfl rfl rfl ?_)
 (refine Jx.eqlI rfl rfl rfl (Jx.pF rfl rfl rfl ?_))
 (refine Jx.move rfl rfl (J.gY rfl rfl rfl ?_))
 (refine Jx.move rfl rfl (J.gY rfl rfl rfl ?_))
 (refine Jx.fieldAddr rfl rfl ?_)
 (refine J.gY rfl rfl rfl ?_)
 (refine Jx.fieldAddr rfl rfl ?_)
 (refine J.gY rfl rfl rfl ?_)
 (refine Jx.load rfl 0 rfl rfl rfl ?_)
 (refine J.gY rfl rfl rfl ?_)
 (refine Jx.neqS rfl rfl rfl (Jx.pF rfl rfl rfl ?_))
 (refine J.nil (N.seq (W.cF rfl ?_)))
 (refine W.skip (N.seq (W.seq (W.region (Jx.fieldAddr rfl rfl ?_)))))
 (refine Jx.load rfl 0 rfl rfl rfl ?_)
 (refine J.call (c3) rfl (evs_args rfl) rfl ?_; rintro _ _ ⟨rfl, rfl⟩; simp only [la1, la2, la3])
 (refine Jx.move rfl rfl (Jx.extract rfl rfl rfl ?_))
 (refine Jx.extract rfl rfl rfl ?_)
 (refine Jx.assign rfl rfl (Jx.assign rfl rfl (J.nil (N.seq (W.seq (W.region (Jx.move rfl rfl ?_)))))))
 (refine J.call (c6) rfl (evs_args rfl) rfl ?_; rintro _ _ ⟨rfl, rfl⟩; simp only [la1, la2, la3])
 (refine Jx.move rfl rfl ?_)
 (refine J.call (c7) rfl (evs_args rfl) rfl ?_; rintro _ _ ⟨rfl, rfl⟩; simp only [la1, la2, la3])
 (refine Jx.cat rfl rfl (by first | omega | (simp only [List.length_append, List.length_cons, List.length_nil]; omega)) rfl ?_)
 (refine Jx.assign rfl rfl (J.nil (N.seq (W.seq (W.seq (W.region (Jx.fieldAddr rfl rfl ?_)))))))
 (refine Jx.loadAg rfl 0 rfl rfl rfl rfl ?_)
 (refine J.call (c4) rfl (evs_args rfl) rfl ?_; rintro _ _ ⟨rfl, rfl⟩; simp only [la1, la2, la3])
 (refine J.nil (N.seq (W.cF rfl ?_)))
 (refine W.skip (N.seq (W.seq (W.region (Jx.fieldAddr rfl rfl ?_)))))
 (refine Jx.loadAg rfl 0 rfl rfl rfl rfl ?_)
 (refine J.call (c5) rfl (evs_args rfl) rfl ?_; rintro _ _ ⟨rfl, rfl⟩; simp only [la1, la2, la3])
 (refine Jx.move rfl rfl (Jx.extract rfl rfl rfl ?_))
 (refine Jx.extract rfl rfl rfl ?_)
 (refine Jx.assign rfl rfl (Jx.assign rfl rfl (J.nil (N.seq (W.seq (W.seq (W.region (Jx.move rfl rfl (Jx.neqI rfl rfl rfl (Jx.move rfl rfl (J.gN rfl rfl rfl rfl ?_)))))))))))
 (refine J.gN rfl rfl rfl rfl ?_)
 (refine J.gN rfl rfl rfl rfl ?_)
 (refine J.gN rfl rfl rfl rfl ?_)
 (refine J.gN rfl rfl rfl rfl ?_)
 (refine J.gN rfl rfl rfl rfl ?_)
 (refine J.gN rfl rfl rfl rfl ?_)
 (refine Jx.pT rfl rfl rfl ?_)
 (refine J.nil (N.seq (W.cT rfl ?_)))
 (refine W.seq (W.region (Jx.assign rfl rfl (Jx.assign rfl rfl (J.nil (N.seq (W.ret (N.noGotoRet ?_))))))))
 (refine id ?_; rotate_left))
        exact N.retD (rs := [.tmp 2, .tmp 3]) (L1 := []) rfl (.tmp rfl (.tmp rfl .nil)) (List.nil_sublist _) ⟨rfl, rfl⟩
      | true =>
        rw [encO, hj, if_pos rfl] at c5
        have l3 := encCt_len hj
        have c8 := text_ok (encCt b.just) (by omega)
        have k3 := textB_len l3 (by omega)
        generalize textB (encCt b.just) = tc at *
        generalize encCt b.just = ec at *
        by_cases hp : b.just.digest = b.head.parent
        · have hp' : ¬ b.just.digest ≠ b.head.parent := fun h => h hp
          focus (
 (refine W.seq (W.region ?_))
 (refine J.boxAg rfl rfl ?_; intro b')
 (refine Jx.assign rfl rfl (Jx.assign rfl rfl (J.nil (N.seq (W.seq (W.region (Jx.fieldAddr rfl rfl ?_)))))))
 (refine Jx.loadAg rfl 0 rfl rfl rfl rfl ?_)
 (refine J.call (c1) rfl (evs_args rfl) rfl ?_; rintro _ _ ⟨rfl, rfl⟩; simp only [la1, la2, la3])
 (refine Jx.move rfl rfl (Jx.extract rfl rfl rfl ?_))
 (refine Jx.extract rfl rfl rfl ?_)
 (refine Jx.assign rfl rfl (Jx.assign rfl rfl (J.nil (N.seq (W.seq (W.region (Jx.fieldAddr rfl rfl ?_)))))))
 (refine Jx.load rfl 0 rfl rfl rfl ?_)
 (refine J.call (c2) rfl (evs_args rfl) rfl ?_; rintro _ _ ⟨rfl, rfl⟩; simp only [la1, la2, la3])
 (refine Jx.move rfl rfl (Jx.extract rfl rfl rfl ?_))
 (refine Jx.extract rfl rfl rfl ?_)
 (refine Jx.assign rfl rfl (Jx.assign rfl rfl (J.nil (N.seq (W.seq (W.seq (W.region (Jx.move rfl rfl (Jx.neqI rfl rfl rfl (Jx.move rfl rfl (J.gY rfl rfl rfl ?_)))))))))))
 (refine Jx.move rfl rfl (J.gY rfl rfl rfl ?_))
 (refine Jx.neqI rfl rfl rfl (Jx.pF rfl rfl rfl ?_))
 (refine Jx.move rfl rfl (J.gY rfl rfl rfl ?_))
 (refine Jx.fieldAddr rfl rfl ?_)
 (refine J.gY rfl rfl rfl ?_)
 (refine Jx.fieldAddr rfl rfl ?_)
 (refine J.gY rfl rfl rfl ?_)
 (refine Jx.load rfl 0 rfl rfl rfl ?_)
 (refine J.gY rfl rfl rfl ?_)
 (refine Jx.eqlI rfl rfl rfl (Jx.pF rfl rfl rfl ?_))
 (refine Jx.move rfl rfl (J.gY rfl rfl rfl ?_))
 (refine Jx.move rfl rfl (J.gY rfl rfl rfl ?_))
 (refine Jx.fieldAddr rfl rfl ?_)
 (refine J.gY rfl rfl rfl ?_)
 (refine Jx.fieldAddr rfl rfl ?_)
 (refine J.gY rfl rfl rfl ?_)
 (refine Jx.load rfl 0 rfl rfl rfl ?_)
 (refine J.gY rfl rfl rfl ?_)
 (refine Jx.neqS rfl rfl rfl (Jx.pF rfl rfl rfl ?_))
 (refine J.nil (N.seq (W.cF rfl ?_)))
 (refine W.skip (N.seq (W.seq (W.region (Jx.fieldAddr rfl rfl ?_)))))
 (refine Jx.load rfl 0 rfl rfl rfl ?_)
 (refine J.call (c3) rfl (evs_args rfl) rfl ?_; rintro _ _ ⟨rfl, rfl⟩; simp only [la1, la2, la3])
 (refine Jx.move rfl rfl (Jx.extract rfl rfl rfl ?_))
 (refine Jx.extract rfl rfl rfl ?_)
 (refine Jx.assign rfl rfl (Jx.assign rfl rfl (J.nil (N.seq (W.seq (W.region (Jx.move rfl rfl ?_)))))))
 (refine J.call (c6) rfl (evs_args rfl) rfl ?_; rintro _ _ ⟨rfl, rfl⟩; simp only [la1, la2, la3])
 (refine Jx.move rfl rfl ?_)
 (refine J.call (c7) rfl (evs_args rfl) rfl ?_; rintro _ _ ⟨rfl, rfl⟩; simp only [la1, la2, la3])
 (refine Jx.cat rfl rfl (by first | omega | (simp only [List.length_append, List.length_cons, List.length_nil]; omega)) rfl ?_)
 (refine Jx.assign rfl rfl (J.nil (N.seq (W.seq (W.seq (W.region (Jx.fieldAddr rfl rfl ?_)))))))
 (refine Jx.loadAg rfl 0 rfl rfl rfl rfl ?_)
 (refine J.call (c4) rfl (evs_args rfl) rfl ?_; rintro _ _ ⟨rfl, rfl⟩; simp only [la1, la2, la3])
 (refine J.nil (N.seq (W.cF rfl ?_)))
 (refine W.skip (N.seq (W.seq (W.region (Jx.fieldAddr rfl rfl ?_)))))
 (refine Jx.loadAg rfl 0 rfl rfl rfl rfl ?_)
 (refine J.call (c5) rfl (evs_args rfl) rfl ?_; rintro _ _ ⟨rfl, rfl⟩; simp only [la1, la2, la3])
 (refine Jx.move rfl rfl (Jx.extract rfl rfl rfl ?_))
 (refine Jx.extract rfl rfl rfl ?_)
 (refine Jx.assign rfl rfl (Jx.assign rfl rfl (J.nil (N.seq (W.seq (W.seq (W.region (Jx.move rfl rfl (Jx.neqI rfl rfl rfl (Jx.move rfl rfl (J.gY rfl rfl rfl ?_)))))))))))
 (refine Jx.fieldAddr rfl rfl ?_)
 (refine J.gY rfl rfl rfl ?_)
 (refine Jx.fieldAddr rfl rfl ?_)
 (refine J.gY rfl rfl rfl ?_)
 (refine Jx.load rfl 0 rfl rfl rfl ?_)
 (refine J.gY rfl rfl rfl ?_)
 (refine Jx.fieldAddr rfl rfl ?_)
 (refine J.gY rfl rfl rfl ?_)
 (refine Jx.fieldAddr rfl rfl ?_)
 (refine J.gY rfl rfl rfl ?_)
 (refine Jx.load rfl 0 rfl rfl rfl ?_)
 (refine J.gY rfl rfl rfl ?_)
 (refine Jx.neqS rfl rfl rfl (Jx.pF rfl rfl rfl ?_))
 (refine J.nil (N.seq (W.cF rfl ?_)))
 (refine W.skip (N.seq (W.seq (W.region (Jx.move rfl rfl ?_)))))
 (refine J.call ((flag_ok true)) rfl (evs_args rfl) rfl ?_; rintro _ _ ⟨rfl, rfl⟩; simp only [la1, la2, la3])
 (refine Jx.cat rfl rfl (by first | omega | (simp only [List.length_append, List.length_cons, List.length_nil]; omega)) rfl ?_)
 (refine Jx.move rfl rfl ?_)
 (refine J.call (c8) rfl (evs_args rfl) rfl ?_; rintro _ _ ⟨rfl, rfl⟩; simp only [la1, la2, la3])
 (refine Jx.cat rfl rfl (by first | omega | (simp only [List.length_append, List.length_cons, List.length_nil]; omega)) rfl ?_)
 (refine Jx.assign rfl rfl (Jx.assign rfl rfl (J.nil (N.seq (W.ret ?_)))))
 (refine id ?_; rotate_left))
          exact N.retD (rs := [.tmp 2, .tmp 3]) (L1 := []) rfl (.tmp rfl (.tmp rfl .nil)) (List.nil_sublist _) ⟨by simp [oneOr, hp], rfl⟩
        · rw [decide_eq_false hp]
          focus (
 (refine W.seq (W.region ?_))
 (refine J.boxAg rfl rfl ?_; intro b')
 (refine Jx.assign rfl rfl (Jx.assign rfl rfl (J.nil (N.seq (W.seq (W.region (Jx.fieldAddr rfl rfl ?_)))))))
 (refine Jx.loadAg rfl 0 rfl rfl rfl rfl ?_)
 (refine J.call (c1) rfl (evs_args rfl) rfl ?_; rintro _ _ ⟨rfl, rfl⟩; simp only [la1, la2, la3])
 (refine Jx.move rfl rfl (Jx.extract rfl rfl rfl ?_))
 (refine Jx.extract rfl rfl rfl ?_)
 (refine Jx.assign rfl rfl (Jx.assign rfl rfl (J.nil (N.seq (W.seq (W.region (Jx.fieldAddr rfl rfl ?_)))))))
 (refine Jx.load rfl 0 rfl rfl rfl ?_)
 (refine J.call (c2) rfl (evs_args rfl) rfl ?_; rintro _ _ ⟨rfl, rfl⟩; simp only [la1, la2, la3])
 (refine Jx.move rfl rfl (Jx.extract rfl rfl rfl ?_))
 (refine Jx.extract rfl rfl rfl ?_)
 (refine Jx.assign rfl rfl (Jx.assign rfl rfl (J.nil (N.seq (W.seq (W.seq (W.region (Jx.move rfl rfl (Jx.neqI rfl rfl rfl (Jx.move rfl rfl (J.gY rfl rfl rfl ?_)))))))))))
 (refine Jx.move rfl rfl (J.gY rfl rfl rfl ?_))
 (refine Jx.neqI rfl rfl rfl (Jx.pF rfl rfl rfl ?_))
 (refine Jx.move rfl rfl (J.gY rfl rfl rfl ?_))
 (refine Jx.fieldAddr rfl rfl ?_)
 (refine J.gY rfl rfl rfl ?_)
 (refine Jx.fieldAddr rfl rfl ?_)
 (refine J.gY rfl rfl rfl ?_)
 (refine Jx.load rfl 0 rfl rfl rfl ?_)
 (refine J.gY rfl rfl rfl ?_)
 (refine Jx.eqlI rfl rfl rfl (Jx.pF rfl rfl rfl ?_))
 (refine Jx.move rfl rfl (J.gY rfl rfl rfl ?_))
 (refine Jx.move rfl rfl (J.gY rfl rfl rfl ?_))
 (refine Jx.fieldAddr rfl rfl ?_)
 (refine J.gY rfl rfl rfl ?_)
 (refine Jx.fieldAddr rfl rfl ?_)
 (refine J.gY rfl rfl rfl ?_)
 (refine Jx.load rfl 0 rfl rfl rfl ?_)
 (refine J.gY rfl rfl rfl ?_)
 (refine Jx.neqS rfl rfl rfl (Jx.pF rfl rfl rfl ?_))
 (refine J.nil (N.seq (W.cF rfl ?_)))
 (refine W.skip (N.seq (W.seq (W.region (Jx.fieldAddr rfl rfl ?_)))))
 (refine Jx.load rfl 0 rfl rfl rfl ?_)
 (refine J.call (c3) rfl (evs_args rfl) rfl ?_; rintro _ _ ⟨rfl, rfl⟩; simp only [la1, la2, la3])
 (refine Jx.move rfl rfl (Jx.extract rfl rfl rfl ?_))
 (refine Jx.extract rfl rfl rfl ?_)
 (refine Jx.assign rfl rfl (Jx.assign rfl rfl (J.nil (N.seq (W.seq (W.region (Jx.move rfl rfl ?_)))))))
 (refine J.call (c6) rfl (evs_args rfl) rfl ?_; rintro _ _ ⟨rfl, rfl⟩; simp only [la1, la2, la3])
 (refine Jx.move rfl rfl ?_)
 (refine J.call (c7) rfl (evs_args rfl) rfl ?_; rintro _ _ ⟨rfl, rfl⟩; simp only [la1, la2, la3])
 (refine Jx.cat rfl rfl (by first | omega | (simp only [List.length_append, List.length_cons, List.length_nil]; omega)) rfl ?_)
 (refine Jx.assign rfl rfl (J.nil (N.seq (W.seq (W.seq (W.region (Jx.fieldAddr rfl rfl ?_)))))))
 (refine Jx.loadAg rfl 0 rfl rfl rfl rfl ?_)
 (refine J.call (c4) rfl (evs_args rfl) rfl ?_; rintro _ _ ⟨rfl, rfl⟩; simp only [la1, la2, la3])
 (refine J.nil (N.seq (W.cF rfl ?_)))
 (refine W.skip (N.seq (W.seq (W.region (Jx.fieldAddr rfl rfl ?_)))))
 (refine Jx.loadAg rfl 0 rfl rfl rfl rfl ?_)
 (refine J.call (c5) rfl (evs_args rfl) rfl ?_; rintro _ _ ⟨rfl, rfl⟩; simp only [la1, la2, la3])
 (refine Jx.move rfl rfl (Jx.extract rfl rfl rfl ?_))
 (refine Jx.extract rfl rfl rfl ?_)
 (refine Jx.assign rfl rfl (Jx.assign rfl rfl (J.nil (N.seq (W.seq (W.seq (W.region (Jx.move rfl rfl (Jx.neqI rfl rfl rfl (Jx.move rfl rfl (J.gY rfl rfl rfl ?_)))))))))))
 (refine Jx.fieldAddr rfl rfl ?_)
 (refine J.gY rfl rfl rfl ?_)
 (refine Jx.fieldAddr rfl rfl ?_)
 (refine J.gY rfl rfl rfl ?_)
 (refine Jx.load rfl 0 rfl rfl rfl ?_)
 (refine J.gY rfl rfl rfl ?_)
 (refine Jx.fieldAddr rfl rfl ?_)
 (refine J.gY rfl rfl rfl ?_)
 (refine Jx.fieldAddr rfl rfl ?_)
 (refine J.gY rfl rfl rfl ?_)
 (refine Jx.load rfl 0 rfl rfl rfl ?_)
 (refine J.gY rfl rfl rfl ?_)
 (refine Jx.neqS rfl rfl rfl (Jx.pF rfl rfl rfl ?_))
 (refine J.nil (N.seq (W.cT rfl ?_)))
 (refine W.seq (W.region (Jx.assign rfl rfl (Jx.assign rfl rfl (J.nil (N.seq (W.ret (N.noGotoRet ?_))))))))
 (refine id ?_; rotate_left))
          exact N.retD (rs := [.tmp 2, .tmp 3]) (L1 := []) rfl (.tmp rfl (.tmp rfl .nil)) (List.nil_sublist _) ⟨rfl, rfl⟩
theorem bcheck_ok (b : Bk) (hl : b.head.skips.length ≤ 1048576) : FnC Tryz.prog 12 [.agg (bkC b)] [] (fun v L => v = int (codeB (fineBk b) 210) ∧ L = []) := by
  have c := bencode_ok b hl
  generalize encO fineBk encBk b = e at *
  refine FnC.intro Tryz.func12 rfl Tryz.ntmps12 rfl fun Z w0 hG => ?_
  focus (
 (refine W.seq (W.region ?_))
 (refine J.boxAg rfl rfl ?_; intro b')
 (refine Jx.assign rfl rfl (J.nil (N.seq (W.seq (W.region (Jx.loadAll rfl 0 rfl rfl rfl ?_))))))
 (refine J.call (c) rfl (evs_args rfl) rfl ?_; rintro _ _ ⟨rfl, rfl⟩; simp only [la1, la2, la3])
 (refine Jx.move rfl rfl (Jx.extract rfl rfl rfl ?_))
 (refine Jx.extract rfl rfl rfl ?_)
 (refine Jx.assign rfl rfl (Jx.assign rfl rfl (J.nil (N.seq (W.seq (W.region (Jx.move rfl rfl (Jx.assign rfl rfl (J.nil (N.seq (W.ret ?_)))))))))))
 (refine id ?_; rotate_left))
  exact N.retD (rs := [.tmp 2]) (L1 := []) rfl (.tmp rfl .nil) (List.nil_sublist _) ⟨rfl, rfl⟩
def digB (b : Bk) : List UInt8 := if fineBk b then digH b.head else []
theorem bdigest_ok (b : Bk) (hl : b.head.skips.length ≤ 1048576) : FnC Tryz.prog 14 [.agg (bkC b)] [] (fun v L => v = str (digB b) ∧ L = []) := by
  have c := bcheck_ok b hl
  have c2 := hdigest_ok b.head hl
  refine FnC.intro Tryz.func14 rfl Tryz.ntmps14 rfl fun Z w0 hG => ?_
  unfold digB
  cases hf : fineBk b with
  | false =>
    rw [hf] at c
    focus (
 (refine W.seq (W.region ?_))
 (refine J.boxAg rfl rfl ?_; intro b')
 (refine Jx.assign rfl rfl (J.nil (N.seq (W.seq (W.seq (W.region (Jx.loadAll rfl 0 rfl rfl rfl ?_)))))))
 (refine J.call (c) rfl (evs_args rfl) rfl ?_; rintro _ _ ⟨rfl, rfl⟩; simp only [la1, la2, la3])
 (refine Jx.neqI rfl rfl rfl (J.nil (N.seq (W.cT rfl ?_))))
 (refine W.seq (W.region (Jx.assign rfl rfl (J.nil (N.seq (W.ret (N.noGotoRet ?_)))))))
 (refine id ?_; rotate_left))
    exact N.retD (rs := [.tmp 2]) (L1 := []) rfl (.tmp rfl .nil) (List.nil_sublist _) ⟨rfl, rfl⟩
  | true =>
    rw [hf] at c
    rw [if_pos rfl]
    generalize digH b.head = d at *
    focus (
 (refine W.seq (W.region ?_))
 (refine J.boxAg rfl rfl ?_; intro b')
 (refine Jx.assign rfl rfl (J.nil (N.seq (W.seq (W.seq (W.region (Jx.loadAll rfl 0 rfl rfl rfl ?_)))))))
 (refine J.call (c) rfl (evs_args rfl) rfl ?_; rintro _ _ ⟨rfl, rfl⟩; simp only [la1, la2, la3])
 (refine Jx.neqI rfl rfl rfl (J.nil (N.seq (W.cF rfl ?_))))
 (refine W.skip (N.seq (W.seq (W.region (Jx.fieldAddr rfl rfl ?_)))))
 (refine Jx.loadAg rfl 0 rfl rfl rfl rfl ?_)
 (refine J.call (c2) rfl (evs_args rfl) rfl ?_; rintro _ _ ⟨rfl, rfl⟩; simp only [la1, la2, la3])
 (refine Jx.assign rfl rfl (J.nil (N.seq (W.ret ?_))))
 (refine id ?_; rotate_left))
    exact N.retD (rs := [.tmp 2]) (L1 := []) rfl (.tmp rfl .nil) (List.nil_sublist _) ⟨rfl, rfl⟩
set_option maxHeartbeats 2000000 in
theorem rbfine_ok (b : Bk) (hl : b.head.skips.length ≤ 1048576) : FnC Tryz.prog 35 [.agg (bkC b)] [] (fun v L => v = bool (fineBk b) ∧ L = []) := by
  have c1 := rhfine_ok b.head hl
  have c2 := rtroot_ok b.txs
  have c4 := rbare_ok b.just
  have c5 := rmay_ok b.just
  refine FnC.intro Tryz.func35 rfl Tryz.ntmps35 rfl fun Z w0 hG => ?_
  cases ht : topB b with
  | false =>
    rw [fineBk_top ht]
    focus (
 (refine W.seq (W.region ?_))
 (refine J.boxAg rfl rfl ?_; intro b')
 (refine Jx.assign rfl rfl (J.nil (N.seq (W.seq (W.region (Jx.fieldAddr rfl rfl ?_))))))
 (refine Jx.load rfl 0 rfl rfl rfl ?_)
 (refine J.call (c2) rfl (evs_args rfl) rfl ?_; rintro _ _ ⟨rfl, rfl⟩; simp only [la1, la2, la3])
 (refine Jx.move rfl rfl (Jx.extract rfl rfl rfl ?_))
 (refine Jx.extract rfl rfl rfl ?_)
 (refine Jx.assign rfl rfl (Jx.assign rfl rfl (J.nil (N.seq (W.seq (W.seq (W.region (Jx.fieldAddr rfl rfl ?_))))))))
 (refine Jx.loadAg rfl 0 rfl rfl rfl rfl ?_)
 (refine J.call (c1) rfl (evs_args rfl) rfl ?_; rintro _ _ ⟨rfl, rfl⟩; simp only [la1, la2, la3])
 (refine Jx.not rfl rfl (Jx.move rfl rfl ?_))
 (refine' J.guardOr rfl rfl rfl rfl rfl rfl rfl rfl (fun _ => ?_) ?_; rotate_left)
 (refine J.gY rfl rfl rfl ?_)
 (refine Jx.fieldAddr rfl rfl ?_)
 (refine J.gY rfl rfl rfl ?_)
 (refine Jx.fieldAddr rfl rfl ?_)
 (refine J.gY rfl rfl rfl ?_)
 (refine Jx.load rfl 0 rfl rfl rfl ?_)
 (refine J.gY rfl rfl rfl ?_)
 (refine Jx.lssI rfl rfl rfl (J.nil ?_))
 (refine N.joinedN rfl rfl rfl)
 (refine Jx.move rfl rfl ?_)
 (refine' J.guardOr rfl rfl rfl rfl rfl rfl rfl rfl (fun _ => ?_) ?_; rotate_left)
 (refine J.gY rfl rfl rfl ?_)
 (refine Jx.move rfl rfl (J.gY rfl rfl rfl ?_))
 (refine Jx.neqI rfl rfl rfl (J.nil ?_))
 (refine N.joinedN rfl rfl rfl)
 (refine Jx.move rfl rfl ?_)
 (refine' J.guardOr rfl rfl rfl rfl rfl rfl rfl rfl (fun _ => ?_) ?_; rotate_left)
 (refine J.gY rfl rfl rfl ?_)
 (refine Jx.move rfl rfl (J.gY rfl rfl rfl ?_))
 (refine Jx.fieldAddr rfl rfl ?_)
 (refine J.gY rfl rfl rfl ?_)
 (refine Jx.fieldAddr rfl rfl ?_)
 (refine J.gY rfl rfl rfl ?_)
 (refine Jx.load rfl 0 rfl rfl rfl ?_)
 (refine J.gY rfl rfl rfl ?_)
 (refine Jx.neqS rfl rfl rfl (J.nil ?_))
 (refine N.joinedN rfl rfl rfl)
 (refine J.nil (N.seq ?_))
 (refine id ?_; rotate_left))
    refine W.cond rfl (fun hb => ?_) (fun hb => ?_)
    · focus (
 (refine W.seq (W.region (Jx.assign rfl rfl (J.nil (N.seq (W.ret (N.noGotoRet ?_)))))))
 (refine id ?_; rotate_left))
      exact N.retD (rs := [.tmp 2]) (L1 := []) rfl (.tmp rfl .nil) (List.nil_sublist _) ⟨rfl, rfl⟩
    · exact (rtopB_bad ht hb).elim
  | true =>
    obtain ⟨t1, t2, t3, t4⟩ := topB_spec ht
    have hroot : ¬ rootT b.txs ≠ b.head.txs := fun h => h t4
    rw [t1] at c1
    rw [(codeAll_zero _).2 t3] at c2
    have e1 : fineBk b = justB b := by rw [fineBk, ht]; rfl
    rw [e1]
    unfold justB
    clear e1
    generalize rootT b.txs = rt at *
    cases hbare : bareCt b.just with
    | true =>
      rw [hbare] at c4
      focus (
 (refine W.seq (W.region ?_))
 (refine J.boxAg rfl rfl ?_; intro b')
 (refine Jx.assign rfl rfl (J.nil (N.seq (W.seq (W.region (Jx.fieldAddr rfl rfl ?_))))))
 (refine Jx.load rfl 0 rfl rfl rfl ?_)
 (refine J.call (c2) rfl (evs_args rfl) rfl ?_; rintro _ _ ⟨rfl, rfl⟩; simp only [la1, la2, la3])
 (refine Jx.move rfl rfl (Jx.extract rfl rfl rfl ?_))
 (refine Jx.extract rfl rfl rfl ?_)
 (refine Jx.assign rfl rfl (Jx.assign rfl rfl (J.nil (N.seq (W.seq (W.seq (W.region (Jx.fieldAddr rfl rfl ?_))))))))
 (refine Jx.loadAg rfl 0 rfl rfl rfl rfl ?_)
 (refine J.call (c1) rfl (evs_args rfl) rfl ?_; rintro _ _ ⟨rfl, rfl⟩; simp only [la1, la2, la3])
 (refine Jx.not rfl rfl (Jx.move rfl rfl (J.gY rfl rfl rfl ?_)))
 (refine Jx.fieldAddr rfl rfl ?_)
 (refine J.gY rfl rfl rfl ?_)
 (refine Jx.fieldAddr rfl rfl ?_)
 (refine J.gY rfl rfl rfl ?_)
 (refine Jx.load rfl 0 rfl rfl rfl ?_)
 (refine J.gY rfl rfl rfl ?_)
 (refine Jx.lssI rfl rfl rfl (Jx.pF rfl rfl rfl ?_))
 (refine Jx.move rfl rfl (J.gY rfl rfl rfl ?_))
 (refine Jx.move rfl rfl (J.gY rfl rfl rfl ?_))
 (refine Jx.neqI rfl rfl rfl (Jx.pF rfl rfl rfl ?_))
 (refine Jx.move rfl rfl (J.gY rfl rfl rfl ?_))
 (refine Jx.move rfl rfl (J.gY rfl rfl rfl ?_))
 (refine Jx.fieldAddr rfl rfl ?_)
 (refine J.gY rfl rfl rfl ?_)
 (refine Jx.fieldAddr rfl rfl ?_)
 (refine J.gY rfl rfl rfl ?_)
 (refine Jx.load rfl 0 rfl rfl rfl ?_)
 (refine J.gY rfl rfl rfl ?_)
 (refine Jx.neqS rfl rfl rfl (Jx.pF rfl rfl rfl ?_))
 (refine J.nil (N.seq (W.cF rfl ?_)))
 (refine W.skip (N.seq (W.seq (W.region (Jx.fieldAddr rfl rfl ?_)))))
 (refine Jx.loadAg rfl 0 rfl rfl rfl rfl ?_)
 (refine J.call (c4) rfl (evs_args rfl) rfl ?_; rintro _ _ ⟨rfl, rfl⟩; simp only [la1, la2, la3])
 (refine Jx.move rfl rfl (J.gN rfl rfl rfl rfl ?_))
 (refine J.gN rfl rfl rfl rfl ?_)
 (refine J.gN rfl rfl rfl rfl ?_)
 (refine J.gN rfl rfl rfl rfl ?_)
 (refine J.guardSkip rfl rfl rfl rfl ?_)
 (refine J.guardSkip rfl rfl rfl rfl ?_)
 (refine J.guardSkip rfl rfl rfl rfl ?_)
 (refine J.guardSkip rfl rfl rfl rfl ?_)
 (refine J.guardSkip rfl rfl rfl rfl ?_)
 (refine J.guardSkip rfl rfl rfl rfl ?_)
 (refine J.guardSkip rfl rfl rfl rfl ?_)
 (refine J.gN rfl rfl rfl rfl ?_)
 (refine Jx.pT rfl rfl rfl ?_)
 (refine Jx.assign rfl rfl (J.nil (N.seq (W.ret ?_))))
 (refine id ?_; rotate_left))
      exact N.retD (rs := [.tmp 2]) (L1 := []) rfl (.tmp rfl .nil) (List.nil_sublist _) ⟨rfl, rfl⟩
    | false =>
      rw [hbare] at c4
      cases hj : fineCt b.just with
      | false =>
        rw [hj] at c5
        focus (
 (refine W.seq (W.region ?_))
 (refine J.boxAg rfl rfl ?_; intro b')
 (refine Jx.assign rfl rfl (J.nil (N.seq (W.seq (W.region (Jx.fieldAddr rfl rfl ?_))))))
 (refine Jx.load rfl 0 rfl rfl rfl ?_)
 (refine J.call (c2) rfl (evs_args rfl) rfl ?_; rintro _ _ ⟨rfl, rfl⟩; simp only [la1, la2, la3])
 (refine Jx.move rfl rfl (Jx.extract rfl rfl rfl ?_))
 (refine Jx.extract rfl rfl rfl ?_)
 (refine Jx.assign rfl rfl (Jx.assign rfl rfl (J.nil (N.seq (W.seq (W.seq (W.region (Jx.fieldAddr rfl rfl ?_))))))))
 (refine Jx.loadAg rfl 0 rfl rfl rfl rfl ?_)
 (refine J.call (c1) rfl (evs_args rfl) rfl ?_; rintro _ _ ⟨rfl, rfl⟩; simp only [la1, la2, la3])
 (refine Jx.not rfl rfl (Jx.move rfl rfl (J.gY rfl rfl rfl ?_)))
 (refine Jx.fieldAddr rfl rfl ?_)
 (refine J.gY rfl rfl rfl ?_)
 (refine Jx.fieldAddr rfl rfl ?_)
 (refine J.gY rfl rfl rfl ?_)
 (refine Jx.load rfl 0 rfl rfl rfl ?_)
 (refine J.gY rfl rfl rfl ?_)
 (refine Jx.lssI rfl rfl rfl (Jx.pF rfl rfl rfl ?_))
 (refine Jx.move rfl rfl (J.gY rfl rfl rfl ?_))
 (refine Jx.move rfl rfl (J.gY rfl rfl rfl ?_))
 (refine Jx.neqI rfl rfl rfl (Jx.pF rfl rfl rfl ?_))
 (refine Jx.move rfl rfl (J.gY rfl rfl rfl ?_))
 (refine Jx.move rfl rfl (J.gY rfl rfl rfl ?_))
 (refine Jx.fieldAddr rfl rfl ?_)
 (refine J.gY rfl rfl rfl ?_)
 (refine Jx.fieldAddr rfl rfl ?_)
 (refine J.gY rfl rfl rfl ?_)
 (refine Jx.load rfl 0 rfl rfl rfl ?_)
 (refine J.gY rfl rfl rfl ?_)
 (refine Jx.neqS rfl rfl rfl (Jx.pF rfl rfl rfl ?_))
 (refine J.nil (N.seq (W.cF rfl ?_)))
 (refine W.skip (N.seq (W.seq (W.region (Jx.fieldAddr rfl rfl ?_)))))
 (refine Jx.loadAg rfl 0 rfl rfl rfl rfl ?_)
 (refine J.call (c4) rfl (evs_args rfl) rfl ?_; rintro _ _ ⟨rfl, rfl⟩; simp only [la1, la2, la3])
 (refine Jx.move rfl rfl (J.gY rfl rfl rfl ?_))
 (refine Jx.fieldAddr rfl rfl ?_)
 (refine J.gY rfl rfl rfl ?_)
 (refine Jx.loadAg rfl 0 rfl rfl rfl rfl ?_)
 (refine J.gY rfl rfl rfl ?_)
 (refine J.call (c5) rfl (evs_args rfl) rfl ?_; rintro _ _ ⟨rfl, rfl⟩; simp only [la1, la2, la3])
 (refine J.gY rfl rfl rfl ?_)
 (refine Jx.move rfl rfl (J.gN rfl rfl rfl rfl ?_))
 (refine J.gN rfl rfl rfl rfl ?_)
 (refine J.gN rfl rfl rfl rfl ?_)
 (refine J.gN rfl rfl rfl rfl ?_)
 (refine J.gN rfl rfl rfl rfl ?_)
 (refine J.gN rfl rfl rfl rfl ?_)
 (refine J.gN rfl rfl rfl rfl ?_)
 (refine J.gY rfl rfl rfl ?_)
 (refine Jx.pF rfl rfl rfl ?_)
 (refine Jx.pF rfl rfl rfl ?_)
 (refine Jx.assign rfl rfl (J.nil (N.seq (W.ret ?_))))
 (refine id ?_; rotate_left))
        exact N.retD (rs := [.tmp 2]) (L1 := []) rfl (.tmp rfl .nil) (List.nil_sublist _) ⟨rfl, rfl⟩
      | true =>
        rw [hj] at c5
        focus (
 (refine W.seq (W.region ?_))
 (refine J.boxAg rfl rfl ?_; intro b')
 (refine Jx.assign rfl rfl (J.nil (N.seq (W.seq (W.region (Jx.fieldAddr rfl rfl ?_))))))
 (refine Jx.load rfl 0 rfl rfl rfl ?_)
 (refine J.call (c2) rfl (evs_args rfl) rfl ?_; rintro _ _ ⟨rfl, rfl⟩; simp only [la1, la2, la3])
 (refine Jx.move rfl rfl (Jx.extract rfl rfl rfl ?_))
 (refine Jx.extract rfl rfl rfl ?_)
 (refine Jx.assign rfl rfl (Jx.assign rfl rfl (J.nil (N.seq (W.seq (W.seq (W.region (Jx.fieldAddr rfl rfl ?_))))))))
 (refine Jx.loadAg rfl 0 rfl rfl rfl rfl ?_)
 (refine J.call (c1) rfl (evs_args rfl) rfl ?_; rintro _ _ ⟨rfl, rfl⟩; simp only [la1, la2, la3])
 (refine Jx.not rfl rfl (Jx.move rfl rfl (J.gY rfl rfl rfl ?_)))
 (refine Jx.fieldAddr rfl rfl ?_)
 (refine J.gY rfl rfl rfl ?_)
 (refine Jx.fieldAddr rfl rfl ?_)
 (refine J.gY rfl rfl rfl ?_)
 (refine Jx.load rfl 0 rfl rfl rfl ?_)
 (refine J.gY rfl rfl rfl ?_)
 (refine Jx.lssI rfl rfl rfl (Jx.pF rfl rfl rfl ?_))
 (refine Jx.move rfl rfl (J.gY rfl rfl rfl ?_))
 (refine Jx.move rfl rfl (J.gY rfl rfl rfl ?_))
 (refine Jx.neqI rfl rfl rfl (Jx.pF rfl rfl rfl ?_))
 (refine Jx.move rfl rfl (J.gY rfl rfl rfl ?_))
 (refine Jx.move rfl rfl (J.gY rfl rfl rfl ?_))
 (refine Jx.fieldAddr rfl rfl ?_)
 (refine J.gY rfl rfl rfl ?_)
 (refine Jx.fieldAddr rfl rfl ?_)
 (refine J.gY rfl rfl rfl ?_)
 (refine Jx.load rfl 0 rfl rfl rfl ?_)
 (refine J.gY rfl rfl rfl ?_)
 (refine Jx.neqS rfl rfl rfl (Jx.pF rfl rfl rfl ?_))
 (refine J.nil (N.seq (W.cF rfl ?_)))
 (refine W.skip (N.seq (W.seq (W.region (Jx.fieldAddr rfl rfl ?_)))))
 (refine Jx.loadAg rfl 0 rfl rfl rfl rfl ?_)
 (refine J.call (c4) rfl (evs_args rfl) rfl ?_; rintro _ _ ⟨rfl, rfl⟩; simp only [la1, la2, la3])
 (refine Jx.move rfl rfl (J.gY rfl rfl rfl ?_))
 (refine Jx.fieldAddr rfl rfl ?_)
 (refine J.gY rfl rfl rfl ?_)
 (refine Jx.loadAg rfl 0 rfl rfl rfl rfl ?_)
 (refine J.gY rfl rfl rfl ?_)
 (refine J.call (c5) rfl (evs_args rfl) rfl ?_; rintro _ _ ⟨rfl, rfl⟩; simp only [la1, la2, la3])
 (refine J.gY rfl rfl rfl ?_)
 (refine Jx.move rfl rfl (J.gY rfl rfl rfl ?_))
 (refine Jx.fieldAddr rfl rfl ?_)
 (refine J.gY rfl rfl rfl ?_)
 (refine Jx.fieldAddr rfl rfl ?_)
 (refine J.gY rfl rfl rfl ?_)
 (refine Jx.load rfl 0 rfl rfl rfl ?_)
 (refine J.gY rfl rfl rfl ?_)
 (refine Jx.fieldAddr rfl rfl ?_)
 (refine J.gY rfl rfl rfl ?_)
 (refine Jx.fieldAddr rfl rfl ?_)
 (refine J.gY rfl rfl rfl ?_)
 (refine Jx.load rfl 0 rfl rfl rfl ?_)
 (refine J.gY rfl rfl rfl ?_)
 (refine Jx.eqlS rfl rfl rfl (J.gY rfl rfl rfl ?_))
 (refine Jx.pT rfl rfl rfl ?_)
 (refine Jx.pF rfl rfl rfl ?_)
 (refine Jx.assign rfl rfl (J.nil (N.seq (W.ret ?_))))
 (refine id ?_; rotate_left))
        exact N.retD (rs := [.tmp 2]) (L1 := []) rfl (.tmp rfl .nil) (List.nil_sublist _) ⟨rfl, rfl⟩
set_option maxHeartbeats 2000000 in
theorem rbwritten_ok (b : Bk) (hf : fineBk b = true) : FnC Tryz.prog 36 [.agg (bkC b)] [] (fun v L => v = str (encBk b) ∧ L = []) := by
  have f := (fineBk_iff b).1 hf
  obtain ⟨l1, l2, l3⟩ := f.lens
  have c1 := rtencAll_ok b.txs
  have c2 := rhwritten_ok b.head f.head
  have c3 := rtext_ok (encHd b.head) (by omega)
  have c4 := rtext_ok (encAll b.txs) (by omega)
  have c5 := rbare_ok b.just
  have c6 := rcencode_ok b.just
  have k1 := textB_len l1 (by omega); have k2 := textB_len l2 (by omega); have kf1 := flag_len true; have kf0 := flag_len false
  rw [encO, f.txs, if_pos rfl, (codeAll_zero _).2 f.txs] at c1
  have e0 : encBk b = textB (encHd b.head) ++ (textB (encAll b.txs) ++ justE b.just) := rfl
  refine FnC.intro Tryz.func36 rfl Tryz.ntmps36 rfl fun Z w0 hG => ?_
  rw [e0]
  unfold justE
  clear e0
  generalize textB (encHd b.head) = th at *
  generalize textB (encAll b.txs) = ta at *
  generalize encHd b.head = eh at *
  generalize encAll b.txs = ea at *
  cases hbare : bareCt b.just with
  | true =>
    rw [hbare] at c5
    have cf := rflag_ok false
    focus (
 (refine W.seq (W.region ?_))
 (refine J.boxAg rfl rfl ?_; intro b')
 (refine Jx.assign rfl rfl (J.nil (N.seq (W.seq (W.region (Jx.fieldAddr rfl rfl ?_))))))
 (refine Jx.load rfl 0 rfl rfl rfl ?_)
 (refine J.call (c1) rfl (evs_args rfl) rfl ?_; rintro _ _ ⟨rfl, rfl⟩; simp only [la1, la2, la3])
 (refine Jx.move rfl rfl (Jx.extract rfl rfl rfl ?_))
 (refine Jx.extract rfl rfl rfl ?_)
 (refine Jx.assign rfl rfl (Jx.assign rfl rfl (J.nil (N.seq (W.seq ?_)))))
 (refine W.draw follows ?_)
 (refine JD.calm rfl (by decide +kernel) ?_)
 (refine Cx.fieldAddr rfl rfl ?_)
 (refine Cx.loadAg rfl 0 rfl rfl rfl rfl ?_)
 (refine SegC.q (Qs.call (Lc := []) (c2) (fun s L' h => h) (List.Perm.refl _) (evs_args rfl)) rfl ?_)
 (refine SegC.q (Qs.call (Lc := []) (c3) (fun s L' h => h) (List.Perm.refl _) (evs_args rfl)) rfl ?_)
 (refine Cx.move rfl rfl ?_)
 (refine SegC.q (Qs.call (Lc := []) (c4) (fun s L' h => h) (List.Perm.refl _) (evs_args rfl)) rfl ?_)
 (refine Cx.cat rfl rfl (by first | omega | (simp only [List.length_append, List.length_cons, List.length_nil]; omega)) rfl ?_)
 (refine Cx.fieldAddr rfl rfl ?_)
 (refine Cx.loadAg rfl 0 rfl rfl rfl rfl ?_)
 (refine SegC.q (Qs.call (Lc := []) (c5) (fun s L' h => h) (List.Perm.refl _) (evs_args rfl)) rfl ?_)
 (refine Cx.not rfl rfl ?_)
 (refine SegC.q (Qs.call (Lc := []) (cf) (fun s L' h => h) (List.Perm.refl _) (evs_args rfl)) rfl ?_)
 (refine Cx.cat rfl rfl (by first | omega | (simp only [List.length_append, List.length_cons, List.length_nil]; omega)) rfl ?_)
 (refine Cx.assign rfl rfl ?_)
 (refine SegC.nil ?_)
 (refine N.seq (W.seq (W.seq (W.region (Jx.fieldAddr rfl rfl ?_)))))
 (refine Jx.loadAg rfl 0 rfl rfl rfl rfl ?_)
 (refine J.call (c5) rfl (evs_args rfl) rfl ?_; rintro _ _ ⟨rfl, rfl⟩; simp only [la1, la2, la3])
 (refine J.nil (N.seq (W.cT rfl ?_)))
 (refine W.seq (W.region (Jx.move rfl rfl (Jx.assign rfl rfl (J.nil (N.seq (W.ret (N.noGotoRet ?_))))))))
 (refine id ?_; rotate_left))
    exact N.retD (rs := [.tmp 2]) (L1 := []) rfl (.tmp rfl .nil) (List.nil_sublist _) ⟨by simp [oneOr], rfl⟩
  | false =>
    rw [hbare] at c5
    obtain ⟨hj, l4⟩ := l3 hbare
    rw [encO, hj, if_pos rfl] at c6
    have c8 := rtext_ok (encCt b.just) (by omega)
    have k3 := textB_len l4 (by omega)
    generalize textB (encCt b.just) = tc at *
    generalize encCt b.just = ec at *
    have cf := rflag_ok true
    focus (
 (refine W.seq (W.region ?_))
 (refine J.boxAg rfl rfl ?_; intro b')
 (refine Jx.assign rfl rfl (J.nil (N.seq (W.seq (W.region (Jx.fieldAddr rfl rfl ?_))))))
 (refine Jx.load rfl 0 rfl rfl rfl ?_)
 (refine J.call (c1) rfl (evs_args rfl) rfl ?_; rintro _ _ ⟨rfl, rfl⟩; simp only [la1, la2, la3])
 (refine Jx.move rfl rfl (Jx.extract rfl rfl rfl ?_))
 (refine Jx.extract rfl rfl rfl ?_)
 (refine Jx.assign rfl rfl (Jx.assign rfl rfl (J.nil (N.seq (W.seq ?_)))))
 (refine W.draw follows ?_)
 (refine JD.calm rfl (by decide +kernel) ?_)
 (refine Cx.fieldAddr rfl rfl ?_)
 (refine Cx.loadAg rfl 0 rfl rfl rfl rfl ?_)
 (refine SegC.q (Qs.call (Lc := []) (c2) (fun s L' h => h) (List.Perm.refl _) (evs_args rfl)) rfl ?_)
 (refine SegC.q (Qs.call (Lc := []) (c3) (fun s L' h => h) (List.Perm.refl _) (evs_args rfl)) rfl ?_)
 (refine Cx.move rfl rfl ?_)
 (refine SegC.q (Qs.call (Lc := []) (c4) (fun s L' h => h) (List.Perm.refl _) (evs_args rfl)) rfl ?_)
 (refine Cx.cat rfl rfl (by first | omega | (simp only [List.length_append, List.length_cons, List.length_nil]; omega)) rfl ?_)
 (refine Cx.fieldAddr rfl rfl ?_)
 (refine Cx.loadAg rfl 0 rfl rfl rfl rfl ?_)
 (refine SegC.q (Qs.call (Lc := []) (c5) (fun s L' h => h) (List.Perm.refl _) (evs_args rfl)) rfl ?_)
 (refine Cx.not rfl rfl ?_)
 (refine SegC.q (Qs.call (Lc := []) (cf) (fun s L' h => h) (List.Perm.refl _) (evs_args rfl)) rfl ?_)
 (refine Cx.cat rfl rfl (by first | omega | (simp only [List.length_append, List.length_cons, List.length_nil]; omega)) rfl ?_)
 (refine Cx.assign rfl rfl ?_)
 (refine SegC.nil ?_)
 (refine N.seq (W.seq (W.seq (W.region (Jx.fieldAddr rfl rfl ?_)))))
 (refine Jx.loadAg rfl 0 rfl rfl rfl rfl ?_)
 (refine J.call (c5) rfl (evs_args rfl) rfl ?_; rintro _ _ ⟨rfl, rfl⟩; simp only [la1, la2, la3])
 (refine J.nil (N.seq (W.cF rfl ?_)))
 (refine W.skip (N.seq (W.seq (W.region (Jx.fieldAddr rfl rfl ?_)))))
 (refine Jx.loadAg rfl 0 rfl rfl rfl rfl ?_)
 (refine J.call (c6) rfl (evs_args rfl) rfl ?_; rintro _ _ ⟨rfl, rfl⟩; simp only [la1, la2, la3])
 (refine Jx.move rfl rfl (Jx.extract rfl rfl rfl ?_))
 (refine Jx.extract rfl rfl rfl ?_)
 (refine Jx.assign rfl rfl (Jx.assign rfl rfl (J.nil (N.seq (W.seq (W.region (Jx.move rfl rfl (Jx.move rfl rfl ?_))))))))
 (refine J.call (c8) rfl (evs_args rfl) rfl ?_; rintro _ _ ⟨rfl, rfl⟩; simp only [la1, la2, la3])
 (refine Jx.cat rfl rfl (by first | omega | (simp only [List.length_append, List.length_cons, List.length_nil]; omega)) rfl ?_)
 (refine Jx.assign rfl rfl (J.nil (N.seq (W.ret ?_))))
 (refine id ?_; rotate_left))
    exact N.retD (rs := [.tmp 2]) (L1 := []) rfl (.tmp rfl .nil) (List.nil_sublist _) ⟨by simp [oneOr], rfl⟩
theorem rbcheck_ok (b : Bk) (hl : b.head.skips.length ≤ 1048576) : FnC Tryz.prog 13 [.agg (bkC b)] [] (fun v L => v = int (codeB (fineBk b) 210) ∧ L = []) := by
  have c := rbfine_ok b hl
  refine FnC.intro Tryz.func13 rfl Tryz.ntmps13 rfl fun Z w0 hG => ?_
  cases hf : fineBk b <;> rw [hf] at c
  · focus (
 (refine W.seq (W.region ?_))
 (refine J.boxAg rfl rfl ?_; intro b')
 (refine Jx.assign rfl rfl (J.nil (N.seq (W.seq (W.seq (W.region (Jx.loadAll rfl 0 rfl rfl rfl ?_)))))))
 (refine J.call (c) rfl (evs_args rfl) rfl ?_; rintro _ _ ⟨rfl, rfl⟩; simp only [la1, la2, la3])
 (refine Jx.not rfl rfl (J.nil (N.seq (W.cT rfl ?_))))
 (refine W.seq (W.region (Jx.assign rfl rfl (J.nil (N.seq (W.ret (N.noGotoRet ?_)))))))
 (refine id ?_; rotate_left))
    exact N.retD (rs := [.tmp 2]) (L1 := []) rfl (.tmp rfl .nil) (List.nil_sublist _) ⟨rfl, rfl⟩
  · focus (
 (refine W.seq (W.region ?_))
 (refine J.boxAg rfl rfl ?_; intro b')
 (refine Jx.assign rfl rfl (J.nil (N.seq (W.seq (W.seq (W.region (Jx.loadAll rfl 0 rfl rfl rfl ?_)))))))
 (refine J.call (c) rfl (evs_args rfl) rfl ?_; rintro _ _ ⟨rfl, rfl⟩; simp only [la1, la2, la3])
 (refine Jx.not rfl rfl (J.nil (N.seq (W.cF rfl ?_))))
 (refine W.skip (N.seq (W.seq (W.region (Jx.assign rfl rfl (J.nil (N.seq (W.ret ?_))))))))
 (refine id ?_; rotate_left))
    exact N.retD (rs := [.tmp 2]) (L1 := []) rfl (.tmp rfl .nil) (List.nil_sublist _) ⟨rfl, rfl⟩
theorem rbencode_ok (b : Bk) (hl : b.head.skips.length ≤ 1048576) : FnC Tryz.prog 8 [.agg (bkC b)] [] (fun v L => v = .tup [str (encO fineBk encBk b), int (codeB (fineBk b) 210)] ∧ L = []) := by
  have c := rbfine_ok b hl
  refine FnC.intro Tryz.func8 rfl Tryz.ntmps8 rfl fun Z w0 hG => ?_
  unfold encO
  cases hf : fineBk b with
  | false =>
    rw [hf] at c
    focus (
 (refine W.seq (W.region ?_))
 (refine J.boxAg rfl rfl ?_; intro b')
 (refine Jx.assign rfl rfl (Jx.assign rfl rfl (J.nil (N.seq (W.seq (W.seq (W.region (Jx.loadAll rfl 0 rfl rfl rfl ?_))))))))
 (refine J.call (c) rfl (evs_args rfl) rfl ?_; rintro _ _ ⟨rfl, rfl⟩; simp only [la1, la2, la3])
 (refine Jx.not rfl rfl (J.nil (N.seq (W.cT rfl ?_))))
 (refine W.seq (W.region (Jx.assign rfl rfl (Jx.assign rfl rfl (J.nil (N.seq (W.ret (N.noGotoRet ?_))))))))
 (refine id ?_; rotate_left))
    exact N.retD (rs := [.tmp 2, .tmp 3]) (L1 := []) rfl (.tmp rfl (.tmp rfl .nil)) (List.nil_sublist _) ⟨rfl, rfl⟩
  | true =>
    rw [hf] at c
    have c2 := rbwritten_ok b hf
    focus (
 (refine W.seq (W.region ?_))
 (refine J.boxAg rfl rfl ?_; intro b')
 (refine Jx.assign rfl rfl (Jx.assign rfl rfl (J.nil (N.seq (W.seq (W.seq (W.region (Jx.loadAll rfl 0 rfl rfl rfl ?_))))))))
 (refine J.call (c) rfl (evs_args rfl) rfl ?_; rintro _ _ ⟨rfl, rfl⟩; simp only [la1, la2, la3])
 (refine Jx.not rfl rfl (J.nil (N.seq (W.cF rfl ?_))))
 (refine W.skip (N.seq (W.seq (W.region (Jx.loadAll rfl 0 rfl rfl rfl ?_)))))
 (refine J.call (c2) rfl (evs_args rfl) rfl ?_; rintro _ _ ⟨rfl, rfl⟩; simp only [la1, la2, la3])
 (refine Jx.assign rfl rfl (Jx.assign rfl rfl (J.nil (N.seq (W.ret ?_)))))
 (refine id ?_; rotate_left))
    exact N.retD (rs := [.tmp 2, .tmp 3]) (L1 := []) rfl (.tmp rfl (.tmp rfl .nil)) (List.nil_sublist _) ⟨rfl, rfl⟩
theorem rbdigest_ok (b : Bk) (hl : b.head.skips.length ≤ 1048576) : FnC Tryz.prog 15 [.agg (bkC b)] [] (fun v L => v = str (digB b) ∧ L = []) := by
  have c := rbfine_ok b hl
  have c2 := rhdigest_ok b.head hl
  refine FnC.intro Tryz.func15 rfl Tryz.ntmps15 rfl fun Z w0 hG => ?_
  unfold digB
  cases hf : fineBk b with
  | false =>
    rw [hf] at c
    focus (
 (refine W.seq (W.region ?_))
 (refine J.boxAg rfl rfl ?_; intro b')
 (refine Jx.assign rfl rfl (J.nil (N.seq (W.seq (W.seq (W.region (Jx.loadAll rfl 0 rfl rfl rfl ?_)))))))
 (refine J.call (c) rfl (evs_args rfl) rfl ?_; rintro _ _ ⟨rfl, rfl⟩; simp only [la1, la2, la3])
 (refine Jx.not rfl rfl (J.nil (N.seq (W.cT rfl ?_))))
 (refine W.seq (W.region (Jx.assign rfl rfl (J.nil (N.seq (W.ret (N.noGotoRet ?_)))))))
 (refine id ?_; rotate_left))
    exact N.retD (rs := [.tmp 2]) (L1 := []) rfl (.tmp rfl .nil) (List.nil_sublist _) ⟨rfl, rfl⟩
  | true =>
    rw [hf] at c
    rw [if_pos rfl]
    generalize digH b.head = d at *
    focus (
 (refine W.seq (W.region ?_))
 (refine J.boxAg rfl rfl ?_; intro b')
 (refine Jx.assign rfl rfl (J.nil (N.seq (W.seq (W.seq (W.region (Jx.loadAll rfl 0 rfl rfl rfl ?_)))))))
 (refine J.call (c) rfl (evs_args rfl) rfl ?_; rintro _ _ ⟨rfl, rfl⟩; simp only [la1, la2, la3])
 (refine Jx.not rfl rfl (J.nil (N.seq (W.cF rfl ?_))))
 (refine W.skip (N.seq (W.seq (W.region (Jx.fieldAddr rfl rfl ?_)))))
 (refine Jx.loadAg rfl 0 rfl rfl rfl rfl ?_)
 (refine J.call (c2) rfl (evs_args rfl) rfl ?_; rintro _ _ ⟨rfl, rfl⟩; simp only [la1, la2, la3])
 (refine Jx.assign rfl rfl (J.nil (N.seq (W.ret ?_))))
 (refine id ?_; rotate_left))
    exact N.retD (rs := [.tmp 2]) (L1 := []) rfl (.tmp rfl .nil) (List.nil_sublist _) ⟨rfl, rfl⟩
set_option maxHeartbeats 2000000 in
theorem sameB_ok (x y : Bk) (h1 : x.head.skips.length ≤ 1048576) (h2 : x.txs.length ≤ 1048576) (h3 : ∀ t ∈ x.txs, t.members.length ≤ 1048576) (h4 : x.just.signers.length ≤ 1048576) : FnC Tryz.prog 11 [.agg (bkC x), .agg (bkC y)] [] (fun v L => v = bool (decide (x = y)) ∧ L = []) := by
  have c1 := sameH_ok x.head y.head h1
  have c2 := sameTs_ok x.txs y.txs h2 h3
  have c3 := sameC_ok x.just y.just h4
  refine FnC.intro Tryz.func11 rfl Tryz.ntmps11 rfl fun Z w0 hG => ?_
  focus (
 (refine W.seq (W.region ?_))
 (refine J.boxAg rfl rfl ?_; intro b')
 (refine J.boxAg rfl rfl ?_; intro b')
 (refine Jx.assign rfl rfl (J.nil (N.seq (W.seq (W.region (Jx.fieldAddr rfl rfl ?_))))))
 (refine Jx.loadAg rfl 1 rfl rfl rfl rfl ?_)
 (refine Jx.fieldAddr rfl rfl ?_)
 (refine Jx.loadAg rfl 0 rfl rfl rfl rfl ?_)
 (refine J.call (c1) rfl (evs_args rfl) rfl ?_; rintro _ _ ⟨rfl, rfl⟩; simp only [la1, la2, la3])
 (refine Jx.move rfl rfl ?_)
 (refine' J.guardAnd rfl rfl rfl rfl rfl rfl rfl rfl (fun _ => ?_) ?_; rotate_left)
 (refine J.gY rfl rfl rfl ?_)
 (refine Jx.fieldAddr rfl rfl ?_)
 (refine J.gY rfl rfl rfl ?_)
 (refine Jx.load rfl 1 rfl rfl rfl ?_)
 (refine J.gY rfl rfl rfl ?_)
 (refine Jx.fieldAddr rfl rfl ?_)
 (refine J.gY rfl rfl rfl ?_)
 (refine Jx.load rfl 0 rfl rfl rfl ?_)
 (refine J.gY rfl rfl rfl ?_)
 (refine J.call (c2) rfl (evs_args rfl) rfl ?_; rintro _ _ ⟨rfl, rfl⟩; simp only [la1, la2, la3])
 (refine J.nil ?_)
 (refine N.joinedN rfl rfl rfl)
 (refine Jx.move rfl rfl ?_)
 (refine' J.guardAnd rfl rfl rfl rfl rfl rfl rfl rfl (fun _ => ?_) ?_; rotate_left)
 (refine J.gY rfl rfl rfl ?_)
 (refine Jx.fieldAddr rfl rfl ?_)
 (refine J.gY rfl rfl rfl ?_)
 (refine Jx.loadAg rfl 1 rfl rfl rfl rfl ?_)
 (refine J.gY rfl rfl rfl ?_)
 (refine Jx.fieldAddr rfl rfl ?_)
 (refine J.gY rfl rfl rfl ?_)
 (refine Jx.loadAg rfl 0 rfl rfl rfl rfl ?_)
 (refine J.gY rfl rfl rfl ?_)
 (refine J.call (c3) rfl (evs_args rfl) rfl ?_; rintro _ _ ⟨rfl, rfl⟩; simp only [la1, la2, la3])
 (refine J.nil ?_)
 (refine N.joinedN rfl rfl rfl)
 (refine Jx.assign rfl rfl (J.nil (N.seq (W.ret ?_))))
 (refine id ?_; rotate_left))
  refine N.retD (rs := [.tmp 4]) (L1 := []) rfl (.tmp rfl .nil) (List.nil_sublist _) ⟨congrArg Sse.bool ?_, rfl⟩
  rw [Bool.eq_iff_iff]
  simp only [Bool.and_eq_true, decide_eq_true_eq]
  exact ⟨fun h => Bk.ext' h.1.1 h.1.2 h.2, fun h => by subst h; exact ⟨⟨rfl, rfl⟩, rfl⟩⟩
end Go.Proofs.YtlfdhkahiaammaaGreatDoor
namespace Go.Proofs.YtlfdhkahiaammaaGreatDoor
open Go Go.Sse
set_option linter.unusedVariables false
set_option linter.unusedSimpArgs false
set_option maxRecDepth 10000
abbrev hdz : List SV := [int 0, int 0, int 0, bool false, str [], str [], str [], str [], str [], str [], .val (.slice none 0 0)]
theorem hdz_sub : SubL hdz (hdC hd0) := .cons (.refl _) (.cons (.refl _) (.cons (.refl _) (.cons (.refl _) (.cons (.refl _) (.cons (.refl _) (.cons (.refl _) (.cons (.refl _) (.cons (.refl _) (.cons (.refl _) (.cons (Sub.nil 1 _) .nil))))))))))
theorem agHd : TAg Tryz.prog tHd 11 := inferInstance
theorem reps_step {n : Nat} {acc : List (List UInt8)} {t : List UInt8} {st st' : PSt} {all : List (List UInt8) × PSt} (h : all = (acc ++ (reps (n + 1) st).1, (reps (n + 1) st).2)) (hb : bytesP 32 st = (t, st')) : all = ((acc ++ [t]) ++ (reps n st').1, (reps n st').2) := by
  rw [h]; simp only [reps, hb, List.append_assoc, List.cons_append, List.nil_append]
set_option maxHeartbeats 8000000 in
theorem hdecode_ok (s : List UInt8) (hs : s.length ≤ 1099511627776) : FnC Tryz.prog 81 [str s] [] (fun v L => (∃ o, DecR fineHd encHd s o ∧ v = .tup [.agg (hdC (o.getD hd0)), int (codeO o 190)]) ∧ L = []) := by
  have c0 := read_ok s
  refine FnC.intro Tryz.func81 rfl Tryz.ntmps81 rfl fun Z w0 hG => ?_
  focus (
 (refine W.seq (W.region ?_))
 (refine J.alloc (by simp only [List.map_cons, List.map_nil]; rfl) rfl rfl ?_; intro b')
 (refine Jx.assign rfl rfl (J.nil (N.seq (W.seq (W.region (Jx.move rfl rfl ?_))))))
 (refine J.call (Lc := []) c0 rfl (evs_args rfl) rfl ?_; rintro _ _ ⟨b, rfl, rfl⟩; simp only [la1, la2, la3])
 (refine Jx.assign rfl rfl (J.nil (N.seq (W.seq (W.region ?_)))))
 (refine J.alloc (by simp only [List.map_cons, List.map_nil]; rfl) rfl rfl ?_; intro b')
 (refine J.nil (N.seq (W.seq (W.region (Jx.move rfl rfl ?_)))))
 (refine J.call1 1 ((rd_Num b s 0 0 (Nat.zero_le _) hs)) rfl (evs_args rfl) rfl (by rintro _ _ ⟨n1, a1, c1, rfl, rfl, ha1, hl1, e1⟩; exact ⟨_, rfl⟩) ?_; rintro _ _ ⟨n1, a1, c1, rfl, ⟨⟩, ha1, hl1, e1⟩; simp only [la4, la5])
 (refine Jx.move rfl rfl ?_)
 (refine J.call1 1 ((rd_Num b s a1 c1 ha1 hs)) rfl (evs_args rfl) rfl (by rintro _ _ ⟨n2, a2, c2, rfl, rfl, ha2, hl2, e2⟩; exact ⟨_, rfl⟩) ?_; rintro _ _ ⟨n2, a2, c2, rfl, ⟨⟩, ha2, hl2, e2⟩; simp only [la4, la5])
 (refine Jx.move rfl rfl ?_)
 (refine J.call1 1 ((rd_Num b s a2 c2 ha2 hs)) rfl (evs_args rfl) rfl (by rintro _ _ ⟨n3, a3, c3, rfl, rfl, ha3, hl3, e3⟩; exact ⟨_, rfl⟩) ?_; rintro _ _ ⟨n3, a3, c3, rfl, ⟨⟩, ha3, hl3, e3⟩; simp only [la4, la5])
 (refine Jx.fieldAddr rfl rfl ?_)
 (refine J.st 0 rfl rfl rfl rfl rfl rfl ?_)
 (refine Jx.fieldAddr rfl rfl ?_)
 (refine J.st 0 rfl rfl rfl rfl rfl rfl ?_)
 (refine Jx.fieldAddr rfl rfl ?_)
 (refine J.st 0 rfl rfl rfl rfl rfl rfl ?_)
 (refine J.nil (N.seq (W.seq (W.region (Jx.move rfl rfl ?_)))))
 (refine J.call1 1 ((rd_Flag b s a3 c3 ha3 hs)) rfl (evs_args rfl) rfl (by rintro _ _ ⟨lf', a4, c4, rfl, rfl, ha4, e4⟩; exact ⟨_, rfl⟩) ?_; rintro _ _ ⟨lf', a4, c4, rfl, ⟨⟩, ha4, e4⟩; simp only [la4, la5])
 (refine Jx.fieldAddr rfl rfl ?_)
 (refine J.st 0 rfl rfl rfl rfl rfl rfl ?_)
 (refine J.nil (N.seq (W.seq (W.region (Jx.move rfl rfl ?_)))))
 (refine J.call1 1 ((rd_Text b s a4 c4 32 ha4 hs)) rfl (evs_args rfl) rfl (by rintro _ _ ⟨t5, a5, c5, rfl, rfl, ha5, e5⟩; exact ⟨_, rfl⟩) ?_; rintro _ _ ⟨t5, a5, c5, rfl, ⟨⟩, ha5, e5⟩; simp only [la4, la5])
 (refine Jx.move rfl rfl ?_)
 (refine J.call1 1 ((rd_Text b s a5 c5 32 ha5 hs)) rfl (evs_args rfl) rfl (by rintro _ _ ⟨t6, a6, c6, rfl, rfl, ha6, e6⟩; exact ⟨_, rfl⟩) ?_; rintro _ _ ⟨t6, a6, c6, rfl, ⟨⟩, ha6, e6⟩; simp only [la4, la5])
 (refine Jx.move rfl rfl ?_)
 (refine J.call1 1 ((rd_Text b s a6 c6 32 ha6 hs)) rfl (evs_args rfl) rfl (by rintro _ _ ⟨t7, a7, c7, rfl, rfl, ha7, e7⟩; exact ⟨_, rfl⟩) ?_; rintro _ _ ⟨t7, a7, c7, rfl, ⟨⟩, ha7, e7⟩; simp only [la4, la5])
 (refine Jx.fieldAddr rfl rfl ?_)
 (refine J.st 0 rfl rfl rfl rfl rfl rfl ?_)
 (refine Jx.fieldAddr rfl rfl ?_)
 (refine J.st 0 rfl rfl rfl rfl rfl rfl ?_)
 (refine Jx.fieldAddr rfl rfl ?_)
 (refine J.st 0 rfl rfl rfl rfl rfl rfl ?_)
 (refine J.nil (N.seq (W.seq (W.region (Jx.move rfl rfl ?_)))))
 (refine J.call1 1 ((rd_Bytes b s a7 c7 32 ha7 hs)) rfl (evs_args rfl) rfl (by rintro _ _ ⟨t8, a8, c8, rfl, rfl, ha8, e8⟩; exact ⟨_, rfl⟩) ?_; rintro _ _ ⟨t8, a8, c8, rfl, ⟨⟩, ha8, e8⟩; simp only [la4, la5])
 (refine Jx.move rfl rfl ?_)
 (refine J.call1 1 ((rd_Bytes b s a8 c8 32 ha8 hs)) rfl (evs_args rfl) rfl (by rintro _ _ ⟨t9, a9, c9, rfl, rfl, ha9, e9⟩; exact ⟨_, rfl⟩) ?_; rintro _ _ ⟨t9, a9, c9, rfl, ⟨⟩, ha9, e9⟩; simp only [la4, la5])
 (refine Jx.move rfl rfl ?_)
 (refine J.call1 1 ((rd_Bytes b s a9 c9 32 ha9 hs)) rfl (evs_args rfl) rfl (by rintro _ _ ⟨t10, a10, c10, rfl, rfl, ha10, e10⟩; exact ⟨_, rfl⟩) ?_; rintro _ _ ⟨t10, a10, c10, rfl, ⟨⟩, ha10, e10⟩; simp only [la4, la5])
 (refine Jx.fieldAddr rfl rfl ?_)
 (refine J.st 0 rfl rfl rfl rfl rfl rfl ?_)
 (refine Jx.fieldAddr rfl rfl ?_)
 (refine J.st 0 rfl rfl rfl rfl rfl rfl ?_)
 (refine Jx.fieldAddr rfl rfl ?_)
 (refine J.st 0 rfl rfl rfl rfl rfl rfl ?_)
 (refine J.nil (N.seq (W.seq (W.seq (W.region (Jx.fieldAddr rfl rfl ?_))))))
 (refine Jx.load rfl 0 rfl rfl rfl ?_)
 (refine J.call ((links_ok (n1 : Int))) rfl (evs_args rfl) rfl ?_; rintro _ _ ⟨rfl, rfl⟩; simp only [la1, la2, la3])
 (refine Jx.lenSl rfl rfl ?_)
 (refine Jx.move rfl rfl (J.nil (N.seq (W.block ?_))))
 (refine id ?_; rotate_left))
  rename_i p2
  have hln := linksI_len (n1 : Int)
  refine W.rowNil 9 1 (elOf (fun a => [str a]) [] []) ?_
  refine W.perm (List.Perm.trans (List.Perm.cons _ (List.Perm.swap _ _ _)) (List.Perm.swap _ _ _)) ?_
  refine W.loop (α := Value × List (List UInt8) × Nat × Int) (fun x => [(42, int (x.2.1.length : Int)), (41, int ((linksI (n1 : Int)).length : Int)), (5, ptr b'), (4, ptr b), (2, ptr p2)])
    (fun x => [rdO b ⟨s, x.2.2.1, x.2.2.2⟩, .row x.1 9 1 x.2.1.length (elOf (fun a => [str a]) [] x.2.1), .obj b' tHd [int (n1 : Int), int (n2 : Int), int (n3 : Int), bool lf', str t5, str t6, str t7, str t8, str t9, str t10, .val x.1], .obj p2 tHd hdz])
    (fun x => x.2.2.1 ≤ s.length ∧ x.2.1.length ≤ (linksI (n1 : Int)).length ∧ reps (linksI (n1 : Int)).length (lf s a10 c10) = (x.2.1 ++ (reps ((linksI (n1 : Int)).length - x.2.1.length) (lf s x.2.2.1 x.2.2.2)).1, (reps ((linksI (n1 : Int)).length - x.2.1.length) (lf s x.2.2.1 x.2.2.2)).2)) (fun x => (linksI (n1 : Int)).length - x.2.1.length) (.slice none 0 0, [], a10, c10) ⟨ha10, by simp, by simp⟩ rfl ⟨ref0 rfl, ref0 rfl, ref0 rfl, ref0 rfl, ref0 rfl, trivial⟩ ?_
  rintro ⟨u, acc, a, c⟩ ⟨ha, hi, hr⟩
  simp only at ha hi hr ⊢
  have rdh : ∀ (sk : List (List UInt8)) (st : PSt), reps (linksI (n1 : Int)).length (lf s a10 c10) = (sk, st) → ReadH s ⟨n1, n2, n3, lf', t5, t6, t7, t8, t9, t10, sk⟩ st := fun sk st h =>
    ⟨n1, n2, n3, _, _, _, _, _, _, _, _, _, _, e1, rfl, e2, rfl, e3, rfl, e4, e5, e6, e7, e8, e9, e10, h⟩
  by_cases h1 : acc.length < (linksI (n1 : Int)).length
  · have cb := rd_Bytes b s a c 32 ha hs
    have hmx : ∀ t : List UInt8, acc.length + [t].length ≤ maxLen ∧ (acc.length + [t].length) * 16 ≤ 140737488355328 := fun t => by simp only [maxLen, List.length_cons, List.length_nil]; omega
    have hsucc : (linksI (n1 : Int)).length - acc.length = ((linksI (n1 : Int)).length - (acc.length + 1)) + 1 := by omega
    focus (
 (refine W.seq (W.region (Jx.lssI rfl rfl rfl (J.nil (N.seq (W.seq (W.cT rfl ?_)))))))
 (refine W.skip (N.seq (W.seq (W.block ?_))))
 (refine W.draw follows ?_)
 (refine JD.begin 8 rfl ?_; refine JP.more [0, 1, 2] _ rfl (by decide +kernel) ?_)
 (refine Cx.fieldAddr rfl rfl ?_)
 (refine Cx.load rfl 2 rfl rfl rfl ?_)
 (refine Cx.move rfl rfl ?_)
 (refine SegC.nil ?_)
 (refine JP.call (idx := [0, 1, 2]) (Lc := [rdO b ⟨s, a, c⟩]) 3 [46] [2, 3] [0, 1] cb rfl (by decide +kernel) rfl ?_ (evs_args rfl) rfl ?_; rotate_left; rintro _ _ ⟨t, a', c', rfl, rfl, ha', hb'⟩; simp only [List.cons_append, List.nil_append]; refine JP.more [4] _ rfl (by decide +kernel) ?_; rotate_left)
 (refine Cx.fieldAddr rfl rfl ?_)
 (refine Cx.load rfl 2 rfl rfl rfl ?_)
 (refine Cx.move rfl rfl ?_)
 (refine SegC.nil ?_)
 (refine Ag.cons rfl ?_)
 (refine Ag.cons rfl ?_)
 (refine Ag.cons rfl ?_)
 (refine Ag.nil)
 (refine SegC.q (Qs.buildTexts [t] rfl rfl rfl (by decide) (by decide)) rfl ?_)
 (refine SegC.nil ?_)
 (refine JP.perm (List.Perm.swap _ _ _) ?_; refine JP.append (idx := [0, 1, 4]) (m := acc) (m2 := [t]) 5 [45, 48] [0, 1, 2, 3, 4, 5] [] (by decide +kernel) rfl ?_ rfl (SrcOK.sl rfl) rfl rfl (hmx t) rfl ?_; rotate_left; intro v' hv'; rotate_left)
 (refine Cx.fieldAddr rfl rfl ?_)
 (refine Cx.load rfl 2 rfl rfl rfl ?_)
 (refine SegC.q (Qs.buildTexts [t] rfl rfl rfl (by decide) (by decide)) rfl ?_)
 (refine SegC.nil ?_)
 (refine Ag.cons rfl ?_)
 (refine Ag.cons rfl ?_)
 (refine Ag.cons rfl ?_)
 (refine Ag.nil)
 (refine JP.tail (idx := []) 6 (by decide +kernel) (by decide +kernel) rfl rfl ?_ ?_)
 (refine SegC.nil ?_)
 (refine Ag.nil)
 (refine Jx.fieldAddr rfl rfl ?_)
 (refine J.store rfl rfl (One.val hv') 2 rfl rfl rfl rfl ?_)
 (refine J.nil (N.seq (W.region (Jx.add64 rfl rfl (by omega) rfl ?_))))
 (refine Jx.move rfl rfl (J.nil ?_))
 (refine id ?_; rotate_left))
    refine N.perm (List.Perm.swap _ _ _) ?_
    refine N.round (v', acc ++ [t], a', c') ⟨ha', by simp only [List.length_append, List.length_cons, List.length_nil]; omega, ?_⟩ (by simp only [List.length_append, List.length_cons, List.length_nil]; omega) rfl ⟨⟨_, rfl, Sub.of_eq (by simp)⟩, ref0 rfl, ref0 rfl, ref0 rfl, ref0 rfl, trivial⟩
    rw [hsucc] at hr
    have := reps_step hr hb'
    simpa only [List.length_append, List.length_cons, List.length_nil, Nat.zero_add] using this
  · have hlen : acc.length = (linksI (n1 : Int)).length := by omega
    rw [hlen, Nat.sub_self] at hr
    simp only [reps, List.append_nil] at hr
    have hrd := rdh _ _ hr
    refine W.freezeCell 1 1 10 rfl rfl rfl (by simp only [maxLen]; omega) rfl ?_
    have ce := rd_End b s a c ha hs
    have ck := hcheck_ok ⟨n1, n2, n3, lf', t5, t6, t7, t8, t9, t10, acc⟩ (by simp only; omega)
    generalize hx : (⟨n1, n2, n3, lf', t5, t6, t7, t8, t9, t10, acc⟩ : Hd) = x at *
    rw [show [int (n1 : Int), int (n2 : Int), int (n3 : Int), bool lf', str t5, str t6, str t7, str t8, str t9, str t10, SV.val u].set 10 (SV.sl 1 acc.length (elOf (fun a => [str a]) [] acc)) = hdC x by rw [← hx]; rfl]
    focus (
 (refine W.seq (W.region (Jx.lssI rfl rfl rfl (J.nil (N.seq (W.seq (W.cF rfl ?_)))))))
 (refine W.exit (N.seq (W.seq (W.seq (W.region (Jx.move rfl rfl ?_))))))
 (refine J.call (ce) rfl (evs_args rfl) rfl ?_; rintro _ _ ⟨e, a', c', rfl, rfl, he⟩; simp only [la1, la2, la3])
 (refine Jx.neqI rfl rfl rfl (Jx.move rfl rfl ?_))
 (refine' J.guardOr rfl rfl rfl rfl rfl rfl rfl rfl (fun _ => ?_) ?_; rotate_left)
 (refine J.gY rfl rfl rfl ?_)
 (refine Jx.loadAll rfl 1 rfl rfl rfl ?_)
 (refine J.gY rfl rfl rfl ?_)
 (refine J.cP ck (evs_args rfl) rfl ?_; try simp only)
 (refine J.gY rfl rfl rfl ?_)
 (refine Jx.neqI rfl rfl rfl (J.nil ?_))
 (refine N.joinedN rfl rfl rfl)
 (refine J.nil (N.seq ?_))
 (refine id ?_; rotate_left))
    refine W.cond rfl (fun hb => ?_) (fun hb => ?_)
    · focus (
 (refine W.seq (W.region (Jx.buildB rfl rfl rfl rfl rfl ?_)))
 (refine J.storeAll rfl rfl rfl 2 rfl rfl rfl ?_)
 (refine Jx.assign rfl rfl (J.nil (N.seq (W.ret (N.noGotoRet ?_)))))
 (refine id ?_; rotate_left))
      refine N.objSub 2 (hdC hd0) rfl hdz_sub rfl ?_
      refine N.retD (rs := [.cell 2 tHd, .tmp 3]) (L1 := []) rfl (.cell rfl 2 rfl agHd (.tmp rfl .nil)) (List.nil_sublist _) ⟨⟨none, fun y hy hz => ?_, rfl⟩, rfl⟩
      obtain ⟨rfl, h2⟩ := hrd.whole ((fineHd_iff y).1 hy) hz
      rw [he.2 h2, hy] at hb
      simp at hb
    · focus (
 (refine W.skip (N.seq (W.seq (W.region (Jx.loadAll rfl 1 rfl rfl rfl ?_)))))
 (refine J.storeAll rfl rfl rfl 2 rfl rfl rfl ?_)
 (refine Jx.assign rfl rfl (J.nil (N.seq (W.ret ?_))))
 (refine id ?_; rotate_left))
      refine N.retD (rs := [.cell 2 tHd, .tmp 3]) (L1 := []) rfl (.cell rfl 2 rfl agHd (.tmp rfl .nil)) (List.nil_sublist _) ⟨⟨some x, ?_, rfl⟩, rfl⟩
      simp only [Bool.or_eq_false_iff, decide_eq_false_iff_not] at hb
      have hf : fineHd x = true := by
        cases hf : fineHd x with
        | true => rfl
        | false => rw [hf] at hb; simp at hb
      rw [he.1 (by omega)] at hrd
      exact ⟨hf, hrd.sound⟩
end Go.Proofs.YtlfdhkahiaammaaGreatDoor
namespace Go.Proofs.YtlfdhkahiaammaaGreatDoor
open Go Go.Sse
set_option linter.unusedVariables false
set_option linter.unusedSimpArgs false
set_option maxRecDepth 10000
theorem bhead_ok (s : List UInt8) (hs : s.length ≤ 1099511627776) (p : Nat) (x : Bk) : FnC Tryz.prog 38 [str s, ptr p] [.obj p tBk (bkC x)] (fun v L => (∃ o, DecR fineHd encHd s o ∧ v = bool o.isSome ∧ L = [.obj p tBk (bkC ⟨o.getD hd0, x.txs, x.just⟩)])) := by
  have c := hdecode_ok s hs
  refine FnC.intro Tryz.func38 rfl Tryz.ntmps38 rfl fun Z w0 hG => ?_
  focus (
 (refine W.seq (W.region (Jx.assign rfl rfl (J.nil (N.seq (W.seq (W.region (Jx.move rfl rfl ?_))))))))
 (refine J.call (Lc := []) c rfl (evs_args rfl) rfl ?_; rintro _ _ ⟨⟨o, ho, rfl⟩, rfl⟩; simp only [la1, la2, la3])
 (refine Jx.move rfl rfl (Jx.extract rfl rfl rfl ?_))
 (refine Jx.extract rfl rfl rfl ?_)
 (refine J.alloc (by simp only [List.map_cons, List.map_nil]; rfl) rfl rfl ?_; intro b')
 (refine J.storeAll rfl rfl rfl 0 rfl rfl rfl ?_)
 (refine Jx.assign rfl rfl (J.nil (N.seq (W.seq (W.region (Jx.move rfl rfl (Jx.loadAll rfl 0 rfl rfl rfl ?_)))))))
 (refine Jx.nilCheck rfl rfl ?_)
 (refine Jx.fieldAddr rfl rfl ?_)
 (refine J.storeAg rfl rfl rfl 1 rfl rfl rfl rfl ?_)
 (refine J.nil (N.seq (W.seq (W.region (Jx.move rfl rfl (Jx.eqlI rfl rfl rfl (Jx.assign rfl rfl (J.nil (N.seq (W.ret ?_))))))))))
 (refine id ?_; rotate_left))
  refine N.retD (rs := [.tmp 4]) (L1 := [.obj p tBk (bkC ⟨o.getD hd0, x.txs, x.just⟩)]) rfl (.tmp rfl .nil) (List.sublist_cons_self _ _) ⟨o, ho, ?_, rfl⟩
  cases o <;> rfl
theorem btxs_ok (s : List UInt8) (hs : s.length ≤ 1099511627776) (p : Nat) (x : Bk) : FnC Tryz.prog 39 [str s, ptr p] [.obj p tBk (bkC x)] (fun v L => (∃ o, DecR fineAll encAll s o ∧ v = bool o.isSome ∧ L = [.obj p tBk (bkC ⟨x.head, o.getD [], x.just⟩)])) := by
  have c := tdecAll_ok s hs
  refine FnC.intro Tryz.func39 rfl Tryz.ntmps39 rfl fun Z w0 hG => ?_
  focus (
 (refine W.seq (W.region (Jx.assign rfl rfl (J.nil (N.seq (W.seq (W.region (Jx.move rfl rfl ?_))))))))
 (refine J.call (Lc := []) c rfl (evs_args rfl) rfl ?_; rintro _ _ ⟨⟨o, ho, rfl⟩, rfl⟩; simp only [la1, la2, la3])
 (refine Jx.move rfl rfl (Jx.extract rfl rfl rfl ?_))
 (refine Jx.extract rfl rfl rfl ?_)
 (refine Jx.assign rfl rfl (Jx.assign rfl rfl (J.nil (N.seq (W.seq (W.region (Jx.move rfl rfl (Jx.move rfl rfl (Jx.nilCheck rfl rfl ?_)))))))))
 (refine Jx.fieldAddr rfl rfl ?_)
 (refine J.st 0 rfl rfl rfl rfl rfl rfl ?_)
 (refine J.nil (N.seq (W.seq (W.region (Jx.move rfl rfl (Jx.eqlI rfl rfl rfl (Jx.assign rfl rfl (J.nil (N.seq (W.ret ?_))))))))))
 (refine id ?_; rotate_left))
  refine N.ret (rs := [.tmp 4]) rfl (.tmp rfl .nil) ⟨o, ho, ?_, rfl⟩
  cases o <;> rfl
theorem bjust_ok (s : List UInt8) (hs : s.length ≤ 1099511627776) (p : Nat) (x : Bk) : FnC Tryz.prog 42 [str s, ptr p] [.obj p tBk (bkC x)] (fun v L => (∃ o, DecR fineCt encCt s o ∧ v = bool o.isSome ∧ L = [.obj p tBk (bkC ⟨x.head, x.txs, o.getD ct0⟩)])) := by
  have c := cdecode_ok s hs
  refine FnC.intro Tryz.func42 rfl Tryz.ntmps42 rfl fun Z w0 hG => ?_
  focus (
 (refine W.seq (W.region (Jx.assign rfl rfl (J.nil (N.seq (W.seq (W.region (Jx.move rfl rfl ?_))))))))
 (refine J.call (Lc := []) c rfl (evs_args rfl) rfl ?_; rintro _ _ ⟨⟨o, ho, rfl⟩, rfl⟩; simp only [la1, la2, la3])
 (refine Jx.move rfl rfl (Jx.extract rfl rfl rfl ?_))
 (refine Jx.extract rfl rfl rfl ?_)
 (refine J.alloc (by simp only [List.map_cons, List.map_nil]; rfl) rfl rfl ?_; intro b')
 (refine J.storeAll rfl rfl rfl 0 rfl rfl rfl ?_)
 (refine Jx.assign rfl rfl (J.nil (N.seq (W.seq (W.region (Jx.move rfl rfl (Jx.loadAll rfl 0 rfl rfl rfl ?_)))))))
 (refine Jx.nilCheck rfl rfl ?_)
 (refine Jx.fieldAddr rfl rfl ?_)
 (refine J.storeAg rfl rfl rfl 1 rfl rfl rfl rfl ?_)
 (refine J.nil (N.seq (W.seq (W.region (Jx.move rfl rfl (Jx.eqlI rfl rfl rfl (Jx.assign rfl rfl (J.nil (N.seq (W.ret ?_))))))))))
 (refine id ?_; rotate_left))
  refine N.retD (rs := [.tmp 4]) (L1 := [.obj p tBk (bkC ⟨x.head, x.txs, o.getD ct0⟩)]) rfl (.tmp rfl .nil) (List.sublist_cons_self _ _) ⟨o, ho, ?_, rfl⟩
  cases o <;> rfl
abbrev nHead : Nat := 38
abbrev nTxs : Nat := 39
def PartR (s : List UInt8) (x : Bk) (fine : Bool) (st : PSt) : Nat → Prop
  | 0 => x = bk0 ∧ fine = true ∧ st = some s
  | 1 => ∃ t1 o1, textP 65536 (some s) = (t1, st) ∧ DecR fineHd encHd t1 o1 ∧ x = ⟨o1.getD hd0, [], ct0⟩ ∧ fine = o1.isSome
  | _ => ∃ t1 s1 t2 o1 o2, textP 65536 (some s) = (t1, s1) ∧ DecR fineHd encHd t1 o1 ∧ textP 65536 s1 = (t2, st) ∧ DecR fineAll encAll t2 o2 ∧ x = ⟨o1.getD hd0, o2.getD [], ct0⟩ ∧ fine = (o2.isSome && o1.isSome)
theorem PartR.read {s : List UInt8} {x : Bk} {fine : Bool} {st2 st : PSt} {c : Ct} {k : Bool} (h : PartR s x fine st2 2) (hj : JustR 65536 st2 c k st) : ∃ k1 k2, ReadB 65536 s ⟨x.head, x.txs, c⟩ k1 k2 k st ∧ fine = (k2 && k1) := by
  obtain ⟨t1, s1, t2, o1, o2, e1, d1, e2, d2, rfl, hf⟩ := h
  exact ⟨o1.isSome, o2.isSome, ⟨t1, s1, t2, st2, o1, o2, e1, d1, rfl, rfl, e2, d2, rfl, rfl, hj⟩, hf⟩
theorem dec_skips {s : List UInt8} {o : Option Hd} (h : DecR fineHd encHd s o) : (o.getD hd0).skips.length ≤ 1048576 := by
  cases o with
  | none => simp [hd0]
  | some x => have := ((fineHd_iff x).1 h.1).skips20; simp only [Option.getD_some]; omega
set_option maxHeartbeats 8000000 in
theorem bdecode_ok (s : List UInt8) (hs : s.length ≤ 1099511627776) : FnC Tryz.prog 9 [str s] [] (fun v L => (∃ o, DecR fineBk encBk s o ∧ v = .tup [.agg (bkC (o.getD bk0)), int (codeO o 210)]) ∧ L = []) := by
  have c0 := read_ok s
  refine FnC.intro Tryz.func9 rfl Tryz.ntmps9 rfl fun Z w0 hG => ?_
  focus (
 (refine W.seq (W.region ?_))
 (refine J.alloc (by simp only [List.map_cons, List.map_nil]; rfl) rfl rfl ?_; intro b')
 (refine Jx.assign rfl rfl (J.nil (N.seq (W.seq (W.region (Jx.move rfl rfl ?_))))))
 (refine J.call (Lc := []) c0 rfl (evs_args rfl) rfl ?_; rintro _ _ ⟨b, rfl, rfl⟩; simp only [la1, la2, la3])
 (refine Jx.assign rfl rfl (J.nil (N.seq (W.seq (W.region ?_)))))
 (refine J.alloc (by simp only [List.map_cons, List.map_nil]; rfl) rfl rfl ?_; intro b')
 (refine J.nil (N.seq (W.seq (W.region (Jx.assign rfl rfl (J.nil (N.seq (W.seq (W.seq (W.region (Jx.buildB rfl rfl rfl rfl rfl ?_)))))))))))
 (refine Jx.buildB rfl rfl rfl rfl rfl ?_)
 (refine J.qs (Qs.buildAgs (fun f : Nat => [fnV f]) 0 [nHead, nTxs] rfl rfl (fun _ => rfl) rfl rfl (by decide) (by decide) rfl) rfl ?_)
 (refine Jx.lenSl rfl rfl ?_)
 (refine Jx.move rfl rfl (J.nil (N.seq (W.block ?_))))
 (refine id ?_; rotate_left))
  rename_i p2
  obtain ⟨p5, hp5⟩ : ∃ q, q = b' := ⟨_, rfl⟩
  subst hp5
  refine W.objSub 0 (bkC bk0) rfl bkz_sub rfl ?_
  refine W.loop (α := Nat × Bk × Bool × Nat × Int) (fun x => [(16, int (x.1 : Int)), (15, int (2 : Nat)), (14, .sl 1 2 (elOf (fun f : Nat => [fnV f]) 0 [nHead, nTxs])), (6, bool x.2.2.1), (5, ptr p5), (4, ptr b), (2, ptr p2)])
    (fun x => [.obj p5 tBk (bkC x.2.1), rdO b ⟨s, x.2.2.2.1, x.2.2.2.2⟩, .obj p2 tBk bkz]) (fun x => x.1 ≤ 2 ∧ x.2.2.2.1 ≤ s.length ∧ PartR s x.2.1 x.2.2.1 (lf s x.2.2.2.1 x.2.2.2.2) x.1) (fun x => 2 - x.1) (0, bk0, true, 0, 0) ⟨by decide, Nat.zero_le _, rfl, rfl, rfl⟩ rfl ⟨ref0 rfl, ref0 rfl, ref0 rfl, ref0 rfl, ref0 rfl, ref0 rfl, ref0 rfl, trivial⟩ ?_
  rintro ⟨k, x, fine, a, c⟩ ⟨hk, ha, hr⟩
  simp only at hk ha hr ⊢
  match k, hk, hr with
  | 0, _, hr =>
    have h02 : 0 < 2 := by decide
    have cr := rd_Text b s a c 65536 ha hs
    obtain ⟨rfl, rfl, hst⟩ := hr
    focus (
 (refine W.seq (W.region (Jx.lssI rfl rfl rfl (J.nil (N.seq (W.seq (W.cT rfl ?_)))))))
 (refine W.skip (N.seq (W.seq (W.block (W.seq (W.region (Jx.indexEl rfl rfl (by assumption) rfl rfl ?_)))))))
 (refine Jx.loadPPall rfl rfl rfl ?_)
 (refine J.alloc (by simp only [List.map_cons, List.map_nil]; rfl) rfl rfl ?_; intro b')
 (refine J.storeAll rfl rfl rfl 0 rfl rfl rfl ?_)
 (refine J.nil (N.seq ?_))
 (refine W.draw follows ?_)
 (refine JD.begin 9 rfl ?_; refine JP.more [0, 1, 2] _ rfl (by decide +kernel) ?_)
 (refine Cx.fieldAddr rfl rfl ?_)
 (refine Cx.load rfl 0 rfl rfl rfl ?_)
 (refine Cx.move rfl rfl ?_)
 (refine SegC.nil ?_)
 (focus (refine JP.perm (List.Perm.trans (List.Perm.cons _ (List.Perm.swap _ _ _)) (List.Perm.swap _ _ _)) ?_; refine JP.call (idx := [0, 1, 2]) (Lc := [rdO b ⟨s, a, c⟩]) 3 [22] [2, 3] [0, 1] cr rfl (by decide +kernel) rfl ?_ (evs_args rfl) rfl ?_; rotate_left); rintro _ _ ⟨t, a', c', rfl, rfl, ha', hb'⟩; simp only [List.cons_append, List.nil_append])
 (focus (refine JP.perm (List.Perm.trans (List.Perm.cons _ (List.Perm.swap _ _ _)) (List.Perm.swap _ _ _)) ?_; refine JP.callV (us := []) (vs := []) (args := [str t, ptr p5]) (idx := [0, 1]) (Lc := [.obj p5 tBk (bkC bk0)]) 4 [21, 23, 5] [0, 1, 2, 3, 4] [] (bhead_ok t (by have := bound_text hb'; omega) p5 bk0) rfl (by decide +kernel) rfl ?_ rfl (evs_args rfl) rfl ?_; rotate_left); rintro _ _ ⟨o, ho, rfl, rfl⟩; simp only [List.cons_append, List.nil_append])
 (refine JP.tail (idx := []) 5 (by decide +kernel) (by decide +kernel) rfl rfl ?_ ?_)
 (refine SegC.nil ?_)
 (refine Ag.nil)
 (refine Jx.move rfl rfl ?_)
 (refine' J.guardAnd rfl rfl rfl rfl rfl rfl rfl rfl (fun _ => ?_) ?_; rotate_left)
 (refine J.gY rfl rfl rfl ?_)
 (refine Jx.move rfl rfl (J.nil ?_))
 (refine N.joinedN rfl rfl rfl)
 (refine Jx.assign rfl rfl (J.nil (N.seq (W.region (Jx.add64 rfl rfl (by omega) rfl ?_)))))
 (refine Jx.move rfl rfl (J.nil ?_))
 (refine id ?_; rotate_left)
 (refine Cx.fieldAddr rfl rfl ?_)
 (refine Cx.load rfl 2 rfl rfl rfl ?_)
 (refine SegC.nil ?_)
 (refine Ag.cons rfl ?_)
 (refine Ag.cons rfl ?_)
 (refine Ag.nil)
 (refine Cx.fieldAddr rfl rfl ?_)
 (refine Cx.load rfl 1 rfl rfl rfl ?_)
 (refine Cx.move rfl rfl ?_)
 (refine SegC.nil ?_)
 (refine Ag.cons rfl ?_)
 (refine Ag.cons rfl ?_)
 (refine Ag.cons rfl ?_)
 (refine Ag.nil))
    refine N.drop (List.Sublist.cons_cons _ (List.Sublist.cons_cons _ (List.sublist_cons_self _ _))) ?_
    exact N.round (0 + 1, ⟨o.getD hd0, [], ct0⟩, o.isSome && true, a', c') ⟨by simp only; omega, ha', ⟨t, o, by rw [← hst]; exact hb', ho, rfl, Bool.and_true _⟩⟩ (by simp only; omega) rfl ⟨ref0 rfl, ref0 rfl, ref0 rfl, ref0 rfl, ref0 rfl, ref0 rfl, ref0 rfl, trivial⟩
  | 1, _, hr =>
    have h02 : 1 < 2 := by decide
    have cr := rd_Text b s a c 65536 ha hs
    obtain ⟨t1, o1, e1, d1, rfl, rfl⟩ := hr
    focus (
 (refine W.seq (W.region (Jx.lssI rfl rfl rfl (J.nil (N.seq (W.seq (W.cT rfl ?_)))))))
 (refine W.skip (N.seq (W.seq (W.block (W.seq (W.region (Jx.indexEl rfl rfl (by assumption) rfl rfl ?_)))))))
 (refine Jx.loadPPall rfl rfl rfl ?_)
 (refine J.alloc (by simp only [List.map_cons, List.map_nil]; rfl) rfl rfl ?_; intro b')
 (refine J.storeAll rfl rfl rfl 0 rfl rfl rfl ?_)
 (refine J.nil (N.seq ?_))
 (refine W.draw follows ?_)
 (refine JD.begin 9 rfl ?_; refine JP.more [0, 1, 2] _ rfl (by decide +kernel) ?_)
 (refine Cx.fieldAddr rfl rfl ?_)
 (refine Cx.load rfl 0 rfl rfl rfl ?_)
 (refine Cx.move rfl rfl ?_)
 (refine SegC.nil ?_)
 (focus (refine JP.perm (List.Perm.trans (List.Perm.cons _ (List.Perm.swap _ _ _)) (List.Perm.swap _ _ _)) ?_; refine JP.call (idx := [0, 1, 2]) (Lc := [rdO b ⟨s, a, c⟩]) 3 [22] [2, 3] [0, 1] cr rfl (by decide +kernel) rfl ?_ (evs_args rfl) rfl ?_; rotate_left); rintro _ _ ⟨t, a', c', rfl, rfl, ha', hb'⟩; simp only [List.cons_append, List.nil_append])
 (focus (refine JP.perm (List.Perm.trans (List.Perm.cons _ (List.Perm.swap _ _ _)) (List.Perm.swap _ _ _)) ?_; refine JP.callV (us := []) (vs := []) (args := [str t, ptr p5]) (idx := [0, 1]) (Lc := [.obj p5 tBk (bkC ⟨o1.getD hd0, [], ct0⟩)]) 4 [21, 23, 5] [0, 1, 2, 3, 4] [] (btxs_ok t (by have := bound_text hb'; omega) p5 ⟨o1.getD hd0, [], ct0⟩) rfl (by decide +kernel) rfl ?_ rfl (evs_args rfl) rfl ?_; rotate_left); rintro _ _ ⟨o, ho, rfl, rfl⟩; simp only [List.cons_append, List.nil_append])
 (refine JP.tail (idx := []) 5 (by decide +kernel) (by decide +kernel) rfl rfl ?_ ?_)
 (refine SegC.nil ?_)
 (refine Ag.nil)
 (refine Jx.move rfl rfl ?_)
 (refine' J.guardAnd rfl rfl rfl rfl rfl rfl rfl rfl (fun _ => ?_) ?_; rotate_left)
 (refine J.gY rfl rfl rfl ?_)
 (refine Jx.move rfl rfl (J.nil ?_))
 (refine N.joinedN rfl rfl rfl)
 (refine Jx.assign rfl rfl (J.nil (N.seq (W.region (Jx.add64 rfl rfl (by omega) rfl ?_)))))
 (refine Jx.move rfl rfl (J.nil ?_))
 (refine id ?_; rotate_left)
 (refine Cx.fieldAddr rfl rfl ?_)
 (refine Cx.load rfl 2 rfl rfl rfl ?_)
 (refine SegC.nil ?_)
 (refine Ag.cons rfl ?_)
 (refine Ag.cons rfl ?_)
 (refine Ag.nil)
 (refine Cx.fieldAddr rfl rfl ?_)
 (refine Cx.load rfl 1 rfl rfl rfl ?_)
 (refine Cx.move rfl rfl ?_)
 (refine SegC.nil ?_)
 (refine Ag.cons rfl ?_)
 (refine Ag.cons rfl ?_)
 (refine Ag.cons rfl ?_)
 (refine Ag.nil))
    refine N.drop (List.Sublist.cons_cons _ (List.Sublist.cons_cons _ (List.sublist_cons_self _ _))) ?_
    exact N.round (1 + 1, ⟨o1.getD hd0, o.getD [], ct0⟩, o.isSome && o1.isSome, a', c') ⟨by simp only; omega, ha', ⟨t1, _, t, o1, o, e1, d1, hb', ho, rfl, rfl⟩⟩ (by simp only; omega) rfl ⟨ref0 rfl, ref0 rfl, ref0 rfl, ref0 rfl, ref0 rfl, ref0 rfl, ref0 rfl, trivial⟩
  | 2, _, hr =>
    have cfl := rd_Flag b s a c ha hs
    have hjs : x.just = ct0 := by obtain ⟨_, _, _, o1, o2, _, _, _, _, h, _⟩ := hr; rw [h]
    have hsk : x.head.skips.length ≤ 1048576 := by obtain ⟨_, _, _, o1, o2, _, d1, _, _, h, _⟩ := hr; rw [h]; exact dec_skips d1
    obtain ⟨xh, xt, xj⟩ := x
    simp only at hjs hsk
    subst hjs
    focus (
 (refine W.seq (W.region (Jx.lssI rfl rfl rfl (J.nil (N.seq (W.seq (W.cF rfl ?_)))))))
 (refine W.exit (N.seq (W.seq (W.seq (W.region (Jx.move rfl rfl ?_))))))
 (refine J.call1 1 (cfl) rfl (evs_args rfl) rfl (by rintro _ _ ⟨f, a1, c1, rfl, rfl, ha1, hfl⟩; exact ⟨_, rfl⟩) ?_; rintro _ _ ⟨f, a1, c1, rfl, ⟨⟩, ha1, hfl⟩; simp only [la4, la5])
 (refine J.nil (N.seq ?_))
 (refine id ?_; rotate_left))
    refine W.joinE (α := Ct × Bool × Bool × Nat × Int) (fun y => [(6, bool (y.2.1 && fine)), (5, ptr p5), (4, ptr b), (2, ptr p2)]) (fun y => [.obj p5 tBk (bkC ⟨xh, xt, y.1⟩), rdO b ⟨s, y.2.2.2.1, y.2.2.2.2⟩, .obj p2 tBk bkz]) (fun y => y.2.2.2.1 ≤ s.length ∧ JustR 65536 (lf s a c) y.1 y.2.1 (lf s y.2.2.2.1 y.2.2.2.2)) ?_ ?_
    · cases f with
      | false =>
        focus (
 (refine W.cF rfl ?_)
 (refine W.skip ?_)
 (refine id ?_; rotate_left))
        exact N.joinE (ct0, true, true, a1, c1) ⟨ha1, _, _, hfl, fun _ => ⟨rfl, rfl, rfl⟩, fun h => by cases h⟩ rfl ⟨ref0 rfl, ref0 rfl, ref0 rfl, ref0 rfl, trivial⟩
      | true =>
        have cr := rd_Text b s a1 c1 65536 ha1 hs
        focus (
 (refine W.cT rfl ?_)
 (refine W.seq (W.region (Jx.buildB rfl rfl rfl rfl rfl ?_)))
 (refine J.alloc (by simp only [List.map_cons, List.map_nil]; rfl) rfl rfl ?_; intro b')
 (refine J.storeAll rfl rfl rfl 0 rfl rfl rfl ?_)
 (refine J.nil (N.seq ?_))
 (refine W.draw follows ?_)
 (refine JD.begin 9 rfl ?_; refine JP.more [0, 1, 2] _ rfl (by decide +kernel) ?_)
 (refine Cx.fieldAddr rfl rfl ?_)
 (refine Cx.load rfl 0 rfl rfl rfl ?_)
 (refine Cx.move rfl rfl ?_)
 (refine SegC.nil ?_)
 (focus (refine JP.perm (List.Perm.trans (List.Perm.cons _ (List.Perm.swap _ _ _)) (List.Perm.swap _ _ _)) ?_; refine JP.call (idx := [0, 1, 2]) (Lc := [rdO b ⟨s, a1, c1⟩]) 3 [34] [2, 3] [0, 1] cr rfl (by decide +kernel) rfl ?_ (evs_args rfl) rfl ?_; rotate_left); rintro _ _ ⟨t, a', c', rfl, rfl, ha', hb'⟩; simp only [List.cons_append, List.nil_append])
 (focus (refine JP.perm (List.Perm.trans (List.Perm.cons _ (List.Perm.swap _ _ _)) (List.Perm.swap _ _ _)) ?_; refine JP.callV (us := []) (vs := []) (args := [str t, ptr p5]) (idx := [0, 1]) (Lc := [.obj p5 tBk (bkC ⟨xh, xt, ct0⟩)]) 4 [33, 35, 5] [0, 1, 2, 3, 4] [] (bjust_ok t (by have := bound_text hb'; omega) p5 ⟨xh, xt, ct0⟩) rfl (by decide +kernel) rfl ?_ rfl (evs_args rfl) rfl ?_; rotate_left); rintro _ _ ⟨o, ho, rfl, rfl⟩; simp only [List.cons_append, List.nil_append])
 (refine JP.tail (idx := []) 5 (by decide +kernel) (by decide +kernel) rfl rfl ?_ ?_)
 (refine SegC.nil ?_)
 (refine Ag.nil)
 (refine Jx.move rfl rfl ?_)
 (refine' J.guardAnd rfl rfl rfl rfl rfl rfl rfl rfl (fun _ => ?_) ?_; rotate_left)
 (refine J.gY rfl rfl rfl ?_)
 (refine Jx.move rfl rfl (J.nil ?_))
 (refine N.joinedN rfl rfl rfl)
 (refine Jx.assign rfl rfl (J.nil ?_))
 (refine id ?_; rotate_left)
 (refine Cx.fieldAddr rfl rfl ?_)
 (refine Cx.load rfl 2 rfl rfl rfl ?_)
 (refine SegC.nil ?_)
 (refine Ag.cons rfl ?_)
 (refine Ag.cons rfl ?_)
 (refine Ag.nil)
 (refine Cx.fieldAddr rfl rfl ?_)
 (refine Cx.load rfl 1 rfl rfl rfl ?_)
 (refine Cx.move rfl rfl ?_)
 (refine SegC.nil ?_)
 (refine Ag.cons rfl ?_)
 (refine Ag.cons rfl ?_)
 (refine Ag.cons rfl ?_)
 (refine Ag.nil))
        refine N.drop (List.Sublist.cons_cons _ (List.Sublist.cons_cons _ (List.sublist_cons_self _ _))) ?_
        exact N.joinE (o.getD ct0, o.isSome, true, a', c') ⟨ha', _, _, hfl, (fun h => by cases h), fun _ => ⟨t, o, hb', ho, rfl, rfl⟩⟩ rfl ⟨ref0 rfl, ref0 rfl, ref0 rfl, ref0 rfl, trivial⟩
    · rintro ⟨c3, k3, _, a3, cc3⟩ ⟨ha3, hj⟩
      simp only at ha3 hj ⊢
      obtain ⟨k1, k2, hrd, hfine⟩ := PartR.read hr hj
      simp only at hrd
      have ce := rd_End b s a3 cc3 ha3 hs
      have ck := bcheck_ok ⟨xh, xt, c3⟩ hsk
      focus (
 (refine N.seq (W.seq (W.seq (W.region (Jx.move rfl rfl ?_)))))
 (refine J.call1 1 (ce) rfl (evs_args rfl) rfl (by rintro _ _ ⟨e, a4, c4, rfl, rfl, he⟩; exact ⟨_, rfl⟩) ?_; rintro _ _ ⟨e, a4, c4, rfl, ⟨⟩, he⟩; simp only [la4, la5])
 (refine Jx.neqI rfl rfl rfl (Jx.move rfl rfl ?_))
 (refine' J.guardOr rfl rfl rfl rfl rfl rfl rfl rfl (fun _ => ?_) ?_; rotate_left)
 (refine J.gY rfl rfl rfl ?_)
 (refine Jx.move rfl rfl (J.gY rfl rfl rfl ?_))
 (refine Jx.not rfl rfl (J.nil ?_))
 (refine N.joinedN rfl rfl rfl)
 (refine Jx.move rfl rfl ?_)
 (refine' J.guardOr rfl rfl rfl rfl rfl rfl rfl rfl (fun _ => ?_) ?_; rotate_left)
 (refine J.gY rfl rfl rfl ?_)
 (refine Jx.loadAll rfl 0 rfl rfl rfl ?_)
 (refine J.gY rfl rfl rfl ?_)
 (refine J.cP ck (evs_args rfl) rfl ?_; try simp only)
 (refine J.gY rfl rfl rfl ?_)
 (refine Jx.neqI rfl rfl rfl (J.nil ?_))
 (refine N.joinedN rfl rfl rfl)
 (refine J.nil (N.seq ?_))
 (refine id ?_; rotate_left))
      refine W.cond rfl (fun hb => ?_) (fun hb => ?_)
      · focus (
 (refine W.seq (W.region (Jx.buildB rfl rfl rfl rfl rfl ?_)))
 (refine J.storeAll rfl rfl rfl 2 rfl rfl rfl ?_)
 (refine Jx.assign rfl rfl (J.nil (N.seq (W.ret (N.noGotoRet ?_)))))
 (refine id ?_; rotate_left))
        refine N.objSub 2 (bkC bk0) rfl bkz_sub rfl ?_
        refine N.retD (rs := [.cell 2 tBk, .tmp 3]) (L1 := []) rfl (.cell rfl 2 rfl agBk (.tmp rfl .nil)) (List.nil_sublist _) ⟨⟨none, fun y hy hz => ?_, rfl⟩, rfl⟩
        obtain ⟨rfl, h1, h2, h3, h4⟩ := hrd.whole (by decide) ((fineBk_iff y).1 hy) (r := []) (by rw [List.append_nil, hz])
        rw [he.2 h4, hy, hfine, h1, h2, h3] at hb
        simp at hb
      · focus (
 (refine W.skip (N.seq (W.seq (W.region (Jx.loadAll rfl 0 rfl rfl rfl ?_)))))
 (refine J.storeAll rfl rfl rfl 2 rfl rfl rfl ?_)
 (refine Jx.assign rfl rfl (J.nil (N.seq (W.ret ?_))))
 (refine id ?_; rotate_left))
        refine N.retD (rs := [.cell 2 tBk, .tmp 3]) (L1 := []) rfl (.cell rfl 2 rfl agBk (.tmp rfl .nil)) (List.nil_sublist _) ⟨⟨some ⟨xh, xt, c3⟩, ?_, rfl⟩, rfl⟩
        simp only [Bool.or_eq_false_iff, decide_eq_false_iff_not, Classical.not_not, Bool.not_eq_false', Bool.and_eq_true] at hb
        obtain ⟨⟨b1, b2, b3⟩, b4⟩ := hb
        have hf : fineBk ⟨xh, xt, c3⟩ = true := by
          cases hf : fineBk ⟨xh, xt, c3⟩ with
          | true => rfl
          | false => rw [hf] at b4; simp at b4
        rw [hfine, Bool.and_eq_true] at b3
        rw [he.1 b1, b3.1, b3.2, b2] at hrd
        exact ⟨hf, hrd.sound⟩
end Go.Proofs.YtlfdhkahiaammaaGreatDoor
namespace Go.Proofs.YtlfdhkahiaammaaGreatDoor
open Go Go.Sse
set_option linter.unusedVariables false
open Go.Shelf in
def lays105_ren : Go.Shelf.Ren := ⟨fun | 105 => 54 | 212 => 93 | 99 => 94 | 165 => 95 | 166 => 96 | 170 => 97 | 169 => 98 | 263 => 121 | 264 => 122 | 206 => 123 | 240 => 124 | 241 => 125 | 276 => 143 | 277 => 144 | n => n, fun | 9 => 9 | 3 => 3 | 4 => 4 | 20 => 20 | 0 => 0 | 46 => 106 | 109 => 107 | 5 => 5 | 72 => 112 | 76 => 116 | 51 => 134 | 146 => 135 | 53 => 137 | 148 => 138 | 70 => 110 | 37 => 85 | 75 => 115 | 127 => 140 | 164 => 154 | 80 => 118 | n => n, fun | n => n⟩
open Go.Shelf in
theorem lays105 : Go.Proofs.Lays.n105 Tryz.prog lays105_ren := {
  mixed := by kernel_rfl
  f99 := Tryz.func94.trans (congrArg some (by kernel_rfl))
  f105 := Tryz.func54.trans (congrArg some (by kernel_rfl))
  f165 := Tryz.func95.trans (congrArg some (by kernel_rfl))
  f166 := Tryz.func96.trans (congrArg some (by kernel_rfl))
  f169 := Tryz.func98.trans (congrArg some (by kernel_rfl))
  f170 := Tryz.func97.trans (congrArg some (by kernel_rfl))
  f206 := Tryz.func123.trans (congrArg some (by kernel_rfl))
  f212 := Tryz.func93.trans (congrArg some (by kernel_rfl))
  f240 := Tryz.func124.trans (congrArg some (by kernel_rfl))
  f241 := Tryz.func125.trans (congrArg some (by kernel_rfl))
  f263 := Tryz.func121.trans (congrArg some (by kernel_rfl))
  f264 := Tryz.func122.trans (congrArg some (by kernel_rfl))
  f276 := Tryz.func143.trans (congrArg some (by kernel_rfl))
  f277 := Tryz.func144.trans (congrArg some (by kernel_rfl))
  t0 := Tryz.underlying0
  a0 := Tryz.isAgg0
  z0 := Tryz.sizeOf0
  v0 := Tryz.zeroValue0
  t3 := Tryz.underlying3
  a3 := Tryz.isAgg3
  z3 := Tryz.sizeOf3
  v3 := Tryz.zeroValue3
  t4 := Tryz.underlying4
  a4 := Tryz.isAgg4
  z4 := Tryz.sizeOf4
  v4 := Tryz.zeroValue4
  t5 := Tryz.underlying5
  a5 := Tryz.isAgg5
  z5 := Tryz.sizeOf5
  v5 := Tryz.zeroValue5
  t9 := Tryz.underlying9
  a9 := Tryz.isAgg9
  z9 := Tryz.sizeOf9
  v9 := Tryz.zeroValue9
  t20 := Tryz.underlying20
  a20 := Tryz.isAgg20
  z20 := Tryz.sizeOf20
  v20 := Tryz.zeroValue20
  t37 := Tryz.underlying85
  a37 := Tryz.isAgg85
  z37 := Tryz.sizeOf85
  v37 := Tryz.zeroValue85
  t46 := Tryz.underlying106
  a46 := Tryz.isAgg106
  z46 := Tryz.sizeOf106
  v46 := Tryz.zeroValue106
  t51 := Tryz.underlying134
  a51 := Tryz.isAgg134
  z51 := Tryz.sizeOf134
  v51 := Tryz.zeroValue134
  t53 := Tryz.underlying137
  a53 := Tryz.isAgg137
  z53 := Tryz.sizeOf137
  v53 := Tryz.zeroValue137
  t70 := Tryz.underlying110
  a70 := Tryz.isAgg110
  z70 := Tryz.sizeOf110
  v70 := Tryz.zeroValue110
  t72 := Tryz.underlying112
  a72 := Tryz.isAgg112
  z72 := Tryz.sizeOf112
  v72 := Tryz.zeroValue112
  t75 := Tryz.underlying115
  a75 := Tryz.isAgg115
  z75 := Tryz.sizeOf115
  v75 := Tryz.zeroValue115
  t76 := Tryz.underlying116
  a76 := Tryz.isAgg116
  z76 := Tryz.sizeOf116
  v76 := Tryz.zeroValue116
  t109 := Tryz.underlying107
  a109 := Tryz.isAgg107
  z109 := Tryz.sizeOf107
  v109 := Tryz.zeroValue107
  t127 := Tryz.underlying140
  a127 := Tryz.isAgg140
  z127 := Tryz.sizeOf140
  v127 := Tryz.zeroValue140
  t146 := Tryz.underlying135
  a146 := Tryz.isAgg135
  z146 := Tryz.sizeOf135
  v146 := Tryz.zeroValue135
  t148 := Tryz.underlying138
  a148 := Tryz.isAgg138
  z148 := Tryz.sizeOf138
  v148 := Tryz.zeroValue138
  t164 := Tryz.underlying154
  a164 := Tryz.isAgg154
  z164 := Tryz.sizeOf154
  v164 := Tryz.zeroValue154 }
open Go.Shelf in
theorem Builder_Extra_105 : Builder.Extra Tryz.prog lays105_ren := {
  sizeBuilder := by kernel_rfl
  liesBuilder := by kernel_rfl
  t5 := Tryz.underlying5
  a5 := Tryz.isAgg5
  z5 := Tryz.sizeOf5
  v5 := Tryz.zeroValue5
  infoByte := by kernel_rfl
  cellsByte := by kernel_rfl
  sizeByte := by kernel_rfl
  neB5 := by decide }
open Go.RowKit Go.Lib Go.Shelf in
theorem strings_Repeat (s : ByteArray) (c : Nat) (w : World) (hc : c ≤ 9223372036854775807) (hlen : s.size * c ≤ 140737488355328) :
    Calls Tryz.prog 54 #[.string s, .int .i64 c] w fun e w' => e = .returned (.string ⟨(Lib.repeatL s.data.toList c).toArray⟩) ∧ Below w.heap.size w w' := Any.strings_Repeat lays105 Builder_Extra_105 s c w hc hlen
theorem repL_one (x : UInt8) : ∀ n, Lib.repeatL [x] n = List.replicate n x
  | 0 => rfl
  | n + 1 => by rw [Lib.repeatL, repL_one x n]; rfl
theorem rep_ok (x : UInt8) (n : Nat) (hn : n ≤ 140737488355328) : FnC Tryz.prog 54 [str [x], int (n : Int)] [] (fun v L => v = str (List.replicate n x) ∧ L = []) := by
  refine ⟨fun Z w vs hl hr hz hnd hd ho hgl => ?_⟩
  match vs, hl with
  | [a, b], _ =>
    obtain rfl : a = _ := (hr 0 (by simp)).val_eq
    obtain rfl : b = _ := (hr 1 (by simp)).val_eq
    refine (strings_Repeat ⟨[x].toArray⟩ n w (by omega) (by simpa [ByteArray.size] using hn)).mono fun e w' ⟨he, hb⟩ => ?_
    refine ⟨_, str (List.replicate n x), [], he, ⟨rfl, rfl⟩, ?_, ⟨hb.os, hb.tape, hb.output, hb.size, fun k hk _ => hb.block k hk, hz, hnd, fun b hi => by simp [inF, foots] at hi, fun o h => by cases h⟩⟩
    rw [show [x].toArray.toList = [x] from rfl, repL_one]
    exact .val _
end Go.Proofs.YtlfdhkahiaammaaGreatDoor
namespace Go.Proofs.YtlfdhkahiaammaaGreatDoor
open Go Go.Sse
set_option linter.unusedVariables false
set_option linter.unusedSimpArgs false
set_option maxRecDepth 10000
def bigH (h : Hd) : Bool := (((((!fewB h.skips 40 100 || decide (100 < (h.parent.length : Int))) || decide (100 < (h.state.length : Int))) || decide (100 < (h.receipts.length : Int))) || decide (100 < (h.txs.length : Int))) || decide (100 < (h.members.length : Int))) || decide (100 < (h.next.length : Int))
theorem bigH_no {h : Hd} (hb : bigH h = false) : h.skips.length ≤ 40 := by
  simp only [bigH, Bool.or_eq_false_iff, Bool.not_eq_false'] at hb
  exact (few_spec (n := 40) (e := 100) hb.1.1.1.1.1.1).1
theorem digH_len {h : Hd} (hf : fineHd h = true) : ((digH h).length : Int) = 32 := by rw [digH, if_pos hf, sumD_len]; rfl
end Go.Proofs.YtlfdhkahiaammaaGreatDoor
namespace Go.Proofs.YtlfdhkahiaammaaGreatDoor
open Go Go.Sse
set_option linter.unusedVariables false
set_option linter.unusedSimpArgs false
set_option maxRecDepth 10000
end Go.Proofs.YtlfdhkahiaammaaGreatDoor
namespace Go.Proofs.YtlfdhkahiaammaaGreatDoor
open Go Go.Sse
set_option linter.unusedVariables false
set_option linter.unusedSimpArgs false
set_option maxRecDepth 10000
def bigT (x : Tx) : Bool := (((decide (100 < (x.from_.length : Int)) || decide (100 < (x.to_.length : Int))) || decide (100 < (x.key.length : Int))) || decide (100 < (x.value.length : Int))) || decide (100 < (x.members.length : Int))
theorem bigT_no {x : Tx} (h : bigT x = false) : x.from_.length ≤ 100 ∧ x.to_.length ≤ 100 ∧ x.key.length ≤ 100 ∧ x.value.length ≤ 100 ∧ x.members.length ≤ 100 := by
  simp only [bigT, Bool.or_eq_false_iff, decide_eq_false_iff_not] at h
  omega
end Go.Proofs.YtlfdhkahiaammaaGreatDoor
namespace Go.Proofs.YtlfdhkahiaammaaGreatDoor
open Go Go.Sse
set_option linter.unusedVariables false
set_option linter.unusedSimpArgs false
set_option maxRecDepth 10000
def bigBk (b : Bk) : Bool := bigH b.head || (b.txs.any bigT || ((decide (20 < (b.txs.length : Int)) || !fewB b.just.signers 50 100) || decide (100 < (b.just.digest.length : Int))))
theorem bigBk_no {b : Bk} (h : bigBk b = false) : b.head.skips.length ≤ 40 ∧ b.txs.length ≤ 20 ∧ (∀ x ∈ b.txs, x.members.length ≤ 100) ∧ b.just.signers.length ≤ 50 := by
  simp only [bigBk, Bool.or_eq_false_iff, Bool.not_eq_false', decide_eq_false_iff_not] at h
  obtain ⟨h1, h2, ⟨h3, h4⟩, h5⟩ := h
  refine ⟨bigH_no h1, by omega, fun x hx => ?_, (few_spec (n := 50) (e := 100) h4).1⟩
  exact (bigT_no (by simpa using List.any_eq_false.1 h2 x hx)).2.2.2.2
set_option maxHeartbeats 4000000 in
theorem bbig_ok (b : Bk) (hl : b.txs.length ≤ 9223372036854775807) : FnC Tryz.prog 5 [.agg (bkC b)] [] (fun v L => v = bool (bigBk b) ∧ L = []) := by
  have c := few_ok b.head.skips 40 100 (by decide)
  have c2 := few_ok b.just.signers 50 100 (by decide)
  refine FnC.intro Tryz.func5 rfl Tryz.ntmps5 rfl fun Z w0 hG => ?_
  focus (
 (refine W.seq (W.region ?_))
 (refine J.boxAg rfl rfl ?_; intro b')
 (refine Jx.assign rfl rfl (J.nil (N.seq (W.seq (W.region (Jx.fieldAddr rfl rfl ?_))))))
 (refine Jx.loadAg rfl 0 rfl rfl rfl rfl ?_)
 (refine J.alloc (by simp only [List.map_cons, List.map_nil]; rfl) rfl rfl ?_; intro b')
 (refine J.storeAll rfl rfl rfl 0 rfl rfl rfl ?_)
 (refine J.nil (N.seq (W.seq (W.seq (W.region (Jx.fieldAddr rfl rfl ?_))))))
 (refine Jx.load rfl 0 rfl rfl rfl ?_)
 (refine J.call (c) rfl (evs_args rfl) rfl ?_; rintro _ _ ⟨rfl, rfl⟩; simp only [la1, la2, la3])
 (refine Jx.not rfl rfl (Jx.move rfl rfl ?_))
 (refine' J.guardOr rfl rfl rfl rfl rfl rfl rfl rfl (fun _ => ?_) ?_; rotate_left)
 (refine J.gY rfl rfl rfl ?_)
 (refine Jx.fieldAddr rfl rfl ?_)
 (refine J.gY rfl rfl rfl ?_)
 (refine Jx.load rfl 0 rfl rfl rfl ?_)
 (refine J.gY rfl rfl rfl ?_)
 (refine Jx.lenS rfl rfl ?_)
 (refine J.gY rfl rfl rfl ?_)
 (refine Jx.gtrI rfl rfl rfl (J.nil ?_))
 (refine N.joinedN rfl rfl rfl)
 (refine Jx.move rfl rfl ?_)
 (refine' J.guardOr rfl rfl rfl rfl rfl rfl rfl rfl (fun _ => ?_) ?_; rotate_left)
 (refine J.gY rfl rfl rfl ?_)
 (refine Jx.fieldAddr rfl rfl ?_)
 (refine J.gY rfl rfl rfl ?_)
 (refine Jx.load rfl 0 rfl rfl rfl ?_)
 (refine J.gY rfl rfl rfl ?_)
 (refine Jx.lenS rfl rfl ?_)
 (refine J.gY rfl rfl rfl ?_)
 (refine Jx.gtrI rfl rfl rfl (J.nil ?_))
 (refine N.joinedN rfl rfl rfl)
 (refine Jx.move rfl rfl ?_)
 (refine' J.guardOr rfl rfl rfl rfl rfl rfl rfl rfl (fun _ => ?_) ?_; rotate_left)
 (refine J.gY rfl rfl rfl ?_)
 (refine Jx.fieldAddr rfl rfl ?_)
 (refine J.gY rfl rfl rfl ?_)
 (refine Jx.load rfl 0 rfl rfl rfl ?_)
 (refine J.gY rfl rfl rfl ?_)
 (refine Jx.lenS rfl rfl ?_)
 (refine J.gY rfl rfl rfl ?_)
 (refine Jx.gtrI rfl rfl rfl (J.nil ?_))
 (refine N.joinedN rfl rfl rfl)
 (refine Jx.move rfl rfl ?_)
 (refine' J.guardOr rfl rfl rfl rfl rfl rfl rfl rfl (fun _ => ?_) ?_; rotate_left)
 (refine J.gY rfl rfl rfl ?_)
 (refine Jx.fieldAddr rfl rfl ?_)
 (refine J.gY rfl rfl rfl ?_)
 (refine Jx.load rfl 0 rfl rfl rfl ?_)
 (refine J.gY rfl rfl rfl ?_)
 (refine Jx.lenS rfl rfl ?_)
 (refine J.gY rfl rfl rfl ?_)
 (refine Jx.gtrI rfl rfl rfl (J.nil ?_))
 (refine N.joinedN rfl rfl rfl)
 (refine Jx.move rfl rfl ?_)
 (refine' J.guardOr rfl rfl rfl rfl rfl rfl rfl rfl (fun _ => ?_) ?_; rotate_left)
 (refine J.gY rfl rfl rfl ?_)
 (refine Jx.fieldAddr rfl rfl ?_)
 (refine J.gY rfl rfl rfl ?_)
 (refine Jx.load rfl 0 rfl rfl rfl ?_)
 (refine J.gY rfl rfl rfl ?_)
 (refine Jx.lenS rfl rfl ?_)
 (refine J.gY rfl rfl rfl ?_)
 (refine Jx.gtrI rfl rfl rfl (J.nil ?_))
 (refine N.joinedN rfl rfl rfl)
 (refine Jx.move rfl rfl ?_)
 (refine' J.guardOr rfl rfl rfl rfl rfl rfl rfl rfl (fun _ => ?_) ?_; rotate_left)
 (refine J.gY rfl rfl rfl ?_)
 (refine Jx.fieldAddr rfl rfl ?_)
 (refine J.gY rfl rfl rfl ?_)
 (refine Jx.load rfl 0 rfl rfl rfl ?_)
 (refine J.gY rfl rfl rfl ?_)
 (refine Jx.lenS rfl rfl ?_)
 (refine J.gY rfl rfl rfl ?_)
 (refine Jx.gtrI rfl rfl rfl (J.nil ?_))
 (refine N.joinedN rfl rfl rfl)
 (refine J.nil (N.seq ?_))
 (refine id ?_; rotate_left))
  rename_i p1
  refine W.cond rfl (fun hb => ?_) (fun hb => ?_)
  · have hb : bigH b.head = true := hb
    rw [bigBk, hb]
    focus (
 (refine W.seq (W.region (Jx.assign rfl rfl (J.nil (N.seq (W.ret (N.noGotoRet ?_)))))))
 (refine id ?_; rotate_left))
    exact N.retD (rs := [.tmp 2]) (L1 := []) rfl (.tmp rfl .nil) (List.nil_sublist _) ⟨rfl, rfl⟩
  · have hb : bigH b.head = false := hb
    rw [bigBk, hb]
    focus (
 (refine W.skip (N.seq (W.seq (W.seq (W.region (Jx.assign rfl rfl (J.nil (N.seq (W.block ?_)))))))))
 (refine id ?_; rotate_left))
    refine W.loop (α := Nat) (fun i => [(4, int (i : Int)), (1, ptr p1)]) (fun _ => [.obj b' tHd (hdC b.head), .obj p1 tBk (bkC b)]) (fun i => i ≤ b.txs.length ∧ (b.txs.take i).any bigT = false) (fun i => b.txs.length - i) 0 (by simp) rfl ⟨ref0 rfl, ref0 rfl, trivial⟩ ?_
    rintro i ⟨hi, hn⟩
    by_cases h1 : i < b.txs.length
    · focus (
 (refine W.seq (W.seq (W.region (Jx.move rfl rfl (Jx.fieldAddr rfl rfl ?_)))))
 (refine Jx.load rfl 1 rfl rfl rfl ?_)
 (refine Jx.lenSl rfl rfl ?_)
 (refine Jx.lssI rfl rfl rfl (J.nil (N.seq (W.cT rfl ?_))))
 (refine W.skip (N.seq (W.seq (W.block (W.seq (W.region (Jx.fieldAddr rfl rfl ?_)))))))
 (refine Jx.load rfl 1 rfl rfl rfl ?_)
 (refine Jx.move rfl rfl (Jx.indexEl rfl rfl (by assumption) rfl rfl ?_))
 (refine Jx.loadPPall rfl rfl rfl ?_)
 (refine J.alloc (by simp only [List.map_cons, List.map_nil]; rfl) rfl rfl ?_; intro b')
 (refine J.storeAll rfl rfl rfl 0 rfl rfl rfl ?_)
 (refine J.nil (N.seq (W.seq (W.region (Jx.fieldAddr rfl rfl ?_)))))
 (refine Jx.load rfl 0 rfl rfl rfl ?_)
 (refine Jx.lenS rfl rfl ?_)
 (refine Jx.gtrI rfl rfl rfl (Jx.move rfl rfl ?_))
 (refine' J.guardOr rfl rfl rfl rfl rfl rfl rfl rfl (fun _ => ?_) ?_; rotate_left)
 (refine J.gY rfl rfl rfl ?_)
 (refine Jx.fieldAddr rfl rfl ?_)
 (refine J.gY rfl rfl rfl ?_)
 (refine Jx.load rfl 0 rfl rfl rfl ?_)
 (refine J.gY rfl rfl rfl ?_)
 (refine Jx.lenS rfl rfl ?_)
 (refine J.gY rfl rfl rfl ?_)
 (refine Jx.gtrI rfl rfl rfl (J.nil ?_))
 (refine N.joinedN rfl rfl rfl)
 (refine Jx.move rfl rfl ?_)
 (refine' J.guardOr rfl rfl rfl rfl rfl rfl rfl rfl (fun _ => ?_) ?_; rotate_left)
 (refine J.gY rfl rfl rfl ?_)
 (refine Jx.fieldAddr rfl rfl ?_)
 (refine J.gY rfl rfl rfl ?_)
 (refine Jx.load rfl 0 rfl rfl rfl ?_)
 (refine J.gY rfl rfl rfl ?_)
 (refine Jx.lenS rfl rfl ?_)
 (refine J.gY rfl rfl rfl ?_)
 (refine Jx.gtrI rfl rfl rfl (J.nil ?_))
 (refine N.joinedN rfl rfl rfl)
 (refine Jx.move rfl rfl ?_)
 (refine' J.guardOr rfl rfl rfl rfl rfl rfl rfl rfl (fun _ => ?_) ?_; rotate_left)
 (refine J.gY rfl rfl rfl ?_)
 (refine Jx.fieldAddr rfl rfl ?_)
 (refine J.gY rfl rfl rfl ?_)
 (refine Jx.load rfl 0 rfl rfl rfl ?_)
 (refine J.gY rfl rfl rfl ?_)
 (refine Jx.lenS rfl rfl ?_)
 (refine J.gY rfl rfl rfl ?_)
 (refine Jx.gtrI rfl rfl rfl (J.nil ?_))
 (refine N.joinedN rfl rfl rfl)
 (refine Jx.move rfl rfl ?_)
 (refine' J.guardOr rfl rfl rfl rfl rfl rfl rfl rfl (fun _ => ?_) ?_; rotate_left)
 (refine J.gY rfl rfl rfl ?_)
 (refine Jx.fieldAddr rfl rfl ?_)
 (refine J.gY rfl rfl rfl ?_)
 (refine Jx.load rfl 0 rfl rfl rfl ?_)
 (refine J.gY rfl rfl rfl ?_)
 (refine Jx.lenSl rfl rfl ?_)
 (refine J.gY rfl rfl rfl ?_)
 (refine Jx.gtrI rfl rfl rfl (J.nil ?_))
 (refine N.joinedN rfl rfl rfl)
 (refine J.nil (N.seq ?_))
 (refine id ?_; rotate_left))
      refine W.cond rfl (fun hq => ?_) (fun hq => ?_)
      · have hq : bigT (b.txs.getD i tx0) = true := hq
        have : b.txs.any bigT = true := List.any_eq_true.2 ⟨_, getD_mem h1, hq⟩
        rw [this]
        focus (
 (refine W.seq (W.region (Jx.assign rfl rfl (J.nil (N.seq (W.ret (N.noGotoRet (N.noGotoRet (N.noGotoRet (N.noGotoRet (N.noGotoRet ?_)))))))))))
 (refine id ?_; rotate_left))
        exact N.retD (rs := [.tmp 2]) (L1 := []) rfl (.tmp rfl .nil) (List.nil_sublist _) ⟨rfl, rfl⟩
      · have hq : bigT (b.txs.getD i tx0) = false := hq
        focus (
 (refine W.skip (N.seq (W.region (Jx.move rfl rfl (Jx.add64 rfl rfl (by omega) rfl ?_)))))
 (refine Jx.assign rfl rfl (J.nil ?_))
 (refine id ?_; rotate_left))
        refine N.drop (List.sublist_cons_self _ _) ?_
        exact N.round (i + 1) ⟨h1, by rw [take_snoc (d := tx0) h1, List.any_append, hn, List.any_cons, hq]; rfl⟩ (by omega) rfl ⟨ref0 rfl, ref0 rfl, trivial⟩
    · rw [List.take_of_length_le (by omega)] at hn
      rw [hn]
      focus (
 (refine W.seq (W.seq (W.region (Jx.move rfl rfl (Jx.fieldAddr rfl rfl ?_)))))
 (refine Jx.load rfl 1 rfl rfl rfl ?_)
 (refine Jx.lenSl rfl rfl ?_)
 (refine Jx.lssI rfl rfl rfl (J.nil (N.seq (W.cF rfl ?_))))
 (refine W.exit (N.seq (W.seq (W.region (Jx.fieldAddr rfl rfl ?_)))))
 (refine Jx.load rfl 1 rfl rfl rfl ?_)
 (refine Jx.lenSl rfl rfl ?_)
 (refine Jx.gtrI rfl rfl rfl (Jx.move rfl rfl ?_))
 (refine' J.guardOr rfl rfl rfl rfl rfl rfl rfl rfl (fun _ => ?_) ?_; rotate_left)
 (refine J.gY rfl rfl rfl ?_)
 (refine Jx.fieldAddr rfl rfl ?_)
 (refine J.gY rfl rfl rfl ?_)
 (refine Jx.fieldAddr rfl rfl ?_)
 (refine J.gY rfl rfl rfl ?_)
 (refine Jx.load rfl 1 rfl rfl rfl ?_)
 (refine J.gY rfl rfl rfl ?_)
 (refine J.call (c2) rfl (evs_args rfl) rfl ?_; rintro _ _ ⟨rfl, rfl⟩; simp only [la1, la2, la3])
 (refine J.gY rfl rfl rfl ?_)
 (refine Jx.not rfl rfl (J.nil ?_))
 (refine N.joinedN rfl rfl rfl)
 (refine Jx.move rfl rfl ?_)
 (refine' J.guardOr rfl rfl rfl rfl rfl rfl rfl rfl (fun _ => ?_) ?_; rotate_left)
 (refine J.gY rfl rfl rfl ?_)
 (refine Jx.fieldAddr rfl rfl ?_)
 (refine J.gY rfl rfl rfl ?_)
 (refine Jx.fieldAddr rfl rfl ?_)
 (refine J.gY rfl rfl rfl ?_)
 (refine Jx.load rfl 1 rfl rfl rfl ?_)
 (refine J.gY rfl rfl rfl ?_)
 (refine Jx.lenS rfl rfl ?_)
 (refine J.gY rfl rfl rfl ?_)
 (refine Jx.gtrI rfl rfl rfl (J.nil ?_))
 (refine N.joinedN rfl rfl rfl)
 (refine Jx.assign rfl rfl (J.nil (N.seq (W.ret ?_))))
 (refine id ?_; rotate_left))
      exact N.retD (rs := [.tmp 2]) (L1 := []) rfl (.tmp rfl .nil) (List.nil_sublist _) ⟨rfl, rfl⟩
def someB (a : List UInt8) (l : List Tx) : Bk := ⟨⟨1, 1, 1, false, a, a, [], rootT l, a, a, []⟩, l, ct0⟩
def exB : Tx := ⟨3, [97], 0, [], 0, [107], [], []⟩
theorem links1 : linksI 1 = [] := by decide +kernel
theorem someB_fine {a : List UInt8} (ha : a.length = 32) {l : List Tx} (hl : fineAll l = true) : fineBk (someB a l) = true := by
  refine (fineBk_iff _).2 ⟨(fineHd_iff _).2 ⟨by simp [someB], by simp [someB], by simp [someB], ⟨fun _ => ha, fun h => by simp [someB] at h⟩, ?_, ha, ha, .inr ha, .inl rfl, ?_, ?_, fun _ => rfl⟩, by simp [someB], hl, rfl, .inl rfl⟩
  · rw [show (someB a l).head.txs = rootT l from rfl, rootT, if_pos hl, sumD_len]
  · rw [show (someB a l).head.height = 1 from rfl, links1]; rfl
  · intro s hs; simp [someB] at hs
theorem exB_fine : fineAll [exB] = true := by decide +kernel
abbrev someZ (a r : List UInt8) (l : List Tx) : List SV := [int 1, int 1, int 1, bool false, str a, str a, str [], str r, str a, str a, .val (.slice none 0 0), txsl l, str [], .val (.slice none 0 0)]
theorem someZ_sub (a : List UInt8) (l : List Tx) : SubL (someZ a (rootT l) l) (bkC (someB a l)) := .cons (.refl _) (.cons (.refl _) (.cons (.refl _) (.cons (.refl _) (.cons (.refl _) (.cons (.refl _) (.cons (.refl _) (.cons (.refl _) (.cons (.refl _) (.cons (.refl _) (.cons (Sub.nil 1 _) (.cons (.refl _) (.cons (.refl _) (.cons (Sub.nil 1 _) .nil)))))))))))))
set_option maxHeartbeats 4000000 in
theorem bsome_ok (l : List Tx) : FnC Tryz.prog 26 [txsl l] [] (fun v L => v = .agg (bkC (someB (List.replicate 32 97) l)) ∧ L = []) := by
  have ca : FnC Tryz.prog 54 [str [97], int 32] [] (fun v L => v = str (List.replicate 32 97) ∧ L = []) := rep_ok 97 32 (by decide)
  have hs := someZ_sub (List.replicate 32 97) l
  generalize List.replicate 32 (97 : UInt8) = a at *
  have c := troot_ok l
  generalize codeAll l = cd at *
  refine FnC.intro Tryz.func26 rfl Tryz.ntmps26 rfl fun Z w0 hG => ?_
  unfold someB at hs ⊢
  generalize rootT l = r at *
  focus (
 (refine W.seq (W.region ?_))
 (refine J.alloc (by simp only [List.map_cons, List.map_nil]; rfl) rfl rfl ?_; intro b')
 (refine J.nil (N.seq (W.seq (W.region ?_))))
 (refine J.call (ca) rfl (evs_args rfl) rfl ?_; rintro _ _ ⟨rfl, rfl⟩; simp only [la1, la2, la3])
 (refine Jx.assign rfl rfl (J.nil (N.seq (W.seq (W.region (Jx.move rfl rfl ?_))))))
 (refine J.call (c) rfl (evs_args rfl) rfl ?_; rintro _ _ ⟨rfl, rfl⟩; simp only [la1, la2, la3])
 (refine Jx.move rfl rfl (Jx.extract rfl rfl rfl ?_))
 (refine Jx.extract rfl rfl rfl ?_)
 (refine Jx.assign rfl rfl (Jx.assign rfl rfl (J.nil (N.seq (W.seq (W.region (Jx.move rfl rfl (Jx.move rfl rfl (Jx.move rfl rfl (Jx.move rfl rfl (Jx.move rfl rfl (Jx.buildB rfl rfl rfl rfl rfl ?_))))))))))))
 (refine Jx.move rfl rfl (Jx.buildB rfl rfl rfl rfl rfl ?_))
 (refine J.storeAll rfl rfl rfl 0 rfl rfl rfl ?_)
 (refine J.nil (N.seq (W.ret ?_)))
 (refine id ?_; rotate_left))
  refine N.objSub 0 _ rfl hs rfl ?_
  exact N.retD (rs := [.cell 2 tBk]) (L1 := []) rfl (.cell rfl 0 rfl agBk .nil) (List.nil_sublist _) ⟨rfl, rfl⟩
end Go.Proofs.YtlfdhkahiaammaaGreatDoor
namespace Go.Sse
open Go Go.Sse
set_option linter.unusedVariables false
set_option linter.unusedSimpArgs false
section
variable {P : Program} {Γ : Ctx} {F : List (Nat × SV)} {L : List Own} {dst : Option Tmp} {ty : TypeId} {pos : String} {aft : Array Edge} {g : Option (Nat × Bool)}
theorem Qs.buildOneS {α : Type} {t E sz by' : Nat} {z : List Value} [ht : TSlice P t E] [hI : TInfo P E sz by' z] {x : Operand} {u : SV} (enc : α → List SV) (d a : α) (hx : ev F x = some u) (hs : Sub u (.agg (enc a))) (hcs' : Nat.beq (enc a).length sz = true)
    (hz' : Nat.beq z.length sz = true) (h0' : Nat.blt 0 sz = true) (hmax' : Nat.ble sz 16777216 = true) (hz1 : z.all (·.oneCell') = true) : Qs P Γ F L ⟨dst, .buildSlice t 1 [(0, x)].toArray, ty, pos, aft, g⟩ (.sl sz [a].length (elOf enc d [a])) := by
  have hcs := Nat.eq_of_beq_eq_true hcs'
  have hz := Nat.eq_of_beq_eq_true hz'
  have h0 : 0 < sz := Nat.le_of_ble_eq_true h0'
  have hmax := Nat.le_of_ble_eq_true hmax'
  refine (Qs.buildSlice (len := 1) (ss := [.agg (enc a)]) (sz := sz) (z := z) (.sub hx hs .agg .nil) rfl (by intro s hs; simp only [List.mem_singleton] at hs; subst hs; exact hcs) hz (by omega) (by omega) hz1).sub ?_
  refine Sub.slOf (l := [a]) rfl fun i hi => ?_
  have : i = 0 := by omega
  subst this
  rfl
end
end Go.Sse
namespace Go.Proofs.YtlfdhkahiaammaaGreatDoor
open Go Go.Sse
set_option linter.unusedVariables false
set_option linter.unusedSimpArgs false
set_option maxRecDepth 10000
theorem readB_back {x : Bk} (h : fineBk x = true) (r : List UInt8) : ∃ st : PSt, ReadB 65536 (encBk x ++ r) x true true true (some r) := by
  have f := (fineBk_iff x).1 h
  obtain ⟨l1, l2, l3⟩ := f.lens
  refine ⟨none, encHd x.head, _, encAll x.txs, _, some x.head, some x.txs, ?_, ⟨f.head, rfl⟩, rfl, rfl, textP_back _ (justE x.just ++ r) (by omega) (by omega), ⟨f.txs, rfl⟩, rfl, rfl, ?_⟩
  · rw [encBk, List.append_assoc, List.append_assoc]; exact textP_back _ _ (by omega) (by omega)
  · unfold justE
    cases hb : bareCt x.just with
    | true => exact ⟨false, some r, by rw [if_pos rfl, flagP_back], fun _ => ⟨bare_eq hb, rfl, rfl⟩, fun h => by cases h⟩
    | false =>
      obtain ⟨g1, g2⟩ := l3 hb
      exact ⟨true, _, by rw [if_neg (by simp), List.append_assoc, flagP_back], (fun h => by cases h), fun _ => ⟨encCt x.just, some x.just, textP_back _ _ (by omega) (by omega), ⟨g1, rfl⟩, rfl, rfl⟩⟩
theorem apBk : Apart fineBk encBk := ⟨fun x y r q hx hy h => by
  obtain ⟨_, hr⟩ := readB_back hx r
  rw [h] at hr
  obtain ⟨e1, _, _, _, e2⟩ := hr.whole (by decide) ((fineBk_iff y).1 hy) rfl
  exact ⟨e1, by simpa using e2⟩⟩
theorem bdec_enc {x : Bk} (h : fineBk x = true) : FnC Tryz.prog 9 [str (encBk x)] [] (fun v L => v = .tup [.agg (bkC x), int 0] ∧ L = []) := by
  refine (bdecode_ok (encBk x) (by have := encBk_len ((fineBk_iff x).1 h); omega)).mono ?_
  rintro v L ⟨⟨o, ho, rfl⟩, rfl⟩
  rw [apBk.some' ho h rfl]
  exact ⟨rfl, rfl⟩
theorem exB_sub : SubL [int 3, str [97], int 0, str [], int 0, str [107], str [], .val (.slice none 0 0)] (txC exB) := .cons (.refl _) (.cons (.refl _) (.cons (.refl _) (.cons (.refl _) (.cons (.refl _) (.cons (.refl _) (.cons (.refl _) (.cons (Sub.nil 2 _) .nil)))))))
theorem bkN_sub (h : Hd) (c : Ct) : SubL ((bkC ⟨h, [], c⟩).set 11 (.val (.slice none 0 0))) (bkC ⟨h, [], c⟩) := .cons (.refl _) (.cons (.refl _) (.cons (.refl _) (.cons (.refl _) (.cons (.refl _) (.cons (.refl _) (.cons (.refl _) (.cons (.refl _) (.cons (.refl _) (.cons (.refl _) (.cons (.refl _) (.cons (Sub.nil 8 _) (.cons (.refl _) (.cons (.refl _) .nil)))))))))))))
theorem someB_last (a : List UInt8) (l : List Tx) : (encBk (someB a l)).getD ((encBk (someB a l)).length - 1) 0 = 0 := by
  have : encBk (someB a l) = (textB (encHd (someB a l).head) ++ textB (encAll l)) ++ [0] := by
    rw [encBk, justE, if_pos (by rfl), List.append_assoc]; rfl
  rw [this, List.length_append, List.getD_eq_getElem?_getD]
  simp
theorem someB_long (a : List UInt8) (l : List Tx) : 1 < (encBk (someB a l)).length := by
  have h1 : 1 ≤ (textB (encAll l)).length := by simp only [textB, List.length_append, numB, List.length_cons]; omega
  simp only [encBk, justE, List.length_append, show (someB a l).txs = l from rfl]
  rw [if_pos (by rfl), flag_len]
  omega
theorem someB_bad {a : List UInt8} {l : List Tx} (hne : rootT l ≠ rootT []) : fineBk ⟨(someB a l).head, [], ct0⟩ = false := by
  cases hf : fineBk ⟨(someB a l).head, [], ct0⟩ with
  | false => rfl
  | true => exact absurd ((fineBk_iff _).1 hf).root.symm hne
set_option maxHeartbeats 8000000 in
theorem bworks_ok : FnC Tryz.prog 6 [] [] (fun s L => s = bool true ∧ L = []) := by
  have hne : rootT [exB] ≠ rootT [] := by decide +kernel
  have hex := exB_fine
  have ha : (List.replicate 32 (97 : UInt8)).length = 32 := by simp
  have c0 := bsome_ok [exB]
  generalize List.replicate 32 (97 : UInt8) = a at *
  have hf : fineBk (someB a [exB]) = true := someB_fine ha hex
  have F := (fineBk_iff _).1 hf
  have c1 := bencode_ok (someB a [exB]) (by simp [someB])
  have c2 := bdec_enc hf
  have c3 := bdigest_ok (someB a [exB]) (by simp [someB])
  have c4 := hdigest_ok (someB a [exB]).head (by simp [someB])
  have c5 := bcheck_ok ⟨(someB a [exB]).head, [], ct0⟩ (by simp [someB])
  rw [someB_bad hne] at c5
  rw [digB, if_pos hf] at c3
  have hd := digH_len F.head
  have hlast := someB_last a [exB]
  have hlong := someB_long a [exB]
  have hup := encBk_len F
  rw [encO, hf, if_pos rfl] at c1
  have hd2 := bkN_sub (someB a [exB]).head ct0
  generalize digH (someB a [exB]).head = dg at *
  generalize encBk (someB a [exB]) = e at *
  have hl1 : (1 : Int) < (e.length : Int) := by omega
  have hlt : (e.length : Int) - 1 < (e.length : Int) := by omega
  have hge : (0 : Int) ≤ (e.length : Int) - 1 := by omega
  have hl2 : e.getD ((e.length : Int) - 1).toNat 0 = 0 := by rw [show ((e.length : Int) - 1).toNat = e.length - 1 by omega]; exact hlast
  refine FnC.intro Tryz.func6 rfl Tryz.ntmps6 rfl fun Z w0 hG => ?_
  focus (
 (refine W.seq (W.region (Jx.assign rfl rfl (J.nil (N.seq (W.seq (W.region (Jx.buildB rfl rfl rfl rfl rfl ?_))))))))
 (refine J.qs (Qs.buildOneS txC tx0 exB rfl (Sub.agg exB_sub) rfl rfl rfl rfl rfl) rfl ?_)
 (refine J.call (c0) rfl (evs_args rfl) rfl ?_; rintro _ _ ⟨rfl, rfl⟩; simp only [la1, la2, la3])
 (refine J.alloc (by simp only [List.map_cons, List.map_nil]; rfl) rfl rfl ?_; intro b')
 (refine J.storeAll rfl rfl rfl 0 rfl rfl rfl ?_)
 (refine J.nil (N.seq (W.seq (W.region (Jx.loadAll rfl 0 rfl rfl rfl ?_)))))
 (refine J.call (c1) rfl (evs_args rfl) rfl ?_; rintro _ _ ⟨rfl, rfl⟩; simp only [la1, la2, la3])
 (refine Jx.move rfl rfl (Jx.extract rfl rfl rfl ?_))
 (refine Jx.extract rfl rfl rfl ?_)
 (refine Jx.assign rfl rfl (Jx.assign rfl rfl (J.nil (N.seq (W.seq (W.region (Jx.move rfl rfl ?_)))))))
 (refine J.call (c2) rfl (evs_args rfl) rfl ?_; rintro _ _ ⟨rfl, rfl⟩; simp only [la1, la2, la3])
 (refine Jx.move rfl rfl (Jx.extract rfl rfl rfl ?_))
 (refine Jx.extract rfl rfl rfl ?_)
 (refine J.alloc (by simp only [List.map_cons, List.map_nil]; rfl) rfl rfl ?_; intro b')
 (refine J.storeAll rfl rfl rfl 0 rfl rfl rfl ?_)
 (refine Jx.assign rfl rfl (J.nil (N.seq (W.seq (W.region (Jx.loadAll rfl 1 rfl rfl rfl ?_))))))
 (refine J.alloc (by simp only [List.map_cons, List.map_nil]; rfl) rfl rfl ?_; intro b')
 (refine J.storeAll rfl rfl rfl 0 rfl rfl rfl ?_)
 (refine J.nil (N.seq (W.seq (W.region (Jx.fieldAddr rfl rfl ?_)))))
 (refine J.st 0 rfl rfl rfl rfl rfl rfl ?_)
 (refine J.nil (N.seq (W.seq ?_)))
 (refine W.draw follows ?_)
 (refine JD.calm rfl (by decide +kernel) ?_)
 (refine Cx.move rfl rfl ?_)
 (refine Cx.eqlI rfl rfl rfl ?_)
 (refine Cx.move rfl rfl ?_)
 (refine SegC.gY rfl rfl rfl ?_)
 (refine Cx.move rfl rfl ?_)
 (refine SegC.gY rfl rfl rfl ?_)
 (refine Cx.eqlI rfl rfl rfl ?_)
 (refine Cx.pickT rfl (by first | rfl | assumption | (exact decide_eq_true (by first | assumption | omega | rfl)) | (exact decide_eq_false (by first | assumption | omega | rfl)) | (simp; done) | (simp; omega)) rfl rfl ?_)
 (refine Cx.move rfl rfl ?_)
 (refine SegC.gY rfl rfl rfl ?_)
 (refine Cx.move rfl rfl ?_)
 (refine SegC.gY rfl rfl rfl ?_)
 (refine Cx.lenS rfl rfl ?_)
 (refine SegC.gY rfl rfl rfl ?_)
 (refine Cx.gtrI rfl rfl rfl ?_)
 (refine Cx.pickT rfl (by first | rfl | assumption | (exact decide_eq_true (by first | assumption | omega | rfl)) | (exact decide_eq_false (by first | assumption | omega | rfl)) | (simp; done) | (simp; omega)) rfl rfl ?_)
 (refine Cx.move rfl rfl ?_)
 (refine SegC.gY rfl rfl rfl ?_)
 (refine Cx.move rfl rfl ?_)
 (refine SegC.gY rfl rfl rfl ?_)
 (refine Cx.move rfl rfl ?_)
 (refine SegC.gY rfl rfl rfl ?_)
 (refine Cx.lenS rfl rfl ?_)
 (refine SegC.gY rfl rfl rfl ?_)
 (refine Cx.sub64 rfl rfl (by omega) rfl ?_)
 (refine SegC.gY rfl rfl rfl ?_)
 (refine Cx.indexS rfl rfl hge hlt rfl ?_; rw [hl2])
 (refine SegC.gY rfl rfl rfl ?_)
 (refine Cx.eqlI rfl rfl rfl ?_)
 (refine Cx.pickT rfl (by first | rfl | assumption | (exact decide_eq_true (by first | assumption | omega | rfl)) | (exact decide_eq_false (by first | assumption | omega | rfl)) | (simp; done) | (simp; omega)) rfl rfl ?_)
 (refine Cx.move rfl rfl ?_)
 (refine SegC.gY rfl rfl rfl ?_)
 (refine Cx.fieldAddr rfl rfl ?_)
 (refine SegC.gY rfl rfl rfl ?_)
 (refine Cx.load rfl 1 rfl rfl rfl ?_)
 (refine SegC.gY rfl rfl rfl ?_)
 (refine Cx.lenSl rfl rfl ?_)
 (refine SegC.gY rfl rfl rfl ?_)
 (refine Cx.eqlI rfl rfl rfl ?_)
 (refine Cx.pickT rfl (by first | rfl | assumption | (exact decide_eq_true (by first | assumption | omega | rfl)) | (exact decide_eq_false (by first | assumption | omega | rfl)) | (simp; done) | (simp; omega)) rfl rfl ?_)
 (refine Cx.move rfl rfl ?_)
 (refine SegC.gY rfl rfl rfl ?_)
 (refine Cx.loadAll rfl 2 rfl rfl rfl ?_)
 (refine SegC.gY rfl rfl rfl ?_)
 (refine SegC.q (Qs.call (Lc := []) (c3) (fun s L' h => h) (List.Perm.refl _) (evs_args rfl)) rfl ?_)
 (refine SegC.gY rfl rfl rfl ?_)
 (refine Cx.fieldAddr rfl rfl ?_)
 (refine SegC.gY rfl rfl rfl ?_)
 (refine Cx.loadAg rfl 2 rfl rfl rfl rfl ?_)
 (refine SegC.gY rfl rfl rfl ?_)
 (refine SegC.q (Qs.call (Lc := []) (c4) (fun s L' h => h) (List.Perm.refl _) (evs_args rfl)) rfl ?_)
 (refine SegC.gY rfl rfl rfl ?_)
 (refine Cx.eqlS rfl rfl rfl ?_)
 (refine Cx.pickT rfl (by first | rfl | assumption | (exact decide_eq_true (by first | assumption | omega | rfl)) | (exact decide_eq_false (by first | assumption | omega | rfl)) | (simp; done) | (simp; omega)) rfl rfl ?_)
 (refine Cx.move rfl rfl ?_)
 (refine SegC.gY rfl rfl rfl ?_)
 (refine Cx.loadAll rfl 2 rfl rfl rfl ?_)
 (refine SegC.gY rfl rfl rfl ?_)
 (refine SegC.q (Qs.call (Lc := []) (c3) (fun s L' h => h) (List.Perm.refl _) (evs_args rfl)) rfl ?_)
 (refine SegC.gY rfl rfl rfl ?_)
 (refine Cx.lenS rfl rfl ?_)
 (refine SegC.gY rfl rfl rfl ?_)
 (refine Cx.eqlI rfl rfl rfl ?_)
 (refine Cx.pickT rfl (by first | rfl | assumption | (exact decide_eq_true (by first | assumption | omega | rfl)) | (exact decide_eq_false (by first | assumption | omega | rfl)) | (simp; done) | (simp; omega)) rfl rfl ?_)
 (refine Cx.move rfl rfl ?_)
 (refine SegC.gY rfl rfl rfl ?_)
 (refine Cx.loadAll rfl 0 rfl rfl rfl ?_)
 (refine SegC.gY rfl rfl rfl ?_)
 (refine SegC.q (Qs.call (Lc := []) c5 (fun s L' h => h) (List.Perm.refl _) (Args.sub rfl (Sub.agg hd2) Args.nil)) rfl ?_)
 (refine SegC.gY rfl rfl rfl ?_)
 (refine Cx.eqlI rfl rfl rfl ?_)
 (refine Cx.pickT rfl (by first | rfl | assumption | (exact decide_eq_true (by first | assumption | omega | rfl)) | (exact decide_eq_false (by first | assumption | omega | rfl)) | (simp; done) | (simp; omega)) rfl rfl ?_)
 (refine Cx.assign rfl rfl ?_)
 (refine SegC.nil ?_)
 (refine N.seq (W.ret ?_))
 (refine id ?_; rotate_left))
  exact N.retD (rs := [.tmp 0]) (L1 := []) rfl (.tmp rfl .nil) (List.nil_sublist _) ⟨by first | rfl | (simp [oneOr, hd]; done), rfl⟩
end Go.Proofs.YtlfdhkahiaammaaGreatDoor
namespace Go.Proofs.YtlfdhkahiaammaaGreatDoor
open Go Go.Sse
set_option linter.unusedVariables false
set_option linter.unusedSimpArgs false
set_option maxRecDepth 10000
set_option maxHeartbeats 8000000 in
theorem rhdecode_ok (s : List UInt8) (hs : s.length ≤ 1099511627776) : FnC Tryz.prog 44 [str s] [] (fun v L => (∃ o, DecR fineHd encHd s o ∧ v = .tup [.agg (hdC (o.getD hd0)), int (codeO o 190)]) ∧ L = []) := by
  refine FnC.intro Tryz.func44 rfl Tryz.ntmps44 rfl fun Z w0 hG => ?_
  focus (
 (refine W.seq (W.region ?_))
 (refine J.alloc (by simp only [List.map_cons, List.map_nil]; rfl) rfl rfl ?_; intro b')
 (refine Jx.assign rfl rfl (J.nil (N.seq (W.seq (W.region (Jx.move rfl rfl (Jx.buildB rfl rfl rfl rfl rfl ?_)))))))
 (refine J.boxAg rfl rfl ?_; intro b')
 (refine Jx.assign rfl rfl (J.nil (N.seq (W.seq (W.region ?_)))))
 (refine J.alloc (by simp only [List.map_cons, List.map_nil]; rfl) rfl rfl ?_; intro b')
 (refine J.nil (N.seq (W.seq (W.region (Jx.move rfl rfl ?_)))))
 (refine J.call1 1 ((r_Num _ s 0 hs)) rfl (evs_args rfl) rfl (by rintro _ _ ⟨n1, a1, c1, rfl, rfl, ha1, e1⟩; exact ⟨_, rfl⟩) ?_; rintro _ _ ⟨n1, a1, c1, rfl, ⟨⟩, ha1, e1⟩; simp only [la4, la5])
 (refine Jx.fieldAddr rfl rfl ?_)
 (refine J.st 0 rfl rfl rfl rfl rfl rfl ?_)
 (refine J.nil (N.seq (W.seq (W.region (Jx.move rfl rfl ?_)))))
 (refine J.call1 1 ((r_Num _ a1 c1 (by omega))) rfl (evs_args rfl) rfl (by rintro _ _ ⟨n2, a2, c2, rfl, rfl, ha2, e2⟩; exact ⟨_, rfl⟩) ?_; rintro _ _ ⟨n2, a2, c2, rfl, ⟨⟩, ha2, e2⟩; simp only [la4, la5])
 (refine Jx.fieldAddr rfl rfl ?_)
 (refine J.st 0 rfl rfl rfl rfl rfl rfl ?_)
 (refine J.nil (N.seq (W.seq (W.region (Jx.move rfl rfl ?_)))))
 (refine J.call1 1 ((r_Num _ a2 c2 (by omega))) rfl (evs_args rfl) rfl (by rintro _ _ ⟨n3, a3, c3, rfl, rfl, ha3, e3⟩; exact ⟨_, rfl⟩) ?_; rintro _ _ ⟨n3, a3, c3, rfl, ⟨⟩, ha3, e3⟩; simp only [la4, la5])
 (refine Jx.fieldAddr rfl rfl ?_)
 (refine J.st 0 rfl rfl rfl rfl rfl rfl ?_)
 (refine J.nil (N.seq (W.seq (W.region (Jx.move rfl rfl ?_)))))
 (refine J.call1 1 ((r_Flag _ a3 c3 (by omega))) rfl (evs_args rfl) rfl (by rintro _ _ ⟨lf', a4, c4, rfl, rfl, ha4, e4⟩; exact ⟨_, rfl⟩) ?_; rintro _ _ ⟨lf', a4, c4, rfl, ⟨⟩, ha4, e4⟩; simp only [la4, la5])
 (refine Jx.fieldAddr rfl rfl ?_)
 (refine J.st 0 rfl rfl rfl rfl rfl rfl ?_)
 (refine J.nil (N.seq (W.seq (W.region (Jx.move rfl rfl ?_)))))
 (refine J.call1 1 ((r_Text _ a4 c4 32 (by omega))) rfl (evs_args rfl) rfl (by rintro _ _ ⟨t5, a5, c5, rfl, rfl, ha5, e5⟩; exact ⟨_, rfl⟩) ?_; rintro _ _ ⟨t5, a5, c5, rfl, ⟨⟩, ha5, e5⟩; simp only [la4, la5])
 (refine Jx.fieldAddr rfl rfl ?_)
 (refine J.st 0 rfl rfl rfl rfl rfl rfl ?_)
 (refine J.nil (N.seq (W.seq (W.region (Jx.move rfl rfl ?_)))))
 (refine J.call1 1 ((r_Text _ a5 c5 32 (by omega))) rfl (evs_args rfl) rfl (by rintro _ _ ⟨t6, a6, c6, rfl, rfl, ha6, e6⟩; exact ⟨_, rfl⟩) ?_; rintro _ _ ⟨t6, a6, c6, rfl, ⟨⟩, ha6, e6⟩; simp only [la4, la5])
 (refine Jx.fieldAddr rfl rfl ?_)
 (refine J.st 0 rfl rfl rfl rfl rfl rfl ?_)
 (refine J.nil (N.seq (W.seq (W.region (Jx.move rfl rfl ?_)))))
 (refine J.call1 1 ((r_Text _ a6 c6 32 (by omega))) rfl (evs_args rfl) rfl (by rintro _ _ ⟨t7, a7, c7, rfl, rfl, ha7, e7⟩; exact ⟨_, rfl⟩) ?_; rintro _ _ ⟨t7, a7, c7, rfl, ⟨⟩, ha7, e7⟩; simp only [la4, la5])
 (refine Jx.fieldAddr rfl rfl ?_)
 (refine J.st 0 rfl rfl rfl rfl rfl rfl ?_)
 (refine J.nil (N.seq (W.seq (W.region (Jx.move rfl rfl ?_)))))
 (refine J.call1 1 ((r_Bytes _ a7 c7 32 (by omega))) rfl (evs_args rfl) rfl (by rintro _ _ ⟨t8, a8, c8, rfl, rfl, ha8, e8⟩; exact ⟨_, rfl⟩) ?_; rintro _ _ ⟨t8, a8, c8, rfl, ⟨⟩, ha8, e8⟩; simp only [la4, la5])
 (refine Jx.fieldAddr rfl rfl ?_)
 (refine J.st 0 rfl rfl rfl rfl rfl rfl ?_)
 (refine J.nil (N.seq (W.seq (W.region (Jx.move rfl rfl ?_)))))
 (refine J.call1 1 ((r_Bytes _ a8 c8 32 (by omega))) rfl (evs_args rfl) rfl (by rintro _ _ ⟨t9, a9, c9, rfl, rfl, ha9, e9⟩; exact ⟨_, rfl⟩) ?_; rintro _ _ ⟨t9, a9, c9, rfl, ⟨⟩, ha9, e9⟩; simp only [la4, la5])
 (refine Jx.fieldAddr rfl rfl ?_)
 (refine J.st 0 rfl rfl rfl rfl rfl rfl ?_)
 (refine J.nil (N.seq (W.seq (W.region (Jx.move rfl rfl ?_)))))
 (refine J.call1 1 ((r_Bytes _ a9 c9 32 (by omega))) rfl (evs_args rfl) rfl (by rintro _ _ ⟨t10, a10, c10, rfl, rfl, ha10, e10⟩; exact ⟨_, rfl⟩) ?_; rintro _ _ ⟨t10, a10, c10, rfl, ⟨⟩, ha10, e10⟩; simp only [la4, la5])
 (refine Jx.fieldAddr rfl rfl ?_)
 (refine J.st 0 rfl rfl rfl rfl rfl rfl ?_)
 (refine J.nil (N.seq (W.seq (W.region (Jx.fieldAddr rfl rfl ?_)))))
 (refine Jx.load rfl 0 rfl rfl rfl ?_)
 (refine J.call ((rlinks_ok (n1 : Int))) rfl (evs_args rfl) rfl ?_; rintro _ _ ⟨rfl, rfl⟩; simp only [la1, la2, la3])
 (refine Jx.lenSl rfl rfl ?_)
 (refine Jx.assign rfl rfl (J.nil (N.seq (W.seq (W.seq (W.region (Jx.assign rfl rfl (J.nil (N.seq (W.block ?_))))))))))
 (refine id ?_; rotate_left))
  rename_i p2 b
  have hln := linksI_len (n1 : Int)
  refine W.rowNil 9 1 (elOf (fun a => [str a]) [] []) ?_
  refine W.perm (List.Perm.trans (List.Perm.cons _ (List.Perm.swap _ _ _)) (List.Perm.swap _ _ _)) ?_
  refine W.loop (α := Value × List (List UInt8) × List UInt8 × Int) (fun x => [(7, int (x.2.1.length : Int)), (6, int ((linksI (n1 : Int)).length : Int)), (5, ptr b'), (4, ptr b), (2, ptr p2), (0, str s)])
    (fun x => [rrO b x.2.2.1 x.2.2.2, .row x.1 9 1 x.2.1.length (elOf (fun a => [str a]) [] x.2.1), .obj b' tHd [int (n1 : Int), int (n2 : Int), int (n3 : Int), bool lf', str t5, str t6, str t7, str t8, str t9, str t10, .val x.1], .obj p2 tHd hdz])
    (fun x => x.2.2.1.length ≤ s.length ∧ x.2.1.length ≤ (linksI (n1 : Int)).length ∧ reps (linksI (n1 : Int)).length (rf a10 c10) = (x.2.1 ++ (reps ((linksI (n1 : Int)).length - x.2.1.length) (rf x.2.2.1 x.2.2.2)).1, (reps ((linksI (n1 : Int)).length - x.2.1.length) (rf x.2.2.1 x.2.2.2)).2)) (fun x => (linksI (n1 : Int)).length - x.2.1.length) (.slice none 0 0, [], a10, c10) ⟨by simp only; omega, by simp, by simp⟩ rfl ⟨ref0 rfl, ref0 rfl, ref0 rfl, ref0 rfl, ref0 rfl, ref0 rfl, trivial⟩ ?_
  rintro ⟨u, acc, a, c⟩ ⟨ha, hi, hr⟩
  simp only at ha hi hr ⊢
  have rdh : ∀ (sk : List (List UInt8)) (st : PSt), reps (linksI (n1 : Int)).length (rf a10 c10) = (sk, st) → ReadH s ⟨n1, n2, n3, lf', t5, t6, t7, t8, t9, t10, sk⟩ st := fun sk st h =>
    ⟨n1, n2, n3, _, _, _, _, _, _, _, _, _, _, e1, rfl, e2, rfl, e3, rfl, e4, e5, e6, e7, e8, e9, e10, h⟩
  by_cases h1 : acc.length < (linksI (n1 : Int)).length
  · have cb := r_Bytes b a c 32 (by omega)
    have hmx : ∀ t : List UInt8, acc.length + [t].length ≤ maxLen ∧ (acc.length + [t].length) * 16 ≤ 140737488355328 := fun t => by simp only [maxLen, List.length_cons, List.length_nil]; omega
    have hsucc : (linksI (n1 : Int)).length - acc.length = ((linksI (n1 : Int)).length - (acc.length + 1)) + 1 := by omega
    focus (
 (refine W.seq (W.seq (W.region (Jx.move rfl rfl (Jx.move rfl rfl (Jx.lssI rfl rfl rfl (J.nil (N.seq (W.cT rfl ?_)))))))))
 (refine W.skip (N.seq (W.seq (W.block ?_))))
 (refine W.draw follows ?_)
 (refine JD.begin 8 rfl ?_; refine JP.more [0, 1, 2] _ rfl (by decide +kernel) ?_)
 (refine Cx.fieldAddr rfl rfl ?_)
 (refine Cx.load rfl 2 rfl rfl rfl ?_)
 (refine Cx.move rfl rfl ?_)
 (refine SegC.nil ?_)
 (refine JP.call (idx := [0, 1, 2]) (Lc := [rrO b a c]) 3 [52] [2, 3] [0, 1] cb rfl (by decide +kernel) rfl ?_ (evs_args rfl) rfl ?_; rotate_left; rintro _ _ ⟨t, a', c', rfl, rfl, ha', hb'⟩; simp only [List.cons_append, List.nil_append]; refine JP.more [4] _ rfl (by decide +kernel) ?_; rotate_left)
 (refine Cx.fieldAddr rfl rfl ?_)
 (refine Cx.load rfl 2 rfl rfl rfl ?_)
 (refine Cx.move rfl rfl ?_)
 (refine SegC.nil ?_)
 (refine Ag.cons rfl ?_)
 (refine Ag.cons rfl ?_)
 (refine Ag.cons rfl ?_)
 (refine Ag.nil)
 (refine SegC.q (Qs.buildTexts [t] rfl rfl rfl (by decide) (by decide)) rfl ?_)
 (refine SegC.nil ?_)
 (refine JP.perm (List.Perm.swap _ _ _) ?_; refine JP.append (idx := [0, 1, 4]) (m := acc) (m2 := [t]) 5 [51, 54] [0, 1, 2, 3, 4, 5] [] (by decide +kernel) rfl ?_ rfl (SrcOK.sl rfl) rfl rfl (hmx t) rfl ?_; rotate_left; intro v' hv'; rotate_left)
 (refine Cx.fieldAddr rfl rfl ?_)
 (refine Cx.load rfl 2 rfl rfl rfl ?_)
 (refine SegC.q (Qs.buildTexts [t] rfl rfl rfl (by decide) (by decide)) rfl ?_)
 (refine SegC.nil ?_)
 (refine Ag.cons rfl ?_)
 (refine Ag.cons rfl ?_)
 (refine Ag.cons rfl ?_)
 (refine Ag.nil)
 (refine JP.tail (idx := []) 6 (by decide +kernel) (by decide +kernel) rfl rfl ?_ ?_)
 (refine SegC.nil ?_)
 (refine Ag.nil)
 (refine Jx.fieldAddr rfl rfl ?_)
 (refine J.store rfl rfl (One.val hv') 2 rfl rfl rfl rfl ?_)
 (refine J.nil (N.seq (W.region (Jx.move rfl rfl (Jx.add64 rfl rfl (by omega) rfl ?_)))))
 (refine Jx.assign rfl rfl (J.nil ?_))
 (refine id ?_; rotate_left))
    refine N.perm (List.Perm.swap _ _ _) ?_
    refine N.round (v', acc ++ [t], a', c') ⟨by simp only; omega, by simp only [List.length_append, List.length_cons, List.length_nil]; omega, ?_⟩ (by simp only [List.length_append, List.length_cons, List.length_nil]; omega) rfl ⟨⟨_, rfl, Sub.of_eq (by simp)⟩, ref0 rfl, ref0 rfl, ref0 rfl, ref0 rfl, ref0 rfl, trivial⟩
    rw [hsucc] at hr
    have := reps_step hr hb'
    simpa only [List.length_append, List.length_cons, List.length_nil, Nat.zero_add] using this
  · have hlen : acc.length = (linksI (n1 : Int)).length := by omega
    rw [hlen, Nat.sub_self] at hr
    simp only [reps, List.append_nil] at hr
    have hrd := rdh _ _ hr
    refine W.freezeCell 1 1 10 rfl rfl rfl (by simp only [maxLen]; omega) rfl ?_
    have ck := rhfine_ok ⟨n1, n2, n3, lf', t5, t6, t7, t8, t9, t10, acc⟩ (by simp only; omega)
    generalize hx : (⟨n1, n2, n3, lf', t5, t6, t7, t8, t9, t10, acc⟩ : Hd) = x at *
    rw [show [int (n1 : Int), int (n2 : Int), int (n3 : Int), bool lf', str t5, str t6, str t7, str t8, str t9, str t10, SV.val u].set 10 (SV.sl 1 acc.length (elOf (fun a => [str a]) [] acc)) = hdC x by rw [← hx]; rfl]
    cases hf : fineHd x with
    | false =>
      rw [hf] at ck
      focus (
 (refine W.seq (W.seq (W.region (Jx.move rfl rfl (Jx.move rfl rfl (Jx.lssI rfl rfl rfl (J.nil (N.seq (W.cF rfl ?_)))))))))
 (refine W.exit (N.seq (W.seq (W.seq (W.region (Jx.move rfl rfl (Jx.nilCheck rfl rfl ?_)))))))
 (refine Jx.fieldAddr rfl rfl ?_)
 (refine Jx.load rfl 0 rfl rfl rfl ?_)
 (refine Jx.neqI rfl rfl rfl (Jx.move rfl rfl ?_))
 (refine' J.guardOr rfl rfl rfl rfl rfl rfl rfl rfl (fun _ => ?_) ?_; rotate_left)
 (refine J.gY rfl rfl rfl ?_)
 (refine Jx.loadAll rfl 1 rfl rfl rfl ?_)
 (refine J.gY rfl rfl rfl ?_)
 (refine J.cP ck (evs_args rfl) rfl ?_; try simp only)
 (refine J.gY rfl rfl rfl ?_)
 (refine Jx.not rfl rfl (J.nil ?_))
 (refine N.joinedN rfl rfl rfl)
 (refine Jx.move rfl rfl (J.gN rfl rfl rfl rfl ?_))
 (refine J.gN rfl rfl rfl rfl ?_)
 (refine J.gN rfl rfl rfl rfl ?_)
 (refine J.gN rfl rfl rfl rfl ?_)
 (refine Jx.pT rfl rfl rfl ?_)
 (refine J.nil (N.seq (W.cT rfl ?_)))
 (refine W.seq (W.region (Jx.buildB rfl rfl rfl rfl rfl ?_)))
 (refine J.storeAll rfl rfl rfl 2 rfl rfl rfl ?_)
 (refine Jx.assign rfl rfl (J.nil (N.seq (W.ret (N.noGotoRet ?_)))))
 (refine id ?_; rotate_left))
      refine N.objSub 2 (hdC hd0) rfl hdz_sub rfl ?_
      refine N.retD (rs := [.cell 2 tHd, .tmp 3]) (L1 := []) rfl (.cell rfl 2 rfl agHd (.tmp rfl .nil)) (List.nil_sublist _) ⟨⟨none, fun y hy hz => ?_, rfl⟩, rfl⟩
      obtain ⟨rfl, h2⟩ := hrd.whole ((fineHd_iff y).1 hy) hz
      rw [hf] at hy; cases hy
    | true =>
      rw [hf] at ck
      have cw := rhwritten_ok x hf
      focus (
 (refine W.seq (W.seq (W.region (Jx.move rfl rfl (Jx.move rfl rfl (Jx.lssI rfl rfl rfl (J.nil (N.seq (W.cF rfl ?_)))))))))
 (refine W.exit (N.seq (W.seq (W.seq (W.region (Jx.move rfl rfl (Jx.nilCheck rfl rfl ?_)))))))
 (refine Jx.fieldAddr rfl rfl ?_)
 (refine Jx.load rfl 0 rfl rfl rfl ?_)
 (refine Jx.neqI rfl rfl rfl (Jx.move rfl rfl ?_))
 (refine' J.guardOr rfl rfl rfl rfl rfl rfl rfl rfl (fun _ => ?_) ?_; rotate_left)
 (refine J.gY rfl rfl rfl ?_)
 (refine Jx.loadAll rfl 1 rfl rfl rfl ?_)
 (refine J.gY rfl rfl rfl ?_)
 (refine J.cP ck (evs_args rfl) rfl ?_; try simp only)
 (refine J.gY rfl rfl rfl ?_)
 (refine Jx.not rfl rfl (J.nil ?_))
 (refine N.joinedN rfl rfl rfl)
 (refine Jx.move rfl rfl ?_)
 (refine' J.guardOr rfl rfl rfl rfl rfl rfl rfl rfl (fun _ => ?_) ?_; rotate_left)
 (refine J.gY rfl rfl rfl ?_)
 (refine Jx.loadAll rfl 1 rfl rfl rfl ?_)
 (refine J.gY rfl rfl rfl ?_)
 (refine J.cP cw (evs_args rfl) rfl ?_; try simp only)
 (refine J.gY rfl rfl rfl ?_)
 (refine Jx.move rfl rfl (J.gY rfl rfl rfl ?_))
 (refine Jx.neqS rfl rfl rfl (J.nil ?_))
 (refine N.joinedN rfl rfl rfl)
 (refine J.nil (N.seq ?_))
 (refine id ?_; rotate_left))
      refine W.cond rfl (fun hb => ?_) (fun hb => ?_)
      · focus (
 (refine W.seq (W.region (Jx.buildB rfl rfl rfl rfl rfl ?_)))
 (refine J.storeAll rfl rfl rfl 2 rfl rfl rfl ?_)
 (refine Jx.assign rfl rfl (J.nil (N.seq (W.ret (N.noGotoRet ?_)))))
 (refine id ?_; rotate_left))
        refine N.objSub 2 (hdC hd0) rfl hdz_sub rfl ?_
        refine N.retD (rs := [.cell 2 tHd, .tmp 3]) (L1 := []) rfl (.cell rfl 2 rfl agHd (.tmp rfl .nil)) (List.nil_sublist _) ⟨⟨none, fun y hy hz => ?_, rfl⟩, rfl⟩
        obtain ⟨rfl, h2⟩ := hrd.whole ((fineHd_iff y).1 hy) hz
        have hc0 : c = 0 := Classical.byContradiction fun h => by rw [rf_no h] at h2; cases h2
        rw [hc0, hz] at hb
        simp at hb
      · focus (
 (refine W.skip (N.seq (W.seq (W.region (Jx.loadAll rfl 1 rfl rfl rfl ?_)))))
 (refine J.storeAll rfl rfl rfl 2 rfl rfl rfl ?_)
 (refine Jx.assign rfl rfl (J.nil (N.seq (W.ret ?_))))
 (refine id ?_; rotate_left))
        refine N.retD (rs := [.cell 2 tHd, .tmp 3]) (L1 := []) rfl (.cell rfl 2 rfl agHd (.tmp rfl .nil)) (List.nil_sublist _) ⟨⟨some x, ⟨hf, ?_⟩, rfl⟩, rfl⟩
        simp only [Bool.or_eq_false_iff, decide_eq_false_iff_not, Classical.not_not] at hb
        exact hb.2
end Go.Proofs.YtlfdhkahiaammaaGreatDoor
namespace Go.Proofs.YtlfdhkahiaammaaGreatDoor
open Go Go.Sse
set_option linter.unusedVariables false
set_option linter.unusedSimpArgs false
set_option maxRecDepth 10000
theorem bkJ_sub (h : Hd) (l : List Tx) : SubL ((bkC ⟨h, l, ct0⟩).set 13 (.val (.slice none 0 0))) (bkC ⟨h, l, ct0⟩) := .cons (.refl _) (.cons (.refl _) (.cons (.refl _) (.cons (.refl _) (.cons (.refl _) (.cons (.refl _) (.cons (.refl _) (.cons (.refl _) (.cons (.refl _) (.cons (.refl _) (.cons (.refl _) (.cons (.refl _) (.cons (.refl _) (.cons (Sub.nil 1 _) .nil)))))))))))))
set_option maxHeartbeats 8000000 in
theorem rbdecode_ok (s : List UInt8) (hs : s.length ≤ 1099511627776) : FnC Tryz.prog 10 [str s] [] (fun v L => (∃ o, DecR fineBk encBk s o ∧ v = .tup [.agg (bkC (o.getD bk0)), int (codeO o 210)]) ∧ L = []) := by
  have ct := fun b => r_Text b s 0 100000 hs
  refine FnC.intro Tryz.func10 rfl Tryz.ntmps10 rfl fun Z w0 hG => ?_
  focus (
 (refine W.seq (W.region ?_))
 (refine J.alloc (by simp only [List.map_cons, List.map_nil]; rfl) rfl rfl ?_; intro b')
 (refine Jx.assign rfl rfl (J.nil (N.seq (W.seq (W.region (Jx.move rfl rfl (Jx.buildB rfl rfl rfl rfl rfl ?_)))))))
 (refine J.boxAg rfl rfl ?_; intro b')
 (refine Jx.assign rfl rfl (J.nil (N.seq (W.seq (W.region (Jx.move rfl rfl ?_))))))
 (refine J.call1 0 ((ct _)) rfl (evs_args rfl) rfl (by rintro _ _ ⟨t1, s1, c1, rfl, rfl, hs1, e1⟩; exact ⟨_, rfl⟩) ?_; rintro _ _ ⟨t1, s1, c1, rfl, ⟨⟩, hs1, e1⟩; simp only [la4, la5])
 (refine J.call (Lc := []) (rhdecode_ok t1 (by have := rf_len e1; omega)) rfl (evs_args rfl) rfl ?_; rintro _ _ ⟨⟨o1, d1, rfl⟩, rfl⟩; simp only [la1, la2, la3])
 (refine Jx.move rfl rfl (Jx.extract rfl rfl rfl ?_))
 (refine Jx.extract rfl rfl rfl ?_)
 (refine J.alloc (by simp only [List.map_cons, List.map_nil]; rfl) rfl rfl ?_; intro b')
 (refine J.storeAll rfl rfl rfl 0 rfl rfl rfl ?_)
 (refine Jx.assign rfl rfl (J.nil (N.seq (W.seq (W.region (Jx.move rfl rfl ?_))))))
 (refine J.call1 1 ((r_Text _ s1 c1 100000 (by omega))) rfl (evs_args rfl) rfl (by rintro _ _ ⟨t2, s2, c2, rfl, rfl, hs2, e2⟩; exact ⟨_, rfl⟩) ?_; rintro _ _ ⟨t2, s2, c2, rfl, ⟨⟩, hs2, e2⟩; simp only [la4, la5])
 (refine J.call (Lc := []) (rtdecAll_ok t2 (by have := rf_len e2; omega)) rfl (evs_args rfl) rfl ?_; rintro _ _ ⟨⟨o2, d2, rfl⟩, rfl⟩; simp only [la1, la2, la3])
 (refine Jx.move rfl rfl (Jx.extract rfl rfl rfl ?_))
 (refine Jx.extract rfl rfl rfl ?_)
 (refine Jx.assign rfl rfl (Jx.assign rfl rfl (J.nil (N.seq (W.seq (W.region (Jx.loadAll rfl 0 rfl rfl rfl ?_)))))))
 (refine Jx.move rfl rfl (Jx.buildB rfl rfl rfl rfl rfl ?_))
 (refine J.alloc (by simp only [List.map_cons, List.map_nil]; rfl) rfl rfl ?_; intro b')
 (refine J.storeAll rfl rfl rfl 0 rfl rfl rfl ?_)
 (refine J.nil (N.seq (W.seq (W.region (Jx.assign rfl rfl (J.nil (N.seq (W.seq (W.seq (W.region (Jx.move rfl rfl ?_)))))))))))
 (refine J.call1 2 ((r_Flag _ s2 c2 (by omega))) rfl (evs_args rfl) rfl (by rintro _ _ ⟨f, s3, c3, rfl, rfl, hs3, e3⟩; exact ⟨_, rfl⟩) ?_; rintro _ _ ⟨f, s3, c3, rfl, ⟨⟩, hs3, e3⟩; simp only [la4, la5])
 (refine J.nil (N.seq ?_))
 (refine id ?_; rotate_left))
  rename_i p2 p4 p5
  refine W.objSub 0 (bkC ⟨o1.getD hd0, o2.getD [], ct0⟩) rfl (bkJ_sub _ _) rfl ?_
  refine W.joinE (α := Ct × Bool × List UInt8 × Int) (fun y => [(10, int (if y.2.1 then 0 else 3)), (9, ptr b'), (8, int (codeO o2 150)), (6, int (codeO o1 190)), (4, ptr p4), (2, ptr p2), (0, str s)]) (fun y => [.obj b' tBk (bkC ⟨o1.getD hd0, o2.getD [], y.1⟩), .obj p5 tHd (hdC (o1.getD hd0)), rrO p4 y.2.2.1 y.2.2.2, .obj p2 tBk bkz]) (fun y => JustR 100000 (rf s2 c2) y.1 y.2.1 (rf y.2.2.1 y.2.2.2)) ?_ ?_
  · cases f with
    | false =>
      focus (
 (refine W.cF rfl ?_)
 (refine W.skip ?_)
 (refine id ?_; rotate_left))
      exact N.joinE (ct0, true, s3, c3) ⟨_, _, e3, fun _ => ⟨rfl, rfl, rfl⟩, fun h => by cases h⟩ rfl ⟨ref0 rfl, ref0 rfl, ref0 rfl, ref0 rfl, ref0 rfl, ref0 rfl, ref0 rfl, trivial⟩
    | true =>
      focus (
 (refine W.cT rfl ?_)
 (refine W.region (Jx.move rfl rfl ?_))
 (refine J.call1 2 ((r_Text _ s3 c3 100000 (by omega))) rfl (evs_args rfl) rfl (by rintro _ _ ⟨t3, s4, c4, rfl, rfl, hs4, e4⟩; exact ⟨_, rfl⟩) ?_; rintro _ _ ⟨t3, s4, c4, rfl, ⟨⟩, hs4, e4⟩; simp only [la4, la5])
 (refine J.call (Lc := []) (rcdecode_ok t3 (by have := rf_len e4; omega)) rfl (evs_args rfl) rfl ?_; rintro _ _ ⟨⟨o3, d3, rfl⟩, rfl⟩; simp only [la1, la2, la3])
 (refine Jx.move rfl rfl (Jx.extract rfl rfl rfl ?_))
 (refine Jx.extract rfl rfl rfl ?_)
 (refine Jx.fieldAddr rfl rfl ?_)
 (refine J.storeAg rfl rfl rfl 0 rfl rfl rfl rfl ?_)
 (refine Jx.assign rfl rfl (J.nil ?_))
 (refine id ?_; rotate_left))
      exact N.joinE (o3.getD ct0, o3.isSome, s4, c4) ⟨_, _, e3, (fun h => by cases h), fun _ => ⟨t3, o3, e4, d3, rfl, rfl⟩⟩ rfl ⟨ref0 rfl, ref0 rfl, ref0 rfl, ref0 rfl, ref0 rfl, ref0 rfl, ref0 rfl, trivial⟩
  · rintro ⟨c5, k3, s5, cc5⟩ hj
    simp only at hj ⊢
    have hrd : ReadB 100000 s ⟨o1.getD hd0, o2.getD [], c5⟩ o1.isSome o2.isSome k3 (rf s5 cc5) := ⟨t1, _, t2, _, o1, o2, e1, d1, rfl, rfl, e2, d2, rfl, rfl, hj⟩
    have ce := r_End p4 s5 cc5
    have hsk : (o1.getD hd0).skips.length ≤ 1048576 := dec_skips d1
    have cf := rbfine_ok ⟨o1.getD hd0, o2.getD [], c5⟩ hsk
    have k1 : decide (codeO o1 190 ≠ 0) = !o1.isSome := by cases o1 <;> rfl
    have k2 : decide (codeO o2 150 ≠ 0) = !o2.isSome := by cases o2 <;> rfl
    have k4 : decide ((if k3 = true then (0 : Int) else 3) ≠ 0) = !k3 := by cases k3 <;> rfl
    cases hf : fineBk ⟨o1.getD hd0, o2.getD [], c5⟩ with
    | false =>
      rw [hf] at cf
      focus (
 (refine N.seq (W.seq (W.seq (W.region (Jx.move rfl rfl ?_)))))
 (refine J.call1 2 (ce) rfl (evs_args rfl) rfl (by rintro _ _ ⟨e, s6, c6, rfl, rfl, he⟩; exact ⟨_, rfl⟩) ?_; rintro _ _ ⟨e, s6, c6, rfl, ⟨⟩, he⟩; simp only [la4, la5])
 (refine Jx.neqI rfl rfl rfl (Jx.move rfl rfl ?_))
 (refine' J.guardOr rfl rfl rfl rfl rfl rfl rfl rfl (fun _ => ?_) ?_; rotate_left)
 (refine J.gY rfl rfl rfl ?_)
 (refine Jx.move rfl rfl (J.gY rfl rfl rfl ?_))
 (refine Jx.neqI rfl rfl rfl (J.nil ?_))
 (refine N.joinedN rfl rfl rfl)
 (refine Jx.move rfl rfl ?_)
 (refine' J.guardOr rfl rfl rfl rfl rfl rfl rfl rfl (fun _ => ?_) ?_; rotate_left)
 (refine J.gY rfl rfl rfl ?_)
 (refine Jx.move rfl rfl (J.gY rfl rfl rfl ?_))
 (refine Jx.neqI rfl rfl rfl (J.nil ?_))
 (refine N.joinedN rfl rfl rfl)
 (refine Jx.move rfl rfl ?_)
 (refine' J.guardOr rfl rfl rfl rfl rfl rfl rfl rfl (fun _ => ?_) ?_; rotate_left)
 (refine J.gY rfl rfl rfl ?_)
 (refine Jx.move rfl rfl (J.gY rfl rfl rfl ?_))
 (refine Jx.neqI rfl rfl rfl (J.nil ?_))
 (refine N.joinedN rfl rfl rfl)
 (refine Jx.move rfl rfl ?_)
 (refine' J.guardOr rfl rfl rfl rfl rfl rfl rfl rfl (fun _ => ?_) ?_; rotate_left)
 (refine J.gY rfl rfl rfl ?_)
 (refine Jx.loadAll rfl 0 rfl rfl rfl ?_)
 (refine J.gY rfl rfl rfl ?_)
 (refine J.cP cf (evs_args rfl) rfl ?_; try simp only)
 (refine J.gY rfl rfl rfl ?_)
 (refine Jx.not rfl rfl (J.nil ?_))
 (refine N.joinedN rfl rfl rfl)
 (refine Jx.move rfl rfl (J.gN rfl rfl rfl rfl ?_))
 (refine J.gN rfl rfl rfl rfl ?_)
 (refine J.gN rfl rfl rfl rfl ?_)
 (refine J.gN rfl rfl rfl rfl ?_)
 (refine Jx.pT rfl rfl rfl ?_)
 (refine J.nil (N.seq (W.cT rfl ?_)))
 (refine W.seq (W.region (Jx.buildB rfl rfl rfl rfl rfl ?_)))
 (refine J.storeAll rfl rfl rfl 3 rfl rfl rfl ?_)
 (refine Jx.assign rfl rfl (J.nil (N.seq (W.ret (N.noGotoRet ?_)))))
 (refine id ?_; rotate_left))
      refine N.objSub 3 (bkC bk0) rfl bkz_sub rfl ?_
      refine N.retD (rs := [.cell 2 tBk, .tmp 3]) (L1 := []) rfl (.cell rfl 3 rfl agBk (.tmp rfl .nil)) (List.nil_sublist _) ⟨⟨none, fun y hy hz => ?_, rfl⟩, rfl⟩
      obtain ⟨rfl, _⟩ := hrd.whole (by decide) ((fineBk_iff y).1 hy) (r := []) (by rw [List.append_nil, hz])
      rw [hf] at hy; cases hy
    | true =>
      rw [hf] at cf
      have cw := rbwritten_ok _ hf
      focus (
 (refine N.seq (W.seq (W.seq (W.region (Jx.move rfl rfl ?_)))))
 (refine J.call1 2 (ce) rfl (evs_args rfl) rfl (by rintro _ _ ⟨e, s6, c6, rfl, rfl, he⟩; exact ⟨_, rfl⟩) ?_; rintro _ _ ⟨e, s6, c6, rfl, ⟨⟩, he⟩; simp only [la4, la5])
 (refine Jx.neqI rfl rfl rfl (Jx.move rfl rfl ?_))
 (refine' J.guardOr rfl rfl rfl rfl rfl rfl rfl rfl (fun _ => ?_) ?_; rotate_left)
 (refine J.gY rfl rfl rfl ?_)
 (refine Jx.move rfl rfl (J.gY rfl rfl rfl ?_))
 (refine Jx.neqI rfl rfl rfl (J.nil ?_))
 (refine N.joinedN rfl rfl rfl)
 (refine Jx.move rfl rfl ?_)
 (refine' J.guardOr rfl rfl rfl rfl rfl rfl rfl rfl (fun _ => ?_) ?_; rotate_left)
 (refine J.gY rfl rfl rfl ?_)
 (refine Jx.move rfl rfl (J.gY rfl rfl rfl ?_))
 (refine Jx.neqI rfl rfl rfl (J.nil ?_))
 (refine N.joinedN rfl rfl rfl)
 (refine Jx.move rfl rfl ?_)
 (refine' J.guardOr rfl rfl rfl rfl rfl rfl rfl rfl (fun _ => ?_) ?_; rotate_left)
 (refine J.gY rfl rfl rfl ?_)
 (refine Jx.move rfl rfl (J.gY rfl rfl rfl ?_))
 (refine Jx.neqI rfl rfl rfl (J.nil ?_))
 (refine N.joinedN rfl rfl rfl)
 (refine Jx.move rfl rfl ?_)
 (refine' J.guardOr rfl rfl rfl rfl rfl rfl rfl rfl (fun _ => ?_) ?_; rotate_left)
 (refine J.gY rfl rfl rfl ?_)
 (refine Jx.loadAll rfl 0 rfl rfl rfl ?_)
 (refine J.gY rfl rfl rfl ?_)
 (refine J.cP cf (evs_args rfl) rfl ?_; try simp only)
 (refine J.gY rfl rfl rfl ?_)
 (refine Jx.not rfl rfl (J.nil ?_))
 (refine N.joinedN rfl rfl rfl)
 (refine Jx.move rfl rfl ?_)
 (refine' J.guardOr rfl rfl rfl rfl rfl rfl rfl rfl (fun _ => ?_) ?_; rotate_left)
 (refine J.gY rfl rfl rfl ?_)
 (refine Jx.loadAll rfl 0 rfl rfl rfl ?_)
 (refine J.gY rfl rfl rfl ?_)
 (refine J.cP cw (evs_args rfl) rfl ?_; try simp only)
 (refine J.gY rfl rfl rfl ?_)
 (refine Jx.move rfl rfl (J.gY rfl rfl rfl ?_))
 (refine Jx.neqS rfl rfl rfl (J.nil ?_))
 (refine N.joinedN rfl rfl rfl)
 (refine J.nil (N.seq ?_))
 (refine id ?_; rotate_left))
      refine W.cond rfl (fun hb => ?_) (fun hb => ?_)
      · focus (
 (refine W.seq (W.region (Jx.buildB rfl rfl rfl rfl rfl ?_)))
 (refine J.storeAll rfl rfl rfl 3 rfl rfl rfl ?_)
 (refine Jx.assign rfl rfl (J.nil (N.seq (W.ret (N.noGotoRet ?_)))))
 (refine id ?_; rotate_left))
        refine N.objSub 3 (bkC bk0) rfl bkz_sub rfl ?_
        refine N.retD (rs := [.cell 2 tBk, .tmp 3]) (L1 := []) rfl (.cell rfl 3 rfl agBk (.tmp rfl .nil)) (List.nil_sublist _) ⟨⟨none, fun y hy hz => ?_, rfl⟩, rfl⟩
        obtain ⟨rfl, h1, h2, h3, h4⟩ := hrd.whole (by decide) ((fineBk_iff y).1 hy) (r := []) (by rw [List.append_nil, hz])
        rw [k1, k2, k4, h1, h2, h3, hz, he.2 h4] at hb
        simp at hb
      · focus (
 (refine W.skip (N.seq (W.seq (W.region (Jx.loadAll rfl 0 rfl rfl rfl ?_)))))
 (refine J.storeAll rfl rfl rfl 3 rfl rfl rfl ?_)
 (refine Jx.assign rfl rfl (J.nil (N.seq (W.ret ?_))))
 (refine id ?_; rotate_left))
        refine N.retD (rs := [.cell 2 tBk, .tmp 3]) (L1 := []) rfl (.cell rfl 3 rfl agBk (.tmp rfl .nil)) (List.nil_sublist _) ⟨⟨some ⟨o1.getD hd0, o2.getD [], c5⟩, ⟨hf, ?_⟩, rfl⟩, rfl⟩
        simp only [Bool.or_eq_false_iff, decide_eq_false_iff_not, Classical.not_not] at hb
        exact hb.2
end Go.Proofs.YtlfdhkahiaammaaGreatDoor
namespace Go.Proofs.YtlfdhkahiaammaaGreatDoor
open Go Go.Sse
set_option linter.unusedVariables false
set_option linter.unusedSimpArgs false
set_option maxRecDepth 10000
theorem fineT_members {x : Tx} (h : fineTx x = true) : x.members.length ≤ 7 := by
  have f := (fineTx_iff x).1 h
  have hk := f.kind
  by_cases e1 : x.kind = 1
  · rw [(f.k1 e1).2.2.2]; simp
  · by_cases e2 : x.kind = 2
    · rw [(f.k2 e2).2.2.2]; simp
    · by_cases e3 : x.kind = 3
      · rw [(f.k3 e3).2.2.2.2]; simp
      · exact (fineSet_spec (f.k4 (by omega)).1).2.1
theorem fineBk_small {y : Bk} (h : fineBk y = true) : y.head.skips.length ≤ 20 ∧ y.txs.length ≤ 8 ∧ (∀ t ∈ y.txs, t.members.length ≤ 7) ∧ y.just.signers.length ≤ 7 := by
  have F := (fineBk_iff y).1 h
  obtain ⟨g1, g2⟩ := fineAll_spec F.txs
  refine ⟨((fineHd_iff _).1 F.head).skips20, g1, fun t ht => fineT_members (g2 t ht), ?_⟩
  rcases F.just with hj | hj
  · rw [bare_eq hj]; decide
  · exact (fineCt_spec hj.1).2.1
theorem decB_self {s : List UInt8} {o : Option Bk} (h : DecR fineBk encBk s o) : FnC Tryz.prog 11 [.agg (bkC (o.getD bk0)), .agg (bkC (o.getD bk0))] [] (fun v L => v = bool true ∧ L = []) := by
  have hs : (o.getD bk0).head.skips.length ≤ 1048576 ∧ (o.getD bk0).txs.length ≤ 1048576 ∧ (∀ t ∈ (o.getD bk0).txs, t.members.length ≤ 1048576) ∧ (o.getD bk0).just.signers.length ≤ 1048576 := by
    cases o with
    | none => exact ⟨by decide, by decide, by simp [bk0], by decide⟩
    | some y =>
      obtain ⟨g1, g2, g3, g4⟩ := fineBk_small h.1
      simp only [Option.getD_some]
      exact ⟨by omega, by omega, fun t ht => by have := g3 t ht; omega, by omega⟩
  have c := sameB_ok (o.getD bk0) (o.getD bk0) hs.1 hs.2.1 hs.2.2.1 hs.2.2.2
  rwa [decide_eq_true rfl] at c
set_option maxHeartbeats 8000000 in
theorem blockCodes_ok (x : Bk) (hl : x.txs.length ≤ 9223372036854775807) (s : List UInt8) : FnC Tryz.prog 3 [.agg (bkC x), str s] [] (fun v L => v = bool true ∧ L = []) := by
  have cb := bbig_ok x hl
  have cw := bworks_ok
  refine FnC.intro Tryz.func3 rfl Tryz.ntmps3 rfl fun Z w0 hG => ?_
  focus (
 (refine W.seq (W.region ?_))
 (refine J.boxAg rfl rfl ?_; intro b')
 (refine Jx.assign rfl rfl (J.nil (N.seq (W.seq (W.seq (W.region (Jx.loadAll rfl 0 rfl rfl rfl ?_)))))))
 (refine J.call (cb) rfl (evs_args rfl) rfl ?_; rintro _ _ ⟨rfl, rfl⟩; simp only [la1, la2, la3])
 (refine Jx.move rfl rfl ?_)
 (refine' J.guardOr rfl rfl rfl rfl rfl rfl rfl rfl (fun _ => ?_) ?_; rotate_left)
 (refine J.gY rfl rfl rfl ?_)
 (refine Jx.move rfl rfl (J.gY rfl rfl rfl ?_))
 (refine Jx.lenS rfl rfl ?_)
 (refine J.gY rfl rfl rfl ?_)
 (refine Jx.gtrI rfl rfl rfl (J.nil ?_))
 (refine N.joinedN rfl rfl rfl)
 (refine J.nil (N.seq ?_))
 (refine id ?_; rotate_left))
  refine W.cond rfl (fun hb => ?_) (fun hb => ?_)
  · focus (
 (refine W.seq (W.region ?_))
 (refine J.call (cw) rfl (evs_args rfl) rfl ?_; rintro _ _ ⟨rfl, rfl⟩; simp only [la1, la2, la3])
 (refine Jx.assign rfl rfl (J.nil (N.seq (W.ret (N.noGotoRet ?_)))))
 (refine id ?_; rotate_left))
    exact N.retD (rs := [.tmp 4]) (L1 := []) rfl (.tmp rfl .nil) (List.nil_sublist _) ⟨rfl, rfl⟩
  · simp only [Bool.or_eq_false_iff, decide_eq_false_iff_not] at hb
    obtain ⟨m1, m2, m3, m4⟩ := bigBk_no hb.1
    have c1 := bencode_ok x (by omega)
    have c2 := rbencode_ok x (by omega)
    have c3 := bdecode_ok s (by omega)
    have c4 := rbdecode_ok s (by omega)
    have c5 := bcheck_ok x (by omega)
    have c6 := rbcheck_ok x (by omega)
    have c8 := bdigest_ok x (by omega)
    have c9 := rbdigest_ok x (by omega)
    generalize encO fineBk encBk x = ex at *
    generalize codeB (fineBk x) 210 = ec at *
    generalize digB x = dg at *
    focus (
 (refine W.skip (N.seq (W.seq (W.region (Jx.loadAll rfl 0 rfl rfl rfl ?_)))))
 (refine J.call (c1) rfl (evs_args rfl) rfl ?_; rintro _ _ ⟨rfl, rfl⟩; simp only [la1, la2, la3])
 (refine Jx.move rfl rfl (Jx.extract rfl rfl rfl ?_))
 (refine Jx.extract rfl rfl rfl ?_)
 (refine Jx.assign rfl rfl (Jx.assign rfl rfl (J.nil (N.seq (W.seq (W.region (Jx.loadAll rfl 0 rfl rfl rfl ?_)))))))
 (refine J.call (c2) rfl (evs_args rfl) rfl ?_; rintro _ _ ⟨rfl, rfl⟩; simp only [la1, la2, la3])
 (refine Jx.move rfl rfl (Jx.extract rfl rfl rfl ?_))
 (refine Jx.extract rfl rfl rfl ?_)
 (refine Jx.assign rfl rfl (Jx.assign rfl rfl (J.nil (N.seq (W.seq (W.region (Jx.move rfl rfl ?_)))))))
 (refine J.call (c3) rfl (evs_args rfl) rfl ?_; rintro _ _ ⟨⟨o, ho, rfl⟩, rfl⟩; simp only [la1, la2, la3])
 (refine Jx.move rfl rfl (Jx.extract rfl rfl rfl ?_))
 (refine Jx.extract rfl rfl rfl ?_)
 (refine J.alloc (by simp only [List.map_cons, List.map_nil]; rfl) rfl rfl ?_; intro b')
 (refine J.storeAll rfl rfl rfl 0 rfl rfl rfl ?_)
 (refine Jx.assign rfl rfl (J.nil (N.seq (W.seq (W.region (Jx.move rfl rfl ?_))))))
 (refine J.call c4 rfl (evs_args rfl) rfl ?_; rintro _ _ ⟨⟨o2, ho2, rfl⟩, rfl⟩; simp only [la1, la2, la3]; obtain rfl := apBk.same ho ho2; have c7 := decB_self ho)
 (refine Jx.move rfl rfl (Jx.extract rfl rfl rfl ?_))
 (refine Jx.extract rfl rfl rfl ?_)
 (refine J.alloc (by simp only [List.map_cons, List.map_nil]; rfl) rfl rfl ?_; intro b')
 (refine J.storeAll rfl rfl rfl 0 rfl rfl rfl ?_)
 (refine Jx.assign rfl rfl (J.nil (N.seq (W.seq (W.seq (W.region (Jx.move rfl rfl (Jx.move rfl rfl (Jx.neqS rfl rfl rfl (Jx.move rfl rfl (J.gY rfl rfl rfl ?_)))))))))))
 (refine Jx.move rfl rfl (J.gY rfl rfl rfl ?_))
 (refine Jx.move rfl rfl (J.gY rfl rfl rfl ?_))
 (refine Jx.neqI rfl rfl rfl (Jx.pF rfl rfl rfl ?_))
 (refine Jx.move rfl rfl (J.gY rfl rfl rfl ?_))
 (refine Jx.loadAll rfl 1 rfl rfl rfl ?_)
 (refine J.gY rfl rfl rfl ?_)
 (refine Jx.loadAll rfl 0 rfl rfl rfl ?_)
 (refine J.gY rfl rfl rfl ?_)
 (refine J.call (by assumption) rfl (evs_args rfl) rfl ?_; rintro _ _ ⟨rfl, rfl⟩; simp only [la1, la2, la3])
 (refine J.gY rfl rfl rfl ?_)
 (refine Jx.not rfl rfl (Jx.pF rfl rfl rfl ?_))
 (refine Jx.move rfl rfl (J.gY rfl rfl rfl ?_))
 (refine Jx.move rfl rfl (J.gY rfl rfl rfl ?_))
 (refine Jx.move rfl rfl (J.gY rfl rfl rfl ?_))
 (refine Jx.neqI rfl rfl rfl (Jx.pF rfl rfl rfl ?_))
 (refine J.nil (N.seq (W.cF rfl ?_)))
 (refine W.skip (N.seq (W.seq ?_)))
 (refine W.draw follows ?_)
 (refine JD.calm rfl (by decide +kernel) ?_)
 (refine Cx.loadAll rfl 2 rfl rfl rfl ?_)
 (refine SegC.q (Qs.call (Lc := []) (c5) (fun s L' h => h) (List.Perm.refl _) (evs_args rfl)) rfl ?_)
 (refine Cx.loadAll rfl 2 rfl rfl rfl ?_)
 (refine SegC.q (Qs.call (Lc := []) (c6) (fun s L' h => h) (List.Perm.refl _) (evs_args rfl)) rfl ?_)
 (refine Cx.eqlI rfl rfl rfl ?_)
 (refine Cx.move rfl rfl ?_)
 (refine SegC.gY rfl rfl rfl ?_)
 (refine Cx.loadAll rfl 2 rfl rfl rfl ?_)
 (refine SegC.gY rfl rfl rfl ?_)
 (refine SegC.q (Qs.call (Lc := []) (c8) (fun s L' h => h) (List.Perm.refl _) (evs_args rfl)) rfl ?_)
 (refine SegC.gY rfl rfl rfl ?_)
 (refine Cx.loadAll rfl 2 rfl rfl rfl ?_)
 (refine SegC.gY rfl rfl rfl ?_)
 (refine SegC.q (Qs.call (Lc := []) (c9) (fun s L' h => h) (List.Perm.refl _) (evs_args rfl)) rfl ?_)
 (refine SegC.gY rfl rfl rfl ?_)
 (refine Cx.eqlS rfl rfl rfl ?_)
 (refine Cx.pickT rfl (by first | rfl | assumption | (exact decide_eq_true (by first | assumption | omega | rfl)) | (exact decide_eq_false (by first | assumption | omega | rfl)) | (simp; done) | (simp; omega)) rfl rfl ?_)
 (refine Cx.move rfl rfl ?_)
 (refine Cx.pickT rfl (by first | rfl | assumption | (exact decide_eq_true (by first | assumption | omega | rfl)) | (exact decide_eq_false (by first | assumption | omega | rfl)) | (simp; done) | (simp; omega)) rfl rfl ?_)
 (refine Cx.move rfl rfl ?_)
 (refine SegC.gY rfl rfl rfl ?_)
 (refine SegC.q (Qs.call (Lc := []) (cw) (fun s L' h => h) (List.Perm.refl _) (evs_args rfl)) rfl ?_)
 (refine Cx.pickT rfl (by first | rfl | assumption | (exact decide_eq_true (by first | assumption | omega | rfl)) | (exact decide_eq_false (by first | assumption | omega | rfl)) | (simp; done) | (simp; omega)) rfl rfl ?_)
 (refine Cx.assign rfl rfl ?_)
 (refine SegC.nil ?_)
 (refine N.seq (W.ret ?_))
 (refine id ?_; rotate_left))
    exact N.retD (rs := [.tmp 4]) (L1 := []) rfl (.tmp rfl .nil) (List.nil_sublist _) ⟨rfl, rfl⟩
end Go.Proofs.YtlfdhkahiaammaaGreatDoor
namespace Go.Proofs.YtlfdhkahiaammaaGreatDoor
open Go Go.Sse Go.ChangeShapes Go.WideShapes Go.ChangeAt Go.RowKit
set_option linter.unusedVariables false
set_option linter.unusedSimpArgs false
set_option maxRecDepth 100000
noncomputable def rdHd : Rd Tryz.prog 24 Hd :=
  rdIso (Rd.struct (tos := [(3, 0), (3, 1), (3, 2), (4, 3), (9, 4), (9, 5), (9, 6), (9, 7), (9, 8), (9, 9), (22, 10)]) (by kernel_rfl)
    (Fds.cons rdInt (Fds.cons rdInt (Fds.cons rdInt (Fds.cons rdBool (Fds.cons rdStr (Fds.cons rdStr (Fds.cons rdStr (Fds.cons rdStr (Fds.cons rdStr (Fds.cons rdStr (Fds.cons rdStrs Fds.nil))))))))))) (by kernel_rfl))
    (fun x => ⟨x.1, x.2.1, x.2.2.1, x.2.2.2.1, x.2.2.2.2.1, x.2.2.2.2.2.1, x.2.2.2.2.2.2.1, x.2.2.2.2.2.2.2.1, x.2.2.2.2.2.2.2.2.1, x.2.2.2.2.2.2.2.2.2.1, x.2.2.2.2.2.2.2.2.2.2.1⟩) (fun x => (x.height, x.epoch, x.view, x.last, x.parent, x.state, x.receipts, x.txs, x.members, x.next, x.skips, ())) (fun _ => rfl) hdC (fun _ => rfl) (fun _ => rfl)
end Go.Proofs.YtlfdhkahiaammaaGreatDoor
namespace Go.Proofs.YtlfdhkahiaammaaGreatDoor
open Go Go.Sse Go.ChangeShapes Go.WideShapes Go.ChangeAt Go.RowKit
set_option linter.unusedVariables false
set_option linter.unusedSimpArgs false
set_option maxRecDepth 100000
noncomputable def rdCt : Rd Tryz.prog 27 Ct :=
  rdIso (Rd.struct (tos := [(9, 0), (22, 1)]) (by kernel_rfl) (Fds.cons rdStr (Fds.cons rdStrs Fds.nil)) (by kernel_rfl)) (fun x => ⟨x.1, x.2.1⟩) (fun c => (c.digest, c.signers, ())) (fun _ => rfl) ctC (fun _ => rfl) (fun _ => rfl)
noncomputable def rdBk : Rd Tryz.prog 29 Bk :=
  rdIso (Rd.struct (tos := [(24, 0), (25, 11), (27, 12)]) (by kernel_rfl) (Fds.cons rdHd (Fds.cons rdTxs (Fds.cons rdCt Fds.nil))) (by kernel_rfl)) (fun x => ⟨x.1, x.2.1, x.2.2.1⟩) (fun b => (b.head, b.txs, b.just, ())) (fun _ => rfl) bkC (fun _ => rfl) (fun _ => rfl)
end Go.Proofs.YtlfdhkahiaammaaGreatDoor
