/-
  Lemmas for the claim, part 4.
-/
import Derived.Test.YtlfdhkahiaammaaQueryToldPc
namespace Go.Proofs.Ytlfdhkahiaammaa
open Go Go.Sse
set_option linter.unusedVariables false
set_option linter.unusedSimpArgs false
set_option maxRecDepth 10000
abbrev tAn : Nat := 41
abbrev tPg : Nat := 39
theorem agAn : TAg Try.prog tAn 11 := inferInstance
theorem agPg : TAg Try.prog tPg 3 := inferInstance
theorem qempty_ok (items : List It) (pnext : List UInt8) (pnodes : List (List UInt8)) : FnC Try.prog 71 [.agg [itsl items, str pnext, ssl pnodes]] [] (fun v L => v = bool (emptyP items pnext pnodes) ∧ L = []) := by
  refine FnC.intro Try.func71 rfl Try.ntmps71 rfl fun Z w0 hG => ?_
  focus (
 (refine W.seq (W.region ?_))
 (refine J.boxAg rfl rfl ?_; intro b')
 (refine Jx.assign rfl rfl (J.nil (N.seq (W.seq (W.region (Jx.fieldAddr rfl rfl ?_))))))
 (refine Jx.load rfl 0 rfl rfl rfl ?_)
 (refine Jx.lenSl rfl rfl ?_)
 (refine Jx.eqlI rfl rfl rfl (Jx.move rfl rfl ?_))
 (refine' J.guardAnd rfl rfl rfl rfl rfl rfl rfl rfl (fun _ => ?_) ?_; rotate_left)
 (refine J.gY rfl rfl rfl ?_)
 (refine Jx.fieldAddr rfl rfl ?_)
 (refine J.gY rfl rfl rfl ?_)
 (refine Jx.load rfl 0 rfl rfl rfl ?_)
 (refine J.gY rfl rfl rfl ?_)
 (refine Jx.eqlS rfl rfl rfl (J.nil ?_))
 (refine N.joinedN rfl rfl rfl)
 (refine Jx.move rfl rfl ?_)
 (refine' J.guardAnd rfl rfl rfl rfl rfl rfl rfl rfl (fun _ => ?_) ?_; rotate_left)
 (refine J.gY rfl rfl rfl ?_)
 (refine Jx.fieldAddr rfl rfl ?_)
 (refine J.gY rfl rfl rfl ?_)
 (refine Jx.load rfl 0 rfl rfl rfl ?_)
 (refine J.gY rfl rfl rfl ?_)
 (refine Jx.lenSl rfl rfl ?_)
 (refine J.gY rfl rfl rfl ?_)
 (refine Jx.eqlI rfl rfl rfl (J.nil ?_))
 (refine N.joinedN rfl rfl rfl)
 (refine Jx.assign rfl rfl (J.nil (N.seq (W.ret ?_))))
 (refine id ?_; rotate_left))
  exact N.retD (rs := [.tmp 2]) (L1 := []) rfl (.tmp rfl .nil) (List.nil_sublist _) ⟨rfl, rfl⟩
set_option maxHeartbeats 2000000 in
theorem qalone_ok (x : An) : FnC Try.prog 46 [.agg (anC x)] [] (fun v L => v = bool (aloneB x) ∧ L = []) := by
  have c1 := qbare_ok x.cert
  have c2 := qempty_ok x.items x.pnext x.pnodes
  refine FnC.intro Try.func46 rfl Try.ntmps46 rfl fun Z w0 hG => ?_
  focus (
 (refine W.seq (W.region ?_))
 (refine J.boxAg rfl rfl ?_; intro b')
 (refine Jx.assign rfl rfl (J.nil (N.seq (W.seq (W.region (Jx.fieldAddr rfl rfl ?_))))))
 (refine Jx.load rfl 0 rfl rfl rfl ?_)
 (refine Jx.lenSl rfl rfl ?_)
 (refine Jx.eqlI rfl rfl rfl (Jx.move rfl rfl ?_))
 (refine' J.guardAnd rfl rfl rfl rfl rfl rfl rfl rfl (fun _ => ?_) ?_; rotate_left)
 (refine J.gY rfl rfl rfl ?_)
 (refine Jx.fieldAddr rfl rfl ?_)
 (refine J.gY rfl rfl rfl ?_)
 (refine Jx.load rfl 0 rfl rfl rfl ?_)
 (refine J.gY rfl rfl rfl ?_)
 (refine Jx.lenSl rfl rfl ?_)
 (refine J.gY rfl rfl rfl ?_)
 (refine Jx.eqlI rfl rfl rfl (J.nil ?_))
 (refine N.joinedN rfl rfl rfl)
 (refine Jx.move rfl rfl ?_)
 (refine' J.guardAnd rfl rfl rfl rfl rfl rfl rfl rfl (fun _ => ?_) ?_; rotate_left)
 (refine J.gY rfl rfl rfl ?_)
 (refine Jx.fieldAddr rfl rfl ?_)
 (refine J.gY rfl rfl rfl ?_)
 (refine Jx.load rfl 0 rfl rfl rfl ?_)
 (refine J.gY rfl rfl rfl ?_)
 (refine Jx.lenSl rfl rfl ?_)
 (refine J.gY rfl rfl rfl ?_)
 (refine Jx.eqlI rfl rfl rfl (J.nil ?_))
 (refine N.joinedN rfl rfl rfl)
 (refine Jx.move rfl rfl ?_)
 (refine' J.guardAnd rfl rfl rfl rfl rfl rfl rfl rfl (fun _ => ?_) ?_; rotate_left)
 (refine J.gY rfl rfl rfl ?_)
 (refine Jx.fieldAddr rfl rfl ?_)
 (refine J.gY rfl rfl rfl ?_)
 (refine Jx.loadAg rfl 0 rfl rfl rfl rfl ?_)
 (refine J.gY rfl rfl rfl ?_)
 (refine J.call (c1) rfl (evs_args rfl) rfl ?_; rintro _ _ ⟨rfl, rfl⟩; simp only [la1, la2, la3])
 (refine J.nil ?_)
 (refine N.joinedN rfl rfl rfl)
 (refine Jx.move rfl rfl ?_)
 (refine' J.guardAnd rfl rfl rfl rfl rfl rfl rfl rfl (fun _ => ?_) ?_; rotate_left)
 (refine J.gY rfl rfl rfl ?_)
 (refine Jx.fieldAddr rfl rfl ?_)
 (refine J.gY rfl rfl rfl ?_)
 (refine Jx.load rfl 0 rfl rfl rfl ?_)
 (refine J.gY rfl rfl rfl ?_)
 (refine Jx.lenSl rfl rfl ?_)
 (refine J.gY rfl rfl rfl ?_)
 (refine Jx.eqlI rfl rfl rfl (J.nil ?_))
 (refine N.joinedN rfl rfl rfl)
 (refine Jx.move rfl rfl ?_)
 (refine' J.guardAnd rfl rfl rfl rfl rfl rfl rfl rfl (fun _ => ?_) ?_; rotate_left)
 (refine J.gY rfl rfl rfl ?_)
 (refine Jx.fieldAddr rfl rfl ?_)
 (refine J.gY rfl rfl rfl ?_)
 (refine Jx.loadAg rfl 0 rfl rfl rfl rfl ?_)
 (refine J.gY rfl rfl rfl ?_)
 (refine J.call (c2) rfl (evs_args rfl) rfl ?_; rintro _ _ ⟨rfl, rfl⟩; simp only [la1, la2, la3])
 (refine J.nil ?_)
 (refine N.joinedN rfl rfl rfl)
 (refine Jx.assign rfl rfl (J.nil (N.seq (W.ret ?_))))
 (refine id ?_; rotate_left))
  exact N.retD (rs := [.tmp 2]) (L1 := []) rfl (.tmp rfl .nil) (List.nil_sublist _) ⟨rfl, rfl⟩
theorem qset_ok (l : List Mb) : FnC Try.prog 47 [msl l] [] (fun v L => v = bool (setB l) ∧ L = []) := by
  have c := pcheck_ok l
  have hz := codeB_zero (fineSet l) 50 (by decide)
  refine FnC.intro Try.func47 rfl Try.ntmps47 rfl fun Z w0 hG => ?_
  focus (
 (refine W.seq (W.region (Jx.assign rfl rfl (J.nil (N.seq (W.seq (W.region (Jx.move rfl rfl (Jx.lenSl rfl rfl ?_)))))))))
 (refine Jx.eqlI rfl rfl rfl (Jx.move rfl rfl ?_))
 (refine' J.guardOr rfl rfl rfl rfl rfl rfl rfl rfl (fun _ => ?_) ?_; rotate_left)
 (refine J.gY rfl rfl rfl ?_)
 (refine Jx.move rfl rfl (J.gY rfl rfl rfl ?_))
 (refine J.call (c) rfl (evs_args rfl) rfl ?_; rintro _ _ ⟨rfl, rfl⟩; simp only [la1, la2, la3])
 (refine J.gY rfl rfl rfl ?_)
 (refine Jx.eqlI rfl rfl rfl (J.nil ?_))
 (refine N.joinedN rfl rfl rfl)
 (refine Jx.assign rfl rfl (J.nil (N.seq (W.ret ?_))))
 (refine id ?_; rotate_left))
  exact N.retD (rs := [.tmp 2]) (L1 := []) rfl (.tmp rfl .nil) (List.nil_sublist _) ⟨by rw [hz]; rfl, rfl⟩
set_option maxHeartbeats 2000000 in
theorem qtexts_ok (l : List (List UInt8)) : FnC Try.prog 49 [ssl l] [] (fun v L => v = bool (textsB l) ∧ L = []) := by
  refine FnC.intro Try.func49 rfl Try.ntmps49 rfl fun Z w0 hG => ?_
  by_cases h0 : 1024 < l.length
  · have : textsB l = false := by rw [textsB, decide_eq_false (by omega)]; rfl
    rw [this]
    focus (
 (refine W.seq (W.region (Jx.assign rfl rfl (J.nil (N.seq (W.seq (W.seq (W.region (Jx.move rfl rfl (Jx.lenSl rfl rfl ?_))))))))))
 (refine Jx.gtrI rfl rfl rfl (J.nil (N.seq (W.cT rfl ?_))))
 (refine W.seq (W.region (Jx.assign rfl rfl (J.nil (N.seq (W.ret (N.noGotoRet ?_)))))))
 (refine id ?_; rotate_left))
    exact N.retD (rs := [.tmp 2]) (L1 := []) rfl (.tmp rfl .nil) (List.nil_sublist _) ⟨rfl, rfl⟩
  · have hb : textsB l = l.all fun s => decide (s.length ≤ 700) := by rw [textsB, decide_eq_true (by omega)]; rfl
    rw [hb]
    focus (
 (refine W.seq (W.region (Jx.assign rfl rfl (J.nil (N.seq (W.seq (W.seq (W.region (Jx.move rfl rfl (Jx.lenSl rfl rfl ?_))))))))))
 (refine Jx.gtrI rfl rfl rfl (J.nil (N.seq (W.cF rfl ?_))))
 (refine W.skip (N.seq (W.seq (W.seq (W.region (Jx.move rfl rfl (Jx.lenSl rfl rfl ?_)))))))
 (refine Jx.move rfl rfl (J.nil (N.seq (W.block ?_))))
 (refine id ?_; rotate_left))
    refine W.loop (α := Nat) (fun i => [(10, int (i : Int)), (9, int (l.length : Int)), (8, ssl l)]) (fun _ => []) (fun i => i ≤ l.length ∧ ∀ s ∈ l.take i, s.length ≤ 700) (fun i => l.length - i) 0 ⟨by omega, by simp⟩ rfl ⟨ref0 rfl, ref0 rfl, ref0 rfl, trivial⟩ ?_
    rintro i ⟨hi, hn⟩
    by_cases h1 : i < l.length
    · by_cases h2 : 700 < (l.getD i []).length
      · have : (l.all fun s => decide (s.length ≤ 700)) = false := List.all_eq_false.2 ⟨_, getD_mem (d := []) h1, by rw [decide_eq_false (by omega)]; simp⟩
        rw [this]
        focus (
 (refine W.seq (W.region (Jx.lssI rfl rfl rfl (J.nil (N.seq (W.seq (W.cT rfl ?_)))))))
 (refine W.skip (N.seq (W.seq (W.block (W.seq (W.region (Jx.indexEl rfl rfl (by assumption) rfl rfl ?_)))))))
 (refine Jx.loadPP rfl rfl ?_)
 (refine Jx.assign rfl rfl (J.nil (N.seq (W.seq (W.region (Jx.move rfl rfl (Jx.lenS rfl rfl ?_)))))))
 (refine Jx.gtrI rfl rfl rfl (J.nil (N.seq (W.cT rfl ?_))))
 (refine W.seq (W.region (Jx.assign rfl rfl (J.nil (N.seq (W.ret (N.noGotoRet (N.noGotoRet (N.noGotoRet (N.noGotoRet (N.noGotoRet ?_)))))))))))
 (refine id ?_; rotate_left))
        exact N.retD (rs := [.tmp 2]) (L1 := []) rfl (.tmp rfl .nil) (List.nil_sublist _) ⟨rfl, rfl⟩
      · focus (
 (refine W.seq (W.region (Jx.lssI rfl rfl rfl (J.nil (N.seq (W.seq (W.cT rfl ?_)))))))
 (refine W.skip (N.seq (W.seq (W.block (W.seq (W.region (Jx.indexEl rfl rfl (by assumption) rfl rfl ?_)))))))
 (refine Jx.loadPP rfl rfl ?_)
 (refine Jx.assign rfl rfl (J.nil (N.seq (W.seq (W.region (Jx.move rfl rfl (Jx.lenS rfl rfl ?_)))))))
 (refine Jx.gtrI rfl rfl rfl (J.nil (N.seq (W.cF rfl ?_))))
 (refine W.skip (N.seq (W.region (Jx.add64 rfl rfl (by omega) rfl ?_))))
 (refine Jx.move rfl rfl (J.nil ?_))
 (refine id ?_; rotate_left))
        refine N.round (i + 1) ⟨h1, fun s hs => ?_⟩ (by omega) rfl ⟨ref0 rfl, ref0 rfl, ref0 rfl, trivial⟩
        rw [take_snoc (d := []) h1] at hs
        rcases List.mem_append.1 hs with hs | hs
        · exact hn s hs
        · simp only [List.mem_singleton] at hs; subst hs; omega
    · rw [List.take_of_length_le (by omega)] at hn
      have : (l.all fun s => decide (s.length ≤ 700)) = true := List.all_eq_true.2 fun s hs => by simp [hn s hs]
      rw [this]
      focus (
 (refine W.seq (W.region (Jx.lssI rfl rfl rfl (J.nil (N.seq (W.seq (W.cF rfl ?_)))))))
 (refine W.exit (N.seq (W.seq (W.region (Jx.assign rfl rfl (J.nil (N.seq (W.ret ?_))))))))
 (refine id ?_; rotate_left))
      exact N.retD (rs := [.tmp 2]) (L1 := []) rfl (.tmp rfl .nil) (List.nil_sublist _) ⟨rfl, rfl⟩
set_option maxHeartbeats 4000000 in
theorem qpage_ok (items : List It) (pnext : List UInt8) (pnodes : List (List UInt8)) : FnC Try.prog 50 [.agg [itsl items, str pnext, ssl pnodes]] [] (fun v L => v = bool (pageB items pnext pnodes) ∧ L = []) := by
  have ct := qtexts_ok pnodes
  refine FnC.intro Try.func50 rfl Try.ntmps50 rfl fun Z w0 hG => ?_
  by_cases h0 : items.length ≤ 16 ∧ pnext.length ≤ 8
  · have hb : pageB items pnext pnodes = (items.all itemB && textsB pnodes) := by rw [pageB, decide_eq_true h0.1, decide_eq_true h0.2]; rfl
    rw [hb]
    have g1 : ¬ 16 < (items.length : Int) := by omega
    have g2 : ¬ 8 < (pnext.length : Int) := by omega
    focus (
 (refine W.seq (W.region ?_))
 (refine J.boxAg rfl rfl ?_; intro b')
 (refine Jx.assign rfl rfl (J.nil (N.seq (W.seq (W.seq (W.region (Jx.fieldAddr rfl rfl ?_)))))))
 (refine Jx.load rfl 0 rfl rfl rfl ?_)
 (refine Jx.lenSl rfl rfl ?_)
 (refine Jx.gtrI rfl rfl rfl (Jx.move rfl rfl (J.gY rfl rfl rfl ?_)))
 (refine Jx.fieldAddr rfl rfl ?_)
 (refine J.gY rfl rfl rfl ?_)
 (refine Jx.load rfl 0 rfl rfl rfl ?_)
 (refine J.gY rfl rfl rfl ?_)
 (refine Jx.lenS rfl rfl ?_)
 (refine J.gY rfl rfl rfl ?_)
 (refine Jx.gtrI rfl rfl rfl (Jx.pF rfl rfl rfl ?_))
 (refine J.nil (N.seq (W.cF rfl ?_)))
 (refine W.skip (N.seq (W.seq (W.seq (W.region (Jx.fieldAddr rfl rfl ?_))))))
 (refine Jx.load rfl 0 rfl rfl rfl ?_)
 (refine Jx.lenSl rfl rfl ?_)
 (refine Jx.move rfl rfl (J.nil (N.seq (W.block ?_))))
 (refine id ?_; rotate_left))
    obtain ⟨p1, hp1⟩ : ∃ q, q = b' := ⟨_, rfl⟩
    subst hp1
    refine W.loop (α := Nat) (fun i => [(18, int (i : Int)), (17, int (items.length : Int)), (16, itsl items), (1, ptr p1)]) (fun _ => [.obj p1 tPg [itsl items, str pnext, ssl pnodes]]) (fun i => i ≤ items.length ∧ ∀ s ∈ items.take i, itemB s = true) (fun i => items.length - i) 0 ⟨by omega, by simp⟩ rfl ⟨ref0 rfl, ref0 rfl, ref0 rfl, ref0 rfl, trivial⟩ ?_
    rintro i ⟨hi, hn⟩
    by_cases h1 : i < items.length
    · cases hq : itemB (items.getD i it0) with
      | false =>
        have : items.all itemB = false := List.all_eq_false.2 ⟨_, getD_mem (d := it0) h1, by rw [hq]; simp⟩
        rw [this]
        have hor : (decide (8 < ((items.getD i it0).key.length : Int)) || decide (32 < ((items.getD i it0).value.length : Int))) = true := by
          simp only [itemB, Bool.and_eq_false_iff, decide_eq_false_iff_not] at hq
          simp only [Bool.or_eq_true, decide_eq_true_eq]; omega
        focus (
 (refine W.seq (W.region (Jx.lssI rfl rfl rfl (J.nil (N.seq (W.seq (W.cT rfl ?_)))))))
 (refine W.skip (N.seq (W.seq (W.block (W.seq (W.region (Jx.indexEl rfl rfl (by assumption) rfl rfl ?_)))))))
 (refine Jx.loadPPall rfl rfl rfl ?_)
 (refine J.alloc (by simp only [List.map_cons, List.map_nil]; rfl) rfl rfl ?_; intro b')
 (refine J.storeAll rfl rfl rfl 0 rfl rfl rfl ?_)
 (refine J.nil (N.seq (W.seq (W.region (Jx.fieldAddr rfl rfl ?_)))))
 (refine Jx.load rfl 0 rfl rfl rfl ?_)
 (refine Jx.lenS rfl rfl ?_)
 (refine Jx.gtrI rfl rfl rfl (Jx.move rfl rfl ?_))
 (refine' J.guardOr rfl rfl rfl rfl rfl rfl rfl rfl (fun _ => ?_) ?_; rotate_left)
 (refine J.gY rfl rfl rfl ?_)
 (refine Jx.fieldAddr rfl rfl ?_)
 (refine J.gY rfl rfl rfl ?_)
 (refine Jx.load rfl 0 rfl rfl rfl ?_)
 (refine J.gY rfl rfl rfl ?_)
 (refine Jx.lenS rfl rfl ?_)
 (refine J.gY rfl rfl rfl ?_)
 (refine Jx.gtrI rfl rfl rfl (J.nil ?_))
 (refine N.joinedN rfl rfl rfl)
 (refine J.nil (N.seq (W.cT rfl ?_)))
 (refine W.seq (W.region (Jx.assign rfl rfl (J.nil (N.seq (W.ret (N.noGotoRet (N.noGotoRet (N.noGotoRet (N.noGotoRet (N.noGotoRet ?_)))))))))))
 (refine id ?_; rotate_left))
        exact N.retD (rs := [.tmp 2]) (L1 := []) rfl (.tmp rfl .nil) (List.nil_sublist _) ⟨rfl, rfl⟩
      | true =>
        have hor : (decide (8 < ((items.getD i it0).key.length : Int)) || decide (32 < ((items.getD i it0).value.length : Int))) = false := by
          simp only [itemB, Bool.and_eq_true, decide_eq_true_eq] at hq
          simp only [Bool.or_eq_false_iff, decide_eq_false_iff_not]; omega
        focus (
 (refine W.seq (W.region (Jx.lssI rfl rfl rfl (J.nil (N.seq (W.seq (W.cT rfl ?_)))))))
 (refine W.skip (N.seq (W.seq (W.block (W.seq (W.region (Jx.indexEl rfl rfl (by assumption) rfl rfl ?_)))))))
 (refine Jx.loadPPall rfl rfl rfl ?_)
 (refine J.alloc (by simp only [List.map_cons, List.map_nil]; rfl) rfl rfl ?_; intro b')
 (refine J.storeAll rfl rfl rfl 0 rfl rfl rfl ?_)
 (refine J.nil (N.seq (W.seq (W.region (Jx.fieldAddr rfl rfl ?_)))))
 (refine Jx.load rfl 0 rfl rfl rfl ?_)
 (refine Jx.lenS rfl rfl ?_)
 (refine Jx.gtrI rfl rfl rfl (Jx.move rfl rfl ?_))
 (refine' J.guardOr rfl rfl rfl rfl rfl rfl rfl rfl (fun _ => ?_) ?_; rotate_left)
 (refine J.gY rfl rfl rfl ?_)
 (refine Jx.fieldAddr rfl rfl ?_)
 (refine J.gY rfl rfl rfl ?_)
 (refine Jx.load rfl 0 rfl rfl rfl ?_)
 (refine J.gY rfl rfl rfl ?_)
 (refine Jx.lenS rfl rfl ?_)
 (refine J.gY rfl rfl rfl ?_)
 (refine Jx.gtrI rfl rfl rfl (J.nil ?_))
 (refine N.joinedN rfl rfl rfl)
 (refine J.nil (N.seq (W.cF rfl ?_)))
 (refine W.skip (N.seq (W.region (Jx.add64 rfl rfl (by omega) rfl ?_))))
 (refine Jx.move rfl rfl (J.nil ?_))
 (refine id ?_; rotate_left))
        refine N.drop (List.sublist_cons_self _ _) ?_
        refine N.round (i + 1) ⟨h1, fun s hs => ?_⟩ (by omega) rfl ⟨ref0 rfl, ref0 rfl, ref0 rfl, ref0 rfl, trivial⟩
        rw [take_snoc (d := it0) h1] at hs
        rcases List.mem_append.1 hs with hs | hs
        · exact hn s hs
        · simp only [List.mem_singleton] at hs; subst hs; exact hq
    · rw [List.take_of_length_le (by omega)] at hn
      have : items.all itemB = true := List.all_eq_true.2 hn
      rw [this]
      focus (
 (refine W.seq (W.region (Jx.lssI rfl rfl rfl (J.nil (N.seq (W.seq (W.cF rfl ?_)))))))
 (refine W.exit (N.seq (W.seq (W.region (Jx.fieldAddr rfl rfl ?_)))))
 (refine Jx.load rfl 0 rfl rfl rfl ?_)
 (refine J.call (ct) rfl (evs_args rfl) rfl ?_; rintro _ _ ⟨rfl, rfl⟩; simp only [la1, la2, la3])
 (refine Jx.assign rfl rfl (J.nil (N.seq (W.ret ?_))))
 (refine id ?_; rotate_left))
      exact N.retD (rs := [.tmp 2]) (L1 := []) rfl (.tmp rfl .nil) (List.nil_sublist _) ⟨rfl, rfl⟩
  · have hb : pageB items pnext pnodes = false := by
      have : (decide (items.length ≤ 16) && decide (pnext.length ≤ 8)) = false := by
        cases h : (decide (items.length ≤ 16) && decide (pnext.length ≤ 8)) with
        | false => rfl
        | true => simp only [Bool.and_eq_true, decide_eq_true_eq] at h; exact absurd h h0
      rw [pageB, this]; rfl
    rw [hb]
    have hor : (decide (16 < (items.length : Int)) || decide (8 < (pnext.length : Int))) = true := by
      simp only [Bool.or_eq_true, decide_eq_true_eq]; omega
    focus (
 (refine W.seq (W.region ?_))
 (refine J.boxAg rfl rfl ?_; intro b')
 (refine Jx.assign rfl rfl (J.nil (N.seq (W.seq (W.seq (W.region (Jx.fieldAddr rfl rfl ?_)))))))
 (refine Jx.load rfl 0 rfl rfl rfl ?_)
 (refine Jx.lenSl rfl rfl ?_)
 (refine Jx.gtrI rfl rfl rfl (Jx.move rfl rfl ?_))
 (refine' J.guardOr rfl rfl rfl rfl rfl rfl rfl rfl (fun _ => ?_) ?_; rotate_left)
 (refine J.gY rfl rfl rfl ?_)
 (refine Jx.fieldAddr rfl rfl ?_)
 (refine J.gY rfl rfl rfl ?_)
 (refine Jx.load rfl 0 rfl rfl rfl ?_)
 (refine J.gY rfl rfl rfl ?_)
 (refine Jx.lenS rfl rfl ?_)
 (refine J.gY rfl rfl rfl ?_)
 (refine Jx.gtrI rfl rfl rfl (J.nil ?_))
 (refine N.joinedN rfl rfl rfl)
 (refine J.nil (N.seq (W.cT rfl ?_)))
 (refine W.seq (W.region (Jx.assign rfl rfl (J.nil (N.seq (W.ret (N.noGotoRet ?_)))))))
 (refine id ?_; rotate_left))
    exact N.retD (rs := [.tmp 2]) (L1 := []) rfl (.tmp rfl .nil) (List.nil_sublist _) ⟨rfl, rfl⟩
set_option maxHeartbeats 8000000 in
theorem qcheckN_ok (x : An) (hs : ∀ h ∈ x.heads, h.skips.length ≤ 1048576) : FnC Try.prog 17 [.agg (anC x)] [] (fun v L => v = int (codeB (fineAn x) 290) ∧ L = []) := by
  have c1 := qhigh_ok x.height
  have c2 := qalone_ok x
  have c3 := cencode_ok x.cert
  have c4 := qset_ok x.set
  have c5 := qset_ok x.nxt
  have c6 := qbare_ok x.cert
  have c7 := qtexts_ok x.nodes
  have c8 := qpage_ok x.items x.pnext x.pnodes
  have hf : fineAn x = ((oneA x && twoA x) && x.heads.all fineHd) := rfl
  generalize encO fineCt encCt x.cert = ec at *
  refine FnC.intro Try.func17 rfl Try.ntmps17 rfl fun Z w0 hG => ?_
  cases h1 : oneA x with
  | false =>
    rw [hf, h1]
    by_cases k1 : x.code < 0
    · focus (
 (refine W.seq (W.region ?_))
 (refine J.boxAg rfl rfl ?_; intro b')
 (refine Jx.assign rfl rfl (J.nil (N.seq (W.seq (W.seq (W.region (Jx.fieldAddr rfl rfl ?_)))))))
 (refine Jx.load rfl 0 rfl rfl rfl ?_)
 (refine Jx.lssI rfl rfl rfl (Jx.move rfl rfl (J.gN rfl rfl rfl rfl ?_)))
 (refine J.gN rfl rfl rfl rfl ?_)
 (refine J.gN rfl rfl rfl rfl ?_)
 (refine Jx.pT rfl rfl rfl ?_)
 (refine Jx.move rfl rfl (J.gN rfl rfl rfl rfl ?_))
 (refine J.gN rfl rfl rfl rfl ?_)
 (refine J.gN rfl rfl rfl rfl ?_)
 (refine J.gN rfl rfl rfl rfl ?_)
 (refine Jx.pT rfl rfl rfl ?_)
 (refine Jx.move rfl rfl (J.gN rfl rfl rfl rfl ?_))
 (refine J.gN rfl rfl rfl rfl ?_)
 (refine J.gN rfl rfl rfl rfl ?_)
 (refine J.gN rfl rfl rfl rfl ?_)
 (refine J.guardSkip rfl rfl rfl rfl ?_)
 (refine J.guardSkip rfl rfl rfl rfl ?_)
 (refine J.guardSkip rfl rfl rfl rfl ?_)
 (refine J.gN rfl rfl rfl rfl ?_)
 (refine Jx.pT rfl rfl rfl ?_)
 (refine J.nil (N.seq (W.cT rfl ?_)))
 (refine W.seq (W.region (Jx.assign rfl rfl (J.nil (N.seq (W.ret (N.noGotoRet ?_)))))))
 (refine id ?_; rotate_left))
      exact N.retD (rs := [.tmp 2]) (L1 := []) rfl (.tmp rfl .nil) (List.nil_sublist _) ⟨rfl, rfl⟩
    · by_cases k2 : 1000 < x.code
      · focus (
 (refine W.seq (W.region ?_))
 (refine J.boxAg rfl rfl ?_; intro b')
 (refine Jx.assign rfl rfl (J.nil (N.seq (W.seq (W.seq (W.region (Jx.fieldAddr rfl rfl ?_)))))))
 (refine Jx.load rfl 0 rfl rfl rfl ?_)
 (refine Jx.lssI rfl rfl rfl (Jx.move rfl rfl (J.gY rfl rfl rfl ?_)))
 (refine Jx.fieldAddr rfl rfl ?_)
 (refine J.gY rfl rfl rfl ?_)
 (refine Jx.load rfl 0 rfl rfl rfl ?_)
 (refine J.gY rfl rfl rfl ?_)
 (refine Jx.gtrI rfl rfl rfl (Jx.pF rfl rfl rfl ?_))
 (refine Jx.move rfl rfl (J.gN rfl rfl rfl rfl ?_))
 (refine J.gN rfl rfl rfl rfl ?_)
 (refine J.gN rfl rfl rfl rfl ?_)
 (refine J.gN rfl rfl rfl rfl ?_)
 (refine Jx.pT rfl rfl rfl ?_)
 (refine Jx.move rfl rfl (J.gN rfl rfl rfl rfl ?_))
 (refine J.gN rfl rfl rfl rfl ?_)
 (refine J.gN rfl rfl rfl rfl ?_)
 (refine J.gN rfl rfl rfl rfl ?_)
 (refine J.guardSkip rfl rfl rfl rfl ?_)
 (refine J.guardSkip rfl rfl rfl rfl ?_)
 (refine J.guardSkip rfl rfl rfl rfl ?_)
 (refine J.gN rfl rfl rfl rfl ?_)
 (refine Jx.pT rfl rfl rfl ?_)
 (refine J.nil (N.seq (W.cT rfl ?_)))
 (refine W.seq (W.region (Jx.assign rfl rfl (J.nil (N.seq (W.ret (N.noGotoRet ?_)))))))
 (refine id ?_; rotate_left))
        exact N.retD (rs := [.tmp 2]) (L1 := []) rfl (.tmp rfl .nil) (List.nil_sublist _) ⟨rfl, rfl⟩
      · cases k3 : highB x.height with
        | false =>
          rw [k3] at c1
          focus (
 (refine W.seq (W.region ?_))
 (refine J.boxAg rfl rfl ?_; intro b')
 (refine Jx.assign rfl rfl (J.nil (N.seq (W.seq (W.seq (W.region (Jx.fieldAddr rfl rfl ?_)))))))
 (refine Jx.load rfl 0 rfl rfl rfl ?_)
 (refine Jx.lssI rfl rfl rfl (Jx.move rfl rfl (J.gY rfl rfl rfl ?_)))
 (refine Jx.fieldAddr rfl rfl ?_)
 (refine J.gY rfl rfl rfl ?_)
 (refine Jx.load rfl 0 rfl rfl rfl ?_)
 (refine J.gY rfl rfl rfl ?_)
 (refine Jx.gtrI rfl rfl rfl (Jx.pF rfl rfl rfl ?_))
 (refine Jx.move rfl rfl (J.gY rfl rfl rfl ?_))
 (refine Jx.fieldAddr rfl rfl ?_)
 (refine J.gY rfl rfl rfl ?_)
 (refine Jx.load rfl 0 rfl rfl rfl ?_)
 (refine J.gY rfl rfl rfl ?_)
 (refine J.call (c1) rfl (evs_args rfl) rfl ?_; rintro _ _ ⟨rfl, rfl⟩; simp only [la1, la2, la3])
 (refine J.gY rfl rfl rfl ?_)
 (refine Jx.not rfl rfl (Jx.pF rfl rfl rfl ?_))
 (refine Jx.move rfl rfl (J.gN rfl rfl rfl rfl ?_))
 (refine J.gN rfl rfl rfl rfl ?_)
 (refine J.gN rfl rfl rfl rfl ?_)
 (refine J.gN rfl rfl rfl rfl ?_)
 (refine J.guardSkip rfl rfl rfl rfl ?_)
 (refine J.guardSkip rfl rfl rfl rfl ?_)
 (refine J.guardSkip rfl rfl rfl rfl ?_)
 (refine J.gN rfl rfl rfl rfl ?_)
 (refine Jx.pT rfl rfl rfl ?_)
 (refine J.nil (N.seq (W.cT rfl ?_)))
 (refine W.seq (W.region (Jx.assign rfl rfl (J.nil (N.seq (W.ret (N.noGotoRet ?_)))))))
 (refine id ?_; rotate_left))
          exact N.retD (rs := [.tmp 2]) (L1 := []) rfl (.tmp rfl .nil) (List.nil_sublist _) ⟨rfl, rfl⟩
        | true =>
          rw [k3] at c1
          have k4 : ¬ x.code = 0 ∧ aloneB x = false := by
            simp only [oneA, k3, Bool.and_eq_false_iff, decide_eq_false_iff_not, Bool.or_eq_false_iff, Bool.and_true] at h1
            rcases h1 with h1 | h1
            · omega
            · exact h1
          obtain ⟨k4, k5⟩ := k4
          rw [k5] at c2
          focus (
 (refine W.seq (W.region ?_))
 (refine J.boxAg rfl rfl ?_; intro b')
 (refine Jx.assign rfl rfl (J.nil (N.seq (W.seq (W.seq (W.region (Jx.fieldAddr rfl rfl ?_)))))))
 (refine Jx.load rfl 0 rfl rfl rfl ?_)
 (refine Jx.lssI rfl rfl rfl (Jx.move rfl rfl (J.gY rfl rfl rfl ?_)))
 (refine Jx.fieldAddr rfl rfl ?_)
 (refine J.gY rfl rfl rfl ?_)
 (refine Jx.load rfl 0 rfl rfl rfl ?_)
 (refine J.gY rfl rfl rfl ?_)
 (refine Jx.gtrI rfl rfl rfl (Jx.pF rfl rfl rfl ?_))
 (refine Jx.move rfl rfl (J.gY rfl rfl rfl ?_))
 (refine Jx.fieldAddr rfl rfl ?_)
 (refine J.gY rfl rfl rfl ?_)
 (refine Jx.load rfl 0 rfl rfl rfl ?_)
 (refine J.gY rfl rfl rfl ?_)
 (refine J.call (c1) rfl (evs_args rfl) rfl ?_; rintro _ _ ⟨rfl, rfl⟩; simp only [la1, la2, la3])
 (refine J.gY rfl rfl rfl ?_)
 (refine Jx.not rfl rfl (Jx.pF rfl rfl rfl ?_))
 (refine Jx.move rfl rfl (J.gY rfl rfl rfl ?_))
 (refine Jx.fieldAddr rfl rfl ?_)
 (refine J.gY rfl rfl rfl ?_)
 (refine Jx.load rfl 0 rfl rfl rfl ?_)
 (refine J.gY rfl rfl rfl ?_)
 (refine Jx.neqI rfl rfl rfl (J.gY rfl rfl rfl ?_))
 (refine Jx.move rfl rfl (J.gY rfl rfl rfl ?_))
 (refine Jx.loadAll rfl 0 rfl rfl rfl ?_)
 (refine J.gY rfl rfl rfl ?_)
 (refine J.call (c2) rfl (evs_args rfl) rfl ?_; rintro _ _ ⟨rfl, rfl⟩; simp only [la1, la2, la3])
 (refine J.gY rfl rfl rfl ?_)
 (refine Jx.not rfl rfl (J.gY rfl rfl rfl ?_))
 (refine Jx.pT rfl rfl rfl ?_)
 (refine Jx.pF rfl rfl rfl ?_)
 (refine J.nil (N.seq (W.cT rfl ?_)))
 (refine W.seq (W.region (Jx.assign rfl rfl (J.nil (N.seq (W.ret (N.noGotoRet ?_)))))))
 (refine id ?_; rotate_left))
          exact N.retD (rs := [.tmp 2]) (L1 := []) rfl (.tmp rfl .nil) (List.nil_sublist _) ⟨rfl, rfl⟩
  | true =>
    have hf2 : fineAn x = (twoA x && x.heads.all fineHd) := by rw [hf, h1]; rfl
    rw [hf2]
    simp only [oneA, Bool.and_eq_true, Bool.or_eq_true, decide_eq_true_eq] at h1
    obtain ⟨⟨⟨k1, k2⟩, k3⟩, k4⟩ := h1
    rw [k3] at c1
    have k1' : ¬ x.code < 0 := by omega
    have k2' : ¬ 1000 < x.code := by omega
    cases h2 : twoA x with
    | false =>
      have hx := h2
      simp only [twoA] at hx
      by_cases a1 : x.heads.length ≤ 64
      · rw [decide_eq_true a1] at hx
        have a1' : ¬ 64 < (x.heads.length : Int) := by omega
        cases a2 : setB x.set with
        | false =>
          rw [a2] at c4
          by_cases k5 : x.code = 0
          · focus (
 (refine W.seq (W.region ?_))
 (refine J.boxAg rfl rfl ?_; intro b')
 (refine Jx.assign rfl rfl (J.nil (N.seq (W.seq (W.seq (W.region (Jx.fieldAddr rfl rfl ?_)))))))
 (refine Jx.load rfl 0 rfl rfl rfl ?_)
 (refine Jx.lssI rfl rfl rfl (Jx.move rfl rfl (J.gY rfl rfl rfl ?_)))
 (refine Jx.fieldAddr rfl rfl ?_)
 (refine J.gY rfl rfl rfl ?_)
 (refine Jx.load rfl 0 rfl rfl rfl ?_)
 (refine J.gY rfl rfl rfl ?_)
 (refine Jx.gtrI rfl rfl rfl (Jx.pF rfl rfl rfl ?_))
 (refine Jx.move rfl rfl (J.gY rfl rfl rfl ?_))
 (refine Jx.fieldAddr rfl rfl ?_)
 (refine J.gY rfl rfl rfl ?_)
 (refine Jx.load rfl 0 rfl rfl rfl ?_)
 (refine J.gY rfl rfl rfl ?_)
 (refine J.call (c1) rfl (evs_args rfl) rfl ?_; rintro _ _ ⟨rfl, rfl⟩; simp only [la1, la2, la3])
 (refine J.gY rfl rfl rfl ?_)
 (refine Jx.not rfl rfl (Jx.pF rfl rfl rfl ?_))
 (refine Jx.move rfl rfl (J.gY rfl rfl rfl ?_))
 (refine Jx.fieldAddr rfl rfl ?_)
 (refine J.gY rfl rfl rfl ?_)
 (refine Jx.load rfl 0 rfl rfl rfl ?_)
 (refine J.gY rfl rfl rfl ?_)
 (refine Jx.neqI rfl rfl rfl (J.gY rfl rfl rfl ?_))
 (refine Jx.move rfl rfl (J.gN rfl rfl rfl rfl ?_))
 (refine J.gN rfl rfl rfl rfl ?_)
 (refine J.gN rfl rfl rfl rfl ?_)
 (refine J.gY rfl rfl rfl ?_)
 (refine Jx.pF rfl rfl rfl ?_)
 (refine Jx.pF rfl rfl rfl ?_)
 (refine J.nil (N.seq (W.cF rfl ?_)))
 (refine W.skip (N.seq (W.seq (W.region (Jx.fieldAddr rfl rfl ?_)))))
 (refine Jx.loadAg rfl 0 rfl rfl rfl rfl ?_)
 (refine J.call (c3) rfl (evs_args rfl) rfl ?_; rintro _ _ ⟨rfl, rfl⟩; simp only [la1, la2, la3])
 (refine Jx.move rfl rfl (Jx.extract rfl rfl rfl ?_))
 (refine Jx.extract rfl rfl rfl ?_)
 (refine Jx.assign rfl rfl (Jx.assign rfl rfl (J.nil (N.seq (W.seq (W.seq (W.region (Jx.fieldAddr rfl rfl ?_))))))))
 (refine Jx.load rfl 0 rfl rfl rfl ?_)
 (refine Jx.lenSl rfl rfl ?_)
 (refine Jx.gtrI rfl rfl rfl (Jx.move rfl rfl (J.gY rfl rfl rfl ?_)))
 (refine Jx.fieldAddr rfl rfl ?_)
 (refine J.gY rfl rfl rfl ?_)
 (refine Jx.load rfl 0 rfl rfl rfl ?_)
 (refine J.gY rfl rfl rfl ?_)
 (refine J.call (c4) rfl (evs_args rfl) rfl ?_; rintro _ _ ⟨rfl, rfl⟩; simp only [la1, la2, la3])
 (refine J.gY rfl rfl rfl ?_)
 (refine Jx.not rfl rfl (Jx.pF rfl rfl rfl ?_))
 (refine Jx.move rfl rfl (J.gN rfl rfl rfl rfl ?_))
 (refine J.gN rfl rfl rfl rfl ?_)
 (refine J.gN rfl rfl rfl rfl ?_)
 (refine J.gN rfl rfl rfl rfl ?_)
 (refine Jx.pT rfl rfl rfl ?_)
 (refine Jx.move rfl rfl (J.gN rfl rfl rfl rfl ?_))
 (refine J.gN rfl rfl rfl rfl ?_)
 (refine J.gN rfl rfl rfl rfl ?_)
 (refine J.gN rfl rfl rfl rfl ?_)
 (refine J.gN rfl rfl rfl rfl ?_)
 (refine J.guardSkip rfl rfl rfl rfl ?_)
 (refine J.guardSkip rfl rfl rfl rfl ?_)
 (refine J.gN rfl rfl rfl rfl ?_)
 (refine Jx.pT rfl rfl rfl ?_)
 (refine Jx.move rfl rfl (J.gN rfl rfl rfl rfl ?_))
 (refine J.gN rfl rfl rfl rfl ?_)
 (refine J.gN rfl rfl rfl rfl ?_)
 (refine J.gN rfl rfl rfl rfl ?_)
 (refine Jx.pT rfl rfl rfl ?_)
 (refine Jx.move rfl rfl (J.gN rfl rfl rfl rfl ?_))
 (refine J.gN rfl rfl rfl rfl ?_)
 (refine J.gN rfl rfl rfl rfl ?_)
 (refine J.gN rfl rfl rfl rfl ?_)
 (refine Jx.pT rfl rfl rfl ?_)
 (refine J.nil (N.seq (W.cT rfl ?_)))
 (refine W.seq (W.region (Jx.assign rfl rfl (J.nil (N.seq (W.ret (N.noGotoRet ?_)))))))
 (refine id ?_; rotate_left))
            exact N.retD (rs := [.tmp 2]) (L1 := []) rfl (.tmp rfl .nil) (List.nil_sublist _) ⟨rfl, rfl⟩
          · have k6 : aloneB x = true := by rcases k4 with h | h; exact absurd h k5; exact h
            rw [k6] at c2
            focus (
 (refine W.seq (W.region ?_))
 (refine J.boxAg rfl rfl ?_; intro b')
 (refine Jx.assign rfl rfl (J.nil (N.seq (W.seq (W.seq (W.region (Jx.fieldAddr rfl rfl ?_)))))))
 (refine Jx.load rfl 0 rfl rfl rfl ?_)
 (refine Jx.lssI rfl rfl rfl (Jx.move rfl rfl (J.gY rfl rfl rfl ?_)))
 (refine Jx.fieldAddr rfl rfl ?_)
 (refine J.gY rfl rfl rfl ?_)
 (refine Jx.load rfl 0 rfl rfl rfl ?_)
 (refine J.gY rfl rfl rfl ?_)
 (refine Jx.gtrI rfl rfl rfl (Jx.pF rfl rfl rfl ?_))
 (refine Jx.move rfl rfl (J.gY rfl rfl rfl ?_))
 (refine Jx.fieldAddr rfl rfl ?_)
 (refine J.gY rfl rfl rfl ?_)
 (refine Jx.load rfl 0 rfl rfl rfl ?_)
 (refine J.gY rfl rfl rfl ?_)
 (refine J.call (c1) rfl (evs_args rfl) rfl ?_; rintro _ _ ⟨rfl, rfl⟩; simp only [la1, la2, la3])
 (refine J.gY rfl rfl rfl ?_)
 (refine Jx.not rfl rfl (Jx.pF rfl rfl rfl ?_))
 (refine Jx.move rfl rfl (J.gY rfl rfl rfl ?_))
 (refine Jx.fieldAddr rfl rfl ?_)
 (refine J.gY rfl rfl rfl ?_)
 (refine Jx.load rfl 0 rfl rfl rfl ?_)
 (refine J.gY rfl rfl rfl ?_)
 (refine Jx.neqI rfl rfl rfl (J.gY rfl rfl rfl ?_))
 (refine Jx.move rfl rfl (J.gY rfl rfl rfl ?_))
 (refine Jx.loadAll rfl 0 rfl rfl rfl ?_)
 (refine J.gY rfl rfl rfl ?_)
 (refine J.call (c2) rfl (evs_args rfl) rfl ?_; rintro _ _ ⟨rfl, rfl⟩; simp only [la1, la2, la3])
 (refine J.gY rfl rfl rfl ?_)
 (refine Jx.not rfl rfl (J.gY rfl rfl rfl ?_))
 (refine Jx.pT rfl rfl rfl ?_)
 (refine Jx.pF rfl rfl rfl ?_)
 (refine J.nil (N.seq (W.cF rfl ?_)))
 (refine W.skip (N.seq (W.seq (W.region (Jx.fieldAddr rfl rfl ?_)))))
 (refine Jx.loadAg rfl 0 rfl rfl rfl rfl ?_)
 (refine J.call (c3) rfl (evs_args rfl) rfl ?_; rintro _ _ ⟨rfl, rfl⟩; simp only [la1, la2, la3])
 (refine Jx.move rfl rfl (Jx.extract rfl rfl rfl ?_))
 (refine Jx.extract rfl rfl rfl ?_)
 (refine Jx.assign rfl rfl (Jx.assign rfl rfl (J.nil (N.seq (W.seq (W.seq (W.region (Jx.fieldAddr rfl rfl ?_))))))))
 (refine Jx.load rfl 0 rfl rfl rfl ?_)
 (refine Jx.lenSl rfl rfl ?_)
 (refine Jx.gtrI rfl rfl rfl (Jx.move rfl rfl (J.gY rfl rfl rfl ?_)))
 (refine Jx.fieldAddr rfl rfl ?_)
 (refine J.gY rfl rfl rfl ?_)
 (refine Jx.load rfl 0 rfl rfl rfl ?_)
 (refine J.gY rfl rfl rfl ?_)
 (refine J.call (c4) rfl (evs_args rfl) rfl ?_; rintro _ _ ⟨rfl, rfl⟩; simp only [la1, la2, la3])
 (refine J.gY rfl rfl rfl ?_)
 (refine Jx.not rfl rfl (Jx.pF rfl rfl rfl ?_))
 (refine Jx.move rfl rfl (J.gN rfl rfl rfl rfl ?_))
 (refine J.gN rfl rfl rfl rfl ?_)
 (refine J.gN rfl rfl rfl rfl ?_)
 (refine J.gN rfl rfl rfl rfl ?_)
 (refine Jx.pT rfl rfl rfl ?_)
 (refine Jx.move rfl rfl (J.gN rfl rfl rfl rfl ?_))
 (refine J.gN rfl rfl rfl rfl ?_)
 (refine J.gN rfl rfl rfl rfl ?_)
 (refine J.gN rfl rfl rfl rfl ?_)
 (refine J.gN rfl rfl rfl rfl ?_)
 (refine J.guardSkip rfl rfl rfl rfl ?_)
 (refine J.guardSkip rfl rfl rfl rfl ?_)
 (refine J.gN rfl rfl rfl rfl ?_)
 (refine Jx.pT rfl rfl rfl ?_)
 (refine Jx.move rfl rfl (J.gN rfl rfl rfl rfl ?_))
 (refine J.gN rfl rfl rfl rfl ?_)
 (refine J.gN rfl rfl rfl rfl ?_)
 (refine J.gN rfl rfl rfl rfl ?_)
 (refine Jx.pT rfl rfl rfl ?_)
 (refine Jx.move rfl rfl (J.gN rfl rfl rfl rfl ?_))
 (refine J.gN rfl rfl rfl rfl ?_)
 (refine J.gN rfl rfl rfl rfl ?_)
 (refine J.gN rfl rfl rfl rfl ?_)
 (refine Jx.pT rfl rfl rfl ?_)
 (refine J.nil (N.seq (W.cT rfl ?_)))
 (refine W.seq (W.region (Jx.assign rfl rfl (J.nil (N.seq (W.ret (N.noGotoRet ?_)))))))
 (refine id ?_; rotate_left))
            exact N.retD (rs := [.tmp 2]) (L1 := []) rfl (.tmp rfl .nil) (List.nil_sublist _) ⟨rfl, rfl⟩
        | true =>
          rw [a2] at c4 hx
          cases a3 : setB x.nxt with
          | false =>
            rw [a3] at c5
            by_cases k5 : x.code = 0
            · focus (
 (refine W.seq (W.region ?_))
 (refine J.boxAg rfl rfl ?_; intro b')
 (refine Jx.assign rfl rfl (J.nil (N.seq (W.seq (W.seq (W.region (Jx.fieldAddr rfl rfl ?_)))))))
 (refine Jx.load rfl 0 rfl rfl rfl ?_)
 (refine Jx.lssI rfl rfl rfl (Jx.move rfl rfl (J.gY rfl rfl rfl ?_)))
 (refine Jx.fieldAddr rfl rfl ?_)
 (refine J.gY rfl rfl rfl ?_)
 (refine Jx.load rfl 0 rfl rfl rfl ?_)
 (refine J.gY rfl rfl rfl ?_)
 (refine Jx.gtrI rfl rfl rfl (Jx.pF rfl rfl rfl ?_))
 (refine Jx.move rfl rfl (J.gY rfl rfl rfl ?_))
 (refine Jx.fieldAddr rfl rfl ?_)
 (refine J.gY rfl rfl rfl ?_)
 (refine Jx.load rfl 0 rfl rfl rfl ?_)
 (refine J.gY rfl rfl rfl ?_)
 (refine J.call (c1) rfl (evs_args rfl) rfl ?_; rintro _ _ ⟨rfl, rfl⟩; simp only [la1, la2, la3])
 (refine J.gY rfl rfl rfl ?_)
 (refine Jx.not rfl rfl (Jx.pF rfl rfl rfl ?_))
 (refine Jx.move rfl rfl (J.gY rfl rfl rfl ?_))
 (refine Jx.fieldAddr rfl rfl ?_)
 (refine J.gY rfl rfl rfl ?_)
 (refine Jx.load rfl 0 rfl rfl rfl ?_)
 (refine J.gY rfl rfl rfl ?_)
 (refine Jx.neqI rfl rfl rfl (J.gY rfl rfl rfl ?_))
 (refine Jx.move rfl rfl (J.gN rfl rfl rfl rfl ?_))
 (refine J.gN rfl rfl rfl rfl ?_)
 (refine J.gN rfl rfl rfl rfl ?_)
 (refine J.gY rfl rfl rfl ?_)
 (refine Jx.pF rfl rfl rfl ?_)
 (refine Jx.pF rfl rfl rfl ?_)
 (refine J.nil (N.seq (W.cF rfl ?_)))
 (refine W.skip (N.seq (W.seq (W.region (Jx.fieldAddr rfl rfl ?_)))))
 (refine Jx.loadAg rfl 0 rfl rfl rfl rfl ?_)
 (refine J.call (c3) rfl (evs_args rfl) rfl ?_; rintro _ _ ⟨rfl, rfl⟩; simp only [la1, la2, la3])
 (refine Jx.move rfl rfl (Jx.extract rfl rfl rfl ?_))
 (refine Jx.extract rfl rfl rfl ?_)
 (refine Jx.assign rfl rfl (Jx.assign rfl rfl (J.nil (N.seq (W.seq (W.seq (W.region (Jx.fieldAddr rfl rfl ?_))))))))
 (refine Jx.load rfl 0 rfl rfl rfl ?_)
 (refine Jx.lenSl rfl rfl ?_)
 (refine Jx.gtrI rfl rfl rfl (Jx.move rfl rfl (J.gY rfl rfl rfl ?_)))
 (refine Jx.fieldAddr rfl rfl ?_)
 (refine J.gY rfl rfl rfl ?_)
 (refine Jx.load rfl 0 rfl rfl rfl ?_)
 (refine J.gY rfl rfl rfl ?_)
 (refine J.call (c4) rfl (evs_args rfl) rfl ?_; rintro _ _ ⟨rfl, rfl⟩; simp only [la1, la2, la3])
 (refine J.gY rfl rfl rfl ?_)
 (refine Jx.not rfl rfl (Jx.pF rfl rfl rfl ?_))
 (refine Jx.move rfl rfl (J.gY rfl rfl rfl ?_))
 (refine Jx.fieldAddr rfl rfl ?_)
 (refine J.gY rfl rfl rfl ?_)
 (refine Jx.load rfl 0 rfl rfl rfl ?_)
 (refine J.gY rfl rfl rfl ?_)
 (refine J.call (c5) rfl (evs_args rfl) rfl ?_; rintro _ _ ⟨rfl, rfl⟩; simp only [la1, la2, la3])
 (refine J.gY rfl rfl rfl ?_)
 (refine Jx.not rfl rfl (Jx.pF rfl rfl rfl ?_))
 (refine Jx.move rfl rfl (J.gN rfl rfl rfl rfl ?_))
 (refine J.gN rfl rfl rfl rfl ?_)
 (refine J.gN rfl rfl rfl rfl ?_)
 (refine J.gN rfl rfl rfl rfl ?_)
 (refine J.gN rfl rfl rfl rfl ?_)
 (refine J.guardSkip rfl rfl rfl rfl ?_)
 (refine J.guardSkip rfl rfl rfl rfl ?_)
 (refine J.gN rfl rfl rfl rfl ?_)
 (refine Jx.pT rfl rfl rfl ?_)
 (refine Jx.move rfl rfl (J.gN rfl rfl rfl rfl ?_))
 (refine J.gN rfl rfl rfl rfl ?_)
 (refine J.gN rfl rfl rfl rfl ?_)
 (refine J.gN rfl rfl rfl rfl ?_)
 (refine Jx.pT rfl rfl rfl ?_)
 (refine Jx.move rfl rfl (J.gN rfl rfl rfl rfl ?_))
 (refine J.gN rfl rfl rfl rfl ?_)
 (refine J.gN rfl rfl rfl rfl ?_)
 (refine J.gN rfl rfl rfl rfl ?_)
 (refine Jx.pT rfl rfl rfl ?_)
 (refine J.nil (N.seq (W.cT rfl ?_)))
 (refine W.seq (W.region (Jx.assign rfl rfl (J.nil (N.seq (W.ret (N.noGotoRet ?_)))))))
 (refine id ?_; rotate_left))
              exact N.retD (rs := [.tmp 2]) (L1 := []) rfl (.tmp rfl .nil) (List.nil_sublist _) ⟨rfl, rfl⟩
            · have k6 : aloneB x = true := by rcases k4 with h | h; exact absurd h k5; exact h
              rw [k6] at c2
              focus (
 (refine W.seq (W.region ?_))
 (refine J.boxAg rfl rfl ?_; intro b')
 (refine Jx.assign rfl rfl (J.nil (N.seq (W.seq (W.seq (W.region (Jx.fieldAddr rfl rfl ?_)))))))
 (refine Jx.load rfl 0 rfl rfl rfl ?_)
 (refine Jx.lssI rfl rfl rfl (Jx.move rfl rfl (J.gY rfl rfl rfl ?_)))
 (refine Jx.fieldAddr rfl rfl ?_)
 (refine J.gY rfl rfl rfl ?_)
 (refine Jx.load rfl 0 rfl rfl rfl ?_)
 (refine J.gY rfl rfl rfl ?_)
 (refine Jx.gtrI rfl rfl rfl (Jx.pF rfl rfl rfl ?_))
 (refine Jx.move rfl rfl (J.gY rfl rfl rfl ?_))
 (refine Jx.fieldAddr rfl rfl ?_)
 (refine J.gY rfl rfl rfl ?_)
 (refine Jx.load rfl 0 rfl rfl rfl ?_)
 (refine J.gY rfl rfl rfl ?_)
 (refine J.call (c1) rfl (evs_args rfl) rfl ?_; rintro _ _ ⟨rfl, rfl⟩; simp only [la1, la2, la3])
 (refine J.gY rfl rfl rfl ?_)
 (refine Jx.not rfl rfl (Jx.pF rfl rfl rfl ?_))
 (refine Jx.move rfl rfl (J.gY rfl rfl rfl ?_))
 (refine Jx.fieldAddr rfl rfl ?_)
 (refine J.gY rfl rfl rfl ?_)
 (refine Jx.load rfl 0 rfl rfl rfl ?_)
 (refine J.gY rfl rfl rfl ?_)
 (refine Jx.neqI rfl rfl rfl (J.gY rfl rfl rfl ?_))
 (refine Jx.move rfl rfl (J.gY rfl rfl rfl ?_))
 (refine Jx.loadAll rfl 0 rfl rfl rfl ?_)
 (refine J.gY rfl rfl rfl ?_)
 (refine J.call (c2) rfl (evs_args rfl) rfl ?_; rintro _ _ ⟨rfl, rfl⟩; simp only [la1, la2, la3])
 (refine J.gY rfl rfl rfl ?_)
 (refine Jx.not rfl rfl (J.gY rfl rfl rfl ?_))
 (refine Jx.pT rfl rfl rfl ?_)
 (refine Jx.pF rfl rfl rfl ?_)
 (refine J.nil (N.seq (W.cF rfl ?_)))
 (refine W.skip (N.seq (W.seq (W.region (Jx.fieldAddr rfl rfl ?_)))))
 (refine Jx.loadAg rfl 0 rfl rfl rfl rfl ?_)
 (refine J.call (c3) rfl (evs_args rfl) rfl ?_; rintro _ _ ⟨rfl, rfl⟩; simp only [la1, la2, la3])
 (refine Jx.move rfl rfl (Jx.extract rfl rfl rfl ?_))
 (refine Jx.extract rfl rfl rfl ?_)
 (refine Jx.assign rfl rfl (Jx.assign rfl rfl (J.nil (N.seq (W.seq (W.seq (W.region (Jx.fieldAddr rfl rfl ?_))))))))
 (refine Jx.load rfl 0 rfl rfl rfl ?_)
 (refine Jx.lenSl rfl rfl ?_)
 (refine Jx.gtrI rfl rfl rfl (Jx.move rfl rfl (J.gY rfl rfl rfl ?_)))
 (refine Jx.fieldAddr rfl rfl ?_)
 (refine J.gY rfl rfl rfl ?_)
 (refine Jx.load rfl 0 rfl rfl rfl ?_)
 (refine J.gY rfl rfl rfl ?_)
 (refine J.call (c4) rfl (evs_args rfl) rfl ?_; rintro _ _ ⟨rfl, rfl⟩; simp only [la1, la2, la3])
 (refine J.gY rfl rfl rfl ?_)
 (refine Jx.not rfl rfl (Jx.pF rfl rfl rfl ?_))
 (refine Jx.move rfl rfl (J.gY rfl rfl rfl ?_))
 (refine Jx.fieldAddr rfl rfl ?_)
 (refine J.gY rfl rfl rfl ?_)
 (refine Jx.load rfl 0 rfl rfl rfl ?_)
 (refine J.gY rfl rfl rfl ?_)
 (refine J.call (c5) rfl (evs_args rfl) rfl ?_; rintro _ _ ⟨rfl, rfl⟩; simp only [la1, la2, la3])
 (refine J.gY rfl rfl rfl ?_)
 (refine Jx.not rfl rfl (Jx.pF rfl rfl rfl ?_))
 (refine Jx.move rfl rfl (J.gN rfl rfl rfl rfl ?_))
 (refine J.gN rfl rfl rfl rfl ?_)
 (refine J.gN rfl rfl rfl rfl ?_)
 (refine J.gN rfl rfl rfl rfl ?_)
 (refine J.gN rfl rfl rfl rfl ?_)
 (refine J.guardSkip rfl rfl rfl rfl ?_)
 (refine J.guardSkip rfl rfl rfl rfl ?_)
 (refine J.gN rfl rfl rfl rfl ?_)
 (refine Jx.pT rfl rfl rfl ?_)
 (refine Jx.move rfl rfl (J.gN rfl rfl rfl rfl ?_))
 (refine J.gN rfl rfl rfl rfl ?_)
 (refine J.gN rfl rfl rfl rfl ?_)
 (refine J.gN rfl rfl rfl rfl ?_)
 (refine Jx.pT rfl rfl rfl ?_)
 (refine Jx.move rfl rfl (J.gN rfl rfl rfl rfl ?_))
 (refine J.gN rfl rfl rfl rfl ?_)
 (refine J.gN rfl rfl rfl rfl ?_)
 (refine J.gN rfl rfl rfl rfl ?_)
 (refine Jx.pT rfl rfl rfl ?_)
 (refine J.nil (N.seq (W.cT rfl ?_)))
 (refine W.seq (W.region (Jx.assign rfl rfl (J.nil (N.seq (W.ret (N.noGotoRet ?_)))))))
 (refine id ?_; rotate_left))
              exact N.retD (rs := [.tmp 2]) (L1 := []) rfl (.tmp rfl .nil) (List.nil_sublist _) ⟨rfl, rfl⟩
          | true =>
            rw [a3] at c5 hx
            cases a4 : bareCt x.cert with
            | true =>
              rw [a4] at c6 hx
              cases a5 : textsB x.nodes with
              | false =>
                rw [a5] at c7
                by_cases k5 : x.code = 0
                · focus (
 (refine W.seq (W.region ?_))
 (refine J.boxAg rfl rfl ?_; intro b')
 (refine Jx.assign rfl rfl (J.nil (N.seq (W.seq (W.seq (W.region (Jx.fieldAddr rfl rfl ?_)))))))
 (refine Jx.load rfl 0 rfl rfl rfl ?_)
 (refine Jx.lssI rfl rfl rfl (Jx.move rfl rfl (J.gY rfl rfl rfl ?_)))
 (refine Jx.fieldAddr rfl rfl ?_)
 (refine J.gY rfl rfl rfl ?_)
 (refine Jx.load rfl 0 rfl rfl rfl ?_)
 (refine J.gY rfl rfl rfl ?_)
 (refine Jx.gtrI rfl rfl rfl (Jx.pF rfl rfl rfl ?_))
 (refine Jx.move rfl rfl (J.gY rfl rfl rfl ?_))
 (refine Jx.fieldAddr rfl rfl ?_)
 (refine J.gY rfl rfl rfl ?_)
 (refine Jx.load rfl 0 rfl rfl rfl ?_)
 (refine J.gY rfl rfl rfl ?_)
 (refine J.call (c1) rfl (evs_args rfl) rfl ?_; rintro _ _ ⟨rfl, rfl⟩; simp only [la1, la2, la3])
 (refine J.gY rfl rfl rfl ?_)
 (refine Jx.not rfl rfl (Jx.pF rfl rfl rfl ?_))
 (refine Jx.move rfl rfl (J.gY rfl rfl rfl ?_))
 (refine Jx.fieldAddr rfl rfl ?_)
 (refine J.gY rfl rfl rfl ?_)
 (refine Jx.load rfl 0 rfl rfl rfl ?_)
 (refine J.gY rfl rfl rfl ?_)
 (refine Jx.neqI rfl rfl rfl (J.gY rfl rfl rfl ?_))
 (refine Jx.move rfl rfl (J.gN rfl rfl rfl rfl ?_))
 (refine J.gN rfl rfl rfl rfl ?_)
 (refine J.gN rfl rfl rfl rfl ?_)
 (refine J.gY rfl rfl rfl ?_)
 (refine Jx.pF rfl rfl rfl ?_)
 (refine Jx.pF rfl rfl rfl ?_)
 (refine J.nil (N.seq (W.cF rfl ?_)))
 (refine W.skip (N.seq (W.seq (W.region (Jx.fieldAddr rfl rfl ?_)))))
 (refine Jx.loadAg rfl 0 rfl rfl rfl rfl ?_)
 (refine J.call (c3) rfl (evs_args rfl) rfl ?_; rintro _ _ ⟨rfl, rfl⟩; simp only [la1, la2, la3])
 (refine Jx.move rfl rfl (Jx.extract rfl rfl rfl ?_))
 (refine Jx.extract rfl rfl rfl ?_)
 (refine Jx.assign rfl rfl (Jx.assign rfl rfl (J.nil (N.seq (W.seq (W.seq (W.region (Jx.fieldAddr rfl rfl ?_))))))))
 (refine Jx.load rfl 0 rfl rfl rfl ?_)
 (refine Jx.lenSl rfl rfl ?_)
 (refine Jx.gtrI rfl rfl rfl (Jx.move rfl rfl (J.gY rfl rfl rfl ?_)))
 (refine Jx.fieldAddr rfl rfl ?_)
 (refine J.gY rfl rfl rfl ?_)
 (refine Jx.load rfl 0 rfl rfl rfl ?_)
 (refine J.gY rfl rfl rfl ?_)
 (refine J.call (c4) rfl (evs_args rfl) rfl ?_; rintro _ _ ⟨rfl, rfl⟩; simp only [la1, la2, la3])
 (refine J.gY rfl rfl rfl ?_)
 (refine Jx.not rfl rfl (Jx.pF rfl rfl rfl ?_))
 (refine Jx.move rfl rfl (J.gY rfl rfl rfl ?_))
 (refine Jx.fieldAddr rfl rfl ?_)
 (refine J.gY rfl rfl rfl ?_)
 (refine Jx.load rfl 0 rfl rfl rfl ?_)
 (refine J.gY rfl rfl rfl ?_)
 (refine J.call (c5) rfl (evs_args rfl) rfl ?_; rintro _ _ ⟨rfl, rfl⟩; simp only [la1, la2, la3])
 (refine J.gY rfl rfl rfl ?_)
 (refine Jx.not rfl rfl (Jx.pF rfl rfl rfl ?_))
 (refine Jx.move rfl rfl (J.gY rfl rfl rfl ?_))
 (refine Jx.fieldAddr rfl rfl ?_)
 (refine J.gY rfl rfl rfl ?_)
 (refine Jx.loadAg rfl 0 rfl rfl rfl rfl ?_)
 (refine J.gY rfl rfl rfl ?_)
 (refine J.call (c6) rfl (evs_args rfl) rfl ?_; rintro _ _ ⟨rfl, rfl⟩; simp only [la1, la2, la3])
 (refine J.gY rfl rfl rfl ?_)
 (refine Jx.not rfl rfl (J.gY rfl rfl rfl ?_))
 (refine Jx.move rfl rfl (J.gN rfl rfl rfl rfl ?_))
 (refine J.gN rfl rfl rfl rfl ?_)
 (refine J.gY rfl rfl rfl ?_)
 (refine Jx.pF rfl rfl rfl ?_)
 (refine Jx.pF rfl rfl rfl ?_)
 (refine Jx.move rfl rfl (J.gY rfl rfl rfl ?_))
 (refine Jx.fieldAddr rfl rfl ?_)
 (refine J.gY rfl rfl rfl ?_)
 (refine Jx.load rfl 0 rfl rfl rfl ?_)
 (refine J.gY rfl rfl rfl ?_)
 (refine J.call (c7) rfl (evs_args rfl) rfl ?_; rintro _ _ ⟨rfl, rfl⟩; simp only [la1, la2, la3])
 (refine J.gY rfl rfl rfl ?_)
 (refine Jx.not rfl rfl (Jx.pF rfl rfl rfl ?_))
 (refine Jx.move rfl rfl (J.gN rfl rfl rfl rfl ?_))
 (refine J.gN rfl rfl rfl rfl ?_)
 (refine J.gN rfl rfl rfl rfl ?_)
 (refine J.gN rfl rfl rfl rfl ?_)
 (refine Jx.pT rfl rfl rfl ?_)
 (refine J.nil (N.seq (W.cT rfl ?_)))
 (refine W.seq (W.region (Jx.assign rfl rfl (J.nil (N.seq (W.ret (N.noGotoRet ?_)))))))
 (refine id ?_; rotate_left))
                  exact N.retD (rs := [.tmp 2]) (L1 := []) rfl (.tmp rfl .nil) (List.nil_sublist _) ⟨rfl, rfl⟩
                · have k6 : aloneB x = true := by rcases k4 with h | h; exact absurd h k5; exact h
                  rw [k6] at c2
                  focus (
 (refine W.seq (W.region ?_))
 (refine J.boxAg rfl rfl ?_; intro b')
 (refine Jx.assign rfl rfl (J.nil (N.seq (W.seq (W.seq (W.region (Jx.fieldAddr rfl rfl ?_)))))))
 (refine Jx.load rfl 0 rfl rfl rfl ?_)
 (refine Jx.lssI rfl rfl rfl (Jx.move rfl rfl (J.gY rfl rfl rfl ?_)))
 (refine Jx.fieldAddr rfl rfl ?_)
 (refine J.gY rfl rfl rfl ?_)
 (refine Jx.load rfl 0 rfl rfl rfl ?_)
 (refine J.gY rfl rfl rfl ?_)
 (refine Jx.gtrI rfl rfl rfl (Jx.pF rfl rfl rfl ?_))
 (refine Jx.move rfl rfl (J.gY rfl rfl rfl ?_))
 (refine Jx.fieldAddr rfl rfl ?_)
 (refine J.gY rfl rfl rfl ?_)
 (refine Jx.load rfl 0 rfl rfl rfl ?_)
 (refine J.gY rfl rfl rfl ?_)
 (refine J.call (c1) rfl (evs_args rfl) rfl ?_; rintro _ _ ⟨rfl, rfl⟩; simp only [la1, la2, la3])
 (refine J.gY rfl rfl rfl ?_)
 (refine Jx.not rfl rfl (Jx.pF rfl rfl rfl ?_))
 (refine Jx.move rfl rfl (J.gY rfl rfl rfl ?_))
 (refine Jx.fieldAddr rfl rfl ?_)
 (refine J.gY rfl rfl rfl ?_)
 (refine Jx.load rfl 0 rfl rfl rfl ?_)
 (refine J.gY rfl rfl rfl ?_)
 (refine Jx.neqI rfl rfl rfl (J.gY rfl rfl rfl ?_))
 (refine Jx.move rfl rfl (J.gY rfl rfl rfl ?_))
 (refine Jx.loadAll rfl 0 rfl rfl rfl ?_)
 (refine J.gY rfl rfl rfl ?_)
 (refine J.call (c2) rfl (evs_args rfl) rfl ?_; rintro _ _ ⟨rfl, rfl⟩; simp only [la1, la2, la3])
 (refine J.gY rfl rfl rfl ?_)
 (refine Jx.not rfl rfl (J.gY rfl rfl rfl ?_))
 (refine Jx.pT rfl rfl rfl ?_)
 (refine Jx.pF rfl rfl rfl ?_)
 (refine J.nil (N.seq (W.cF rfl ?_)))
 (refine W.skip (N.seq (W.seq (W.region (Jx.fieldAddr rfl rfl ?_)))))
 (refine Jx.loadAg rfl 0 rfl rfl rfl rfl ?_)
 (refine J.call (c3) rfl (evs_args rfl) rfl ?_; rintro _ _ ⟨rfl, rfl⟩; simp only [la1, la2, la3])
 (refine Jx.move rfl rfl (Jx.extract rfl rfl rfl ?_))
 (refine Jx.extract rfl rfl rfl ?_)
 (refine Jx.assign rfl rfl (Jx.assign rfl rfl (J.nil (N.seq (W.seq (W.seq (W.region (Jx.fieldAddr rfl rfl ?_))))))))
 (refine Jx.load rfl 0 rfl rfl rfl ?_)
 (refine Jx.lenSl rfl rfl ?_)
 (refine Jx.gtrI rfl rfl rfl (Jx.move rfl rfl (J.gY rfl rfl rfl ?_)))
 (refine Jx.fieldAddr rfl rfl ?_)
 (refine J.gY rfl rfl rfl ?_)
 (refine Jx.load rfl 0 rfl rfl rfl ?_)
 (refine J.gY rfl rfl rfl ?_)
 (refine J.call (c4) rfl (evs_args rfl) rfl ?_; rintro _ _ ⟨rfl, rfl⟩; simp only [la1, la2, la3])
 (refine J.gY rfl rfl rfl ?_)
 (refine Jx.not rfl rfl (Jx.pF rfl rfl rfl ?_))
 (refine Jx.move rfl rfl (J.gY rfl rfl rfl ?_))
 (refine Jx.fieldAddr rfl rfl ?_)
 (refine J.gY rfl rfl rfl ?_)
 (refine Jx.load rfl 0 rfl rfl rfl ?_)
 (refine J.gY rfl rfl rfl ?_)
 (refine J.call (c5) rfl (evs_args rfl) rfl ?_; rintro _ _ ⟨rfl, rfl⟩; simp only [la1, la2, la3])
 (refine J.gY rfl rfl rfl ?_)
 (refine Jx.not rfl rfl (Jx.pF rfl rfl rfl ?_))
 (refine Jx.move rfl rfl (J.gY rfl rfl rfl ?_))
 (refine Jx.fieldAddr rfl rfl ?_)
 (refine J.gY rfl rfl rfl ?_)
 (refine Jx.loadAg rfl 0 rfl rfl rfl rfl ?_)
 (refine J.gY rfl rfl rfl ?_)
 (refine J.call (c6) rfl (evs_args rfl) rfl ?_; rintro _ _ ⟨rfl, rfl⟩; simp only [la1, la2, la3])
 (refine J.gY rfl rfl rfl ?_)
 (refine Jx.not rfl rfl (J.gY rfl rfl rfl ?_))
 (refine Jx.move rfl rfl (J.gN rfl rfl rfl rfl ?_))
 (refine J.gN rfl rfl rfl rfl ?_)
 (refine J.gY rfl rfl rfl ?_)
 (refine Jx.pF rfl rfl rfl ?_)
 (refine Jx.pF rfl rfl rfl ?_)
 (refine Jx.move rfl rfl (J.gY rfl rfl rfl ?_))
 (refine Jx.fieldAddr rfl rfl ?_)
 (refine J.gY rfl rfl rfl ?_)
 (refine Jx.load rfl 0 rfl rfl rfl ?_)
 (refine J.gY rfl rfl rfl ?_)
 (refine J.call (c7) rfl (evs_args rfl) rfl ?_; rintro _ _ ⟨rfl, rfl⟩; simp only [la1, la2, la3])
 (refine J.gY rfl rfl rfl ?_)
 (refine Jx.not rfl rfl (Jx.pF rfl rfl rfl ?_))
 (refine Jx.move rfl rfl (J.gN rfl rfl rfl rfl ?_))
 (refine J.gN rfl rfl rfl rfl ?_)
 (refine J.gN rfl rfl rfl rfl ?_)
 (refine J.gN rfl rfl rfl rfl ?_)
 (refine Jx.pT rfl rfl rfl ?_)
 (refine J.nil (N.seq (W.cT rfl ?_)))
 (refine W.seq (W.region (Jx.assign rfl rfl (J.nil (N.seq (W.ret (N.noGotoRet ?_)))))))
 (refine id ?_; rotate_left))
                  exact N.retD (rs := [.tmp 2]) (L1 := []) rfl (.tmp rfl .nil) (List.nil_sublist _) ⟨rfl, rfl⟩
              | true =>
                rw [a5] at c7 hx
                have a6 : pageB x.items x.pnext x.pnodes = false := by simpa using hx
                rw [a6] at c8
                by_cases k5 : x.code = 0
                · focus (
 (refine W.seq (W.region ?_))
 (refine J.boxAg rfl rfl ?_; intro b')
 (refine Jx.assign rfl rfl (J.nil (N.seq (W.seq (W.seq (W.region (Jx.fieldAddr rfl rfl ?_)))))))
 (refine Jx.load rfl 0 rfl rfl rfl ?_)
 (refine Jx.lssI rfl rfl rfl (Jx.move rfl rfl (J.gY rfl rfl rfl ?_)))
 (refine Jx.fieldAddr rfl rfl ?_)
 (refine J.gY rfl rfl rfl ?_)
 (refine Jx.load rfl 0 rfl rfl rfl ?_)
 (refine J.gY rfl rfl rfl ?_)
 (refine Jx.gtrI rfl rfl rfl (Jx.pF rfl rfl rfl ?_))
 (refine Jx.move rfl rfl (J.gY rfl rfl rfl ?_))
 (refine Jx.fieldAddr rfl rfl ?_)
 (refine J.gY rfl rfl rfl ?_)
 (refine Jx.load rfl 0 rfl rfl rfl ?_)
 (refine J.gY rfl rfl rfl ?_)
 (refine J.call (c1) rfl (evs_args rfl) rfl ?_; rintro _ _ ⟨rfl, rfl⟩; simp only [la1, la2, la3])
 (refine J.gY rfl rfl rfl ?_)
 (refine Jx.not rfl rfl (Jx.pF rfl rfl rfl ?_))
 (refine Jx.move rfl rfl (J.gY rfl rfl rfl ?_))
 (refine Jx.fieldAddr rfl rfl ?_)
 (refine J.gY rfl rfl rfl ?_)
 (refine Jx.load rfl 0 rfl rfl rfl ?_)
 (refine J.gY rfl rfl rfl ?_)
 (refine Jx.neqI rfl rfl rfl (J.gY rfl rfl rfl ?_))
 (refine Jx.move rfl rfl (J.gN rfl rfl rfl rfl ?_))
 (refine J.gN rfl rfl rfl rfl ?_)
 (refine J.gN rfl rfl rfl rfl ?_)
 (refine J.gY rfl rfl rfl ?_)
 (refine Jx.pF rfl rfl rfl ?_)
 (refine Jx.pF rfl rfl rfl ?_)
 (refine J.nil (N.seq (W.cF rfl ?_)))
 (refine W.skip (N.seq (W.seq (W.region (Jx.fieldAddr rfl rfl ?_)))))
 (refine Jx.loadAg rfl 0 rfl rfl rfl rfl ?_)
 (refine J.call (c3) rfl (evs_args rfl) rfl ?_; rintro _ _ ⟨rfl, rfl⟩; simp only [la1, la2, la3])
 (refine Jx.move rfl rfl (Jx.extract rfl rfl rfl ?_))
 (refine Jx.extract rfl rfl rfl ?_)
 (refine Jx.assign rfl rfl (Jx.assign rfl rfl (J.nil (N.seq (W.seq (W.seq (W.region (Jx.fieldAddr rfl rfl ?_))))))))
 (refine Jx.load rfl 0 rfl rfl rfl ?_)
 (refine Jx.lenSl rfl rfl ?_)
 (refine Jx.gtrI rfl rfl rfl (Jx.move rfl rfl (J.gY rfl rfl rfl ?_)))
 (refine Jx.fieldAddr rfl rfl ?_)
 (refine J.gY rfl rfl rfl ?_)
 (refine Jx.load rfl 0 rfl rfl rfl ?_)
 (refine J.gY rfl rfl rfl ?_)
 (refine J.call (c4) rfl (evs_args rfl) rfl ?_; rintro _ _ ⟨rfl, rfl⟩; simp only [la1, la2, la3])
 (refine J.gY rfl rfl rfl ?_)
 (refine Jx.not rfl rfl (Jx.pF rfl rfl rfl ?_))
 (refine Jx.move rfl rfl (J.gY rfl rfl rfl ?_))
 (refine Jx.fieldAddr rfl rfl ?_)
 (refine J.gY rfl rfl rfl ?_)
 (refine Jx.load rfl 0 rfl rfl rfl ?_)
 (refine J.gY rfl rfl rfl ?_)
 (refine J.call (c5) rfl (evs_args rfl) rfl ?_; rintro _ _ ⟨rfl, rfl⟩; simp only [la1, la2, la3])
 (refine J.gY rfl rfl rfl ?_)
 (refine Jx.not rfl rfl (Jx.pF rfl rfl rfl ?_))
 (refine Jx.move rfl rfl (J.gY rfl rfl rfl ?_))
 (refine Jx.fieldAddr rfl rfl ?_)
 (refine J.gY rfl rfl rfl ?_)
 (refine Jx.loadAg rfl 0 rfl rfl rfl rfl ?_)
 (refine J.gY rfl rfl rfl ?_)
 (refine J.call (c6) rfl (evs_args rfl) rfl ?_; rintro _ _ ⟨rfl, rfl⟩; simp only [la1, la2, la3])
 (refine J.gY rfl rfl rfl ?_)
 (refine Jx.not rfl rfl (J.gY rfl rfl rfl ?_))
 (refine Jx.move rfl rfl (J.gN rfl rfl rfl rfl ?_))
 (refine J.gN rfl rfl rfl rfl ?_)
 (refine J.gY rfl rfl rfl ?_)
 (refine Jx.pF rfl rfl rfl ?_)
 (refine Jx.pF rfl rfl rfl ?_)
 (refine Jx.move rfl rfl (J.gY rfl rfl rfl ?_))
 (refine Jx.fieldAddr rfl rfl ?_)
 (refine J.gY rfl rfl rfl ?_)
 (refine Jx.load rfl 0 rfl rfl rfl ?_)
 (refine J.gY rfl rfl rfl ?_)
 (refine J.call (c7) rfl (evs_args rfl) rfl ?_; rintro _ _ ⟨rfl, rfl⟩; simp only [la1, la2, la3])
 (refine J.gY rfl rfl rfl ?_)
 (refine Jx.not rfl rfl (Jx.pF rfl rfl rfl ?_))
 (refine Jx.move rfl rfl (J.gY rfl rfl rfl ?_))
 (refine Jx.fieldAddr rfl rfl ?_)
 (refine J.gY rfl rfl rfl ?_)
 (refine Jx.loadAg rfl 0 rfl rfl rfl rfl ?_)
 (refine J.gY rfl rfl rfl ?_)
 (refine J.call (c8) rfl (evs_args rfl) rfl ?_; rintro _ _ ⟨rfl, rfl⟩; simp only [la1, la2, la3])
 (refine J.gY rfl rfl rfl ?_)
 (refine Jx.not rfl rfl (Jx.pF rfl rfl rfl ?_))
 (refine J.nil (N.seq (W.cT rfl ?_)))
 (refine W.seq (W.region (Jx.assign rfl rfl (J.nil (N.seq (W.ret (N.noGotoRet ?_)))))))
 (refine id ?_; rotate_left))
                  exact N.retD (rs := [.tmp 2]) (L1 := []) rfl (.tmp rfl .nil) (List.nil_sublist _) ⟨rfl, rfl⟩
                · have k6 : aloneB x = true := by rcases k4 with h | h; exact absurd h k5; exact h
                  rw [k6] at c2
                  focus (
 (refine W.seq (W.region ?_))
 (refine J.boxAg rfl rfl ?_; intro b')
 (refine Jx.assign rfl rfl (J.nil (N.seq (W.seq (W.seq (W.region (Jx.fieldAddr rfl rfl ?_)))))))
 (refine Jx.load rfl 0 rfl rfl rfl ?_)
 (refine Jx.lssI rfl rfl rfl (Jx.move rfl rfl (J.gY rfl rfl rfl ?_)))
 (refine Jx.fieldAddr rfl rfl ?_)
 (refine J.gY rfl rfl rfl ?_)
 (refine Jx.load rfl 0 rfl rfl rfl ?_)
 (refine J.gY rfl rfl rfl ?_)
 (refine Jx.gtrI rfl rfl rfl (Jx.pF rfl rfl rfl ?_))
 (refine Jx.move rfl rfl (J.gY rfl rfl rfl ?_))
 (refine Jx.fieldAddr rfl rfl ?_)
 (refine J.gY rfl rfl rfl ?_)
 (refine Jx.load rfl 0 rfl rfl rfl ?_)
 (refine J.gY rfl rfl rfl ?_)
 (refine J.call (c1) rfl (evs_args rfl) rfl ?_; rintro _ _ ⟨rfl, rfl⟩; simp only [la1, la2, la3])
 (refine J.gY rfl rfl rfl ?_)
 (refine Jx.not rfl rfl (Jx.pF rfl rfl rfl ?_))
 (refine Jx.move rfl rfl (J.gY rfl rfl rfl ?_))
 (refine Jx.fieldAddr rfl rfl ?_)
 (refine J.gY rfl rfl rfl ?_)
 (refine Jx.load rfl 0 rfl rfl rfl ?_)
 (refine J.gY rfl rfl rfl ?_)
 (refine Jx.neqI rfl rfl rfl (J.gY rfl rfl rfl ?_))
 (refine Jx.move rfl rfl (J.gY rfl rfl rfl ?_))
 (refine Jx.loadAll rfl 0 rfl rfl rfl ?_)
 (refine J.gY rfl rfl rfl ?_)
 (refine J.call (c2) rfl (evs_args rfl) rfl ?_; rintro _ _ ⟨rfl, rfl⟩; simp only [la1, la2, la3])
 (refine J.gY rfl rfl rfl ?_)
 (refine Jx.not rfl rfl (J.gY rfl rfl rfl ?_))
 (refine Jx.pT rfl rfl rfl ?_)
 (refine Jx.pF rfl rfl rfl ?_)
 (refine J.nil (N.seq (W.cF rfl ?_)))
 (refine W.skip (N.seq (W.seq (W.region (Jx.fieldAddr rfl rfl ?_)))))
 (refine Jx.loadAg rfl 0 rfl rfl rfl rfl ?_)
 (refine J.call (c3) rfl (evs_args rfl) rfl ?_; rintro _ _ ⟨rfl, rfl⟩; simp only [la1, la2, la3])
 (refine Jx.move rfl rfl (Jx.extract rfl rfl rfl ?_))
 (refine Jx.extract rfl rfl rfl ?_)
 (refine Jx.assign rfl rfl (Jx.assign rfl rfl (J.nil (N.seq (W.seq (W.seq (W.region (Jx.fieldAddr rfl rfl ?_))))))))
 (refine Jx.load rfl 0 rfl rfl rfl ?_)
 (refine Jx.lenSl rfl rfl ?_)
 (refine Jx.gtrI rfl rfl rfl (Jx.move rfl rfl (J.gY rfl rfl rfl ?_)))
 (refine Jx.fieldAddr rfl rfl ?_)
 (refine J.gY rfl rfl rfl ?_)
 (refine Jx.load rfl 0 rfl rfl rfl ?_)
 (refine J.gY rfl rfl rfl ?_)
 (refine J.call (c4) rfl (evs_args rfl) rfl ?_; rintro _ _ ⟨rfl, rfl⟩; simp only [la1, la2, la3])
 (refine J.gY rfl rfl rfl ?_)
 (refine Jx.not rfl rfl (Jx.pF rfl rfl rfl ?_))
 (refine Jx.move rfl rfl (J.gY rfl rfl rfl ?_))
 (refine Jx.fieldAddr rfl rfl ?_)
 (refine J.gY rfl rfl rfl ?_)
 (refine Jx.load rfl 0 rfl rfl rfl ?_)
 (refine J.gY rfl rfl rfl ?_)
 (refine J.call (c5) rfl (evs_args rfl) rfl ?_; rintro _ _ ⟨rfl, rfl⟩; simp only [la1, la2, la3])
 (refine J.gY rfl rfl rfl ?_)
 (refine Jx.not rfl rfl (Jx.pF rfl rfl rfl ?_))
 (refine Jx.move rfl rfl (J.gY rfl rfl rfl ?_))
 (refine Jx.fieldAddr rfl rfl ?_)
 (refine J.gY rfl rfl rfl ?_)
 (refine Jx.loadAg rfl 0 rfl rfl rfl rfl ?_)
 (refine J.gY rfl rfl rfl ?_)
 (refine J.call (c6) rfl (evs_args rfl) rfl ?_; rintro _ _ ⟨rfl, rfl⟩; simp only [la1, la2, la3])
 (refine J.gY rfl rfl rfl ?_)
 (refine Jx.not rfl rfl (J.gY rfl rfl rfl ?_))
 (refine Jx.move rfl rfl (J.gN rfl rfl rfl rfl ?_))
 (refine J.gN rfl rfl rfl rfl ?_)
 (refine J.gY rfl rfl rfl ?_)
 (refine Jx.pF rfl rfl rfl ?_)
 (refine Jx.pF rfl rfl rfl ?_)
 (refine Jx.move rfl rfl (J.gY rfl rfl rfl ?_))
 (refine Jx.fieldAddr rfl rfl ?_)
 (refine J.gY rfl rfl rfl ?_)
 (refine Jx.load rfl 0 rfl rfl rfl ?_)
 (refine J.gY rfl rfl rfl ?_)
 (refine J.call (c7) rfl (evs_args rfl) rfl ?_; rintro _ _ ⟨rfl, rfl⟩; simp only [la1, la2, la3])
 (refine J.gY rfl rfl rfl ?_)
 (refine Jx.not rfl rfl (Jx.pF rfl rfl rfl ?_))
 (refine Jx.move rfl rfl (J.gY rfl rfl rfl ?_))
 (refine Jx.fieldAddr rfl rfl ?_)
 (refine J.gY rfl rfl rfl ?_)
 (refine Jx.loadAg rfl 0 rfl rfl rfl rfl ?_)
 (refine J.gY rfl rfl rfl ?_)
 (refine J.call (c8) rfl (evs_args rfl) rfl ?_; rintro _ _ ⟨rfl, rfl⟩; simp only [la1, la2, la3])
 (refine J.gY rfl rfl rfl ?_)
 (refine Jx.not rfl rfl (Jx.pF rfl rfl rfl ?_))
 (refine J.nil (N.seq (W.cT rfl ?_)))
 (refine W.seq (W.region (Jx.assign rfl rfl (J.nil (N.seq (W.ret (N.noGotoRet ?_)))))))
 (refine id ?_; rotate_left))
                  exact N.retD (rs := [.tmp 2]) (L1 := []) rfl (.tmp rfl .nil) (List.nil_sublist _) ⟨rfl, rfl⟩
            | false =>
              rw [a4] at c6 hx
              cases a7 : fineCt x.cert with
              | false =>
                rw [a7] at c3
                by_cases k5 : x.code = 0
                · focus (
 (refine W.seq (W.region ?_))
 (refine J.boxAg rfl rfl ?_; intro b')
 (refine Jx.assign rfl rfl (J.nil (N.seq (W.seq (W.seq (W.region (Jx.fieldAddr rfl rfl ?_)))))))
 (refine Jx.load rfl 0 rfl rfl rfl ?_)
 (refine Jx.lssI rfl rfl rfl (Jx.move rfl rfl (J.gY rfl rfl rfl ?_)))
 (refine Jx.fieldAddr rfl rfl ?_)
 (refine J.gY rfl rfl rfl ?_)
 (refine Jx.load rfl 0 rfl rfl rfl ?_)
 (refine J.gY rfl rfl rfl ?_)
 (refine Jx.gtrI rfl rfl rfl (Jx.pF rfl rfl rfl ?_))
 (refine Jx.move rfl rfl (J.gY rfl rfl rfl ?_))
 (refine Jx.fieldAddr rfl rfl ?_)
 (refine J.gY rfl rfl rfl ?_)
 (refine Jx.load rfl 0 rfl rfl rfl ?_)
 (refine J.gY rfl rfl rfl ?_)
 (refine J.call (c1) rfl (evs_args rfl) rfl ?_; rintro _ _ ⟨rfl, rfl⟩; simp only [la1, la2, la3])
 (refine J.gY rfl rfl rfl ?_)
 (refine Jx.not rfl rfl (Jx.pF rfl rfl rfl ?_))
 (refine Jx.move rfl rfl (J.gY rfl rfl rfl ?_))
 (refine Jx.fieldAddr rfl rfl ?_)
 (refine J.gY rfl rfl rfl ?_)
 (refine Jx.load rfl 0 rfl rfl rfl ?_)
 (refine J.gY rfl rfl rfl ?_)
 (refine Jx.neqI rfl rfl rfl (J.gY rfl rfl rfl ?_))
 (refine Jx.move rfl rfl (J.gN rfl rfl rfl rfl ?_))
 (refine J.gN rfl rfl rfl rfl ?_)
 (refine J.gN rfl rfl rfl rfl ?_)
 (refine J.gY rfl rfl rfl ?_)
 (refine Jx.pF rfl rfl rfl ?_)
 (refine Jx.pF rfl rfl rfl ?_)
 (refine J.nil (N.seq (W.cF rfl ?_)))
 (refine W.skip (N.seq (W.seq (W.region (Jx.fieldAddr rfl rfl ?_)))))
 (refine Jx.loadAg rfl 0 rfl rfl rfl rfl ?_)
 (refine J.call (c3) rfl (evs_args rfl) rfl ?_; rintro _ _ ⟨rfl, rfl⟩; simp only [la1, la2, la3])
 (refine Jx.move rfl rfl (Jx.extract rfl rfl rfl ?_))
 (refine Jx.extract rfl rfl rfl ?_)
 (refine Jx.assign rfl rfl (Jx.assign rfl rfl (J.nil (N.seq (W.seq (W.seq (W.region (Jx.fieldAddr rfl rfl ?_))))))))
 (refine Jx.load rfl 0 rfl rfl rfl ?_)
 (refine Jx.lenSl rfl rfl ?_)
 (refine Jx.gtrI rfl rfl rfl (Jx.move rfl rfl (J.gY rfl rfl rfl ?_)))
 (refine Jx.fieldAddr rfl rfl ?_)
 (refine J.gY rfl rfl rfl ?_)
 (refine Jx.load rfl 0 rfl rfl rfl ?_)
 (refine J.gY rfl rfl rfl ?_)
 (refine J.call (c4) rfl (evs_args rfl) rfl ?_; rintro _ _ ⟨rfl, rfl⟩; simp only [la1, la2, la3])
 (refine J.gY rfl rfl rfl ?_)
 (refine Jx.not rfl rfl (Jx.pF rfl rfl rfl ?_))
 (refine Jx.move rfl rfl (J.gY rfl rfl rfl ?_))
 (refine Jx.fieldAddr rfl rfl ?_)
 (refine J.gY rfl rfl rfl ?_)
 (refine Jx.load rfl 0 rfl rfl rfl ?_)
 (refine J.gY rfl rfl rfl ?_)
 (refine J.call (c5) rfl (evs_args rfl) rfl ?_; rintro _ _ ⟨rfl, rfl⟩; simp only [la1, la2, la3])
 (refine J.gY rfl rfl rfl ?_)
 (refine Jx.not rfl rfl (Jx.pF rfl rfl rfl ?_))
 (refine Jx.move rfl rfl (J.gY rfl rfl rfl ?_))
 (refine Jx.fieldAddr rfl rfl ?_)
 (refine J.gY rfl rfl rfl ?_)
 (refine Jx.loadAg rfl 0 rfl rfl rfl rfl ?_)
 (refine J.gY rfl rfl rfl ?_)
 (refine J.call (c6) rfl (evs_args rfl) rfl ?_; rintro _ _ ⟨rfl, rfl⟩; simp only [la1, la2, la3])
 (refine J.gY rfl rfl rfl ?_)
 (refine Jx.not rfl rfl (J.gY rfl rfl rfl ?_))
 (refine Jx.move rfl rfl (J.gY rfl rfl rfl ?_))
 (refine Jx.move rfl rfl (J.gY rfl rfl rfl ?_))
 (refine Jx.neqI rfl rfl rfl (J.gY rfl rfl rfl ?_))
 (refine Jx.pT rfl rfl rfl ?_)
 (refine Jx.pF rfl rfl rfl ?_)
 (refine Jx.move rfl rfl (J.gN rfl rfl rfl rfl ?_))
 (refine J.gN rfl rfl rfl rfl ?_)
 (refine J.gN rfl rfl rfl rfl ?_)
 (refine J.gN rfl rfl rfl rfl ?_)
 (refine Jx.pT rfl rfl rfl ?_)
 (refine Jx.move rfl rfl (J.gN rfl rfl rfl rfl ?_))
 (refine J.gN rfl rfl rfl rfl ?_)
 (refine J.gN rfl rfl rfl rfl ?_)
 (refine J.gN rfl rfl rfl rfl ?_)
 (refine Jx.pT rfl rfl rfl ?_)
 (refine J.nil (N.seq (W.cT rfl ?_)))
 (refine W.seq (W.region (Jx.assign rfl rfl (J.nil (N.seq (W.ret (N.noGotoRet ?_)))))))
 (refine id ?_; rotate_left))
                  exact N.retD (rs := [.tmp 2]) (L1 := []) rfl (.tmp rfl .nil) (List.nil_sublist _) ⟨rfl, rfl⟩
                · have k6 : aloneB x = true := by rcases k4 with h | h; exact absurd h k5; exact h
                  rw [k6] at c2
                  focus (
 (refine W.seq (W.region ?_))
 (refine J.boxAg rfl rfl ?_; intro b')
 (refine Jx.assign rfl rfl (J.nil (N.seq (W.seq (W.seq (W.region (Jx.fieldAddr rfl rfl ?_)))))))
 (refine Jx.load rfl 0 rfl rfl rfl ?_)
 (refine Jx.lssI rfl rfl rfl (Jx.move rfl rfl (J.gY rfl rfl rfl ?_)))
 (refine Jx.fieldAddr rfl rfl ?_)
 (refine J.gY rfl rfl rfl ?_)
 (refine Jx.load rfl 0 rfl rfl rfl ?_)
 (refine J.gY rfl rfl rfl ?_)
 (refine Jx.gtrI rfl rfl rfl (Jx.pF rfl rfl rfl ?_))
 (refine Jx.move rfl rfl (J.gY rfl rfl rfl ?_))
 (refine Jx.fieldAddr rfl rfl ?_)
 (refine J.gY rfl rfl rfl ?_)
 (refine Jx.load rfl 0 rfl rfl rfl ?_)
 (refine J.gY rfl rfl rfl ?_)
 (refine J.call (c1) rfl (evs_args rfl) rfl ?_; rintro _ _ ⟨rfl, rfl⟩; simp only [la1, la2, la3])
 (refine J.gY rfl rfl rfl ?_)
 (refine Jx.not rfl rfl (Jx.pF rfl rfl rfl ?_))
 (refine Jx.move rfl rfl (J.gY rfl rfl rfl ?_))
 (refine Jx.fieldAddr rfl rfl ?_)
 (refine J.gY rfl rfl rfl ?_)
 (refine Jx.load rfl 0 rfl rfl rfl ?_)
 (refine J.gY rfl rfl rfl ?_)
 (refine Jx.neqI rfl rfl rfl (J.gY rfl rfl rfl ?_))
 (refine Jx.move rfl rfl (J.gY rfl rfl rfl ?_))
 (refine Jx.loadAll rfl 0 rfl rfl rfl ?_)
 (refine J.gY rfl rfl rfl ?_)
 (refine J.call (c2) rfl (evs_args rfl) rfl ?_; rintro _ _ ⟨rfl, rfl⟩; simp only [la1, la2, la3])
 (refine J.gY rfl rfl rfl ?_)
 (refine Jx.not rfl rfl (J.gY rfl rfl rfl ?_))
 (refine Jx.pT rfl rfl rfl ?_)
 (refine Jx.pF rfl rfl rfl ?_)
 (refine J.nil (N.seq (W.cF rfl ?_)))
 (refine W.skip (N.seq (W.seq (W.region (Jx.fieldAddr rfl rfl ?_)))))
 (refine Jx.loadAg rfl 0 rfl rfl rfl rfl ?_)
 (refine J.call (c3) rfl (evs_args rfl) rfl ?_; rintro _ _ ⟨rfl, rfl⟩; simp only [la1, la2, la3])
 (refine Jx.move rfl rfl (Jx.extract rfl rfl rfl ?_))
 (refine Jx.extract rfl rfl rfl ?_)
 (refine Jx.assign rfl rfl (Jx.assign rfl rfl (J.nil (N.seq (W.seq (W.seq (W.region (Jx.fieldAddr rfl rfl ?_))))))))
 (refine Jx.load rfl 0 rfl rfl rfl ?_)
 (refine Jx.lenSl rfl rfl ?_)
 (refine Jx.gtrI rfl rfl rfl (Jx.move rfl rfl (J.gY rfl rfl rfl ?_)))
 (refine Jx.fieldAddr rfl rfl ?_)
 (refine J.gY rfl rfl rfl ?_)
 (refine Jx.load rfl 0 rfl rfl rfl ?_)
 (refine J.gY rfl rfl rfl ?_)
 (refine J.call (c4) rfl (evs_args rfl) rfl ?_; rintro _ _ ⟨rfl, rfl⟩; simp only [la1, la2, la3])
 (refine J.gY rfl rfl rfl ?_)
 (refine Jx.not rfl rfl (Jx.pF rfl rfl rfl ?_))
 (refine Jx.move rfl rfl (J.gY rfl rfl rfl ?_))
 (refine Jx.fieldAddr rfl rfl ?_)
 (refine J.gY rfl rfl rfl ?_)
 (refine Jx.load rfl 0 rfl rfl rfl ?_)
 (refine J.gY rfl rfl rfl ?_)
 (refine J.call (c5) rfl (evs_args rfl) rfl ?_; rintro _ _ ⟨rfl, rfl⟩; simp only [la1, la2, la3])
 (refine J.gY rfl rfl rfl ?_)
 (refine Jx.not rfl rfl (Jx.pF rfl rfl rfl ?_))
 (refine Jx.move rfl rfl (J.gY rfl rfl rfl ?_))
 (refine Jx.fieldAddr rfl rfl ?_)
 (refine J.gY rfl rfl rfl ?_)
 (refine Jx.loadAg rfl 0 rfl rfl rfl rfl ?_)
 (refine J.gY rfl rfl rfl ?_)
 (refine J.call (c6) rfl (evs_args rfl) rfl ?_; rintro _ _ ⟨rfl, rfl⟩; simp only [la1, la2, la3])
 (refine J.gY rfl rfl rfl ?_)
 (refine Jx.not rfl rfl (J.gY rfl rfl rfl ?_))
 (refine Jx.move rfl rfl (J.gY rfl rfl rfl ?_))
 (refine Jx.move rfl rfl (J.gY rfl rfl rfl ?_))
 (refine Jx.neqI rfl rfl rfl (J.gY rfl rfl rfl ?_))
 (refine Jx.pT rfl rfl rfl ?_)
 (refine Jx.pF rfl rfl rfl ?_)
 (refine Jx.move rfl rfl (J.gN rfl rfl rfl rfl ?_))
 (refine J.gN rfl rfl rfl rfl ?_)
 (refine J.gN rfl rfl rfl rfl ?_)
 (refine J.gN rfl rfl rfl rfl ?_)
 (refine Jx.pT rfl rfl rfl ?_)
 (refine Jx.move rfl rfl (J.gN rfl rfl rfl rfl ?_))
 (refine J.gN rfl rfl rfl rfl ?_)
 (refine J.gN rfl rfl rfl rfl ?_)
 (refine J.gN rfl rfl rfl rfl ?_)
 (refine Jx.pT rfl rfl rfl ?_)
 (refine J.nil (N.seq (W.cT rfl ?_)))
 (refine W.seq (W.region (Jx.assign rfl rfl (J.nil (N.seq (W.ret (N.noGotoRet ?_)))))))
 (refine id ?_; rotate_left))
                  exact N.retD (rs := [.tmp 2]) (L1 := []) rfl (.tmp rfl .nil) (List.nil_sublist _) ⟨rfl, rfl⟩
              | true =>
                rw [a7] at c3 hx
                cases a5 : textsB x.nodes with
                | false =>
                  rw [a5] at c7
                  by_cases k5 : x.code = 0
                  · focus (
 (refine W.seq (W.region ?_))
 (refine J.boxAg rfl rfl ?_; intro b')
 (refine Jx.assign rfl rfl (J.nil (N.seq (W.seq (W.seq (W.region (Jx.fieldAddr rfl rfl ?_)))))))
 (refine Jx.load rfl 0 rfl rfl rfl ?_)
 (refine Jx.lssI rfl rfl rfl (Jx.move rfl rfl (J.gY rfl rfl rfl ?_)))
 (refine Jx.fieldAddr rfl rfl ?_)
 (refine J.gY rfl rfl rfl ?_)
 (refine Jx.load rfl 0 rfl rfl rfl ?_)
 (refine J.gY rfl rfl rfl ?_)
 (refine Jx.gtrI rfl rfl rfl (Jx.pF rfl rfl rfl ?_))
 (refine Jx.move rfl rfl (J.gY rfl rfl rfl ?_))
 (refine Jx.fieldAddr rfl rfl ?_)
 (refine J.gY rfl rfl rfl ?_)
 (refine Jx.load rfl 0 rfl rfl rfl ?_)
 (refine J.gY rfl rfl rfl ?_)
 (refine J.call (c1) rfl (evs_args rfl) rfl ?_; rintro _ _ ⟨rfl, rfl⟩; simp only [la1, la2, la3])
 (refine J.gY rfl rfl rfl ?_)
 (refine Jx.not rfl rfl (Jx.pF rfl rfl rfl ?_))
 (refine Jx.move rfl rfl (J.gY rfl rfl rfl ?_))
 (refine Jx.fieldAddr rfl rfl ?_)
 (refine J.gY rfl rfl rfl ?_)
 (refine Jx.load rfl 0 rfl rfl rfl ?_)
 (refine J.gY rfl rfl rfl ?_)
 (refine Jx.neqI rfl rfl rfl (J.gY rfl rfl rfl ?_))
 (refine Jx.move rfl rfl (J.gN rfl rfl rfl rfl ?_))
 (refine J.gN rfl rfl rfl rfl ?_)
 (refine J.gN rfl rfl rfl rfl ?_)
 (refine J.gY rfl rfl rfl ?_)
 (refine Jx.pF rfl rfl rfl ?_)
 (refine Jx.pF rfl rfl rfl ?_)
 (refine J.nil (N.seq (W.cF rfl ?_)))
 (refine W.skip (N.seq (W.seq (W.region (Jx.fieldAddr rfl rfl ?_)))))
 (refine Jx.loadAg rfl 0 rfl rfl rfl rfl ?_)
 (refine J.call (c3) rfl (evs_args rfl) rfl ?_; rintro _ _ ⟨rfl, rfl⟩; simp only [la1, la2, la3])
 (refine Jx.move rfl rfl (Jx.extract rfl rfl rfl ?_))
 (refine Jx.extract rfl rfl rfl ?_)
 (refine Jx.assign rfl rfl (Jx.assign rfl rfl (J.nil (N.seq (W.seq (W.seq (W.region (Jx.fieldAddr rfl rfl ?_))))))))
 (refine Jx.load rfl 0 rfl rfl rfl ?_)
 (refine Jx.lenSl rfl rfl ?_)
 (refine Jx.gtrI rfl rfl rfl (Jx.move rfl rfl (J.gY rfl rfl rfl ?_)))
 (refine Jx.fieldAddr rfl rfl ?_)
 (refine J.gY rfl rfl rfl ?_)
 (refine Jx.load rfl 0 rfl rfl rfl ?_)
 (refine J.gY rfl rfl rfl ?_)
 (refine J.call (c4) rfl (evs_args rfl) rfl ?_; rintro _ _ ⟨rfl, rfl⟩; simp only [la1, la2, la3])
 (refine J.gY rfl rfl rfl ?_)
 (refine Jx.not rfl rfl (Jx.pF rfl rfl rfl ?_))
 (refine Jx.move rfl rfl (J.gY rfl rfl rfl ?_))
 (refine Jx.fieldAddr rfl rfl ?_)
 (refine J.gY rfl rfl rfl ?_)
 (refine Jx.load rfl 0 rfl rfl rfl ?_)
 (refine J.gY rfl rfl rfl ?_)
 (refine J.call (c5) rfl (evs_args rfl) rfl ?_; rintro _ _ ⟨rfl, rfl⟩; simp only [la1, la2, la3])
 (refine J.gY rfl rfl rfl ?_)
 (refine Jx.not rfl rfl (Jx.pF rfl rfl rfl ?_))
 (refine Jx.move rfl rfl (J.gY rfl rfl rfl ?_))
 (refine Jx.fieldAddr rfl rfl ?_)
 (refine J.gY rfl rfl rfl ?_)
 (refine Jx.loadAg rfl 0 rfl rfl rfl rfl ?_)
 (refine J.gY rfl rfl rfl ?_)
 (refine J.call (c6) rfl (evs_args rfl) rfl ?_; rintro _ _ ⟨rfl, rfl⟩; simp only [la1, la2, la3])
 (refine J.gY rfl rfl rfl ?_)
 (refine Jx.not rfl rfl (J.gY rfl rfl rfl ?_))
 (refine Jx.move rfl rfl (J.gY rfl rfl rfl ?_))
 (refine Jx.move rfl rfl (J.gY rfl rfl rfl ?_))
 (refine Jx.neqI rfl rfl rfl (J.gY rfl rfl rfl ?_))
 (refine Jx.pT rfl rfl rfl ?_)
 (refine Jx.pF rfl rfl rfl ?_)
 (refine Jx.move rfl rfl (J.gY rfl rfl rfl ?_))
 (refine Jx.fieldAddr rfl rfl ?_)
 (refine J.gY rfl rfl rfl ?_)
 (refine Jx.load rfl 0 rfl rfl rfl ?_)
 (refine J.gY rfl rfl rfl ?_)
 (refine J.call (c7) rfl (evs_args rfl) rfl ?_; rintro _ _ ⟨rfl, rfl⟩; simp only [la1, la2, la3])
 (refine J.gY rfl rfl rfl ?_)
 (refine Jx.not rfl rfl (Jx.pF rfl rfl rfl ?_))
 (refine Jx.move rfl rfl (J.gN rfl rfl rfl rfl ?_))
 (refine J.gN rfl rfl rfl rfl ?_)
 (refine J.gN rfl rfl rfl rfl ?_)
 (refine J.gN rfl rfl rfl rfl ?_)
 (refine Jx.pT rfl rfl rfl ?_)
 (refine J.nil (N.seq (W.cT rfl ?_)))
 (refine W.seq (W.region (Jx.assign rfl rfl (J.nil (N.seq (W.ret (N.noGotoRet ?_)))))))
 (refine id ?_; rotate_left))
                    exact N.retD (rs := [.tmp 2]) (L1 := []) rfl (.tmp rfl .nil) (List.nil_sublist _) ⟨rfl, rfl⟩
                  · have k6 : aloneB x = true := by rcases k4 with h | h; exact absurd h k5; exact h
                    rw [k6] at c2
                    focus (
 (refine W.seq (W.region ?_))
 (refine J.boxAg rfl rfl ?_; intro b')
 (refine Jx.assign rfl rfl (J.nil (N.seq (W.seq (W.seq (W.region (Jx.fieldAddr rfl rfl ?_)))))))
 (refine Jx.load rfl 0 rfl rfl rfl ?_)
 (refine Jx.lssI rfl rfl rfl (Jx.move rfl rfl (J.gY rfl rfl rfl ?_)))
 (refine Jx.fieldAddr rfl rfl ?_)
 (refine J.gY rfl rfl rfl ?_)
 (refine Jx.load rfl 0 rfl rfl rfl ?_)
 (refine J.gY rfl rfl rfl ?_)
 (refine Jx.gtrI rfl rfl rfl (Jx.pF rfl rfl rfl ?_))
 (refine Jx.move rfl rfl (J.gY rfl rfl rfl ?_))
 (refine Jx.fieldAddr rfl rfl ?_)
 (refine J.gY rfl rfl rfl ?_)
 (refine Jx.load rfl 0 rfl rfl rfl ?_)
 (refine J.gY rfl rfl rfl ?_)
 (refine J.call (c1) rfl (evs_args rfl) rfl ?_; rintro _ _ ⟨rfl, rfl⟩; simp only [la1, la2, la3])
 (refine J.gY rfl rfl rfl ?_)
 (refine Jx.not rfl rfl (Jx.pF rfl rfl rfl ?_))
 (refine Jx.move rfl rfl (J.gY rfl rfl rfl ?_))
 (refine Jx.fieldAddr rfl rfl ?_)
 (refine J.gY rfl rfl rfl ?_)
 (refine Jx.load rfl 0 rfl rfl rfl ?_)
 (refine J.gY rfl rfl rfl ?_)
 (refine Jx.neqI rfl rfl rfl (J.gY rfl rfl rfl ?_))
 (refine Jx.move rfl rfl (J.gY rfl rfl rfl ?_))
 (refine Jx.loadAll rfl 0 rfl rfl rfl ?_)
 (refine J.gY rfl rfl rfl ?_)
 (refine J.call (c2) rfl (evs_args rfl) rfl ?_; rintro _ _ ⟨rfl, rfl⟩; simp only [la1, la2, la3])
 (refine J.gY rfl rfl rfl ?_)
 (refine Jx.not rfl rfl (J.gY rfl rfl rfl ?_))
 (refine Jx.pT rfl rfl rfl ?_)
 (refine Jx.pF rfl rfl rfl ?_)
 (refine J.nil (N.seq (W.cF rfl ?_)))
 (refine W.skip (N.seq (W.seq (W.region (Jx.fieldAddr rfl rfl ?_)))))
 (refine Jx.loadAg rfl 0 rfl rfl rfl rfl ?_)
 (refine J.call (c3) rfl (evs_args rfl) rfl ?_; rintro _ _ ⟨rfl, rfl⟩; simp only [la1, la2, la3])
 (refine Jx.move rfl rfl (Jx.extract rfl rfl rfl ?_))
 (refine Jx.extract rfl rfl rfl ?_)
 (refine Jx.assign rfl rfl (Jx.assign rfl rfl (J.nil (N.seq (W.seq (W.seq (W.region (Jx.fieldAddr rfl rfl ?_))))))))
 (refine Jx.load rfl 0 rfl rfl rfl ?_)
 (refine Jx.lenSl rfl rfl ?_)
 (refine Jx.gtrI rfl rfl rfl (Jx.move rfl rfl (J.gY rfl rfl rfl ?_)))
 (refine Jx.fieldAddr rfl rfl ?_)
 (refine J.gY rfl rfl rfl ?_)
 (refine Jx.load rfl 0 rfl rfl rfl ?_)
 (refine J.gY rfl rfl rfl ?_)
 (refine J.call (c4) rfl (evs_args rfl) rfl ?_; rintro _ _ ⟨rfl, rfl⟩; simp only [la1, la2, la3])
 (refine J.gY rfl rfl rfl ?_)
 (refine Jx.not rfl rfl (Jx.pF rfl rfl rfl ?_))
 (refine Jx.move rfl rfl (J.gY rfl rfl rfl ?_))
 (refine Jx.fieldAddr rfl rfl ?_)
 (refine J.gY rfl rfl rfl ?_)
 (refine Jx.load rfl 0 rfl rfl rfl ?_)
 (refine J.gY rfl rfl rfl ?_)
 (refine J.call (c5) rfl (evs_args rfl) rfl ?_; rintro _ _ ⟨rfl, rfl⟩; simp only [la1, la2, la3])
 (refine J.gY rfl rfl rfl ?_)
 (refine Jx.not rfl rfl (Jx.pF rfl rfl rfl ?_))
 (refine Jx.move rfl rfl (J.gY rfl rfl rfl ?_))
 (refine Jx.fieldAddr rfl rfl ?_)
 (refine J.gY rfl rfl rfl ?_)
 (refine Jx.loadAg rfl 0 rfl rfl rfl rfl ?_)
 (refine J.gY rfl rfl rfl ?_)
 (refine J.call (c6) rfl (evs_args rfl) rfl ?_; rintro _ _ ⟨rfl, rfl⟩; simp only [la1, la2, la3])
 (refine J.gY rfl rfl rfl ?_)
 (refine Jx.not rfl rfl (J.gY rfl rfl rfl ?_))
 (refine Jx.move rfl rfl (J.gY rfl rfl rfl ?_))
 (refine Jx.move rfl rfl (J.gY rfl rfl rfl ?_))
 (refine Jx.neqI rfl rfl rfl (J.gY rfl rfl rfl ?_))
 (refine Jx.pT rfl rfl rfl ?_)
 (refine Jx.pF rfl rfl rfl ?_)
 (refine Jx.move rfl rfl (J.gY rfl rfl rfl ?_))
 (refine Jx.fieldAddr rfl rfl ?_)
 (refine J.gY rfl rfl rfl ?_)
 (refine Jx.load rfl 0 rfl rfl rfl ?_)
 (refine J.gY rfl rfl rfl ?_)
 (refine J.call (c7) rfl (evs_args rfl) rfl ?_; rintro _ _ ⟨rfl, rfl⟩; simp only [la1, la2, la3])
 (refine J.gY rfl rfl rfl ?_)
 (refine Jx.not rfl rfl (Jx.pF rfl rfl rfl ?_))
 (refine Jx.move rfl rfl (J.gN rfl rfl rfl rfl ?_))
 (refine J.gN rfl rfl rfl rfl ?_)
 (refine J.gN rfl rfl rfl rfl ?_)
 (refine J.gN rfl rfl rfl rfl ?_)
 (refine Jx.pT rfl rfl rfl ?_)
 (refine J.nil (N.seq (W.cT rfl ?_)))
 (refine W.seq (W.region (Jx.assign rfl rfl (J.nil (N.seq (W.ret (N.noGotoRet ?_)))))))
 (refine id ?_; rotate_left))
                    exact N.retD (rs := [.tmp 2]) (L1 := []) rfl (.tmp rfl .nil) (List.nil_sublist _) ⟨rfl, rfl⟩
                | true =>
                  rw [a5] at c7 hx
                  have a6 : pageB x.items x.pnext x.pnodes = false := by simpa using hx
                  rw [a6] at c8
                  by_cases k5 : x.code = 0
                  · focus (
 (refine W.seq (W.region ?_))
 (refine J.boxAg rfl rfl ?_; intro b')
 (refine Jx.assign rfl rfl (J.nil (N.seq (W.seq (W.seq (W.region (Jx.fieldAddr rfl rfl ?_)))))))
 (refine Jx.load rfl 0 rfl rfl rfl ?_)
 (refine Jx.lssI rfl rfl rfl (Jx.move rfl rfl (J.gY rfl rfl rfl ?_)))
 (refine Jx.fieldAddr rfl rfl ?_)
 (refine J.gY rfl rfl rfl ?_)
 (refine Jx.load rfl 0 rfl rfl rfl ?_)
 (refine J.gY rfl rfl rfl ?_)
 (refine Jx.gtrI rfl rfl rfl (Jx.pF rfl rfl rfl ?_))
 (refine Jx.move rfl rfl (J.gY rfl rfl rfl ?_))
 (refine Jx.fieldAddr rfl rfl ?_)
 (refine J.gY rfl rfl rfl ?_)
 (refine Jx.load rfl 0 rfl rfl rfl ?_)
 (refine J.gY rfl rfl rfl ?_)
 (refine J.call (c1) rfl (evs_args rfl) rfl ?_; rintro _ _ ⟨rfl, rfl⟩; simp only [la1, la2, la3])
 (refine J.gY rfl rfl rfl ?_)
 (refine Jx.not rfl rfl (Jx.pF rfl rfl rfl ?_))
 (refine Jx.move rfl rfl (J.gY rfl rfl rfl ?_))
 (refine Jx.fieldAddr rfl rfl ?_)
 (refine J.gY rfl rfl rfl ?_)
 (refine Jx.load rfl 0 rfl rfl rfl ?_)
 (refine J.gY rfl rfl rfl ?_)
 (refine Jx.neqI rfl rfl rfl (J.gY rfl rfl rfl ?_))
 (refine Jx.move rfl rfl (J.gN rfl rfl rfl rfl ?_))
 (refine J.gN rfl rfl rfl rfl ?_)
 (refine J.gN rfl rfl rfl rfl ?_)
 (refine J.gY rfl rfl rfl ?_)
 (refine Jx.pF rfl rfl rfl ?_)
 (refine Jx.pF rfl rfl rfl ?_)
 (refine J.nil (N.seq (W.cF rfl ?_)))
 (refine W.skip (N.seq (W.seq (W.region (Jx.fieldAddr rfl rfl ?_)))))
 (refine Jx.loadAg rfl 0 rfl rfl rfl rfl ?_)
 (refine J.call (c3) rfl (evs_args rfl) rfl ?_; rintro _ _ ⟨rfl, rfl⟩; simp only [la1, la2, la3])
 (refine Jx.move rfl rfl (Jx.extract rfl rfl rfl ?_))
 (refine Jx.extract rfl rfl rfl ?_)
 (refine Jx.assign rfl rfl (Jx.assign rfl rfl (J.nil (N.seq (W.seq (W.seq (W.region (Jx.fieldAddr rfl rfl ?_))))))))
 (refine Jx.load rfl 0 rfl rfl rfl ?_)
 (refine Jx.lenSl rfl rfl ?_)
 (refine Jx.gtrI rfl rfl rfl (Jx.move rfl rfl (J.gY rfl rfl rfl ?_)))
 (refine Jx.fieldAddr rfl rfl ?_)
 (refine J.gY rfl rfl rfl ?_)
 (refine Jx.load rfl 0 rfl rfl rfl ?_)
 (refine J.gY rfl rfl rfl ?_)
 (refine J.call (c4) rfl (evs_args rfl) rfl ?_; rintro _ _ ⟨rfl, rfl⟩; simp only [la1, la2, la3])
 (refine J.gY rfl rfl rfl ?_)
 (refine Jx.not rfl rfl (Jx.pF rfl rfl rfl ?_))
 (refine Jx.move rfl rfl (J.gY rfl rfl rfl ?_))
 (refine Jx.fieldAddr rfl rfl ?_)
 (refine J.gY rfl rfl rfl ?_)
 (refine Jx.load rfl 0 rfl rfl rfl ?_)
 (refine J.gY rfl rfl rfl ?_)
 (refine J.call (c5) rfl (evs_args rfl) rfl ?_; rintro _ _ ⟨rfl, rfl⟩; simp only [la1, la2, la3])
 (refine J.gY rfl rfl rfl ?_)
 (refine Jx.not rfl rfl (Jx.pF rfl rfl rfl ?_))
 (refine Jx.move rfl rfl (J.gY rfl rfl rfl ?_))
 (refine Jx.fieldAddr rfl rfl ?_)
 (refine J.gY rfl rfl rfl ?_)
 (refine Jx.loadAg rfl 0 rfl rfl rfl rfl ?_)
 (refine J.gY rfl rfl rfl ?_)
 (refine J.call (c6) rfl (evs_args rfl) rfl ?_; rintro _ _ ⟨rfl, rfl⟩; simp only [la1, la2, la3])
 (refine J.gY rfl rfl rfl ?_)
 (refine Jx.not rfl rfl (J.gY rfl rfl rfl ?_))
 (refine Jx.move rfl rfl (J.gY rfl rfl rfl ?_))
 (refine Jx.move rfl rfl (J.gY rfl rfl rfl ?_))
 (refine Jx.neqI rfl rfl rfl (J.gY rfl rfl rfl ?_))
 (refine Jx.pT rfl rfl rfl ?_)
 (refine Jx.pF rfl rfl rfl ?_)
 (refine Jx.move rfl rfl (J.gY rfl rfl rfl ?_))
 (refine Jx.fieldAddr rfl rfl ?_)
 (refine J.gY rfl rfl rfl ?_)
 (refine Jx.load rfl 0 rfl rfl rfl ?_)
 (refine J.gY rfl rfl rfl ?_)
 (refine J.call (c7) rfl (evs_args rfl) rfl ?_; rintro _ _ ⟨rfl, rfl⟩; simp only [la1, la2, la3])
 (refine J.gY rfl rfl rfl ?_)
 (refine Jx.not rfl rfl (Jx.pF rfl rfl rfl ?_))
 (refine Jx.move rfl rfl (J.gY rfl rfl rfl ?_))
 (refine Jx.fieldAddr rfl rfl ?_)
 (refine J.gY rfl rfl rfl ?_)
 (refine Jx.loadAg rfl 0 rfl rfl rfl rfl ?_)
 (refine J.gY rfl rfl rfl ?_)
 (refine J.call (c8) rfl (evs_args rfl) rfl ?_; rintro _ _ ⟨rfl, rfl⟩; simp only [la1, la2, la3])
 (refine J.gY rfl rfl rfl ?_)
 (refine Jx.not rfl rfl (Jx.pF rfl rfl rfl ?_))
 (refine J.nil (N.seq (W.cT rfl ?_)))
 (refine W.seq (W.region (Jx.assign rfl rfl (J.nil (N.seq (W.ret (N.noGotoRet ?_)))))))
 (refine id ?_; rotate_left))
                    exact N.retD (rs := [.tmp 2]) (L1 := []) rfl (.tmp rfl .nil) (List.nil_sublist _) ⟨rfl, rfl⟩
                  · have k6 : aloneB x = true := by rcases k4 with h | h; exact absurd h k5; exact h
                    rw [k6] at c2
                    focus (
 (refine W.seq (W.region ?_))
 (refine J.boxAg rfl rfl ?_; intro b')
 (refine Jx.assign rfl rfl (J.nil (N.seq (W.seq (W.seq (W.region (Jx.fieldAddr rfl rfl ?_)))))))
 (refine Jx.load rfl 0 rfl rfl rfl ?_)
 (refine Jx.lssI rfl rfl rfl (Jx.move rfl rfl (J.gY rfl rfl rfl ?_)))
 (refine Jx.fieldAddr rfl rfl ?_)
 (refine J.gY rfl rfl rfl ?_)
 (refine Jx.load rfl 0 rfl rfl rfl ?_)
 (refine J.gY rfl rfl rfl ?_)
 (refine Jx.gtrI rfl rfl rfl (Jx.pF rfl rfl rfl ?_))
 (refine Jx.move rfl rfl (J.gY rfl rfl rfl ?_))
 (refine Jx.fieldAddr rfl rfl ?_)
 (refine J.gY rfl rfl rfl ?_)
 (refine Jx.load rfl 0 rfl rfl rfl ?_)
 (refine J.gY rfl rfl rfl ?_)
 (refine J.call (c1) rfl (evs_args rfl) rfl ?_; rintro _ _ ⟨rfl, rfl⟩; simp only [la1, la2, la3])
 (refine J.gY rfl rfl rfl ?_)
 (refine Jx.not rfl rfl (Jx.pF rfl rfl rfl ?_))
 (refine Jx.move rfl rfl (J.gY rfl rfl rfl ?_))
 (refine Jx.fieldAddr rfl rfl ?_)
 (refine J.gY rfl rfl rfl ?_)
 (refine Jx.load rfl 0 rfl rfl rfl ?_)
 (refine J.gY rfl rfl rfl ?_)
 (refine Jx.neqI rfl rfl rfl (J.gY rfl rfl rfl ?_))
 (refine Jx.move rfl rfl (J.gY rfl rfl rfl ?_))
 (refine Jx.loadAll rfl 0 rfl rfl rfl ?_)
 (refine J.gY rfl rfl rfl ?_)
 (refine J.call (c2) rfl (evs_args rfl) rfl ?_; rintro _ _ ⟨rfl, rfl⟩; simp only [la1, la2, la3])
 (refine J.gY rfl rfl rfl ?_)
 (refine Jx.not rfl rfl (J.gY rfl rfl rfl ?_))
 (refine Jx.pT rfl rfl rfl ?_)
 (refine Jx.pF rfl rfl rfl ?_)
 (refine J.nil (N.seq (W.cF rfl ?_)))
 (refine W.skip (N.seq (W.seq (W.region (Jx.fieldAddr rfl rfl ?_)))))
 (refine Jx.loadAg rfl 0 rfl rfl rfl rfl ?_)
 (refine J.call (c3) rfl (evs_args rfl) rfl ?_; rintro _ _ ⟨rfl, rfl⟩; simp only [la1, la2, la3])
 (refine Jx.move rfl rfl (Jx.extract rfl rfl rfl ?_))
 (refine Jx.extract rfl rfl rfl ?_)
 (refine Jx.assign rfl rfl (Jx.assign rfl rfl (J.nil (N.seq (W.seq (W.seq (W.region (Jx.fieldAddr rfl rfl ?_))))))))
 (refine Jx.load rfl 0 rfl rfl rfl ?_)
 (refine Jx.lenSl rfl rfl ?_)
 (refine Jx.gtrI rfl rfl rfl (Jx.move rfl rfl (J.gY rfl rfl rfl ?_)))
 (refine Jx.fieldAddr rfl rfl ?_)
 (refine J.gY rfl rfl rfl ?_)
 (refine Jx.load rfl 0 rfl rfl rfl ?_)
 (refine J.gY rfl rfl rfl ?_)
 (refine J.call (c4) rfl (evs_args rfl) rfl ?_; rintro _ _ ⟨rfl, rfl⟩; simp only [la1, la2, la3])
 (refine J.gY rfl rfl rfl ?_)
 (refine Jx.not rfl rfl (Jx.pF rfl rfl rfl ?_))
 (refine Jx.move rfl rfl (J.gY rfl rfl rfl ?_))
 (refine Jx.fieldAddr rfl rfl ?_)
 (refine J.gY rfl rfl rfl ?_)
 (refine Jx.load rfl 0 rfl rfl rfl ?_)
 (refine J.gY rfl rfl rfl ?_)
 (refine J.call (c5) rfl (evs_args rfl) rfl ?_; rintro _ _ ⟨rfl, rfl⟩; simp only [la1, la2, la3])
 (refine J.gY rfl rfl rfl ?_)
 (refine Jx.not rfl rfl (Jx.pF rfl rfl rfl ?_))
 (refine Jx.move rfl rfl (J.gY rfl rfl rfl ?_))
 (refine Jx.fieldAddr rfl rfl ?_)
 (refine J.gY rfl rfl rfl ?_)
 (refine Jx.loadAg rfl 0 rfl rfl rfl rfl ?_)
 (refine J.gY rfl rfl rfl ?_)
 (refine J.call (c6) rfl (evs_args rfl) rfl ?_; rintro _ _ ⟨rfl, rfl⟩; simp only [la1, la2, la3])
 (refine J.gY rfl rfl rfl ?_)
 (refine Jx.not rfl rfl (J.gY rfl rfl rfl ?_))
 (refine Jx.move rfl rfl (J.gY rfl rfl rfl ?_))
 (refine Jx.move rfl rfl (J.gY rfl rfl rfl ?_))
 (refine Jx.neqI rfl rfl rfl (J.gY rfl rfl rfl ?_))
 (refine Jx.pT rfl rfl rfl ?_)
 (refine Jx.pF rfl rfl rfl ?_)
 (refine Jx.move rfl rfl (J.gY rfl rfl rfl ?_))
 (refine Jx.fieldAddr rfl rfl ?_)
 (refine J.gY rfl rfl rfl ?_)
 (refine Jx.load rfl 0 rfl rfl rfl ?_)
 (refine J.gY rfl rfl rfl ?_)
 (refine J.call (c7) rfl (evs_args rfl) rfl ?_; rintro _ _ ⟨rfl, rfl⟩; simp only [la1, la2, la3])
 (refine J.gY rfl rfl rfl ?_)
 (refine Jx.not rfl rfl (Jx.pF rfl rfl rfl ?_))
 (refine Jx.move rfl rfl (J.gY rfl rfl rfl ?_))
 (refine Jx.fieldAddr rfl rfl ?_)
 (refine J.gY rfl rfl rfl ?_)
 (refine Jx.loadAg rfl 0 rfl rfl rfl rfl ?_)
 (refine J.gY rfl rfl rfl ?_)
 (refine J.call (c8) rfl (evs_args rfl) rfl ?_; rintro _ _ ⟨rfl, rfl⟩; simp only [la1, la2, la3])
 (refine J.gY rfl rfl rfl ?_)
 (refine Jx.not rfl rfl (Jx.pF rfl rfl rfl ?_))
 (refine J.nil (N.seq (W.cT rfl ?_)))
 (refine W.seq (W.region (Jx.assign rfl rfl (J.nil (N.seq (W.ret (N.noGotoRet ?_)))))))
 (refine id ?_; rotate_left))
                    exact N.retD (rs := [.tmp 2]) (L1 := []) rfl (.tmp rfl .nil) (List.nil_sublist _) ⟨rfl, rfl⟩
      · have a1' : 64 < (x.heads.length : Int) := by omega
        by_cases k5 : x.code = 0
        · focus (
 (refine W.seq (W.region ?_))
 (refine J.boxAg rfl rfl ?_; intro b')
 (refine Jx.assign rfl rfl (J.nil (N.seq (W.seq (W.seq (W.region (Jx.fieldAddr rfl rfl ?_)))))))
 (refine Jx.load rfl 0 rfl rfl rfl ?_)
 (refine Jx.lssI rfl rfl rfl (Jx.move rfl rfl (J.gY rfl rfl rfl ?_)))
 (refine Jx.fieldAddr rfl rfl ?_)
 (refine J.gY rfl rfl rfl ?_)
 (refine Jx.load rfl 0 rfl rfl rfl ?_)
 (refine J.gY rfl rfl rfl ?_)
 (refine Jx.gtrI rfl rfl rfl (Jx.pF rfl rfl rfl ?_))
 (refine Jx.move rfl rfl (J.gY rfl rfl rfl ?_))
 (refine Jx.fieldAddr rfl rfl ?_)
 (refine J.gY rfl rfl rfl ?_)
 (refine Jx.load rfl 0 rfl rfl rfl ?_)
 (refine J.gY rfl rfl rfl ?_)
 (refine J.call (c1) rfl (evs_args rfl) rfl ?_; rintro _ _ ⟨rfl, rfl⟩; simp only [la1, la2, la3])
 (refine J.gY rfl rfl rfl ?_)
 (refine Jx.not rfl rfl (Jx.pF rfl rfl rfl ?_))
 (refine Jx.move rfl rfl (J.gY rfl rfl rfl ?_))
 (refine Jx.fieldAddr rfl rfl ?_)
 (refine J.gY rfl rfl rfl ?_)
 (refine Jx.load rfl 0 rfl rfl rfl ?_)
 (refine J.gY rfl rfl rfl ?_)
 (refine Jx.neqI rfl rfl rfl (J.gY rfl rfl rfl ?_))
 (refine Jx.move rfl rfl (J.gN rfl rfl rfl rfl ?_))
 (refine J.gN rfl rfl rfl rfl ?_)
 (refine J.gN rfl rfl rfl rfl ?_)
 (refine J.gY rfl rfl rfl ?_)
 (refine Jx.pF rfl rfl rfl ?_)
 (refine Jx.pF rfl rfl rfl ?_)
 (refine J.nil (N.seq (W.cF rfl ?_)))
 (refine W.skip (N.seq (W.seq (W.region (Jx.fieldAddr rfl rfl ?_)))))
 (refine Jx.loadAg rfl 0 rfl rfl rfl rfl ?_)
 (refine J.call (c3) rfl (evs_args rfl) rfl ?_; rintro _ _ ⟨rfl, rfl⟩; simp only [la1, la2, la3])
 (refine Jx.move rfl rfl (Jx.extract rfl rfl rfl ?_))
 (refine Jx.extract rfl rfl rfl ?_)
 (refine Jx.assign rfl rfl (Jx.assign rfl rfl (J.nil (N.seq (W.seq (W.seq (W.region (Jx.fieldAddr rfl rfl ?_))))))))
 (refine Jx.load rfl 0 rfl rfl rfl ?_)
 (refine Jx.lenSl rfl rfl ?_)
 (refine Jx.gtrI rfl rfl rfl (Jx.move rfl rfl (J.gN rfl rfl rfl rfl ?_)))
 (refine J.gN rfl rfl rfl rfl ?_)
 (refine J.gN rfl rfl rfl rfl ?_)
 (refine J.gN rfl rfl rfl rfl ?_)
 (refine Jx.pT rfl rfl rfl ?_)
 (refine Jx.move rfl rfl (J.gN rfl rfl rfl rfl ?_))
 (refine J.gN rfl rfl rfl rfl ?_)
 (refine J.gN rfl rfl rfl rfl ?_)
 (refine J.gN rfl rfl rfl rfl ?_)
 (refine Jx.pT rfl rfl rfl ?_)
 (refine Jx.move rfl rfl (J.gN rfl rfl rfl rfl ?_))
 (refine J.gN rfl rfl rfl rfl ?_)
 (refine J.gN rfl rfl rfl rfl ?_)
 (refine J.gN rfl rfl rfl rfl ?_)
 (refine J.gN rfl rfl rfl rfl ?_)
 (refine J.guardSkip rfl rfl rfl rfl ?_)
 (refine J.guardSkip rfl rfl rfl rfl ?_)
 (refine J.gN rfl rfl rfl rfl ?_)
 (refine Jx.pT rfl rfl rfl ?_)
 (refine Jx.move rfl rfl (J.gN rfl rfl rfl rfl ?_))
 (refine J.gN rfl rfl rfl rfl ?_)
 (refine J.gN rfl rfl rfl rfl ?_)
 (refine J.gN rfl rfl rfl rfl ?_)
 (refine Jx.pT rfl rfl rfl ?_)
 (refine Jx.move rfl rfl (J.gN rfl rfl rfl rfl ?_))
 (refine J.gN rfl rfl rfl rfl ?_)
 (refine J.gN rfl rfl rfl rfl ?_)
 (refine J.gN rfl rfl rfl rfl ?_)
 (refine Jx.pT rfl rfl rfl ?_)
 (refine J.nil (N.seq (W.cT rfl ?_)))
 (refine W.seq (W.region (Jx.assign rfl rfl (J.nil (N.seq (W.ret (N.noGotoRet ?_)))))))
 (refine id ?_; rotate_left))
          exact N.retD (rs := [.tmp 2]) (L1 := []) rfl (.tmp rfl .nil) (List.nil_sublist _) ⟨rfl, rfl⟩
        · have k6 : aloneB x = true := by rcases k4 with h | h; exact absurd h k5; exact h
          rw [k6] at c2
          focus (
 (refine W.seq (W.region ?_))
 (refine J.boxAg rfl rfl ?_; intro b')
 (refine Jx.assign rfl rfl (J.nil (N.seq (W.seq (W.seq (W.region (Jx.fieldAddr rfl rfl ?_)))))))
 (refine Jx.load rfl 0 rfl rfl rfl ?_)
 (refine Jx.lssI rfl rfl rfl (Jx.move rfl rfl (J.gY rfl rfl rfl ?_)))
 (refine Jx.fieldAddr rfl rfl ?_)
 (refine J.gY rfl rfl rfl ?_)
 (refine Jx.load rfl 0 rfl rfl rfl ?_)
 (refine J.gY rfl rfl rfl ?_)
 (refine Jx.gtrI rfl rfl rfl (Jx.pF rfl rfl rfl ?_))
 (refine Jx.move rfl rfl (J.gY rfl rfl rfl ?_))
 (refine Jx.fieldAddr rfl rfl ?_)
 (refine J.gY rfl rfl rfl ?_)
 (refine Jx.load rfl 0 rfl rfl rfl ?_)
 (refine J.gY rfl rfl rfl ?_)
 (refine J.call (c1) rfl (evs_args rfl) rfl ?_; rintro _ _ ⟨rfl, rfl⟩; simp only [la1, la2, la3])
 (refine J.gY rfl rfl rfl ?_)
 (refine Jx.not rfl rfl (Jx.pF rfl rfl rfl ?_))
 (refine Jx.move rfl rfl (J.gY rfl rfl rfl ?_))
 (refine Jx.fieldAddr rfl rfl ?_)
 (refine J.gY rfl rfl rfl ?_)
 (refine Jx.load rfl 0 rfl rfl rfl ?_)
 (refine J.gY rfl rfl rfl ?_)
 (refine Jx.neqI rfl rfl rfl (J.gY rfl rfl rfl ?_))
 (refine Jx.move rfl rfl (J.gY rfl rfl rfl ?_))
 (refine Jx.loadAll rfl 0 rfl rfl rfl ?_)
 (refine J.gY rfl rfl rfl ?_)
 (refine J.call (c2) rfl (evs_args rfl) rfl ?_; rintro _ _ ⟨rfl, rfl⟩; simp only [la1, la2, la3])
 (refine J.gY rfl rfl rfl ?_)
 (refine Jx.not rfl rfl (J.gY rfl rfl rfl ?_))
 (refine Jx.pT rfl rfl rfl ?_)
 (refine Jx.pF rfl rfl rfl ?_)
 (refine J.nil (N.seq (W.cF rfl ?_)))
 (refine W.skip (N.seq (W.seq (W.region (Jx.fieldAddr rfl rfl ?_)))))
 (refine Jx.loadAg rfl 0 rfl rfl rfl rfl ?_)
 (refine J.call (c3) rfl (evs_args rfl) rfl ?_; rintro _ _ ⟨rfl, rfl⟩; simp only [la1, la2, la3])
 (refine Jx.move rfl rfl (Jx.extract rfl rfl rfl ?_))
 (refine Jx.extract rfl rfl rfl ?_)
 (refine Jx.assign rfl rfl (Jx.assign rfl rfl (J.nil (N.seq (W.seq (W.seq (W.region (Jx.fieldAddr rfl rfl ?_))))))))
 (refine Jx.load rfl 0 rfl rfl rfl ?_)
 (refine Jx.lenSl rfl rfl ?_)
 (refine Jx.gtrI rfl rfl rfl (Jx.move rfl rfl (J.gN rfl rfl rfl rfl ?_)))
 (refine J.gN rfl rfl rfl rfl ?_)
 (refine J.gN rfl rfl rfl rfl ?_)
 (refine J.gN rfl rfl rfl rfl ?_)
 (refine Jx.pT rfl rfl rfl ?_)
 (refine Jx.move rfl rfl (J.gN rfl rfl rfl rfl ?_))
 (refine J.gN rfl rfl rfl rfl ?_)
 (refine J.gN rfl rfl rfl rfl ?_)
 (refine J.gN rfl rfl rfl rfl ?_)
 (refine Jx.pT rfl rfl rfl ?_)
 (refine Jx.move rfl rfl (J.gN rfl rfl rfl rfl ?_))
 (refine J.gN rfl rfl rfl rfl ?_)
 (refine J.gN rfl rfl rfl rfl ?_)
 (refine J.gN rfl rfl rfl rfl ?_)
 (refine J.gN rfl rfl rfl rfl ?_)
 (refine J.guardSkip rfl rfl rfl rfl ?_)
 (refine J.guardSkip rfl rfl rfl rfl ?_)
 (refine J.gN rfl rfl rfl rfl ?_)
 (refine Jx.pT rfl rfl rfl ?_)
 (refine Jx.move rfl rfl (J.gN rfl rfl rfl rfl ?_))
 (refine J.gN rfl rfl rfl rfl ?_)
 (refine J.gN rfl rfl rfl rfl ?_)
 (refine J.gN rfl rfl rfl rfl ?_)
 (refine Jx.pT rfl rfl rfl ?_)
 (refine Jx.move rfl rfl (J.gN rfl rfl rfl rfl ?_))
 (refine J.gN rfl rfl rfl rfl ?_)
 (refine J.gN rfl rfl rfl rfl ?_)
 (refine J.gN rfl rfl rfl rfl ?_)
 (refine Jx.pT rfl rfl rfl ?_)
 (refine J.nil (N.seq (W.cT rfl ?_)))
 (refine W.seq (W.region (Jx.assign rfl rfl (J.nil (N.seq (W.ret (N.noGotoRet ?_)))))))
 (refine id ?_; rotate_left))
          exact N.retD (rs := [.tmp 2]) (L1 := []) rfl (.tmp rfl .nil) (List.nil_sublist _) ⟨rfl, rfl⟩
    | true =>
      simp only [twoA, Bool.and_eq_true, decide_eq_true_eq] at h2
      obtain ⟨⟨⟨⟨⟨a1, a2⟩, a3⟩, a4⟩, a5⟩, a6⟩ := h2
      have a1' : ¬ 64 < (x.heads.length : Int) := by omega
      rw [a2] at c4
      rw [a3] at c5
      rw [a5] at c7
      rw [a6] at c8
      have hcert : (bareCt x.cert = true) ∨ (bareCt x.cert = false ∧ fineCt x.cert = true) := by
        cases hb : bareCt x.cert with
        | true => exact .inl rfl
        | false => rw [hb] at a4; exact .inr ⟨rfl, by simpa using a4⟩
      rcases hcert with hb | ⟨hb, hg⟩
      · rw [hb] at c6
        by_cases k5 : x.code = 0
        · focus (
 (refine W.seq (W.region ?_))
 (refine J.boxAg rfl rfl ?_; intro b')
 (refine Jx.assign rfl rfl (J.nil (N.seq (W.seq (W.seq (W.region (Jx.fieldAddr rfl rfl ?_)))))))
 (refine Jx.load rfl 0 rfl rfl rfl ?_)
 (refine Jx.lssI rfl rfl rfl (Jx.move rfl rfl (J.gY rfl rfl rfl ?_)))
 (refine Jx.fieldAddr rfl rfl ?_)
 (refine J.gY rfl rfl rfl ?_)
 (refine Jx.load rfl 0 rfl rfl rfl ?_)
 (refine J.gY rfl rfl rfl ?_)
 (refine Jx.gtrI rfl rfl rfl (Jx.pF rfl rfl rfl ?_))
 (refine Jx.move rfl rfl (J.gY rfl rfl rfl ?_))
 (refine Jx.fieldAddr rfl rfl ?_)
 (refine J.gY rfl rfl rfl ?_)
 (refine Jx.load rfl 0 rfl rfl rfl ?_)
 (refine J.gY rfl rfl rfl ?_)
 (refine J.call (c1) rfl (evs_args rfl) rfl ?_; rintro _ _ ⟨rfl, rfl⟩; simp only [la1, la2, la3])
 (refine J.gY rfl rfl rfl ?_)
 (refine Jx.not rfl rfl (Jx.pF rfl rfl rfl ?_))
 (refine Jx.move rfl rfl (J.gY rfl rfl rfl ?_))
 (refine Jx.fieldAddr rfl rfl ?_)
 (refine J.gY rfl rfl rfl ?_)
 (refine Jx.load rfl 0 rfl rfl rfl ?_)
 (refine J.gY rfl rfl rfl ?_)
 (refine Jx.neqI rfl rfl rfl (J.gY rfl rfl rfl ?_))
 (refine Jx.move rfl rfl (J.gN rfl rfl rfl rfl ?_))
 (refine J.gN rfl rfl rfl rfl ?_)
 (refine J.gN rfl rfl rfl rfl ?_)
 (refine J.gY rfl rfl rfl ?_)
 (refine Jx.pF rfl rfl rfl ?_)
 (refine Jx.pF rfl rfl rfl ?_)
 (refine J.nil (N.seq (W.cF rfl ?_)))
 (refine W.skip (N.seq (W.seq (W.region (Jx.fieldAddr rfl rfl ?_)))))
 (refine Jx.loadAg rfl 0 rfl rfl rfl rfl ?_)
 (refine J.call (c3) rfl (evs_args rfl) rfl ?_; rintro _ _ ⟨rfl, rfl⟩; simp only [la1, la2, la3])
 (refine Jx.move rfl rfl (Jx.extract rfl rfl rfl ?_))
 (refine Jx.extract rfl rfl rfl ?_)
 (refine Jx.assign rfl rfl (Jx.assign rfl rfl (J.nil (N.seq (W.seq (W.seq (W.region (Jx.fieldAddr rfl rfl ?_))))))))
 (refine Jx.load rfl 0 rfl rfl rfl ?_)
 (refine Jx.lenSl rfl rfl ?_)
 (refine Jx.gtrI rfl rfl rfl (Jx.move rfl rfl (J.gY rfl rfl rfl ?_)))
 (refine Jx.fieldAddr rfl rfl ?_)
 (refine J.gY rfl rfl rfl ?_)
 (refine Jx.load rfl 0 rfl rfl rfl ?_)
 (refine J.gY rfl rfl rfl ?_)
 (refine J.call (c4) rfl (evs_args rfl) rfl ?_; rintro _ _ ⟨rfl, rfl⟩; simp only [la1, la2, la3])
 (refine J.gY rfl rfl rfl ?_)
 (refine Jx.not rfl rfl (Jx.pF rfl rfl rfl ?_))
 (refine Jx.move rfl rfl (J.gY rfl rfl rfl ?_))
 (refine Jx.fieldAddr rfl rfl ?_)
 (refine J.gY rfl rfl rfl ?_)
 (refine Jx.load rfl 0 rfl rfl rfl ?_)
 (refine J.gY rfl rfl rfl ?_)
 (refine J.call (c5) rfl (evs_args rfl) rfl ?_; rintro _ _ ⟨rfl, rfl⟩; simp only [la1, la2, la3])
 (refine J.gY rfl rfl rfl ?_)
 (refine Jx.not rfl rfl (Jx.pF rfl rfl rfl ?_))
 (refine Jx.move rfl rfl (J.gY rfl rfl rfl ?_))
 (refine Jx.fieldAddr rfl rfl ?_)
 (refine J.gY rfl rfl rfl ?_)
 (refine Jx.loadAg rfl 0 rfl rfl rfl rfl ?_)
 (refine J.gY rfl rfl rfl ?_)
 (refine J.call (c6) rfl (evs_args rfl) rfl ?_; rintro _ _ ⟨rfl, rfl⟩; simp only [la1, la2, la3])
 (refine J.gY rfl rfl rfl ?_)
 (refine Jx.not rfl rfl (J.gY rfl rfl rfl ?_))
 (refine Jx.move rfl rfl (J.gN rfl rfl rfl rfl ?_))
 (refine J.gN rfl rfl rfl rfl ?_)
 (refine J.gY rfl rfl rfl ?_)
 (refine Jx.pF rfl rfl rfl ?_)
 (refine Jx.pF rfl rfl rfl ?_)
 (refine Jx.move rfl rfl (J.gY rfl rfl rfl ?_))
 (refine Jx.fieldAddr rfl rfl ?_)
 (refine J.gY rfl rfl rfl ?_)
 (refine Jx.load rfl 0 rfl rfl rfl ?_)
 (refine J.gY rfl rfl rfl ?_)
 (refine J.call (c7) rfl (evs_args rfl) rfl ?_; rintro _ _ ⟨rfl, rfl⟩; simp only [la1, la2, la3])
 (refine J.gY rfl rfl rfl ?_)
 (refine Jx.not rfl rfl (Jx.pF rfl rfl rfl ?_))
 (refine Jx.move rfl rfl (J.gY rfl rfl rfl ?_))
 (refine Jx.fieldAddr rfl rfl ?_)
 (refine J.gY rfl rfl rfl ?_)
 (refine Jx.loadAg rfl 0 rfl rfl rfl rfl ?_)
 (refine J.gY rfl rfl rfl ?_)
 (refine J.call (c8) rfl (evs_args rfl) rfl ?_; rintro _ _ ⟨rfl, rfl⟩; simp only [la1, la2, la3])
 (refine J.gY rfl rfl rfl ?_)
 (refine Jx.not rfl rfl (Jx.pF rfl rfl rfl ?_))
 (refine J.nil (N.seq (W.cF rfl ?_)))
 (refine W.skip (N.seq (W.seq (W.seq (W.region (Jx.fieldAddr rfl rfl ?_))))))
 (refine Jx.load rfl 0 rfl rfl rfl ?_)
 (refine Jx.lenSl rfl rfl ?_)
 (refine Jx.move rfl rfl (J.nil (N.seq (W.block ?_))))
 (refine id ?_; rotate_left))
          refine W.loop (α := Nat) (fun i => [(78, int (i : Int)), (77, int (x.heads.length : Int)), (76, hdsl x.heads), (1, ptr b')]) (fun _ => [.obj b' tAn (anC x)]) (fun i => i ≤ x.heads.length ∧ ∀ h ∈ x.heads.take i, fineHd h = true) (fun i => x.heads.length - i) 0 ⟨by omega, by simp⟩ rfl ⟨ref0 rfl, ref0 rfl, ref0 rfl, ref0 rfl, trivial⟩ ?_
          rintro i ⟨hi, hn⟩
          by_cases h1 : i < x.heads.length
          · have ch := hcheck_ok (x.heads.getD i hd0) (hs _ (getD_mem (d := hd0) h1))
            cases hq : fineHd (x.heads.getD i hd0) with
            | false =>
              have : x.heads.all fineHd = false := List.all_eq_false.2 ⟨_, getD_mem (d := hd0) h1, by rw [hq]; simp⟩
              rw [this]
              rw [hq] at ch
              focus (
 (refine W.seq (W.region (Jx.lssI rfl rfl rfl (J.nil (N.seq (W.seq (W.cT rfl ?_)))))))
 (refine W.skip (N.seq (W.seq (W.block (W.seq (W.region (Jx.indexEl rfl rfl (by assumption) rfl rfl ?_)))))))
 (refine Jx.loadPPall rfl rfl rfl ?_)
 (refine J.alloc (by simp only [List.map_cons, List.map_nil]; rfl) rfl rfl ?_; intro b')
 (refine J.storeAll rfl rfl rfl 0 rfl rfl rfl ?_)
 (refine J.nil (N.seq (W.seq (W.region (Jx.loadAll rfl 0 rfl rfl rfl ?_)))))
 (refine J.call (ch) rfl (evs_args rfl) rfl ?_; rintro _ _ ⟨rfl, rfl⟩; simp only [la1, la2, la3])
 (refine Jx.neqI rfl rfl rfl (J.nil (N.seq (W.cT rfl ?_))))
 (refine W.seq (W.region (Jx.assign rfl rfl (J.nil (N.seq (W.ret (N.noGotoRet (N.noGotoRet (N.noGotoRet (N.noGotoRet (N.noGotoRet ?_)))))))))))
 (refine id ?_; rotate_left))
              exact N.retD (rs := [.tmp 2]) (L1 := []) rfl (.tmp rfl .nil) (List.nil_sublist _) ⟨rfl, rfl⟩
            | true =>
              rw [hq] at ch
              focus (
 (refine W.seq (W.region (Jx.lssI rfl rfl rfl (J.nil (N.seq (W.seq (W.cT rfl ?_)))))))
 (refine W.skip (N.seq (W.seq (W.block (W.seq (W.region (Jx.indexEl rfl rfl (by assumption) rfl rfl ?_)))))))
 (refine Jx.loadPPall rfl rfl rfl ?_)
 (refine J.alloc (by simp only [List.map_cons, List.map_nil]; rfl) rfl rfl ?_; intro b')
 (refine J.storeAll rfl rfl rfl 0 rfl rfl rfl ?_)
 (refine J.nil (N.seq (W.seq (W.region (Jx.loadAll rfl 0 rfl rfl rfl ?_)))))
 (refine J.call (ch) rfl (evs_args rfl) rfl ?_; rintro _ _ ⟨rfl, rfl⟩; simp only [la1, la2, la3])
 (refine Jx.neqI rfl rfl rfl (J.nil (N.seq (W.cF rfl ?_))))
 (refine W.skip (N.seq (W.region (Jx.add64 rfl rfl (by omega) rfl ?_))))
 (refine Jx.move rfl rfl (J.nil ?_))
 (refine id ?_; rotate_left))
              refine N.drop (List.sublist_cons_self _ _) ?_
              refine N.round (i + 1) ⟨h1, fun s hs => ?_⟩ (by omega) rfl ⟨ref0 rfl, ref0 rfl, ref0 rfl, ref0 rfl, trivial⟩
              rw [take_snoc (d := hd0) h1] at hs
              rcases List.mem_append.1 hs with hs | hs
              · exact hn s hs
              · simp only [List.mem_singleton] at hs; subst hs; exact hq
          · rw [List.take_of_length_le (by omega)] at hn
            have : x.heads.all fineHd = true := List.all_eq_true.2 hn
            rw [this]
            focus (
 (refine W.seq (W.region (Jx.lssI rfl rfl rfl (J.nil (N.seq (W.seq (W.cF rfl ?_)))))))
 (refine W.exit (N.seq (W.seq (W.region (Jx.assign rfl rfl (J.nil (N.seq (W.ret ?_))))))))
 (refine id ?_; rotate_left))
            exact N.retD (rs := [.tmp 2]) (L1 := []) rfl (.tmp rfl .nil) (List.nil_sublist _) ⟨rfl, rfl⟩
        · have k6 : aloneB x = true := by rcases k4 with h | h; exact absurd h k5; exact h
          rw [k6] at c2
          focus (
 (refine W.seq (W.region ?_))
 (refine J.boxAg rfl rfl ?_; intro b')
 (refine Jx.assign rfl rfl (J.nil (N.seq (W.seq (W.seq (W.region (Jx.fieldAddr rfl rfl ?_)))))))
 (refine Jx.load rfl 0 rfl rfl rfl ?_)
 (refine Jx.lssI rfl rfl rfl (Jx.move rfl rfl (J.gY rfl rfl rfl ?_)))
 (refine Jx.fieldAddr rfl rfl ?_)
 (refine J.gY rfl rfl rfl ?_)
 (refine Jx.load rfl 0 rfl rfl rfl ?_)
 (refine J.gY rfl rfl rfl ?_)
 (refine Jx.gtrI rfl rfl rfl (Jx.pF rfl rfl rfl ?_))
 (refine Jx.move rfl rfl (J.gY rfl rfl rfl ?_))
 (refine Jx.fieldAddr rfl rfl ?_)
 (refine J.gY rfl rfl rfl ?_)
 (refine Jx.load rfl 0 rfl rfl rfl ?_)
 (refine J.gY rfl rfl rfl ?_)
 (refine J.call (c1) rfl (evs_args rfl) rfl ?_; rintro _ _ ⟨rfl, rfl⟩; simp only [la1, la2, la3])
 (refine J.gY rfl rfl rfl ?_)
 (refine Jx.not rfl rfl (Jx.pF rfl rfl rfl ?_))
 (refine Jx.move rfl rfl (J.gY rfl rfl rfl ?_))
 (refine Jx.fieldAddr rfl rfl ?_)
 (refine J.gY rfl rfl rfl ?_)
 (refine Jx.load rfl 0 rfl rfl rfl ?_)
 (refine J.gY rfl rfl rfl ?_)
 (refine Jx.neqI rfl rfl rfl (J.gY rfl rfl rfl ?_))
 (refine Jx.move rfl rfl (J.gY rfl rfl rfl ?_))
 (refine Jx.loadAll rfl 0 rfl rfl rfl ?_)
 (refine J.gY rfl rfl rfl ?_)
 (refine J.call (c2) rfl (evs_args rfl) rfl ?_; rintro _ _ ⟨rfl, rfl⟩; simp only [la1, la2, la3])
 (refine J.gY rfl rfl rfl ?_)
 (refine Jx.not rfl rfl (J.gY rfl rfl rfl ?_))
 (refine Jx.pT rfl rfl rfl ?_)
 (refine Jx.pF rfl rfl rfl ?_)
 (refine J.nil (N.seq (W.cF rfl ?_)))
 (refine W.skip (N.seq (W.seq (W.region (Jx.fieldAddr rfl rfl ?_)))))
 (refine Jx.loadAg rfl 0 rfl rfl rfl rfl ?_)
 (refine J.call (c3) rfl (evs_args rfl) rfl ?_; rintro _ _ ⟨rfl, rfl⟩; simp only [la1, la2, la3])
 (refine Jx.move rfl rfl (Jx.extract rfl rfl rfl ?_))
 (refine Jx.extract rfl rfl rfl ?_)
 (refine Jx.assign rfl rfl (Jx.assign rfl rfl (J.nil (N.seq (W.seq (W.seq (W.region (Jx.fieldAddr rfl rfl ?_))))))))
 (refine Jx.load rfl 0 rfl rfl rfl ?_)
 (refine Jx.lenSl rfl rfl ?_)
 (refine Jx.gtrI rfl rfl rfl (Jx.move rfl rfl (J.gY rfl rfl rfl ?_)))
 (refine Jx.fieldAddr rfl rfl ?_)
 (refine J.gY rfl rfl rfl ?_)
 (refine Jx.load rfl 0 rfl rfl rfl ?_)
 (refine J.gY rfl rfl rfl ?_)
 (refine J.call (c4) rfl (evs_args rfl) rfl ?_; rintro _ _ ⟨rfl, rfl⟩; simp only [la1, la2, la3])
 (refine J.gY rfl rfl rfl ?_)
 (refine Jx.not rfl rfl (Jx.pF rfl rfl rfl ?_))
 (refine Jx.move rfl rfl (J.gY rfl rfl rfl ?_))
 (refine Jx.fieldAddr rfl rfl ?_)
 (refine J.gY rfl rfl rfl ?_)
 (refine Jx.load rfl 0 rfl rfl rfl ?_)
 (refine J.gY rfl rfl rfl ?_)
 (refine J.call (c5) rfl (evs_args rfl) rfl ?_; rintro _ _ ⟨rfl, rfl⟩; simp only [la1, la2, la3])
 (refine J.gY rfl rfl rfl ?_)
 (refine Jx.not rfl rfl (Jx.pF rfl rfl rfl ?_))
 (refine Jx.move rfl rfl (J.gY rfl rfl rfl ?_))
 (refine Jx.fieldAddr rfl rfl ?_)
 (refine J.gY rfl rfl rfl ?_)
 (refine Jx.loadAg rfl 0 rfl rfl rfl rfl ?_)
 (refine J.gY rfl rfl rfl ?_)
 (refine J.call (c6) rfl (evs_args rfl) rfl ?_; rintro _ _ ⟨rfl, rfl⟩; simp only [la1, la2, la3])
 (refine J.gY rfl rfl rfl ?_)
 (refine Jx.not rfl rfl (J.gY rfl rfl rfl ?_))
 (refine Jx.move rfl rfl (J.gN rfl rfl rfl rfl ?_))
 (refine J.gN rfl rfl rfl rfl ?_)
 (refine J.gY rfl rfl rfl ?_)
 (refine Jx.pF rfl rfl rfl ?_)
 (refine Jx.pF rfl rfl rfl ?_)
 (refine Jx.move rfl rfl (J.gY rfl rfl rfl ?_))
 (refine Jx.fieldAddr rfl rfl ?_)
 (refine J.gY rfl rfl rfl ?_)
 (refine Jx.load rfl 0 rfl rfl rfl ?_)
 (refine J.gY rfl rfl rfl ?_)
 (refine J.call (c7) rfl (evs_args rfl) rfl ?_; rintro _ _ ⟨rfl, rfl⟩; simp only [la1, la2, la3])
 (refine J.gY rfl rfl rfl ?_)
 (refine Jx.not rfl rfl (Jx.pF rfl rfl rfl ?_))
 (refine Jx.move rfl rfl (J.gY rfl rfl rfl ?_))
 (refine Jx.fieldAddr rfl rfl ?_)
 (refine J.gY rfl rfl rfl ?_)
 (refine Jx.loadAg rfl 0 rfl rfl rfl rfl ?_)
 (refine J.gY rfl rfl rfl ?_)
 (refine J.call (c8) rfl (evs_args rfl) rfl ?_; rintro _ _ ⟨rfl, rfl⟩; simp only [la1, la2, la3])
 (refine J.gY rfl rfl rfl ?_)
 (refine Jx.not rfl rfl (Jx.pF rfl rfl rfl ?_))
 (refine J.nil (N.seq (W.cF rfl ?_)))
 (refine W.skip (N.seq (W.seq (W.seq (W.region (Jx.fieldAddr rfl rfl ?_))))))
 (refine Jx.load rfl 0 rfl rfl rfl ?_)
 (refine Jx.lenSl rfl rfl ?_)
 (refine Jx.move rfl rfl (J.nil (N.seq (W.block ?_))))
 (refine id ?_; rotate_left))
          refine W.loop (α := Nat) (fun i => [(78, int (i : Int)), (77, int (x.heads.length : Int)), (76, hdsl x.heads), (1, ptr b')]) (fun _ => [.obj b' tAn (anC x)]) (fun i => i ≤ x.heads.length ∧ ∀ h ∈ x.heads.take i, fineHd h = true) (fun i => x.heads.length - i) 0 ⟨by omega, by simp⟩ rfl ⟨ref0 rfl, ref0 rfl, ref0 rfl, ref0 rfl, trivial⟩ ?_
          rintro i ⟨hi, hn⟩
          by_cases h1 : i < x.heads.length
          · have ch := hcheck_ok (x.heads.getD i hd0) (hs _ (getD_mem (d := hd0) h1))
            cases hq : fineHd (x.heads.getD i hd0) with
            | false =>
              have : x.heads.all fineHd = false := List.all_eq_false.2 ⟨_, getD_mem (d := hd0) h1, by rw [hq]; simp⟩
              rw [this]
              rw [hq] at ch
              focus (
 (refine W.seq (W.region (Jx.lssI rfl rfl rfl (J.nil (N.seq (W.seq (W.cT rfl ?_)))))))
 (refine W.skip (N.seq (W.seq (W.block (W.seq (W.region (Jx.indexEl rfl rfl (by assumption) rfl rfl ?_)))))))
 (refine Jx.loadPPall rfl rfl rfl ?_)
 (refine J.alloc (by simp only [List.map_cons, List.map_nil]; rfl) rfl rfl ?_; intro b')
 (refine J.storeAll rfl rfl rfl 0 rfl rfl rfl ?_)
 (refine J.nil (N.seq (W.seq (W.region (Jx.loadAll rfl 0 rfl rfl rfl ?_)))))
 (refine J.call (ch) rfl (evs_args rfl) rfl ?_; rintro _ _ ⟨rfl, rfl⟩; simp only [la1, la2, la3])
 (refine Jx.neqI rfl rfl rfl (J.nil (N.seq (W.cT rfl ?_))))
 (refine W.seq (W.region (Jx.assign rfl rfl (J.nil (N.seq (W.ret (N.noGotoRet (N.noGotoRet (N.noGotoRet (N.noGotoRet (N.noGotoRet ?_)))))))))))
 (refine id ?_; rotate_left))
              exact N.retD (rs := [.tmp 2]) (L1 := []) rfl (.tmp rfl .nil) (List.nil_sublist _) ⟨rfl, rfl⟩
            | true =>
              rw [hq] at ch
              focus (
 (refine W.seq (W.region (Jx.lssI rfl rfl rfl (J.nil (N.seq (W.seq (W.cT rfl ?_)))))))
 (refine W.skip (N.seq (W.seq (W.block (W.seq (W.region (Jx.indexEl rfl rfl (by assumption) rfl rfl ?_)))))))
 (refine Jx.loadPPall rfl rfl rfl ?_)
 (refine J.alloc (by simp only [List.map_cons, List.map_nil]; rfl) rfl rfl ?_; intro b')
 (refine J.storeAll rfl rfl rfl 0 rfl rfl rfl ?_)
 (refine J.nil (N.seq (W.seq (W.region (Jx.loadAll rfl 0 rfl rfl rfl ?_)))))
 (refine J.call (ch) rfl (evs_args rfl) rfl ?_; rintro _ _ ⟨rfl, rfl⟩; simp only [la1, la2, la3])
 (refine Jx.neqI rfl rfl rfl (J.nil (N.seq (W.cF rfl ?_))))
 (refine W.skip (N.seq (W.region (Jx.add64 rfl rfl (by omega) rfl ?_))))
 (refine Jx.move rfl rfl (J.nil ?_))
 (refine id ?_; rotate_left))
              refine N.drop (List.sublist_cons_self _ _) ?_
              refine N.round (i + 1) ⟨h1, fun s hs => ?_⟩ (by omega) rfl ⟨ref0 rfl, ref0 rfl, ref0 rfl, ref0 rfl, trivial⟩
              rw [take_snoc (d := hd0) h1] at hs
              rcases List.mem_append.1 hs with hs | hs
              · exact hn s hs
              · simp only [List.mem_singleton] at hs; subst hs; exact hq
          · rw [List.take_of_length_le (by omega)] at hn
            have : x.heads.all fineHd = true := List.all_eq_true.2 hn
            rw [this]
            focus (
 (refine W.seq (W.region (Jx.lssI rfl rfl rfl (J.nil (N.seq (W.seq (W.cF rfl ?_)))))))
 (refine W.exit (N.seq (W.seq (W.region (Jx.assign rfl rfl (J.nil (N.seq (W.ret ?_))))))))
 (refine id ?_; rotate_left))
            exact N.retD (rs := [.tmp 2]) (L1 := []) rfl (.tmp rfl .nil) (List.nil_sublist _) ⟨rfl, rfl⟩
      · rw [hb] at c6
        rw [hg] at c3
        by_cases k5 : x.code = 0
        · focus (
 (refine W.seq (W.region ?_))
 (refine J.boxAg rfl rfl ?_; intro b')
 (refine Jx.assign rfl rfl (J.nil (N.seq (W.seq (W.seq (W.region (Jx.fieldAddr rfl rfl ?_)))))))
 (refine Jx.load rfl 0 rfl rfl rfl ?_)
 (refine Jx.lssI rfl rfl rfl (Jx.move rfl rfl (J.gY rfl rfl rfl ?_)))
 (refine Jx.fieldAddr rfl rfl ?_)
 (refine J.gY rfl rfl rfl ?_)
 (refine Jx.load rfl 0 rfl rfl rfl ?_)
 (refine J.gY rfl rfl rfl ?_)
 (refine Jx.gtrI rfl rfl rfl (Jx.pF rfl rfl rfl ?_))
 (refine Jx.move rfl rfl (J.gY rfl rfl rfl ?_))
 (refine Jx.fieldAddr rfl rfl ?_)
 (refine J.gY rfl rfl rfl ?_)
 (refine Jx.load rfl 0 rfl rfl rfl ?_)
 (refine J.gY rfl rfl rfl ?_)
 (refine J.call (c1) rfl (evs_args rfl) rfl ?_; rintro _ _ ⟨rfl, rfl⟩; simp only [la1, la2, la3])
 (refine J.gY rfl rfl rfl ?_)
 (refine Jx.not rfl rfl (Jx.pF rfl rfl rfl ?_))
 (refine Jx.move rfl rfl (J.gY rfl rfl rfl ?_))
 (refine Jx.fieldAddr rfl rfl ?_)
 (refine J.gY rfl rfl rfl ?_)
 (refine Jx.load rfl 0 rfl rfl rfl ?_)
 (refine J.gY rfl rfl rfl ?_)
 (refine Jx.neqI rfl rfl rfl (J.gY rfl rfl rfl ?_))
 (refine Jx.move rfl rfl (J.gN rfl rfl rfl rfl ?_))
 (refine J.gN rfl rfl rfl rfl ?_)
 (refine J.gN rfl rfl rfl rfl ?_)
 (refine J.gY rfl rfl rfl ?_)
 (refine Jx.pF rfl rfl rfl ?_)
 (refine Jx.pF rfl rfl rfl ?_)
 (refine J.nil (N.seq (W.cF rfl ?_)))
 (refine W.skip (N.seq (W.seq (W.region (Jx.fieldAddr rfl rfl ?_)))))
 (refine Jx.loadAg rfl 0 rfl rfl rfl rfl ?_)
 (refine J.call (c3) rfl (evs_args rfl) rfl ?_; rintro _ _ ⟨rfl, rfl⟩; simp only [la1, la2, la3])
 (refine Jx.move rfl rfl (Jx.extract rfl rfl rfl ?_))
 (refine Jx.extract rfl rfl rfl ?_)
 (refine Jx.assign rfl rfl (Jx.assign rfl rfl (J.nil (N.seq (W.seq (W.seq (W.region (Jx.fieldAddr rfl rfl ?_))))))))
 (refine Jx.load rfl 0 rfl rfl rfl ?_)
 (refine Jx.lenSl rfl rfl ?_)
 (refine Jx.gtrI rfl rfl rfl (Jx.move rfl rfl (J.gY rfl rfl rfl ?_)))
 (refine Jx.fieldAddr rfl rfl ?_)
 (refine J.gY rfl rfl rfl ?_)
 (refine Jx.load rfl 0 rfl rfl rfl ?_)
 (refine J.gY rfl rfl rfl ?_)
 (refine J.call (c4) rfl (evs_args rfl) rfl ?_; rintro _ _ ⟨rfl, rfl⟩; simp only [la1, la2, la3])
 (refine J.gY rfl rfl rfl ?_)
 (refine Jx.not rfl rfl (Jx.pF rfl rfl rfl ?_))
 (refine Jx.move rfl rfl (J.gY rfl rfl rfl ?_))
 (refine Jx.fieldAddr rfl rfl ?_)
 (refine J.gY rfl rfl rfl ?_)
 (refine Jx.load rfl 0 rfl rfl rfl ?_)
 (refine J.gY rfl rfl rfl ?_)
 (refine J.call (c5) rfl (evs_args rfl) rfl ?_; rintro _ _ ⟨rfl, rfl⟩; simp only [la1, la2, la3])
 (refine J.gY rfl rfl rfl ?_)
 (refine Jx.not rfl rfl (Jx.pF rfl rfl rfl ?_))
 (refine Jx.move rfl rfl (J.gY rfl rfl rfl ?_))
 (refine Jx.fieldAddr rfl rfl ?_)
 (refine J.gY rfl rfl rfl ?_)
 (refine Jx.loadAg rfl 0 rfl rfl rfl rfl ?_)
 (refine J.gY rfl rfl rfl ?_)
 (refine J.call (c6) rfl (evs_args rfl) rfl ?_; rintro _ _ ⟨rfl, rfl⟩; simp only [la1, la2, la3])
 (refine J.gY rfl rfl rfl ?_)
 (refine Jx.not rfl rfl (J.gY rfl rfl rfl ?_))
 (refine Jx.move rfl rfl (J.gY rfl rfl rfl ?_))
 (refine Jx.move rfl rfl (J.gY rfl rfl rfl ?_))
 (refine Jx.neqI rfl rfl rfl (J.gY rfl rfl rfl ?_))
 (refine Jx.pT rfl rfl rfl ?_)
 (refine Jx.pF rfl rfl rfl ?_)
 (refine Jx.move rfl rfl (J.gY rfl rfl rfl ?_))
 (refine Jx.fieldAddr rfl rfl ?_)
 (refine J.gY rfl rfl rfl ?_)
 (refine Jx.load rfl 0 rfl rfl rfl ?_)
 (refine J.gY rfl rfl rfl ?_)
 (refine J.call (c7) rfl (evs_args rfl) rfl ?_; rintro _ _ ⟨rfl, rfl⟩; simp only [la1, la2, la3])
 (refine J.gY rfl rfl rfl ?_)
 (refine Jx.not rfl rfl (Jx.pF rfl rfl rfl ?_))
 (refine Jx.move rfl rfl (J.gY rfl rfl rfl ?_))
 (refine Jx.fieldAddr rfl rfl ?_)
 (refine J.gY rfl rfl rfl ?_)
 (refine Jx.loadAg rfl 0 rfl rfl rfl rfl ?_)
 (refine J.gY rfl rfl rfl ?_)
 (refine J.call (c8) rfl (evs_args rfl) rfl ?_; rintro _ _ ⟨rfl, rfl⟩; simp only [la1, la2, la3])
 (refine J.gY rfl rfl rfl ?_)
 (refine Jx.not rfl rfl (Jx.pF rfl rfl rfl ?_))
 (refine J.nil (N.seq (W.cF rfl ?_)))
 (refine W.skip (N.seq (W.seq (W.seq (W.region (Jx.fieldAddr rfl rfl ?_))))))
 (refine Jx.load rfl 0 rfl rfl rfl ?_)
 (refine Jx.lenSl rfl rfl ?_)
 (refine Jx.move rfl rfl (J.nil (N.seq (W.block ?_))))
 (refine id ?_; rotate_left))
          refine W.loop (α := Nat) (fun i => [(78, int (i : Int)), (77, int (x.heads.length : Int)), (76, hdsl x.heads), (1, ptr b')]) (fun _ => [.obj b' tAn (anC x)]) (fun i => i ≤ x.heads.length ∧ ∀ h ∈ x.heads.take i, fineHd h = true) (fun i => x.heads.length - i) 0 ⟨by omega, by simp⟩ rfl ⟨ref0 rfl, ref0 rfl, ref0 rfl, ref0 rfl, trivial⟩ ?_
          rintro i ⟨hi, hn⟩
          by_cases h1 : i < x.heads.length
          · have ch := hcheck_ok (x.heads.getD i hd0) (hs _ (getD_mem (d := hd0) h1))
            cases hq : fineHd (x.heads.getD i hd0) with
            | false =>
              have : x.heads.all fineHd = false := List.all_eq_false.2 ⟨_, getD_mem (d := hd0) h1, by rw [hq]; simp⟩
              rw [this]
              rw [hq] at ch
              focus (
 (refine W.seq (W.region (Jx.lssI rfl rfl rfl (J.nil (N.seq (W.seq (W.cT rfl ?_)))))))
 (refine W.skip (N.seq (W.seq (W.block (W.seq (W.region (Jx.indexEl rfl rfl (by assumption) rfl rfl ?_)))))))
 (refine Jx.loadPPall rfl rfl rfl ?_)
 (refine J.alloc (by simp only [List.map_cons, List.map_nil]; rfl) rfl rfl ?_; intro b')
 (refine J.storeAll rfl rfl rfl 0 rfl rfl rfl ?_)
 (refine J.nil (N.seq (W.seq (W.region (Jx.loadAll rfl 0 rfl rfl rfl ?_)))))
 (refine J.call (ch) rfl (evs_args rfl) rfl ?_; rintro _ _ ⟨rfl, rfl⟩; simp only [la1, la2, la3])
 (refine Jx.neqI rfl rfl rfl (J.nil (N.seq (W.cT rfl ?_))))
 (refine W.seq (W.region (Jx.assign rfl rfl (J.nil (N.seq (W.ret (N.noGotoRet (N.noGotoRet (N.noGotoRet (N.noGotoRet (N.noGotoRet ?_)))))))))))
 (refine id ?_; rotate_left))
              exact N.retD (rs := [.tmp 2]) (L1 := []) rfl (.tmp rfl .nil) (List.nil_sublist _) ⟨rfl, rfl⟩
            | true =>
              rw [hq] at ch
              focus (
 (refine W.seq (W.region (Jx.lssI rfl rfl rfl (J.nil (N.seq (W.seq (W.cT rfl ?_)))))))
 (refine W.skip (N.seq (W.seq (W.block (W.seq (W.region (Jx.indexEl rfl rfl (by assumption) rfl rfl ?_)))))))
 (refine Jx.loadPPall rfl rfl rfl ?_)
 (refine J.alloc (by simp only [List.map_cons, List.map_nil]; rfl) rfl rfl ?_; intro b')
 (refine J.storeAll rfl rfl rfl 0 rfl rfl rfl ?_)
 (refine J.nil (N.seq (W.seq (W.region (Jx.loadAll rfl 0 rfl rfl rfl ?_)))))
 (refine J.call (ch) rfl (evs_args rfl) rfl ?_; rintro _ _ ⟨rfl, rfl⟩; simp only [la1, la2, la3])
 (refine Jx.neqI rfl rfl rfl (J.nil (N.seq (W.cF rfl ?_))))
 (refine W.skip (N.seq (W.region (Jx.add64 rfl rfl (by omega) rfl ?_))))
 (refine Jx.move rfl rfl (J.nil ?_))
 (refine id ?_; rotate_left))
              refine N.drop (List.sublist_cons_self _ _) ?_
              refine N.round (i + 1) ⟨h1, fun s hs => ?_⟩ (by omega) rfl ⟨ref0 rfl, ref0 rfl, ref0 rfl, ref0 rfl, trivial⟩
              rw [take_snoc (d := hd0) h1] at hs
              rcases List.mem_append.1 hs with hs | hs
              · exact hn s hs
              · simp only [List.mem_singleton] at hs; subst hs; exact hq
          · rw [List.take_of_length_le (by omega)] at hn
            have : x.heads.all fineHd = true := List.all_eq_true.2 hn
            rw [this]
            focus (
 (refine W.seq (W.region (Jx.lssI rfl rfl rfl (J.nil (N.seq (W.seq (W.cF rfl ?_)))))))
 (refine W.exit (N.seq (W.seq (W.region (Jx.assign rfl rfl (J.nil (N.seq (W.ret ?_))))))))
 (refine id ?_; rotate_left))
            exact N.retD (rs := [.tmp 2]) (L1 := []) rfl (.tmp rfl .nil) (List.nil_sublist _) ⟨rfl, rfl⟩
        · have k6 : aloneB x = true := by rcases k4 with h | h; exact absurd h k5; exact h
          rw [k6] at c2
          focus (
 (refine W.seq (W.region ?_))
 (refine J.boxAg rfl rfl ?_; intro b')
 (refine Jx.assign rfl rfl (J.nil (N.seq (W.seq (W.seq (W.region (Jx.fieldAddr rfl rfl ?_)))))))
 (refine Jx.load rfl 0 rfl rfl rfl ?_)
 (refine Jx.lssI rfl rfl rfl (Jx.move rfl rfl (J.gY rfl rfl rfl ?_)))
 (refine Jx.fieldAddr rfl rfl ?_)
 (refine J.gY rfl rfl rfl ?_)
 (refine Jx.load rfl 0 rfl rfl rfl ?_)
 (refine J.gY rfl rfl rfl ?_)
 (refine Jx.gtrI rfl rfl rfl (Jx.pF rfl rfl rfl ?_))
 (refine Jx.move rfl rfl (J.gY rfl rfl rfl ?_))
 (refine Jx.fieldAddr rfl rfl ?_)
 (refine J.gY rfl rfl rfl ?_)
 (refine Jx.load rfl 0 rfl rfl rfl ?_)
 (refine J.gY rfl rfl rfl ?_)
 (refine J.call (c1) rfl (evs_args rfl) rfl ?_; rintro _ _ ⟨rfl, rfl⟩; simp only [la1, la2, la3])
 (refine J.gY rfl rfl rfl ?_)
 (refine Jx.not rfl rfl (Jx.pF rfl rfl rfl ?_))
 (refine Jx.move rfl rfl (J.gY rfl rfl rfl ?_))
 (refine Jx.fieldAddr rfl rfl ?_)
 (refine J.gY rfl rfl rfl ?_)
 (refine Jx.load rfl 0 rfl rfl rfl ?_)
 (refine J.gY rfl rfl rfl ?_)
 (refine Jx.neqI rfl rfl rfl (J.gY rfl rfl rfl ?_))
 (refine Jx.move rfl rfl (J.gY rfl rfl rfl ?_))
 (refine Jx.loadAll rfl 0 rfl rfl rfl ?_)
 (refine J.gY rfl rfl rfl ?_)
 (refine J.call (c2) rfl (evs_args rfl) rfl ?_; rintro _ _ ⟨rfl, rfl⟩; simp only [la1, la2, la3])
 (refine J.gY rfl rfl rfl ?_)
 (refine Jx.not rfl rfl (J.gY rfl rfl rfl ?_))
 (refine Jx.pT rfl rfl rfl ?_)
 (refine Jx.pF rfl rfl rfl ?_)
 (refine J.nil (N.seq (W.cF rfl ?_)))
 (refine W.skip (N.seq (W.seq (W.region (Jx.fieldAddr rfl rfl ?_)))))
 (refine Jx.loadAg rfl 0 rfl rfl rfl rfl ?_)
 (refine J.call (c3) rfl (evs_args rfl) rfl ?_; rintro _ _ ⟨rfl, rfl⟩; simp only [la1, la2, la3])
 (refine Jx.move rfl rfl (Jx.extract rfl rfl rfl ?_))
 (refine Jx.extract rfl rfl rfl ?_)
 (refine Jx.assign rfl rfl (Jx.assign rfl rfl (J.nil (N.seq (W.seq (W.seq (W.region (Jx.fieldAddr rfl rfl ?_))))))))
 (refine Jx.load rfl 0 rfl rfl rfl ?_)
 (refine Jx.lenSl rfl rfl ?_)
 (refine Jx.gtrI rfl rfl rfl (Jx.move rfl rfl (J.gY rfl rfl rfl ?_)))
 (refine Jx.fieldAddr rfl rfl ?_)
 (refine J.gY rfl rfl rfl ?_)
 (refine Jx.load rfl 0 rfl rfl rfl ?_)
 (refine J.gY rfl rfl rfl ?_)
 (refine J.call (c4) rfl (evs_args rfl) rfl ?_; rintro _ _ ⟨rfl, rfl⟩; simp only [la1, la2, la3])
 (refine J.gY rfl rfl rfl ?_)
 (refine Jx.not rfl rfl (Jx.pF rfl rfl rfl ?_))
 (refine Jx.move rfl rfl (J.gY rfl rfl rfl ?_))
 (refine Jx.fieldAddr rfl rfl ?_)
 (refine J.gY rfl rfl rfl ?_)
 (refine Jx.load rfl 0 rfl rfl rfl ?_)
 (refine J.gY rfl rfl rfl ?_)
 (refine J.call (c5) rfl (evs_args rfl) rfl ?_; rintro _ _ ⟨rfl, rfl⟩; simp only [la1, la2, la3])
 (refine J.gY rfl rfl rfl ?_)
 (refine Jx.not rfl rfl (Jx.pF rfl rfl rfl ?_))
 (refine Jx.move rfl rfl (J.gY rfl rfl rfl ?_))
 (refine Jx.fieldAddr rfl rfl ?_)
 (refine J.gY rfl rfl rfl ?_)
 (refine Jx.loadAg rfl 0 rfl rfl rfl rfl ?_)
 (refine J.gY rfl rfl rfl ?_)
 (refine J.call (c6) rfl (evs_args rfl) rfl ?_; rintro _ _ ⟨rfl, rfl⟩; simp only [la1, la2, la3])
 (refine J.gY rfl rfl rfl ?_)
 (refine Jx.not rfl rfl (J.gY rfl rfl rfl ?_))
 (refine Jx.move rfl rfl (J.gY rfl rfl rfl ?_))
 (refine Jx.move rfl rfl (J.gY rfl rfl rfl ?_))
 (refine Jx.neqI rfl rfl rfl (J.gY rfl rfl rfl ?_))
 (refine Jx.pT rfl rfl rfl ?_)
 (refine Jx.pF rfl rfl rfl ?_)
 (refine Jx.move rfl rfl (J.gY rfl rfl rfl ?_))
 (refine Jx.fieldAddr rfl rfl ?_)
 (refine J.gY rfl rfl rfl ?_)
 (refine Jx.load rfl 0 rfl rfl rfl ?_)
 (refine J.gY rfl rfl rfl ?_)
 (refine J.call (c7) rfl (evs_args rfl) rfl ?_; rintro _ _ ⟨rfl, rfl⟩; simp only [la1, la2, la3])
 (refine J.gY rfl rfl rfl ?_)
 (refine Jx.not rfl rfl (Jx.pF rfl rfl rfl ?_))
 (refine Jx.move rfl rfl (J.gY rfl rfl rfl ?_))
 (refine Jx.fieldAddr rfl rfl ?_)
 (refine J.gY rfl rfl rfl ?_)
 (refine Jx.loadAg rfl 0 rfl rfl rfl rfl ?_)
 (refine J.gY rfl rfl rfl ?_)
 (refine J.call (c8) rfl (evs_args rfl) rfl ?_; rintro _ _ ⟨rfl, rfl⟩; simp only [la1, la2, la3])
 (refine J.gY rfl rfl rfl ?_)
 (refine Jx.not rfl rfl (Jx.pF rfl rfl rfl ?_))
 (refine J.nil (N.seq (W.cF rfl ?_)))
 (refine W.skip (N.seq (W.seq (W.seq (W.region (Jx.fieldAddr rfl rfl ?_))))))
 (refine Jx.load rfl 0 rfl rfl rfl ?_)
 (refine Jx.lenSl rfl rfl ?_)
 (refine Jx.move rfl rfl (J.nil (N.seq (W.block ?_))))
 (refine id ?_; rotate_left))
          refine W.loop (α := Nat) (fun i => [(78, int (i : Int)), (77, int (x.heads.length : Int)), (76, hdsl x.heads), (1, ptr b')]) (fun _ => [.obj b' tAn (anC x)]) (fun i => i ≤ x.heads.length ∧ ∀ h ∈ x.heads.take i, fineHd h = true) (fun i => x.heads.length - i) 0 ⟨by omega, by simp⟩ rfl ⟨ref0 rfl, ref0 rfl, ref0 rfl, ref0 rfl, trivial⟩ ?_
          rintro i ⟨hi, hn⟩
          by_cases h1 : i < x.heads.length
          · have ch := hcheck_ok (x.heads.getD i hd0) (hs _ (getD_mem (d := hd0) h1))
            cases hq : fineHd (x.heads.getD i hd0) with
            | false =>
              have : x.heads.all fineHd = false := List.all_eq_false.2 ⟨_, getD_mem (d := hd0) h1, by rw [hq]; simp⟩
              rw [this]
              rw [hq] at ch
              focus (
 (refine W.seq (W.region (Jx.lssI rfl rfl rfl (J.nil (N.seq (W.seq (W.cT rfl ?_)))))))
 (refine W.skip (N.seq (W.seq (W.block (W.seq (W.region (Jx.indexEl rfl rfl (by assumption) rfl rfl ?_)))))))
 (refine Jx.loadPPall rfl rfl rfl ?_)
 (refine J.alloc (by simp only [List.map_cons, List.map_nil]; rfl) rfl rfl ?_; intro b')
 (refine J.storeAll rfl rfl rfl 0 rfl rfl rfl ?_)
 (refine J.nil (N.seq (W.seq (W.region (Jx.loadAll rfl 0 rfl rfl rfl ?_)))))
 (refine J.call (ch) rfl (evs_args rfl) rfl ?_; rintro _ _ ⟨rfl, rfl⟩; simp only [la1, la2, la3])
 (refine Jx.neqI rfl rfl rfl (J.nil (N.seq (W.cT rfl ?_))))
 (refine W.seq (W.region (Jx.assign rfl rfl (J.nil (N.seq (W.ret (N.noGotoRet (N.noGotoRet (N.noGotoRet (N.noGotoRet (N.noGotoRet ?_)))))))))))
 (refine id ?_; rotate_left))
              exact N.retD (rs := [.tmp 2]) (L1 := []) rfl (.tmp rfl .nil) (List.nil_sublist _) ⟨rfl, rfl⟩
            | true =>
              rw [hq] at ch
              focus (
 (refine W.seq (W.region (Jx.lssI rfl rfl rfl (J.nil (N.seq (W.seq (W.cT rfl ?_)))))))
 (refine W.skip (N.seq (W.seq (W.block (W.seq (W.region (Jx.indexEl rfl rfl (by assumption) rfl rfl ?_)))))))
 (refine Jx.loadPPall rfl rfl rfl ?_)
 (refine J.alloc (by simp only [List.map_cons, List.map_nil]; rfl) rfl rfl ?_; intro b')
 (refine J.storeAll rfl rfl rfl 0 rfl rfl rfl ?_)
 (refine J.nil (N.seq (W.seq (W.region (Jx.loadAll rfl 0 rfl rfl rfl ?_)))))
 (refine J.call (ch) rfl (evs_args rfl) rfl ?_; rintro _ _ ⟨rfl, rfl⟩; simp only [la1, la2, la3])
 (refine Jx.neqI rfl rfl rfl (J.nil (N.seq (W.cF rfl ?_))))
 (refine W.skip (N.seq (W.region (Jx.add64 rfl rfl (by omega) rfl ?_))))
 (refine Jx.move rfl rfl (J.nil ?_))
 (refine id ?_; rotate_left))
              refine N.drop (List.sublist_cons_self _ _) ?_
              refine N.round (i + 1) ⟨h1, fun s hs => ?_⟩ (by omega) rfl ⟨ref0 rfl, ref0 rfl, ref0 rfl, ref0 rfl, trivial⟩
              rw [take_snoc (d := hd0) h1] at hs
              rcases List.mem_append.1 hs with hs | hs
              · exact hn s hs
              · simp only [List.mem_singleton] at hs; subst hs; exact hq
          · rw [List.take_of_length_le (by omega)] at hn
            have : x.heads.all fineHd = true := List.all_eq_true.2 hn
            rw [this]
            focus (
 (refine W.seq (W.region (Jx.lssI rfl rfl rfl (J.nil (N.seq (W.seq (W.cF rfl ?_)))))))
 (refine W.exit (N.seq (W.seq (W.region (Jx.assign rfl rfl (J.nil (N.seq (W.ret ?_))))))))
 (refine id ?_; rotate_left))
            exact N.retD (rs := [.tmp 2]) (L1 := []) rfl (.tmp rfl .nil) (List.nil_sublist _) ⟨rfl, rfl⟩
end Go.Proofs.Ytlfdhkahiaammaa
namespace Go.Proofs.Ytlfdhkahiaammaa
open Go Go.Sse
set_option linter.unusedVariables false
set_option linter.unusedSimpArgs false
set_option maxRecDepth 10000
theorem flat_append : ∀ (a b : List It), flatI (a ++ b) = flatI a ++ flatI b
  | [], b => rfl
  | x :: a, b => by rw [List.cons_append, flatI, flatI, flat_append a b]; rfl
theorem flat_take {l : List It} {i : Nat} (h : i < l.length) : flatI (l.take (i + 1)) = flatI (l.take i) ++ [(l.getD i it0).key, (l.getD i it0).value] := by
  rw [take_snoc (d := it0) h, flat_append]; rfl
set_option maxHeartbeats 8000000 in
theorem qencodeN_ok (x : An) (hs : ∀ h ∈ x.heads, h.skips.length ≤ 1048576) : FnC Try.prog 15 [.agg (anC x)] [] (fun v L => v = .tup [str (encO fineAn encAn x), int (codeB (fineAn x) 290)] ∧ L = []) := by
  have c0 := qcheckN_ok x hs
  refine FnC.intro Try.func15 rfl Try.ntmps15 rfl fun Z w0 hG => ?_
  unfold encO
  cases hf : fineAn x with
  | false =>
    rw [hf] at c0
    focus (
 (refine W.seq (W.region ?_))
 (refine J.boxAg rfl rfl ?_; intro b')
 (refine Jx.assign rfl rfl (Jx.assign rfl rfl (J.nil (N.seq (W.seq (W.seq (W.region (Jx.loadAll rfl 0 rfl rfl rfl ?_))))))))
 (refine J.call (c0) rfl (evs_args rfl) rfl ?_; rintro _ _ ⟨rfl, rfl⟩; simp only [la1, la2, la3])
 (refine Jx.assign rfl rfl (J.nil (N.seq (W.seq (W.region (Jx.move rfl rfl (Jx.neqI rfl rfl rfl (J.nil (N.seq (W.cT rfl ?_))))))))))
 (refine W.seq (W.region (Jx.move rfl rfl (Jx.assign rfl rfl (Jx.assign rfl rfl (J.nil (N.seq (W.ret (N.noGotoRet ?_)))))))))
 (refine id ?_; rotate_left))
    exact N.retD (rs := [.tmp 2, .tmp 3]) (L1 := []) rfl (.tmp rfl (.tmp rfl .nil)) (List.nil_sublist _) ⟨rfl, rfl⟩
  | true =>
    rw [hf] at c0
    rw [if_pos rfl]
    have f := fineAn_spec hf
    have f1 := f.code; have f2 := f.height; have f3 := f.heads; have f4 := f.items.1; have f5 := f.pnext
    have c1 := Num_ok x.code (by omega)
    rw [numR_pos f1.1] at c1
    have c2 := Num_ok x.height (by omega)
    rw [numR_pos f2.1] at c2
    have k1 := numBs (n := x.code) (by omega)
    have k2 := numBs f2.2
    have he : encAn x = numB x.code.toNat ++ (numB x.height.toNat ++ (listB (x.heads.map encHd) ++ (textB (encS x.set) ++ (textB (encS x.nxt) ++ (textB (encC x.cert) ++ (listB x.nodes ++ (listB (flatI x.items) ++ (textB x.pnext ++ listB x.pnodes)))))))) := rfl
    rw [he]
    generalize numB x.code.toNat = nb1 at *
    generalize numB x.height.toNat = nb2 at *
    focus (
 (refine W.seq (W.region ?_))
 (refine J.boxAg rfl rfl ?_; intro b')
 (refine Jx.assign rfl rfl (Jx.assign rfl rfl (J.nil (N.seq (W.seq (W.seq (W.region (Jx.loadAll rfl 0 rfl rfl rfl ?_))))))))
 (refine J.call (c0) rfl (evs_args rfl) rfl ?_; rintro _ _ ⟨rfl, rfl⟩; simp only [la1, la2, la3])
 (refine Jx.assign rfl rfl (J.nil (N.seq (W.seq (W.region (Jx.move rfl rfl (Jx.neqI rfl rfl rfl (J.nil (N.seq (W.cF rfl ?_))))))))))
 (refine W.skip (N.seq (W.seq (W.region (Jx.fieldAddr rfl rfl ?_)))))
 (refine Jx.load rfl 0 rfl rfl rfl ?_)
 (refine J.call (c1) rfl (evs_args rfl) rfl ?_; rintro _ _ ⟨rfl, rfl⟩; simp only [la1, la2, la3])
 (refine Jx.move rfl rfl (Jx.extract rfl rfl rfl ?_))
 (refine Jx.extract rfl rfl rfl ?_)
 (refine Jx.assign rfl rfl (Jx.assign rfl rfl (J.nil (N.seq (W.seq (W.region (Jx.fieldAddr rfl rfl ?_)))))))
 (refine Jx.load rfl 0 rfl rfl rfl ?_)
 (refine J.call (c2) rfl (evs_args rfl) rfl ?_; rintro _ _ ⟨rfl, rfl⟩; simp only [la1, la2, la3])
 (refine Jx.move rfl rfl (Jx.extract rfl rfl rfl ?_))
 (refine Jx.extract rfl rfl rfl ?_)
 (refine Jx.assign rfl rfl (Jx.assign rfl rfl (J.nil (N.seq (W.seq (W.region (Jx.assign rfl rfl (Jx.assign rfl rfl (J.nil (N.seq (W.seq (W.seq (W.region (Jx.fieldAddr rfl rfl ?_))))))))))))))
 (refine Jx.load rfl 0 rfl rfl rfl ?_)
 (refine Jx.lenSl rfl rfl ?_)
 (refine Jx.move rfl rfl (J.nil (N.seq (W.block ?_))))
 (refine id ?_; rotate_left))
    obtain ⟨p1, hp1⟩ : ∃ q, q = b' := ⟨_, rfl⟩
    subst hp1
    refine W.rowNil 9 1 (elOf (fun a => [str a]) [] []) ?_
    refine W.loop (α := Nat × Value) (fun y => [(44, int (y.1 : Int)), (43, int (x.heads.length : Int)), (42, hdsl x.heads), (10, .val (.slice none 0 0)), (9, .val y.2), (7, str nb2), (5, str nb1), (1, ptr p1)]) (fun y => [.row y.2 9 1 ((x.heads.take y.1).map encHd).length (elOf (fun a => [str a]) [] ((x.heads.take y.1).map encHd)), .obj p1 tAn (anC x)]) (fun y => y.1 ≤ x.heads.length) (fun y => x.heads.length - y.1) (0, .slice none 0 0) (by simp) (by simp) ⟨ref0 rfl, ref0 rfl, ref0 rfl, ref0 rfl, ref0 rfl, ref0 rfl, ref0 rfl, ref0 rfl, trivial⟩ ?_
    rintro ⟨i, u⟩ hi
    simp only at hi ⊢
    by_cases h1 : i < x.heads.length
    · have hfh := f.each _ (getD_mem (d := hd0) h1)
      have c3 := hencode_ok (x.heads.getD i hd0) (hs _ (getD_mem (d := hd0) h1))
      have hti := map_take encHd hd0 x.heads i h1
      have hlen : ((x.heads.take i).map encHd).length ≤ 64 := by rw [List.length_map, List.length_take]; omega
      rw [encO, hfh, if_pos rfl] at c3
      have hmx : ((x.heads.take i).map encHd).length + [encHd (x.heads.getD i hd0)].length ≤ maxLen ∧ (((x.heads.take i).map encHd).length + [encHd (x.heads.getD i hd0)].length) * 16 ≤ 140737488355328 := by simp only [maxLen, List.length_cons, List.length_nil]; omega
      generalize encHd (x.heads.getD i hd0) = e at *
      focus (
 (refine W.seq (W.region (Jx.lssI rfl rfl rfl (J.nil (N.seq (W.seq (W.cT rfl ?_)))))))
 (refine W.skip (N.seq (W.seq (W.block (W.seq (W.region (Jx.indexEl rfl rfl (by assumption) rfl rfl ?_)))))))
 (refine Jx.loadPPall rfl rfl rfl ?_)
 (refine J.alloc (by simp only [List.map_cons, List.map_nil]; rfl) rfl rfl ?_; intro b')
 (refine J.storeAll rfl rfl rfl 0 rfl rfl rfl ?_)
 (refine J.nil (N.seq (W.seq (W.region (Jx.loadAll rfl 0 rfl rfl rfl ?_)))))
 (refine J.call (c3) rfl (evs_args rfl) rfl ?_; rintro _ _ ⟨rfl, rfl⟩; simp only [la1, la2, la3])
 (refine Jx.move rfl rfl (Jx.extract rfl rfl rfl ?_))
 (refine Jx.extract rfl rfl rfl ?_)
 (refine Jx.assign rfl rfl (Jx.assign rfl rfl (J.nil (N.seq (W.region (Jx.move rfl rfl (Jx.move rfl rfl ?_)))))))
 (refine J.qs (Qs.buildTexts [e] rfl rfl rfl (by decide) (by decide)) rfl ?_)
 (refine J.appendAt (l := (x.heads.take i).map encHd) (l2 := [e]) 1 rfl rfl (SrcOK.sl rfl) rfl rfl hmx rfl ?_; intro v2 hv2)
 (refine Jx.assign rfl rfl (J.nil (N.seq (W.region (Jx.add64 rfl rfl (by omega) rfl ?_)))))
 (refine Jx.move rfl rfl (J.nil ?_))
 (refine id ?_; rotate_left))
      refine N.drop (List.sublist_cons_self _ _) ?_
      exact N.round (i + 1, v2) h1 (by simp only; omega) (by rw [hti]; rfl) ⟨ref0 rfl, ref0 rfl, ref0 rfl, ref0 rfl, ref0 rfl, ref0 rfl, ref0 rfl, ref0 rfl, trivial⟩
    · have hil : i = x.heads.length := by omega
      subst hil
      rw [List.take_length]
      refine W.freezeAt 0 9 rfl rfl (by rw [List.length_map]; simp only [maxLen]; omega) ?_
      have hlh := listB_len' (l := x.heads.map encHd) (k := 887) (n := 64) (by rw [List.length_map]; exact f3) (by decide) (fun s hs => by obtain ⟨y, hy, rfl⟩ := List.mem_map.1 hs; exact encHd_len ((fineHd_iff y).1 (f.each y hy))) (by decide)
      have cl := list_ok (x.heads.map encHd) (by rw [List.length_map]; omega) (fun s hs => by obtain ⟨y, hy, rfl⟩ := List.mem_map.1 hs; have := encHd_len ((fineHd_iff y).1 (f.each y hy)); omega)
      generalize listB (x.heads.map encHd) = lh at *
      generalize x.heads.map encHd = th at *
      focus (
 (refine W.seq (W.region (Jx.lssI rfl rfl rfl (J.nil (N.seq (W.seq (W.cF rfl ?_)))))))
 (refine W.exit (N.seq (W.seq (W.seq (W.region (Jx.fieldAddr rfl rfl ?_))))))
 (refine Jx.fieldAddr rfl rfl ?_)
 (refine Jx.load rfl 0 rfl rfl rfl ?_)
 (refine Jx.lenSl rfl rfl ?_)
 (refine Jx.move rfl rfl (J.nil (N.seq (W.block ?_))))
 (refine id ?_; rotate_left))
      refine W.rowNil 9 1 (elOf (fun a => [str a]) [] []) ?_
      refine W.loop (α := Nat × Value) (fun y => [(62, int (y.1 : Int)), (61, int (x.items.length : Int)), (60, itsl x.items), (10, .val y.2), (9, ssl th), (7, str nb2), (5, str nb1), (1, ptr p1)]) (fun y => [.row y.2 9 1 (flatI (x.items.take y.1)).length (elOf (fun a => [str a]) [] (flatI (x.items.take y.1))), .obj p1 tAn (anC x)]) (fun y => y.1 ≤ x.items.length) (fun y => x.items.length - y.1) (0, .slice none 0 0) (by simp) (by simp [flatI]) ⟨ref0 rfl, ref0 rfl, ref0 rfl, ref0 rfl, ref0 rfl, ref0 rfl, ref0 rfl, ref0 rfl, trivial⟩ ?_
      rintro ⟨i, u⟩ hi
      simp only at hi ⊢
      by_cases h2 : i < x.items.length
      · have hti := flat_take h2
        have hlen : (flatI (x.items.take i)).length ≤ 32 := by rw [flat_len, List.length_take]; omega
        have hmx : (flatI (x.items.take i)).length + [(x.items.getD i it0).key, (x.items.getD i it0).value].length ≤ maxLen ∧ ((flatI (x.items.take i)).length + [(x.items.getD i it0).key, (x.items.getD i it0).value].length) * 16 ≤ 140737488355328 := by simp only [maxLen, List.length_cons, List.length_nil]; omega
        focus (
 (refine W.seq (W.region (Jx.lssI rfl rfl rfl (J.nil (N.seq (W.seq (W.cT rfl ?_)))))))
 (refine W.skip (N.seq (W.seq (W.block (W.seq (W.region (Jx.indexEl rfl rfl (by assumption) rfl rfl ?_)))))))
 (refine Jx.loadPPall rfl rfl rfl ?_)
 (refine J.alloc (by simp only [List.map_cons, List.map_nil]; rfl) rfl rfl ?_; intro b')
 (refine J.storeAll rfl rfl rfl 0 rfl rfl rfl ?_)
 (refine J.nil (N.seq (W.region (Jx.move rfl rfl (Jx.fieldAddr rfl rfl ?_)))))
 (refine Jx.load rfl 0 rfl rfl rfl ?_)
 (refine Jx.fieldAddr rfl rfl ?_)
 (refine Jx.load rfl 0 rfl rfl rfl ?_)
 (refine J.qs (Qs.buildTexts [(x.items.getD i it0).key, (x.items.getD i it0).value] rfl rfl rfl (by decide) (by decide)) rfl ?_)
 (refine J.appendAt (l := flatI (x.items.take i)) (l2 := [(x.items.getD i it0).key, (x.items.getD i it0).value]) 1 rfl rfl (SrcOK.sl rfl) rfl rfl hmx rfl ?_; intro v2 hv2)
 (refine Jx.assign rfl rfl (J.nil (N.seq (W.region (Jx.add64 rfl rfl (by omega) rfl ?_)))))
 (refine Jx.move rfl rfl (J.nil ?_))
 (refine id ?_; rotate_left))
        refine N.drop (List.sublist_cons_self _ _) ?_
        exact N.round (i + 1, v2) h2 (by simp only; omega) (by rw [hti]; rfl) ⟨ref0 rfl, ref0 rfl, ref0 rfl, ref0 rfl, ref0 rfl, ref0 rfl, ref0 rfl, ref0 rfl, trivial⟩
      · have hil : i = x.items.length := by omega
        subst hil
        rw [List.take_length]
        have hfi : (flatI x.items).length ≤ 32 := by rw [flat_len]; omega
        have hfe : ∀ s ∈ flatI x.items, s.length ≤ 32 := fun s hs => by
          obtain ⟨y, hy, h⟩ := flat_mem hs
          have := f.items.2 y hy
          rcases h with rfl | rfl <;> omega
        refine W.freezeAt 0 10 rfl rfl (by simp only [maxLen]; omega) ?_
        have d1 := pencode_ok x.set
        have d2 := pencode_ok x.nxt
        have d3 := cencode_ok x.cert
        rw [show encO fineSet encSet x.set = encS x.set from rfl] at d1
        rw [show encO fineSet encSet x.nxt = encS x.nxt from rfl] at d2
        rw [show encO fineCt encCt x.cert = encC x.cert from rfl] at d3
        have s1 := encS_len f.set
        have s2 := encS_len f.nxt
        have s3 := encC_len f.cert
        have t1 := text_ok (encS x.set) (by omega)
        have t2 := text_ok (encS x.nxt) (by omega)
        have t3 := text_ok (encC x.cert) (by omega)
        have t4 := text_ok x.pnext (by omega)
        have u1 := textB_len s1 (by omega)
        have u2 := textB_len s2 (by omega)
        have u3 := textB_len s3 (by omega)
        have u4 := textB_len f5 (by omega)
        have l1 := list_ok x.nodes (by have := f.nodes.1; omega) (fun s hs => by have := f.nodes.2 s hs; omega)
        have l2 := list_ok (flatI x.items) (by omega) (fun s hs => by have := hfe s hs; omega)
        have l3 := list_ok x.pnodes (by have := f.pnodes.1; omega) (fun s hs => by have := f.pnodes.2 s hs; omega)
        have m1 := listB_len' (l := x.nodes) (k := 700) (n := 1024) f.nodes.1 (by decide) f.nodes.2 (by decide)
        have m2 := listB_len' (l := flatI x.items) (k := 32) (n := 32) hfi (by decide) hfe (by decide)
        have m3 := listB_len' (l := x.pnodes) (k := 700) (n := 1024) f.pnodes.1 (by decide) f.pnodes.2 (by decide)
        clear he
        generalize textB (encS x.set) = w1 at *
        generalize textB (encS x.nxt) = w2 at *
        generalize textB (encC x.cert) = w3 at *
        generalize textB x.pnext = w4 at *
        generalize encS x.set = z1 at *
        generalize encS x.nxt = z2 at *
        generalize encC x.cert = z3 at *
        generalize listB x.nodes = q1 at *
        generalize listB (flatI x.items) = q2 at *
        generalize listB x.pnodes = q3 at *
        generalize flatI x.items = fi at *
        focus (
 (refine W.seq (W.region (Jx.lssI rfl rfl rfl (J.nil (N.seq (W.seq (W.cF rfl ?_)))))))
 (refine W.exit (N.seq (W.seq (W.region (Jx.fieldAddr rfl rfl ?_)))))
 (refine Jx.load rfl 0 rfl rfl rfl ?_)
 (refine J.call (d1) rfl (evs_args rfl) rfl ?_; rintro _ _ ⟨rfl, rfl⟩; simp only [la1, la2, la3])
 (refine Jx.move rfl rfl (Jx.extract rfl rfl rfl ?_))
 (refine Jx.extract rfl rfl rfl ?_)
 (refine Jx.assign rfl rfl (Jx.assign rfl rfl (J.nil (N.seq (W.seq (W.region (Jx.fieldAddr rfl rfl ?_)))))))
 (refine Jx.load rfl 0 rfl rfl rfl ?_)
 (refine J.call (d2) rfl (evs_args rfl) rfl ?_; rintro _ _ ⟨rfl, rfl⟩; simp only [la1, la2, la3])
 (refine Jx.move rfl rfl (Jx.extract rfl rfl rfl ?_))
 (refine Jx.extract rfl rfl rfl ?_)
 (refine Jx.assign rfl rfl (Jx.assign rfl rfl (J.nil (N.seq (W.seq (W.region (Jx.fieldAddr rfl rfl ?_)))))))
 (refine Jx.loadAg rfl 0 rfl rfl rfl rfl ?_)
 (refine J.call (d3) rfl (evs_args rfl) rfl ?_; rintro _ _ ⟨rfl, rfl⟩; simp only [la1, la2, la3])
 (refine Jx.move rfl rfl (Jx.extract rfl rfl rfl ?_))
 (refine Jx.extract rfl rfl rfl ?_)
 (refine Jx.assign rfl rfl (Jx.assign rfl rfl (J.nil (N.seq (W.seq (W.region (Jx.move rfl rfl (Jx.move rfl rfl (Jx.cat rfl rfl (by first | omega | (simp only [List.length_append, List.length_cons, List.length_nil]; omega)) rfl ?_)))))))))
 (refine Jx.move rfl rfl ?_)
 (refine J.call (cl) rfl (evs_args rfl) rfl ?_; rintro _ _ ⟨rfl, rfl⟩; simp only [la1, la2, la3])
 (refine Jx.cat rfl rfl (by first | omega | (simp only [List.length_append, List.length_cons, List.length_nil]; omega)) rfl ?_)
 (refine Jx.move rfl rfl ?_)
 (refine J.call (t1) rfl (evs_args rfl) rfl ?_; rintro _ _ ⟨rfl, rfl⟩; simp only [la1, la2, la3])
 (refine Jx.cat rfl rfl (by first | omega | (simp only [List.length_append, List.length_cons, List.length_nil]; omega)) rfl ?_)
 (refine Jx.move rfl rfl ?_)
 (refine J.call (t2) rfl (evs_args rfl) rfl ?_; rintro _ _ ⟨rfl, rfl⟩; simp only [la1, la2, la3])
 (refine Jx.cat rfl rfl (by first | omega | (simp only [List.length_append, List.length_cons, List.length_nil]; omega)) rfl ?_)
 (refine Jx.move rfl rfl ?_)
 (refine J.call (t3) rfl (evs_args rfl) rfl ?_; rintro _ _ ⟨rfl, rfl⟩; simp only [la1, la2, la3])
 (refine Jx.cat rfl rfl (by first | omega | (simp only [List.length_append, List.length_cons, List.length_nil]; omega)) rfl ?_)
 (refine Jx.assign rfl rfl (J.nil (N.seq (W.seq ?_))))
 (refine W.draw follows ?_)
 (refine JD.calm rfl (by decide +kernel) ?_)
 (refine Cx.move rfl rfl ?_)
 (refine Cx.fieldAddr rfl rfl ?_)
 (refine Cx.load rfl 0 rfl rfl rfl ?_)
 (refine SegC.q (Qs.call (Lc := []) (l1) (fun s L' h => h) (List.Perm.refl _) (evs_args rfl)) rfl ?_)
 (refine Cx.cat rfl rfl (by first | omega | (simp only [List.length_append, List.length_cons, List.length_nil]; omega)) rfl ?_)
 (refine Cx.move rfl rfl ?_)
 (refine SegC.q (Qs.call (Lc := []) (l2) (fun s L' h => h) (List.Perm.refl _) (evs_args rfl)) rfl ?_)
 (refine Cx.cat rfl rfl (by first | omega | (simp only [List.length_append, List.length_cons, List.length_nil]; omega)) rfl ?_)
 (refine Cx.fieldAddr rfl rfl ?_)
 (refine Cx.fieldAddr rfl rfl ?_)
 (refine Cx.load rfl 0 rfl rfl rfl ?_)
 (refine SegC.q (Qs.call (Lc := []) (t4) (fun s L' h => h) (List.Perm.refl _) (evs_args rfl)) rfl ?_)
 (refine Cx.cat rfl rfl (by first | omega | (simp only [List.length_append, List.length_cons, List.length_nil]; omega)) rfl ?_)
 (refine Cx.fieldAddr rfl rfl ?_)
 (refine Cx.fieldAddr rfl rfl ?_)
 (refine Cx.load rfl 0 rfl rfl rfl ?_)
 (refine SegC.q (Qs.call (Lc := []) (l3) (fun s L' h => h) (List.Perm.refl _) (evs_args rfl)) rfl ?_)
 (refine Cx.cat rfl rfl (by first | omega | (simp only [List.length_append, List.length_cons, List.length_nil]; omega)) rfl ?_)
 (refine Cx.assign rfl rfl ?_)
 (refine Cx.assign rfl rfl ?_)
 (refine SegC.nil ?_)
 (refine N.seq (W.ret ?_))
 (refine id ?_; rotate_left))
        exact N.retD (rs := [.tmp 2, .tmp 3]) (L1 := []) rfl (.tmp rfl (.tmp rfl .nil)) (List.nil_sublist _) ⟨by simp [oneOr], rfl⟩
end Go.Proofs.Ytlfdhkahiaammaa
namespace Go.Proofs.Ytlfdhkahiaammaa
open Go Go.Sse
set_option linter.unusedVariables false
set_option linter.unusedSimpArgs false
set_option maxRecDepth 10000
abbrev tQr : Nat := 72
abbrev qrO (q b : Nat) (bad : Bool) : Own := .obj q tQr [ptr b, bool bad]
theorem hdecF (s : List UInt8) (hs : s.length ≤ 1099511627776) : FnC Try.prog 63 [str s] [] (fun v L => v = .tup [.agg (hdC ((decH s).getD hd0)), int (codeO (decH s) 190)] ∧ L = []) := by
  refine (hdecode_ok s hs).mono ?_
  rintro v L ⟨⟨o, ho, rfl⟩, rfl⟩
  rw [apHd.decF ho]
  exact ⟨rfl, rfl⟩
theorem pdecF (s : List UInt8) (hs : s.length ≤ 1099511627776) : FnC Try.prog 64 [str s] [] (fun v L => v = .tup [msl ((decS s).getD []), int (codeO (decS s) 3)] ∧ L = []) := by
  refine (pdecode_ok s hs).mono ?_
  rintro v L ⟨⟨o, ho, rfl⟩, rfl⟩
  rw [apSet.decF ho]
  exact ⟨rfl, rfl⟩
theorem cdecF (s : List UInt8) (hs : s.length ≤ 1099511627776) : FnC Try.prog 65 [str s] [] (fun v L => v = .tup [.agg (ctC ((decC s).getD ct0)), int (codeO (decC s) 3)] ∧ L = []) := by
  refine (cdecode_ok s hs).mono ?_
  rintro v L ⟨⟨o, ho, rfl⟩, rfl⟩
  rw [apCt.decF ho]
  exact ⟨rfl, rfl⟩
theorem bad_code {α : Type} (bad : Bool) (o : Option α) (e : Int) (he : e ≠ 0) : (bad || decide (codeO o e ≠ 0)) = (bad || o.isNone) := by cases o <;> simp [he]
set_option maxHeartbeats 4000000 in
theorem qheads_ok (q b : Nat) (bad : Bool) (s : List UInt8) (a : Nat) (c : Int) (ha : a ≤ s.length) (hs : s.length ≤ 1099511627776) : FnC Try.prog 32 [ptr q] [qrO q b bad, rdO b ⟨s, a, c⟩]
    (fun v L => ∃ l bd a' c', v = hdsl l ∧ L = [qrO q b (bad || bd), rdO b ⟨s, a', c'⟩] ∧ a' ≤ s.length ∧ headsP (lf s a c) = (l, bd, lf s a' c')) := by
  refine FnC.intro Try.func32 rfl Try.ntmps32 rfl fun Z w0 hG => ?_
  focus (
 (refine W.seq (W.region (Jx.assign rfl rfl (J.nil (N.seq (W.seq (W.region (Jx.assign rfl rfl (J.nil (N.seq (W.seq (W.seq (W.region (Jx.move rfl rfl ?_))))))))))))))
 (refine Jx.nilCheck rfl rfl ?_)
 (refine Jx.fieldAddr rfl rfl ?_)
 (refine Jx.load rfl 0 rfl rfl rfl ?_)
 (refine J.call1 1 ((rd_List b s a c 64 65536 ha hs (by decide))) rfl (evs_args rfl) rfl (by rintro _ _ ⟨ts, a1, c1, rfl, rfl, ha1, hl⟩; exact ⟨_, rfl⟩) ?_; rintro _ _ ⟨ts, a1, c1, rfl, ⟨⟩, ha1, hl⟩; simp only [la4, la5])
 (refine Jx.lenSl rfl rfl ?_)
 (refine Jx.move rfl rfl (J.nil (N.seq (W.block ?_))))
 (refine id ?_; rotate_left))
  have hmem := listP_mem (by decide) hl
  have h64 : ts.length ≤ 64 := by
    cases hst : lf s a1 c1 with
    | none => rw [hst] at hl; rw [listP_short hl]; simp
    | some r => rw [hst] at hl; have := (listP_good hl).2.1; omega
  refine W.rowNil tHd 11 (elOf hdC hd0 []) ?_
  refine W.loop (α := Nat × Value) (fun y => [(14, int (y.1 : Int)), (13, int (ts.length : Int)), (12, ssl ts), (3, .val y.2), (0, ptr q)]) (fun y => [.row y.2 tHd 11 ((ts.take y.1).map (fun t => (decH t).getD hd0)).length (elOf hdC hd0 ((ts.take y.1).map (fun t => (decH t).getD hd0))), qrO q b (bad || (ts.take y.1).any (fun t => (decH t).isNone)), rdO b ⟨s, a1, c1⟩]) (fun y => y.1 ≤ ts.length) (fun y => ts.length - y.1) (0, .slice none 0 0) (by simp) (by simp) ⟨ref0 rfl, ref0 rfl, ref0 rfl, ref0 rfl, ref0 rfl, trivial⟩ ?_
  rintro ⟨i, u⟩ hi
  simp only at hi ⊢
  by_cases h1 : i < ts.length
  · have ch := hdecF (ts.getD i []) (by have := hmem _ (getD_mem (d := []) h1); omega)
    have hti : (ts.take i).map (fun t => (decH t).getD hd0) ++ [(decH (ts.getD i [])).getD hd0] = (ts.take (i + 1)).map (fun t => (decH t).getD hd0) := map_take (fun t => (decH t).getD hd0) [] ts i h1
    have hta : (ts.take (i + 1)).any (fun t => (decH t).isNone) = ((ts.take i).any (fun t => (decH t).isNone) || (decH (ts.getD i [])).isNone) := by rw [take_snoc (d := []) h1, List.any_append]; simp
    have hlen : ((ts.take i).map (fun t => (decH t).getD hd0)).length ≤ 64 := by rw [List.length_map, List.length_take]; omega
    have hmx : ∀ x : Hd, ((ts.take i).map (fun t => (decH t).getD hd0)).length + [x].length ≤ maxLen ∧ (((ts.take i).map (fun t => (decH t).getD hd0)).length + [x].length) * 152 ≤ 140737488355328 := fun x => by simp only [maxLen, List.length_cons, List.length_nil]; omega
    have hbc := bad_code (bad || (ts.take i).any (fun t => (decH t).isNone)) (decH (ts.getD i [])) 190 (by decide)
    generalize decH (ts.getD i []) = o at *
    generalize (ts.take i).map (fun t => (decH t).getD hd0) = acc at *
    generalize (ts.take i).any (fun t => (decH t).isNone) = bi at *
    generalize hx : o.getD hd0 = x at *
    focus (
 (refine W.seq (W.region (Jx.lssI rfl rfl rfl (J.nil (N.seq (W.seq (W.cT rfl ?_)))))))
 (refine W.skip (N.seq (W.seq (W.block (W.seq (W.region (Jx.indexEl rfl rfl (by assumption) rfl rfl ?_)))))))
 (refine Jx.loadPP rfl rfl ?_)
 (refine Jx.assign rfl rfl (J.nil (N.seq (W.seq (W.region (Jx.move rfl rfl ?_))))))
 (refine J.call (ch) rfl (evs_args rfl) rfl ?_; rintro _ _ ⟨rfl, rfl⟩; simp only [la1, la2, la3])
 (refine Jx.move rfl rfl (Jx.extract rfl rfl rfl ?_))
 (refine Jx.extract rfl rfl rfl ?_)
 (refine J.alloc (by simp only [List.map_cons, List.map_nil]; rfl) rfl rfl ?_; intro b')
 (refine J.storeAll rfl rfl rfl 0 rfl rfl rfl ?_)
 (refine Jx.assign rfl rfl (J.nil (N.seq (W.seq (W.region (Jx.move rfl rfl (Jx.move rfl rfl (Jx.nilCheck rfl rfl ?_))))))))
 (refine Jx.fieldAddr rfl rfl ?_)
 (refine Jx.load rfl 2 rfl rfl rfl ?_)
 (refine Jx.move rfl rfl ?_)
 (refine' J.guardOr rfl rfl rfl rfl rfl rfl rfl rfl (fun _ => ?_) ?_; rotate_left)
 (refine J.gY rfl rfl rfl ?_)
 (refine Jx.move rfl rfl (J.gY rfl rfl rfl ?_))
 (refine Jx.neqI rfl rfl rfl (J.nil ?_))
 (refine N.joinedN rfl rfl rfl)
 (refine Jx.nilCheck rfl rfl ?_)
 (refine Jx.fieldAddr rfl rfl ?_)
 (refine J.st 2 rfl rfl rfl rfl rfl rfl ?_)
 (refine J.nil (N.seq (W.region (Jx.move rfl rfl (Jx.loadAll rfl 0 rfl rfl rfl ?_)))))
 (refine J.qs (Qs.buildOne hdC hd0 x rfl rfl rfl rfl rfl rfl rfl) rfl ?_)
 (refine J.appendAt (l := acc) (l2 := [x]) 1 rfl rfl (SrcOK.sl rfl) rfl rfl (hmx x) rfl ?_; intro v2 hv2)
 (refine Jx.assign rfl rfl (J.nil (N.seq (W.region (Jx.add64 rfl rfl (by omega) rfl ?_)))))
 (refine Jx.move rfl rfl (J.nil ?_))
 (refine id ?_; rotate_left))
    refine N.drop (List.sublist_cons_self _ _) ?_
    exact N.round (i + 1, v2) h1 (by simp only; omega) (by rw [hta, ← hti, ← Bool.or_assoc, ← hbc]; rfl) ⟨ref0 rfl, ref0 rfl, ref0 rfl, ref0 rfl, ref0 rfl, trivial⟩
  · have hil : i = ts.length := by omega
    subst hil
    rw [List.take_length]
    have hp : headsP (lf s a c) = (ts.map (fun t => (decH t).getD hd0), ts.any (fun t => (decH t).isNone), lf s a1 c1) := by rw [headsP, hl]
    have hml : (ts.map (fun t => (decH t).getD hd0)).length ≤ 64 := by rw [List.length_map]; exact h64
    generalize ts.map (fun t => (decH t).getD hd0) = hd at *
    generalize ts.any (fun t => (decH t).isNone) = bd at *
    refine W.freezeAt 0 3 rfl rfl (by simp only [maxLen]; omega) ?_
    focus (
 (refine W.seq (W.region (Jx.lssI rfl rfl rfl (J.nil (N.seq (W.seq (W.cF rfl ?_)))))))
 (refine W.exit (N.seq (W.seq (W.region (Jx.move rfl rfl (Jx.assign rfl rfl (J.nil (N.seq (W.ret ?_)))))))))
 (refine id ?_; rotate_left))
    exact N.ret (rs := [.tmp 2]) rfl (.tmp rfl .nil) ⟨hd, bd, a1, c1, rfl, rfl, ha1, hp⟩
set_option maxHeartbeats 4000000 in
theorem qsetR_ok (q b : Nat) (bad : Bool) (s : List UInt8) (a : Nat) (c : Int) (ha : a ≤ s.length) (hs : s.length ≤ 1099511627776) : FnC Try.prog 33 [ptr q] [qrO q b bad, rdO b ⟨s, a, c⟩]
    (fun v L => ∃ l bd a' c', v = msl l ∧ L = [qrO q b (bad || bd), rdO b ⟨s, a', c'⟩] ∧ a' ≤ s.length ∧ setP (lf s a c) = (l, bd, lf s a' c')) := by
  refine FnC.intro Try.func33 rfl Try.ntmps33 rfl fun Z w0 hG => ?_
  focus (
 (refine W.seq (W.region (Jx.assign rfl rfl (J.nil (N.seq (W.seq (W.region (Jx.move rfl rfl (Jx.nilCheck rfl rfl ?_)))))))))
 (refine Jx.fieldAddr rfl rfl ?_)
 (refine Jx.load rfl 0 rfl rfl rfl ?_)
 (refine J.call1 1 ((rd_Text b s a c 65536 ha hs)) rfl (evs_args rfl) rfl (by rintro _ _ ⟨t, a1, c1, rfl, rfl, ha1, hl⟩; exact ⟨_, rfl⟩) ?_; rintro _ _ ⟨t, a1, c1, rfl, ⟨⟩, ha1, hl⟩; simp only [la4, la5])
 (refine Jx.assign rfl rfl (J.nil (N.seq (W.seq (W.seq (W.region (Jx.move rfl rfl (Jx.eqlS rfl rfl rfl (J.nil (N.seq ?_))))))))))
 (refine id ?_; rotate_left))
  refine W.cond rfl (fun hb => ?_) (fun hb => ?_)
  · have hb := of_decide_eq_true hb
    focus (
 (refine W.seq (W.region (Jx.assign rfl rfl (J.nil (N.seq (W.ret (N.noGotoRet ?_)))))))
 (refine id ?_; rotate_left))
    refine N.told (G := [(2, msl [])]) ⟨⟨_, rfl, Sub.nil 2 _⟩, trivial⟩ ?_
    exact N.ret (rs := [.tmp 2]) rfl (.tmp rfl .nil) ⟨[], false, a1, c1, rfl, by rw [Bool.or_false], ha1, by simp only [setP, hl, hb, if_true]⟩
  · have hb := of_decide_eq_false hb
    have ch := pdecF t (by have := bound_text hl; omega)
    have hbc := bad_code bad (decS t) 3 (by decide)
    have hp : setP (lf s a c) = ((decS t).getD [], (decS t).isNone, lf s a1 c1) := by simp only [setP, hl, hb, if_false]
    generalize decS t = o at *
    focus (
 (refine W.skip (N.seq (W.seq (W.region (Jx.move rfl rfl ?_)))))
 (refine J.call (ch) rfl (evs_args rfl) rfl ?_; rintro _ _ ⟨rfl, rfl⟩; simp only [la1, la2, la3])
 (refine Jx.move rfl rfl (Jx.extract rfl rfl rfl ?_))
 (refine Jx.extract rfl rfl rfl ?_)
 (refine Jx.assign rfl rfl (Jx.assign rfl rfl (J.nil (N.seq (W.seq (W.region (Jx.move rfl rfl (Jx.move rfl rfl (Jx.nilCheck rfl rfl ?_)))))))))
 (refine Jx.fieldAddr rfl rfl ?_)
 (refine Jx.load rfl 0 rfl rfl rfl ?_)
 (refine Jx.move rfl rfl ?_)
 (refine' J.guardOr rfl rfl rfl rfl rfl rfl rfl rfl (fun _ => ?_) ?_; rotate_left)
 (refine J.gY rfl rfl rfl ?_)
 (refine Jx.move rfl rfl (J.gY rfl rfl rfl ?_))
 (refine Jx.neqI rfl rfl rfl (J.nil ?_))
 (refine N.joinedN rfl rfl rfl)
 (refine Jx.nilCheck rfl rfl ?_)
 (refine Jx.fieldAddr rfl rfl ?_)
 (refine J.st 0 rfl rfl rfl rfl rfl rfl ?_)
 (refine J.nil (N.seq (W.seq (W.region (Jx.move rfl rfl (Jx.assign rfl rfl (J.nil (N.seq (W.ret ?_)))))))))
 (refine id ?_; rotate_left))
    exact N.ret (rs := [.tmp 2]) rfl (.tmp rfl .nil) ⟨o.getD [], o.isNone, a1, c1, rfl, by rw [← hbc]; rfl, ha1, hp⟩
set_option maxHeartbeats 4000000 in
theorem qcert_ok (q b : Nat) (bad : Bool) (s : List UInt8) (a : Nat) (c : Int) (ha : a ≤ s.length) (hs : s.length ≤ 1099511627776) : FnC Try.prog 34 [ptr q] [qrO q b bad, rdO b ⟨s, a, c⟩]
    (fun v L => ∃ l bd a' c', v = .agg (ctC l) ∧ L = [qrO q b (bad || bd), rdO b ⟨s, a', c'⟩] ∧ a' ≤ s.length ∧ certP (lf s a c) = (l, bd, lf s a' c')) := by
  refine FnC.intro Try.func34 rfl Try.ntmps34 rfl fun Z w0 hG => ?_
  focus (
 (refine W.seq (W.region ?_))
 (refine J.alloc (by simp only [List.map_cons, List.map_nil]; rfl) rfl rfl ?_; intro b')
 (refine J.nil (N.seq (W.seq (W.region (Jx.move rfl rfl (Jx.nilCheck rfl rfl ?_))))))
 (refine Jx.fieldAddr rfl rfl ?_)
 (refine Jx.load rfl 1 rfl rfl rfl ?_)
 (refine J.call1 2 (rd_Text b s a c 65536 ha hs) rfl (evs_args rfl) rfl (by rintro _ _ ⟨t, a1, c1, rfl, rfl, ha1, hl⟩; exact ⟨_, rfl⟩) ?_; rintro _ _ ⟨t, a1, c1, rfl, ⟨⟩, ha1, hl⟩; simp only [la4, la5])
 (refine Jx.assign rfl rfl (J.nil (N.seq (W.seq (W.seq (W.region (Jx.move rfl rfl (Jx.eqlS rfl rfl rfl (J.nil (N.seq ?_))))))))))
 (refine id ?_; rotate_left))
  refine W.cond rfl (fun hb => ?_) (fun hb => ?_)
  · have hb := of_decide_eq_true hb
    focus (
 (refine W.seq (W.region (Jx.buildB rfl rfl rfl rfl rfl ?_)))
 (refine J.storeAll rfl rfl rfl 0 rfl rfl rfl ?_)
 (refine J.nil (N.seq (W.ret (N.noGotoRet ?_))))
 (refine id ?_; rotate_left))
    refine N.objSub 0 (ctC ct0) rfl ctz_sub rfl ?_
    exact N.retD (rs := [.cell 2 tCt]) (L1 := [qrO q b bad, rdO b ⟨s, a1, c1⟩]) rfl (.cell rfl 0 rfl agCt .nil) (List.sublist_cons_self _ _) ⟨ct0, false, a1, c1, rfl, by rw [Bool.or_false], ha1, by simp only [certP, hl, hb, if_true]⟩
  · have hb := of_decide_eq_false hb
    have ch := cdecF t (by have := bound_text hl; omega)
    have hbc := bad_code bad (decC t) 3 (by decide)
    have hp : certP (lf s a c) = ((decC t).getD ct0, (decC t).isNone, lf s a1 c1) := by simp only [certP, hl, hb, if_false]
    generalize decC t = o at *
    generalize o.getD ct0 = x at *
    focus (
 (refine W.skip (N.seq (W.seq (W.region (Jx.move rfl rfl ?_)))))
 (refine J.call (ch) rfl (evs_args rfl) rfl ?_; rintro _ _ ⟨rfl, rfl⟩; simp only [la1, la2, la3])
 (refine Jx.move rfl rfl (Jx.extract rfl rfl rfl ?_))
 (refine Jx.extract rfl rfl rfl ?_)
 (refine J.alloc (by simp only [List.map_cons, List.map_nil]; rfl) rfl rfl ?_; intro b')
 (refine J.storeAll rfl rfl rfl 0 rfl rfl rfl ?_)
 (refine Jx.assign rfl rfl (J.nil (N.seq (W.seq (W.region (Jx.move rfl rfl (Jx.move rfl rfl (Jx.nilCheck rfl rfl ?_))))))))
 (refine Jx.fieldAddr rfl rfl ?_)
 (refine Jx.load rfl 2 rfl rfl rfl ?_)
 (refine Jx.move rfl rfl ?_)
 (refine' J.guardOr rfl rfl rfl rfl rfl rfl rfl rfl (fun _ => ?_) ?_; rotate_left)
 (refine J.gY rfl rfl rfl ?_)
 (refine Jx.move rfl rfl (J.gY rfl rfl rfl ?_))
 (refine Jx.neqI rfl rfl rfl (J.nil ?_))
 (refine N.joinedN rfl rfl rfl)
 (refine Jx.nilCheck rfl rfl ?_)
 (refine Jx.fieldAddr rfl rfl ?_)
 (refine J.st 2 rfl rfl rfl rfl rfl rfl ?_)
 (refine J.nil (N.seq (W.seq (W.region (Jx.loadAll rfl 0 rfl rfl rfl ?_)))))
 (refine J.storeAll rfl rfl rfl 1 rfl rfl rfl ?_)
 (refine J.nil (N.seq (W.ret ?_)))
 (refine id ?_; rotate_left))
    exact N.retD (rs := [.cell 2 tCt]) (L1 := [qrO q b (bad || decide (codeO o 3 ≠ 0)), rdO b ⟨s, a1, c1⟩]) rfl (.cell rfl 1 rfl agCt .nil) (.cons _ (.cons _ (.refl _))) ⟨x, o.isNone, a1, c1, rfl, by rw [hbc], ha1, hp⟩
end Go.Proofs.Ytlfdhkahiaammaa
namespace Go.Proofs.Ytlfdhkahiaammaa
open Go Go.Sse
set_option linter.unusedVariables false
set_option linter.unusedSimpArgs false
set_option maxRecDepth 10000
theorem pairs_len : ∀ (l : List (List UInt8)), (pairsI l).length = l.length / 2
  | [] => rfl
  | [a] => by simp [pairsI]
  | a :: b :: r => by simp only [pairsI, List.length_cons, pairs_len r]; omega
theorem pairs_take : ∀ {l : List (List UInt8)} {j : Nat}, 2 * j + 1 < l.length → pairsI (l.take (2 * (j + 1))) = pairsI (l.take (2 * j)) ++ [⟨l.getD (2 * j) [], l.getD (2 * j + 1) []⟩]
  | [], j, h => by simp at h
  | [a], j, h => by simp at h
  | a :: b :: r, 0, h => by simp [pairsI]
  | a :: b :: r, j + 1, h => by
    simp only [List.length_cons] at h
    have ih := pairs_take (l := r) (j := j) (by omega)
    have e1 : 2 * (j + 1 + 1) = (2 * (j + 1)) + 2 := by omega
    have e2 : 2 * (j + 1) = 2 * j + 2 := by omega
    have e3 : 2 * (j + 1) + 1 = (2 * j + 1) + 2 := by omega
    rw [e1, e3, show (a :: b :: r).take (2 * (j + 1) + 2) = a :: b :: r.take (2 * (j + 1)) from rfl, e2, show (a :: b :: r).take (2 * j + 2) = a :: b :: r.take (2 * j) from rfl, pairsI, pairsI, ← e2, ih]
    rfl
theorem pairs_done {l : List (List UInt8)} {j : Nat} (h : ¬ 2 * j + 1 < l.length) (h2 : 2 * j ≤ l.length) : pairsI (l.take (2 * j)) = pairsI l := by
  have key : ∀ (j : Nat) (l : List (List UInt8)), ¬ 2 * j + 1 < l.length → 2 * j ≤ l.length → pairsI (l.take (2 * j)) = pairsI l := by
    intro j
    induction j with
    | zero =>
      intro l h h2
      match l with
      | [] => rfl
      | [a] => rfl
      | a :: b :: r => simp at h
    | succ j ih =>
      intro l h h2
      match l with
      | [] => simp at h2
      | [a] => simp at h2; omega
      | a :: b :: r =>
        simp only [List.length_cons] at h h2
        rw [show 2 * (j + 1) = 2 * j + 2 by omega, show (a :: b :: r).take (2 * j + 2) = a :: b :: r.take (2 * j) from rfl, pairsI, pairsI, ih r (by omega) (by omega)]
  exact key j l h h2
set_option maxHeartbeats 8000000 in
theorem qpageR_ok (q b : Nat) (bad : Bool) (s : List UInt8) (a : Nat) (c : Int) (ha : a ≤ s.length) (hs : s.length ≤ 1099511627776) : FnC Try.prog 36 [ptr q] [qrO q b bad, rdO b ⟨s, a, c⟩]
    (fun v L => ∃ its bd pn pns a' c', v = .agg [itsl its, str pn, ssl pns] ∧ L = [qrO q b (bad || bd), rdO b ⟨s, a', c'⟩] ∧ a' ≤ s.length ∧ ∃ s8 s9, itemsP (lf s a c) = (its, bd, s8) ∧ textP 8 s8 = (pn, s9) ∧ listP 1024 700 s9 = (pns, lf s a' c')) := by
  refine FnC.intro Try.func36 rfl Try.ntmps36 rfl fun Z w0 hG => ?_
  focus (
 (refine W.seq (W.region ?_))
 (refine J.alloc (by simp only [List.map_cons, List.map_nil]; rfl) rfl rfl ?_; intro b')
 (refine J.nil (N.seq (W.seq (W.region (Jx.move rfl rfl (Jx.nilCheck rfl rfl ?_))))))
 (refine Jx.fieldAddr rfl rfl ?_)
 (refine Jx.load rfl 1 rfl rfl rfl ?_)
 (refine J.call1 2 (rd_List b s a c 32 32 ha hs (by decide)) rfl (evs_args rfl) rfl (by rintro _ _ ⟨ts, a1, c1, rfl, rfl, ha1, hl⟩; exact ⟨_, rfl⟩) ?_; rintro _ _ ⟨ts, a1, c1, rfl, ⟨⟩, ha1, hl⟩; simp only [la4, la5])
 (refine Jx.assign rfl rfl (J.nil (N.seq (W.seq (W.region ?_)))))
 (refine J.alloc (by simp only [List.map_cons, List.map_nil]; rfl) rfl rfl ?_; intro b')
 (refine J.nil (N.seq (W.seq (W.seq (W.region (Jx.assign rfl rfl (J.nil (N.seq (W.block ?_)))))))))
 (refine id ?_; rotate_left))
  rename_i p2
  obtain ⟨p4, hp4⟩ : ∃ x, x = b' := ⟨_, rfl⟩
  subst hp4
  have h32 : ts.length ≤ 32 := by
    cases hst : lf s a1 c1 with
    | none => rw [hst] at hl; rw [listP_short hl]; simp
    | some r => rw [hst] at hl; have := (listP_good hl).2.1; omega
  refine W.rowNil 69 2 (elOf itC it0 []) ?_
  refine W.loop (α := Nat × Value) (fun y => [(5, int ((2 * y.1 : Nat) : Int)), (3, ssl ts), (4, ptr p4), (2, ptr p2), (0, ptr q)]) (fun y => [.row y.2 69 2 (pairsI (ts.take (2 * y.1))).length (elOf itC it0 (pairsI (ts.take (2 * y.1)))), .obj p4 tPg [.val y.2, str [], .val (.slice none 0 0)], .obj p2 tPg [.val (.slice none 0 0), str [], .val (.slice none 0 0)], qrO q b bad, rdO b ⟨s, a1, c1⟩]) (fun y => 2 * y.1 ≤ ts.length) (fun y => ts.length - 2 * y.1) (0, .slice none 0 0) (by simp) (by simp [pairsI]) ⟨ref0 rfl, ref0 rfl, ref0 rfl, ref0 rfl, ref0 rfl, trivial⟩ ?_
  rintro ⟨j, u⟩ hi
  simp only at hi ⊢
  have hj1 : ((2 * j : Nat) : Int) + 1 = ((2 * j + 1 : Nat) : Int) := by omega
  have hj2 : ((2 * j : Nat) : Int) + 2 = ((2 * (j + 1) : Nat) : Int) := by omega
  by_cases h1 : 2 * j + 1 < ts.length
  · have h0 : 2 * j < ts.length := by omega
    have hti := pairs_take h1
    have hlen : (pairsI (ts.take (2 * j))).length ≤ 32 := by rw [pairs_len, List.length_take]; omega
    have hmx : ∀ x : It, (pairsI (ts.take (2 * j))).length + [x].length ≤ maxLen ∧ ((pairsI (ts.take (2 * j))).length + [x].length) * 32 ≤ 140737488355328 := fun x => by simp only [maxLen, List.length_cons, List.length_nil]; omega
    generalize pairsI (ts.take (2 * j)) = acc at *
    focus (
 (refine W.seq (W.seq (W.region (Jx.move rfl rfl ?_))))
 (refine Jx.add64 rfl rfl (by omega) rfl ?_; rw [hj1])
 (refine Jx.move rfl rfl (Jx.lenSl rfl rfl ?_))
 (refine Jx.lssI rfl rfl rfl (J.nil (N.seq (W.cT rfl ?_))))
 (refine W.skip (N.seq (W.seq (W.block ?_))))
 (refine W.draw follows ?_)
 (refine JD.begin 16 rfl ?_; refine JP.more [0, 1, 2, 3, 4, 5, 6, 7, 8, 9, 10, 11, 12] _ rfl (by decide +kernel) ?_)
 (refine Cx.fieldAddr rfl rfl ?_)
 (refine Cx.load rfl 1 rfl rfl rfl ?_)
 (refine Cx.move rfl rfl ?_)
 (refine Cx.move rfl rfl ?_)
 (refine Cx.indexEl rfl rfl (by assumption) rfl rfl ?_)
 (refine Cx.loadPP rfl rfl ?_)
 (refine Cx.move rfl rfl ?_)
 (refine Cx.move rfl rfl ?_)
 (refine Cx.add64 rfl rfl (by omega) rfl ?_)
 (refine Cx.indexEl rfl rfl (by assumption) rfl rfl ?_)
 (refine Cx.loadPP rfl rfl ?_)
 (refine Cx.buildB rfl rfl rfl rfl rfl ?_)
 (refine SegC.q (Qs.buildOne itC it0 ⟨ts.getD (2 * j) [], ts.getD (2 * j + 1) []⟩ rfl rfl rfl rfl rfl rfl rfl) rfl ?_)
 (refine SegC.nil ?_)
 (refine JP.append (idx := [0, 1, 2, 3, 4, 5, 6, 7, 8, 9, 10, 11, 12]) (m := acc) (m2 := [⟨ts.getD (2 * j) [], ts.getD (2 * j + 1) []⟩]) 13 [19, 30] [0, 1, 2, 3, 4, 5, 6, 7, 8, 9, 10, 11, 12, 13] [] (by decide +kernel) rfl ?_ rfl (SrcOK.sl rfl) rfl rfl (hmx _) rfl ?_; rotate_left; intro v' hv'; rotate_left)
 (refine Cx.fieldAddr rfl rfl ?_)
 (refine Cx.load rfl 1 rfl rfl rfl ?_)
 (refine Cx.move rfl rfl ?_)
 (refine Cx.move rfl rfl ?_)
 (refine Cx.indexEl rfl rfl (by assumption) rfl rfl ?_)
 (refine Cx.loadPP rfl rfl ?_)
 (refine Cx.move rfl rfl ?_)
 (refine Cx.move rfl rfl ?_)
 (refine Cx.add64 rfl rfl (by omega) rfl ?_)
 (refine Cx.indexEl rfl rfl (by assumption) rfl rfl ?_)
 (refine Cx.loadPP rfl rfl ?_)
 (refine Cx.buildB rfl rfl rfl rfl rfl ?_)
 (refine SegC.q (Qs.buildOne itC it0 ⟨ts.getD (2 * j) [], ts.getD (2 * j + 1) []⟩ rfl rfl rfl rfl rfl rfl rfl) rfl ?_)
 (refine SegC.nil ?_)
 (refine Ag.cons rfl ?_)
 (refine Ag.cons rfl ?_)
 (refine Ag.cons rfl ?_)
 (refine Ag.cons rfl ?_)
 (refine Ag.cons rfl ?_)
 (refine Ag.cons rfl ?_)
 (refine Ag.cons rfl ?_)
 (refine Ag.cons rfl ?_)
 (refine Ag.cons rfl ?_)
 (refine Ag.cons rfl ?_)
 (refine Ag.cons rfl ?_)
 (refine Ag.cons rfl ?_)
 (refine Ag.cons rfl ?_)
 (refine Ag.nil)
 (refine JP.tail (idx := []) 14 (by decide +kernel) (by decide +kernel) rfl rfl ?_ ?_)
 (refine SegC.nil ?_)
 (refine Ag.nil)
 (refine Jx.fieldAddr rfl rfl ?_)
 (refine J.store rfl rfl (One.val hv') 1 rfl rfl rfl rfl ?_)
 (refine J.nil (N.seq (W.region (Jx.move rfl rfl ?_))))
 (refine Jx.add64 rfl rfl (by omega) rfl ?_; rw [hj1])
 (refine Jx.assign rfl rfl (J.nil ?_))
 (refine id ?_; rotate_left))
    exact N.round (j + 1, v') h1 (by simp only; omega) (by rw [hti]; rfl) ⟨ref0 rfl, ref0 rfl, ref0 rfl, ref0 rfl, ref0 rfl, trivial⟩
  · have hdone := pairs_done h1 hi
    rw [hdone]
    have hlen : (pairsI ts).length ≤ 32 := by rw [pairs_len]; omega
    have hp : itemsP (lf s a c) = (pairsI ts, decide (ts.length % 2 = 1), lf s a1 c1) := by rw [itemsP, hl]
    have hodd : decide ((ts.length : Int) % 2 = 1) = decide (ts.length % 2 = 1) := decide_eq_decide.2 (by omega)
    generalize pairsI ts = its at *
    refine W.freezeCell 0 0 0 rfl rfl rfl (by simp only [maxLen]; omega) rfl ?_
    focus (
 (refine W.seq (W.seq (W.region (Jx.move rfl rfl (Jx.add64 rfl rfl (by omega) rfl ?_)))))
 (refine Jx.move rfl rfl (Jx.lenSl rfl rfl ?_))
 (refine Jx.lssI rfl rfl rfl (J.nil (N.seq (W.cF rfl ?_))))
 (refine W.exit (N.seq (W.seq (W.region (Jx.move rfl rfl (Jx.move rfl rfl (Jx.nilCheck rfl rfl ?_)))))))
 (refine Jx.fieldAddr rfl rfl ?_)
 (refine Jx.load rfl 2 rfl rfl rfl ?_)
 (refine Jx.move rfl rfl ?_)
 (refine' J.guardOr rfl rfl rfl rfl rfl rfl rfl rfl (fun _ => ?_) ?_; rotate_left)
 (refine J.gY rfl rfl rfl ?_)
 (refine Jx.move rfl rfl (J.gY rfl rfl rfl ?_))
 (refine Jx.lenSl rfl rfl ?_)
 (refine J.gY rfl rfl rfl ?_)
 (refine Jx.rem64 rfl rfl (by omega) (by omega) rfl ?_)
 (refine J.gY rfl rfl rfl ?_)
 (refine Jx.eqlI rfl rfl rfl (J.nil ?_))
 (refine N.joinedN rfl rfl rfl)
 (refine Jx.nilCheck rfl rfl ?_)
 (refine Jx.fieldAddr rfl rfl ?_)
 (refine J.st 2 rfl rfl rfl rfl rfl rfl ?_)
 (refine J.nil (N.seq (W.seq (W.region (Jx.move rfl rfl (Jx.nilCheck rfl rfl ?_))))))
 (refine Jx.fieldAddr rfl rfl ?_)
 (refine Jx.load rfl 2 rfl rfl rfl ?_)
 (refine J.call1 3 (rd_Text b s a1 c1 8 ha1 hs) rfl (evs_args rfl) rfl (by rintro _ _ ⟨t, a2, c2, rfl, rfl, ha2, ht⟩; exact ⟨_, rfl⟩) ?_; rintro _ _ ⟨t, a2, c2, rfl, ⟨⟩, ha2, ht⟩; simp only [la4, la5])
 (refine Jx.fieldAddr rfl rfl ?_)
 (refine J.st 0 rfl rfl rfl rfl rfl rfl ?_)
 (refine J.nil (N.seq (W.seq (W.region (Jx.move rfl rfl (Jx.nilCheck rfl rfl ?_))))))
 (refine Jx.fieldAddr rfl rfl ?_)
 (refine Jx.load rfl 2 rfl rfl rfl ?_)
 (refine J.call1 3 (rd_List b s a2 c2 1024 700 ha2 hs (by decide)) rfl (evs_args rfl) rfl (by rintro _ _ ⟨ns, a3, c3, rfl, rfl, ha3, hns⟩; exact ⟨_, rfl⟩) ?_; rintro _ _ ⟨ns, a3, c3, rfl, ⟨⟩, ha3, hns⟩; simp only [la4, la5])
 (refine Jx.fieldAddr rfl rfl ?_)
 (refine J.st 0 rfl rfl rfl rfl rfl rfl ?_)
 (refine J.nil (N.seq (W.seq (W.region (Jx.loadAll rfl 0 rfl rfl rfl ?_)))))
 (refine J.storeAll rfl rfl rfl 1 rfl rfl rfl ?_)
 (refine J.nil (N.seq (W.ret ?_)))
 (refine id ?_; rotate_left))
    exact N.retD (rs := [.cell 2 tPg]) (L1 := [qrO q b (bad || decide ((ts.length : Int) % 2 = 1)), rdO b ⟨s, a3, c3⟩]) rfl (.cell rfl 1 rfl agPg .nil) (.cons _ (.cons _ (.refl _))) ⟨its, decide (ts.length % 2 = 1), t, ns, a3, c3, rfl, by rw [hodd], ha3, _, _, hp, ht, hns⟩
abbrev anz : List SV := [int 0, int 0, .val (.slice none 0 0), .val (.slice none 0 0), .val (.slice none 0 0), str [], .val (.slice none 0 0), .val (.slice none 0 0), .val (.slice none 0 0), str [], .val (.slice none 0 0)]
theorem anz_sub : SubL anz (anC an0) := .cons (.refl _) (.cons (.refl _) (.cons (Sub.nil 11 _) (.cons (Sub.nil 2 _) (.cons (Sub.nil 2 _) (.cons (.refl _) (.cons (Sub.nil 1 _) (.cons (Sub.nil 1 _) (.cons (Sub.nil 2 _) (.cons (.refl _) (.cons (Sub.nil 1 _) .nil))))))))))
theorem headsP_skips {st st' : PSt} {l : List Hd} {bd : Bool} (h : headsP st = (l, bd, st')) : ∀ x ∈ l, x.skips.length ≤ 1048576 := by
  simp only [headsP, Prod.mk.injEq] at h
  intro x hx
  rw [← h.1] at hx
  obtain ⟨t, _, rfl⟩ := List.mem_map.1 hx
  cases hd : decH t with
  | none => simp [hd0]
  | some y => have := ((fineHd_iff y).1 (decF_some hd).1).skips20; simp only [Option.getD_some]; omega
set_option maxHeartbeats 8000000 in
theorem qdecodeN_ok (s : List UInt8) (hs : s.length ≤ 1048576) : FnC Try.prog 14 [str s] [] (fun v L => (∃ o, DecR fineAn encAn s o ∧ v = .tup [.agg (anC (o.getD an0)), int (codeO o 290)]) ∧ L = []) := by
  have c0 := read_ok s
  have hs2 : s.length ≤ 1099511627776 := by omega
  refine FnC.intro Try.func14 rfl Try.ntmps14 rfl fun Z w0 hG => ?_
  focus (
 (refine W.seq (W.region ?_))
 (refine J.alloc (by simp only [List.map_cons, List.map_nil]; rfl) rfl rfl ?_; intro b')
 (refine Jx.assign rfl rfl (J.nil (N.seq (W.seq (W.seq (W.region (Jx.move rfl rfl (Jx.lenS rfl rfl ?_))))))))
 (refine Jx.gtrI rfl rfl rfl (J.nil (N.seq (W.cF rfl ?_))))
 (refine W.skip (N.seq (W.seq (W.region (Jx.move rfl rfl ?_)))))
 (refine J.call (Lc := []) c0 rfl (evs_args rfl) rfl ?_; rintro _ _ ⟨b, rfl, rfl⟩; simp only [la1, la2, la3])
 (refine Jx.buildB rfl rfl rfl rfl rfl ?_)
 (refine J.boxAg rfl rfl ?_; intro b')
 (refine Jx.assign rfl rfl (J.nil (N.seq (W.seq (W.region (Jx.move rfl rfl (Jx.nilCheck rfl rfl ?_)))))))
 (refine Jx.fieldAddr rfl rfl ?_)
 (refine Jx.load rfl 0 rfl rfl rfl ?_)
 (refine J.call1 1 (rd_Num b s 0 0 (Nat.zero_le _) hs2) rfl (evs_args rfl) rfl (by rintro _ _ ⟨n, a1, c1, rfl, rfl, ha1, hnl, hn⟩; exact ⟨_, rfl⟩) ?_; rintro _ _ ⟨n, a1, c1, rfl, ⟨⟩, ha1, hnl, hn⟩; simp only [la4, la5])
 (refine Jx.assign rfl rfl (J.nil (N.seq (W.seq (W.region (Jx.move rfl rfl (Jx.nilCheck rfl rfl ?_)))))))
 (refine Jx.fieldAddr rfl rfl ?_)
 (refine Jx.load rfl 0 rfl rfl rfl ?_)
 (refine J.call1 1 (rd_Num b s a1 c1 ha1 hs2) rfl (evs_args rfl) rfl (by rintro _ _ ⟨h, a2, c2, rfl, rfl, ha2, hhl, hh⟩; exact ⟨_, rfl⟩) ?_; rintro _ _ ⟨h, a2, c2, rfl, ⟨⟩, ha2, hhl, hh⟩; simp only [la4, la5])
 (refine Jx.move rfl rfl ?_)
 (refine J.call (Lc := [qrO b' b false, rdO b ⟨s, a2, c2⟩]) (qheads_ok b' b false s a2 c2 ha2 hs2) rfl (evs_args rfl) rfl ?_; rintro _ _ ⟨hds, b1, a3, c3, rfl, rfl, ha3, hhd⟩; simp only [la1, la2, la3]; have hq0 := hn; obtain ⟨q, hq⟩ : ∃ q, q = b' := ⟨_, rfl⟩; subst hq)
 (refine Jx.buildB rfl rfl rfl rfl rfl ?_)
 (refine J.alloc (by simp only [List.map_cons, List.map_nil]; rfl) rfl rfl ?_; intro b')
 (refine J.storeAll rfl rfl rfl 0 rfl rfl rfl ?_)
 (refine J.nil (N.seq (W.seq (W.region (Jx.move rfl rfl ?_)))))
 (refine J.pv (Pv.makeFunc (us := [.pointer (some ⟨q, 0, none⟩)]) (vs := []) (evs_args rfl) (evs_args rfl) (fun _ => rfl)) rfl ?_)
 (refine Jx.assign rfl rfl (J.nil (N.seq (W.seq (W.region (Jx.move rfl rfl ?_))))))
 (refine J.perm ((List.Perm.swap _ _ _).trans (List.Perm.cons _ (List.Perm.swap _ _ _))) ?_; refine J.callV (us := [.pointer (some ⟨q, 0, none⟩)]) (vs := []) (args := []) (Lc := [qrO q b (or false b1), rdO b ⟨s, a3, c3⟩]) rfl (qsetR_ok q b (or false b1) s a3 c3 ha3 hs2) rfl (evs_args rfl) rfl ?_; rintro _ _ ⟨ms, b2, a4, c4, rfl, rfl, ha4, hms⟩; simp only [List.cons_append, List.nil_append])
 (refine Jx.move rfl rfl ?_)
 (refine J.callV (us := [.pointer (some ⟨q, 0, none⟩)]) (vs := []) (args := []) (Lc := [qrO q b (or (or false b1) b2), rdO b ⟨s, a4, c4⟩]) rfl (qsetR_ok q b (or (or false b1) b2) s a4 c4 ha4 hs2) rfl (evs_args rfl) rfl ?_; rintro _ _ ⟨ns, b3, a5, c5, rfl, rfl, ha5, hns⟩; simp only [List.cons_append, List.nil_append])
 (refine Jx.fieldAddr rfl rfl ?_)
 (refine J.st 2 rfl rfl rfl rfl rfl rfl ?_)
 (refine Jx.fieldAddr rfl rfl ?_)
 (refine J.st 2 rfl rfl rfl rfl rfl rfl ?_)
 (refine J.nil (N.seq (W.seq (W.region (Jx.move rfl rfl ?_)))))
 (refine J.call (Lc := [qrO q b (or (or (or false b1) b2) b3), rdO b ⟨s, a5, c5⟩]) (qcert_ok q b (or (or (or false b1) b2) b3) s a5 c5 ha5 hs2) rfl (evs_args rfl) rfl ?_; rintro _ _ ⟨ct, b4, a6, c6, rfl, rfl, ha6, hct⟩; simp only [List.cons_append, List.nil_append])
 (refine Jx.fieldAddr rfl rfl ?_)
 (refine J.storeAg rfl rfl rfl 2 rfl rfl rfl rfl ?_)
 (refine J.nil (N.seq (W.seq (W.region (Jx.move rfl rfl (Jx.nilCheck rfl rfl ?_))))))
 (refine Jx.fieldAddr rfl rfl ?_)
 (refine Jx.load rfl 0 rfl rfl rfl ?_)
 (refine J.call1 1 (rd_List b s a6 c6 1024 700 ha6 hs2 (by decide)) rfl (evs_args rfl) rfl (by rintro _ _ ⟨nd, a7, c7, rfl, rfl, ha7, hnd⟩; exact ⟨_, rfl⟩) ?_; rintro _ _ ⟨nd, a7, c7, rfl, ⟨⟩, ha7, hnd⟩; simp only [la4, la5])
 (refine Jx.fieldAddr rfl rfl ?_)
 (refine J.st 2 rfl rfl rfl rfl rfl rfl ?_)
 (refine J.nil (N.seq (W.seq (W.region (Jx.move rfl rfl ?_)))))
 (refine J.call (Lc := [qrO q b (or (or (or (or false b1) b2) b3) b4), rdO b ⟨s, a7, c7⟩]) (qpageR_ok q b (or (or (or (or false b1) b2) b3) b4) s a7 c7 ha7 hs2) rfl (evs_args rfl) rfl ?_; rintro _ _ ⟨its, b5, pn, pns, a8, c8, rfl, rfl, ha8, s8, s9, hpg1, hpg2, hpg3⟩; simp only [List.cons_append, List.nil_append])
 (refine Jx.fieldAddr rfl rfl ?_)
 (refine J.storeAg rfl rfl rfl 2 rfl rfl rfl rfl ?_)
 (refine J.nil (N.seq (W.seq (W.seq (W.region (Jx.move rfl rfl (Jx.nilCheck rfl rfl ?_)))))))
 (refine Jx.fieldAddr rfl rfl ?_)
 (refine Jx.load rfl 0 rfl rfl rfl ?_)
 (refine J.call1 1 (rd_End b s a8 c8 ha8 hs2) rfl (evs_args rfl) rfl (by rintro _ _ ⟨e, a9, c9, rfl, rfl, he⟩; exact ⟨_, rfl⟩) ?_; rintro _ _ ⟨e, a9, c9, rfl, ⟨⟩, he⟩; simp only [la4, la5])
 (refine Jx.neqI rfl rfl rfl (Jx.move rfl rfl ?_))
 (refine' J.guardOr rfl rfl rfl rfl rfl rfl rfl rfl (fun _ => ?_) ?_; rotate_left)
 (refine J.gY rfl rfl rfl ?_)
 (refine Jx.move rfl rfl (J.gY rfl rfl rfl ?_))
 (refine Jx.nilCheck rfl rfl ?_)
 (refine J.gY rfl rfl rfl ?_)
 (refine Jx.fieldAddr rfl rfl ?_)
 (refine J.gY rfl rfl rfl ?_)
 (refine Jx.load rfl 0 rfl rfl rfl ?_)
 (refine J.nil ?_)
 (refine N.joinedN rfl rfl rfl)
 (refine Jx.move rfl rfl ?_)
 (refine' J.guardOr rfl rfl rfl rfl rfl rfl rfl rfl (fun _ => ?_) ?_; rotate_left)
 (refine J.gY rfl rfl rfl ?_)
 (refine Jx.move rfl rfl (J.gY rfl rfl rfl ?_))
 (refine Jx.gtrI rfl rfl rfl (J.nil ?_))
 (refine N.joinedN rfl rfl rfl)
 (refine J.nil (N.seq ?_))
 (refine id ?_; rotate_left))
  have hr : ReadN s ⟨n, h, hds, ms, ns, ct, nd, its, pn, pns⟩ (or (or (or (or b1 b2) b3) b4) b5) (lf s a8 c8) := ⟨n, _, h, _, b1, _, b2, _, b3, _, b4, _, _, b5, s8, s9, hn, rfl, hh, rfl, hhd, hms, hns, hct, hnd, hpg1, hpg2, hpg3, rfl⟩
  have ck := qcheckN_ok ⟨n, h, hds, ms, ns, ct, nd, its, pn, pns⟩ (headsP_skips hhd)
  refine W.cond rfl (fun hb => ?_) (fun hb => ?_)
  · focus (
 (refine W.seq (W.region (Jx.buildB rfl rfl rfl rfl rfl ?_)))
 (refine J.storeAll rfl rfl rfl 3 rfl rfl rfl ?_)
 (refine Jx.assign rfl rfl (J.nil (N.seq (W.ret (N.noGotoRet ?_)))))
 (refine id ?_; rotate_left))
    refine N.objSub 3 (anC an0) rfl anz_sub rfl ?_
    refine N.retD (rs := [.cell 2 tAn, .tmp 3]) (L1 := []) rfl (.cell rfl 3 rfl agAn (.tmp rfl .nil)) (List.nil_sublist _) ⟨⟨none, fun y hy hz => ?_, rfl⟩, rfl⟩
    obtain ⟨rfl, h1, h2⟩ := hr.whole hy (r := []) (by rw [List.append_nil, hz])
    have hc := (fineAn_spec hy).code
    simp only at hc
    have hbad : (or (or (or (or (or false b1) b2) b3) b4) b5) = false := h1
    rw [he.2 h2, hbad] at hb
    simp at hb
    omega
  · focus (
 (refine W.skip (N.seq (W.seq (W.seq (W.region (Jx.move rfl rfl (Jx.fieldAddr rfl rfl ?_)))))))
 (refine J.st 2 rfl rfl rfl rfl rfl rfl ?_)
 (refine J.nil (N.seq (W.seq (W.region (Jx.loadAll rfl 2 rfl rfl rfl ?_)))))
 (refine J.call (ck) rfl (evs_args rfl) rfl ?_; rintro _ _ ⟨rfl, rfl⟩; simp only [la1, la2, la3])
 (refine Jx.neqI rfl rfl rfl (J.nil (N.seq ?_)))
 (refine id ?_; rotate_left))
    simp only [Bool.or_eq_false_iff, decide_eq_false_iff_not, Classical.not_not] at hb
    obtain ⟨⟨b1', b2'⟩, b3'⟩ := hb
    refine W.cond rfl (fun hb => ?_) (fun hb => ?_)
    · focus (
 (refine W.seq (W.region (Jx.buildB rfl rfl rfl rfl rfl ?_)))
 (refine J.storeAll rfl rfl rfl 3 rfl rfl rfl ?_)
 (refine Jx.assign rfl rfl (J.nil (N.seq (W.ret (N.noGotoRet ?_)))))
 (refine id ?_; rotate_left))
      refine N.objSub 3 (anC an0) rfl anz_sub rfl ?_
      refine N.retD (rs := [.cell 2 tAn, .tmp 3]) (L1 := []) rfl (.cell rfl 3 rfl agAn (.tmp rfl .nil)) (List.nil_sublist _) ⟨⟨none, fun y hy hz => ?_, rfl⟩, rfl⟩
      obtain ⟨rfl, h1, h2⟩ := hr.whole hy (r := []) (by rw [List.append_nil, hz])
      rw [hy] at hb
      simp at hb
    · focus (
 (refine W.skip (N.seq (W.seq (W.region (Jx.loadAll rfl 2 rfl rfl rfl ?_)))))
 (refine J.storeAll rfl rfl rfl 3 rfl rfl rfl ?_)
 (refine Jx.assign rfl rfl (J.nil (N.seq (W.ret ?_))))
 (refine id ?_; rotate_left))
      refine N.retD (rs := [.cell 2 tAn, .tmp 3]) (L1 := []) rfl (.cell rfl 3 rfl agAn (.tmp rfl .nil)) (List.nil_sublist _) ⟨⟨some ⟨n, h, hds, ms, ns, ct, nd, its, pn, pns⟩, ?_, rfl⟩, rfl⟩
      have hf : fineAn ⟨n, h, hds, ms, ns, ct, nd, its, pn, pns⟩ = true := by
        cases hf : fineAn ⟨n, h, hds, ms, ns, ct, nd, its, pn, pns⟩ with
        | true => rfl
        | false => rw [hf] at hb; simp at hb
      have hbad : (or (or (or (or b1 b2) b3) b4) b5) = false := by
        simp only [Bool.or_eq_false_iff]; simpa using b2'
      rw [he.1 b1', hbad] at hr
      exact ⟨hf, hr.sound⟩
end Go.Proofs.Ytlfdhkahiaammaa
namespace Go.Proofs.Ytlfdhkahiaammaa
open Go Go.Sse
set_option linter.unusedVariables false
set_option linter.unusedSimpArgs false
set_option maxRecDepth 10000
end Go.Proofs.Ytlfdhkahiaammaa
namespace Go.Proofs.Ytlfdhkahiaammaa
open Go Go.Sse
set_option linter.unusedVariables false
set_option linter.unusedSimpArgs false
set_option maxRecDepth 10000
set_option maxHeartbeats 2000000 in
theorem sameHs_ok (l m : List Hd) (hb : l.length ≤ 1048576) (hm : ∀ x ∈ l, x.skips.length ≤ 1048576) : FnC Try.prog 41 [hdsl l, hdsl m] [] (fun v L => v = bool (decide (l = m)) ∧ L = []) := by
  refine FnC.intro Try.func41 rfl Try.ntmps41 rfl fun Z w0 hG => ?_
  by_cases hl : l.length = m.length
  · focus (
 (refine W.seq (W.region (Jx.assign rfl rfl (J.nil (N.seq (W.seq (W.region (Jx.move rfl rfl (Jx.lenSl rfl rfl ?_)))))))))
 (refine Jx.move rfl rfl (Jx.lenSl rfl rfl ?_))
 (refine Jx.eqlI rfl rfl rfl (Jx.assign rfl rfl (J.nil (N.seq (W.seq (W.seq (W.region (Jx.assign rfl rfl (J.nil (N.seq (W.block ?_)))))))))))
 (refine id ?_; rotate_left))
    refine W.loop (α := Nat × Bool) (fun x => [(6, int (x.1 : Int)), (5, bool x.2), (0, hdsl l), (1, hdsl m)]) (fun _ => []) (fun x => x.1 ≤ l.length ∧ (x.2 = true → l.take x.1 = m.take x.1) ∧ (x.2 = false → l ≠ m)) (fun x => l.length - x.1) (0, true) ⟨by omega, by simp, by simp⟩ rfl ⟨ref0 rfl, ⟨_, rfl, Sub.of_eq (by simp [hl])⟩, ref0 rfl, ref0 rfl, trivial⟩ ?_
    rintro ⟨i, q⟩ ⟨hi, h1, h2⟩
    simp only at hi h1 h2
    cases q with
    | false =>
      focus (
 (refine W.seq (W.seq (W.region (Jx.move rfl rfl (Jx.move rfl rfl (J.gN rfl rfl rfl rfl ?_))))))
 (refine J.gN rfl rfl rfl rfl ?_)
 (refine J.gN rfl rfl rfl rfl ?_)
 (refine J.gN rfl rfl rfl rfl ?_)
 (refine Jx.pF rfl rfl rfl ?_)
 (refine J.nil (N.seq (W.cF rfl ?_)))
 (refine W.exit (N.seq (W.seq (W.region (Jx.move rfl rfl (Jx.assign rfl rfl (J.nil (N.seq (W.ret ?_)))))))))
 (refine id ?_; rotate_left))
      exact N.ret (rs := [.tmp 4]) rfl (.tmp rfl .nil) ⟨by rw [decide_eq_false (h2 rfl)]; rfl, rfl⟩
    | true =>
      by_cases h3 : i < l.length
      · have h4 : i < m.length := by omega
        have e1 := take_snoc (d := hd0) h3
        have e2 := take_snoc (d := hd0) h4
        have c := sameH_ok (l.getD i hd0) (m.getD i hd0) (hm _ (getD_mem h3))
        focus (
 (refine W.seq (W.seq (W.region (Jx.move rfl rfl (Jx.move rfl rfl (J.gY rfl rfl rfl ?_))))))
 (refine Jx.move rfl rfl (J.gY rfl rfl rfl ?_))
 (refine Jx.move rfl rfl (J.gY rfl rfl rfl ?_))
 (refine Jx.lenSl rfl rfl ?_)
 (refine J.gY rfl rfl rfl ?_)
 (refine Jx.lssI rfl rfl rfl (Jx.pT rfl rfl rfl ?_))
 (refine J.nil (N.seq (W.cT rfl ?_)))
 (refine W.skip (N.seq (W.seq (W.block ?_))))
 (refine W.draw follows ?_)
 (refine JD.calm rfl (by decide +kernel) ?_)
 (refine Cx.move rfl rfl ?_)
 (refine Cx.move rfl rfl ?_)
 (refine Cx.indexEl rfl rfl (by assumption) rfl rfl ?_)
 (refine Cx.loadPPall rfl rfl rfl ?_)
 (refine Cx.move rfl rfl ?_)
 (refine Cx.move rfl rfl ?_)
 (refine Cx.indexEl rfl rfl (by assumption) rfl rfl ?_)
 (refine Cx.loadPPall rfl rfl rfl ?_)
 (refine SegC.q (Qs.call (Lc := []) (c) (fun s L' h => h) (List.Perm.refl _) (evs_args rfl)) rfl ?_)
 (refine Cx.assign rfl rfl ?_)
 (refine SegC.nil ?_)
 (refine N.seq (W.region (Jx.move rfl rfl (Jx.add64 rfl rfl (by omega) rfl ?_))))
 (refine Jx.assign rfl rfl (J.nil ?_))
 (refine id ?_; rotate_left))
        refine N.round (i + 1, decide (l.getD i hd0 = m.getD i hd0)) ⟨h3, fun h => ?_, fun h e => ?_⟩ (by simp only; omega) rfl ⟨ref0 rfl, ref0 rfl, ref0 rfl, ref0 rfl, trivial⟩
        · simp only [decide_eq_true_eq] at h
          rw [e1, e2, h1 rfl, h]
        · simp only [decide_eq_false_iff_not] at h
          exact h (by rw [e])
      · have e := h1 rfl
        rw [List.take_of_length_le (by omega), List.take_of_length_le (by omega)] at e
        focus (
 (refine W.seq (W.seq (W.region (Jx.move rfl rfl (Jx.move rfl rfl (J.gY rfl rfl rfl ?_))))))
 (refine Jx.move rfl rfl (J.gY rfl rfl rfl ?_))
 (refine Jx.move rfl rfl (J.gY rfl rfl rfl ?_))
 (refine Jx.lenSl rfl rfl ?_)
 (refine J.gY rfl rfl rfl ?_)
 (refine Jx.lssI rfl rfl rfl (Jx.pT rfl rfl rfl ?_))
 (refine J.nil (N.seq (W.cF rfl ?_)))
 (refine W.exit (N.seq (W.seq (W.region (Jx.move rfl rfl (Jx.assign rfl rfl (J.nil (N.seq (W.ret ?_)))))))))
 (refine id ?_; rotate_left))
        exact N.ret (rs := [.tmp 4]) rfl (.tmp rfl .nil) ⟨by rw [decide_eq_true e]; rfl, rfl⟩
  · have hne : l ≠ m := fun e => hl (by rw [e])
    focus (
 (refine W.seq (W.region (Jx.assign rfl rfl (J.nil (N.seq (W.seq (W.region (Jx.move rfl rfl (Jx.lenSl rfl rfl ?_)))))))))
 (refine Jx.move rfl rfl (Jx.lenSl rfl rfl ?_))
 (refine Jx.eqlI rfl rfl rfl (Jx.assign rfl rfl (J.nil (N.seq (W.seq (W.seq (W.region (Jx.assign rfl rfl (J.nil (N.seq (W.block ?_)))))))))))
 (refine id ?_; rotate_left))
    refine W.loop (α := Unit) (fun x => [(5, bool false)]) (fun _ => []) (fun x => True) (fun x => 0) () trivial rfl ⟨⟨_, rfl, Sub.of_eq (by simp; omega)⟩, trivial⟩ ?_
    rintro _ _
    focus (
 (refine W.seq (W.seq (W.region (Jx.move rfl rfl (Jx.move rfl rfl (J.gN rfl rfl rfl rfl ?_))))))
 (refine J.gN rfl rfl rfl rfl ?_)
 (refine J.gN rfl rfl rfl rfl ?_)
 (refine J.gN rfl rfl rfl rfl ?_)
 (refine Jx.pF rfl rfl rfl ?_)
 (refine J.nil (N.seq (W.cF rfl ?_)))
 (refine W.exit (N.seq (W.seq (W.region (Jx.move rfl rfl (Jx.assign rfl rfl (J.nil (N.seq (W.ret ?_)))))))))
 (refine id ?_; rotate_left))
    exact N.ret (rs := [.tmp 4]) rfl (.tmp rfl .nil) ⟨by rw [decide_eq_false hne]; rfl, rfl⟩
theorem it_eq (a b : It) : (decide (a = b) = true ↔ [sv a.key, sv a.value] = [sv b.key, sv b.value]) := by
  cases a; cases b; simp
set_option maxHeartbeats 2000000 in
theorem sameIt_ok (l m : List It) (hb : l.length ≤ 1048576) : FnC Try.prog 70 [itsl l, itsl m] [] (fun v L => v = bool (decide (l = m)) ∧ L = []) := by
  refine FnC.intro Try.func70 rfl Try.ntmps70 rfl fun Z w0 hG => ?_
  by_cases hl : l.length = m.length
  · focus (
 (refine W.seq (W.region (Jx.assign rfl rfl (J.nil (N.seq (W.seq (W.region (Jx.move rfl rfl (Jx.lenSl rfl rfl ?_)))))))))
 (refine Jx.move rfl rfl (Jx.lenSl rfl rfl ?_))
 (refine Jx.eqlI rfl rfl rfl (Jx.assign rfl rfl (J.nil (N.seq (W.seq (W.seq (W.region (Jx.assign rfl rfl (J.nil (N.seq (W.block ?_)))))))))))
 (refine id ?_; rotate_left))
    refine W.loop (α := Nat × Bool) (fun x => [(6, int (x.1 : Int)), (5, bool x.2), (0, itsl l), (1, itsl m)]) (fun _ => []) (fun x => x.1 ≤ l.length ∧ (x.2 = true → l.take x.1 = m.take x.1) ∧ (x.2 = false → l ≠ m)) (fun x => l.length - x.1) (0, true) ⟨by omega, by simp, by simp⟩ rfl ⟨ref0 rfl, ⟨_, rfl, Sub.of_eq (by simp [hl])⟩, ref0 rfl, ref0 rfl, trivial⟩ ?_
    rintro ⟨i, q⟩ ⟨hi, h1, h2⟩
    simp only at hi h1 h2
    cases q with
    | false =>
      focus (
 (refine W.seq (W.seq (W.region (Jx.move rfl rfl (Jx.move rfl rfl (J.gN rfl rfl rfl rfl ?_))))))
 (refine J.gN rfl rfl rfl rfl ?_)
 (refine J.gN rfl rfl rfl rfl ?_)
 (refine J.gN rfl rfl rfl rfl ?_)
 (refine Jx.pF rfl rfl rfl ?_)
 (refine J.nil (N.seq (W.cF rfl ?_)))
 (refine W.exit (N.seq (W.seq (W.region (Jx.move rfl rfl (Jx.assign rfl rfl (J.nil (N.seq (W.ret ?_)))))))))
 (refine id ?_; rotate_left))
      exact N.ret (rs := [.tmp 4]) rfl (.tmp rfl .nil) ⟨by rw [decide_eq_false (h2 rfl)]; rfl, rfl⟩
    | true =>
      by_cases h3 : i < l.length
      · have h4 : i < m.length := by omega
        have e1 : l.take (i + 1) = l.take i ++ [l.getD i it0] := by rw [List.take_add_one, List.getElem?_eq_getElem h3, List.getD_eq_getElem?_getD, List.getElem?_eq_getElem h3]; rfl
        have e2 : m.take (i + 1) = m.take i ++ [m.getD i it0] := by rw [List.take_add_one, List.getElem?_eq_getElem h4, List.getD_eq_getElem?_getD, List.getElem?_eq_getElem h4]; rfl
        focus (
 (refine W.seq (W.seq (W.region (Jx.move rfl rfl (Jx.move rfl rfl (J.gY rfl rfl rfl ?_))))))
 (refine Jx.move rfl rfl (J.gY rfl rfl rfl ?_))
 (refine Jx.move rfl rfl (J.gY rfl rfl rfl ?_))
 (refine Jx.lenSl rfl rfl ?_)
 (refine J.gY rfl rfl rfl ?_)
 (refine Jx.lssI rfl rfl rfl (Jx.pT rfl rfl rfl ?_))
 (refine J.nil (N.seq (W.cT rfl ?_)))
 (refine W.skip (N.seq (W.seq (W.block ?_))))
 (refine W.draw follows ?_)
 (refine JD.calm rfl (by decide +kernel) ?_)
 (refine Cx.move rfl rfl ?_)
 (refine Cx.move rfl rfl ?_)
 (refine Cx.indexEl rfl rfl (by assumption) rfl rfl ?_)
 (refine Cx.loadPPall rfl rfl rfl ?_)
 (refine Cx.move rfl rfl ?_)
 (refine Cx.move rfl rfl ?_)
 (refine Cx.indexEl rfl rfl (by assumption) rfl rfl ?_)
 (refine Cx.loadPPall rfl rfl rfl ?_)
 (refine Cx.eqlAg (decide (l.getD i it0 = m.getD i it0)) rfl rfl rfl rfl rfl rfl (it_eq _ _) rfl ?_)
 (refine Cx.assign rfl rfl ?_)
 (refine SegC.nil ?_)
 (refine N.seq (W.region (Jx.move rfl rfl (Jx.add64 rfl rfl (by omega) rfl ?_))))
 (refine Jx.assign rfl rfl (J.nil ?_))
 (refine id ?_; rotate_left))
        refine N.round (i + 1, decide (l.getD i it0 = m.getD i it0)) ⟨h3, fun h => ?_, fun h e => ?_⟩ (by simp only; omega) rfl ⟨ref0 rfl, ref0 rfl, ref0 rfl, ref0 rfl, trivial⟩
        · simp only [decide_eq_true_eq] at h
          rw [e1, e2, h1 rfl, h]
        · simp only [decide_eq_false_iff_not] at h
          exact h (by rw [e])
      · have e := h1 rfl
        rw [List.take_of_length_le (by omega), List.take_of_length_le (by omega)] at e
        focus (
 (refine W.seq (W.seq (W.region (Jx.move rfl rfl (Jx.move rfl rfl (J.gY rfl rfl rfl ?_))))))
 (refine Jx.move rfl rfl (J.gY rfl rfl rfl ?_))
 (refine Jx.move rfl rfl (J.gY rfl rfl rfl ?_))
 (refine Jx.lenSl rfl rfl ?_)
 (refine J.gY rfl rfl rfl ?_)
 (refine Jx.lssI rfl rfl rfl (Jx.pT rfl rfl rfl ?_))
 (refine J.nil (N.seq (W.cF rfl ?_)))
 (refine W.exit (N.seq (W.seq (W.region (Jx.move rfl rfl (Jx.assign rfl rfl (J.nil (N.seq (W.ret ?_)))))))))
 (refine id ?_; rotate_left))
        exact N.ret (rs := [.tmp 4]) rfl (.tmp rfl .nil) ⟨by rw [decide_eq_true e]; rfl, rfl⟩
  · have hne : l ≠ m := fun e => hl (by rw [e])
    focus (
 (refine W.seq (W.region (Jx.assign rfl rfl (J.nil (N.seq (W.seq (W.region (Jx.move rfl rfl (Jx.lenSl rfl rfl ?_)))))))))
 (refine Jx.move rfl rfl (Jx.lenSl rfl rfl ?_))
 (refine Jx.eqlI rfl rfl rfl (Jx.assign rfl rfl (J.nil (N.seq (W.seq (W.seq (W.region (Jx.assign rfl rfl (J.nil (N.seq (W.block ?_)))))))))))
 (refine id ?_; rotate_left))
    refine W.loop (α := Unit) (fun x => [(5, bool false)]) (fun _ => []) (fun x => True) (fun x => 0) () trivial rfl ⟨⟨_, rfl, Sub.of_eq (by simp; omega)⟩, trivial⟩ ?_
    rintro _ _
    focus (
 (refine W.seq (W.seq (W.region (Jx.move rfl rfl (Jx.move rfl rfl (J.gN rfl rfl rfl rfl ?_))))))
 (refine J.gN rfl rfl rfl rfl ?_)
 (refine J.gN rfl rfl rfl rfl ?_)
 (refine J.gN rfl rfl rfl rfl ?_)
 (refine Jx.pF rfl rfl rfl ?_)
 (refine J.nil (N.seq (W.cF rfl ?_)))
 (refine W.exit (N.seq (W.seq (W.region (Jx.move rfl rfl (Jx.assign rfl rfl (J.nil (N.seq (W.ret ?_)))))))))
 (refine id ?_; rotate_left))
    exact N.ret (rs := [.tmp 4]) rfl (.tmp rfl .nil) ⟨by rw [decide_eq_false hne]; rfl, rfl⟩
theorem samePg_self (its : List It) (pn : List UInt8) (ns : List (List UInt8)) (h1 : its.length ≤ 1048576) (h2 : ns.length ≤ 1048576) : FnC Try.prog 45 [.agg [itsl its, str pn, ssl ns], .agg [itsl its, str pn, ssl ns]] [] (fun v L => v = bool true ∧ L = []) := by
  have c1 := sameIt_ok its its h1
  have c2 := same_ok ns ns h2
  rw [decide_eq_true rfl] at c1 c2
  have hpp : pn = pn := rfl
  refine FnC.intro Try.func45 rfl Try.ntmps45 rfl fun Z w0 hG => ?_
  focus (
 (refine W.seq (W.region ?_))
 (refine J.boxAg rfl rfl ?_; intro b')
 (refine J.boxAg rfl rfl ?_; intro b')
 (refine Jx.assign rfl rfl (J.nil (N.seq (W.seq (W.region (Jx.fieldAddr rfl rfl ?_))))))
 (refine Jx.load rfl 1 rfl rfl rfl ?_)
 (refine Jx.fieldAddr rfl rfl ?_)
 (refine Jx.load rfl 0 rfl rfl rfl ?_)
 (refine J.call (c1) rfl (evs_args rfl) rfl ?_; rintro _ _ ⟨rfl, rfl⟩; simp only [la1, la2, la3])
 (refine Jx.move rfl rfl (J.gY rfl rfl rfl ?_))
 (refine Jx.fieldAddr rfl rfl ?_)
 (refine J.gY rfl rfl rfl ?_)
 (refine Jx.load rfl 1 rfl rfl rfl ?_)
 (refine J.gY rfl rfl rfl ?_)
 (refine Jx.fieldAddr rfl rfl ?_)
 (refine J.gY rfl rfl rfl ?_)
 (refine Jx.load rfl 0 rfl rfl rfl ?_)
 (refine J.gY rfl rfl rfl ?_)
 (refine Jx.eqlS rfl rfl rfl (Jx.pT rfl rfl rfl ?_))
 (refine Jx.move rfl rfl (J.gY rfl rfl rfl ?_))
 (refine Jx.fieldAddr rfl rfl ?_)
 (refine J.gY rfl rfl rfl ?_)
 (refine Jx.load rfl 1 rfl rfl rfl ?_)
 (refine J.gY rfl rfl rfl ?_)
 (refine Jx.fieldAddr rfl rfl ?_)
 (refine J.gY rfl rfl rfl ?_)
 (refine Jx.load rfl 0 rfl rfl rfl ?_)
 (refine J.gY rfl rfl rfl ?_)
 (refine J.call (c2) rfl (evs_args rfl) rfl ?_; rintro _ _ ⟨rfl, rfl⟩; simp only [la1, la2, la3])
 (refine Jx.pT rfl rfl rfl ?_)
 (refine Jx.assign rfl rfl (J.nil (N.seq (W.ret ?_))))
 (refine id ?_; rotate_left))
  exact N.retD (rs := [.tmp 4]) (L1 := []) rfl (.tmp rfl .nil) (List.nil_sublist _) ⟨by simp [oneOr], rfl⟩
structure SmallN (x : An) : Prop where
  heads : x.heads.length ≤ 70
  notmid : ¬ (8 < x.heads.length ∧ x.heads.length ≤ 64)
  skips : ∀ h ∈ x.heads, h.skips.length ≤ 40
  set : x.set.length ≤ 100
  nxt : x.nxt.length ≤ 100
  items : x.items.length ≤ 40
  signers : x.cert.signers.length ≤ 50
  nodes : x.nodes.length ≤ 40
  pnodes : x.pnodes.length ≤ 40
theorem an0_small : SmallN an0 := ⟨by decide, by decide, by simp [an0], by decide, by decide, by decide, by decide, by decide, by decide⟩
set_option maxHeartbeats 4000000 in
theorem sameN_self (x : An) (h : SmallN x) : FnC Try.prog 16 [.agg (anC x), .agg (anC x)] [] (fun v L => v = bool true ∧ L = []) := by
  have h1 := h.heads; have h2 := h.set; have h3 := h.nxt; have h4 := h.items; have h5 := h.signers; have h6 := h.nodes; have h7 := h.pnodes
  have c1 := sameHs_ok x.heads x.heads (by omega) (fun y hy => by have := h.skips y hy; omega)
  have c2 := sameM_ok x.set x.set (by omega)
  have c3 := sameM_ok x.nxt x.nxt (by omega)
  have c4 := sameC_ok x.cert x.cert (by omega)
  have c5 := same_ok x.nodes x.nodes (by omega)
  have c6 := samePg_self x.items x.pnext x.pnodes (by omega) (by omega)
  rw [decide_eq_true rfl] at c1 c2 c3 c4 c5
  have e1 : ¬ x.code ≠ x.code := fun h => h rfl
  have e2 : ¬ x.height ≠ x.height := fun h => h rfl
  refine FnC.intro Try.func16 rfl Try.ntmps16 rfl fun Z w0 hG => ?_
  focus (
 (refine W.seq (W.region ?_))
 (refine J.boxAg rfl rfl ?_; intro b')
 (refine J.boxAg rfl rfl ?_; intro b')
 (refine Jx.assign rfl rfl (J.nil (N.seq (W.seq (W.seq (W.region (Jx.fieldAddr rfl rfl ?_)))))))
 (refine Jx.load rfl 1 rfl rfl rfl ?_)
 (refine Jx.fieldAddr rfl rfl ?_)
 (refine Jx.load rfl 0 rfl rfl rfl ?_)
 (refine Jx.neqI rfl rfl rfl (Jx.move rfl rfl (J.gY rfl rfl rfl ?_)))
 (refine Jx.fieldAddr rfl rfl ?_)
 (refine J.gY rfl rfl rfl ?_)
 (refine Jx.load rfl 1 rfl rfl rfl ?_)
 (refine J.gY rfl rfl rfl ?_)
 (refine Jx.fieldAddr rfl rfl ?_)
 (refine J.gY rfl rfl rfl ?_)
 (refine Jx.load rfl 0 rfl rfl rfl ?_)
 (refine J.gY rfl rfl rfl ?_)
 (refine Jx.neqI rfl rfl rfl (Jx.pF rfl rfl rfl ?_))
 (refine Jx.move rfl rfl (J.gY rfl rfl rfl ?_))
 (refine Jx.fieldAddr rfl rfl ?_)
 (refine J.gY rfl rfl rfl ?_)
 (refine Jx.load rfl 1 rfl rfl rfl ?_)
 (refine J.gY rfl rfl rfl ?_)
 (refine Jx.fieldAddr rfl rfl ?_)
 (refine J.gY rfl rfl rfl ?_)
 (refine Jx.load rfl 0 rfl rfl rfl ?_)
 (refine J.gY rfl rfl rfl ?_)
 (refine J.call (c1) rfl (evs_args rfl) rfl ?_; rintro _ _ ⟨rfl, rfl⟩; simp only [la1, la2, la3])
 (refine J.gY rfl rfl rfl ?_)
 (refine Jx.not rfl rfl (Jx.pF rfl rfl rfl ?_))
 (refine Jx.move rfl rfl (J.gY rfl rfl rfl ?_))
 (refine Jx.fieldAddr rfl rfl ?_)
 (refine J.gY rfl rfl rfl ?_)
 (refine Jx.load rfl 1 rfl rfl rfl ?_)
 (refine J.gY rfl rfl rfl ?_)
 (refine Jx.fieldAddr rfl rfl ?_)
 (refine J.gY rfl rfl rfl ?_)
 (refine Jx.load rfl 0 rfl rfl rfl ?_)
 (refine J.gY rfl rfl rfl ?_)
 (refine J.call (c2) rfl (evs_args rfl) rfl ?_; rintro _ _ ⟨rfl, rfl⟩; simp only [la1, la2, la3])
 (refine J.gY rfl rfl rfl ?_)
 (refine Jx.not rfl rfl (Jx.pF rfl rfl rfl ?_))
 (refine Jx.move rfl rfl (J.gY rfl rfl rfl ?_))
 (refine Jx.fieldAddr rfl rfl ?_)
 (refine J.gY rfl rfl rfl ?_)
 (refine Jx.load rfl 1 rfl rfl rfl ?_)
 (refine J.gY rfl rfl rfl ?_)
 (refine Jx.fieldAddr rfl rfl ?_)
 (refine J.gY rfl rfl rfl ?_)
 (refine Jx.load rfl 0 rfl rfl rfl ?_)
 (refine J.gY rfl rfl rfl ?_)
 (refine J.call (c3) rfl (evs_args rfl) rfl ?_; rintro _ _ ⟨rfl, rfl⟩; simp only [la1, la2, la3])
 (refine J.gY rfl rfl rfl ?_)
 (refine Jx.not rfl rfl (Jx.pF rfl rfl rfl ?_))
 (refine J.nil (N.seq (W.cF rfl ?_)))
 (refine W.skip (N.seq (W.seq (W.region (Jx.fieldAddr rfl rfl ?_)))))
 (refine Jx.loadAg rfl 1 rfl rfl rfl rfl ?_)
 (refine Jx.fieldAddr rfl rfl ?_)
 (refine Jx.loadAg rfl 0 rfl rfl rfl rfl ?_)
 (refine J.call (c4) rfl (evs_args rfl) rfl ?_; rintro _ _ ⟨rfl, rfl⟩; simp only [la1, la2, la3])
 (refine Jx.move rfl rfl (J.gY rfl rfl rfl ?_))
 (refine Jx.fieldAddr rfl rfl ?_)
 (refine J.gY rfl rfl rfl ?_)
 (refine Jx.load rfl 1 rfl rfl rfl ?_)
 (refine J.gY rfl rfl rfl ?_)
 (refine Jx.fieldAddr rfl rfl ?_)
 (refine J.gY rfl rfl rfl ?_)
 (refine Jx.load rfl 0 rfl rfl rfl ?_)
 (refine J.gY rfl rfl rfl ?_)
 (refine J.call (c5) rfl (evs_args rfl) rfl ?_; rintro _ _ ⟨rfl, rfl⟩; simp only [la1, la2, la3])
 (refine Jx.pT rfl rfl rfl ?_)
 (refine Jx.move rfl rfl (J.gY rfl rfl rfl ?_))
 (refine Jx.fieldAddr rfl rfl ?_)
 (refine J.gY rfl rfl rfl ?_)
 (refine Jx.loadAg rfl 1 rfl rfl rfl rfl ?_)
 (refine J.gY rfl rfl rfl ?_)
 (refine Jx.fieldAddr rfl rfl ?_)
 (refine J.gY rfl rfl rfl ?_)
 (refine Jx.loadAg rfl 0 rfl rfl rfl rfl ?_)
 (refine J.gY rfl rfl rfl ?_)
 (refine J.call (c6) rfl (evs_args rfl) rfl ?_; rintro _ _ ⟨rfl, rfl⟩; simp only [la1, la2, la3])
 (refine Jx.pT rfl rfl rfl ?_)
 (refine Jx.assign rfl rfl (J.nil (N.seq (W.ret ?_))))
 (refine id ?_; rotate_left))
  exact N.retD (rs := [.tmp 4]) (L1 := []) rfl (.tmp rfl .nil) (List.nil_sublist _) ⟨by simp [oneOr], rfl⟩
set_option maxHeartbeats 8000000 in
theorem qbig_ok (x : An) (hl : x.heads.length ≤ 9223372036854775807) (hl2 : x.items.length ≤ 9223372036854775807) : FnC Try.prog 13 [.agg (anC x)] [] (fun v L => (∃ r, v = bool r ∧ (r = false → SmallN x)) ∧ L = []) := by
  have c1 := few_ok x.cert.signers 50 100 (by decide)
  have c2 := few_ok x.nodes 40 1000 (by decide)
  have c3 := few_ok x.pnodes 40 1000 (by decide)
  refine FnC.intro Try.func13 rfl Try.ntmps13 rfl fun Z w0 hG => ?_
  focus (
 (refine W.seq (W.region ?_))
 (refine J.boxAg rfl rfl ?_; intro b')
 (refine Jx.assign rfl rfl (J.nil (N.seq (W.seq (W.seq (W.region (Jx.fieldAddr rfl rfl ?_)))))))
 (refine Jx.load rfl 0 rfl rfl rfl ?_)
 (refine Jx.lenSl rfl rfl ?_)
 (refine Jx.gtrI rfl rfl rfl (Jx.move rfl rfl ?_))
 (refine' J.guardAnd rfl rfl rfl rfl rfl rfl rfl rfl (fun _ => ?_) ?_; rotate_left)
 (refine J.gY rfl rfl rfl ?_)
 (refine Jx.fieldAddr rfl rfl ?_)
 (refine J.gY rfl rfl rfl ?_)
 (refine Jx.load rfl 0 rfl rfl rfl ?_)
 (refine J.gY rfl rfl rfl ?_)
 (refine Jx.lenSl rfl rfl ?_)
 (refine J.gY rfl rfl rfl ?_)
 (refine Jx.leqI rfl rfl rfl (J.nil ?_))
 (refine N.joinedN rfl rfl rfl)
 (refine Jx.move rfl rfl ?_)
 (refine' J.guardOr rfl rfl rfl rfl rfl rfl rfl rfl (fun _ => ?_) ?_; rotate_left)
 (refine J.gY rfl rfl rfl ?_)
 (refine Jx.fieldAddr rfl rfl ?_)
 (refine J.gY rfl rfl rfl ?_)
 (refine Jx.load rfl 0 rfl rfl rfl ?_)
 (refine J.gY rfl rfl rfl ?_)
 (refine Jx.lenSl rfl rfl ?_)
 (refine J.gY rfl rfl rfl ?_)
 (refine Jx.gtrI rfl rfl rfl (J.nil ?_))
 (refine N.joinedN rfl rfl rfl)
 (refine Jx.move rfl rfl ?_)
 (refine' J.guardOr rfl rfl rfl rfl rfl rfl rfl rfl (fun _ => ?_) ?_; rotate_left)
 (refine J.gY rfl rfl rfl ?_)
 (refine Jx.fieldAddr rfl rfl ?_)
 (refine J.gY rfl rfl rfl ?_)
 (refine Jx.load rfl 0 rfl rfl rfl ?_)
 (refine J.gY rfl rfl rfl ?_)
 (refine Jx.lenSl rfl rfl ?_)
 (refine J.gY rfl rfl rfl ?_)
 (refine Jx.gtrI rfl rfl rfl (J.nil ?_))
 (refine N.joinedN rfl rfl rfl)
 (refine Jx.move rfl rfl ?_)
 (refine' J.guardOr rfl rfl rfl rfl rfl rfl rfl rfl (fun _ => ?_) ?_; rotate_left)
 (refine J.gY rfl rfl rfl ?_)
 (refine Jx.fieldAddr rfl rfl ?_)
 (refine J.gY rfl rfl rfl ?_)
 (refine Jx.load rfl 0 rfl rfl rfl ?_)
 (refine J.gY rfl rfl rfl ?_)
 (refine Jx.lenSl rfl rfl ?_)
 (refine J.gY rfl rfl rfl ?_)
 (refine Jx.gtrI rfl rfl rfl (J.nil ?_))
 (refine N.joinedN rfl rfl rfl)
 (refine Jx.move rfl rfl ?_)
 (refine' J.guardOr rfl rfl rfl rfl rfl rfl rfl rfl (fun _ => ?_) ?_; rotate_left)
 (refine J.gY rfl rfl rfl ?_)
 (refine Jx.fieldAddr rfl rfl ?_)
 (refine J.gY rfl rfl rfl ?_)
 (refine Jx.fieldAddr rfl rfl ?_)
 (refine J.gY rfl rfl rfl ?_)
 (refine Jx.load rfl 0 rfl rfl rfl ?_)
 (refine J.gY rfl rfl rfl ?_)
 (refine Jx.lenSl rfl rfl ?_)
 (refine J.gY rfl rfl rfl ?_)
 (refine Jx.gtrI rfl rfl rfl (J.nil ?_))
 (refine N.joinedN rfl rfl rfl)
 (refine Jx.move rfl rfl ?_)
 (refine' J.guardOr rfl rfl rfl rfl rfl rfl rfl rfl (fun _ => ?_) ?_; rotate_left)
 (refine J.gY rfl rfl rfl ?_)
 (refine Jx.fieldAddr rfl rfl ?_)
 (refine J.gY rfl rfl rfl ?_)
 (refine Jx.fieldAddr rfl rfl ?_)
 (refine J.gY rfl rfl rfl ?_)
 (refine Jx.load rfl 0 rfl rfl rfl ?_)
 (refine J.gY rfl rfl rfl ?_)
 (refine Jx.lenS rfl rfl ?_)
 (refine J.gY rfl rfl rfl ?_)
 (refine Jx.gtrI rfl rfl rfl (J.nil ?_))
 (refine N.joinedN rfl rfl rfl)
 (refine J.nil (N.seq ?_))
 (refine id ?_; rotate_left))
  obtain ⟨p1, hp1⟩ : ∃ q, q = b' := ⟨_, rfl⟩
  subst hp1
  refine W.cond rfl (fun hb => ?_) (fun hb => ?_)
  · focus (
 (refine W.seq (W.region (Jx.assign rfl rfl (J.nil (N.seq (W.ret (N.noGotoRet ?_)))))))
 (refine id ?_; rotate_left))
    exact N.retD (rs := [.tmp 2]) (L1 := []) rfl (.tmp rfl .nil) (List.nil_sublist _) ⟨⟨true, rfl, fun h => by cases h⟩, rfl⟩
  · simp only [Bool.or_eq_false_iff, Bool.and_eq_false_iff, decide_eq_false_iff_not] at hb
    obtain ⟨⟨⟨⟨⟨g1, g2⟩, g3⟩, g4⟩, g5⟩, g6⟩ := hb
    focus (
 (refine W.skip (N.seq (W.seq (W.seq (W.region (Jx.assign rfl rfl (J.nil (N.seq (W.block ?_)))))))))
 (refine id ?_; rotate_left))
    refine W.loop (α := Nat) (fun i => [(3, int (i : Int)), (1, ptr p1)]) (fun _ => [.obj p1 tAn (anC x)]) (fun i => i ≤ x.heads.length ∧ ∀ h ∈ x.heads.take i, h.skips.length ≤ 40) (fun i => x.heads.length - i) 0 (by simp) rfl ⟨ref0 rfl, ref0 rfl, trivial⟩ ?_
    rintro i ⟨hi, hn⟩
    by_cases h1 : i < x.heads.length
    · have cf := few_ok (x.heads.getD i hd0).skips 40 100 (by decide)
      focus (
 (refine W.seq (W.seq (W.region (Jx.move rfl rfl (Jx.fieldAddr rfl rfl ?_)))))
 (refine Jx.load rfl 0 rfl rfl rfl ?_)
 (refine Jx.lenSl rfl rfl ?_)
 (refine Jx.lssI rfl rfl rfl (J.nil (N.seq (W.cT rfl ?_))))
 (refine W.skip (N.seq (W.seq (W.block (W.seq (W.region (Jx.fieldAddr rfl rfl ?_)))))))
 (refine Jx.load rfl 0 rfl rfl rfl ?_)
 (refine Jx.move rfl rfl (Jx.indexEl rfl rfl (by assumption) rfl rfl ?_))
 (refine Jx.loadPPall rfl rfl rfl ?_)
 (refine J.alloc (by simp only [List.map_cons, List.map_nil]; rfl) rfl rfl ?_; intro b')
 (refine J.storeAll rfl rfl rfl 0 rfl rfl rfl ?_)
 (refine J.nil (N.seq (W.seq (W.region (Jx.fieldAddr rfl rfl ?_)))))
 (refine Jx.load rfl 0 rfl rfl rfl ?_)
 (refine J.call (cf) rfl (evs_args rfl) rfl ?_; rintro _ _ ⟨rfl, rfl⟩; simp only [la1, la2, la3])
 (refine Jx.not rfl rfl (Jx.move rfl rfl ?_))
 (refine' J.guardOr rfl rfl rfl rfl rfl rfl rfl rfl (fun _ => ?_) ?_; rotate_left)
 (refine J.gY rfl rfl rfl ?_)
 (refine Jx.fieldAddr rfl rfl ?_)
 (refine J.gY rfl rfl rfl ?_)
 (refine Jx.load rfl 0 rfl rfl rfl ?_)
 (refine J.gY rfl rfl rfl ?_)
 (refine Jx.lenS rfl rfl ?_)
 (refine J.gY rfl rfl rfl ?_)
 (refine Jx.gtrI rfl rfl rfl (J.nil ?_))
 (refine N.joinedN rfl rfl rfl)
 (refine Jx.move rfl rfl ?_)
 (refine' J.guardOr rfl rfl rfl rfl rfl rfl rfl rfl (fun _ => ?_) ?_; rotate_left)
 (refine J.gY rfl rfl rfl ?_)
 (refine Jx.fieldAddr rfl rfl ?_)
 (refine J.gY rfl rfl rfl ?_)
 (refine Jx.load rfl 0 rfl rfl rfl ?_)
 (refine J.gY rfl rfl rfl ?_)
 (refine Jx.lenS rfl rfl ?_)
 (refine J.gY rfl rfl rfl ?_)
 (refine Jx.gtrI rfl rfl rfl (J.nil ?_))
 (refine N.joinedN rfl rfl rfl)
 (refine Jx.move rfl rfl ?_)
 (refine' J.guardOr rfl rfl rfl rfl rfl rfl rfl rfl (fun _ => ?_) ?_; rotate_left)
 (refine J.gY rfl rfl rfl ?_)
 (refine Jx.fieldAddr rfl rfl ?_)
 (refine J.gY rfl rfl rfl ?_)
 (refine Jx.load rfl 0 rfl rfl rfl ?_)
 (refine J.gY rfl rfl rfl ?_)
 (refine Jx.lenS rfl rfl ?_)
 (refine J.gY rfl rfl rfl ?_)
 (refine Jx.gtrI rfl rfl rfl (J.nil ?_))
 (refine N.joinedN rfl rfl rfl)
 (refine Jx.move rfl rfl ?_)
 (refine' J.guardOr rfl rfl rfl rfl rfl rfl rfl rfl (fun _ => ?_) ?_; rotate_left)
 (refine J.gY rfl rfl rfl ?_)
 (refine Jx.fieldAddr rfl rfl ?_)
 (refine J.gY rfl rfl rfl ?_)
 (refine Jx.load rfl 0 rfl rfl rfl ?_)
 (refine J.gY rfl rfl rfl ?_)
 (refine Jx.lenS rfl rfl ?_)
 (refine J.gY rfl rfl rfl ?_)
 (refine Jx.gtrI rfl rfl rfl (J.nil ?_))
 (refine N.joinedN rfl rfl rfl)
 (refine Jx.move rfl rfl ?_)
 (refine' J.guardOr rfl rfl rfl rfl rfl rfl rfl rfl (fun _ => ?_) ?_; rotate_left)
 (refine J.gY rfl rfl rfl ?_)
 (refine Jx.fieldAddr rfl rfl ?_)
 (refine J.gY rfl rfl rfl ?_)
 (refine Jx.load rfl 0 rfl rfl rfl ?_)
 (refine J.gY rfl rfl rfl ?_)
 (refine Jx.lenS rfl rfl ?_)
 (refine J.gY rfl rfl rfl ?_)
 (refine Jx.gtrI rfl rfl rfl (J.nil ?_))
 (refine N.joinedN rfl rfl rfl)
 (refine Jx.move rfl rfl ?_)
 (refine' J.guardOr rfl rfl rfl rfl rfl rfl rfl rfl (fun _ => ?_) ?_; rotate_left)
 (refine J.gY rfl rfl rfl ?_)
 (refine Jx.fieldAddr rfl rfl ?_)
 (refine J.gY rfl rfl rfl ?_)
 (refine Jx.load rfl 0 rfl rfl rfl ?_)
 (refine J.gY rfl rfl rfl ?_)
 (refine Jx.lenS rfl rfl ?_)
 (refine J.gY rfl rfl rfl ?_)
 (refine Jx.gtrI rfl rfl rfl (J.nil ?_))
 (refine N.joinedN rfl rfl rfl)
 (refine J.nil (N.seq ?_))
 (refine id ?_; rotate_left))
      refine W.cond rfl (fun hq => ?_) (fun hq => ?_)
      · focus (
 (refine W.seq (W.region (Jx.assign rfl rfl (J.nil (N.seq (W.ret (N.noGotoRet (N.noGotoRet (N.noGotoRet (N.noGotoRet (N.noGotoRet ?_)))))))))))
 (refine id ?_; rotate_left))
        exact N.retD (rs := [.tmp 2]) (L1 := []) rfl (.tmp rfl .nil) (List.nil_sublist _) ⟨⟨true, rfl, fun h => by cases h⟩, rfl⟩
      · simp only [Bool.or_eq_false_iff, Bool.not_eq_false', decide_eq_false_iff_not] at hq
        have hsk := (few_spec (n := 40) (e := 100) hq.1.1.1.1.1.1).1
        focus (
 (refine W.skip (N.seq (W.region (Jx.move rfl rfl (Jx.add64 rfl rfl (by omega) rfl ?_)))))
 (refine Jx.assign rfl rfl (J.nil ?_))
 (refine id ?_; rotate_left))
        refine N.drop (List.sublist_cons_self _ _) ?_
        refine N.round (i + 1) ⟨h1, fun h hh => ?_⟩ (by omega) rfl ⟨ref0 rfl, ref0 rfl, trivial⟩
        rw [take_snoc (d := hd0) h1] at hh
        rcases List.mem_append.1 hh with hh | hh
        · exact hn h hh
        · simp only [List.mem_singleton] at hh; subst hh; exact hsk
    · rw [List.take_of_length_le (by omega)] at hn
      focus (
 (refine W.seq (W.seq (W.region (Jx.move rfl rfl (Jx.fieldAddr rfl rfl ?_)))))
 (refine Jx.load rfl 0 rfl rfl rfl ?_)
 (refine Jx.lenSl rfl rfl ?_)
 (refine Jx.lssI rfl rfl rfl (J.nil (N.seq (W.cF rfl ?_))))
 (refine W.exit (N.seq (W.seq (W.seq (W.region (Jx.assign rfl rfl (J.nil (N.seq (W.block ?_)))))))))
 (refine id ?_; rotate_left))
      refine W.loop (α := Nat) (fun i => [(5, int (i : Int)), (1, ptr p1)]) (fun _ => [.obj p1 tAn (anC x)]) (fun i => i ≤ x.items.length) (fun i => x.items.length - i) 0 (by simp) rfl ⟨ref0 rfl, ref0 rfl, trivial⟩ ?_
      rintro i hi
      by_cases h2 : i < x.items.length
      · focus (
 (refine W.seq (W.seq (W.region (Jx.move rfl rfl (Jx.fieldAddr rfl rfl ?_)))))
 (refine Jx.fieldAddr rfl rfl ?_)
 (refine Jx.load rfl 0 rfl rfl rfl ?_)
 (refine Jx.lenSl rfl rfl ?_)
 (refine Jx.lssI rfl rfl rfl (J.nil (N.seq (W.cT rfl ?_))))
 (refine W.skip (N.seq (W.seq (W.block (W.seq (W.region (Jx.fieldAddr rfl rfl ?_)))))))
 (refine Jx.fieldAddr rfl rfl ?_)
 (refine Jx.load rfl 0 rfl rfl rfl ?_)
 (refine Jx.move rfl rfl (Jx.indexEl rfl rfl (by assumption) rfl rfl ?_))
 (refine Jx.fieldEl rfl rfl rfl ?_)
 (refine Jx.loadPP rfl rfl ?_)
 (refine Jx.lenS rfl rfl ?_)
 (refine Jx.gtrI rfl rfl rfl (Jx.move rfl rfl ?_))
 (refine' J.guardOr rfl rfl rfl rfl rfl rfl rfl rfl (fun _ => ?_) ?_; rotate_left)
 (refine J.gY rfl rfl rfl ?_)
 (refine Jx.fieldAddr rfl rfl ?_)
 (refine J.gY rfl rfl rfl ?_)
 (refine Jx.fieldAddr rfl rfl ?_)
 (refine J.gY rfl rfl rfl ?_)
 (refine Jx.load rfl 0 rfl rfl rfl ?_)
 (refine J.gY rfl rfl rfl ?_)
 (refine Jx.move rfl rfl (J.gY rfl rfl rfl ?_))
 (refine Jx.indexEl rfl rfl (by assumption) rfl rfl ?_)
 (refine J.gY rfl rfl rfl ?_)
 (refine Jx.fieldEl rfl rfl rfl ?_)
 (refine J.gY rfl rfl rfl ?_)
 (refine Jx.loadPP rfl rfl ?_)
 (refine J.gY rfl rfl rfl ?_)
 (refine Jx.lenS rfl rfl ?_)
 (refine J.gY rfl rfl rfl ?_)
 (refine Jx.gtrI rfl rfl rfl (J.nil ?_))
 (refine N.joinedN rfl rfl rfl)
 (refine J.nil (N.seq ?_))
 (refine id ?_; rotate_left))
        refine W.cond rfl (fun hq => ?_) (fun hq => ?_)
        · focus (
 (refine W.seq (W.region (Jx.assign rfl rfl (J.nil (N.seq (W.ret (N.noGotoRet (N.noGotoRet (N.noGotoRet (N.noGotoRet (N.noGotoRet ?_)))))))))))
 (refine id ?_; rotate_left))
          exact N.retD (rs := [.tmp 2]) (L1 := []) rfl (.tmp rfl .nil) (List.nil_sublist _) ⟨⟨true, rfl, fun h => by cases h⟩, rfl⟩
        · focus (
 (refine W.skip (N.seq (W.region (Jx.move rfl rfl (Jx.add64 rfl rfl (by omega) rfl ?_)))))
 (refine Jx.assign rfl rfl (J.nil ?_))
 (refine id ?_; rotate_left))
          exact N.round (i + 1) h2 (by omega) rfl ⟨ref0 rfl, ref0 rfl, trivial⟩
      · focus (
 (refine W.seq (W.seq (W.region (Jx.move rfl rfl (Jx.fieldAddr rfl rfl ?_)))))
 (refine Jx.fieldAddr rfl rfl ?_)
 (refine Jx.load rfl 0 rfl rfl rfl ?_)
 (refine Jx.lenSl rfl rfl ?_)
 (refine Jx.lssI rfl rfl rfl (J.nil (N.seq (W.cF rfl ?_))))
 (refine W.exit (N.seq (W.seq (W.region (Jx.fieldAddr rfl rfl ?_)))))
 (refine Jx.fieldAddr rfl rfl ?_)
 (refine Jx.load rfl 0 rfl rfl rfl ?_)
 (refine J.call (c1) rfl (evs_args rfl) rfl ?_; rintro _ _ ⟨rfl, rfl⟩; simp only [la1, la2, la3])
 (refine Jx.not rfl rfl (Jx.move rfl rfl ?_))
 (refine' J.guardOr rfl rfl rfl rfl rfl rfl rfl rfl (fun _ => ?_) ?_; rotate_left)
 (refine J.gY rfl rfl rfl ?_)
 (refine Jx.fieldAddr rfl rfl ?_)
 (refine J.gY rfl rfl rfl ?_)
 (refine Jx.fieldAddr rfl rfl ?_)
 (refine J.gY rfl rfl rfl ?_)
 (refine Jx.load rfl 0 rfl rfl rfl ?_)
 (refine J.gY rfl rfl rfl ?_)
 (refine Jx.lenS rfl rfl ?_)
 (refine J.gY rfl rfl rfl ?_)
 (refine Jx.gtrI rfl rfl rfl (J.nil ?_))
 (refine N.joinedN rfl rfl rfl)
 (refine Jx.move rfl rfl ?_)
 (refine' J.guardOr rfl rfl rfl rfl rfl rfl rfl rfl (fun _ => ?_) ?_; rotate_left)
 (refine J.gY rfl rfl rfl ?_)
 (refine Jx.fieldAddr rfl rfl ?_)
 (refine J.gY rfl rfl rfl ?_)
 (refine Jx.load rfl 0 rfl rfl rfl ?_)
 (refine J.gY rfl rfl rfl ?_)
 (refine J.call (c2) rfl (evs_args rfl) rfl ?_; rintro _ _ ⟨rfl, rfl⟩; simp only [la1, la2, la3])
 (refine J.gY rfl rfl rfl ?_)
 (refine Jx.not rfl rfl (J.nil ?_))
 (refine N.joinedN rfl rfl rfl)
 (refine Jx.move rfl rfl ?_)
 (refine' J.guardOr rfl rfl rfl rfl rfl rfl rfl rfl (fun _ => ?_) ?_; rotate_left)
 (refine J.gY rfl rfl rfl ?_)
 (refine Jx.fieldAddr rfl rfl ?_)
 (refine J.gY rfl rfl rfl ?_)
 (refine Jx.fieldAddr rfl rfl ?_)
 (refine J.gY rfl rfl rfl ?_)
 (refine Jx.load rfl 0 rfl rfl rfl ?_)
 (refine J.gY rfl rfl rfl ?_)
 (refine J.call (c3) rfl (evs_args rfl) rfl ?_; rintro _ _ ⟨rfl, rfl⟩; simp only [la1, la2, la3])
 (refine J.gY rfl rfl rfl ?_)
 (refine Jx.not rfl rfl (J.nil ?_))
 (refine N.joinedN rfl rfl rfl)
 (refine Jx.assign rfl rfl (J.nil (N.seq (W.ret ?_))))
 (refine id ?_; rotate_left))
        refine N.retD (rs := [.tmp 2]) (L1 := []) rfl (.tmp rfl .nil) (List.nil_sublist _) ⟨⟨_, rfl, fun hr => ?_⟩, rfl⟩
        simp only [Bool.or_eq_false_iff, Bool.not_eq_false', decide_eq_false_iff_not] at hr
        have k1 := (few_spec (n := 50) (e := 100) hr.1.1.1).1
        have k2 := (few_spec (n := 40) (e := 1000) hr.1.2).1
        have k3 := (few_spec (n := 40) (e := 1000) hr.2).1
        exact ⟨by omega, by omega, hn, by omega, by omega, by omega, k1, k2, k3⟩
end Go.Proofs.Ytlfdhkahiaammaa
namespace Go.Proofs.Ytlfdhkahiaammaa
open Go Go.Sse
set_option linter.unusedVariables false
set_option linter.unusedSimpArgs false
set_option maxRecDepth 10000
def exA : Ak := ⟨1, 3, 0, [], [], 0⟩
def exN : An := ⟨5, 0, [], [], [], ct0, [], [], [], []⟩
theorem exA_fine : fineAk exA = true := by decide
theorem exA_enc : encAk exA = [1, 1, 3, 0, 0, 0, 0] := by decide +kernel
theorem ak0_no : fineAk ak0 = false := by decide
theorem exN_fine : fineAn exN = true := by decide
theorem exN_len : (encAn exN).length ≤ 1048576 := by decide +kernel
theorem exN_sub : SubL [int 5, int 0, .val (.slice none 0 0), .val (.slice none 0 0), .val (.slice none 0 0), str [], .val (.slice none 0 0), .val (.slice none 0 0), .val (.slice none 0 0), str [], .val (.slice none 0 0)] (anC exN) := .cons (.refl _) (.cons (.refl _) (.cons (Sub.nil 11 _) (.cons (Sub.nil 2 _) (.cons (Sub.nil 2 _) (.cons (.refl _) (.cons (Sub.nil 1 _) (.cons (Sub.nil 1 _) (.cons (Sub.nil 2 _) (.cons (.refl _) (.cons (Sub.nil 1 _) .nil))))))))))
theorem qdecA_enc {x : Ak} (h : fineAk x = true) : FnC Try.prog 9 [str (encAk x)] [] (fun v L => v = .tup [.agg (akC x), int 0] ∧ L = []) := by
  refine (qdecodeA_ok (encAk x) (by have := encAk_len (fineAk_spec h); omega)).mono ?_
  rintro v L ⟨⟨o, ho, rfl⟩, rfl⟩
  rw [apAk.some' ho h rfl]
  exact ⟨rfl, rfl⟩
theorem qdecN_enc {x : An} (h : fineAn x = true) (hl : (encAn x).length ≤ 1048576) : FnC Try.prog 14 [str (encAn x)] [] (fun v L => v = .tup [.agg (anC x), int 0] ∧ L = []) := by
  refine (qdecodeN_ok (encAn x) hl).mono ?_
  rintro v L ⟨⟨o, ho, rfl⟩, rfl⟩
  rw [apAn.some' ho h rfl]
  exact ⟨rfl, rfl⟩
theorem qdecN_none {s : List UInt8} (hs : s.length ≤ 1048576) (h : ∀ o, DecR fineAn encAn s o → o = none) : FnC Try.prog 14 [str s] [] (fun v L => v = .tup [.agg (anC an0), int 290] ∧ L = []) := by
  refine (qdecodeN_ok s hs).mono ?_
  rintro v L ⟨⟨o, ho, rfl⟩, rfl⟩
  rw [h o ho]
  exact ⟨rfl, rfl⟩
set_option maxHeartbeats 4000000 in
theorem qworks_ok : FnC Try.prog 6 [] [] (fun s L => s = bool true ∧ L = []) := by
  have c1 := qencodeA_ok exA
  rw [encO, exA_fine, if_pos rfl, exA_enc] at c1
  have c2 := qdecA_enc exA_fine
  rw [exA_enc] at c2
  have c3 := qencodeN_ok exN (by simp [exN])
  rw [encO, exN_fine, if_pos rfl] at c3
  have c4 := qdecN_enc exN_fine exN_len
  have c5 := qcheckA_ok ak0
  rw [ak0_no] at c5
  generalize encAn exN = en at *
  refine FnC.intro Try.func6 rfl Try.ntmps6 rfl fun Z w0 hG => ?_
  focus (
 (refine W.seq (W.region (Jx.assign rfl rfl (J.nil (N.seq (W.seq (W.region (Jx.buildB rfl rfl rfl rfl rfl ?_))))))))
 (refine J.call (c1) rfl (evs_args rfl) rfl ?_; rintro _ _ ⟨rfl, rfl⟩; simp only [la1, la2, la3])
 (refine Jx.move rfl rfl (Jx.extract rfl rfl rfl ?_))
 (refine Jx.extract rfl rfl rfl ?_)
 (refine Jx.assign rfl rfl (Jx.assign rfl rfl (J.nil (N.seq (W.seq (W.region (Jx.move rfl rfl ?_)))))))
 (refine J.call (c2) rfl (evs_args rfl) rfl ?_; rintro _ _ ⟨rfl, rfl⟩; simp only [la1, la2, la3])
 (refine Jx.move rfl rfl (Jx.extract rfl rfl rfl ?_))
 (refine Jx.extract rfl rfl rfl ?_)
 (refine J.alloc (by simp only [List.map_cons, List.map_nil]; rfl) rfl rfl ?_; intro b')
 (refine J.storeAll rfl rfl rfl 0 rfl rfl rfl ?_)
 (refine Jx.assign rfl rfl (J.nil (N.seq (W.seq (W.region (Jx.buildB rfl rfl rfl rfl rfl ?_))))))
 (refine J.call c3 rfl (Args.sub rfl (Sub.agg exN_sub) Args.nil) rfl ?_; rintro _ _ ⟨rfl, rfl⟩; simp only [la1, la2, la3])
 (refine Jx.move rfl rfl (Jx.extract rfl rfl rfl ?_))
 (refine Jx.extract rfl rfl rfl ?_)
 (refine Jx.assign rfl rfl (Jx.assign rfl rfl (J.nil (N.seq (W.seq (W.region (Jx.move rfl rfl ?_)))))))
 (refine J.call (c4) rfl (evs_args rfl) rfl ?_; rintro _ _ ⟨rfl, rfl⟩; simp only [la1, la2, la3])
 (refine Jx.move rfl rfl (Jx.extract rfl rfl rfl ?_))
 (refine Jx.extract rfl rfl rfl ?_)
 (refine J.alloc (by simp only [List.map_cons, List.map_nil]; rfl) rfl rfl ?_; intro b')
 (refine J.storeAll rfl rfl rfl 0 rfl rfl rfl ?_)
 (refine Jx.assign rfl rfl (J.nil (N.seq (W.seq (W.region (Jx.move rfl rfl (Jx.eqlS rfl rfl rfl (Jx.move rfl rfl (J.gY rfl rfl rfl ?_)))))))))
 (refine Jx.move rfl rfl (J.gY rfl rfl rfl ?_))
 (refine Jx.eqlI rfl rfl rfl (Jx.pT rfl rfl rfl ?_))
 (refine Jx.move rfl rfl (J.gY rfl rfl rfl ?_))
 (refine Jx.fieldAddr rfl rfl ?_)
 (refine J.gY rfl rfl rfl ?_)
 (refine Jx.load rfl 1 rfl rfl rfl ?_)
 (refine J.gY rfl rfl rfl ?_)
 (refine Jx.eqlI rfl rfl rfl (Jx.pT rfl rfl rfl ?_))
 (refine Jx.move rfl rfl (J.gY rfl rfl rfl ?_))
 (refine Jx.move rfl rfl (J.gY rfl rfl rfl ?_))
 (refine Jx.eqlI rfl rfl rfl (Jx.pT rfl rfl rfl ?_))
 (refine Jx.move rfl rfl (J.gY rfl rfl rfl ?_))
 (refine Jx.move rfl rfl (J.gY rfl rfl rfl ?_))
 (refine Jx.eqlI rfl rfl rfl (Jx.pT rfl rfl rfl ?_))
 (refine Jx.move rfl rfl (J.gY rfl rfl rfl ?_))
 (refine Jx.fieldAddr rfl rfl ?_)
 (refine J.gY rfl rfl rfl ?_)
 (refine Jx.load rfl 0 rfl rfl rfl ?_)
 (refine J.gY rfl rfl rfl ?_)
 (refine Jx.eqlI rfl rfl rfl (Jx.pT rfl rfl rfl ?_))
 (refine Jx.move rfl rfl (J.gY rfl rfl rfl ?_))
 (refine Jx.move rfl rfl (J.gY rfl rfl rfl ?_))
 (refine Jx.eqlI rfl rfl rfl (Jx.pT rfl rfl rfl ?_))
 (refine Jx.move rfl rfl (J.gY rfl rfl rfl ?_))
 (refine Jx.buildB rfl rfl rfl rfl rfl ?_)
 (refine J.gY rfl rfl rfl ?_)
 (refine J.call (c5) rfl (evs_args rfl) rfl ?_; rintro _ _ ⟨rfl, rfl⟩; simp only [la1, la2, la3])
 (refine J.gY rfl rfl rfl ?_)
 (refine Jx.eqlI rfl rfl rfl (Jx.pT rfl rfl rfl ?_))
 (refine Jx.assign rfl rfl (J.nil (N.seq (W.ret ?_))))
 (refine id ?_; rotate_left))
  exact N.retD (rs := [.tmp 0]) (L1 := []) rfl (.tmp rfl .nil) (List.nil_sublist _) ⟨by first | rfl | (simp [oneOr, exA, exN]; done), rfl⟩
theorem encAn_len {x : An} (f : FineN x) (h : SmallN x) : (encAn x).length ≤ 100000 := by
  have g1 := f.code; have g2 := f.height
  have k1 := numBs (n := x.code) (by omega)
  have k2 := numBs g2.2
  have hh : x.heads.length ≤ 8 := by have := f.heads; have := h.notmid; omega
  have m0 := listB_len' (l := x.heads.map encHd) (k := 887) (n := 8) (by rw [List.length_map]; exact hh) (by decide) (fun s hs => by obtain ⟨y, hy, rfl⟩ := List.mem_map.1 hs; exact encHd_len ((fineHd_iff y).1 (f.each y hy))) (by decide)
  have u1 := textB_len (encS_len f.set) (by omega)
  have u2 := textB_len (encS_len f.nxt) (by omega)
  have u3 := textB_len (encC_len f.cert) (by omega)
  have u4 := textB_len f.pnext (by omega)
  have m1 := listB_len' (l := x.nodes) (k := 700) (n := 40) h.nodes (by decide) f.nodes.2 (by decide)
  have m2 := listB_len' (l := flatI x.items) (k := 32) (n := 32) (by rw [flat_len]; have := f.items.1; omega) (by decide) (fun s hs => by
    obtain ⟨y, hy, h⟩ := flat_mem hs
    have := f.items.2 y hy
    rcases h with rfl | rfl <;> omega) (by decide)
  have m3 := listB_len' (l := x.pnodes) (k := 700) (n := 40) h.pnodes (by decide) f.pnodes.2 (by decide)
  simp only [encAn, List.length_append]; omega
theorem encAn_pos (x : An) : 1 ≤ (encAn x).length := by simp only [encAn, numB, List.length_append, List.length_cons]; omega
theorem fineAn_skips {y : An} (h : fineAn y = true) : ∀ x ∈ y.heads, x.skips.length ≤ 1048576 := fun x hx => by
  have := ((fineHd_iff x).1 ((fineAn_spec h).each x hx)).skips20; omega
set_option maxHeartbeats 8000000 in
theorem queryTold_ok (x : An) (hl : x.heads.length ≤ 9223372036854775807) (hl2 : x.items.length ≤ 9223372036854775807) (s : List UInt8) : FnC Try.prog 5 [.agg (anC x), str s] [] (fun v L => v = bool true ∧ L = []) := by
  have cb := qbig_ok x hl hl2
  have cw := qworks_ok
  refine FnC.intro Try.func5 rfl Try.ntmps5 rfl fun Z w0 hG => ?_
  focus (
 (refine W.seq (W.region ?_))
 (refine J.boxAg rfl rfl ?_; intro b')
 (refine Jx.assign rfl rfl (J.nil (N.seq (W.seq (W.seq (W.region ?_))))))
 (refine J.call (cw) rfl (evs_args rfl) rfl ?_; rintro _ _ ⟨rfl, rfl⟩; simp only [la1, la2, la3])
 (refine Jx.not rfl rfl (J.nil (N.seq (W.cF rfl ?_))))
 (refine W.skip (N.seq (W.seq (W.seq (W.region (Jx.loadAll rfl 0 rfl rfl rfl ?_))))))
 (refine J.call (cb) rfl (evs_args rfl) rfl ?_; rintro _ _ ⟨⟨r, rfl, hbig⟩, rfl⟩; simp only [la1, la2, la3])
 (refine Jx.move rfl rfl ?_)
 (refine' J.guardOr rfl rfl rfl rfl rfl rfl rfl rfl (fun _ => ?_) ?_; rotate_left)
 (refine J.gY rfl rfl rfl ?_)
 (refine Jx.move rfl rfl (J.gY rfl rfl rfl ?_))
 (refine Jx.lenS rfl rfl ?_)
 (refine J.gY rfl rfl rfl ?_)
 (refine Jx.gtrI rfl rfl rfl (J.nil ?_))
 (refine N.joinedN rfl rfl rfl)
 (refine J.nil (N.seq ?_))
 (refine id ?_; rotate_left))
  refine W.cond rfl (fun hb => ?_) (fun hb => ?_)
  · focus (
 (refine W.seq (W.region (Jx.assign rfl rfl (J.nil (N.seq (W.ret (N.noGotoRet ?_)))))))
 (refine id ?_; rotate_left))
    exact N.retD (rs := [.tmp 4]) (L1 := []) rfl (.tmp rfl .nil) (List.nil_sublist _) ⟨rfl, rfl⟩
  · simp only [Bool.or_eq_false_iff, decide_eq_false_iff_not] at hb
    have hsm := hbig hb.1
    have c3 := qdecodeN_ok s (by omega)
    focus (
 (refine W.skip (N.seq (W.seq (W.seq (W.region (Jx.move rfl rfl ?_))))))
 (refine J.call (c3) rfl (evs_args rfl) rfl ?_; rintro _ _ ⟨⟨o, ho, rfl⟩, rfl⟩; simp only [la1, la2, la3])
 (refine Jx.move rfl rfl (Jx.extract rfl rfl rfl ?_))
 (refine Jx.extract rfl rfl rfl ?_)
 (refine J.alloc (by simp only [List.map_cons, List.map_nil]; rfl) rfl rfl ?_; intro b')
 (refine J.storeAll rfl rfl rfl 0 rfl rfl rfl ?_)
 (refine Jx.assign rfl rfl (J.nil (N.seq (W.seq (W.region (Jx.move rfl rfl (Jx.eqlI rfl rfl rfl (J.nil (N.seq ?_)))))))))
 (refine id ?_; rotate_left))
    rename_i p2
    refine W.joinE (α := Unit) (fun _ => [(2, ptr p2), (1, str s)]) (fun _ => [.obj b' tAn (anC (o.getD an0)), .obj p2 tAn (anC x)]) (fun _ => True) ?_ ?_
    · cases o with
      | none =>
        have c7 := sameN_self an0 an0_small
        focus (
 (refine W.cF rfl ?_)
 (refine W.seq (W.region (Jx.move rfl rfl (Jx.neqI rfl rfl rfl (Jx.move rfl rfl (J.gY rfl rfl rfl ?_))))))
 (refine Jx.loadAll rfl 0 rfl rfl rfl ?_)
 (refine J.gY rfl rfl rfl ?_)
 (refine Jx.buildB rfl rfl rfl rfl rfl ?_)
 (refine J.gY rfl rfl rfl ?_)
 (refine J.call c7 rfl (Args.cons rfl (Args.sub rfl (Sub.agg anz_sub) Args.nil)) rfl ?_; rintro _ _ ⟨rfl, rfl⟩; simp only [la1, la2, la3])
 (refine J.gY rfl rfl rfl ?_)
 (refine Jx.not rfl rfl (Jx.pF rfl rfl rfl ?_))
 (refine J.nil (N.seq (W.cF rfl ?_)))
 (refine W.skip ?_)
 (refine id ?_; rotate_left))
        exact N.joinE () trivial rfl ⟨ref0 rfl, ref0 rfl, trivial⟩
      | some y =>
        have c4 := qencodeN_ok y (fineAn_skips ho.1)
        rw [encO, ho.1, if_pos rfl, ho.2] at c4
        simp only [Option.getD_some]
        focus (
 (refine W.cT rfl ?_)
 (refine W.seq (W.region (Jx.loadAll rfl 0 rfl rfl rfl ?_)))
 (refine J.call (c4) rfl (evs_args rfl) rfl ?_; rintro _ _ ⟨rfl, rfl⟩; simp only [la1, la2, la3])
 (refine Jx.move rfl rfl (Jx.extract rfl rfl rfl ?_))
 (refine Jx.extract rfl rfl rfl ?_)
 (refine Jx.assign rfl rfl (Jx.assign rfl rfl (J.nil (N.seq (W.seq (W.region (Jx.move rfl rfl (Jx.move rfl rfl (Jx.neqS rfl rfl rfl (Jx.move rfl rfl (J.gY rfl rfl rfl ?_)))))))))))
 (refine Jx.move rfl rfl (J.gY rfl rfl rfl ?_))
 (refine Jx.neqI rfl rfl rfl (Jx.pF rfl rfl rfl ?_))
 (refine J.nil (N.seq (W.cF rfl ?_)))
 (refine W.skip ?_)
 (refine id ?_; rotate_left))
        exact N.joinE () trivial rfl ⟨ref0 rfl, ref0 rfl, trivial⟩
    · intro _ _
      have hsk : ∀ h ∈ x.heads, h.skips.length ≤ 1048576 := fun h hh => by have := hsm.skips h hh; omega
      have c1 := qencodeN_ok x hsk
      have c2 := qcheckN_ok x hsk
      cases hf : fineAn x with
      | false =>
        rw [encO, hf] at c1
        rw [hf] at c2
        focus (
 (refine N.seq (W.seq (W.region (Jx.loadAll rfl 1 rfl rfl rfl ?_))))
 (refine J.call (c1) rfl (evs_args rfl) rfl ?_; rintro _ _ ⟨rfl, rfl⟩; simp only [la1, la2, la3])
 (refine Jx.move rfl rfl (Jx.extract rfl rfl rfl ?_))
 (refine Jx.extract rfl rfl rfl ?_)
 (refine Jx.assign rfl rfl (Jx.assign rfl rfl (J.nil (N.seq (W.seq (W.seq (W.region (Jx.move rfl rfl (Jx.neqI rfl rfl rfl (J.nil (N.seq (W.cT rfl ?_))))))))))))
 (refine W.seq (W.region (Jx.move rfl rfl (Jx.eqlI rfl rfl rfl (Jx.move rfl rfl (J.gY rfl rfl rfl ?_))))))
 (refine Jx.move rfl rfl (J.gY rfl rfl rfl ?_))
 (refine Jx.eqlS rfl rfl rfl (Jx.pT rfl rfl rfl ?_))
 (refine Jx.move rfl rfl (J.gY rfl rfl rfl ?_))
 (refine Jx.loadAll rfl 1 rfl rfl rfl ?_)
 (refine J.gY rfl rfl rfl ?_)
 (refine J.call (c2) rfl (evs_args rfl) rfl ?_; rintro _ _ ⟨rfl, rfl⟩; simp only [la1, la2, la3])
 (refine J.gY rfl rfl rfl ?_)
 (refine Jx.eqlI rfl rfl rfl (Jx.pT rfl rfl rfl ?_))
 (refine Jx.assign rfl rfl (J.nil (N.seq (W.ret (N.noGotoRet ?_)))))
 (refine id ?_; rotate_left))
        exact N.retD (rs := [.tmp 4]) (L1 := []) rfl (.tmp rfl .nil) (List.nil_sublist _) ⟨rfl, rfl⟩
      | true =>
        rw [encO, hf, if_pos rfl] at c1
        have hl := encAn_len (fineAn_spec hf) hsm
        have hp := encAn_pos x
        have d1 := qdecN_enc hf (by omega)
        have d2 := qdecN_none (s := encAn x ++ [0]) (by rw [List.length_append]; simp only [List.length_cons, List.length_nil]; omega) (fun o ho => apAn.more hf ho)
        have d3 := qdecN_none (s := (encAn x).take (((encAn x).length : Int) - 1).toNat) (by rw [List.length_take]; omega) (fun o ho => apAn.less hf (by omega) ho)
        have d4 := sameN_self x hsm
        generalize encAn x = t at *
        focus (
 (refine N.seq (W.seq (W.region (Jx.loadAll rfl 1 rfl rfl rfl ?_))))
 (refine J.call (c1) rfl (evs_args rfl) rfl ?_; rintro _ _ ⟨rfl, rfl⟩; simp only [la1, la2, la3])
 (refine Jx.move rfl rfl (Jx.extract rfl rfl rfl ?_))
 (refine Jx.extract rfl rfl rfl ?_)
 (refine Jx.assign rfl rfl (Jx.assign rfl rfl (J.nil (N.seq (W.seq (W.seq (W.region (Jx.move rfl rfl (Jx.neqI rfl rfl rfl (J.nil (N.seq (W.cF rfl ?_))))))))))))
 (refine W.skip (N.seq (W.seq (W.region (Jx.move rfl rfl ?_)))))
 (refine J.call (d1) rfl (evs_args rfl) rfl ?_; rintro _ _ ⟨rfl, rfl⟩; simp only [la1, la2, la3])
 (refine Jx.move rfl rfl (Jx.extract rfl rfl rfl ?_))
 (refine Jx.extract rfl rfl rfl ?_)
 (refine J.alloc (by simp only [List.map_cons, List.map_nil]; rfl) rfl rfl ?_; intro b')
 (refine J.storeAll rfl rfl rfl 0 rfl rfl rfl ?_)
 (refine Jx.assign rfl rfl (J.nil (N.seq (W.seq (W.region (Jx.move rfl rfl (Jx.cat rfl rfl (by first | omega | (simp only [List.length_append, List.length_cons, List.length_nil]; omega)) rfl ?_)))))))
 (refine J.call (d2) rfl (evs_args rfl) rfl ?_; rintro _ _ ⟨rfl, rfl⟩; simp only [la1, la2, la3])
 (refine Jx.move rfl rfl (Jx.extract rfl rfl rfl ?_))
 (refine Jx.extract rfl rfl rfl ?_)
 (refine J.alloc (by simp only [List.map_cons, List.map_nil]; rfl) rfl rfl ?_; intro b')
 (refine J.storeAll rfl rfl rfl 0 rfl rfl rfl ?_)
 (refine Jx.assign rfl rfl (J.nil (N.seq (W.seq (W.region (Jx.move rfl rfl (Jx.move rfl rfl (Jx.lenS rfl rfl ?_))))))))
 (refine Jx.sub64 rfl rfl (by omega) rfl ?_)
 (refine Jx.sliceSh rfl rfl (by omega) (by omega) rfl ?_)
 (refine J.call (d3) rfl (evs_args rfl) rfl ?_; rintro _ _ ⟨rfl, rfl⟩; simp only [la1, la2, la3])
 (refine Jx.move rfl rfl (Jx.extract rfl rfl rfl ?_))
 (refine Jx.extract rfl rfl rfl ?_)
 (refine J.alloc (by simp only [List.map_cons, List.map_nil]; rfl) rfl rfl ?_; intro b')
 (refine J.storeAll rfl rfl rfl 0 rfl rfl rfl ?_)
 (refine Jx.assign rfl rfl (J.nil (N.seq (W.seq (W.region (Jx.loadAll rfl 4 rfl rfl rfl ?_))))))
 (refine Jx.loadAll rfl 2 rfl rfl rfl ?_)
 (refine J.call (d4) rfl (evs_args rfl) rfl ?_; rintro _ _ ⟨rfl, rfl⟩; simp only [la1, la2, la3])
 (refine Jx.move rfl rfl (J.gY rfl rfl rfl ?_))
 (refine Jx.move rfl rfl (J.gY rfl rfl rfl ?_))
 (refine Jx.eqlI rfl rfl rfl (Jx.pT rfl rfl rfl ?_))
 (refine Jx.move rfl rfl (J.gY rfl rfl rfl ?_))
 (refine Jx.move rfl rfl (J.gY rfl rfl rfl ?_))
 (refine Jx.eqlI rfl rfl rfl (Jx.pT rfl rfl rfl ?_))
 (refine Jx.move rfl rfl (J.gY rfl rfl rfl ?_))
 (refine Jx.move rfl rfl (J.gY rfl rfl rfl ?_))
 (refine Jx.eqlI rfl rfl rfl (Jx.pT rfl rfl rfl ?_))
 (refine Jx.assign rfl rfl (J.nil (N.seq (W.ret ?_))))
 (refine id ?_; rotate_left))
        exact N.retD (rs := [.tmp 4]) (L1 := []) rfl (.tmp rfl .nil) (List.nil_sublist _) ⟨rfl, rfl⟩
end Go.Proofs.Ytlfdhkahiaammaa
