/-
  Lemmas for the claim, part 5.
-/
import Derived.Test.YtlfdhkahiaammaaDoorBlockBindsPd
namespace Go.Proofs.YtlfdhkahiaammaaDoor
open Go Go.Sse
set_option linter.unusedVariables false
set_option linter.unusedSimpArgs false
set_option maxRecDepth 10000
abbrev tBk : Nat := 29
theorem agBk : TAg Tryd.prog tBk 14 := inferInstance
abbrev bkz : List SV := [int 0, int 0, int 0, bool false, str [], str [], str [], str [], str [], str [], .val (.slice none 0 0), .val (.slice none 0 0), str [], .val (.slice none 0 0)]
theorem bkz_sub : SubL bkz (bkC bk0) := .cons (.refl _) (.cons (.refl _) (.cons (.refl _) (.cons (.refl _) (.cons (.refl _) (.cons (.refl _) (.cons (.refl _) (.cons (.refl _) (.cons (.refl _) (.cons (.refl _) (.cons (Sub.nil 1 _) (.cons (Sub.nil 8 _) (.cons (.refl _) (.cons (Sub.nil 1 _) .nil)))))))))))))
theorem topB_spec {b : Bk} (h : topB b = true) : fineHd b.head = true ∧ 1 ≤ b.head.height ∧ fineAll b.txs = true ∧ rootT b.txs = b.head.txs := by
  simp only [topB, Bool.and_eq_true, decide_eq_true_eq] at h
  exact ⟨h.1.1.1, h.1.1.2, h.1.2, h.2⟩
theorem topB_bad {b : Bk} (h : topB b = false) (hb : (((decide (codeB (fineHd b.head) 190 ≠ 0) || decide (codeAll b.txs ≠ 0)) || decide (b.head.height = 0)) || decide (rootT b.txs ≠ b.head.txs)) = false) : False := by
  simp only [Bool.or_eq_false_iff, decide_eq_false_iff_not, Classical.not_not] at hb
  obtain ⟨⟨⟨h1, h2⟩, h3⟩, h4⟩ := hb
  have hf : fineHd b.head = true := by
    cases hf : fineHd b.head with
    | true => rfl
    | false => rw [hf] at h1; simp at h1
  have := ((fineHd_iff _).1 hf).height
  rw [topB, hf, decide_eq_true (by omega), (codeAll_zero _).1 h2, decide_eq_true h4] at h
  cases h
theorem fineBk_top {b : Bk} (h : topB b = false) : fineBk b = false := by rw [fineBk, h]; rfl
set_option maxHeartbeats 2000000 in
theorem bencode_ok (b : Bk) (hl : b.head.skips.length ≤ 1048576) : FnC Tryd.prog 12 [.agg (bkC b)] [] (fun v L => v = .tup [str (encO fineBk encBk b), int (codeB (fineBk b) 210)] ∧ L = []) := by
  have c1 := hencode_ok b.head hl
  have c2 := troot_ok b.txs
  have c3 := tencAll_ok b.txs
  have c4 := bbare_ok b.just
  have c5 := cencode_ok b.just
  refine FnC.intro Tryd.func12 rfl Tryd.ntmps12 rfl fun Z w0 hG => ?_
  unfold encO
  cases ht : topB b with
  | false =>
    rw [fineBk_top ht]
    focus (
    (refine W.seq ?_)
    (refine W.region ?_)
    (refine J.boxAg rfl rfl ?_; intro b')
    (refine Jx.assign rfl rfl ?_)
    (refine Jx.assign rfl rfl ?_)
    (refine J.nil ?_)
    (refine N.seq ?_)
    (refine W.seq ?_)
    (refine W.region ?_)
    (refine Jx.fieldAddr rfl rfl ?_)
    (refine Jx.loadAg rfl 0 rfl rfl rfl rfl ?_)
    (refine J.call (c1) rfl (evs_args rfl) rfl ?_; rintro _ _ ⟨rfl, rfl⟩; simp only [List.cons_append, List.nil_append, List.append_nil])
    (refine Jx.move rfl rfl ?_)
    (refine Jx.extract rfl rfl rfl ?_)
    (refine Jx.extract rfl rfl rfl ?_)
    (refine Jx.assign rfl rfl ?_)
    (refine Jx.assign rfl rfl ?_)
    (refine J.nil ?_)
    (refine N.seq ?_)
    (refine W.seq ?_)
    (refine W.region ?_)
    (refine Jx.fieldAddr rfl rfl ?_)
    (refine Jx.load rfl 0 rfl rfl rfl ?_)
    (refine J.call (c2) rfl (evs_args rfl) rfl ?_; rintro _ _ ⟨rfl, rfl⟩; simp only [List.cons_append, List.nil_append, List.append_nil])
    (refine Jx.move rfl rfl ?_)
    (refine Jx.extract rfl rfl rfl ?_)
    (refine Jx.extract rfl rfl rfl ?_)
    (refine Jx.assign rfl rfl ?_)
    (refine Jx.assign rfl rfl ?_)
    (refine J.nil ?_)
    (refine N.seq ?_)
    (refine W.seq ?_)
    (refine W.seq ?_)
    (refine W.region ?_)
    (refine Jx.move rfl rfl ?_)
    (refine Jx.neqI rfl rfl rfl ?_)
    (refine Jx.move rfl rfl ?_)
    (refine' J.guardOr rfl rfl rfl rfl rfl rfl rfl rfl (fun _ => ?_) ?_; rotate_left)
    (refine J.gY rfl rfl rfl ?_)
    (refine Jx.move rfl rfl ?_)
    (refine J.gY rfl rfl rfl ?_)
    (refine Jx.neqI rfl rfl rfl ?_)
    (refine J.nil ?_)
    (refine N.joinedN rfl rfl rfl)
    (refine Jx.move rfl rfl ?_)
    (refine' J.guardOr rfl rfl rfl rfl rfl rfl rfl rfl (fun _ => ?_) ?_; rotate_left)
    (refine J.gY rfl rfl rfl ?_)
    (refine Jx.fieldAddr rfl rfl ?_)
    (refine J.gY rfl rfl rfl ?_)
    (refine Jx.fieldAddr rfl rfl ?_)
    (refine J.gY rfl rfl rfl ?_)
    (refine Jx.load rfl 0 rfl rfl rfl ?_)
    (refine J.gY rfl rfl rfl ?_)
    (refine Jx.eqlI rfl rfl rfl ?_)
    (refine J.nil ?_)
    (refine N.joinedN rfl rfl rfl)
    (refine Jx.move rfl rfl ?_)
    (refine' J.guardOr rfl rfl rfl rfl rfl rfl rfl rfl (fun _ => ?_) ?_; rotate_left)
    (refine J.gY rfl rfl rfl ?_)
    (refine Jx.move rfl rfl ?_)
    (refine J.gY rfl rfl rfl ?_)
    (refine Jx.fieldAddr rfl rfl ?_)
    (refine J.gY rfl rfl rfl ?_)
    (refine Jx.fieldAddr rfl rfl ?_)
    (refine J.gY rfl rfl rfl ?_)
    (refine Jx.load rfl 0 rfl rfl rfl ?_)
    (refine J.gY rfl rfl rfl ?_)
    (refine Jx.neqS rfl rfl rfl ?_)
    (refine J.nil ?_)
    (refine N.joinedN rfl rfl rfl)
    (refine J.nil ?_)
    (refine N.seq ?_)
    (refine id ?_; rotate_left))
    refine W.cond rfl (fun hb => ?_) (fun hb => ?_)
    · focus (
    (refine W.seq ?_)
    (refine W.region ?_)
    (refine Jx.assign rfl rfl ?_)
    (refine Jx.assign rfl rfl ?_)
    (refine J.nil ?_)
    (refine N.seq ?_)
    (refine W.ret ?_)
    (refine N.noGotoRet ?_)
    (refine id ?_; rotate_left))
      exact N.retD (rs := [.tmp 2, .tmp 3]) (L1 := []) rfl (.tmp rfl (.tmp rfl .nil)) (List.nil_sublist _) ⟨rfl, rfl⟩
    · exact (topB_bad ht hb).elim
  | true =>
    obtain ⟨t1, t2, t3, t4⟩ := topB_spec ht
    have hroot : ¬ rootT b.txs ≠ b.head.txs := fun h => h t4
    have l1 := encHd_len ((fineHd_iff _).1 t1)
    have l2 := encAll_len t3
    have c6 := text_ok (encHd b.head) (by omega)
    have c7 := text_ok (encAll b.txs) (by omega)
    have k1 := textB_len l1 (by omega); have k2 := textB_len l2 (by omega); have kf1 := flag_len true; have kf0 := flag_len false
    rw [encO, t1, if_pos rfl] at c1
    rw [(codeAll_zero _).2 t3] at c2
    rw [encO, t3, if_pos rfl, (codeAll_zero _).2 t3] at c3
    have e0 : encBk b = textB (encHd b.head) ++ (textB (encAll b.txs) ++ justE b.just) := rfl
    have e1 : fineBk b = justB b := by rw [fineBk, ht]; rfl
    rw [e0, e1]
    unfold justE justB
    clear e0 e1
    generalize rootT b.txs = rt at *
    generalize textB (encHd b.head) = th at *
    generalize textB (encAll b.txs) = ta at *
    generalize encHd b.head = eh at *
    generalize encAll b.txs = ea at *
    cases hbare : bareCt b.just with
    | true =>
      rw [hbare] at c4
      focus (
    (refine W.seq ?_)
    (refine W.region ?_)
    (refine J.boxAg rfl rfl ?_; intro b')
    (refine Jx.assign rfl rfl ?_)
    (refine Jx.assign rfl rfl ?_)
    (refine J.nil ?_)
    (refine N.seq ?_)
    (refine W.seq ?_)
    (refine W.region ?_)
    (refine Jx.fieldAddr rfl rfl ?_)
    (refine Jx.loadAg rfl 0 rfl rfl rfl rfl ?_)
    (refine J.call (c1) rfl (evs_args rfl) rfl ?_; rintro _ _ ⟨rfl, rfl⟩; simp only [List.cons_append, List.nil_append, List.append_nil])
    (refine Jx.move rfl rfl ?_)
    (refine Jx.extract rfl rfl rfl ?_)
    (refine Jx.extract rfl rfl rfl ?_)
    (refine Jx.assign rfl rfl ?_)
    (refine Jx.assign rfl rfl ?_)
    (refine J.nil ?_)
    (refine N.seq ?_)
    (refine W.seq ?_)
    (refine W.region ?_)
    (refine Jx.fieldAddr rfl rfl ?_)
    (refine Jx.load rfl 0 rfl rfl rfl ?_)
    (refine J.call (c2) rfl (evs_args rfl) rfl ?_; rintro _ _ ⟨rfl, rfl⟩; simp only [List.cons_append, List.nil_append, List.append_nil])
    (refine Jx.move rfl rfl ?_)
    (refine Jx.extract rfl rfl rfl ?_)
    (refine Jx.extract rfl rfl rfl ?_)
    (refine Jx.assign rfl rfl ?_)
    (refine Jx.assign rfl rfl ?_)
    (refine J.nil ?_)
    (refine N.seq ?_)
    (refine W.seq ?_)
    (refine W.seq ?_)
    (refine W.region ?_)
    (refine Jx.move rfl rfl ?_)
    (refine Jx.neqI rfl rfl rfl ?_)
    (refine Jx.move rfl rfl ?_)
    (refine J.gY rfl rfl rfl ?_)
    (refine Jx.move rfl rfl ?_)
    (refine J.gY rfl rfl rfl ?_)
    (refine Jx.neqI rfl rfl rfl ?_)
    (refine Jx.pF rfl rfl rfl ?_)
    (refine Jx.move rfl rfl ?_)
    (refine J.gY rfl rfl rfl ?_)
    (refine Jx.fieldAddr rfl rfl ?_)
    (refine J.gY rfl rfl rfl ?_)
    (refine Jx.fieldAddr rfl rfl ?_)
    (refine J.gY rfl rfl rfl ?_)
    (refine Jx.load rfl 0 rfl rfl rfl ?_)
    (refine J.gY rfl rfl rfl ?_)
    (refine Jx.eqlI rfl rfl rfl ?_)
    (refine Jx.pF rfl rfl rfl ?_)
    (refine Jx.move rfl rfl ?_)
    (refine J.gY rfl rfl rfl ?_)
    (refine Jx.move rfl rfl ?_)
    (refine J.gY rfl rfl rfl ?_)
    (refine Jx.fieldAddr rfl rfl ?_)
    (refine J.gY rfl rfl rfl ?_)
    (refine Jx.fieldAddr rfl rfl ?_)
    (refine J.gY rfl rfl rfl ?_)
    (refine Jx.load rfl 0 rfl rfl rfl ?_)
    (refine J.gY rfl rfl rfl ?_)
    (refine Jx.neqS rfl rfl rfl ?_)
    (refine Jx.pF rfl rfl rfl ?_)
    (refine J.nil ?_)
    (refine N.seq ?_)
    (refine W.cF rfl ?_)
    (refine W.skip ?_)
    (refine N.seq ?_)
    (refine W.seq ?_)
    (refine W.region ?_)
    (refine Jx.fieldAddr rfl rfl ?_)
    (refine Jx.load rfl 0 rfl rfl rfl ?_)
    (refine J.call (c3) rfl (evs_args rfl) rfl ?_; rintro _ _ ⟨rfl, rfl⟩; simp only [List.cons_append, List.nil_append, List.append_nil])
    (refine Jx.move rfl rfl ?_)
    (refine Jx.extract rfl rfl rfl ?_)
    (refine Jx.extract rfl rfl rfl ?_)
    (refine Jx.assign rfl rfl ?_)
    (refine Jx.assign rfl rfl ?_)
    (refine J.nil ?_)
    (refine N.seq ?_)
    (refine W.seq ?_)
    (refine W.region ?_)
    (refine Jx.move rfl rfl ?_)
    (refine J.call (c6) rfl (evs_args rfl) rfl ?_; rintro _ _ ⟨rfl, rfl⟩; simp only [List.cons_append, List.nil_append, List.append_nil])
    (refine Jx.move rfl rfl ?_)
    (refine J.call (c7) rfl (evs_args rfl) rfl ?_; rintro _ _ ⟨rfl, rfl⟩; simp only [List.cons_append, List.nil_append, List.append_nil])
    (refine Jx.cat rfl rfl (by first | omega | (simp only [List.length_append, List.length_cons, List.length_nil]; omega)) rfl ?_)
    (refine Jx.assign rfl rfl ?_)
    (refine J.nil ?_)
    (refine N.seq ?_)
    (refine W.seq ?_)
    (refine W.seq ?_)
    (refine W.region ?_)
    (refine Jx.fieldAddr rfl rfl ?_)
    (refine Jx.loadAg rfl 0 rfl rfl rfl rfl ?_)
    (refine J.call (c4) rfl (evs_args rfl) rfl ?_; rintro _ _ ⟨rfl, rfl⟩; simp only [List.cons_append, List.nil_append, List.append_nil])
    (refine J.nil ?_)
    (refine N.seq ?_)
    (refine W.cT rfl ?_)
    (refine W.seq ?_)
    (refine W.region ?_)
    (refine Jx.move rfl rfl ?_)
    (refine J.call ((flag_ok false)) rfl (evs_args rfl) rfl ?_; rintro _ _ ⟨rfl, rfl⟩; simp only [List.cons_append, List.nil_append, List.append_nil])
    (refine Jx.cat rfl rfl (by first | omega | (simp only [List.length_append, List.length_cons, List.length_nil]; omega)) rfl ?_)
    (refine Jx.assign rfl rfl ?_)
    (refine Jx.assign rfl rfl ?_)
    (refine J.nil ?_)
    (refine N.seq ?_)
    (refine W.ret ?_)
    (refine N.noGotoRet ?_)
    (refine id ?_; rotate_left))
      exact N.retD (rs := [.tmp 2, .tmp 3]) (L1 := []) rfl (.tmp rfl (.tmp rfl .nil)) (List.nil_sublist _) ⟨by simp [oneOr], rfl⟩
    | false =>
      rw [hbare] at c4
      cases hj : fineCt b.just with
      | false =>
        rw [hj] at c5
        focus (
    (refine W.seq ?_)
    (refine W.region ?_)
    (refine J.boxAg rfl rfl ?_; intro b')
    (refine Jx.assign rfl rfl ?_)
    (refine Jx.assign rfl rfl ?_)
    (refine J.nil ?_)
    (refine N.seq ?_)
    (refine W.seq ?_)
    (refine W.region ?_)
    (refine Jx.fieldAddr rfl rfl ?_)
    (refine Jx.loadAg rfl 0 rfl rfl rfl rfl ?_)
    (refine J.call (c1) rfl (evs_args rfl) rfl ?_; rintro _ _ ⟨rfl, rfl⟩; simp only [List.cons_append, List.nil_append, List.append_nil])
    (refine Jx.move rfl rfl ?_)
    (refine Jx.extract rfl rfl rfl ?_)
    (refine Jx.extract rfl rfl rfl ?_)
    (refine Jx.assign rfl rfl ?_)
    (refine Jx.assign rfl rfl ?_)
    (refine J.nil ?_)
    (refine N.seq ?_)
    (refine W.seq ?_)
    (refine W.region ?_)
    (refine Jx.fieldAddr rfl rfl ?_)
    (refine Jx.load rfl 0 rfl rfl rfl ?_)
    (refine J.call (c2) rfl (evs_args rfl) rfl ?_; rintro _ _ ⟨rfl, rfl⟩; simp only [List.cons_append, List.nil_append, List.append_nil])
    (refine Jx.move rfl rfl ?_)
    (refine Jx.extract rfl rfl rfl ?_)
    (refine Jx.extract rfl rfl rfl ?_)
    (refine Jx.assign rfl rfl ?_)
    (refine Jx.assign rfl rfl ?_)
    (refine J.nil ?_)
    (refine N.seq ?_)
    (refine W.seq ?_)
    (refine W.seq ?_)
    (refine W.region ?_)
    (refine Jx.move rfl rfl ?_)
    (refine Jx.neqI rfl rfl rfl ?_)
    (refine Jx.move rfl rfl ?_)
    (refine J.gY rfl rfl rfl ?_)
    (refine Jx.move rfl rfl ?_)
    (refine J.gY rfl rfl rfl ?_)
    (refine Jx.neqI rfl rfl rfl ?_)
    (refine Jx.pF rfl rfl rfl ?_)
    (refine Jx.move rfl rfl ?_)
    (refine J.gY rfl rfl rfl ?_)
    (refine Jx.fieldAddr rfl rfl ?_)
    (refine J.gY rfl rfl rfl ?_)
    (refine Jx.fieldAddr rfl rfl ?_)
    (refine J.gY rfl rfl rfl ?_)
    (refine Jx.load rfl 0 rfl rfl rfl ?_)
    (refine J.gY rfl rfl rfl ?_)
    (refine Jx.eqlI rfl rfl rfl ?_)
    (refine Jx.pF rfl rfl rfl ?_)
    (refine Jx.move rfl rfl ?_)
    (refine J.gY rfl rfl rfl ?_)
    (refine Jx.move rfl rfl ?_)
    (refine J.gY rfl rfl rfl ?_)
    (refine Jx.fieldAddr rfl rfl ?_)
    (refine J.gY rfl rfl rfl ?_)
    (refine Jx.fieldAddr rfl rfl ?_)
    (refine J.gY rfl rfl rfl ?_)
    (refine Jx.load rfl 0 rfl rfl rfl ?_)
    (refine J.gY rfl rfl rfl ?_)
    (refine Jx.neqS rfl rfl rfl ?_)
    (refine Jx.pF rfl rfl rfl ?_)
    (refine J.nil ?_)
    (refine N.seq ?_)
    (refine W.cF rfl ?_)
    (refine W.skip ?_)
    (refine N.seq ?_)
    (refine W.seq ?_)
    (refine W.region ?_)
    (refine Jx.fieldAddr rfl rfl ?_)
    (refine Jx.load rfl 0 rfl rfl rfl ?_)
    (refine J.call (c3) rfl (evs_args rfl) rfl ?_; rintro _ _ ⟨rfl, rfl⟩; simp only [List.cons_append, List.nil_append, List.append_nil])
    (refine Jx.move rfl rfl ?_)
    (refine Jx.extract rfl rfl rfl ?_)
    (refine Jx.extract rfl rfl rfl ?_)
    (refine Jx.assign rfl rfl ?_)
    (refine Jx.assign rfl rfl ?_)
    (refine J.nil ?_)
    (refine N.seq ?_)
    (refine W.seq ?_)
    (refine W.region ?_)
    (refine Jx.move rfl rfl ?_)
    (refine J.call (c6) rfl (evs_args rfl) rfl ?_; rintro _ _ ⟨rfl, rfl⟩; simp only [List.cons_append, List.nil_append, List.append_nil])
    (refine Jx.move rfl rfl ?_)
    (refine J.call (c7) rfl (evs_args rfl) rfl ?_; rintro _ _ ⟨rfl, rfl⟩; simp only [List.cons_append, List.nil_append, List.append_nil])
    (refine Jx.cat rfl rfl (by first | omega | (simp only [List.length_append, List.length_cons, List.length_nil]; omega)) rfl ?_)
    (refine Jx.assign rfl rfl ?_)
    (refine J.nil ?_)
    (refine N.seq ?_)
    (refine W.seq ?_)
    (refine W.seq ?_)
    (refine W.region ?_)
    (refine Jx.fieldAddr rfl rfl ?_)
    (refine Jx.loadAg rfl 0 rfl rfl rfl rfl ?_)
    (refine J.call (c4) rfl (evs_args rfl) rfl ?_; rintro _ _ ⟨rfl, rfl⟩; simp only [List.cons_append, List.nil_append, List.append_nil])
    (refine J.nil ?_)
    (refine N.seq ?_)
    (refine W.cF rfl ?_)
    (refine W.skip ?_)
    (refine N.seq ?_)
    (refine W.seq ?_)
    (refine W.region ?_)
    (refine Jx.fieldAddr rfl rfl ?_)
    (refine Jx.loadAg rfl 0 rfl rfl rfl rfl ?_)
    (refine J.call (c5) rfl (evs_args rfl) rfl ?_; rintro _ _ ⟨rfl, rfl⟩; simp only [List.cons_append, List.nil_append, List.append_nil])
    (refine Jx.move rfl rfl ?_)
    (refine Jx.extract rfl rfl rfl ?_)
    (refine Jx.extract rfl rfl rfl ?_)
    (refine Jx.assign rfl rfl ?_)
    (refine Jx.assign rfl rfl ?_)
    (refine J.nil ?_)
    (refine N.seq ?_)
    (refine W.seq ?_)
    (refine W.seq ?_)
    (refine W.region ?_)
    (refine Jx.move rfl rfl ?_)
    (refine Jx.neqI rfl rfl rfl ?_)
    (refine Jx.move rfl rfl ?_)
    (refine J.gN rfl rfl rfl rfl ?_)
    (refine J.gN rfl rfl rfl rfl ?_)
    (refine J.gN rfl rfl rfl rfl ?_)
    (refine J.gN rfl rfl rfl rfl ?_)
    (refine J.gN rfl rfl rfl rfl ?_)
    (refine J.gN rfl rfl rfl rfl ?_)
    (refine J.gN rfl rfl rfl rfl ?_)
    (refine Jx.pT rfl rfl rfl ?_)
    (refine J.nil ?_)
    (refine N.seq ?_)
    (refine W.cT rfl ?_)
    (refine W.seq ?_)
    (refine W.region ?_)
    (refine Jx.assign rfl rfl ?_)
    (refine Jx.assign rfl rfl ?_)
    (refine J.nil ?_)
    (refine N.seq ?_)
    (refine W.ret ?_)
    (refine N.noGotoRet ?_)
    (refine id ?_; rotate_left))
        exact N.retD (rs := [.tmp 2, .tmp 3]) (L1 := []) rfl (.tmp rfl (.tmp rfl .nil)) (List.nil_sublist _) ⟨rfl, rfl⟩
      | true =>
        rw [encO, hj, if_pos rfl] at c5
        have l3 := encCt_len hj
        have c8 := text_ok (encCt b.just) (by omega)
        have k3 := textB_len l3 (by omega)
        generalize textB (encCt b.just) = tc at *
        generalize encCt b.just = ec at *
        by_cases hp : b.just.digest = b.head.parent
        · have hp' : ¬ b.just.digest ≠ b.head.parent := fun h => h hp
          focus (
    (refine W.seq ?_)
    (refine W.region ?_)
    (refine J.boxAg rfl rfl ?_; intro b')
    (refine Jx.assign rfl rfl ?_)
    (refine Jx.assign rfl rfl ?_)
    (refine J.nil ?_)
    (refine N.seq ?_)
    (refine W.seq ?_)
    (refine W.region ?_)
    (refine Jx.fieldAddr rfl rfl ?_)
    (refine Jx.loadAg rfl 0 rfl rfl rfl rfl ?_)
    (refine J.call (c1) rfl (evs_args rfl) rfl ?_; rintro _ _ ⟨rfl, rfl⟩; simp only [List.cons_append, List.nil_append, List.append_nil])
    (refine Jx.move rfl rfl ?_)
    (refine Jx.extract rfl rfl rfl ?_)
    (refine Jx.extract rfl rfl rfl ?_)
    (refine Jx.assign rfl rfl ?_)
    (refine Jx.assign rfl rfl ?_)
    (refine J.nil ?_)
    (refine N.seq ?_)
    (refine W.seq ?_)
    (refine W.region ?_)
    (refine Jx.fieldAddr rfl rfl ?_)
    (refine Jx.load rfl 0 rfl rfl rfl ?_)
    (refine J.call (c2) rfl (evs_args rfl) rfl ?_; rintro _ _ ⟨rfl, rfl⟩; simp only [List.cons_append, List.nil_append, List.append_nil])
    (refine Jx.move rfl rfl ?_)
    (refine Jx.extract rfl rfl rfl ?_)
    (refine Jx.extract rfl rfl rfl ?_)
    (refine Jx.assign rfl rfl ?_)
    (refine Jx.assign rfl rfl ?_)
    (refine J.nil ?_)
    (refine N.seq ?_)
    (refine W.seq ?_)
    (refine W.seq ?_)
    (refine W.region ?_)
    (refine Jx.move rfl rfl ?_)
    (refine Jx.neqI rfl rfl rfl ?_)
    (refine Jx.move rfl rfl ?_)
    (refine J.gY rfl rfl rfl ?_)
    (refine Jx.move rfl rfl ?_)
    (refine J.gY rfl rfl rfl ?_)
    (refine Jx.neqI rfl rfl rfl ?_)
    (refine Jx.pF rfl rfl rfl ?_)
    (refine Jx.move rfl rfl ?_)
    (refine J.gY rfl rfl rfl ?_)
    (refine Jx.fieldAddr rfl rfl ?_)
    (refine J.gY rfl rfl rfl ?_)
    (refine Jx.fieldAddr rfl rfl ?_)
    (refine J.gY rfl rfl rfl ?_)
    (refine Jx.load rfl 0 rfl rfl rfl ?_)
    (refine J.gY rfl rfl rfl ?_)
    (refine Jx.eqlI rfl rfl rfl ?_)
    (refine Jx.pF rfl rfl rfl ?_)
    (refine Jx.move rfl rfl ?_)
    (refine J.gY rfl rfl rfl ?_)
    (refine Jx.move rfl rfl ?_)
    (refine J.gY rfl rfl rfl ?_)
    (refine Jx.fieldAddr rfl rfl ?_)
    (refine J.gY rfl rfl rfl ?_)
    (refine Jx.fieldAddr rfl rfl ?_)
    (refine J.gY rfl rfl rfl ?_)
    (refine Jx.load rfl 0 rfl rfl rfl ?_)
    (refine J.gY rfl rfl rfl ?_)
    (refine Jx.neqS rfl rfl rfl ?_)
    (refine Jx.pF rfl rfl rfl ?_)
    (refine J.nil ?_)
    (refine N.seq ?_)
    (refine W.cF rfl ?_)
    (refine W.skip ?_)
    (refine N.seq ?_)
    (refine W.seq ?_)
    (refine W.region ?_)
    (refine Jx.fieldAddr rfl rfl ?_)
    (refine Jx.load rfl 0 rfl rfl rfl ?_)
    (refine J.call (c3) rfl (evs_args rfl) rfl ?_; rintro _ _ ⟨rfl, rfl⟩; simp only [List.cons_append, List.nil_append, List.append_nil])
    (refine Jx.move rfl rfl ?_)
    (refine Jx.extract rfl rfl rfl ?_)
    (refine Jx.extract rfl rfl rfl ?_)
    (refine Jx.assign rfl rfl ?_)
    (refine Jx.assign rfl rfl ?_)
    (refine J.nil ?_)
    (refine N.seq ?_)
    (refine W.seq ?_)
    (refine W.region ?_)
    (refine Jx.move rfl rfl ?_)
    (refine J.call (c6) rfl (evs_args rfl) rfl ?_; rintro _ _ ⟨rfl, rfl⟩; simp only [List.cons_append, List.nil_append, List.append_nil])
    (refine Jx.move rfl rfl ?_)
    (refine J.call (c7) rfl (evs_args rfl) rfl ?_; rintro _ _ ⟨rfl, rfl⟩; simp only [List.cons_append, List.nil_append, List.append_nil])
    (refine Jx.cat rfl rfl (by first | omega | (simp only [List.length_append, List.length_cons, List.length_nil]; omega)) rfl ?_)
    (refine Jx.assign rfl rfl ?_)
    (refine J.nil ?_)
    (refine N.seq ?_)
    (refine W.seq ?_)
    (refine W.seq ?_)
    (refine W.region ?_)
    (refine Jx.fieldAddr rfl rfl ?_)
    (refine Jx.loadAg rfl 0 rfl rfl rfl rfl ?_)
    (refine J.call (c4) rfl (evs_args rfl) rfl ?_; rintro _ _ ⟨rfl, rfl⟩; simp only [List.cons_append, List.nil_append, List.append_nil])
    (refine J.nil ?_)
    (refine N.seq ?_)
    (refine W.cF rfl ?_)
    (refine W.skip ?_)
    (refine N.seq ?_)
    (refine W.seq ?_)
    (refine W.region ?_)
    (refine Jx.fieldAddr rfl rfl ?_)
    (refine Jx.loadAg rfl 0 rfl rfl rfl rfl ?_)
    (refine J.call (c5) rfl (evs_args rfl) rfl ?_; rintro _ _ ⟨rfl, rfl⟩; simp only [List.cons_append, List.nil_append, List.append_nil])
    (refine Jx.move rfl rfl ?_)
    (refine Jx.extract rfl rfl rfl ?_)
    (refine Jx.extract rfl rfl rfl ?_)
    (refine Jx.assign rfl rfl ?_)
    (refine Jx.assign rfl rfl ?_)
    (refine J.nil ?_)
    (refine N.seq ?_)
    (refine W.seq ?_)
    (refine W.seq ?_)
    (refine W.region ?_)
    (refine Jx.move rfl rfl ?_)
    (refine Jx.neqI rfl rfl rfl ?_)
    (refine Jx.move rfl rfl ?_)
    (refine J.gY rfl rfl rfl ?_)
    (refine Jx.fieldAddr rfl rfl ?_)
    (refine J.gY rfl rfl rfl ?_)
    (refine Jx.fieldAddr rfl rfl ?_)
    (refine J.gY rfl rfl rfl ?_)
    (refine Jx.load rfl 0 rfl rfl rfl ?_)
    (refine J.gY rfl rfl rfl ?_)
    (refine Jx.fieldAddr rfl rfl ?_)
    (refine J.gY rfl rfl rfl ?_)
    (refine Jx.fieldAddr rfl rfl ?_)
    (refine J.gY rfl rfl rfl ?_)
    (refine Jx.load rfl 0 rfl rfl rfl ?_)
    (refine J.gY rfl rfl rfl ?_)
    (refine Jx.neqS rfl rfl rfl ?_)
    (refine Jx.pF rfl rfl rfl ?_)
    (refine J.nil ?_)
    (refine N.seq ?_)
    (refine W.cF rfl ?_)
    (refine W.skip ?_)
    (refine N.seq ?_)
    (refine W.seq ?_)
    (refine W.region ?_)
    (refine Jx.move rfl rfl ?_)
    (refine J.call ((flag_ok true)) rfl (evs_args rfl) rfl ?_; rintro _ _ ⟨rfl, rfl⟩; simp only [List.cons_append, List.nil_append, List.append_nil])
    (refine Jx.cat rfl rfl (by first | omega | (simp only [List.length_append, List.length_cons, List.length_nil]; omega)) rfl ?_)
    (refine Jx.move rfl rfl ?_)
    (refine J.call (c8) rfl (evs_args rfl) rfl ?_; rintro _ _ ⟨rfl, rfl⟩; simp only [List.cons_append, List.nil_append, List.append_nil])
    (refine Jx.cat rfl rfl (by first | omega | (simp only [List.length_append, List.length_cons, List.length_nil]; omega)) rfl ?_)
    (refine Jx.assign rfl rfl ?_)
    (refine Jx.assign rfl rfl ?_)
    (refine J.nil ?_)
    (refine N.seq ?_)
    (refine W.ret ?_)
    (refine id ?_; rotate_left))
          exact N.retD (rs := [.tmp 2, .tmp 3]) (L1 := []) rfl (.tmp rfl (.tmp rfl .nil)) (List.nil_sublist _) ⟨by simp [oneOr, hp], rfl⟩
        · rw [decide_eq_false hp]
          focus (
    (refine W.seq ?_)
    (refine W.region ?_)
    (refine J.boxAg rfl rfl ?_; intro b')
    (refine Jx.assign rfl rfl ?_)
    (refine Jx.assign rfl rfl ?_)
    (refine J.nil ?_)
    (refine N.seq ?_)
    (refine W.seq ?_)
    (refine W.region ?_)
    (refine Jx.fieldAddr rfl rfl ?_)
    (refine Jx.loadAg rfl 0 rfl rfl rfl rfl ?_)
    (refine J.call (c1) rfl (evs_args rfl) rfl ?_; rintro _ _ ⟨rfl, rfl⟩; simp only [List.cons_append, List.nil_append, List.append_nil])
    (refine Jx.move rfl rfl ?_)
    (refine Jx.extract rfl rfl rfl ?_)
    (refine Jx.extract rfl rfl rfl ?_)
    (refine Jx.assign rfl rfl ?_)
    (refine Jx.assign rfl rfl ?_)
    (refine J.nil ?_)
    (refine N.seq ?_)
    (refine W.seq ?_)
    (refine W.region ?_)
    (refine Jx.fieldAddr rfl rfl ?_)
    (refine Jx.load rfl 0 rfl rfl rfl ?_)
    (refine J.call (c2) rfl (evs_args rfl) rfl ?_; rintro _ _ ⟨rfl, rfl⟩; simp only [List.cons_append, List.nil_append, List.append_nil])
    (refine Jx.move rfl rfl ?_)
    (refine Jx.extract rfl rfl rfl ?_)
    (refine Jx.extract rfl rfl rfl ?_)
    (refine Jx.assign rfl rfl ?_)
    (refine Jx.assign rfl rfl ?_)
    (refine J.nil ?_)
    (refine N.seq ?_)
    (refine W.seq ?_)
    (refine W.seq ?_)
    (refine W.region ?_)
    (refine Jx.move rfl rfl ?_)
    (refine Jx.neqI rfl rfl rfl ?_)
    (refine Jx.move rfl rfl ?_)
    (refine J.gY rfl rfl rfl ?_)
    (refine Jx.move rfl rfl ?_)
    (refine J.gY rfl rfl rfl ?_)
    (refine Jx.neqI rfl rfl rfl ?_)
    (refine Jx.pF rfl rfl rfl ?_)
    (refine Jx.move rfl rfl ?_)
    (refine J.gY rfl rfl rfl ?_)
    (refine Jx.fieldAddr rfl rfl ?_)
    (refine J.gY rfl rfl rfl ?_)
    (refine Jx.fieldAddr rfl rfl ?_)
    (refine J.gY rfl rfl rfl ?_)
    (refine Jx.load rfl 0 rfl rfl rfl ?_)
    (refine J.gY rfl rfl rfl ?_)
    (refine Jx.eqlI rfl rfl rfl ?_)
    (refine Jx.pF rfl rfl rfl ?_)
    (refine Jx.move rfl rfl ?_)
    (refine J.gY rfl rfl rfl ?_)
    (refine Jx.move rfl rfl ?_)
    (refine J.gY rfl rfl rfl ?_)
    (refine Jx.fieldAddr rfl rfl ?_)
    (refine J.gY rfl rfl rfl ?_)
    (refine Jx.fieldAddr rfl rfl ?_)
    (refine J.gY rfl rfl rfl ?_)
    (refine Jx.load rfl 0 rfl rfl rfl ?_)
    (refine J.gY rfl rfl rfl ?_)
    (refine Jx.neqS rfl rfl rfl ?_)
    (refine Jx.pF rfl rfl rfl ?_)
    (refine J.nil ?_)
    (refine N.seq ?_)
    (refine W.cF rfl ?_)
    (refine W.skip ?_)
    (refine N.seq ?_)
    (refine W.seq ?_)
    (refine W.region ?_)
    (refine Jx.fieldAddr rfl rfl ?_)
    (refine Jx.load rfl 0 rfl rfl rfl ?_)
    (refine J.call (c3) rfl (evs_args rfl) rfl ?_; rintro _ _ ⟨rfl, rfl⟩; simp only [List.cons_append, List.nil_append, List.append_nil])
    (refine Jx.move rfl rfl ?_)
    (refine Jx.extract rfl rfl rfl ?_)
    (refine Jx.extract rfl rfl rfl ?_)
    (refine Jx.assign rfl rfl ?_)
    (refine Jx.assign rfl rfl ?_)
    (refine J.nil ?_)
    (refine N.seq ?_)
    (refine W.seq ?_)
    (refine W.region ?_)
    (refine Jx.move rfl rfl ?_)
    (refine J.call (c6) rfl (evs_args rfl) rfl ?_; rintro _ _ ⟨rfl, rfl⟩; simp only [List.cons_append, List.nil_append, List.append_nil])
    (refine Jx.move rfl rfl ?_)
    (refine J.call (c7) rfl (evs_args rfl) rfl ?_; rintro _ _ ⟨rfl, rfl⟩; simp only [List.cons_append, List.nil_append, List.append_nil])
    (refine Jx.cat rfl rfl (by first | omega | (simp only [List.length_append, List.length_cons, List.length_nil]; omega)) rfl ?_)
    (refine Jx.assign rfl rfl ?_)
    (refine J.nil ?_)
    (refine N.seq ?_)
    (refine W.seq ?_)
    (refine W.seq ?_)
    (refine W.region ?_)
    (refine Jx.fieldAddr rfl rfl ?_)
    (refine Jx.loadAg rfl 0 rfl rfl rfl rfl ?_)
    (refine J.call (c4) rfl (evs_args rfl) rfl ?_; rintro _ _ ⟨rfl, rfl⟩; simp only [List.cons_append, List.nil_append, List.append_nil])
    (refine J.nil ?_)
    (refine N.seq ?_)
    (refine W.cF rfl ?_)
    (refine W.skip ?_)
    (refine N.seq ?_)
    (refine W.seq ?_)
    (refine W.region ?_)
    (refine Jx.fieldAddr rfl rfl ?_)
    (refine Jx.loadAg rfl 0 rfl rfl rfl rfl ?_)
    (refine J.call (c5) rfl (evs_args rfl) rfl ?_; rintro _ _ ⟨rfl, rfl⟩; simp only [List.cons_append, List.nil_append, List.append_nil])
    (refine Jx.move rfl rfl ?_)
    (refine Jx.extract rfl rfl rfl ?_)
    (refine Jx.extract rfl rfl rfl ?_)
    (refine Jx.assign rfl rfl ?_)
    (refine Jx.assign rfl rfl ?_)
    (refine J.nil ?_)
    (refine N.seq ?_)
    (refine W.seq ?_)
    (refine W.seq ?_)
    (refine W.region ?_)
    (refine Jx.move rfl rfl ?_)
    (refine Jx.neqI rfl rfl rfl ?_)
    (refine Jx.move rfl rfl ?_)
    (refine J.gY rfl rfl rfl ?_)
    (refine Jx.fieldAddr rfl rfl ?_)
    (refine J.gY rfl rfl rfl ?_)
    (refine Jx.fieldAddr rfl rfl ?_)
    (refine J.gY rfl rfl rfl ?_)
    (refine Jx.load rfl 0 rfl rfl rfl ?_)
    (refine J.gY rfl rfl rfl ?_)
    (refine Jx.fieldAddr rfl rfl ?_)
    (refine J.gY rfl rfl rfl ?_)
    (refine Jx.fieldAddr rfl rfl ?_)
    (refine J.gY rfl rfl rfl ?_)
    (refine Jx.load rfl 0 rfl rfl rfl ?_)
    (refine J.gY rfl rfl rfl ?_)
    (refine Jx.neqS rfl rfl rfl ?_)
    (refine Jx.pF rfl rfl rfl ?_)
    (refine J.nil ?_)
    (refine N.seq ?_)
    (refine W.cT rfl ?_)
    (refine W.seq ?_)
    (refine W.region ?_)
    (refine Jx.assign rfl rfl ?_)
    (refine Jx.assign rfl rfl ?_)
    (refine J.nil ?_)
    (refine N.seq ?_)
    (refine W.ret ?_)
    (refine N.noGotoRet ?_)
    (refine id ?_; rotate_left))
          exact N.retD (rs := [.tmp 2, .tmp 3]) (L1 := []) rfl (.tmp rfl (.tmp rfl .nil)) (List.nil_sublist _) ⟨rfl, rfl⟩
theorem bcheck_ok (b : Bk) (hl : b.head.skips.length ≤ 1048576) : FnC Tryd.prog 15 [.agg (bkC b)] [] (fun v L => v = int (codeB (fineBk b) 210) ∧ L = []) := by
  have c := bencode_ok b hl
  generalize encO fineBk encBk b = e at *
  refine FnC.intro Tryd.func15 rfl Tryd.ntmps15 rfl fun Z w0 hG => ?_
  focus (
    (refine W.seq ?_)
    (refine W.region ?_)
    (refine J.boxAg rfl rfl ?_; intro b')
    (refine Jx.assign rfl rfl ?_)
    (refine J.nil ?_)
    (refine N.seq ?_)
    (refine W.seq ?_)
    (refine W.region ?_)
    (refine Jx.loadAll rfl 0 rfl rfl rfl ?_)
    (refine J.call (c) rfl (evs_args rfl) rfl ?_; rintro _ _ ⟨rfl, rfl⟩; simp only [List.cons_append, List.nil_append, List.append_nil])
    (refine Jx.move rfl rfl ?_)
    (refine Jx.extract rfl rfl rfl ?_)
    (refine Jx.extract rfl rfl rfl ?_)
    (refine Jx.assign rfl rfl ?_)
    (refine Jx.assign rfl rfl ?_)
    (refine J.nil ?_)
    (refine N.seq ?_)
    (refine W.seq ?_)
    (refine W.region ?_)
    (refine Jx.move rfl rfl ?_)
    (refine Jx.assign rfl rfl ?_)
    (refine J.nil ?_)
    (refine N.seq ?_)
    (refine W.ret ?_)
    (refine id ?_; rotate_left))
  exact N.retD (rs := [.tmp 2]) (L1 := []) rfl (.tmp rfl .nil) (List.nil_sublist _) ⟨rfl, rfl⟩
def digB (b : Bk) : List UInt8 := if fineBk b then digH b.head else []
theorem bdigest_ok (b : Bk) (hl : b.head.skips.length ≤ 1048576) : FnC Tryd.prog 14 [.agg (bkC b)] [] (fun v L => v = str (digB b) ∧ L = []) := by
  have c := bcheck_ok b hl
  have c2 := hdigest_ok b.head hl
  refine FnC.intro Tryd.func14 rfl Tryd.ntmps14 rfl fun Z w0 hG => ?_
  unfold digB
  cases hf : fineBk b with
  | false =>
    rw [hf] at c
    focus (
    (refine W.seq ?_)
    (refine W.region ?_)
    (refine J.boxAg rfl rfl ?_; intro b')
    (refine Jx.assign rfl rfl ?_)
    (refine J.nil ?_)
    (refine N.seq ?_)
    (refine W.seq ?_)
    (refine W.seq ?_)
    (refine W.region ?_)
    (refine Jx.loadAll rfl 0 rfl rfl rfl ?_)
    (refine J.call (c) rfl (evs_args rfl) rfl ?_; rintro _ _ ⟨rfl, rfl⟩; simp only [List.cons_append, List.nil_append, List.append_nil])
    (refine Jx.neqI rfl rfl rfl ?_)
    (refine J.nil ?_)
    (refine N.seq ?_)
    (refine W.cT rfl ?_)
    (refine W.seq ?_)
    (refine W.region ?_)
    (refine Jx.assign rfl rfl ?_)
    (refine J.nil ?_)
    (refine N.seq ?_)
    (refine W.ret ?_)
    (refine N.noGotoRet ?_)
    (refine id ?_; rotate_left))
    exact N.retD (rs := [.tmp 2]) (L1 := []) rfl (.tmp rfl .nil) (List.nil_sublist _) ⟨rfl, rfl⟩
  | true =>
    rw [hf] at c
    rw [if_pos rfl]
    generalize digH b.head = d at *
    focus (
    (refine W.seq ?_)
    (refine W.region ?_)
    (refine J.boxAg rfl rfl ?_; intro b')
    (refine Jx.assign rfl rfl ?_)
    (refine J.nil ?_)
    (refine N.seq ?_)
    (refine W.seq ?_)
    (refine W.seq ?_)
    (refine W.region ?_)
    (refine Jx.loadAll rfl 0 rfl rfl rfl ?_)
    (refine J.call (c) rfl (evs_args rfl) rfl ?_; rintro _ _ ⟨rfl, rfl⟩; simp only [List.cons_append, List.nil_append, List.append_nil])
    (refine Jx.neqI rfl rfl rfl ?_)
    (refine J.nil ?_)
    (refine N.seq ?_)
    (refine W.cF rfl ?_)
    (refine W.skip ?_)
    (refine N.seq ?_)
    (refine W.seq ?_)
    (refine W.region ?_)
    (refine Jx.fieldAddr rfl rfl ?_)
    (refine Jx.loadAg rfl 0 rfl rfl rfl rfl ?_)
    (refine J.call (c2) rfl (evs_args rfl) rfl ?_; rintro _ _ ⟨rfl, rfl⟩; simp only [List.cons_append, List.nil_append, List.append_nil])
    (refine Jx.assign rfl rfl ?_)
    (refine J.nil ?_)
    (refine N.seq ?_)
    (refine W.ret ?_)
    (refine id ?_; rotate_left))
    exact N.retD (rs := [.tmp 2]) (L1 := []) rfl (.tmp rfl .nil) (List.nil_sublist _) ⟨rfl, rfl⟩
end Go.Proofs.YtlfdhkahiaammaaDoor
namespace Go.Proofs.YtlfdhkahiaammaaDoor
open Go Go.Sse
set_option linter.unusedVariables false
set_option linter.unusedSimpArgs false
set_option maxRecDepth 10000
abbrev hdz : List SV := [int 0, int 0, int 0, bool false, str [], str [], str [], str [], str [], str [], .val (.slice none 0 0)]
theorem hdz_sub : SubL hdz (hdC hd0) := .cons (.refl _) (.cons (.refl _) (.cons (.refl _) (.cons (.refl _) (.cons (.refl _) (.cons (.refl _) (.cons (.refl _) (.cons (.refl _) (.cons (.refl _) (.cons (.refl _) (.cons (Sub.nil 1 _) .nil))))))))))
theorem agHd : TAg Tryd.prog tHd 11 := inferInstance
theorem reps_step {n : Nat} {acc : List (List UInt8)} {t : List UInt8} {st st' : PSt} {all : List (List UInt8) × PSt} (h : all = (acc ++ (reps (n + 1) st).1, (reps (n + 1) st).2)) (hb : bytesP 32 st = (t, st')) : all = ((acc ++ [t]) ++ (reps n st').1, (reps n st').2) := by
  rw [h]; simp only [reps, hb, List.append_assoc, List.cons_append, List.nil_append]
set_option maxHeartbeats 8000000 in
theorem hdecode_ok (s : List UInt8) (hs : s.length ≤ 1099511627776) : FnC Tryd.prog 65 [str s] [] (fun v L => (∃ o, DecR fineHd encHd s o ∧ v = .tup [.agg (hdC (o.getD hd0)), int (codeO o 190)]) ∧ L = []) := by
  have c0 := read_ok s
  refine FnC.intro Tryd.func65 rfl Tryd.ntmps65 rfl fun Z w0 hG => ?_
  focus (
    (refine W.seq ?_)
    (refine W.region ?_)
    (refine J.alloc (by simp only [List.map_cons, List.map_nil]; rfl) rfl rfl ?_; intro b')
    (refine Jx.assign rfl rfl ?_)
    (refine J.nil ?_)
    (refine N.seq ?_)
    (refine W.seq ?_)
    (refine W.region ?_)
    (refine Jx.move rfl rfl ?_)
    (refine J.call (Lc := []) c0 rfl (evs_args rfl) rfl ?_; rintro _ _ ⟨b, rfl, rfl⟩; simp only [List.cons_append, List.nil_append, List.append_nil])
    (refine Jx.assign rfl rfl ?_)
    (refine J.nil ?_)
    (refine N.seq ?_)
    (refine W.seq ?_)
    (refine W.region ?_)
    (refine J.alloc (by simp only [List.map_cons, List.map_nil]; rfl) rfl rfl ?_; intro b')
    (refine J.nil ?_)
    (refine N.seq ?_)
    (refine W.seq ?_)
    (refine W.region ?_)
    (refine Jx.move rfl rfl ?_)
    (refine J.call1 1 ((rd_Num b s 0 0 (Nat.zero_le _) hs)) rfl (evs_args rfl) rfl (by rintro _ _ ⟨n1, a1, c1, rfl, rfl, ha1, hl1, e1⟩; exact ⟨_, rfl⟩) ?_; rintro _ _ ⟨n1, a1, c1, rfl, ⟨⟩, ha1, hl1, e1⟩; simp only [List.set_cons_zero, List.set_cons_succ])
    (refine Jx.move rfl rfl ?_)
    (refine J.call1 1 ((rd_Num b s a1 c1 ha1 hs)) rfl (evs_args rfl) rfl (by rintro _ _ ⟨n2, a2, c2, rfl, rfl, ha2, hl2, e2⟩; exact ⟨_, rfl⟩) ?_; rintro _ _ ⟨n2, a2, c2, rfl, ⟨⟩, ha2, hl2, e2⟩; simp only [List.set_cons_zero, List.set_cons_succ])
    (refine Jx.move rfl rfl ?_)
    (refine J.call1 1 ((rd_Num b s a2 c2 ha2 hs)) rfl (evs_args rfl) rfl (by rintro _ _ ⟨n3, a3, c3, rfl, rfl, ha3, hl3, e3⟩; exact ⟨_, rfl⟩) ?_; rintro _ _ ⟨n3, a3, c3, rfl, ⟨⟩, ha3, hl3, e3⟩; simp only [List.set_cons_zero, List.set_cons_succ])
    (refine Jx.fieldAddr rfl rfl ?_)
    (refine J.st 0 rfl rfl rfl rfl rfl rfl ?_)
    (refine Jx.fieldAddr rfl rfl ?_)
    (refine J.st 0 rfl rfl rfl rfl rfl rfl ?_)
    (refine Jx.fieldAddr rfl rfl ?_)
    (refine J.st 0 rfl rfl rfl rfl rfl rfl ?_)
    (refine J.nil ?_)
    (refine N.seq ?_)
    (refine W.seq ?_)
    (refine W.region ?_)
    (refine Jx.move rfl rfl ?_)
    (refine J.call1 1 ((rd_Flag b s a3 c3 ha3 hs)) rfl (evs_args rfl) rfl (by rintro _ _ ⟨lf', a4, c4, rfl, rfl, ha4, e4⟩; exact ⟨_, rfl⟩) ?_; rintro _ _ ⟨lf', a4, c4, rfl, ⟨⟩, ha4, e4⟩; simp only [List.set_cons_zero, List.set_cons_succ])
    (refine Jx.fieldAddr rfl rfl ?_)
    (refine J.st 0 rfl rfl rfl rfl rfl rfl ?_)
    (refine J.nil ?_)
    (refine N.seq ?_)
    (refine W.seq ?_)
    (refine W.region ?_)
    (refine Jx.move rfl rfl ?_)
    (refine J.call1 1 ((rd_Text b s a4 c4 32 ha4 hs)) rfl (evs_args rfl) rfl (by rintro _ _ ⟨t5, a5, c5, rfl, rfl, ha5, e5⟩; exact ⟨_, rfl⟩) ?_; rintro _ _ ⟨t5, a5, c5, rfl, ⟨⟩, ha5, e5⟩; simp only [List.set_cons_zero, List.set_cons_succ])
    (refine Jx.move rfl rfl ?_)
    (refine J.call1 1 ((rd_Text b s a5 c5 32 ha5 hs)) rfl (evs_args rfl) rfl (by rintro _ _ ⟨t6, a6, c6, rfl, rfl, ha6, e6⟩; exact ⟨_, rfl⟩) ?_; rintro _ _ ⟨t6, a6, c6, rfl, ⟨⟩, ha6, e6⟩; simp only [List.set_cons_zero, List.set_cons_succ])
    (refine Jx.move rfl rfl ?_)
    (refine J.call1 1 ((rd_Text b s a6 c6 32 ha6 hs)) rfl (evs_args rfl) rfl (by rintro _ _ ⟨t7, a7, c7, rfl, rfl, ha7, e7⟩; exact ⟨_, rfl⟩) ?_; rintro _ _ ⟨t7, a7, c7, rfl, ⟨⟩, ha7, e7⟩; simp only [List.set_cons_zero, List.set_cons_succ])
    (refine Jx.fieldAddr rfl rfl ?_)
    (refine J.st 0 rfl rfl rfl rfl rfl rfl ?_)
    (refine Jx.fieldAddr rfl rfl ?_)
    (refine J.st 0 rfl rfl rfl rfl rfl rfl ?_)
    (refine Jx.fieldAddr rfl rfl ?_)
    (refine J.st 0 rfl rfl rfl rfl rfl rfl ?_)
    (refine J.nil ?_)
    (refine N.seq ?_)
    (refine W.seq ?_)
    (refine W.region ?_)
    (refine Jx.move rfl rfl ?_)
    (refine J.call1 1 ((rd_Bytes b s a7 c7 32 ha7 hs)) rfl (evs_args rfl) rfl (by rintro _ _ ⟨t8, a8, c8, rfl, rfl, ha8, e8⟩; exact ⟨_, rfl⟩) ?_; rintro _ _ ⟨t8, a8, c8, rfl, ⟨⟩, ha8, e8⟩; simp only [List.set_cons_zero, List.set_cons_succ])
    (refine Jx.move rfl rfl ?_)
    (refine J.call1 1 ((rd_Bytes b s a8 c8 32 ha8 hs)) rfl (evs_args rfl) rfl (by rintro _ _ ⟨t9, a9, c9, rfl, rfl, ha9, e9⟩; exact ⟨_, rfl⟩) ?_; rintro _ _ ⟨t9, a9, c9, rfl, ⟨⟩, ha9, e9⟩; simp only [List.set_cons_zero, List.set_cons_succ])
    (refine Jx.move rfl rfl ?_)
    (refine J.call1 1 ((rd_Bytes b s a9 c9 32 ha9 hs)) rfl (evs_args rfl) rfl (by rintro _ _ ⟨t10, a10, c10, rfl, rfl, ha10, e10⟩; exact ⟨_, rfl⟩) ?_; rintro _ _ ⟨t10, a10, c10, rfl, ⟨⟩, ha10, e10⟩; simp only [List.set_cons_zero, List.set_cons_succ])
    (refine Jx.fieldAddr rfl rfl ?_)
    (refine J.st 0 rfl rfl rfl rfl rfl rfl ?_)
    (refine Jx.fieldAddr rfl rfl ?_)
    (refine J.st 0 rfl rfl rfl rfl rfl rfl ?_)
    (refine Jx.fieldAddr rfl rfl ?_)
    (refine J.st 0 rfl rfl rfl rfl rfl rfl ?_)
    (refine J.nil ?_)
    (refine N.seq ?_)
    (refine W.seq ?_)
    (refine W.seq ?_)
    (refine W.region ?_)
    (refine Jx.fieldAddr rfl rfl ?_)
    (refine Jx.load rfl 0 rfl rfl rfl ?_)
    (refine J.call ((links_ok (n1 : Int))) rfl (evs_args rfl) rfl ?_; rintro _ _ ⟨rfl, rfl⟩; simp only [List.cons_append, List.nil_append, List.append_nil])
    (refine Jx.lenSl rfl rfl ?_)
    (refine Jx.move rfl rfl ?_)
    (refine J.nil ?_)
    (refine N.seq ?_)
    (refine W.block ?_)
    (refine id ?_; rotate_left))
  rename_i p2
  have hln := linksI_len (n1 : Int)
  refine W.rowNil 9 1 (elOf (fun a => [str a]) [] []) ?_
  refine W.perm (List.Perm.trans (List.Perm.cons _ (List.Perm.swap _ _ _)) (List.Perm.swap _ _ _)) ?_
  refine W.loop (α := Value × List (List UInt8) × Nat × Int) (fun x => [(42, int (x.2.1.length : Int)), (41, int ((linksI (n1 : Int)).length : Int)), (5, ptr b'), (4, ptr b), (2, ptr p2)])
    (fun x => [rdO b ⟨s, x.2.2.1, x.2.2.2⟩, .row x.1 9 1 x.2.1.length (elOf (fun a => [str a]) [] x.2.1), .obj b' tHd [int (n1 : Int), int (n2 : Int), int (n3 : Int), bool lf', str t5, str t6, str t7, str t8, str t9, str t10, .val x.1], .obj p2 tHd hdz])
    (fun x => x.2.2.1 ≤ s.length ∧ x.2.1.length ≤ (linksI (n1 : Int)).length ∧ reps (linksI (n1 : Int)).length (lf s a10 c10) = (x.2.1 ++ (reps ((linksI (n1 : Int)).length - x.2.1.length) (lf s x.2.2.1 x.2.2.2)).1, (reps ((linksI (n1 : Int)).length - x.2.1.length) (lf s x.2.2.1 x.2.2.2)).2)) (fun x => (linksI (n1 : Int)).length - x.2.1.length) (.slice none 0 0, [], a10, c10) ⟨ha10, by simp, by simp⟩ rfl ⟨ref0 rfl, ref0 rfl, ref0 rfl, ref0 rfl, ref0 rfl, trivial⟩ ?_
  rintro ⟨u, acc, a, c⟩ ⟨ha, hi, hr⟩
  simp only at ha hi hr ⊢
  have rdh : ∀ (sk : List (List UInt8)) (st : PSt), reps (linksI (n1 : Int)).length (lf s a10 c10) = (sk, st) → ReadH s ⟨n1, n2, n3, lf', t5, t6, t7, t8, t9, t10, sk⟩ st := fun sk st h =>
    ⟨n1, n2, n3, _, _, _, _, _, _, _, _, _, _, e1, rfl, e2, rfl, e3, rfl, e4, e5, e6, e7, e8, e9, e10, h⟩
  by_cases h1 : acc.length < (linksI (n1 : Int)).length
  · have cb := rd_Bytes b s a c 32 ha hs
    have hmx : ∀ t : List UInt8, acc.length + [t].length ≤ maxLen ∧ (acc.length + [t].length) * 16 ≤ 140737488355328 := fun t => by simp only [maxLen, List.length_cons, List.length_nil]; omega
    have hsucc : (linksI (n1 : Int)).length - acc.length = ((linksI (n1 : Int)).length - (acc.length + 1)) + 1 := by omega
    focus (
    (refine W.seq ?_)
    (refine W.region ?_)
    (refine Jx.lssI rfl rfl rfl ?_)
    (refine J.nil ?_)
    (refine N.seq ?_)
    (refine W.seq ?_)
    (refine W.cT rfl ?_)
    (refine W.skip ?_)
    (refine N.seq ?_)
    (refine W.seq ?_)
    (refine W.block ?_)
    (refine W.draw follows ?_)
    (refine JD.begin 8 rfl ?_; refine JP.more [0, 1, 2] _ rfl (by decide +kernel) ?_)
    (refine Cx.fieldAddr rfl rfl ?_)
    (refine Cx.load rfl 2 rfl rfl rfl ?_)
    (refine Cx.move rfl rfl ?_)
    (refine SegC.nil ?_)
    (refine JP.call (idx := [0, 1, 2]) (Lc := [rdO b ⟨s, a, c⟩]) 3 [46] [2, 3] [0, 1] cb rfl (by decide +kernel) rfl ?_ (evs_args rfl) rfl ?_; rotate_left; rintro _ _ ⟨t, a', c', rfl, rfl, ha', hb'⟩; simp only [List.cons_append, List.nil_append]; refine JP.more [4] _ rfl (by decide +kernel) ?_; rotate_left)
    (refine Cx.fieldAddr rfl rfl ?_)
    (refine Cx.load rfl 2 rfl rfl rfl ?_)
    (refine Cx.move rfl rfl ?_)
    (refine SegC.nil ?_)
    (refine Ag.cons rfl ?_)
    (refine Ag.cons rfl ?_)
    (refine Ag.cons rfl ?_)
    (refine Ag.nil)
    (refine SegC.q (Qs.buildTexts [t] rfl rfl rfl (by decide) (by decide)) rfl ?_)
    (refine SegC.nil ?_)
    (refine JP.perm (List.Perm.swap _ _ _) ?_; refine JP.append (idx := [0, 1, 4]) (m := acc) (m2 := [t]) 5 [45, 48] [0, 1, 2, 3, 4, 5] [] (by decide +kernel) rfl ?_ rfl (SrcOK.sl rfl) rfl rfl (hmx t) rfl ?_; rotate_left; intro v' hv'; rotate_left)
    (refine Cx.fieldAddr rfl rfl ?_)
    (refine Cx.load rfl 2 rfl rfl rfl ?_)
    (refine SegC.q (Qs.buildTexts [t] rfl rfl rfl (by decide) (by decide)) rfl ?_)
    (refine SegC.nil ?_)
    (refine Ag.cons rfl ?_)
    (refine Ag.cons rfl ?_)
    (refine Ag.cons rfl ?_)
    (refine Ag.nil)
    (refine JP.tail (idx := []) 6 (by decide +kernel) (by decide +kernel) rfl rfl ?_ ?_)
    (refine SegC.nil ?_)
    (refine Ag.nil)
    (refine Jx.fieldAddr rfl rfl ?_)
    (refine J.store rfl rfl (One.val hv') 2 rfl rfl rfl rfl ?_)
    (refine J.nil ?_)
    (refine N.seq ?_)
    (refine W.region ?_)
    (refine Jx.add64 rfl rfl (by omega) rfl ?_)
    (refine Jx.move rfl rfl ?_)
    (refine J.nil ?_)
    (refine id ?_; rotate_left))
    refine N.perm (List.Perm.swap _ _ _) ?_
    refine N.round (v', acc ++ [t], a', c') ⟨ha', by simp only [List.length_append, List.length_cons, List.length_nil]; omega, ?_⟩ (by simp only [List.length_append, List.length_cons, List.length_nil]; omega) rfl ⟨⟨_, rfl, Sub.of_eq (by simp)⟩, ref0 rfl, ref0 rfl, ref0 rfl, ref0 rfl, trivial⟩
    rw [hsucc] at hr
    have := reps_step hr hb'
    simpa only [List.length_append, List.length_cons, List.length_nil, Nat.zero_add] using this
  · have hlen : acc.length = (linksI (n1 : Int)).length := by omega
    rw [hlen, Nat.sub_self] at hr
    simp only [reps, List.append_nil] at hr
    have hrd := rdh _ _ hr
    refine W.freezeCell 1 1 10 rfl rfl rfl (by simp only [maxLen]; omega) rfl ?_
    have ce := rd_End b s a c ha hs
    have ck := hcheck_ok ⟨n1, n2, n3, lf', t5, t6, t7, t8, t9, t10, acc⟩ (by simp only; omega)
    generalize hx : (⟨n1, n2, n3, lf', t5, t6, t7, t8, t9, t10, acc⟩ : Hd) = x at *
    rw [show [int (n1 : Int), int (n2 : Int), int (n3 : Int), bool lf', str t5, str t6, str t7, str t8, str t9, str t10, SV.val u].set 10 (SV.sl 1 acc.length (elOf (fun a => [str a]) [] acc)) = hdC x by rw [← hx]; rfl]
    focus (
    (refine W.seq ?_)
    (refine W.region ?_)
    (refine Jx.lssI rfl rfl rfl ?_)
    (refine J.nil ?_)
    (refine N.seq ?_)
    (refine W.seq ?_)
    (refine W.cF rfl ?_)
    (refine W.exit ?_)
    (refine N.seq ?_)
    (refine W.seq ?_)
    (refine W.seq ?_)
    (refine W.region ?_)
    (refine Jx.move rfl rfl ?_)
    (refine J.call (ce) rfl (evs_args rfl) rfl ?_; rintro _ _ ⟨e, a', c', rfl, rfl, he⟩; simp only [List.cons_append, List.nil_append, List.append_nil])
    (refine Jx.neqI rfl rfl rfl ?_)
    (refine Jx.move rfl rfl ?_)
    (refine' J.guardOr rfl rfl rfl rfl rfl rfl rfl rfl (fun _ => ?_) ?_; rotate_left)
    (refine J.gY rfl rfl rfl ?_)
    (refine Jx.loadAll rfl 1 rfl rfl rfl ?_)
    (refine J.gY rfl rfl rfl ?_)
    (refine J.call (Lc := []) ck rfl (evs_args rfl) rfl ?_; rintro _ _ ⟨rfl, rfl⟩; simp only [List.cons_append, List.nil_append, List.append_nil])
    (refine J.gY rfl rfl rfl ?_)
    (refine Jx.neqI rfl rfl rfl ?_)
    (refine J.nil ?_)
    (refine N.joinedN rfl rfl rfl)
    (refine J.nil ?_)
    (refine N.seq ?_)
    (refine id ?_; rotate_left))
    refine W.cond rfl (fun hb => ?_) (fun hb => ?_)
    · focus (
    (refine W.seq ?_)
    (refine W.region ?_)
    (refine Jx.buildB rfl rfl rfl rfl rfl ?_)
    (refine J.storeAll rfl rfl rfl 2 rfl rfl rfl ?_)
    (refine Jx.assign rfl rfl ?_)
    (refine J.nil ?_)
    (refine N.seq ?_)
    (refine W.ret ?_)
    (refine N.noGotoRet ?_)
    (refine id ?_; rotate_left))
      refine N.objSub 2 (hdC hd0) rfl hdz_sub rfl ?_
      refine N.retD (rs := [.cell 2 tHd, .tmp 3]) (L1 := []) rfl (.cell rfl 2 rfl agHd (.tmp rfl .nil)) (List.nil_sublist _) ⟨⟨none, fun y hy hz => ?_, rfl⟩, rfl⟩
      obtain ⟨rfl, h2⟩ := hrd.whole ((fineHd_iff y).1 hy) hz
      rw [he.2 h2, hy] at hb
      simp at hb
    · focus (
    (refine W.skip ?_)
    (refine N.seq ?_)
    (refine W.seq ?_)
    (refine W.region ?_)
    (refine Jx.loadAll rfl 1 rfl rfl rfl ?_)
    (refine J.storeAll rfl rfl rfl 2 rfl rfl rfl ?_)
    (refine Jx.assign rfl rfl ?_)
    (refine J.nil ?_)
    (refine N.seq ?_)
    (refine W.ret ?_)
    (refine id ?_; rotate_left))
      refine N.retD (rs := [.cell 2 tHd, .tmp 3]) (L1 := []) rfl (.cell rfl 2 rfl agHd (.tmp rfl .nil)) (List.nil_sublist _) ⟨⟨some x, ?_, rfl⟩, rfl⟩
      simp only [Bool.or_eq_false_iff, decide_eq_false_iff_not] at hb
      have hf : fineHd x = true := by
        cases hf : fineHd x with
        | true => rfl
        | false => rw [hf] at hb; simp at hb
      rw [he.1 (by omega)] at hrd
      exact ⟨hf, hrd.sound⟩
end Go.Proofs.YtlfdhkahiaammaaDoor
namespace Go.Proofs.YtlfdhkahiaammaaDoor
open Go Go.Sse
set_option linter.unusedVariables false
set_option linter.unusedSimpArgs false
set_option maxRecDepth 10000
theorem bhead_ok (s : List UInt8) (hs : s.length ≤ 1099511627776) (p : Nat) (x : Bk) : FnC Tryd.prog 33 [str s, ptr p] [.obj p tBk (bkC x)] (fun v L => (∃ o, DecR fineHd encHd s o ∧ v = bool o.isSome ∧ L = [.obj p tBk (bkC ⟨o.getD hd0, x.txs, x.just⟩)])) := by
  have c := hdecode_ok s hs
  refine FnC.intro Tryd.func33 rfl Tryd.ntmps33 rfl fun Z w0 hG => ?_
  focus (
    (refine W.seq ?_)
    (refine W.region ?_)
    (refine Jx.assign rfl rfl ?_)
    (refine J.nil ?_)
    (refine N.seq ?_)
    (refine W.seq ?_)
    (refine W.region ?_)
    (refine Jx.move rfl rfl ?_)
    (refine J.call (Lc := []) c rfl (evs_args rfl) rfl ?_; rintro _ _ ⟨⟨o, ho, rfl⟩, rfl⟩; simp only [List.cons_append, List.nil_append, List.append_nil])
    (refine Jx.move rfl rfl ?_)
    (refine Jx.extract rfl rfl rfl ?_)
    (refine Jx.extract rfl rfl rfl ?_)
    (refine J.alloc (by simp only [List.map_cons, List.map_nil]; rfl) rfl rfl ?_; intro b')
    (refine J.storeAll rfl rfl rfl 0 rfl rfl rfl ?_)
    (refine Jx.assign rfl rfl ?_)
    (refine J.nil ?_)
    (refine N.seq ?_)
    (refine W.seq ?_)
    (refine W.region ?_)
    (refine Jx.move rfl rfl ?_)
    (refine Jx.loadAll rfl 0 rfl rfl rfl ?_)
    (refine Jx.nilCheck rfl rfl ?_)
    (refine Jx.fieldAddr rfl rfl ?_)
    (refine J.storeAg rfl rfl rfl 1 rfl rfl rfl rfl ?_)
    (refine J.nil ?_)
    (refine N.seq ?_)
    (refine W.seq ?_)
    (refine W.region ?_)
    (refine Jx.move rfl rfl ?_)
    (refine Jx.eqlI rfl rfl rfl ?_)
    (refine Jx.assign rfl rfl ?_)
    (refine J.nil ?_)
    (refine N.seq ?_)
    (refine W.ret ?_)
    (refine id ?_; rotate_left))
  refine N.retD (rs := [.tmp 4]) (L1 := [.obj p tBk (bkC ⟨o.getD hd0, x.txs, x.just⟩)]) rfl (.tmp rfl .nil) (List.sublist_cons_self _ _) ⟨o, ho, ?_, rfl⟩
  cases o <;> rfl
theorem btxs_ok (s : List UInt8) (hs : s.length ≤ 1099511627776) (p : Nat) (x : Bk) : FnC Tryd.prog 34 [str s, ptr p] [.obj p tBk (bkC x)] (fun v L => (∃ o, DecR fineAll encAll s o ∧ v = bool o.isSome ∧ L = [.obj p tBk (bkC ⟨x.head, o.getD [], x.just⟩)])) := by
  have c := tdecAll_ok s hs
  refine FnC.intro Tryd.func34 rfl Tryd.ntmps34 rfl fun Z w0 hG => ?_
  focus (
    (refine W.seq ?_)
    (refine W.region ?_)
    (refine Jx.assign rfl rfl ?_)
    (refine J.nil ?_)
    (refine N.seq ?_)
    (refine W.seq ?_)
    (refine W.region ?_)
    (refine Jx.move rfl rfl ?_)
    (refine J.call (Lc := []) c rfl (evs_args rfl) rfl ?_; rintro _ _ ⟨⟨o, ho, rfl⟩, rfl⟩; simp only [List.cons_append, List.nil_append, List.append_nil])
    (refine Jx.move rfl rfl ?_)
    (refine Jx.extract rfl rfl rfl ?_)
    (refine Jx.extract rfl rfl rfl ?_)
    (refine Jx.assign rfl rfl ?_)
    (refine Jx.assign rfl rfl ?_)
    (refine J.nil ?_)
    (refine N.seq ?_)
    (refine W.seq ?_)
    (refine W.region ?_)
    (refine Jx.move rfl rfl ?_)
    (refine Jx.move rfl rfl ?_)
    (refine Jx.nilCheck rfl rfl ?_)
    (refine Jx.fieldAddr rfl rfl ?_)
    (refine J.st 0 rfl rfl rfl rfl rfl rfl ?_)
    (refine J.nil ?_)
    (refine N.seq ?_)
    (refine W.seq ?_)
    (refine W.region ?_)
    (refine Jx.move rfl rfl ?_)
    (refine Jx.eqlI rfl rfl rfl ?_)
    (refine Jx.assign rfl rfl ?_)
    (refine J.nil ?_)
    (refine N.seq ?_)
    (refine W.ret ?_)
    (refine id ?_; rotate_left))
  refine N.ret (rs := [.tmp 4]) rfl (.tmp rfl .nil) ⟨o, ho, ?_, rfl⟩
  cases o <;> rfl
theorem bjust_ok (s : List UInt8) (hs : s.length ≤ 1099511627776) (p : Nat) (x : Bk) : FnC Tryd.prog 37 [str s, ptr p] [.obj p tBk (bkC x)] (fun v L => (∃ o, DecR fineCt encCt s o ∧ v = bool o.isSome ∧ L = [.obj p tBk (bkC ⟨x.head, x.txs, o.getD ct0⟩)])) := by
  have c := cdecode_ok s hs
  refine FnC.intro Tryd.func37 rfl Tryd.ntmps37 rfl fun Z w0 hG => ?_
  focus (
    (refine W.seq ?_)
    (refine W.region ?_)
    (refine Jx.assign rfl rfl ?_)
    (refine J.nil ?_)
    (refine N.seq ?_)
    (refine W.seq ?_)
    (refine W.region ?_)
    (refine Jx.move rfl rfl ?_)
    (refine J.call (Lc := []) c rfl (evs_args rfl) rfl ?_; rintro _ _ ⟨⟨o, ho, rfl⟩, rfl⟩; simp only [List.cons_append, List.nil_append, List.append_nil])
    (refine Jx.move rfl rfl ?_)
    (refine Jx.extract rfl rfl rfl ?_)
    (refine Jx.extract rfl rfl rfl ?_)
    (refine J.alloc (by simp only [List.map_cons, List.map_nil]; rfl) rfl rfl ?_; intro b')
    (refine J.storeAll rfl rfl rfl 0 rfl rfl rfl ?_)
    (refine Jx.assign rfl rfl ?_)
    (refine J.nil ?_)
    (refine N.seq ?_)
    (refine W.seq ?_)
    (refine W.region ?_)
    (refine Jx.move rfl rfl ?_)
    (refine Jx.loadAll rfl 0 rfl rfl rfl ?_)
    (refine Jx.nilCheck rfl rfl ?_)
    (refine Jx.fieldAddr rfl rfl ?_)
    (refine J.storeAg rfl rfl rfl 1 rfl rfl rfl rfl ?_)
    (refine J.nil ?_)
    (refine N.seq ?_)
    (refine W.seq ?_)
    (refine W.region ?_)
    (refine Jx.move rfl rfl ?_)
    (refine Jx.eqlI rfl rfl rfl ?_)
    (refine Jx.assign rfl rfl ?_)
    (refine J.nil ?_)
    (refine N.seq ?_)
    (refine W.ret ?_)
    (refine id ?_; rotate_left))
  refine N.retD (rs := [.tmp 4]) (L1 := [.obj p tBk (bkC ⟨x.head, x.txs, o.getD ct0⟩)]) rfl (.tmp rfl .nil) (List.sublist_cons_self _ _) ⟨o, ho, ?_, rfl⟩
  cases o <;> rfl
abbrev nHead : Nat := 33
abbrev nTxs : Nat := 34
def PartR (s : List UInt8) (x : Bk) (fine : Bool) (st : PSt) : Nat → Prop
  | 0 => x = bk0 ∧ fine = true ∧ st = some s
  | 1 => ∃ t1 o1, textP 65536 (some s) = (t1, st) ∧ DecR fineHd encHd t1 o1 ∧ x = ⟨o1.getD hd0, [], ct0⟩ ∧ fine = o1.isSome
  | _ => ∃ t1 s1 t2 o1 o2, textP 65536 (some s) = (t1, s1) ∧ DecR fineHd encHd t1 o1 ∧ textP 65536 s1 = (t2, st) ∧ DecR fineAll encAll t2 o2 ∧ x = ⟨o1.getD hd0, o2.getD [], ct0⟩ ∧ fine = (o2.isSome && o1.isSome)
theorem PartR.read {s : List UInt8} {x : Bk} {fine : Bool} {st2 st : PSt} {c : Ct} {k : Bool} (h : PartR s x fine st2 2) (hj : JustR 65536 st2 c k st) : ∃ k1 k2, ReadB 65536 s ⟨x.head, x.txs, c⟩ k1 k2 k st ∧ fine = (k2 && k1) := by
  obtain ⟨t1, s1, t2, o1, o2, e1, d1, e2, d2, rfl, hf⟩ := h
  exact ⟨o1.isSome, o2.isSome, ⟨t1, s1, t2, st2, o1, o2, e1, d1, rfl, rfl, e2, d2, rfl, rfl, hj⟩, hf⟩
theorem dec_skips {s : List UInt8} {o : Option Hd} (h : DecR fineHd encHd s o) : (o.getD hd0).skips.length ≤ 1048576 := by
  cases o with
  | none => simp [hd0]
  | some x => have := ((fineHd_iff x).1 h.1).skips20; simp only [Option.getD_some]; omega
set_option maxHeartbeats 8000000 in
theorem bdecode_ok (s : List UInt8) (hs : s.length ≤ 1099511627776) : FnC Tryd.prog 11 [str s] [] (fun v L => (∃ o, DecR fineBk encBk s o ∧ v = .tup [.agg (bkC (o.getD bk0)), int (codeO o 210)]) ∧ L = []) := by
  have c0 := read_ok s
  refine FnC.intro Tryd.func11 rfl Tryd.ntmps11 rfl fun Z w0 hG => ?_
  focus (
    (refine W.seq ?_)
    (refine W.region ?_)
    (refine J.alloc (by simp only [List.map_cons, List.map_nil]; rfl) rfl rfl ?_; intro b')
    (refine Jx.assign rfl rfl ?_)
    (refine J.nil ?_)
    (refine N.seq ?_)
    (refine W.seq ?_)
    (refine W.region ?_)
    (refine Jx.move rfl rfl ?_)
    (refine J.call (Lc := []) c0 rfl (evs_args rfl) rfl ?_; rintro _ _ ⟨b, rfl, rfl⟩; simp only [List.cons_append, List.nil_append, List.append_nil])
    (refine Jx.assign rfl rfl ?_)
    (refine J.nil ?_)
    (refine N.seq ?_)
    (refine W.seq ?_)
    (refine W.region ?_)
    (refine J.alloc (by simp only [List.map_cons, List.map_nil]; rfl) rfl rfl ?_; intro b')
    (refine J.nil ?_)
    (refine N.seq ?_)
    (refine W.seq ?_)
    (refine W.region ?_)
    (refine Jx.assign rfl rfl ?_)
    (refine J.nil ?_)
    (refine N.seq ?_)
    (refine W.seq ?_)
    (refine W.seq ?_)
    (refine W.region ?_)
    (refine Jx.buildB rfl rfl rfl rfl rfl ?_)
    (refine Jx.buildB rfl rfl rfl rfl rfl ?_)
    (refine J.qs (Qs.buildAgs (fun f : Nat => [fnV f]) 0 [nHead, nTxs] rfl rfl (fun _ => rfl) rfl rfl (by decide) (by decide) rfl) rfl ?_)
    (refine Jx.lenSl rfl rfl ?_)
    (refine Jx.move rfl rfl ?_)
    (refine J.nil ?_)
    (refine N.seq ?_)
    (refine W.block ?_)
    (refine id ?_; rotate_left))
  rename_i p2
  obtain ⟨p5, hp5⟩ : ∃ q, q = b' := ⟨_, rfl⟩
  subst hp5
  refine W.objSub 0 (bkC bk0) rfl bkz_sub rfl ?_
  refine W.loop (α := Nat × Bk × Bool × Nat × Int) (fun x => [(16, int (x.1 : Int)), (15, int (2 : Nat)), (14, .sl 1 2 (elOf (fun f : Nat => [fnV f]) 0 [nHead, nTxs])), (6, bool x.2.2.1), (5, ptr p5), (4, ptr b), (2, ptr p2)])
    (fun x => [.obj p5 tBk (bkC x.2.1), rdO b ⟨s, x.2.2.2.1, x.2.2.2.2⟩, .obj p2 tBk bkz]) (fun x => x.1 ≤ 2 ∧ x.2.2.2.1 ≤ s.length ∧ PartR s x.2.1 x.2.2.1 (lf s x.2.2.2.1 x.2.2.2.2) x.1) (fun x => 2 - x.1) (0, bk0, true, 0, 0) ⟨by decide, Nat.zero_le _, rfl, rfl, rfl⟩ rfl ⟨ref0 rfl, ref0 rfl, ref0 rfl, ref0 rfl, ref0 rfl, ref0 rfl, ref0 rfl, trivial⟩ ?_
  rintro ⟨k, x, fine, a, c⟩ ⟨hk, ha, hr⟩
  simp only at hk ha hr ⊢
  match k, hk, hr with
  | 0, _, hr =>
    have h02 : 0 < 2 := by decide
    have cr := rd_Text b s a c 65536 ha hs
    obtain ⟨rfl, rfl, hst⟩ := hr
    focus (
    (refine W.seq ?_)
    (refine W.region ?_)
    (refine Jx.lssI rfl rfl rfl ?_)
    (refine J.nil ?_)
    (refine N.seq ?_)
    (refine W.seq ?_)
    (refine W.cT rfl ?_)
    (refine W.skip ?_)
    (refine N.seq ?_)
    (refine W.seq ?_)
    (refine W.block ?_)
    (refine W.seq ?_)
    (refine W.region ?_)
    (refine Jx.indexEl rfl rfl (by assumption) rfl rfl ?_)
    (refine Jx.loadPPall rfl rfl rfl ?_)
    (refine J.alloc (by simp only [List.map_cons, List.map_nil]; rfl) rfl rfl ?_; intro b')
    (refine J.storeAll rfl rfl rfl 0 rfl rfl rfl ?_)
    (refine J.nil ?_)
    (refine N.seq ?_)
    (refine W.draw follows ?_)
    (refine JD.begin 9 rfl ?_; refine JP.more [0, 1, 2] _ rfl (by decide +kernel) ?_)
    (refine Cx.fieldAddr rfl rfl ?_)
    (refine Cx.load rfl 0 rfl rfl rfl ?_)
    (refine Cx.move rfl rfl ?_)
    (refine SegC.nil ?_)
    (focus (refine JP.perm (List.Perm.trans (List.Perm.cons _ (List.Perm.swap _ _ _)) (List.Perm.swap _ _ _)) ?_; refine JP.call (idx := [0, 1, 2]) (Lc := [rdO b ⟨s, a, c⟩]) 3 [22] [2, 3] [0, 1] cr rfl (by decide +kernel) rfl ?_ (evs_args rfl) rfl ?_; rotate_left); rintro _ _ ⟨t, a', c', rfl, rfl, ha', hb'⟩; simp only [List.cons_append, List.nil_append])
    (focus (refine JP.perm (List.Perm.trans (List.Perm.cons _ (List.Perm.swap _ _ _)) (List.Perm.swap _ _ _)) ?_; refine JP.callV (us := []) (vs := []) (args := [str t, ptr p5]) (idx := [0, 1]) (Lc := [.obj p5 tBk (bkC bk0)]) 4 [21, 23, 5] [0, 1, 2, 3, 4] [] (bhead_ok t (by have := bound_text hb'; omega) p5 bk0) rfl (by decide +kernel) rfl ?_ rfl (evs_args rfl) rfl ?_; rotate_left); rintro _ _ ⟨o, ho, rfl, rfl⟩; simp only [List.cons_append, List.nil_append])
    (refine JP.tail (idx := []) 5 (by decide +kernel) (by decide +kernel) rfl rfl ?_ ?_)
    (refine SegC.nil ?_)
    (refine Ag.nil)
    (refine Jx.move rfl rfl ?_)
    (refine' J.guardAnd rfl rfl rfl rfl rfl rfl rfl rfl (fun _ => ?_) ?_; rotate_left)
    (refine J.gY rfl rfl rfl ?_)
    (refine Jx.move rfl rfl ?_)
    (refine J.nil ?_)
    (refine N.joinedN rfl rfl rfl)
    (refine Jx.assign rfl rfl ?_)
    (refine J.nil ?_)
    (refine N.seq ?_)
    (refine W.region ?_)
    (refine Jx.add64 rfl rfl (by omega) rfl ?_)
    (refine Jx.move rfl rfl ?_)
    (refine J.nil ?_)
    (refine id ?_; rotate_left)
    (refine Cx.fieldAddr rfl rfl ?_)
    (refine Cx.load rfl 2 rfl rfl rfl ?_)
    (refine SegC.nil ?_)
    (refine Ag.cons rfl ?_)
    (refine Ag.cons rfl ?_)
    (refine Ag.nil)
    (refine Cx.fieldAddr rfl rfl ?_)
    (refine Cx.load rfl 1 rfl rfl rfl ?_)
    (refine Cx.move rfl rfl ?_)
    (refine SegC.nil ?_)
    (refine Ag.cons rfl ?_)
    (refine Ag.cons rfl ?_)
    (refine Ag.cons rfl ?_)
    (refine Ag.nil))
    refine N.drop (List.Sublist.cons_cons _ (List.Sublist.cons_cons _ (List.sublist_cons_self _ _))) ?_
    exact N.round (0 + 1, ⟨o.getD hd0, [], ct0⟩, o.isSome && true, a', c') ⟨by simp only; omega, ha', ⟨t, o, by rw [← hst]; exact hb', ho, rfl, Bool.and_true _⟩⟩ (by simp only; omega) rfl ⟨ref0 rfl, ref0 rfl, ref0 rfl, ref0 rfl, ref0 rfl, ref0 rfl, ref0 rfl, trivial⟩
  | 1, _, hr =>
    have h02 : 1 < 2 := by decide
    have cr := rd_Text b s a c 65536 ha hs
    obtain ⟨t1, o1, e1, d1, rfl, rfl⟩ := hr
    focus (
    (refine W.seq ?_)
    (refine W.region ?_)
    (refine Jx.lssI rfl rfl rfl ?_)
    (refine J.nil ?_)
    (refine N.seq ?_)
    (refine W.seq ?_)
    (refine W.cT rfl ?_)
    (refine W.skip ?_)
    (refine N.seq ?_)
    (refine W.seq ?_)
    (refine W.block ?_)
    (refine W.seq ?_)
    (refine W.region ?_)
    (refine Jx.indexEl rfl rfl (by assumption) rfl rfl ?_)
    (refine Jx.loadPPall rfl rfl rfl ?_)
    (refine J.alloc (by simp only [List.map_cons, List.map_nil]; rfl) rfl rfl ?_; intro b')
    (refine J.storeAll rfl rfl rfl 0 rfl rfl rfl ?_)
    (refine J.nil ?_)
    (refine N.seq ?_)
    (refine W.draw follows ?_)
    (refine JD.begin 9 rfl ?_; refine JP.more [0, 1, 2] _ rfl (by decide +kernel) ?_)
    (refine Cx.fieldAddr rfl rfl ?_)
    (refine Cx.load rfl 0 rfl rfl rfl ?_)
    (refine Cx.move rfl rfl ?_)
    (refine SegC.nil ?_)
    (focus (refine JP.perm (List.Perm.trans (List.Perm.cons _ (List.Perm.swap _ _ _)) (List.Perm.swap _ _ _)) ?_; refine JP.call (idx := [0, 1, 2]) (Lc := [rdO b ⟨s, a, c⟩]) 3 [22] [2, 3] [0, 1] cr rfl (by decide +kernel) rfl ?_ (evs_args rfl) rfl ?_; rotate_left); rintro _ _ ⟨t, a', c', rfl, rfl, ha', hb'⟩; simp only [List.cons_append, List.nil_append])
    (focus (refine JP.perm (List.Perm.trans (List.Perm.cons _ (List.Perm.swap _ _ _)) (List.Perm.swap _ _ _)) ?_; refine JP.callV (us := []) (vs := []) (args := [str t, ptr p5]) (idx := [0, 1]) (Lc := [.obj p5 tBk (bkC ⟨o1.getD hd0, [], ct0⟩)]) 4 [21, 23, 5] [0, 1, 2, 3, 4] [] (btxs_ok t (by have := bound_text hb'; omega) p5 ⟨o1.getD hd0, [], ct0⟩) rfl (by decide +kernel) rfl ?_ rfl (evs_args rfl) rfl ?_; rotate_left); rintro _ _ ⟨o, ho, rfl, rfl⟩; simp only [List.cons_append, List.nil_append])
    (refine JP.tail (idx := []) 5 (by decide +kernel) (by decide +kernel) rfl rfl ?_ ?_)
    (refine SegC.nil ?_)
    (refine Ag.nil)
    (refine Jx.move rfl rfl ?_)
    (refine' J.guardAnd rfl rfl rfl rfl rfl rfl rfl rfl (fun _ => ?_) ?_; rotate_left)
    (refine J.gY rfl rfl rfl ?_)
    (refine Jx.move rfl rfl ?_)
    (refine J.nil ?_)
    (refine N.joinedN rfl rfl rfl)
    (refine Jx.assign rfl rfl ?_)
    (refine J.nil ?_)
    (refine N.seq ?_)
    (refine W.region ?_)
    (refine Jx.add64 rfl rfl (by omega) rfl ?_)
    (refine Jx.move rfl rfl ?_)
    (refine J.nil ?_)
    (refine id ?_; rotate_left)
    (refine Cx.fieldAddr rfl rfl ?_)
    (refine Cx.load rfl 2 rfl rfl rfl ?_)
    (refine SegC.nil ?_)
    (refine Ag.cons rfl ?_)
    (refine Ag.cons rfl ?_)
    (refine Ag.nil)
    (refine Cx.fieldAddr rfl rfl ?_)
    (refine Cx.load rfl 1 rfl rfl rfl ?_)
    (refine Cx.move rfl rfl ?_)
    (refine SegC.nil ?_)
    (refine Ag.cons rfl ?_)
    (refine Ag.cons rfl ?_)
    (refine Ag.cons rfl ?_)
    (refine Ag.nil))
    refine N.drop (List.Sublist.cons_cons _ (List.Sublist.cons_cons _ (List.sublist_cons_self _ _))) ?_
    exact N.round (1 + 1, ⟨o1.getD hd0, o.getD [], ct0⟩, o.isSome && o1.isSome, a', c') ⟨by simp only; omega, ha', ⟨t1, _, t, o1, o, e1, d1, hb', ho, rfl, rfl⟩⟩ (by simp only; omega) rfl ⟨ref0 rfl, ref0 rfl, ref0 rfl, ref0 rfl, ref0 rfl, ref0 rfl, ref0 rfl, trivial⟩
  | 2, _, hr =>
    have cfl := rd_Flag b s a c ha hs
    have hjs : x.just = ct0 := by obtain ⟨_, _, _, o1, o2, _, _, _, _, h, _⟩ := hr; rw [h]
    have hsk : x.head.skips.length ≤ 1048576 := by obtain ⟨_, _, _, o1, o2, _, d1, _, _, h, _⟩ := hr; rw [h]; exact dec_skips d1
    obtain ⟨xh, xt, xj⟩ := x
    simp only at hjs hsk
    subst hjs
    focus (
    (refine W.seq ?_)
    (refine W.region ?_)
    (refine Jx.lssI rfl rfl rfl ?_)
    (refine J.nil ?_)
    (refine N.seq ?_)
    (refine W.seq ?_)
    (refine W.cF rfl ?_)
    (refine W.exit ?_)
    (refine N.seq ?_)
    (refine W.seq ?_)
    (refine W.seq ?_)
    (refine W.region ?_)
    (refine Jx.move rfl rfl ?_)
    (refine J.call1 1 (cfl) rfl (evs_args rfl) rfl (by rintro _ _ ⟨f, a1, c1, rfl, rfl, ha1, hfl⟩; exact ⟨_, rfl⟩) ?_; rintro _ _ ⟨f, a1, c1, rfl, ⟨⟩, ha1, hfl⟩; simp only [List.set_cons_zero, List.set_cons_succ])
    (refine J.nil ?_)
    (refine N.seq ?_)
    (refine id ?_; rotate_left))
    refine W.joinE (α := Ct × Bool × Bool × Nat × Int) (fun y => [(6, bool (y.2.1 && fine)), (5, ptr p5), (4, ptr b), (2, ptr p2)]) (fun y => [.obj p5 tBk (bkC ⟨xh, xt, y.1⟩), rdO b ⟨s, y.2.2.2.1, y.2.2.2.2⟩, .obj p2 tBk bkz]) (fun y => y.2.2.2.1 ≤ s.length ∧ JustR 65536 (lf s a c) y.1 y.2.1 (lf s y.2.2.2.1 y.2.2.2.2)) ?_ ?_
    · cases f with
      | false =>
        focus (
    (refine W.cF rfl ?_)
    (refine W.skip ?_)
    (refine id ?_; rotate_left))
        exact N.joinE (ct0, true, true, a1, c1) ⟨ha1, _, _, hfl, fun _ => ⟨rfl, rfl, rfl⟩, fun h => by cases h⟩ rfl ⟨ref0 rfl, ref0 rfl, ref0 rfl, ref0 rfl, trivial⟩
      | true =>
        have cr := rd_Text b s a1 c1 65536 ha1 hs
        focus (
    (refine W.cT rfl ?_)
    (refine W.seq ?_)
    (refine W.region ?_)
    (refine Jx.buildB rfl rfl rfl rfl rfl ?_)
    (refine J.alloc (by simp only [List.map_cons, List.map_nil]; rfl) rfl rfl ?_; intro b')
    (refine J.storeAll rfl rfl rfl 0 rfl rfl rfl ?_)
    (refine J.nil ?_)
    (refine N.seq ?_)
    (refine W.draw follows ?_)
    (refine JD.begin 9 rfl ?_; refine JP.more [0, 1, 2] _ rfl (by decide +kernel) ?_)
    (refine Cx.fieldAddr rfl rfl ?_)
    (refine Cx.load rfl 0 rfl rfl rfl ?_)
    (refine Cx.move rfl rfl ?_)
    (refine SegC.nil ?_)
    (focus (refine JP.perm (List.Perm.trans (List.Perm.cons _ (List.Perm.swap _ _ _)) (List.Perm.swap _ _ _)) ?_; refine JP.call (idx := [0, 1, 2]) (Lc := [rdO b ⟨s, a1, c1⟩]) 3 [34] [2, 3] [0, 1] cr rfl (by decide +kernel) rfl ?_ (evs_args rfl) rfl ?_; rotate_left); rintro _ _ ⟨t, a', c', rfl, rfl, ha', hb'⟩; simp only [List.cons_append, List.nil_append])
    (focus (refine JP.perm (List.Perm.trans (List.Perm.cons _ (List.Perm.swap _ _ _)) (List.Perm.swap _ _ _)) ?_; refine JP.callV (us := []) (vs := []) (args := [str t, ptr p5]) (idx := [0, 1]) (Lc := [.obj p5 tBk (bkC ⟨xh, xt, ct0⟩)]) 4 [33, 35, 5] [0, 1, 2, 3, 4] [] (bjust_ok t (by have := bound_text hb'; omega) p5 ⟨xh, xt, ct0⟩) rfl (by decide +kernel) rfl ?_ rfl (evs_args rfl) rfl ?_; rotate_left); rintro _ _ ⟨o, ho, rfl, rfl⟩; simp only [List.cons_append, List.nil_append])
    (refine JP.tail (idx := []) 5 (by decide +kernel) (by decide +kernel) rfl rfl ?_ ?_)
    (refine SegC.nil ?_)
    (refine Ag.nil)
    (refine Jx.move rfl rfl ?_)
    (refine' J.guardAnd rfl rfl rfl rfl rfl rfl rfl rfl (fun _ => ?_) ?_; rotate_left)
    (refine J.gY rfl rfl rfl ?_)
    (refine Jx.move rfl rfl ?_)
    (refine J.nil ?_)
    (refine N.joinedN rfl rfl rfl)
    (refine Jx.assign rfl rfl ?_)
    (refine J.nil ?_)
    (refine id ?_; rotate_left)
    (refine Cx.fieldAddr rfl rfl ?_)
    (refine Cx.load rfl 2 rfl rfl rfl ?_)
    (refine SegC.nil ?_)
    (refine Ag.cons rfl ?_)
    (refine Ag.cons rfl ?_)
    (refine Ag.nil)
    (refine Cx.fieldAddr rfl rfl ?_)
    (refine Cx.load rfl 1 rfl rfl rfl ?_)
    (refine Cx.move rfl rfl ?_)
    (refine SegC.nil ?_)
    (refine Ag.cons rfl ?_)
    (refine Ag.cons rfl ?_)
    (refine Ag.cons rfl ?_)
    (refine Ag.nil))
        refine N.drop (List.Sublist.cons_cons _ (List.Sublist.cons_cons _ (List.sublist_cons_self _ _))) ?_
        exact N.joinE (o.getD ct0, o.isSome, true, a', c') ⟨ha', _, _, hfl, (fun h => by cases h), fun _ => ⟨t, o, hb', ho, rfl, rfl⟩⟩ rfl ⟨ref0 rfl, ref0 rfl, ref0 rfl, ref0 rfl, trivial⟩
    · rintro ⟨c3, k3, _, a3, cc3⟩ ⟨ha3, hj⟩
      simp only at ha3 hj ⊢
      obtain ⟨k1, k2, hrd, hfine⟩ := PartR.read hr hj
      simp only at hrd
      have ce := rd_End b s a3 cc3 ha3 hs
      have ck := bcheck_ok ⟨xh, xt, c3⟩ hsk
      focus (
    (refine N.seq ?_)
    (refine W.seq ?_)
    (refine W.seq ?_)
    (refine W.region ?_)
    (refine Jx.move rfl rfl ?_)
    (refine J.call1 1 (ce) rfl (evs_args rfl) rfl (by rintro _ _ ⟨e, a4, c4, rfl, rfl, he⟩; exact ⟨_, rfl⟩) ?_; rintro _ _ ⟨e, a4, c4, rfl, ⟨⟩, he⟩; simp only [List.set_cons_zero, List.set_cons_succ])
    (refine Jx.neqI rfl rfl rfl ?_)
    (refine Jx.move rfl rfl ?_)
    (refine' J.guardOr rfl rfl rfl rfl rfl rfl rfl rfl (fun _ => ?_) ?_; rotate_left)
    (refine J.gY rfl rfl rfl ?_)
    (refine Jx.move rfl rfl ?_)
    (refine J.gY rfl rfl rfl ?_)
    (refine Jx.not rfl rfl ?_)
    (refine J.nil ?_)
    (refine N.joinedN rfl rfl rfl)
    (refine Jx.move rfl rfl ?_)
    (refine' J.guardOr rfl rfl rfl rfl rfl rfl rfl rfl (fun _ => ?_) ?_; rotate_left)
    (refine J.gY rfl rfl rfl ?_)
    (refine Jx.loadAll rfl 0 rfl rfl rfl ?_)
    (refine J.gY rfl rfl rfl ?_)
    (refine J.call (Lc := []) ck rfl (evs_args rfl) rfl ?_; rintro _ _ ⟨rfl, rfl⟩; simp only [List.cons_append, List.nil_append, List.append_nil])
    (refine J.gY rfl rfl rfl ?_)
    (refine Jx.neqI rfl rfl rfl ?_)
    (refine J.nil ?_)
    (refine N.joinedN rfl rfl rfl)
    (refine J.nil ?_)
    (refine N.seq ?_)
    (refine id ?_; rotate_left))
      refine W.cond rfl (fun hb => ?_) (fun hb => ?_)
      · focus (
    (refine W.seq ?_)
    (refine W.region ?_)
    (refine Jx.buildB rfl rfl rfl rfl rfl ?_)
    (refine J.storeAll rfl rfl rfl 2 rfl rfl rfl ?_)
    (refine Jx.assign rfl rfl ?_)
    (refine J.nil ?_)
    (refine N.seq ?_)
    (refine W.ret ?_)
    (refine N.noGotoRet ?_)
    (refine id ?_; rotate_left))
        refine N.objSub 2 (bkC bk0) rfl bkz_sub rfl ?_
        refine N.retD (rs := [.cell 2 tBk, .tmp 3]) (L1 := []) rfl (.cell rfl 2 rfl agBk (.tmp rfl .nil)) (List.nil_sublist _) ⟨⟨none, fun y hy hz => ?_, rfl⟩, rfl⟩
        obtain ⟨rfl, h1, h2, h3, h4⟩ := hrd.whole (by decide) ((fineBk_iff y).1 hy) (r := []) (by rw [List.append_nil, hz])
        rw [he.2 h4, hy, hfine, h1, h2, h3] at hb
        simp at hb
      · focus (
    (refine W.skip ?_)
    (refine N.seq ?_)
    (refine W.seq ?_)
    (refine W.region ?_)
    (refine Jx.loadAll rfl 0 rfl rfl rfl ?_)
    (refine J.storeAll rfl rfl rfl 2 rfl rfl rfl ?_)
    (refine Jx.assign rfl rfl ?_)
    (refine J.nil ?_)
    (refine N.seq ?_)
    (refine W.ret ?_)
    (refine id ?_; rotate_left))
        refine N.retD (rs := [.cell 2 tBk, .tmp 3]) (L1 := []) rfl (.cell rfl 2 rfl agBk (.tmp rfl .nil)) (List.nil_sublist _) ⟨⟨some ⟨xh, xt, c3⟩, ?_, rfl⟩, rfl⟩
        simp only [Bool.or_eq_false_iff, decide_eq_false_iff_not, Classical.not_not, Bool.not_eq_false', Bool.and_eq_true] at hb
        obtain ⟨⟨b1, b2, b3⟩, b4⟩ := hb
        have hf : fineBk ⟨xh, xt, c3⟩ = true := by
          cases hf : fineBk ⟨xh, xt, c3⟩ with
          | true => rfl
          | false => rw [hf] at b4; simp at b4
        rw [hfine, Bool.and_eq_true] at b3
        rw [he.1 b1, b3.1, b3.2, b2] at hrd
        exact ⟨hf, hrd.sound⟩
end Go.Proofs.YtlfdhkahiaammaaDoor
namespace Go.Proofs.YtlfdhkahiaammaaDoor
open Go Go.Sse
set_option linter.unusedVariables false
open Go.Shelf in
def lays105_ren : Go.Shelf.Ren := ⟨fun | 105 => 27 | 212 => 58 | 99 => 59 | 165 => 60 | 166 => 61 | 170 => 62 | 169 => 63 | 263 => 83 | 264 => 84 | 206 => 85 | 240 => 86 | 241 => 87 | 276 => 102 | 277 => 103 | n => n, fun | 9 => 9 | 3 => 3 | 4 => 4 | 20 => 20 | 0 => 0 | 46 => 91 | 109 => 92 | 5 => 5 | 72 => 97 | 76 => 101 | 51 => 121 | 146 => 122 | 53 => 124 | 148 => 125 | 70 => 95 | 37 => 90 | 75 => 100 | 127 => 127 | 164 => 144 | 80 => 103 | n => n, fun | n => n⟩
open Go.Shelf in
theorem lays105 : Go.Proofs.Lays.n105 Tryd.prog lays105_ren := {
  mixed := by kernel_rfl
  f99 := Tryd.func59.trans (congrArg some (by kernel_rfl))
  f105 := Tryd.func27.trans (congrArg some (by kernel_rfl))
  f165 := Tryd.func60.trans (congrArg some (by kernel_rfl))
  f166 := Tryd.func61.trans (congrArg some (by kernel_rfl))
  f169 := Tryd.func63.trans (congrArg some (by kernel_rfl))
  f170 := Tryd.func62.trans (congrArg some (by kernel_rfl))
  f206 := Tryd.func85.trans (congrArg some (by kernel_rfl))
  f212 := Tryd.func58.trans (congrArg some (by kernel_rfl))
  f240 := Tryd.func86.trans (congrArg some (by kernel_rfl))
  f241 := Tryd.func87.trans (congrArg some (by kernel_rfl))
  f263 := Tryd.func83.trans (congrArg some (by kernel_rfl))
  f264 := Tryd.func84.trans (congrArg some (by kernel_rfl))
  f276 := Tryd.func102.trans (congrArg some (by kernel_rfl))
  f277 := Tryd.func103.trans (congrArg some (by kernel_rfl))
  t0 := Tryd.underlying0
  a0 := Tryd.isAgg0
  z0 := Tryd.sizeOf0
  v0 := Tryd.zeroValue0
  t3 := Tryd.underlying3
  a3 := Tryd.isAgg3
  z3 := Tryd.sizeOf3
  v3 := Tryd.zeroValue3
  t4 := Tryd.underlying4
  a4 := Tryd.isAgg4
  z4 := Tryd.sizeOf4
  v4 := Tryd.zeroValue4
  t5 := Tryd.underlying5
  a5 := Tryd.isAgg5
  z5 := Tryd.sizeOf5
  v5 := Tryd.zeroValue5
  t9 := Tryd.underlying9
  a9 := Tryd.isAgg9
  z9 := Tryd.sizeOf9
  v9 := Tryd.zeroValue9
  t20 := Tryd.underlying20
  a20 := Tryd.isAgg20
  z20 := Tryd.sizeOf20
  v20 := Tryd.zeroValue20
  t37 := Tryd.underlying90
  a37 := Tryd.isAgg90
  z37 := Tryd.sizeOf90
  v37 := Tryd.zeroValue90
  t46 := Tryd.underlying91
  a46 := Tryd.isAgg91
  z46 := Tryd.sizeOf91
  v46 := Tryd.zeroValue91
  t51 := Tryd.underlying121
  a51 := Tryd.isAgg121
  z51 := Tryd.sizeOf121
  v51 := Tryd.zeroValue121
  t53 := Tryd.underlying124
  a53 := Tryd.isAgg124
  z53 := Tryd.sizeOf124
  v53 := Tryd.zeroValue124
  t70 := Tryd.underlying95
  a70 := Tryd.isAgg95
  z70 := Tryd.sizeOf95
  v70 := Tryd.zeroValue95
  t72 := Tryd.underlying97
  a72 := Tryd.isAgg97
  z72 := Tryd.sizeOf97
  v72 := Tryd.zeroValue97
  t75 := Tryd.underlying100
  a75 := Tryd.isAgg100
  z75 := Tryd.sizeOf100
  v75 := Tryd.zeroValue100
  t76 := Tryd.underlying101
  a76 := Tryd.isAgg101
  z76 := Tryd.sizeOf101
  v76 := Tryd.zeroValue101
  t109 := Tryd.underlying92
  a109 := Tryd.isAgg92
  z109 := Tryd.sizeOf92
  v109 := Tryd.zeroValue92
  t127 := Tryd.underlying127
  a127 := Tryd.isAgg127
  z127 := Tryd.sizeOf127
  v127 := Tryd.zeroValue127
  t146 := Tryd.underlying122
  a146 := Tryd.isAgg122
  z146 := Tryd.sizeOf122
  v146 := Tryd.zeroValue122
  t148 := Tryd.underlying125
  a148 := Tryd.isAgg125
  z148 := Tryd.sizeOf125
  v148 := Tryd.zeroValue125
  t164 := Tryd.underlying144
  a164 := Tryd.isAgg144
  z164 := Tryd.sizeOf144
  v164 := Tryd.zeroValue144 }
open Go.Shelf in
theorem Builder_Extra_105 : Builder.Extra Tryd.prog lays105_ren := {
  sizeBuilder := by kernel_rfl
  liesBuilder := by kernel_rfl
  t5 := Tryd.underlying5
  a5 := Tryd.isAgg5
  z5 := Tryd.sizeOf5
  v5 := Tryd.zeroValue5
  infoByte := by kernel_rfl
  cellsByte := by kernel_rfl
  sizeByte := by kernel_rfl
  neB5 := by decide }
open Go.RowKit Go.Lib Go.Shelf in
theorem strings_Repeat (s : ByteArray) (c : Nat) (w : World) (hc : c ≤ 9223372036854775807) (hlen : s.size * c ≤ 140737488355328) :
    Calls Tryd.prog 27 #[.string s, .int .i64 c] w fun e w' => e = .returned (.string ⟨(Lib.repeatL s.data.toList c).toArray⟩) ∧ Below w.heap.size w w' := Any.strings_Repeat lays105 Builder_Extra_105 s c w hc hlen
theorem repL_one (x : UInt8) : ∀ n, Lib.repeatL [x] n = List.replicate n x
  | 0 => rfl
  | n + 1 => by rw [Lib.repeatL, repL_one x n]; rfl
theorem rep_ok (x : UInt8) (n : Nat) (hn : n ≤ 140737488355328) : FnC Tryd.prog 27 [str [x], int (n : Int)] [] (fun v L => v = str (List.replicate n x) ∧ L = []) := by
  refine ⟨fun Z w vs hl hr hz hnd hd ho hgl => ?_⟩
  match vs, hl with
  | [a, b], _ =>
    obtain rfl : a = _ := (hr 0 (by simp)).val_eq
    obtain rfl : b = _ := (hr 1 (by simp)).val_eq
    refine (strings_Repeat ⟨[x].toArray⟩ n w (by omega) (by simpa [ByteArray.size] using hn)).mono fun e w' ⟨he, hb⟩ => ?_
    refine ⟨_, str (List.replicate n x), [], he, ⟨rfl, rfl⟩, ?_, ⟨hb.os, hb.tape, hb.output, hb.size, fun k hk _ => hb.block k hk, hz, hnd, fun b hi => by simp [inF, foots] at hi, fun o h => by cases h⟩⟩
    rw [show [x].toArray.toList = [x] from rfl, repL_one]
    exact .val _
end Go.Proofs.YtlfdhkahiaammaaDoor
namespace Go.Proofs.YtlfdhkahiaammaaDoor
open Go Go.Sse
set_option linter.unusedVariables false
set_option linter.unusedSimpArgs false
set_option maxRecDepth 10000
def bigH (h : Hd) : Bool := (((((!fewB h.skips 40 100 || decide (100 < (h.parent.length : Int))) || decide (100 < (h.state.length : Int))) || decide (100 < (h.receipts.length : Int))) || decide (100 < (h.txs.length : Int))) || decide (100 < (h.members.length : Int))) || decide (100 < (h.next.length : Int))
theorem bigH_no {h : Hd} (hb : bigH h = false) : h.skips.length ≤ 40 := by
  simp only [bigH, Bool.or_eq_false_iff, Bool.not_eq_false'] at hb
  exact (few_spec (n := 40) (e := 100) hb.1.1.1.1.1.1).1
theorem digH_len {h : Hd} (hf : fineHd h = true) : ((digH h).length : Int) = 32 := by rw [digH, if_pos hf, sumD_len]; rfl
end Go.Proofs.YtlfdhkahiaammaaDoor
namespace Go.Proofs.YtlfdhkahiaammaaDoor
open Go Go.Sse
set_option linter.unusedVariables false
set_option linter.unusedSimpArgs false
set_option maxRecDepth 10000
end Go.Proofs.YtlfdhkahiaammaaDoor
namespace Go.Proofs.YtlfdhkahiaammaaDoor
open Go Go.Sse
set_option linter.unusedVariables false
set_option linter.unusedSimpArgs false
set_option maxRecDepth 10000
def bigT (x : Tx) : Bool := (((decide (100 < (x.from_.length : Int)) || decide (100 < (x.to_.length : Int))) || decide (100 < (x.key.length : Int))) || decide (100 < (x.value.length : Int))) || decide (100 < (x.members.length : Int))
theorem bigT_no {x : Tx} (h : bigT x = false) : x.from_.length ≤ 100 ∧ x.to_.length ≤ 100 ∧ x.key.length ≤ 100 ∧ x.value.length ≤ 100 ∧ x.members.length ≤ 100 := by
  simp only [bigT, Bool.or_eq_false_iff, decide_eq_false_iff_not] at h
  omega
end Go.Proofs.YtlfdhkahiaammaaDoor
namespace Go.Proofs.YtlfdhkahiaammaaDoor
open Go Go.Sse
set_option linter.unusedVariables false
set_option linter.unusedSimpArgs false
set_option maxRecDepth 10000
def bigBk (b : Bk) : Bool := bigH b.head || (b.txs.any bigT || ((decide (20 < (b.txs.length : Int)) || !fewB b.just.signers 50 100) || decide (100 < (b.just.digest.length : Int))))
theorem bigBk_no {b : Bk} (h : bigBk b = false) : b.head.skips.length ≤ 40 ∧ b.txs.length ≤ 20 ∧ (∀ x ∈ b.txs, x.members.length ≤ 100) ∧ b.just.signers.length ≤ 50 := by
  simp only [bigBk, Bool.or_eq_false_iff, Bool.not_eq_false', decide_eq_false_iff_not] at h
  obtain ⟨h1, h2, ⟨h3, h4⟩, h5⟩ := h
  refine ⟨bigH_no h1, by omega, fun x hx => ?_, (few_spec (n := 50) (e := 100) h4).1⟩
  exact (bigT_no (by simpa using List.any_eq_false.1 h2 x hx)).2.2.2.2
set_option maxHeartbeats 4000000 in
theorem bbig_ok (b : Bk) (hl : b.txs.length ≤ 9223372036854775807) : FnC Tryd.prog 10 [.agg (bkC b)] [] (fun v L => v = bool (bigBk b) ∧ L = []) := by
  have c := few_ok b.head.skips 40 100 (by decide)
  have c2 := few_ok b.just.signers 50 100 (by decide)
  refine FnC.intro Tryd.func10 rfl Tryd.ntmps10 rfl fun Z w0 hG => ?_
  focus (
    (refine W.seq ?_)
    (refine W.region ?_)
    (refine J.boxAg rfl rfl ?_; intro b')
    (refine Jx.assign rfl rfl ?_)
    (refine J.nil ?_)
    (refine N.seq ?_)
    (refine W.seq ?_)
    (refine W.region ?_)
    (refine Jx.fieldAddr rfl rfl ?_)
    (refine Jx.loadAg rfl 0 rfl rfl rfl rfl ?_)
    (refine J.alloc (by simp only [List.map_cons, List.map_nil]; rfl) rfl rfl ?_; intro b')
    (refine J.storeAll rfl rfl rfl 0 rfl rfl rfl ?_)
    (refine J.nil ?_)
    (refine N.seq ?_)
    (refine W.seq ?_)
    (refine W.seq ?_)
    (refine W.region ?_)
    (refine Jx.fieldAddr rfl rfl ?_)
    (refine Jx.load rfl 0 rfl rfl rfl ?_)
    (refine J.call (c) rfl (evs_args rfl) rfl ?_; rintro _ _ ⟨rfl, rfl⟩; simp only [List.cons_append, List.nil_append, List.append_nil])
    (refine Jx.not rfl rfl ?_)
    (refine Jx.move rfl rfl ?_)
    (refine' J.guardOr rfl rfl rfl rfl rfl rfl rfl rfl (fun _ => ?_) ?_; rotate_left)
    (refine J.gY rfl rfl rfl ?_)
    (refine Jx.fieldAddr rfl rfl ?_)
    (refine J.gY rfl rfl rfl ?_)
    (refine Jx.load rfl 0 rfl rfl rfl ?_)
    (refine J.gY rfl rfl rfl ?_)
    (refine Jx.lenS rfl rfl ?_)
    (refine J.gY rfl rfl rfl ?_)
    (refine Jx.gtrI rfl rfl rfl ?_)
    (refine J.nil ?_)
    (refine N.joinedN rfl rfl rfl)
    (refine Jx.move rfl rfl ?_)
    (refine' J.guardOr rfl rfl rfl rfl rfl rfl rfl rfl (fun _ => ?_) ?_; rotate_left)
    (refine J.gY rfl rfl rfl ?_)
    (refine Jx.fieldAddr rfl rfl ?_)
    (refine J.gY rfl rfl rfl ?_)
    (refine Jx.load rfl 0 rfl rfl rfl ?_)
    (refine J.gY rfl rfl rfl ?_)
    (refine Jx.lenS rfl rfl ?_)
    (refine J.gY rfl rfl rfl ?_)
    (refine Jx.gtrI rfl rfl rfl ?_)
    (refine J.nil ?_)
    (refine N.joinedN rfl rfl rfl)
    (refine Jx.move rfl rfl ?_)
    (refine' J.guardOr rfl rfl rfl rfl rfl rfl rfl rfl (fun _ => ?_) ?_; rotate_left)
    (refine J.gY rfl rfl rfl ?_)
    (refine Jx.fieldAddr rfl rfl ?_)
    (refine J.gY rfl rfl rfl ?_)
    (refine Jx.load rfl 0 rfl rfl rfl ?_)
    (refine J.gY rfl rfl rfl ?_)
    (refine Jx.lenS rfl rfl ?_)
    (refine J.gY rfl rfl rfl ?_)
    (refine Jx.gtrI rfl rfl rfl ?_)
    (refine J.nil ?_)
    (refine N.joinedN rfl rfl rfl)
    (refine Jx.move rfl rfl ?_)
    (refine' J.guardOr rfl rfl rfl rfl rfl rfl rfl rfl (fun _ => ?_) ?_; rotate_left)
    (refine J.gY rfl rfl rfl ?_)
    (refine Jx.fieldAddr rfl rfl ?_)
    (refine J.gY rfl rfl rfl ?_)
    (refine Jx.load rfl 0 rfl rfl rfl ?_)
    (refine J.gY rfl rfl rfl ?_)
    (refine Jx.lenS rfl rfl ?_)
    (refine J.gY rfl rfl rfl ?_)
    (refine Jx.gtrI rfl rfl rfl ?_)
    (refine J.nil ?_)
    (refine N.joinedN rfl rfl rfl)
    (refine Jx.move rfl rfl ?_)
    (refine' J.guardOr rfl rfl rfl rfl rfl rfl rfl rfl (fun _ => ?_) ?_; rotate_left)
    (refine J.gY rfl rfl rfl ?_)
    (refine Jx.fieldAddr rfl rfl ?_)
    (refine J.gY rfl rfl rfl ?_)
    (refine Jx.load rfl 0 rfl rfl rfl ?_)
    (refine J.gY rfl rfl rfl ?_)
    (refine Jx.lenS rfl rfl ?_)
    (refine J.gY rfl rfl rfl ?_)
    (refine Jx.gtrI rfl rfl rfl ?_)
    (refine J.nil ?_)
    (refine N.joinedN rfl rfl rfl)
    (refine Jx.move rfl rfl ?_)
    (refine' J.guardOr rfl rfl rfl rfl rfl rfl rfl rfl (fun _ => ?_) ?_; rotate_left)
    (refine J.gY rfl rfl rfl ?_)
    (refine Jx.fieldAddr rfl rfl ?_)
    (refine J.gY rfl rfl rfl ?_)
    (refine Jx.load rfl 0 rfl rfl rfl ?_)
    (refine J.gY rfl rfl rfl ?_)
    (refine Jx.lenS rfl rfl ?_)
    (refine J.gY rfl rfl rfl ?_)
    (refine Jx.gtrI rfl rfl rfl ?_)
    (refine J.nil ?_)
    (refine N.joinedN rfl rfl rfl)
    (refine J.nil ?_)
    (refine N.seq ?_)
    (refine id ?_; rotate_left))
  rename_i p1
  refine W.cond rfl (fun hb => ?_) (fun hb => ?_)
  · have hb : bigH b.head = true := hb
    rw [bigBk, hb]
    focus (
    (refine W.seq ?_)
    (refine W.region ?_)
    (refine Jx.assign rfl rfl ?_)
    (refine J.nil ?_)
    (refine N.seq ?_)
    (refine W.ret ?_)
    (refine N.noGotoRet ?_)
    (refine id ?_; rotate_left))
    exact N.retD (rs := [.tmp 2]) (L1 := []) rfl (.tmp rfl .nil) (List.nil_sublist _) ⟨rfl, rfl⟩
  · have hb : bigH b.head = false := hb
    rw [bigBk, hb]
    focus (
    (refine W.skip ?_)
    (refine N.seq ?_)
    (refine W.seq ?_)
    (refine W.seq ?_)
    (refine W.region ?_)
    (refine Jx.assign rfl rfl ?_)
    (refine J.nil ?_)
    (refine N.seq ?_)
    (refine W.block ?_)
    (refine id ?_; rotate_left))
    refine W.loop (α := Nat) (fun i => [(4, int (i : Int)), (1, ptr p1)]) (fun _ => [.obj b' tHd (hdC b.head), .obj p1 tBk (bkC b)]) (fun i => i ≤ b.txs.length ∧ (b.txs.take i).any bigT = false) (fun i => b.txs.length - i) 0 (by simp) rfl ⟨ref0 rfl, ref0 rfl, trivial⟩ ?_
    rintro i ⟨hi, hn⟩
    by_cases h1 : i < b.txs.length
    · focus (
    (refine W.seq ?_)
    (refine W.seq ?_)
    (refine W.region ?_)
    (refine Jx.move rfl rfl ?_)
    (refine Jx.fieldAddr rfl rfl ?_)
    (refine Jx.load rfl 1 rfl rfl rfl ?_)
    (refine Jx.lenSl rfl rfl ?_)
    (refine Jx.lssI rfl rfl rfl ?_)
    (refine J.nil ?_)
    (refine N.seq ?_)
    (refine W.cT rfl ?_)
    (refine W.skip ?_)
    (refine N.seq ?_)
    (refine W.seq ?_)
    (refine W.block ?_)
    (refine W.seq ?_)
    (refine W.region ?_)
    (refine Jx.fieldAddr rfl rfl ?_)
    (refine Jx.load rfl 1 rfl rfl rfl ?_)
    (refine Jx.move rfl rfl ?_)
    (refine Jx.indexEl rfl rfl (by assumption) rfl rfl ?_)
    (refine Jx.loadPPall rfl rfl rfl ?_)
    (refine J.alloc (by simp only [List.map_cons, List.map_nil]; rfl) rfl rfl ?_; intro b')
    (refine J.storeAll rfl rfl rfl 0 rfl rfl rfl ?_)
    (refine J.nil ?_)
    (refine N.seq ?_)
    (refine W.seq ?_)
    (refine W.region ?_)
    (refine Jx.fieldAddr rfl rfl ?_)
    (refine Jx.load rfl 0 rfl rfl rfl ?_)
    (refine Jx.lenS rfl rfl ?_)
    (refine Jx.gtrI rfl rfl rfl ?_)
    (refine Jx.move rfl rfl ?_)
    (refine' J.guardOr rfl rfl rfl rfl rfl rfl rfl rfl (fun _ => ?_) ?_; rotate_left)
    (refine J.gY rfl rfl rfl ?_)
    (refine Jx.fieldAddr rfl rfl ?_)
    (refine J.gY rfl rfl rfl ?_)
    (refine Jx.load rfl 0 rfl rfl rfl ?_)
    (refine J.gY rfl rfl rfl ?_)
    (refine Jx.lenS rfl rfl ?_)
    (refine J.gY rfl rfl rfl ?_)
    (refine Jx.gtrI rfl rfl rfl ?_)
    (refine J.nil ?_)
    (refine N.joinedN rfl rfl rfl)
    (refine Jx.move rfl rfl ?_)
    (refine' J.guardOr rfl rfl rfl rfl rfl rfl rfl rfl (fun _ => ?_) ?_; rotate_left)
    (refine J.gY rfl rfl rfl ?_)
    (refine Jx.fieldAddr rfl rfl ?_)
    (refine J.gY rfl rfl rfl ?_)
    (refine Jx.load rfl 0 rfl rfl rfl ?_)
    (refine J.gY rfl rfl rfl ?_)
    (refine Jx.lenS rfl rfl ?_)
    (refine J.gY rfl rfl rfl ?_)
    (refine Jx.gtrI rfl rfl rfl ?_)
    (refine J.nil ?_)
    (refine N.joinedN rfl rfl rfl)
    (refine Jx.move rfl rfl ?_)
    (refine' J.guardOr rfl rfl rfl rfl rfl rfl rfl rfl (fun _ => ?_) ?_; rotate_left)
    (refine J.gY rfl rfl rfl ?_)
    (refine Jx.fieldAddr rfl rfl ?_)
    (refine J.gY rfl rfl rfl ?_)
    (refine Jx.load rfl 0 rfl rfl rfl ?_)
    (refine J.gY rfl rfl rfl ?_)
    (refine Jx.lenS rfl rfl ?_)
    (refine J.gY rfl rfl rfl ?_)
    (refine Jx.gtrI rfl rfl rfl ?_)
    (refine J.nil ?_)
    (refine N.joinedN rfl rfl rfl)
    (refine Jx.move rfl rfl ?_)
    (refine' J.guardOr rfl rfl rfl rfl rfl rfl rfl rfl (fun _ => ?_) ?_; rotate_left)
    (refine J.gY rfl rfl rfl ?_)
    (refine Jx.fieldAddr rfl rfl ?_)
    (refine J.gY rfl rfl rfl ?_)
    (refine Jx.load rfl 0 rfl rfl rfl ?_)
    (refine J.gY rfl rfl rfl ?_)
    (refine Jx.lenSl rfl rfl ?_)
    (refine J.gY rfl rfl rfl ?_)
    (refine Jx.gtrI rfl rfl rfl ?_)
    (refine J.nil ?_)
    (refine N.joinedN rfl rfl rfl)
    (refine J.nil ?_)
    (refine N.seq ?_)
    (refine id ?_; rotate_left))
      refine W.cond rfl (fun hq => ?_) (fun hq => ?_)
      · have hq : bigT (b.txs.getD i tx0) = true := hq
        have : b.txs.any bigT = true := List.any_eq_true.2 ⟨_, getD_mem h1, hq⟩
        rw [this]
        focus (
    (refine W.seq ?_)
    (refine W.region ?_)
    (refine Jx.assign rfl rfl ?_)
    (refine J.nil ?_)
    (refine N.seq ?_)
    (refine W.ret ?_)
    (refine N.noGotoRet ?_)
    (refine N.noGotoRet ?_)
    (refine N.noGotoRet ?_)
    (refine N.noGotoRet ?_)
    (refine N.noGotoRet ?_)
    (refine id ?_; rotate_left))
        exact N.retD (rs := [.tmp 2]) (L1 := []) rfl (.tmp rfl .nil) (List.nil_sublist _) ⟨rfl, rfl⟩
      · have hq : bigT (b.txs.getD i tx0) = false := hq
        focus (
    (refine W.skip ?_)
    (refine N.seq ?_)
    (refine W.region ?_)
    (refine Jx.move rfl rfl ?_)
    (refine Jx.add64 rfl rfl (by omega) rfl ?_)
    (refine Jx.assign rfl rfl ?_)
    (refine J.nil ?_)
    (refine id ?_; rotate_left))
        refine N.drop (List.sublist_cons_self _ _) ?_
        exact N.round (i + 1) ⟨h1, by rw [take_snoc (d := tx0) h1, List.any_append, hn, List.any_cons, hq]; rfl⟩ (by omega) rfl ⟨ref0 rfl, ref0 rfl, trivial⟩
    · rw [List.take_of_length_le (by omega)] at hn
      rw [hn]
      focus (
    (refine W.seq ?_)
    (refine W.seq ?_)
    (refine W.region ?_)
    (refine Jx.move rfl rfl ?_)
    (refine Jx.fieldAddr rfl rfl ?_)
    (refine Jx.load rfl 1 rfl rfl rfl ?_)
    (refine Jx.lenSl rfl rfl ?_)
    (refine Jx.lssI rfl rfl rfl ?_)
    (refine J.nil ?_)
    (refine N.seq ?_)
    (refine W.cF rfl ?_)
    (refine W.exit ?_)
    (refine N.seq ?_)
    (refine W.seq ?_)
    (refine W.region ?_)
    (refine Jx.fieldAddr rfl rfl ?_)
    (refine Jx.load rfl 1 rfl rfl rfl ?_)
    (refine Jx.lenSl rfl rfl ?_)
    (refine Jx.gtrI rfl rfl rfl ?_)
    (refine Jx.move rfl rfl ?_)
    (refine' J.guardOr rfl rfl rfl rfl rfl rfl rfl rfl (fun _ => ?_) ?_; rotate_left)
    (refine J.gY rfl rfl rfl ?_)
    (refine Jx.fieldAddr rfl rfl ?_)
    (refine J.gY rfl rfl rfl ?_)
    (refine Jx.fieldAddr rfl rfl ?_)
    (refine J.gY rfl rfl rfl ?_)
    (refine Jx.load rfl 1 rfl rfl rfl ?_)
    (refine J.gY rfl rfl rfl ?_)
    (refine J.call (c2) rfl (evs_args rfl) rfl ?_; rintro _ _ ⟨rfl, rfl⟩; simp only [List.cons_append, List.nil_append, List.append_nil])
    (refine J.gY rfl rfl rfl ?_)
    (refine Jx.not rfl rfl ?_)
    (refine J.nil ?_)
    (refine N.joinedN rfl rfl rfl)
    (refine Jx.move rfl rfl ?_)
    (refine' J.guardOr rfl rfl rfl rfl rfl rfl rfl rfl (fun _ => ?_) ?_; rotate_left)
    (refine J.gY rfl rfl rfl ?_)
    (refine Jx.fieldAddr rfl rfl ?_)
    (refine J.gY rfl rfl rfl ?_)
    (refine Jx.fieldAddr rfl rfl ?_)
    (refine J.gY rfl rfl rfl ?_)
    (refine Jx.load rfl 1 rfl rfl rfl ?_)
    (refine J.gY rfl rfl rfl ?_)
    (refine Jx.lenS rfl rfl ?_)
    (refine J.gY rfl rfl rfl ?_)
    (refine Jx.gtrI rfl rfl rfl ?_)
    (refine J.nil ?_)
    (refine N.joinedN rfl rfl rfl)
    (refine Jx.assign rfl rfl ?_)
    (refine J.nil ?_)
    (refine N.seq ?_)
    (refine W.ret ?_)
    (refine id ?_; rotate_left))
      exact N.retD (rs := [.tmp 2]) (L1 := []) rfl (.tmp rfl .nil) (List.nil_sublist _) ⟨rfl, rfl⟩
def someB (a : List UInt8) (l : List Tx) : Bk := ⟨⟨1, 1, 1, false, a, a, [], rootT l, a, a, []⟩, l, ct0⟩
def exB : Tx := ⟨3, [97], 0, [], 0, [107], [], []⟩
theorem links1 : linksI 1 = [] := by decide +kernel
theorem someB_fine {a : List UInt8} (ha : a.length = 32) {l : List Tx} (hl : fineAll l = true) : fineBk (someB a l) = true := by
  refine (fineBk_iff _).2 ⟨(fineHd_iff _).2 ⟨by simp [someB], by simp [someB], by simp [someB], ⟨fun _ => ha, fun h => by simp [someB] at h⟩, ?_, ha, ha, .inr ha, .inl rfl, ?_, ?_, fun _ => rfl⟩, by simp [someB], hl, rfl, .inl rfl⟩
  · rw [show (someB a l).head.txs = rootT l from rfl, rootT, if_pos hl, sumD_len]
  · rw [show (someB a l).head.height = 1 from rfl, links1]; rfl
  · intro s hs; simp [someB] at hs
theorem exB_fine : fineAll [exB] = true := by decide +kernel
abbrev someZ (a r : List UInt8) (l : List Tx) : List SV := [int 1, int 1, int 1, bool false, str a, str a, str [], str r, str a, str a, .val (.slice none 0 0), txsl l, str [], .val (.slice none 0 0)]
theorem someZ_sub (a : List UInt8) (l : List Tx) : SubL (someZ a (rootT l) l) (bkC (someB a l)) := .cons (.refl _) (.cons (.refl _) (.cons (.refl _) (.cons (.refl _) (.cons (.refl _) (.cons (.refl _) (.cons (.refl _) (.cons (.refl _) (.cons (.refl _) (.cons (.refl _) (.cons (Sub.nil 1 _) (.cons (.refl _) (.cons (.refl _) (.cons (Sub.nil 1 _) .nil)))))))))))))
set_option maxHeartbeats 4000000 in
theorem bsome_ok (l : List Tx) : FnC Tryd.prog 29 [txsl l] [] (fun v L => v = .agg (bkC (someB (List.replicate 32 97) l)) ∧ L = []) := by
  have ca : FnC Tryd.prog 27 [str [97], int 32] [] (fun v L => v = str (List.replicate 32 97) ∧ L = []) := rep_ok 97 32 (by decide)
  have hs := someZ_sub (List.replicate 32 97) l
  generalize List.replicate 32 (97 : UInt8) = a at *
  have c := troot_ok l
  generalize codeAll l = cd at *
  refine FnC.intro Tryd.func29 rfl Tryd.ntmps29 rfl fun Z w0 hG => ?_
  unfold someB at hs ⊢
  generalize rootT l = r at *
  focus (
    (refine W.seq ?_)
    (refine W.region ?_)
    (refine J.alloc (by simp only [List.map_cons, List.map_nil]; rfl) rfl rfl ?_; intro b')
    (refine J.nil ?_)
    (refine N.seq ?_)
    (refine W.seq ?_)
    (refine W.region ?_)
    (refine J.call (ca) rfl (evs_args rfl) rfl ?_; rintro _ _ ⟨rfl, rfl⟩; simp only [List.cons_append, List.nil_append, List.append_nil])
    (refine Jx.assign rfl rfl ?_)
    (refine J.nil ?_)
    (refine N.seq ?_)
    (refine W.seq ?_)
    (refine W.region ?_)
    (refine Jx.move rfl rfl ?_)
    (refine J.call (c) rfl (evs_args rfl) rfl ?_; rintro _ _ ⟨rfl, rfl⟩; simp only [List.cons_append, List.nil_append, List.append_nil])
    (refine Jx.move rfl rfl ?_)
    (refine Jx.extract rfl rfl rfl ?_)
    (refine Jx.extract rfl rfl rfl ?_)
    (refine Jx.assign rfl rfl ?_)
    (refine Jx.assign rfl rfl ?_)
    (refine J.nil ?_)
    (refine N.seq ?_)
    (refine W.seq ?_)
    (refine W.region ?_)
    (refine Jx.move rfl rfl ?_)
    (refine Jx.move rfl rfl ?_)
    (refine Jx.move rfl rfl ?_)
    (refine Jx.move rfl rfl ?_)
    (refine Jx.move rfl rfl ?_)
    (refine Jx.buildB rfl rfl rfl rfl rfl ?_)
    (refine Jx.move rfl rfl ?_)
    (refine Jx.buildB rfl rfl rfl rfl rfl ?_)
    (refine J.storeAll rfl rfl rfl 0 rfl rfl rfl ?_)
    (refine J.nil ?_)
    (refine N.seq ?_)
    (refine W.ret ?_)
    (refine id ?_; rotate_left))
  refine N.objSub 0 _ rfl hs rfl ?_
  exact N.retD (rs := [.cell 2 tBk]) (L1 := []) rfl (.cell rfl 0 rfl agBk .nil) (List.nil_sublist _) ⟨rfl, rfl⟩
end Go.Proofs.YtlfdhkahiaammaaDoor
namespace Go.Sse
open Go Go.Sse
set_option linter.unusedVariables false
set_option linter.unusedSimpArgs false
section
variable {P : Program} {Γ : Ctx} {F : List (Nat × SV)} {L : List Own} {dst : Option Tmp} {ty : TypeId} {pos : String} {aft : Array Edge} {g : Option (Nat × Bool)}
theorem Qs.buildOneS {α : Type} {t E sz by' : Nat} {z : List Value} [ht : TSlice P t E] [hI : TInfo P E sz by' z] {x : Operand} {u : SV} (enc : α → List SV) (d a : α) (hx : ev F x = some u) (hs : Sub u (.agg (enc a))) (hcs' : Nat.beq (enc a).length sz = true)
    (hz' : Nat.beq z.length sz = true) (h0' : Nat.blt 0 sz = true) (hmax' : Nat.ble sz 16777216 = true) (hz1 : z.all (·.oneCell') = true) : Qs P Γ F L ⟨dst, .buildSlice t 1 [(0, x)].toArray, ty, pos, aft, g⟩ (.sl sz [a].length (elOf enc d [a])) := by
  have hcs := Nat.eq_of_beq_eq_true hcs'
  have hz := Nat.eq_of_beq_eq_true hz'
  have h0 : 0 < sz := Nat.le_of_ble_eq_true h0'
  have hmax := Nat.le_of_ble_eq_true hmax'
  refine (Qs.buildSlice (len := 1) (ss := [.agg (enc a)]) (sz := sz) (z := z) (.sub hx hs .agg .nil) rfl (by intro s hs; simp only [List.mem_singleton] at hs; subst hs; exact hcs) hz (by omega) (by omega) hz1).sub ?_
  refine Sub.slOf (l := [a]) rfl fun i hi => ?_
  have : i = 0 := by omega
  subst this
  rfl
end
end Go.Sse
namespace Go.Proofs.YtlfdhkahiaammaaDoor
open Go Go.Sse
set_option linter.unusedVariables false
set_option linter.unusedSimpArgs false
set_option maxRecDepth 10000
theorem readB_back {x : Bk} (h : fineBk x = true) (r : List UInt8) : ∃ st : PSt, ReadB 65536 (encBk x ++ r) x true true true (some r) := by
  have f := (fineBk_iff x).1 h
  obtain ⟨l1, l2, l3⟩ := f.lens
  refine ⟨none, encHd x.head, _, encAll x.txs, _, some x.head, some x.txs, ?_, ⟨f.head, rfl⟩, rfl, rfl, textP_back _ (justE x.just ++ r) (by omega) (by omega), ⟨f.txs, rfl⟩, rfl, rfl, ?_⟩
  · rw [encBk, List.append_assoc, List.append_assoc]; exact textP_back _ _ (by omega) (by omega)
  · unfold justE
    cases hb : bareCt x.just with
    | true => exact ⟨false, some r, by rw [if_pos rfl, flagP_back], fun _ => ⟨bare_eq hb, rfl, rfl⟩, fun h => by cases h⟩
    | false =>
      obtain ⟨g1, g2⟩ := l3 hb
      exact ⟨true, _, by rw [if_neg (by simp), List.append_assoc, flagP_back], (fun h => by cases h), fun _ => ⟨encCt x.just, some x.just, textP_back _ _ (by omega) (by omega), ⟨g1, rfl⟩, rfl, rfl⟩⟩
theorem apBk : Apart fineBk encBk := ⟨fun x y r q hx hy h => by
  obtain ⟨_, hr⟩ := readB_back hx r
  rw [h] at hr
  obtain ⟨e1, _, _, _, e2⟩ := hr.whole (by decide) ((fineBk_iff y).1 hy) rfl
  exact ⟨e1, by simpa using e2⟩⟩
theorem bdec_enc {x : Bk} (h : fineBk x = true) : FnC Tryd.prog 11 [str (encBk x)] [] (fun v L => v = .tup [.agg (bkC x), int 0] ∧ L = []) := by
  refine (bdecode_ok (encBk x) (by have := encBk_len ((fineBk_iff x).1 h); omega)).mono ?_
  rintro v L ⟨⟨o, ho, rfl⟩, rfl⟩
  rw [apBk.some' ho h rfl]
  exact ⟨rfl, rfl⟩
theorem exB_sub : SubL [int 3, str [97], int 0, str [], int 0, str [107], str [], .val (.slice none 0 0)] (txC exB) := .cons (.refl _) (.cons (.refl _) (.cons (.refl _) (.cons (.refl _) (.cons (.refl _) (.cons (.refl _) (.cons (.refl _) (.cons (Sub.nil 2 _) .nil)))))))
theorem bkN_sub (h : Hd) (c : Ct) : SubL ((bkC ⟨h, [], c⟩).set 11 (.val (.slice none 0 0))) (bkC ⟨h, [], c⟩) := .cons (.refl _) (.cons (.refl _) (.cons (.refl _) (.cons (.refl _) (.cons (.refl _) (.cons (.refl _) (.cons (.refl _) (.cons (.refl _) (.cons (.refl _) (.cons (.refl _) (.cons (.refl _) (.cons (Sub.nil 8 _) (.cons (.refl _) (.cons (.refl _) .nil)))))))))))))
theorem someB_last (a : List UInt8) (l : List Tx) : (encBk (someB a l)).getD ((encBk (someB a l)).length - 1) 0 = 0 := by
  have : encBk (someB a l) = (textB (encHd (someB a l).head) ++ textB (encAll l)) ++ [0] := by
    rw [encBk, justE, if_pos (by rfl), List.append_assoc]; rfl
  rw [this, List.length_append, List.getD_eq_getElem?_getD]
  simp
theorem someB_long (a : List UInt8) (l : List Tx) : 1 < (encBk (someB a l)).length := by
  have h1 : 1 ≤ (textB (encAll l)).length := by simp only [textB, List.length_append, numB, List.length_cons]; omega
  simp only [encBk, justE, List.length_append, show (someB a l).txs = l from rfl]
  rw [if_pos (by rfl), flag_len]
  omega
theorem someB_bad {a : List UInt8} {l : List Tx} (hne : rootT l ≠ rootT []) : fineBk ⟨(someB a l).head, [], ct0⟩ = false := by
  cases hf : fineBk ⟨(someB a l).head, [], ct0⟩ with
  | false => rfl
  | true => exact absurd ((fineBk_iff _).1 hf).root.symm hne
set_option maxHeartbeats 8000000 in
theorem bworks_ok : FnC Tryd.prog 9 [] [] (fun s L => s = bool true ∧ L = []) := by
  have hne : rootT [exB] ≠ rootT [] := by decide +kernel
  have hex := exB_fine
  have ha : (List.replicate 32 (97 : UInt8)).length = 32 := by simp
  have c0 := bsome_ok [exB]
  generalize List.replicate 32 (97 : UInt8) = a at *
  have hf : fineBk (someB a [exB]) = true := someB_fine ha hex
  have F := (fineBk_iff _).1 hf
  have c1 := bencode_ok (someB a [exB]) (by simp [someB])
  have c2 := bdec_enc hf
  have c3 := bdigest_ok (someB a [exB]) (by simp [someB])
  have c4 := hdigest_ok (someB a [exB]).head (by simp [someB])
  have c5 := bcheck_ok ⟨(someB a [exB]).head, [], ct0⟩ (by simp [someB])
  rw [someB_bad hne] at c5
  rw [digB, if_pos hf] at c3
  have hd := digH_len F.head
  have hlast := someB_last a [exB]
  have hlong := someB_long a [exB]
  have hup := encBk_len F
  rw [encO, hf, if_pos rfl] at c1
  have hd2 := bkN_sub (someB a [exB]).head ct0
  generalize digH (someB a [exB]).head = dg at *
  generalize encBk (someB a [exB]) = e at *
  have hl1 : (1 : Int) < (e.length : Int) := by omega
  have hlt : (e.length : Int) - 1 < (e.length : Int) := by omega
  have hge : (0 : Int) ≤ (e.length : Int) - 1 := by omega
  have hl2 : e.getD ((e.length : Int) - 1).toNat 0 = 0 := by rw [show ((e.length : Int) - 1).toNat = e.length - 1 by omega]; exact hlast
  refine FnC.intro Tryd.func9 rfl Tryd.ntmps9 rfl fun Z w0 hG => ?_
  focus (
    (refine W.seq ?_)
    (refine W.region ?_)
    (refine Jx.assign rfl rfl ?_)
    (refine J.nil ?_)
    (refine N.seq ?_)
    (refine W.seq ?_)
    (refine W.region ?_)
    (refine Jx.buildB rfl rfl rfl rfl rfl ?_)
    (refine J.qs (Qs.buildOneS txC tx0 exB rfl (Sub.agg exB_sub) rfl rfl rfl rfl rfl) rfl ?_)
    (refine J.call (c0) rfl (evs_args rfl) rfl ?_; rintro _ _ ⟨rfl, rfl⟩; simp only [List.cons_append, List.nil_append, List.append_nil])
    (refine J.alloc (by simp only [List.map_cons, List.map_nil]; rfl) rfl rfl ?_; intro b')
    (refine J.storeAll rfl rfl rfl 0 rfl rfl rfl ?_)
    (refine J.nil ?_)
    (refine N.seq ?_)
    (refine W.seq ?_)
    (refine W.region ?_)
    (refine Jx.loadAll rfl 0 rfl rfl rfl ?_)
    (refine J.call (c1) rfl (evs_args rfl) rfl ?_; rintro _ _ ⟨rfl, rfl⟩; simp only [List.cons_append, List.nil_append, List.append_nil])
    (refine Jx.move rfl rfl ?_)
    (refine Jx.extract rfl rfl rfl ?_)
    (refine Jx.extract rfl rfl rfl ?_)
    (refine Jx.assign rfl rfl ?_)
    (refine Jx.assign rfl rfl ?_)
    (refine J.nil ?_)
    (refine N.seq ?_)
    (refine W.seq ?_)
    (refine W.region ?_)
    (refine Jx.move rfl rfl ?_)
    (refine J.call (c2) rfl (evs_args rfl) rfl ?_; rintro _ _ ⟨rfl, rfl⟩; simp only [List.cons_append, List.nil_append, List.append_nil])
    (refine Jx.move rfl rfl ?_)
    (refine Jx.extract rfl rfl rfl ?_)
    (refine Jx.extract rfl rfl rfl ?_)
    (refine J.alloc (by simp only [List.map_cons, List.map_nil]; rfl) rfl rfl ?_; intro b')
    (refine J.storeAll rfl rfl rfl 0 rfl rfl rfl ?_)
    (refine Jx.assign rfl rfl ?_)
    (refine J.nil ?_)
    (refine N.seq ?_)
    (refine W.seq ?_)
    (refine W.region ?_)
    (refine Jx.loadAll rfl 1 rfl rfl rfl ?_)
    (refine J.alloc (by simp only [List.map_cons, List.map_nil]; rfl) rfl rfl ?_; intro b')
    (refine J.storeAll rfl rfl rfl 0 rfl rfl rfl ?_)
    (refine J.nil ?_)
    (refine N.seq ?_)
    (refine W.seq ?_)
    (refine W.region ?_)
    (refine Jx.fieldAddr rfl rfl ?_)
    (refine J.st 0 rfl rfl rfl rfl rfl rfl ?_)
    (refine J.nil ?_)
    (refine N.seq ?_)
    (refine W.seq ?_)
    (refine W.draw follows ?_)
    (refine JD.calm rfl (by decide +kernel) ?_)
    (refine Cx.move rfl rfl ?_)
    (refine Cx.eqlI rfl rfl rfl ?_)
    (refine Cx.move rfl rfl ?_)
    (refine SegC.gY rfl rfl rfl ?_)
    (refine Cx.move rfl rfl ?_)
    (refine SegC.gY rfl rfl rfl ?_)
    (refine Cx.eqlI rfl rfl rfl ?_)
    (refine Cx.pickT rfl (by first | rfl | assumption | (exact decide_eq_true (by first | assumption | omega | rfl)) | (exact decide_eq_false (by first | assumption | omega | rfl)) | (simp; done) | (simp; omega)) rfl rfl ?_)
    (refine Cx.move rfl rfl ?_)
    (refine SegC.gY rfl rfl rfl ?_)
    (refine Cx.move rfl rfl ?_)
    (refine SegC.gY rfl rfl rfl ?_)
    (refine Cx.lenS rfl rfl ?_)
    (refine SegC.gY rfl rfl rfl ?_)
    (refine Cx.gtrI rfl rfl rfl ?_)
    (refine Cx.pickT rfl (by first | rfl | assumption | (exact decide_eq_true (by first | assumption | omega | rfl)) | (exact decide_eq_false (by first | assumption | omega | rfl)) | (simp; done) | (simp; omega)) rfl rfl ?_)
    (refine Cx.move rfl rfl ?_)
    (refine SegC.gY rfl rfl rfl ?_)
    (refine Cx.move rfl rfl ?_)
    (refine SegC.gY rfl rfl rfl ?_)
    (refine Cx.move rfl rfl ?_)
    (refine SegC.gY rfl rfl rfl ?_)
    (refine Cx.lenS rfl rfl ?_)
    (refine SegC.gY rfl rfl rfl ?_)
    (refine Cx.sub64 rfl rfl (by omega) rfl ?_)
    (refine SegC.gY rfl rfl rfl ?_)
    (refine Cx.indexS rfl rfl hge hlt rfl ?_; rw [hl2])
    (refine SegC.gY rfl rfl rfl ?_)
    (refine Cx.eqlI rfl rfl rfl ?_)
    (refine Cx.pickT rfl (by first | rfl | assumption | (exact decide_eq_true (by first | assumption | omega | rfl)) | (exact decide_eq_false (by first | assumption | omega | rfl)) | (simp; done) | (simp; omega)) rfl rfl ?_)
    (refine Cx.move rfl rfl ?_)
    (refine SegC.gY rfl rfl rfl ?_)
    (refine Cx.fieldAddr rfl rfl ?_)
    (refine SegC.gY rfl rfl rfl ?_)
    (refine Cx.load rfl 1 rfl rfl rfl ?_)
    (refine SegC.gY rfl rfl rfl ?_)
    (refine Cx.lenSl rfl rfl ?_)
    (refine SegC.gY rfl rfl rfl ?_)
    (refine Cx.eqlI rfl rfl rfl ?_)
    (refine Cx.pickT rfl (by first | rfl | assumption | (exact decide_eq_true (by first | assumption | omega | rfl)) | (exact decide_eq_false (by first | assumption | omega | rfl)) | (simp; done) | (simp; omega)) rfl rfl ?_)
    (refine Cx.move rfl rfl ?_)
    (refine SegC.gY rfl rfl rfl ?_)
    (refine Cx.loadAll rfl 2 rfl rfl rfl ?_)
    (refine SegC.gY rfl rfl rfl ?_)
    (refine SegC.q (Qs.call (Lc := []) (c3) (fun s L' h => h) (List.Perm.refl _) (evs_args rfl)) rfl ?_)
    (refine SegC.gY rfl rfl rfl ?_)
    (refine Cx.fieldAddr rfl rfl ?_)
    (refine SegC.gY rfl rfl rfl ?_)
    (refine Cx.loadAg rfl 2 rfl rfl rfl rfl ?_)
    (refine SegC.gY rfl rfl rfl ?_)
    (refine SegC.q (Qs.call (Lc := []) (c4) (fun s L' h => h) (List.Perm.refl _) (evs_args rfl)) rfl ?_)
    (refine SegC.gY rfl rfl rfl ?_)
    (refine Cx.eqlS rfl rfl rfl ?_)
    (refine Cx.pickT rfl (by first | rfl | assumption | (exact decide_eq_true (by first | assumption | omega | rfl)) | (exact decide_eq_false (by first | assumption | omega | rfl)) | (simp; done) | (simp; omega)) rfl rfl ?_)
    (refine Cx.move rfl rfl ?_)
    (refine SegC.gY rfl rfl rfl ?_)
    (refine Cx.loadAll rfl 2 rfl rfl rfl ?_)
    (refine SegC.gY rfl rfl rfl ?_)
    (refine SegC.q (Qs.call (Lc := []) (c3) (fun s L' h => h) (List.Perm.refl _) (evs_args rfl)) rfl ?_)
    (refine SegC.gY rfl rfl rfl ?_)
    (refine Cx.lenS rfl rfl ?_)
    (refine SegC.gY rfl rfl rfl ?_)
    (refine Cx.eqlI rfl rfl rfl ?_)
    (refine Cx.pickT rfl (by first | rfl | assumption | (exact decide_eq_true (by first | assumption | omega | rfl)) | (exact decide_eq_false (by first | assumption | omega | rfl)) | (simp; done) | (simp; omega)) rfl rfl ?_)
    (refine Cx.move rfl rfl ?_)
    (refine SegC.gY rfl rfl rfl ?_)
    (refine Cx.loadAll rfl 0 rfl rfl rfl ?_)
    (refine SegC.gY rfl rfl rfl ?_)
    (refine SegC.q (Qs.call (Lc := []) c5 (fun s L' h => h) (List.Perm.refl _) (Args.sub rfl (Sub.agg hd2) Args.nil)) rfl ?_)
    (refine SegC.gY rfl rfl rfl ?_)
    (refine Cx.eqlI rfl rfl rfl ?_)
    (refine Cx.pickT rfl (by first | rfl | assumption | (exact decide_eq_true (by first | assumption | omega | rfl)) | (exact decide_eq_false (by first | assumption | omega | rfl)) | (simp; done) | (simp; omega)) rfl rfl ?_)
    (refine Cx.assign rfl rfl ?_)
    (refine SegC.nil ?_)
    (refine N.seq ?_)
    (refine W.ret ?_)
    (refine id ?_; rotate_left))
  exact N.retD (rs := [.tmp 0]) (L1 := []) rfl (.tmp rfl .nil) (List.nil_sublist _) ⟨by first | rfl | (simp [oneOr, hd]; done), rfl⟩
end Go.Proofs.YtlfdhkahiaammaaDoor
namespace Go.Proofs.YtlfdhkahiaammaaDoor
open Go Go.Sse
set_option linter.unusedVariables false
set_option linter.unusedSimpArgs false
set_option maxRecDepth 10000
end Go.Proofs.YtlfdhkahiaammaaDoor
namespace Go.Proofs.YtlfdhkahiaammaaDoor
open Go Go.Sse
set_option linter.unusedVariables false
set_option linter.unusedSimpArgs false
set_option maxRecDepth 10000
def clashB (tag : Nat) (l : List (List UInt8)) (i k : Nat) : Bool := decide (sumD tag (l.getD i []) = sumD tag (l.getD k [])) && decide (l.getD i [] ≠ l.getD k [])
set_option maxHeartbeats 8000000 in
theorem unlike_ok (tag : Nat) (l : List (List UInt8)) (hl : l.length ≤ 1000) (hs : ∀ s ∈ l, s.length ≤ 1000000) : FnC Tryd.prog 20 [int (tag : Int), ssl l] [] (fun v L => (∃ r, v = bool r ∧ (r = true ↔ ∃ i k, k < i ∧ i < l.length ∧ clashB tag l i k = true)) ∧ L = []) := by
  refine FnC.intro Tryd.func20 rfl Tryd.ntmps20 rfl fun Z w0 hG => ?_
  focus (
    (refine W.seq ?_)
    (refine W.region ?_)
    (refine Jx.assign rfl rfl ?_)
    (refine J.nil ?_)
    (refine N.seq ?_)
    (refine W.seq ?_)
    (refine W.region ?_)
    (refine Jx.assign rfl rfl ?_)
    (refine J.nil ?_)
    (refine N.seq ?_)
    (refine W.seq ?_)
    (refine W.seq ?_)
    (refine W.region ?_)
    (refine Jx.assign rfl rfl ?_)
    (refine J.nil ?_)
    (refine N.seq ?_)
    (refine W.block ?_)
    (refine id ?_; rotate_left))
  refine W.rowNil 9 1 (elOf (fun a => [str a]) [] []) ?_
  refine W.loop (α := Nat × Value) (fun x => [(6, int (x.1 : Int)), (1, ssl l), (0, int (tag : Int)), (5, .val x.2)]) (fun x => [.row x.2 9 1 ((l.take x.1).map (sumD tag)).length (elOf (fun a => [str a]) [] ((l.take x.1).map (sumD tag)))]) (fun x => x.1 ≤ l.length) (fun x => l.length - x.1) (0, .slice none 0 0) (by simp) (by simp) ⟨ref0 rfl, ref0 rfl, ref0 rfl, ref0 rfl, trivial⟩ ?_
  rintro ⟨i, u⟩ hi
  simp only at hi ⊢
  by_cases h1 : i < l.length
  · have c1 := rtagged_ok tag (l.getD i []) (by have := hs _ (getD_mem (d := []) h1); omega)
    have hti := map_take (sumD tag) [] l i h1
    have hlen : ((l.take i).map (sumD tag)).length ≤ 1000 := by rw [List.length_map, List.length_take]; omega
    have hmx : ((l.take i).map (sumD tag)).length + [sumD tag (l.getD i [])].length ≤ maxLen ∧ (((l.take i).map (sumD tag)).length + [sumD tag (l.getD i [])].length) * 16 ≤ 140737488355328 := by simp only [maxLen, List.length_cons, List.length_nil]; omega
    generalize sumD tag (l.getD i []) = e at *
    focus (
    (refine W.seq ?_)
    (refine W.seq ?_)
    (refine W.region ?_)
    (refine Jx.move rfl rfl ?_)
    (refine Jx.move rfl rfl ?_)
    (refine Jx.lenSl rfl rfl ?_)
    (refine Jx.lssI rfl rfl rfl ?_)
    (refine J.nil ?_)
    (refine N.seq ?_)
    (refine W.cT rfl ?_)
    (refine W.skip ?_)
    (refine N.seq ?_)
    (refine W.seq ?_)
    (refine W.block ?_)
    (refine W.region ?_)
    (refine Jx.move rfl rfl ?_)
    (refine Jx.move rfl rfl ?_)
    (refine Jx.move rfl rfl ?_)
    (refine Jx.move rfl rfl ?_)
    (refine Jx.indexEl rfl rfl (by assumption) rfl rfl ?_)
    (refine Jx.loadPP rfl rfl ?_)
    (refine J.call (Lc := []) c1 rfl (evs_args rfl) rfl ?_; rintro _ _ ⟨rfl, rfl⟩; simp only [List.cons_append, List.nil_append, List.append_nil])
    (refine J.qs (Qs.buildTexts [e] rfl rfl rfl (by decide) (by decide)) rfl ?_)
    (refine J.appendAt (l := (l.take i).map (sumD tag)) (l2 := [e]) 0 rfl rfl (SrcOK.sl rfl) rfl rfl hmx rfl ?_; intro v2 hv2)
    (refine Jx.assign rfl rfl ?_)
    (refine J.nil ?_)
    (refine N.seq ?_)
    (refine W.region ?_)
    (refine Jx.move rfl rfl ?_)
    (refine Jx.add64 rfl rfl (by omega) rfl ?_)
    (refine Jx.assign rfl rfl ?_)
    (refine J.nil ?_)
    (refine id ?_; rotate_left))
    exact N.round (i + 1, v2) h1 (by simp only; omega) (by rw [hti]; rfl) ⟨ref0 rfl, ref0 rfl, ref0 rfl, ref0 rfl, trivial⟩
  · have hil : i = l.length := by omega
    subst hil
    rw [List.take_length]
    refine W.freezeAt 0 5 rfl rfl (by rw [List.length_map]; simp only [maxLen]; omega) ?_
    have hsl : (l.map (sumD tag)).length = l.length := by simp
    have hsg : ∀ i, i < l.length → (l.map (sumD tag)).getD i [] = sumD tag (l.getD i []) := fun i hi => by
      simp [List.getD_eq_getElem?_getD, hi]
    generalize l.map (sumD tag) = sums at *
    focus (
    (refine W.seq ?_)
    (refine W.seq ?_)
    (refine W.region ?_)
    (refine Jx.move rfl rfl ?_)
    (refine Jx.move rfl rfl ?_)
    (refine Jx.lenSl rfl rfl ?_)
    (refine Jx.lssI rfl rfl rfl ?_)
    (refine J.nil ?_)
    (refine N.seq ?_)
    (refine W.cF rfl ?_)
    (refine W.exit ?_)
    (refine N.seq ?_)
    (refine W.seq ?_)
    (refine W.seq ?_)
    (refine W.region ?_)
    (refine Jx.assign rfl rfl ?_)
    (refine J.nil ?_)
    (refine N.seq ?_)
    (refine W.block ?_)
    (refine id ?_; rotate_left))
    refine W.loop (α := Nat) (fun i => [(7, int (i : Int)), (5, ssl sums), (1, ssl l)]) (fun _ => []) (fun i => i ≤ l.length ∧ ∀ a k, k < a → a < i → clashB tag l a k = false) (fun i => l.length - i) 0 ⟨by omega, fun a k _ h => by omega⟩ rfl ⟨ref0 rfl, ref0 rfl, ref0 rfl, trivial⟩ ?_
    rintro i ⟨hi, hn⟩
    by_cases h2 : i < l.length
    · have h2' : i < sums.length := by omega
      focus (
    (refine W.seq ?_)
    (refine W.seq ?_)
    (refine W.region ?_)
    (refine Jx.move rfl rfl ?_)
    (refine Jx.move rfl rfl ?_)
    (refine Jx.lenSl rfl rfl ?_)
    (refine Jx.lssI rfl rfl rfl ?_)
    (refine J.nil ?_)
    (refine N.seq ?_)
    (refine W.cT rfl ?_)
    (refine W.skip ?_)
    (refine N.seq ?_)
    (refine W.seq ?_)
    (refine W.block ?_)
    (refine W.seq ?_)
    (refine W.region ?_)
    (refine Jx.assign rfl rfl ?_)
    (refine J.nil ?_)
    (refine N.seq ?_)
    (refine W.block ?_)
    (refine id ?_; rotate_left))
      refine W.loop (α := Nat) (fun k => [(8, int (k : Int)), (7, int (i : Int)), (5, ssl sums), (1, ssl l)]) (fun _ => []) (fun k => k ≤ i ∧ ∀ k', k' < k → clashB tag l i k' = false) (fun k => i - k) 0 ⟨by omega, fun k' h => by omega⟩ rfl ⟨ref0 rfl, ref0 rfl, ref0 rfl, ref0 rfl, trivial⟩ ?_
      rintro k ⟨hk, hnk⟩
      by_cases h3 : k < i
      · have hk1 : k < l.length := by omega
        have hk2 : k < sums.length := by omega
        have hci := hsg i h2
        have hck := hsg k hk1
        by_cases he : sums.getD i [] = sums.getD k []
        · by_cases hne : l.getD i [] = l.getD k []
          · have hcl : clashB tag l i k = false := by rw [clashB, show decide (l.getD i [] ≠ l.getD k []) = false from decide_eq_false (fun h => h hne), Bool.and_false]
            have hne' : ¬ l.getD i [] ≠ l.getD k [] := fun h => h hne
            focus (
    (refine W.seq ?_)
    (refine W.seq ?_)
    (refine W.region ?_)
    (refine Jx.move rfl rfl ?_)
    (refine Jx.move rfl rfl ?_)
    (refine Jx.lssI rfl rfl rfl ?_)
    (refine J.nil ?_)
    (refine N.seq ?_)
    (refine W.cT rfl ?_)
    (refine W.skip ?_)
    (refine N.seq ?_)
    (refine W.seq ?_)
    (refine W.block ?_)
    (refine W.seq ?_)
    (refine W.draw follows ?_)
    (refine JD.calm rfl (by decide +kernel) ?_)
    (refine Cx.move rfl rfl ?_)
    (refine Cx.move rfl rfl ?_)
    (refine Cx.indexEl rfl rfl (by assumption) rfl rfl ?_)
    (refine Cx.loadPP rfl rfl ?_)
    (refine Cx.move rfl rfl ?_)
    (refine Cx.move rfl rfl ?_)
    (refine Cx.indexEl rfl rfl (by assumption) rfl rfl ?_)
    (refine Cx.loadPP rfl rfl ?_)
    (refine Cx.eqlS rfl rfl rfl ?_)
    (refine Cx.move rfl rfl ?_)
    (refine SegC.gY rfl rfl rfl ?_)
    (refine Cx.move rfl rfl ?_)
    (refine SegC.gY rfl rfl rfl ?_)
    (refine Cx.move rfl rfl ?_)
    (refine SegC.gY rfl rfl rfl ?_)
    (refine Cx.indexEl rfl rfl (by assumption) rfl rfl ?_)
    (refine SegC.gY rfl rfl rfl ?_)
    (refine Cx.loadPP rfl rfl ?_)
    (refine SegC.gY rfl rfl rfl ?_)
    (refine Cx.move rfl rfl ?_)
    (refine SegC.gY rfl rfl rfl ?_)
    (refine Cx.move rfl rfl ?_)
    (refine SegC.gY rfl rfl rfl ?_)
    (refine Cx.indexEl rfl rfl (by assumption) rfl rfl ?_)
    (refine SegC.gY rfl rfl rfl ?_)
    (refine Cx.loadPP rfl rfl ?_)
    (refine SegC.gY rfl rfl rfl ?_)
    (refine Cx.neqS rfl rfl rfl ?_)
    (refine Cx.pickT rfl (by first | rfl | assumption | (exact decide_eq_true (by first | assumption | omega | rfl)) | (exact decide_eq_false (by first | assumption | omega | rfl)) | (simp; done) | (simp; omega)) rfl rfl ?_)
    (refine SegC.nil ?_)
    (refine N.seq ?_)
    (refine W.cF rfl ?_)
    (refine W.skip ?_)
    (refine N.seq ?_)
    (refine W.region ?_)
    (refine Jx.move rfl rfl ?_)
    (refine Jx.add64 rfl rfl (by omega) rfl ?_)
    (refine Jx.assign rfl rfl ?_)
    (refine J.nil ?_)
    (refine id ?_; rotate_left))
            exact N.round (k + 1) ⟨h3, fun k' h => by rcases Nat.lt_or_ge k' k with h4 | h4; exact hnk k' h4; obtain rfl : k' = k := (by omega); exact hcl⟩ (by omega) rfl ⟨ref0 rfl, ref0 rfl, ref0 rfl, ref0 rfl, trivial⟩
          · have hcl : clashB tag l i k = true := by rw [clashB, ← hci, ← hck, decide_eq_true he, decide_eq_true hne]; rfl
            focus (
    (refine W.seq ?_)
    (refine W.seq ?_)
    (refine W.region ?_)
    (refine Jx.move rfl rfl ?_)
    (refine Jx.move rfl rfl ?_)
    (refine Jx.lssI rfl rfl rfl ?_)
    (refine J.nil ?_)
    (refine N.seq ?_)
    (refine W.cT rfl ?_)
    (refine W.skip ?_)
    (refine N.seq ?_)
    (refine W.seq ?_)
    (refine W.block ?_)
    (refine W.seq ?_)
    (refine W.draw follows ?_)
    (refine JD.calm rfl (by decide +kernel) ?_)
    (refine Cx.move rfl rfl ?_)
    (refine Cx.move rfl rfl ?_)
    (refine Cx.indexEl rfl rfl (by assumption) rfl rfl ?_)
    (refine Cx.loadPP rfl rfl ?_)
    (refine Cx.move rfl rfl ?_)
    (refine Cx.move rfl rfl ?_)
    (refine Cx.indexEl rfl rfl (by assumption) rfl rfl ?_)
    (refine Cx.loadPP rfl rfl ?_)
    (refine Cx.eqlS rfl rfl rfl ?_)
    (refine Cx.move rfl rfl ?_)
    (refine SegC.gY rfl rfl rfl ?_)
    (refine Cx.move rfl rfl ?_)
    (refine SegC.gY rfl rfl rfl ?_)
    (refine Cx.move rfl rfl ?_)
    (refine SegC.gY rfl rfl rfl ?_)
    (refine Cx.indexEl rfl rfl (by assumption) rfl rfl ?_)
    (refine SegC.gY rfl rfl rfl ?_)
    (refine Cx.loadPP rfl rfl ?_)
    (refine SegC.gY rfl rfl rfl ?_)
    (refine Cx.move rfl rfl ?_)
    (refine SegC.gY rfl rfl rfl ?_)
    (refine Cx.move rfl rfl ?_)
    (refine SegC.gY rfl rfl rfl ?_)
    (refine Cx.indexEl rfl rfl (by assumption) rfl rfl ?_)
    (refine SegC.gY rfl rfl rfl ?_)
    (refine Cx.loadPP rfl rfl ?_)
    (refine SegC.gY rfl rfl rfl ?_)
    (refine Cx.neqS rfl rfl rfl ?_)
    (refine Cx.pickT rfl (by first | rfl | assumption | (exact decide_eq_true (by first | assumption | omega | rfl)) | (exact decide_eq_false (by first | assumption | omega | rfl)) | (simp; done) | (simp; omega)) rfl rfl ?_)
    (refine SegC.nil ?_)
    (refine N.seq ?_)
    (refine W.cT rfl ?_)
    (refine W.seq ?_)
    (refine W.region ?_)
    (refine Jx.assign rfl rfl ?_)
    (refine J.nil ?_)
    (refine N.seq ?_)
    (refine W.ret ?_)
    (refine N.noGotoRet ?_)
    (refine N.noGotoRet ?_)
    (refine N.noGotoRet ?_)
    (refine N.noGotoRet ?_)
    (refine N.noGotoRet ?_)
    (refine N.noGotoRet ?_)
    (refine N.noGotoRet ?_)
    (refine N.noGotoRet ?_)
    (refine N.noGotoRet ?_)
    (refine id ?_; rotate_left))
            exact N.retD (rs := [.tmp 4]) (L1 := []) rfl (.tmp rfl .nil) (List.nil_sublist _) ⟨⟨true, rfl, fun _ => ⟨i, k, h3, h2, hcl⟩, fun _ => rfl⟩, rfl⟩
        · have hcl : clashB tag l i k = false := by rw [clashB, ← hci, ← hck, decide_eq_false he]; rfl
          focus (
    (refine W.seq ?_)
    (refine W.seq ?_)
    (refine W.region ?_)
    (refine Jx.move rfl rfl ?_)
    (refine Jx.move rfl rfl ?_)
    (refine Jx.lssI rfl rfl rfl ?_)
    (refine J.nil ?_)
    (refine N.seq ?_)
    (refine W.cT rfl ?_)
    (refine W.skip ?_)
    (refine N.seq ?_)
    (refine W.seq ?_)
    (refine W.block ?_)
    (refine W.seq ?_)
    (refine W.draw follows ?_)
    (refine JD.calm rfl (by decide +kernel) ?_)
    (refine Cx.move rfl rfl ?_)
    (refine Cx.move rfl rfl ?_)
    (refine Cx.indexEl rfl rfl (by assumption) rfl rfl ?_)
    (refine Cx.loadPP rfl rfl ?_)
    (refine Cx.move rfl rfl ?_)
    (refine Cx.move rfl rfl ?_)
    (refine Cx.indexEl rfl rfl (by assumption) rfl rfl ?_)
    (refine Cx.loadPP rfl rfl ?_)
    (refine Cx.eqlS rfl rfl rfl ?_)
    (refine Cx.move rfl rfl ?_)
    (refine SegC.gU rfl rfl rfl rfl ?_)
    (refine SegC.gU rfl rfl rfl rfl ?_)
    (refine SegC.gU rfl rfl rfl rfl ?_)
    (refine SegC.gU rfl rfl rfl rfl ?_)
    (refine SegC.gU rfl rfl rfl rfl ?_)
    (refine SegC.gU rfl rfl rfl rfl ?_)
    (refine SegC.gU rfl rfl rfl rfl ?_)
    (refine SegC.gU rfl rfl rfl rfl ?_)
    (refine SegC.gU rfl rfl rfl rfl ?_)
    (refine Cx.pickF rfl (by first | rfl | assumption | (exact decide_eq_true (by first | assumption | omega | rfl)) | (exact decide_eq_false (by first | assumption | omega | rfl)) | (simp; done) | (simp; omega)) rfl rfl ?_)
    (refine SegC.nil ?_)
    (refine N.seq ?_)
    (refine W.cF rfl ?_)
    (refine W.skip ?_)
    (refine N.seq ?_)
    (refine W.region ?_)
    (refine Jx.move rfl rfl ?_)
    (refine Jx.add64 rfl rfl (by omega) rfl ?_)
    (refine Jx.assign rfl rfl ?_)
    (refine J.nil ?_)
    (refine id ?_; rotate_left))
          exact N.round (k + 1) ⟨h3, fun k' h => by rcases Nat.lt_or_ge k' k with h4 | h4; exact hnk k' h4; obtain rfl : k' = k := (by omega); exact hcl⟩ (by omega) rfl ⟨ref0 rfl, ref0 rfl, ref0 rfl, ref0 rfl, trivial⟩
      · focus (
    (refine W.seq ?_)
    (refine W.seq ?_)
    (refine W.region ?_)
    (refine Jx.move rfl rfl ?_)
    (refine Jx.move rfl rfl ?_)
    (refine Jx.lssI rfl rfl rfl ?_)
    (refine J.nil ?_)
    (refine N.seq ?_)
    (refine W.cF rfl ?_)
    (refine W.exit ?_)
    (refine N.seq ?_)
    (refine W.region ?_)
    (refine Jx.move rfl rfl ?_)
    (refine Jx.add64 rfl rfl (by omega) rfl ?_)
    (refine Jx.assign rfl rfl ?_)
    (refine J.nil ?_)
    (refine id ?_; rotate_left))
        exact N.round (i + 1) ⟨h2, fun a k' h4 h5 => by rcases Nat.lt_or_ge a i with h6 | h6; exact hn a k' h4 h6; obtain rfl : a = i := (by omega); exact hnk k' (by omega)⟩ (by omega) rfl ⟨ref0 rfl, ref0 rfl, ref0 rfl, trivial⟩
    · focus (
    (refine W.seq ?_)
    (refine W.seq ?_)
    (refine W.region ?_)
    (refine Jx.move rfl rfl ?_)
    (refine Jx.move rfl rfl ?_)
    (refine Jx.lenSl rfl rfl ?_)
    (refine Jx.lssI rfl rfl rfl ?_)
    (refine J.nil ?_)
    (refine N.seq ?_)
    (refine W.cF rfl ?_)
    (refine W.exit ?_)
    (refine N.seq ?_)
    (refine W.seq ?_)
    (refine W.region ?_)
    (refine Jx.assign rfl rfl ?_)
    (refine J.nil ?_)
    (refine N.seq ?_)
    (refine W.ret ?_)
    (refine id ?_; rotate_left))
      refine N.retD (rs := [.tmp 4]) (L1 := []) rfl (.tmp rfl .nil) (List.nil_sublist _) ⟨⟨false, rfl, ⟨fun h => (by cases h), ?_⟩⟩, rfl⟩
      rintro ⟨a, k, h3, h4, h5⟩
      rw [hn a k h3 (by omega)] at h5; cases h5
theorem unlike2_ok (tag : Nat) (s t : List UInt8) (hs : s.length ≤ 1000000) (ht : t.length ≤ 1000000) : FnC Tryd.prog 20 [int (tag : Int), ssl [s, t]] [] (fun v L => v = bool (decide (sumD tag s = sumD tag t) && decide (s ≠ t)) ∧ L = []) := by
  refine (unlike_ok tag [s, t] (by simp) (by simp [hs, ht])).mono ?_
  rintro v L ⟨⟨r, rfl, hr⟩, rfl⟩
  refine ⟨congrArg Sse.bool ?_, rfl⟩
  rw [Bool.eq_iff_iff, hr]
  simp only [Bool.and_eq_true, decide_eq_true_eq]
  constructor
  · rintro ⟨i, k, h1, h2, h3⟩
    simp only [List.length_cons, List.length_nil] at h2
    obtain rfl : i = 1 := by omega
    obtain rfl : k = 0 := by omega
    simp only [clashB, Bool.and_eq_true, decide_eq_true_eq] at h3
    exact ⟨h3.1.symm, fun h => h3.2 h.symm⟩
  · rintro ⟨h1, h2⟩
    refine ⟨1, 0, by decide, by simp, ?_⟩
    simp only [clashB, Bool.and_eq_true, decide_eq_true_eq]
    exact ⟨h1.symm, fun h => h2 h.symm⟩
theorem fine_dig {b : Bk} (h : ¬ digB b = []) : fineBk b = true := by
  cases hf : fineBk b with
  | true => rfl
  | false => exact absurd (by rw [digB, hf]; rfl) h
theorem digB_sum {b : Bk} (F : FineB b) (hf : fineBk b = true) : digB b = sumD 2 (encHd b.head) := by rw [digB, if_pos hf, digH, if_pos F.head]
set_option maxHeartbeats 8000000 in
theorem blockBinds_ok (a b : Bk) (ha : a.txs.length ≤ 9223372036854775807) (hb : b.txs.length ≤ 9223372036854775807) : FnC Tryd.prog 4 [.agg (bkC a), .agg (bkC b)] [] (fun v L => v = bool true ∧ L = []) := by
  have cba := bbig_ok a ha
  have cbb := bbig_ok b hb
  have cw := bworks_ok
  refine FnC.intro Tryd.func4 rfl Tryd.ntmps4 rfl fun Z w0 hG => ?_
  cases h1 : bigBk a with
  | true =>
    rw [h1] at cba
    focus (
    (refine W.seq ?_)
    (refine W.region ?_)
    (refine J.boxAg rfl rfl ?_; intro b')
    (refine J.boxAg rfl rfl ?_; intro b')
    (refine Jx.assign rfl rfl ?_)
    (refine J.nil ?_)
    (refine N.seq ?_)
    (refine W.seq ?_)
    (refine W.seq ?_)
    (refine W.region ?_)
    (refine J.call (cw) rfl (evs_args rfl) rfl ?_; rintro _ _ ⟨rfl, rfl⟩; simp only [List.cons_append, List.nil_append, List.append_nil])
    (refine Jx.not rfl rfl ?_)
    (refine J.nil ?_)
    (refine N.seq ?_)
    (refine W.cF rfl ?_)
    (refine W.skip ?_)
    (refine N.seq ?_)
    (refine W.seq ?_)
    (refine W.seq ?_)
    (refine W.draw follows ?_)
    (refine JD.calm rfl (by decide +kernel) ?_)
    (refine Cx.loadAll rfl 1 rfl rfl rfl ?_)
    (refine SegC.q (Qs.call (Lc := []) (cba) (fun s L' h => h) (List.Perm.refl _) (evs_args rfl)) rfl ?_)
    (refine Cx.move rfl rfl ?_)
    (refine SegC.gU rfl rfl rfl rfl ?_)
    (refine SegC.gU rfl rfl rfl rfl ?_)
    (refine Cx.pickT rfl (by first | rfl | assumption | (exact decide_eq_true (by first | assumption | omega | rfl)) | (exact decide_eq_false (by first | assumption | omega | rfl)) | (simp; done) | (simp; omega)) rfl rfl ?_)
    (refine Cx.move rfl rfl ?_)
    (refine SegC.gU rfl rfl rfl rfl ?_)
    (refine SegC.gU rfl rfl rfl rfl ?_)
    (refine SegC.gU rfl rfl rfl rfl ?_)
    (refine Cx.pickT rfl (by first | rfl | assumption | (exact decide_eq_true (by first | assumption | omega | rfl)) | (exact decide_eq_false (by first | assumption | omega | rfl)) | (simp; done) | (simp; omega)) rfl rfl ?_)
    (refine Cx.move rfl rfl ?_)
    (refine SegC.gU rfl rfl rfl rfl ?_)
    (refine SegC.gU rfl rfl rfl rfl ?_)
    (refine SegC.gU rfl rfl rfl rfl ?_)
    (refine SegC.gU rfl rfl rfl rfl ?_)
    (refine SegC.gU rfl rfl rfl rfl ?_)
    (refine Cx.pickT rfl (by first | rfl | assumption | (exact decide_eq_true (by first | assumption | omega | rfl)) | (exact decide_eq_false (by first | assumption | omega | rfl)) | (simp; done) | (simp; omega)) rfl rfl ?_)
    (refine SegC.nil ?_)
    (refine N.seq ?_)
    (refine W.cT rfl ?_)
    (refine W.seq ?_)
    (refine W.region ?_)
    (refine Jx.assign rfl rfl ?_)
    (refine J.nil ?_)
    (refine N.seq ?_)
    (refine W.ret ?_)
    (refine N.noGotoRet ?_)
    (refine id ?_; rotate_left))
    exact N.retD (rs := [.tmp 4]) (L1 := []) rfl (.tmp rfl .nil) (List.nil_sublist _) ⟨rfl, rfl⟩
  | false =>
    rw [h1] at cba
    obtain ⟨m1, m2, m3, m4⟩ := bigBk_no h1
    cases h2 : bigBk b with
    | true =>
      rw [h2] at cbb
      focus (
    (refine W.seq ?_)
    (refine W.region ?_)
    (refine J.boxAg rfl rfl ?_; intro b')
    (refine J.boxAg rfl rfl ?_; intro b')
    (refine Jx.assign rfl rfl ?_)
    (refine J.nil ?_)
    (refine N.seq ?_)
    (refine W.seq ?_)
    (refine W.seq ?_)
    (refine W.region ?_)
    (refine J.call (cw) rfl (evs_args rfl) rfl ?_; rintro _ _ ⟨rfl, rfl⟩; simp only [List.cons_append, List.nil_append, List.append_nil])
    (refine Jx.not rfl rfl ?_)
    (refine J.nil ?_)
    (refine N.seq ?_)
    (refine W.cF rfl ?_)
    (refine W.skip ?_)
    (refine N.seq ?_)
    (refine W.seq ?_)
    (refine W.seq ?_)
    (refine W.draw follows ?_)
    (refine JD.calm rfl (by decide +kernel) ?_)
    (refine Cx.loadAll rfl 1 rfl rfl rfl ?_)
    (refine SegC.q (Qs.call (Lc := []) (cba) (fun s L' h => h) (List.Perm.refl _) (evs_args rfl)) rfl ?_)
    (refine Cx.move rfl rfl ?_)
    (refine SegC.gY rfl rfl rfl ?_)
    (refine Cx.loadAll rfl 0 rfl rfl rfl ?_)
    (refine SegC.gY rfl rfl rfl ?_)
    (refine SegC.q (Qs.call (Lc := []) (cbb) (fun s L' h => h) (List.Perm.refl _) (evs_args rfl)) rfl ?_)
    (refine Cx.pickF rfl (by first | rfl | assumption | (exact decide_eq_true (by first | assumption | omega | rfl)) | (exact decide_eq_false (by first | assumption | omega | rfl)) | (simp; done) | (simp; omega)) rfl rfl ?_)
    (refine Cx.move rfl rfl ?_)
    (refine SegC.gU rfl rfl rfl rfl ?_)
    (refine SegC.gU rfl rfl rfl rfl ?_)
    (refine SegC.gU rfl rfl rfl rfl ?_)
    (refine Cx.pickT rfl (by first | rfl | assumption | (exact decide_eq_true (by first | assumption | omega | rfl)) | (exact decide_eq_false (by first | assumption | omega | rfl)) | (simp; done) | (simp; omega)) rfl rfl ?_)
    (refine Cx.move rfl rfl ?_)
    (refine SegC.gU rfl rfl rfl rfl ?_)
    (refine SegC.gU rfl rfl rfl rfl ?_)
    (refine SegC.gU rfl rfl rfl rfl ?_)
    (refine SegC.gU rfl rfl rfl rfl ?_)
    (refine SegC.gU rfl rfl rfl rfl ?_)
    (refine Cx.pickT rfl (by first | rfl | assumption | (exact decide_eq_true (by first | assumption | omega | rfl)) | (exact decide_eq_false (by first | assumption | omega | rfl)) | (simp; done) | (simp; omega)) rfl rfl ?_)
    (refine SegC.nil ?_)
    (refine N.seq ?_)
    (refine W.cT rfl ?_)
    (refine W.seq ?_)
    (refine W.region ?_)
    (refine Jx.assign rfl rfl ?_)
    (refine J.nil ?_)
    (refine N.seq ?_)
    (refine W.ret ?_)
    (refine N.noGotoRet ?_)
    (refine id ?_; rotate_left))
      exact N.retD (rs := [.tmp 4]) (L1 := []) rfl (.tmp rfl .nil) (List.nil_sublist _) ⟨rfl, rfl⟩
    | false =>
      rw [h2] at cbb
      obtain ⟨n1, n2, n3, n4⟩ := bigBk_no h2
      have da := bdigest_ok a (by omega)
      have db := bdigest_ok b (by omega)
      by_cases hda : digB a = []
      · focus (
    (refine W.seq ?_)
    (refine W.region ?_)
    (refine J.boxAg rfl rfl ?_; intro b')
    (refine J.boxAg rfl rfl ?_; intro b')
    (refine Jx.assign rfl rfl ?_)
    (refine J.nil ?_)
    (refine N.seq ?_)
    (refine W.seq ?_)
    (refine W.seq ?_)
    (refine W.region ?_)
    (refine J.call (cw) rfl (evs_args rfl) rfl ?_; rintro _ _ ⟨rfl, rfl⟩; simp only [List.cons_append, List.nil_append, List.append_nil])
    (refine Jx.not rfl rfl ?_)
    (refine J.nil ?_)
    (refine N.seq ?_)
    (refine W.cF rfl ?_)
    (refine W.skip ?_)
    (refine N.seq ?_)
    (refine W.seq ?_)
    (refine W.seq ?_)
    (refine W.draw follows ?_)
    (refine JD.calm rfl (by decide +kernel) ?_)
    (refine Cx.loadAll rfl 1 rfl rfl rfl ?_)
    (refine SegC.q (Qs.call (Lc := []) (cba) (fun s L' h => h) (List.Perm.refl _) (evs_args rfl)) rfl ?_)
    (refine Cx.move rfl rfl ?_)
    (refine SegC.gY rfl rfl rfl ?_)
    (refine Cx.loadAll rfl 0 rfl rfl rfl ?_)
    (refine SegC.gY rfl rfl rfl ?_)
    (refine SegC.q (Qs.call (Lc := []) (cbb) (fun s L' h => h) (List.Perm.refl _) (evs_args rfl)) rfl ?_)
    (refine Cx.pickF rfl (by first | rfl | assumption | (exact decide_eq_true (by first | assumption | omega | rfl)) | (exact decide_eq_false (by first | assumption | omega | rfl)) | (simp; done) | (simp; omega)) rfl rfl ?_)
    (refine Cx.move rfl rfl ?_)
    (refine SegC.gY rfl rfl rfl ?_)
    (refine Cx.loadAll rfl 1 rfl rfl rfl ?_)
    (refine SegC.gY rfl rfl rfl ?_)
    (refine SegC.q (Qs.call (Lc := []) (da) (fun s L' h => h) (List.Perm.refl _) (evs_args rfl)) rfl ?_)
    (refine SegC.gY rfl rfl rfl ?_)
    (refine Cx.eqlS rfl rfl rfl ?_)
    (refine Cx.pickF rfl (by first | rfl | assumption | (exact decide_eq_true (by first | assumption | omega | rfl)) | (exact decide_eq_false (by first | assumption | omega | rfl)) | (simp; done) | (simp; omega)) rfl rfl ?_)
    (refine Cx.move rfl rfl ?_)
    (refine SegC.gU rfl rfl rfl rfl ?_)
    (refine SegC.gU rfl rfl rfl rfl ?_)
    (refine SegC.gU rfl rfl rfl rfl ?_)
    (refine SegC.gU rfl rfl rfl rfl ?_)
    (refine SegC.gU rfl rfl rfl rfl ?_)
    (refine Cx.pickT rfl (by first | rfl | assumption | (exact decide_eq_true (by first | assumption | omega | rfl)) | (exact decide_eq_false (by first | assumption | omega | rfl)) | (simp; done) | (simp; omega)) rfl rfl ?_)
    (refine SegC.nil ?_)
    (refine N.seq ?_)
    (refine W.cT rfl ?_)
    (refine W.seq ?_)
    (refine W.region ?_)
    (refine Jx.assign rfl rfl ?_)
    (refine J.nil ?_)
    (refine N.seq ?_)
    (refine W.ret ?_)
    (refine N.noGotoRet ?_)
    (refine id ?_; rotate_left))
        exact N.retD (rs := [.tmp 4]) (L1 := []) rfl (.tmp rfl .nil) (List.nil_sublist _) ⟨rfl, rfl⟩
      · by_cases hab : digB a = digB b
        · have hne : ¬ digB a ≠ digB b := fun h => h hab
          have hfa := fine_dig hda
          have hfb := fine_dig (b := b) (by rw [← hab]; exact hda)
          have Fa := (fineBk_iff _).1 hfa
          have Fb := (fineBk_iff _).1 hfb
          have hsum : sumD 2 (encHd a.head) = sumD 2 (encHd b.head) := by rw [← digB_sum Fa hfa, ← digB_sum Fb hfb, hab]
          have s1 := sameH_ok a.head b.head (by omega)
          have s2 := sameTs_ok a.txs b.txs (by omega) (fun t ht => by have := m3 t ht; omega)
          have e1 := hencode_ok a.head (by omega)
          have e2 := hencode_ok b.head (by omega)
          have e3 := tencAll_ok a.txs
          have e4 := tencAll_ok b.txs
          rw [encO, Fa.head, if_pos rfl] at e1
          rw [encO, Fb.head, if_pos rfl] at e2
          rw [encO, Fa.txs, if_pos rfl] at e3
          rw [encO, Fb.txs, if_pos rfl] at e4
          have l1 := encHd_len ((fineHd_iff _).1 Fa.head)
          have l2 := encHd_len ((fineHd_iff _).1 Fb.head)
          have l3 := encAll_len Fa.txs
          have l4 := encAll_len Fb.txs
          have u1 := unlike2_ok 2 (encHd a.head) (encHd b.head) (by omega) (by omega)
          have u2 := unlike2_ok 3 (encAll a.txs) (encAll b.txs) (by omega) (by omega)
          by_cases hh : a.head = b.head
          · rw [decide_eq_true hh] at s1
            by_cases ht : a.txs = b.txs
            · rw [decide_eq_true ht] at s2
              generalize digB a = ga at *
              generalize digB b = gb at *
              focus (
    (refine W.seq ?_)
    (refine W.region ?_)
    (refine J.boxAg rfl rfl ?_; intro b')
    (refine J.boxAg rfl rfl ?_; intro b')
    (refine Jx.assign rfl rfl ?_)
    (refine J.nil ?_)
    (refine N.seq ?_)
    (refine W.seq ?_)
    (refine W.seq ?_)
    (refine W.region ?_)
    (refine J.call (cw) rfl (evs_args rfl) rfl ?_; rintro _ _ ⟨rfl, rfl⟩; simp only [List.cons_append, List.nil_append, List.append_nil])
    (refine Jx.not rfl rfl ?_)
    (refine J.nil ?_)
    (refine N.seq ?_)
    (refine W.cF rfl ?_)
    (refine W.skip ?_)
    (refine N.seq ?_)
    (refine W.seq ?_)
    (refine W.seq ?_)
    (refine W.draw follows ?_)
    (refine JD.calm rfl (by decide +kernel) ?_)
    (refine Cx.loadAll rfl 1 rfl rfl rfl ?_)
    (refine SegC.q (Qs.call (Lc := []) (cba) (fun s L' h => h) (List.Perm.refl _) (evs_args rfl)) rfl ?_)
    (refine Cx.move rfl rfl ?_)
    (refine SegC.gY rfl rfl rfl ?_)
    (refine Cx.loadAll rfl 0 rfl rfl rfl ?_)
    (refine SegC.gY rfl rfl rfl ?_)
    (refine SegC.q (Qs.call (Lc := []) (cbb) (fun s L' h => h) (List.Perm.refl _) (evs_args rfl)) rfl ?_)
    (refine Cx.pickF rfl (by first | rfl | assumption | (exact decide_eq_true (by first | assumption | omega | rfl)) | (exact decide_eq_false (by first | assumption | omega | rfl)) | (simp; done) | (simp; omega)) rfl rfl ?_)
    (refine Cx.move rfl rfl ?_)
    (refine SegC.gY rfl rfl rfl ?_)
    (refine Cx.loadAll rfl 1 rfl rfl rfl ?_)
    (refine SegC.gY rfl rfl rfl ?_)
    (refine SegC.q (Qs.call (Lc := []) (da) (fun s L' h => h) (List.Perm.refl _) (evs_args rfl)) rfl ?_)
    (refine SegC.gY rfl rfl rfl ?_)
    (refine Cx.eqlS rfl rfl rfl ?_)
    (refine Cx.pickF rfl (by first | rfl | assumption | (exact decide_eq_true (by first | assumption | omega | rfl)) | (exact decide_eq_false (by first | assumption | omega | rfl)) | (simp; done) | (simp; omega)) rfl rfl ?_)
    (refine Cx.move rfl rfl ?_)
    (refine SegC.gY rfl rfl rfl ?_)
    (refine Cx.loadAll rfl 1 rfl rfl rfl ?_)
    (refine SegC.gY rfl rfl rfl ?_)
    (refine SegC.q (Qs.call (Lc := []) (da) (fun s L' h => h) (List.Perm.refl _) (evs_args rfl)) rfl ?_)
    (refine SegC.gY rfl rfl rfl ?_)
    (refine Cx.loadAll rfl 0 rfl rfl rfl ?_)
    (refine SegC.gY rfl rfl rfl ?_)
    (refine SegC.q (Qs.call (Lc := []) (db) (fun s L' h => h) (List.Perm.refl _) (evs_args rfl)) rfl ?_)
    (refine SegC.gY rfl rfl rfl ?_)
    (refine Cx.neqS rfl rfl rfl ?_)
    (refine Cx.pickF rfl (by first | rfl | assumption | (exact decide_eq_true (by first | assumption | omega | rfl)) | (exact decide_eq_false (by first | assumption | omega | rfl)) | (simp; done) | (simp; omega)) rfl rfl ?_)
    (refine SegC.nil ?_)
    (refine N.seq ?_)
    (refine W.cF rfl ?_)
    (refine W.skip ?_)
    (refine N.seq ?_)
    (refine W.seq ?_)
    (refine W.seq ?_)
    (refine W.region ?_)
    (refine Jx.fieldAddr rfl rfl ?_)
    (refine Jx.loadAg rfl 1 rfl rfl rfl rfl ?_)
    (refine Jx.fieldAddr rfl rfl ?_)
    (refine Jx.loadAg rfl 0 rfl rfl rfl rfl ?_)
    (refine J.call (s1) rfl (evs_args rfl) rfl ?_; rintro _ _ ⟨rfl, rfl⟩; simp only [List.cons_append, List.nil_append, List.append_nil])
    (refine Jx.move rfl rfl ?_)
    (refine J.gY rfl rfl rfl ?_)
    (refine Jx.fieldAddr rfl rfl ?_)
    (refine J.gY rfl rfl rfl ?_)
    (refine Jx.load rfl 1 rfl rfl rfl ?_)
    (refine J.gY rfl rfl rfl ?_)
    (refine Jx.fieldAddr rfl rfl ?_)
    (refine J.gY rfl rfl rfl ?_)
    (refine Jx.load rfl 0 rfl rfl rfl ?_)
    (refine J.gY rfl rfl rfl ?_)
    (refine J.call (s2) rfl (evs_args rfl) rfl ?_; rintro _ _ ⟨rfl, rfl⟩; simp only [List.cons_append, List.nil_append, List.append_nil])
    (refine Jx.pT rfl rfl rfl ?_)
    (refine J.nil ?_)
    (refine N.seq ?_)
    (refine W.cT rfl ?_)
    (refine W.seq ?_)
    (refine W.region ?_)
    (refine Jx.assign rfl rfl ?_)
    (refine J.nil ?_)
    (refine N.seq ?_)
    (refine W.ret ?_)
    (refine N.noGotoRet ?_)
    (refine id ?_; rotate_left))
              exact N.retD (rs := [.tmp 4]) (L1 := []) rfl (.tmp rfl .nil) (List.nil_sublist _) ⟨rfl, rfl⟩
            · rw [decide_eq_false ht] at s2
              have k1 : (decide (sumD 2 (encHd a.head) = sumD 2 (encHd b.head)) && decide (encHd a.head ≠ encHd b.head)) = false := by rw [hh]; simp
              have k2 : (decide (sumD 3 (encAll a.txs) = sumD 3 (encAll b.txs)) && decide (encAll a.txs ≠ encAll b.txs)) = true := by
                have r1 := Fa.root; have r2 := Fb.root
                rw [rootT, if_pos Fa.txs] at r1
                rw [rootT, if_pos Fb.txs] at r2
                rw [Bool.and_eq_true, decide_eq_true_eq, decide_eq_true_eq]
                exact ⟨by rw [r1, r2, hh], fun h => ht (apAll.ap _ _ [] [] Fa.txs Fb.txs (by rw [h])).1⟩
              rw [k1] at u1
              rw [k2] at u2
              clear k1 k2 hsum
              generalize digB a = ga at *
              generalize digB b = gb at *
              generalize encHd a.head = ea at *
              generalize encHd b.head = eb at *
              generalize encAll a.txs = ta at *
              generalize encAll b.txs = tb at *
              focus (
    (refine W.seq ?_)
    (refine W.region ?_)
    (refine J.boxAg rfl rfl ?_; intro b')
    (refine J.boxAg rfl rfl ?_; intro b')
    (refine Jx.assign rfl rfl ?_)
    (refine J.nil ?_)
    (refine N.seq ?_)
    (refine W.seq ?_)
    (refine W.seq ?_)
    (refine W.region ?_)
    (refine J.call (cw) rfl (evs_args rfl) rfl ?_; rintro _ _ ⟨rfl, rfl⟩; simp only [List.cons_append, List.nil_append, List.append_nil])
    (refine Jx.not rfl rfl ?_)
    (refine J.nil ?_)
    (refine N.seq ?_)
    (refine W.cF rfl ?_)
    (refine W.skip ?_)
    (refine N.seq ?_)
    (refine W.seq ?_)
    (refine W.seq ?_)
    (refine W.draw follows ?_)
    (refine JD.calm rfl (by decide +kernel) ?_)
    (refine Cx.loadAll rfl 1 rfl rfl rfl ?_)
    (refine SegC.q (Qs.call (Lc := []) (cba) (fun s L' h => h) (List.Perm.refl _) (evs_args rfl)) rfl ?_)
    (refine Cx.move rfl rfl ?_)
    (refine SegC.gY rfl rfl rfl ?_)
    (refine Cx.loadAll rfl 0 rfl rfl rfl ?_)
    (refine SegC.gY rfl rfl rfl ?_)
    (refine SegC.q (Qs.call (Lc := []) (cbb) (fun s L' h => h) (List.Perm.refl _) (evs_args rfl)) rfl ?_)
    (refine Cx.pickF rfl (by first | rfl | assumption | (exact decide_eq_true (by first | assumption | omega | rfl)) | (exact decide_eq_false (by first | assumption | omega | rfl)) | (simp; done) | (simp; omega)) rfl rfl ?_)
    (refine Cx.move rfl rfl ?_)
    (refine SegC.gY rfl rfl rfl ?_)
    (refine Cx.loadAll rfl 1 rfl rfl rfl ?_)
    (refine SegC.gY rfl rfl rfl ?_)
    (refine SegC.q (Qs.call (Lc := []) (da) (fun s L' h => h) (List.Perm.refl _) (evs_args rfl)) rfl ?_)
    (refine SegC.gY rfl rfl rfl ?_)
    (refine Cx.eqlS rfl rfl rfl ?_)
    (refine Cx.pickF rfl (by first | rfl | assumption | (exact decide_eq_true (by first | assumption | omega | rfl)) | (exact decide_eq_false (by first | assumption | omega | rfl)) | (simp; done) | (simp; omega)) rfl rfl ?_)
    (refine Cx.move rfl rfl ?_)
    (refine SegC.gY rfl rfl rfl ?_)
    (refine Cx.loadAll rfl 1 rfl rfl rfl ?_)
    (refine SegC.gY rfl rfl rfl ?_)
    (refine SegC.q (Qs.call (Lc := []) (da) (fun s L' h => h) (List.Perm.refl _) (evs_args rfl)) rfl ?_)
    (refine SegC.gY rfl rfl rfl ?_)
    (refine Cx.loadAll rfl 0 rfl rfl rfl ?_)
    (refine SegC.gY rfl rfl rfl ?_)
    (refine SegC.q (Qs.call (Lc := []) (db) (fun s L' h => h) (List.Perm.refl _) (evs_args rfl)) rfl ?_)
    (refine SegC.gY rfl rfl rfl ?_)
    (refine Cx.neqS rfl rfl rfl ?_)
    (refine Cx.pickF rfl (by first | rfl | assumption | (exact decide_eq_true (by first | assumption | omega | rfl)) | (exact decide_eq_false (by first | assumption | omega | rfl)) | (simp; done) | (simp; omega)) rfl rfl ?_)
    (refine SegC.nil ?_)
    (refine N.seq ?_)
    (refine W.cF rfl ?_)
    (refine W.skip ?_)
    (refine N.seq ?_)
    (refine W.seq ?_)
    (refine W.seq ?_)
    (refine W.region ?_)
    (refine Jx.fieldAddr rfl rfl ?_)
    (refine Jx.loadAg rfl 1 rfl rfl rfl rfl ?_)
    (refine Jx.fieldAddr rfl rfl ?_)
    (refine Jx.loadAg rfl 0 rfl rfl rfl rfl ?_)
    (refine J.call (s1) rfl (evs_args rfl) rfl ?_; rintro _ _ ⟨rfl, rfl⟩; simp only [List.cons_append, List.nil_append, List.append_nil])
    (refine Jx.move rfl rfl ?_)
    (refine J.gY rfl rfl rfl ?_)
    (refine Jx.fieldAddr rfl rfl ?_)
    (refine J.gY rfl rfl rfl ?_)
    (refine Jx.load rfl 1 rfl rfl rfl ?_)
    (refine J.gY rfl rfl rfl ?_)
    (refine Jx.fieldAddr rfl rfl ?_)
    (refine J.gY rfl rfl rfl ?_)
    (refine Jx.load rfl 0 rfl rfl rfl ?_)
    (refine J.gY rfl rfl rfl ?_)
    (refine J.call (s2) rfl (evs_args rfl) rfl ?_; rintro _ _ ⟨rfl, rfl⟩; simp only [List.cons_append, List.nil_append, List.append_nil])
    (refine Jx.pT rfl rfl rfl ?_)
    (refine J.nil ?_)
    (refine N.seq ?_)
    (refine W.cF rfl ?_)
    (refine W.skip ?_)
    (refine N.seq ?_)
    (refine W.seq ?_)
    (refine W.region ?_)
    (refine Jx.fieldAddr rfl rfl ?_)
    (refine Jx.loadAg rfl 1 rfl rfl rfl rfl ?_)
    (refine J.call (e1) rfl (evs_args rfl) rfl ?_; rintro _ _ ⟨rfl, rfl⟩; simp only [List.cons_append, List.nil_append, List.append_nil])
    (refine Jx.move rfl rfl ?_)
    (refine Jx.extract rfl rfl rfl ?_)
    (refine Jx.extract rfl rfl rfl ?_)
    (refine Jx.assign rfl rfl ?_)
    (refine Jx.assign rfl rfl ?_)
    (refine J.nil ?_)
    (refine N.seq ?_)
    (refine W.seq ?_)
    (refine W.region ?_)
    (refine Jx.fieldAddr rfl rfl ?_)
    (refine Jx.loadAg rfl 0 rfl rfl rfl rfl ?_)
    (refine J.call (e2) rfl (evs_args rfl) rfl ?_; rintro _ _ ⟨rfl, rfl⟩; simp only [List.cons_append, List.nil_append, List.append_nil])
    (refine Jx.move rfl rfl ?_)
    (refine Jx.extract rfl rfl rfl ?_)
    (refine Jx.extract rfl rfl rfl ?_)
    (refine Jx.assign rfl rfl ?_)
    (refine Jx.assign rfl rfl ?_)
    (refine J.nil ?_)
    (refine N.seq ?_)
    (refine W.seq ?_)
    (refine W.region ?_)
    (refine Jx.fieldAddr rfl rfl ?_)
    (refine Jx.load rfl 1 rfl rfl rfl ?_)
    (refine J.call (e3) rfl (evs_args rfl) rfl ?_; rintro _ _ ⟨rfl, rfl⟩; simp only [List.cons_append, List.nil_append, List.append_nil])
    (refine Jx.move rfl rfl ?_)
    (refine Jx.extract rfl rfl rfl ?_)
    (refine Jx.extract rfl rfl rfl ?_)
    (refine Jx.assign rfl rfl ?_)
    (refine Jx.assign rfl rfl ?_)
    (refine J.nil ?_)
    (refine N.seq ?_)
    (refine W.seq ?_)
    (refine W.region ?_)
    (refine Jx.fieldAddr rfl rfl ?_)
    (refine Jx.load rfl 0 rfl rfl rfl ?_)
    (refine J.call (e4) rfl (evs_args rfl) rfl ?_; rintro _ _ ⟨rfl, rfl⟩; simp only [List.cons_append, List.nil_append, List.append_nil])
    (refine Jx.move rfl rfl ?_)
    (refine Jx.extract rfl rfl rfl ?_)
    (refine Jx.extract rfl rfl rfl ?_)
    (refine Jx.assign rfl rfl ?_)
    (refine Jx.assign rfl rfl ?_)
    (refine J.nil ?_)
    (refine N.seq ?_)
    (refine W.seq ?_)
    (refine W.region ?_)
    (refine Jx.move rfl rfl ?_)
    (refine Jx.move rfl rfl ?_)
    (refine J.qs (Qs.buildTexts [ea, eb] rfl rfl rfl (by decide) (by decide)) rfl ?_)
    (refine J.call (u1) rfl (evs_args rfl) rfl ?_; rintro _ _ ⟨rfl, rfl⟩; simp only [List.cons_append, List.nil_append, List.append_nil])
    (refine Jx.move rfl rfl ?_)
    (refine J.gY rfl rfl rfl ?_)
    (refine Jx.move rfl rfl ?_)
    (refine J.gY rfl rfl rfl ?_)
    (refine Jx.move rfl rfl ?_)
    (refine J.gY rfl rfl rfl ?_)
    (refine J.qs (Qs.buildTexts [ta, tb] rfl rfl rfl (by decide) (by decide)) rfl ?_)
    (refine J.gY rfl rfl rfl ?_)
    (refine J.call (u2) rfl (evs_args rfl) rfl ?_; rintro _ _ ⟨rfl, rfl⟩; simp only [List.cons_append, List.nil_append, List.append_nil])
    (refine Jx.pF rfl rfl rfl ?_)
    (refine Jx.assign rfl rfl ?_)
    (refine J.nil ?_)
    (refine N.seq ?_)
    (refine W.ret ?_)
    (refine id ?_; rotate_left))
              exact N.retD (rs := [.tmp 4]) (L1 := []) rfl (.tmp rfl .nil) (List.nil_sublist _) ⟨rfl, rfl⟩
          · rw [decide_eq_false hh] at s1
            have k1 : (decide (sumD 2 (encHd a.head) = sumD 2 (encHd b.head)) && decide (encHd a.head ≠ encHd b.head)) = true := by
              rw [Bool.and_eq_true, decide_eq_true_eq, decide_eq_true_eq]
              exact ⟨hsum, fun h => hh (apHd.ap _ _ [] [] Fa.head Fb.head (by rw [h])).1⟩
            rw [k1] at u1
            clear k1 hsum u2
            generalize digB a = ga at *
            generalize digB b = gb at *
            generalize encHd a.head = ea at *
            generalize encHd b.head = eb at *
            generalize encAll a.txs = ta at *
            generalize encAll b.txs = tb at *
            focus (
    (refine W.seq ?_)
    (refine W.region ?_)
    (refine J.boxAg rfl rfl ?_; intro b')
    (refine J.boxAg rfl rfl ?_; intro b')
    (refine Jx.assign rfl rfl ?_)
    (refine J.nil ?_)
    (refine N.seq ?_)
    (refine W.seq ?_)
    (refine W.seq ?_)
    (refine W.region ?_)
    (refine J.call (cw) rfl (evs_args rfl) rfl ?_; rintro _ _ ⟨rfl, rfl⟩; simp only [List.cons_append, List.nil_append, List.append_nil])
    (refine Jx.not rfl rfl ?_)
    (refine J.nil ?_)
    (refine N.seq ?_)
    (refine W.cF rfl ?_)
    (refine W.skip ?_)
    (refine N.seq ?_)
    (refine W.seq ?_)
    (refine W.seq ?_)
    (refine W.draw follows ?_)
    (refine JD.calm rfl (by decide +kernel) ?_)
    (refine Cx.loadAll rfl 1 rfl rfl rfl ?_)
    (refine SegC.q (Qs.call (Lc := []) (cba) (fun s L' h => h) (List.Perm.refl _) (evs_args rfl)) rfl ?_)
    (refine Cx.move rfl rfl ?_)
    (refine SegC.gY rfl rfl rfl ?_)
    (refine Cx.loadAll rfl 0 rfl rfl rfl ?_)
    (refine SegC.gY rfl rfl rfl ?_)
    (refine SegC.q (Qs.call (Lc := []) (cbb) (fun s L' h => h) (List.Perm.refl _) (evs_args rfl)) rfl ?_)
    (refine Cx.pickF rfl (by first | rfl | assumption | (exact decide_eq_true (by first | assumption | omega | rfl)) | (exact decide_eq_false (by first | assumption | omega | rfl)) | (simp; done) | (simp; omega)) rfl rfl ?_)
    (refine Cx.move rfl rfl ?_)
    (refine SegC.gY rfl rfl rfl ?_)
    (refine Cx.loadAll rfl 1 rfl rfl rfl ?_)
    (refine SegC.gY rfl rfl rfl ?_)
    (refine SegC.q (Qs.call (Lc := []) (da) (fun s L' h => h) (List.Perm.refl _) (evs_args rfl)) rfl ?_)
    (refine SegC.gY rfl rfl rfl ?_)
    (refine Cx.eqlS rfl rfl rfl ?_)
    (refine Cx.pickF rfl (by first | rfl | assumption | (exact decide_eq_true (by first | assumption | omega | rfl)) | (exact decide_eq_false (by first | assumption | omega | rfl)) | (simp; done) | (simp; omega)) rfl rfl ?_)
    (refine Cx.move rfl rfl ?_)
    (refine SegC.gY rfl rfl rfl ?_)
    (refine Cx.loadAll rfl 1 rfl rfl rfl ?_)
    (refine SegC.gY rfl rfl rfl ?_)
    (refine SegC.q (Qs.call (Lc := []) (da) (fun s L' h => h) (List.Perm.refl _) (evs_args rfl)) rfl ?_)
    (refine SegC.gY rfl rfl rfl ?_)
    (refine Cx.loadAll rfl 0 rfl rfl rfl ?_)
    (refine SegC.gY rfl rfl rfl ?_)
    (refine SegC.q (Qs.call (Lc := []) (db) (fun s L' h => h) (List.Perm.refl _) (evs_args rfl)) rfl ?_)
    (refine SegC.gY rfl rfl rfl ?_)
    (refine Cx.neqS rfl rfl rfl ?_)
    (refine Cx.pickF rfl (by first | rfl | assumption | (exact decide_eq_true (by first | assumption | omega | rfl)) | (exact decide_eq_false (by first | assumption | omega | rfl)) | (simp; done) | (simp; omega)) rfl rfl ?_)
    (refine SegC.nil ?_)
    (refine N.seq ?_)
    (refine W.cF rfl ?_)
    (refine W.skip ?_)
    (refine N.seq ?_)
    (refine W.seq ?_)
    (refine W.seq ?_)
    (refine W.region ?_)
    (refine Jx.fieldAddr rfl rfl ?_)
    (refine Jx.loadAg rfl 1 rfl rfl rfl rfl ?_)
    (refine Jx.fieldAddr rfl rfl ?_)
    (refine Jx.loadAg rfl 0 rfl rfl rfl rfl ?_)
    (refine J.call (s1) rfl (evs_args rfl) rfl ?_; rintro _ _ ⟨rfl, rfl⟩; simp only [List.cons_append, List.nil_append, List.append_nil])
    (refine Jx.move rfl rfl ?_)
    (refine J.gN rfl rfl rfl rfl ?_)
    (refine J.gN rfl rfl rfl rfl ?_)
    (refine J.gN rfl rfl rfl rfl ?_)
    (refine J.gN rfl rfl rfl rfl ?_)
    (refine J.gN rfl rfl rfl rfl ?_)
    (refine Jx.pF rfl rfl rfl ?_)
    (refine J.nil ?_)
    (refine N.seq ?_)
    (refine W.cF rfl ?_)
    (refine W.skip ?_)
    (refine N.seq ?_)
    (refine W.seq ?_)
    (refine W.region ?_)
    (refine Jx.fieldAddr rfl rfl ?_)
    (refine Jx.loadAg rfl 1 rfl rfl rfl rfl ?_)
    (refine J.call (e1) rfl (evs_args rfl) rfl ?_; rintro _ _ ⟨rfl, rfl⟩; simp only [List.cons_append, List.nil_append, List.append_nil])
    (refine Jx.move rfl rfl ?_)
    (refine Jx.extract rfl rfl rfl ?_)
    (refine Jx.extract rfl rfl rfl ?_)
    (refine Jx.assign rfl rfl ?_)
    (refine Jx.assign rfl rfl ?_)
    (refine J.nil ?_)
    (refine N.seq ?_)
    (refine W.seq ?_)
    (refine W.region ?_)
    (refine Jx.fieldAddr rfl rfl ?_)
    (refine Jx.loadAg rfl 0 rfl rfl rfl rfl ?_)
    (refine J.call (e2) rfl (evs_args rfl) rfl ?_; rintro _ _ ⟨rfl, rfl⟩; simp only [List.cons_append, List.nil_append, List.append_nil])
    (refine Jx.move rfl rfl ?_)
    (refine Jx.extract rfl rfl rfl ?_)
    (refine Jx.extract rfl rfl rfl ?_)
    (refine Jx.assign rfl rfl ?_)
    (refine Jx.assign rfl rfl ?_)
    (refine J.nil ?_)
    (refine N.seq ?_)
    (refine W.seq ?_)
    (refine W.region ?_)
    (refine Jx.fieldAddr rfl rfl ?_)
    (refine Jx.load rfl 1 rfl rfl rfl ?_)
    (refine J.call (e3) rfl (evs_args rfl) rfl ?_; rintro _ _ ⟨rfl, rfl⟩; simp only [List.cons_append, List.nil_append, List.append_nil])
    (refine Jx.move rfl rfl ?_)
    (refine Jx.extract rfl rfl rfl ?_)
    (refine Jx.extract rfl rfl rfl ?_)
    (refine Jx.assign rfl rfl ?_)
    (refine Jx.assign rfl rfl ?_)
    (refine J.nil ?_)
    (refine N.seq ?_)
    (refine W.seq ?_)
    (refine W.region ?_)
    (refine Jx.fieldAddr rfl rfl ?_)
    (refine Jx.load rfl 0 rfl rfl rfl ?_)
    (refine J.call (e4) rfl (evs_args rfl) rfl ?_; rintro _ _ ⟨rfl, rfl⟩; simp only [List.cons_append, List.nil_append, List.append_nil])
    (refine Jx.move rfl rfl ?_)
    (refine Jx.extract rfl rfl rfl ?_)
    (refine Jx.extract rfl rfl rfl ?_)
    (refine Jx.assign rfl rfl ?_)
    (refine Jx.assign rfl rfl ?_)
    (refine J.nil ?_)
    (refine N.seq ?_)
    (refine W.seq ?_)
    (refine W.region ?_)
    (refine Jx.move rfl rfl ?_)
    (refine Jx.move rfl rfl ?_)
    (refine J.qs (Qs.buildTexts [ea, eb] rfl rfl rfl (by decide) (by decide)) rfl ?_)
    (refine J.call (u1) rfl (evs_args rfl) rfl ?_; rintro _ _ ⟨rfl, rfl⟩; simp only [List.cons_append, List.nil_append, List.append_nil])
    (refine Jx.move rfl rfl ?_)
    (refine J.gN rfl rfl rfl rfl ?_)
    (refine J.gN rfl rfl rfl rfl ?_)
    (refine J.gN rfl rfl rfl rfl ?_)
    (refine J.gN rfl rfl rfl rfl ?_)
    (refine Jx.pT rfl rfl rfl ?_)
    (refine Jx.assign rfl rfl ?_)
    (refine J.nil ?_)
    (refine N.seq ?_)
    (refine W.ret ?_)
    (refine id ?_; rotate_left))
            exact N.retD (rs := [.tmp 4]) (L1 := []) rfl (.tmp rfl .nil) (List.nil_sublist _) ⟨rfl, rfl⟩
        · focus (
    (refine W.seq ?_)
    (refine W.region ?_)
    (refine J.boxAg rfl rfl ?_; intro b')
    (refine J.boxAg rfl rfl ?_; intro b')
    (refine Jx.assign rfl rfl ?_)
    (refine J.nil ?_)
    (refine N.seq ?_)
    (refine W.seq ?_)
    (refine W.seq ?_)
    (refine W.region ?_)
    (refine J.call (cw) rfl (evs_args rfl) rfl ?_; rintro _ _ ⟨rfl, rfl⟩; simp only [List.cons_append, List.nil_append, List.append_nil])
    (refine Jx.not rfl rfl ?_)
    (refine J.nil ?_)
    (refine N.seq ?_)
    (refine W.cF rfl ?_)
    (refine W.skip ?_)
    (refine N.seq ?_)
    (refine W.seq ?_)
    (refine W.seq ?_)
    (refine W.draw follows ?_)
    (refine JD.calm rfl (by decide +kernel) ?_)
    (refine Cx.loadAll rfl 1 rfl rfl rfl ?_)
    (refine SegC.q (Qs.call (Lc := []) (cba) (fun s L' h => h) (List.Perm.refl _) (evs_args rfl)) rfl ?_)
    (refine Cx.move rfl rfl ?_)
    (refine SegC.gY rfl rfl rfl ?_)
    (refine Cx.loadAll rfl 0 rfl rfl rfl ?_)
    (refine SegC.gY rfl rfl rfl ?_)
    (refine SegC.q (Qs.call (Lc := []) (cbb) (fun s L' h => h) (List.Perm.refl _) (evs_args rfl)) rfl ?_)
    (refine Cx.pickF rfl (by first | rfl | assumption | (exact decide_eq_true (by first | assumption | omega | rfl)) | (exact decide_eq_false (by first | assumption | omega | rfl)) | (simp; done) | (simp; omega)) rfl rfl ?_)
    (refine Cx.move rfl rfl ?_)
    (refine SegC.gY rfl rfl rfl ?_)
    (refine Cx.loadAll rfl 1 rfl rfl rfl ?_)
    (refine SegC.gY rfl rfl rfl ?_)
    (refine SegC.q (Qs.call (Lc := []) (da) (fun s L' h => h) (List.Perm.refl _) (evs_args rfl)) rfl ?_)
    (refine SegC.gY rfl rfl rfl ?_)
    (refine Cx.eqlS rfl rfl rfl ?_)
    (refine Cx.pickF rfl (by first | rfl | assumption | (exact decide_eq_true (by first | assumption | omega | rfl)) | (exact decide_eq_false (by first | assumption | omega | rfl)) | (simp; done) | (simp; omega)) rfl rfl ?_)
    (refine Cx.move rfl rfl ?_)
    (refine SegC.gY rfl rfl rfl ?_)
    (refine Cx.loadAll rfl 1 rfl rfl rfl ?_)
    (refine SegC.gY rfl rfl rfl ?_)
    (refine SegC.q (Qs.call (Lc := []) (da) (fun s L' h => h) (List.Perm.refl _) (evs_args rfl)) rfl ?_)
    (refine SegC.gY rfl rfl rfl ?_)
    (refine Cx.loadAll rfl 0 rfl rfl rfl ?_)
    (refine SegC.gY rfl rfl rfl ?_)
    (refine SegC.q (Qs.call (Lc := []) (db) (fun s L' h => h) (List.Perm.refl _) (evs_args rfl)) rfl ?_)
    (refine SegC.gY rfl rfl rfl ?_)
    (refine Cx.neqS rfl rfl rfl ?_)
    (refine Cx.pickF rfl (by first | rfl | assumption | (exact decide_eq_true (by first | assumption | omega | rfl)) | (exact decide_eq_false (by first | assumption | omega | rfl)) | (simp; done) | (simp; omega)) rfl rfl ?_)
    (refine SegC.nil ?_)
    (refine N.seq ?_)
    (refine W.cT rfl ?_)
    (refine W.seq ?_)
    (refine W.region ?_)
    (refine Jx.assign rfl rfl ?_)
    (refine J.nil ?_)
    (refine N.seq ?_)
    (refine W.ret ?_)
    (refine N.noGotoRet ?_)
    (refine id ?_; rotate_left))
          exact N.retD (rs := [.tmp 4]) (L1 := []) rfl (.tmp rfl .nil) (List.nil_sublist _) ⟨rfl, rfl⟩
end Go.Proofs.YtlfdhkahiaammaaDoor
namespace Go.Proofs.YtlfdhkahiaammaaDoor
open Go Go.Sse Go.ChangeShapes Go.WideShapes Go.ChangeAt Go.RowKit
set_option linter.unusedVariables false
set_option linter.unusedSimpArgs false
set_option maxRecDepth 100000
noncomputable def rdHd : Rd Tryd.prog 24 Hd :=
  rdIso (Rd.struct (tos := [(3, 0), (3, 1), (3, 2), (4, 3), (9, 4), (9, 5), (9, 6), (9, 7), (9, 8), (9, 9), (22, 10)]) (by kernel_rfl)
    (Fds.cons rdInt (Fds.cons rdInt (Fds.cons rdInt (Fds.cons rdBool (Fds.cons rdStr (Fds.cons rdStr (Fds.cons rdStr (Fds.cons rdStr (Fds.cons rdStr (Fds.cons rdStr (Fds.cons rdStrs Fds.nil))))))))))) (by kernel_rfl))
    (fun x => ⟨x.1, x.2.1, x.2.2.1, x.2.2.2.1, x.2.2.2.2.1, x.2.2.2.2.2.1, x.2.2.2.2.2.2.1, x.2.2.2.2.2.2.2.1, x.2.2.2.2.2.2.2.2.1, x.2.2.2.2.2.2.2.2.2.1, x.2.2.2.2.2.2.2.2.2.2.1⟩) (fun x => (x.height, x.epoch, x.view, x.last, x.parent, x.state, x.receipts, x.txs, x.members, x.next, x.skips, ())) (fun _ => rfl) hdC (fun _ => rfl) (fun _ => rfl)
end Go.Proofs.YtlfdhkahiaammaaDoor
namespace Go.Proofs.YtlfdhkahiaammaaDoor
open Go Go.Sse Go.ChangeShapes Go.WideShapes Go.ChangeAt Go.RowKit
set_option linter.unusedVariables false
set_option linter.unusedSimpArgs false
set_option maxRecDepth 100000
noncomputable def rdCt : Rd Tryd.prog 27 Ct :=
  rdIso (Rd.struct (tos := [(9, 0), (22, 1)]) (by kernel_rfl) (Fds.cons rdStr (Fds.cons rdStrs Fds.nil)) (by kernel_rfl)) (fun x => ⟨x.1, x.2.1⟩) (fun c => (c.digest, c.signers, ())) (fun _ => rfl) ctC (fun _ => rfl) (fun _ => rfl)
noncomputable def rdBk : Rd Tryd.prog 29 Bk :=
  rdIso (Rd.struct (tos := [(24, 0), (25, 11), (27, 12)]) (by kernel_rfl) (Fds.cons rdHd (Fds.cons rdTxs (Fds.cons rdCt Fds.nil))) (by kernel_rfl)) (fun x => ⟨x.1, x.2.1, x.2.2.1⟩) (fun b => (b.head, b.txs, b.just, ())) (fun _ => rfl) bkC (fun _ => rfl) (fun _ => rfl)
end Go.Proofs.YtlfdhkahiaammaaDoor
