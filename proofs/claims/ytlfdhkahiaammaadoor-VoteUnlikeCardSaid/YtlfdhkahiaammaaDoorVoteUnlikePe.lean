/-
  Lemmas for the claim, part 5.
-/
import Derived.Test.YtlfdhkahiaammaaDoorVoteUnlikePd
namespace Go.Proofs.YtlfdhkahiaammaaDoor
open Go Go.Sse
set_option linter.unusedVariables false
set_option linter.unusedSimpArgs false
set_option maxRecDepth 10000
abbrev hdz : List SV := [int 0, int 0, int 0, bool false, str [], str [], str [], str [], str [], str [], .val (.slice none 0 0)]
theorem hdz_sub : SubL hdz (hdC hd0) := .cons (.refl _) (.cons (.refl _) (.cons (.refl _) (.cons (.refl _) (.cons (.refl _) (.cons (.refl _) (.cons (.refl _) (.cons (.refl _) (.cons (.refl _) (.cons (.refl _) (.cons (Sub.nil 1 _) .nil))))))))))
theorem agHd : TAg Tryd.prog tHd 11 := inferInstance
theorem reps_step {n : Nat} {acc : List (List UInt8)} {t : List UInt8} {st st' : PSt} {all : List (List UInt8) × PSt} (h : all = (acc ++ (reps (n + 1) st).1, (reps (n + 1) st).2)) (hb : bytesP 32 st = (t, st')) : all = ((acc ++ [t]) ++ (reps n st').1, (reps n st').2) := by
  rw [h]; simp only [reps, hb, List.append_assoc, List.cons_append, List.nil_append]
set_option maxHeartbeats 8000000 in
theorem hdecode_ok (s : List UInt8) (hs : s.length ≤ 1099511627776) : FnC Tryd.prog 65 [str s] [] (fun v L => (∃ o, DecR fineHd encHd s o ∧ v = .tup [.agg (hdC (o.getD hd0)), int (codeO o 190)]) ∧ L = []) := by
  have c0 := read_ok s
  refine FnC.intro Tryd.func65 rfl Tryd.ntmps65 rfl fun Z w0 hG => ?_
  focus (
    (refine W.seq ?_)
    (refine W.region ?_)
    (refine J.alloc (by simp only [List.map_cons, List.map_nil]; rfl) rfl rfl ?_; intro b')
    (refine Jx.assign rfl rfl ?_)
    (refine J.nil ?_)
    (refine N.seq ?_)
    (refine W.seq ?_)
    (refine W.region ?_)
    (refine Jx.move rfl rfl ?_)
    (refine J.call (Lc := []) c0 rfl (evs_args rfl) rfl ?_; rintro _ _ ⟨b, rfl, rfl⟩; simp only [List.cons_append, List.nil_append, List.append_nil])
    (refine Jx.assign rfl rfl ?_)
    (refine J.nil ?_)
    (refine N.seq ?_)
    (refine W.seq ?_)
    (refine W.region ?_)
    (refine J.alloc (by simp only [List.map_cons, List.map_nil]; rfl) rfl rfl ?_; intro b')
    (refine J.nil ?_)
    (refine N.seq ?_)
    (refine W.seq ?_)
    (refine W.region ?_)
    (refine Jx.move rfl rfl ?_)
    (refine J.call1 1 ((rd_Num b s 0 0 (Nat.zero_le _) hs)) rfl (evs_args rfl) rfl (by rintro _ _ ⟨n1, a1, c1, rfl, rfl, ha1, hl1, e1⟩; exact ⟨_, rfl⟩) ?_; rintro _ _ ⟨n1, a1, c1, rfl, ⟨⟩, ha1, hl1, e1⟩; simp only [List.set_cons_zero, List.set_cons_succ])
    (refine Jx.move rfl rfl ?_)
    (refine J.call1 1 ((rd_Num b s a1 c1 ha1 hs)) rfl (evs_args rfl) rfl (by rintro _ _ ⟨n2, a2, c2, rfl, rfl, ha2, hl2, e2⟩; exact ⟨_, rfl⟩) ?_; rintro _ _ ⟨n2, a2, c2, rfl, ⟨⟩, ha2, hl2, e2⟩; simp only [List.set_cons_zero, List.set_cons_succ])
    (refine Jx.move rfl rfl ?_)
    (refine J.call1 1 ((rd_Num b s a2 c2 ha2 hs)) rfl (evs_args rfl) rfl (by rintro _ _ ⟨n3, a3, c3, rfl, rfl, ha3, hl3, e3⟩; exact ⟨_, rfl⟩) ?_; rintro _ _ ⟨n3, a3, c3, rfl, ⟨⟩, ha3, hl3, e3⟩; simp only [List.set_cons_zero, List.set_cons_succ])
    (refine Jx.fieldAddr rfl rfl ?_)
    (refine J.st 0 rfl rfl rfl rfl rfl rfl ?_)
    (refine Jx.fieldAddr rfl rfl ?_)
    (refine J.st 0 rfl rfl rfl rfl rfl rfl ?_)
    (refine Jx.fieldAddr rfl rfl ?_)
    (refine J.st 0 rfl rfl rfl rfl rfl rfl ?_)
    (refine J.nil ?_)
    (refine N.seq ?_)
    (refine W.seq ?_)
    (refine W.region ?_)
    (refine Jx.move rfl rfl ?_)
    (refine J.call1 1 ((rd_Flag b s a3 c3 ha3 hs)) rfl (evs_args rfl) rfl (by rintro _ _ ⟨lf', a4, c4, rfl, rfl, ha4, e4⟩; exact ⟨_, rfl⟩) ?_; rintro _ _ ⟨lf', a4, c4, rfl, ⟨⟩, ha4, e4⟩; simp only [List.set_cons_zero, List.set_cons_succ])
    (refine Jx.fieldAddr rfl rfl ?_)
    (refine J.st 0 rfl rfl rfl rfl rfl rfl ?_)
    (refine J.nil ?_)
    (refine N.seq ?_)
    (refine W.seq ?_)
    (refine W.region ?_)
    (refine Jx.move rfl rfl ?_)
    (refine J.call1 1 ((rd_Text b s a4 c4 32 ha4 hs)) rfl (evs_args rfl) rfl (by rintro _ _ ⟨t5, a5, c5, rfl, rfl, ha5, e5⟩; exact ⟨_, rfl⟩) ?_; rintro _ _ ⟨t5, a5, c5, rfl, ⟨⟩, ha5, e5⟩; simp only [List.set_cons_zero, List.set_cons_succ])
    (refine Jx.move rfl rfl ?_)
    (refine J.call1 1 ((rd_Text b s a5 c5 32 ha5 hs)) rfl (evs_args rfl) rfl (by rintro _ _ ⟨t6, a6, c6, rfl, rfl, ha6, e6⟩; exact ⟨_, rfl⟩) ?_; rintro _ _ ⟨t6, a6, c6, rfl, ⟨⟩, ha6, e6⟩; simp only [List.set_cons_zero, List.set_cons_succ])
    (refine Jx.move rfl rfl ?_)
    (refine J.call1 1 ((rd_Text b s a6 c6 32 ha6 hs)) rfl (evs_args rfl) rfl (by rintro _ _ ⟨t7, a7, c7, rfl, rfl, ha7, e7⟩; exact ⟨_, rfl⟩) ?_; rintro _ _ ⟨t7, a7, c7, rfl, ⟨⟩, ha7, e7⟩; simp only [List.set_cons_zero, List.set_cons_succ])
    (refine Jx.fieldAddr rfl rfl ?_)
    (refine J.st 0 rfl rfl rfl rfl rfl rfl ?_)
    (refine Jx.fieldAddr rfl rfl ?_)
    (refine J.st 0 rfl rfl rfl rfl rfl rfl ?_)
    (refine Jx.fieldAddr rfl rfl ?_)
    (refine J.st 0 rfl rfl rfl rfl rfl rfl ?_)
    (refine J.nil ?_)
    (refine N.seq ?_)
    (refine W.seq ?_)
    (refine W.region ?_)
    (refine Jx.move rfl rfl ?_)
    (refine J.call1 1 ((rd_Bytes b s a7 c7 32 ha7 hs)) rfl (evs_args rfl) rfl (by rintro _ _ ⟨t8, a8, c8, rfl, rfl, ha8, e8⟩; exact ⟨_, rfl⟩) ?_; rintro _ _ ⟨t8, a8, c8, rfl, ⟨⟩, ha8, e8⟩; simp only [List.set_cons_zero, List.set_cons_succ])
    (refine Jx.move rfl rfl ?_)
    (refine J.call1 1 ((rd_Bytes b s a8 c8 32 ha8 hs)) rfl (evs_args rfl) rfl (by rintro _ _ ⟨t9, a9, c9, rfl, rfl, ha9, e9⟩; exact ⟨_, rfl⟩) ?_; rintro _ _ ⟨t9, a9, c9, rfl, ⟨⟩, ha9, e9⟩; simp only [List.set_cons_zero, List.set_cons_succ])
    (refine Jx.move rfl rfl ?_)
    (refine J.call1 1 ((rd_Bytes b s a9 c9 32 ha9 hs)) rfl (evs_args rfl) rfl (by rintro _ _ ⟨t10, a10, c10, rfl, rfl, ha10, e10⟩; exact ⟨_, rfl⟩) ?_; rintro _ _ ⟨t10, a10, c10, rfl, ⟨⟩, ha10, e10⟩; simp only [List.set_cons_zero, List.set_cons_succ])
    (refine Jx.fieldAddr rfl rfl ?_)
    (refine J.st 0 rfl rfl rfl rfl rfl rfl ?_)
    (refine Jx.fieldAddr rfl rfl ?_)
    (refine J.st 0 rfl rfl rfl rfl rfl rfl ?_)
    (refine Jx.fieldAddr rfl rfl ?_)
    (refine J.st 0 rfl rfl rfl rfl rfl rfl ?_)
    (refine J.nil ?_)
    (refine N.seq ?_)
    (refine W.seq ?_)
    (refine W.seq ?_)
    (refine W.region ?_)
    (refine Jx.fieldAddr rfl rfl ?_)
    (refine Jx.load rfl 0 rfl rfl rfl ?_)
    (refine J.call ((links_ok (n1 : Int))) rfl (evs_args rfl) rfl ?_; rintro _ _ ⟨rfl, rfl⟩; simp only [List.cons_append, List.nil_append, List.append_nil])
    (refine Jx.lenSl rfl rfl ?_)
    (refine Jx.move rfl rfl ?_)
    (refine J.nil ?_)
    (refine N.seq ?_)
    (refine W.block ?_)
    (refine id ?_; rotate_left))
  rename_i p2
  have hln := linksI_len (n1 : Int)
  refine W.rowNil 9 1 (elOf (fun a => [str a]) [] []) ?_
  refine W.perm (List.Perm.trans (List.Perm.cons _ (List.Perm.swap _ _ _)) (List.Perm.swap _ _ _)) ?_
  refine W.loop (α := Value × List (List UInt8) × Nat × Int) (fun x => [(42, int (x.2.1.length : Int)), (41, int ((linksI (n1 : Int)).length : Int)), (5, ptr b'), (4, ptr b), (2, ptr p2)])
    (fun x => [rdO b ⟨s, x.2.2.1, x.2.2.2⟩, .row x.1 9 1 x.2.1.length (elOf (fun a => [str a]) [] x.2.1), .obj b' tHd [int (n1 : Int), int (n2 : Int), int (n3 : Int), bool lf', str t5, str t6, str t7, str t8, str t9, str t10, .val x.1], .obj p2 tHd hdz])
    (fun x => x.2.2.1 ≤ s.length ∧ x.2.1.length ≤ (linksI (n1 : Int)).length ∧ reps (linksI (n1 : Int)).length (lf s a10 c10) = (x.2.1 ++ (reps ((linksI (n1 : Int)).length - x.2.1.length) (lf s x.2.2.1 x.2.2.2)).1, (reps ((linksI (n1 : Int)).length - x.2.1.length) (lf s x.2.2.1 x.2.2.2)).2)) (fun x => (linksI (n1 : Int)).length - x.2.1.length) (.slice none 0 0, [], a10, c10) ⟨ha10, by simp, by simp⟩ rfl ⟨ref0 rfl, ref0 rfl, ref0 rfl, ref0 rfl, ref0 rfl, trivial⟩ ?_
  rintro ⟨u, acc, a, c⟩ ⟨ha, hi, hr⟩
  simp only at ha hi hr ⊢
  have rdh : ∀ (sk : List (List UInt8)) (st : PSt), reps (linksI (n1 : Int)).length (lf s a10 c10) = (sk, st) → ReadH s ⟨n1, n2, n3, lf', t5, t6, t7, t8, t9, t10, sk⟩ st := fun sk st h =>
    ⟨n1, n2, n3, _, _, _, _, _, _, _, _, _, _, e1, rfl, e2, rfl, e3, rfl, e4, e5, e6, e7, e8, e9, e10, h⟩
  by_cases h1 : acc.length < (linksI (n1 : Int)).length
  · have cb := rd_Bytes b s a c 32 ha hs
    have hmx : ∀ t : List UInt8, acc.length + [t].length ≤ maxLen ∧ (acc.length + [t].length) * 16 ≤ 140737488355328 := fun t => by simp only [maxLen, List.length_cons, List.length_nil]; omega
    have hsucc : (linksI (n1 : Int)).length - acc.length = ((linksI (n1 : Int)).length - (acc.length + 1)) + 1 := by omega
    focus (
    (refine W.seq ?_)
    (refine W.region ?_)
    (refine Jx.lssI rfl rfl rfl ?_)
    (refine J.nil ?_)
    (refine N.seq ?_)
    (refine W.seq ?_)
    (refine W.cT rfl ?_)
    (refine W.skip ?_)
    (refine N.seq ?_)
    (refine W.seq ?_)
    (refine W.block ?_)
    (refine W.draw follows ?_)
    (refine JD.begin 8 rfl ?_; refine JP.more [0, 1, 2] _ rfl (by decide +kernel) ?_)
    (refine Cx.fieldAddr rfl rfl ?_)
    (refine Cx.load rfl 2 rfl rfl rfl ?_)
    (refine Cx.move rfl rfl ?_)
    (refine SegC.nil ?_)
    (refine JP.call (idx := [0, 1, 2]) (Lc := [rdO b ⟨s, a, c⟩]) 3 [46] [2, 3] [0, 1] cb rfl (by decide +kernel) rfl ?_ (evs_args rfl) rfl ?_; rotate_left; rintro _ _ ⟨t, a', c', rfl, rfl, ha', hb'⟩; simp only [List.cons_append, List.nil_append]; refine JP.more [4] _ rfl (by decide +kernel) ?_; rotate_left)
    (refine Cx.fieldAddr rfl rfl ?_)
    (refine Cx.load rfl 2 rfl rfl rfl ?_)
    (refine Cx.move rfl rfl ?_)
    (refine SegC.nil ?_)
    (refine Ag.cons rfl ?_)
    (refine Ag.cons rfl ?_)
    (refine Ag.cons rfl ?_)
    (refine Ag.nil)
    (refine SegC.q (Qs.buildTexts [t] rfl rfl rfl (by decide) (by decide)) rfl ?_)
    (refine SegC.nil ?_)
    (refine JP.perm (List.Perm.swap _ _ _) ?_; refine JP.append (idx := [0, 1, 4]) (m := acc) (m2 := [t]) 5 [45, 48] [0, 1, 2, 3, 4, 5] [] (by decide +kernel) rfl ?_ rfl (SrcOK.sl rfl) rfl rfl (hmx t) rfl ?_; rotate_left; intro v' hv'; rotate_left)
    (refine Cx.fieldAddr rfl rfl ?_)
    (refine Cx.load rfl 2 rfl rfl rfl ?_)
    (refine SegC.q (Qs.buildTexts [t] rfl rfl rfl (by decide) (by decide)) rfl ?_)
    (refine SegC.nil ?_)
    (refine Ag.cons rfl ?_)
    (refine Ag.cons rfl ?_)
    (refine Ag.cons rfl ?_)
    (refine Ag.nil)
    (refine JP.tail (idx := []) 6 (by decide +kernel) (by decide +kernel) rfl rfl ?_ ?_)
    (refine SegC.nil ?_)
    (refine Ag.nil)
    (refine Jx.fieldAddr rfl rfl ?_)
    (refine J.store rfl rfl (One.val hv') 2 rfl rfl rfl rfl ?_)
    (refine J.nil ?_)
    (refine N.seq ?_)
    (refine W.region ?_)
    (refine Jx.add64 rfl rfl (by omega) rfl ?_)
    (refine Jx.move rfl rfl ?_)
    (refine J.nil ?_)
    (refine id ?_; rotate_left))
    refine N.perm (List.Perm.swap _ _ _) ?_
    refine N.round (v', acc ++ [t], a', c') ⟨ha', by simp only [List.length_append, List.length_cons, List.length_nil]; omega, ?_⟩ (by simp only [List.length_append, List.length_cons, List.length_nil]; omega) rfl ⟨⟨_, rfl, Sub.of_eq (by simp)⟩, ref0 rfl, ref0 rfl, ref0 rfl, ref0 rfl, trivial⟩
    rw [hsucc] at hr
    have := reps_step hr hb'
    simpa only [List.length_append, List.length_cons, List.length_nil, Nat.zero_add] using this
  · have hlen : acc.length = (linksI (n1 : Int)).length := by omega
    rw [hlen, Nat.sub_self] at hr
    simp only [reps, List.append_nil] at hr
    have hrd := rdh _ _ hr
    refine W.freezeCell 1 1 10 rfl rfl rfl (by simp only [maxLen]; omega) rfl ?_
    have ce := rd_End b s a c ha hs
    have ck := hcheck_ok ⟨n1, n2, n3, lf', t5, t6, t7, t8, t9, t10, acc⟩ (by simp only; omega)
    generalize hx : (⟨n1, n2, n3, lf', t5, t6, t7, t8, t9, t10, acc⟩ : Hd) = x at *
    rw [show [int (n1 : Int), int (n2 : Int), int (n3 : Int), bool lf', str t5, str t6, str t7, str t8, str t9, str t10, SV.val u].set 10 (SV.sl 1 acc.length (elOf (fun a => [str a]) [] acc)) = hdC x by rw [← hx]; rfl]
    focus (
    (refine W.seq ?_)
    (refine W.region ?_)
    (refine Jx.lssI rfl rfl rfl ?_)
    (refine J.nil ?_)
    (refine N.seq ?_)
    (refine W.seq ?_)
    (refine W.cF rfl ?_)
    (refine W.exit ?_)
    (refine N.seq ?_)
    (refine W.seq ?_)
    (refine W.seq ?_)
    (refine W.region ?_)
    (refine Jx.move rfl rfl ?_)
    (refine J.call (ce) rfl (evs_args rfl) rfl ?_; rintro _ _ ⟨e, a', c', rfl, rfl, he⟩; simp only [List.cons_append, List.nil_append, List.append_nil])
    (refine Jx.neqI rfl rfl rfl ?_)
    (refine Jx.move rfl rfl ?_)
    (refine' J.guardOr rfl rfl rfl rfl rfl rfl rfl rfl (fun _ => ?_) ?_; rotate_left)
    (refine J.gY rfl rfl rfl ?_)
    (refine Jx.loadAll rfl 1 rfl rfl rfl ?_)
    (refine J.gY rfl rfl rfl ?_)
    (refine J.call (Lc := []) ck rfl (evs_args rfl) rfl ?_; rintro _ _ ⟨rfl, rfl⟩; simp only [List.cons_append, List.nil_append, List.append_nil])
    (refine J.gY rfl rfl rfl ?_)
    (refine Jx.neqI rfl rfl rfl ?_)
    (refine J.nil ?_)
    (refine N.joinedN rfl rfl rfl)
    (refine J.nil ?_)
    (refine N.seq ?_)
    (refine id ?_; rotate_left))
    refine W.cond rfl (fun hb => ?_) (fun hb => ?_)
    · focus (
    (refine W.seq ?_)
    (refine W.region ?_)
    (refine Jx.buildB rfl rfl rfl rfl rfl ?_)
    (refine J.storeAll rfl rfl rfl 2 rfl rfl rfl ?_)
    (refine Jx.assign rfl rfl ?_)
    (refine J.nil ?_)
    (refine N.seq ?_)
    (refine W.ret ?_)
    (refine N.noGotoRet ?_)
    (refine id ?_; rotate_left))
      refine N.objSub 2 (hdC hd0) rfl hdz_sub rfl ?_
      refine N.retD (rs := [.cell 2 tHd, .tmp 3]) (L1 := []) rfl (.cell rfl 2 rfl agHd (.tmp rfl .nil)) (List.nil_sublist _) ⟨⟨none, fun y hy hz => ?_, rfl⟩, rfl⟩
      obtain ⟨rfl, h2⟩ := hrd.whole ((fineHd_iff y).1 hy) hz
      rw [he.2 h2, hy] at hb
      simp at hb
    · focus (
    (refine W.skip ?_)
    (refine N.seq ?_)
    (refine W.seq ?_)
    (refine W.region ?_)
    (refine Jx.loadAll rfl 1 rfl rfl rfl ?_)
    (refine J.storeAll rfl rfl rfl 2 rfl rfl rfl ?_)
    (refine Jx.assign rfl rfl ?_)
    (refine J.nil ?_)
    (refine N.seq ?_)
    (refine W.ret ?_)
    (refine id ?_; rotate_left))
      refine N.retD (rs := [.cell 2 tHd, .tmp 3]) (L1 := []) rfl (.cell rfl 2 rfl agHd (.tmp rfl .nil)) (List.nil_sublist _) ⟨⟨some x, ?_, rfl⟩, rfl⟩
      simp only [Bool.or_eq_false_iff, decide_eq_false_iff_not] at hb
      have hf : fineHd x = true := by
        cases hf : fineHd x with
        | true => rfl
        | false => rw [hf] at hb; simp at hb
      rw [he.1 (by omega)] at hrd
      exact ⟨hf, hrd.sound⟩
end Go.Proofs.YtlfdhkahiaammaaDoor
namespace Go.Proofs.YtlfdhkahiaammaaDoor
open Go Go.Sse
set_option linter.unusedVariables false
set_option linter.unusedSimpArgs false
set_option maxRecDepth 10000
theorem bhead_ok (s : List UInt8) (hs : s.length ≤ 1099511627776) (p : Nat) (x : Bk) : FnC Tryd.prog 33 [str s, ptr p] [.obj p tBk (bkC x)] (fun v L => (∃ o, DecR fineHd encHd s o ∧ v = bool o.isSome ∧ L = [.obj p tBk (bkC ⟨o.getD hd0, x.txs, x.just⟩)])) := by
  have c := hdecode_ok s hs
  refine FnC.intro Tryd.func33 rfl Tryd.ntmps33 rfl fun Z w0 hG => ?_
  focus (
    (refine W.seq ?_)
    (refine W.region ?_)
    (refine Jx.assign rfl rfl ?_)
    (refine J.nil ?_)
    (refine N.seq ?_)
    (refine W.seq ?_)
    (refine W.region ?_)
    (refine Jx.move rfl rfl ?_)
    (refine J.call (Lc := []) c rfl (evs_args rfl) rfl ?_; rintro _ _ ⟨⟨o, ho, rfl⟩, rfl⟩; simp only [List.cons_append, List.nil_append, List.append_nil])
    (refine Jx.move rfl rfl ?_)
    (refine Jx.extract rfl rfl rfl ?_)
    (refine Jx.extract rfl rfl rfl ?_)
    (refine J.alloc (by simp only [List.map_cons, List.map_nil]; rfl) rfl rfl ?_; intro b')
    (refine J.storeAll rfl rfl rfl 0 rfl rfl rfl ?_)
    (refine Jx.assign rfl rfl ?_)
    (refine J.nil ?_)
    (refine N.seq ?_)
    (refine W.seq ?_)
    (refine W.region ?_)
    (refine Jx.move rfl rfl ?_)
    (refine Jx.loadAll rfl 0 rfl rfl rfl ?_)
    (refine Jx.nilCheck rfl rfl ?_)
    (refine Jx.fieldAddr rfl rfl ?_)
    (refine J.storeAg rfl rfl rfl 1 rfl rfl rfl rfl ?_)
    (refine J.nil ?_)
    (refine N.seq ?_)
    (refine W.seq ?_)
    (refine W.region ?_)
    (refine Jx.move rfl rfl ?_)
    (refine Jx.eqlI rfl rfl rfl ?_)
    (refine Jx.assign rfl rfl ?_)
    (refine J.nil ?_)
    (refine N.seq ?_)
    (refine W.ret ?_)
    (refine id ?_; rotate_left))
  refine N.retD (rs := [.tmp 4]) (L1 := [.obj p tBk (bkC ⟨o.getD hd0, x.txs, x.just⟩)]) rfl (.tmp rfl .nil) (List.sublist_cons_self _ _) ⟨o, ho, ?_, rfl⟩
  cases o <;> rfl
theorem btxs_ok (s : List UInt8) (hs : s.length ≤ 1099511627776) (p : Nat) (x : Bk) : FnC Tryd.prog 34 [str s, ptr p] [.obj p tBk (bkC x)] (fun v L => (∃ o, DecR fineAll encAll s o ∧ v = bool o.isSome ∧ L = [.obj p tBk (bkC ⟨x.head, o.getD [], x.just⟩)])) := by
  have c := tdecAll_ok s hs
  refine FnC.intro Tryd.func34 rfl Tryd.ntmps34 rfl fun Z w0 hG => ?_
  focus (
    (refine W.seq ?_)
    (refine W.region ?_)
    (refine Jx.assign rfl rfl ?_)
    (refine J.nil ?_)
    (refine N.seq ?_)
    (refine W.seq ?_)
    (refine W.region ?_)
    (refine Jx.move rfl rfl ?_)
    (refine J.call (Lc := []) c rfl (evs_args rfl) rfl ?_; rintro _ _ ⟨⟨o, ho, rfl⟩, rfl⟩; simp only [List.cons_append, List.nil_append, List.append_nil])
    (refine Jx.move rfl rfl ?_)
    (refine Jx.extract rfl rfl rfl ?_)
    (refine Jx.extract rfl rfl rfl ?_)
    (refine Jx.assign rfl rfl ?_)
    (refine Jx.assign rfl rfl ?_)
    (refine J.nil ?_)
    (refine N.seq ?_)
    (refine W.seq ?_)
    (refine W.region ?_)
    (refine Jx.move rfl rfl ?_)
    (refine Jx.move rfl rfl ?_)
    (refine Jx.nilCheck rfl rfl ?_)
    (refine Jx.fieldAddr rfl rfl ?_)
    (refine J.st 0 rfl rfl rfl rfl rfl rfl ?_)
    (refine J.nil ?_)
    (refine N.seq ?_)
    (refine W.seq ?_)
    (refine W.region ?_)
    (refine Jx.move rfl rfl ?_)
    (refine Jx.eqlI rfl rfl rfl ?_)
    (refine Jx.assign rfl rfl ?_)
    (refine J.nil ?_)
    (refine N.seq ?_)
    (refine W.ret ?_)
    (refine id ?_; rotate_left))
  refine N.ret (rs := [.tmp 4]) rfl (.tmp rfl .nil) ⟨o, ho, ?_, rfl⟩
  cases o <;> rfl
theorem bjust_ok (s : List UInt8) (hs : s.length ≤ 1099511627776) (p : Nat) (x : Bk) : FnC Tryd.prog 37 [str s, ptr p] [.obj p tBk (bkC x)] (fun v L => (∃ o, DecR fineCt encCt s o ∧ v = bool o.isSome ∧ L = [.obj p tBk (bkC ⟨x.head, x.txs, o.getD ct0⟩)])) := by
  have c := cdecode_ok s hs
  refine FnC.intro Tryd.func37 rfl Tryd.ntmps37 rfl fun Z w0 hG => ?_
  focus (
    (refine W.seq ?_)
    (refine W.region ?_)
    (refine Jx.assign rfl rfl ?_)
    (refine J.nil ?_)
    (refine N.seq ?_)
    (refine W.seq ?_)
    (refine W.region ?_)
    (refine Jx.move rfl rfl ?_)
    (refine J.call (Lc := []) c rfl (evs_args rfl) rfl ?_; rintro _ _ ⟨⟨o, ho, rfl⟩, rfl⟩; simp only [List.cons_append, List.nil_append, List.append_nil])
    (refine Jx.move rfl rfl ?_)
    (refine Jx.extract rfl rfl rfl ?_)
    (refine Jx.extract rfl rfl rfl ?_)
    (refine J.alloc (by simp only [List.map_cons, List.map_nil]; rfl) rfl rfl ?_; intro b')
    (refine J.storeAll rfl rfl rfl 0 rfl rfl rfl ?_)
    (refine Jx.assign rfl rfl ?_)
    (refine J.nil ?_)
    (refine N.seq ?_)
    (refine W.seq ?_)
    (refine W.region ?_)
    (refine Jx.move rfl rfl ?_)
    (refine Jx.loadAll rfl 0 rfl rfl rfl ?_)
    (refine Jx.nilCheck rfl rfl ?_)
    (refine Jx.fieldAddr rfl rfl ?_)
    (refine J.storeAg rfl rfl rfl 1 rfl rfl rfl rfl ?_)
    (refine J.nil ?_)
    (refine N.seq ?_)
    (refine W.seq ?_)
    (refine W.region ?_)
    (refine Jx.move rfl rfl ?_)
    (refine Jx.eqlI rfl rfl rfl ?_)
    (refine Jx.assign rfl rfl ?_)
    (refine J.nil ?_)
    (refine N.seq ?_)
    (refine W.ret ?_)
    (refine id ?_; rotate_left))
  refine N.retD (rs := [.tmp 4]) (L1 := [.obj p tBk (bkC ⟨x.head, x.txs, o.getD ct0⟩)]) rfl (.tmp rfl .nil) (List.sublist_cons_self _ _) ⟨o, ho, ?_, rfl⟩
  cases o <;> rfl
abbrev nHead : Nat := 33
abbrev nTxs : Nat := 34
def PartR (s : List UInt8) (x : Bk) (fine : Bool) (st : PSt) : Nat → Prop
  | 0 => x = bk0 ∧ fine = true ∧ st = some s
  | 1 => ∃ t1 o1, textP 65536 (some s) = (t1, st) ∧ DecR fineHd encHd t1 o1 ∧ x = ⟨o1.getD hd0, [], ct0⟩ ∧ fine = o1.isSome
  | _ => ∃ t1 s1 t2 o1 o2, textP 65536 (some s) = (t1, s1) ∧ DecR fineHd encHd t1 o1 ∧ textP 65536 s1 = (t2, st) ∧ DecR fineAll encAll t2 o2 ∧ x = ⟨o1.getD hd0, o2.getD [], ct0⟩ ∧ fine = (o2.isSome && o1.isSome)
theorem PartR.read {s : List UInt8} {x : Bk} {fine : Bool} {st2 st : PSt} {c : Ct} {k : Bool} (h : PartR s x fine st2 2) (hj : JustR 65536 st2 c k st) : ∃ k1 k2, ReadB 65536 s ⟨x.head, x.txs, c⟩ k1 k2 k st ∧ fine = (k2 && k1) := by
  obtain ⟨t1, s1, t2, o1, o2, e1, d1, e2, d2, rfl, hf⟩ := h
  exact ⟨o1.isSome, o2.isSome, ⟨t1, s1, t2, st2, o1, o2, e1, d1, rfl, rfl, e2, d2, rfl, rfl, hj⟩, hf⟩
theorem dec_skips {s : List UInt8} {o : Option Hd} (h : DecR fineHd encHd s o) : (o.getD hd0).skips.length ≤ 1048576 := by
  cases o with
  | none => simp [hd0]
  | some x => have := ((fineHd_iff x).1 h.1).skips20; simp only [Option.getD_some]; omega
set_option maxHeartbeats 8000000 in
theorem bdecode_ok (s : List UInt8) (hs : s.length ≤ 1099511627776) : FnC Tryd.prog 11 [str s] [] (fun v L => (∃ o, DecR fineBk encBk s o ∧ v = .tup [.agg (bkC (o.getD bk0)), int (codeO o 210)]) ∧ L = []) := by
  have c0 := read_ok s
  refine FnC.intro Tryd.func11 rfl Tryd.ntmps11 rfl fun Z w0 hG => ?_
  focus (
    (refine W.seq ?_)
    (refine W.region ?_)
    (refine J.alloc (by simp only [List.map_cons, List.map_nil]; rfl) rfl rfl ?_; intro b')
    (refine Jx.assign rfl rfl ?_)
    (refine J.nil ?_)
    (refine N.seq ?_)
    (refine W.seq ?_)
    (refine W.region ?_)
    (refine Jx.move rfl rfl ?_)
    (refine J.call (Lc := []) c0 rfl (evs_args rfl) rfl ?_; rintro _ _ ⟨b, rfl, rfl⟩; simp only [List.cons_append, List.nil_append, List.append_nil])
    (refine Jx.assign rfl rfl ?_)
    (refine J.nil ?_)
    (refine N.seq ?_)
    (refine W.seq ?_)
    (refine W.region ?_)
    (refine J.alloc (by simp only [List.map_cons, List.map_nil]; rfl) rfl rfl ?_; intro b')
    (refine J.nil ?_)
    (refine N.seq ?_)
    (refine W.seq ?_)
    (refine W.region ?_)
    (refine Jx.assign rfl rfl ?_)
    (refine J.nil ?_)
    (refine N.seq ?_)
    (refine W.seq ?_)
    (refine W.seq ?_)
    (refine W.region ?_)
    (refine Jx.buildB rfl rfl rfl rfl rfl ?_)
    (refine Jx.buildB rfl rfl rfl rfl rfl ?_)
    (refine J.qs (Qs.buildAgs (fun f : Nat => [fnV f]) 0 [nHead, nTxs] rfl rfl (fun _ => rfl) rfl rfl (by decide) (by decide) rfl) rfl ?_)
    (refine Jx.lenSl rfl rfl ?_)
    (refine Jx.move rfl rfl ?_)
    (refine J.nil ?_)
    (refine N.seq ?_)
    (refine W.block ?_)
    (refine id ?_; rotate_left))
  rename_i p2
  obtain ⟨p5, hp5⟩ : ∃ q, q = b' := ⟨_, rfl⟩
  subst hp5
  refine W.objSub 0 (bkC bk0) rfl bkz_sub rfl ?_
  refine W.loop (α := Nat × Bk × Bool × Nat × Int) (fun x => [(16, int (x.1 : Int)), (15, int (2 : Nat)), (14, .sl 1 2 (elOf (fun f : Nat => [fnV f]) 0 [nHead, nTxs])), (6, bool x.2.2.1), (5, ptr p5), (4, ptr b), (2, ptr p2)])
    (fun x => [.obj p5 tBk (bkC x.2.1), rdO b ⟨s, x.2.2.2.1, x.2.2.2.2⟩, .obj p2 tBk bkz]) (fun x => x.1 ≤ 2 ∧ x.2.2.2.1 ≤ s.length ∧ PartR s x.2.1 x.2.2.1 (lf s x.2.2.2.1 x.2.2.2.2) x.1) (fun x => 2 - x.1) (0, bk0, true, 0, 0) ⟨by decide, Nat.zero_le _, rfl, rfl, rfl⟩ rfl ⟨ref0 rfl, ref0 rfl, ref0 rfl, ref0 rfl, ref0 rfl, ref0 rfl, ref0 rfl, trivial⟩ ?_
  rintro ⟨k, x, fine, a, c⟩ ⟨hk, ha, hr⟩
  simp only at hk ha hr ⊢
  match k, hk, hr with
  | 0, _, hr =>
    have h02 : 0 < 2 := by decide
    have cr := rd_Text b s a c 65536 ha hs
    obtain ⟨rfl, rfl, hst⟩ := hr
    focus (
    (refine W.seq ?_)
    (refine W.region ?_)
    (refine Jx.lssI rfl rfl rfl ?_)
    (refine J.nil ?_)
    (refine N.seq ?_)
    (refine W.seq ?_)
    (refine W.cT rfl ?_)
    (refine W.skip ?_)
    (refine N.seq ?_)
    (refine W.seq ?_)
    (refine W.block ?_)
    (refine W.seq ?_)
    (refine W.region ?_)
    (refine Jx.indexEl rfl rfl (by assumption) rfl rfl ?_)
    (refine Jx.loadPPall rfl rfl rfl ?_)
    (refine J.alloc (by simp only [List.map_cons, List.map_nil]; rfl) rfl rfl ?_; intro b')
    (refine J.storeAll rfl rfl rfl 0 rfl rfl rfl ?_)
    (refine J.nil ?_)
    (refine N.seq ?_)
    (refine W.draw follows ?_)
    (refine JD.begin 9 rfl ?_; refine JP.more [0, 1, 2] _ rfl (by decide +kernel) ?_)
    (refine Cx.fieldAddr rfl rfl ?_)
    (refine Cx.load rfl 0 rfl rfl rfl ?_)
    (refine Cx.move rfl rfl ?_)
    (refine SegC.nil ?_)
    (focus (refine JP.perm (List.Perm.trans (List.Perm.cons _ (List.Perm.swap _ _ _)) (List.Perm.swap _ _ _)) ?_; refine JP.call (idx := [0, 1, 2]) (Lc := [rdO b ⟨s, a, c⟩]) 3 [22] [2, 3] [0, 1] cr rfl (by decide +kernel) rfl ?_ (evs_args rfl) rfl ?_; rotate_left); rintro _ _ ⟨t, a', c', rfl, rfl, ha', hb'⟩; simp only [List.cons_append, List.nil_append])
    (focus (refine JP.perm (List.Perm.trans (List.Perm.cons _ (List.Perm.swap _ _ _)) (List.Perm.swap _ _ _)) ?_; refine JP.callV (us := []) (vs := []) (args := [str t, ptr p5]) (idx := [0, 1]) (Lc := [.obj p5 tBk (bkC bk0)]) 4 [21, 23, 5] [0, 1, 2, 3, 4] [] (bhead_ok t (by have := bound_text hb'; omega) p5 bk0) rfl (by decide +kernel) rfl ?_ rfl (evs_args rfl) rfl ?_; rotate_left); rintro _ _ ⟨o, ho, rfl, rfl⟩; simp only [List.cons_append, List.nil_append])
    (refine JP.tail (idx := []) 5 (by decide +kernel) (by decide +kernel) rfl rfl ?_ ?_)
    (refine SegC.nil ?_)
    (refine Ag.nil)
    (refine Jx.move rfl rfl ?_)
    (refine' J.guardAnd rfl rfl rfl rfl rfl rfl rfl rfl (fun _ => ?_) ?_; rotate_left)
    (refine J.gY rfl rfl rfl ?_)
    (refine Jx.move rfl rfl ?_)
    (refine J.nil ?_)
    (refine N.joinedN rfl rfl rfl)
    (refine Jx.assign rfl rfl ?_)
    (refine J.nil ?_)
    (refine N.seq ?_)
    (refine W.region ?_)
    (refine Jx.add64 rfl rfl (by omega) rfl ?_)
    (refine Jx.move rfl rfl ?_)
    (refine J.nil ?_)
    (refine id ?_; rotate_left)
    (refine Cx.fieldAddr rfl rfl ?_)
    (refine Cx.load rfl 2 rfl rfl rfl ?_)
    (refine SegC.nil ?_)
    (refine Ag.cons rfl ?_)
    (refine Ag.cons rfl ?_)
    (refine Ag.nil)
    (refine Cx.fieldAddr rfl rfl ?_)
    (refine Cx.load rfl 1 rfl rfl rfl ?_)
    (refine Cx.move rfl rfl ?_)
    (refine SegC.nil ?_)
    (refine Ag.cons rfl ?_)
    (refine Ag.cons rfl ?_)
    (refine Ag.cons rfl ?_)
    (refine Ag.nil))
    refine N.drop (List.Sublist.cons_cons _ (List.Sublist.cons_cons _ (List.sublist_cons_self _ _))) ?_
    exact N.round (0 + 1, ⟨o.getD hd0, [], ct0⟩, o.isSome && true, a', c') ⟨by simp only; omega, ha', ⟨t, o, by rw [← hst]; exact hb', ho, rfl, Bool.and_true _⟩⟩ (by simp only; omega) rfl ⟨ref0 rfl, ref0 rfl, ref0 rfl, ref0 rfl, ref0 rfl, ref0 rfl, ref0 rfl, trivial⟩
  | 1, _, hr =>
    have h02 : 1 < 2 := by decide
    have cr := rd_Text b s a c 65536 ha hs
    obtain ⟨t1, o1, e1, d1, rfl, rfl⟩ := hr
    focus (
    (refine W.seq ?_)
    (refine W.region ?_)
    (refine Jx.lssI rfl rfl rfl ?_)
    (refine J.nil ?_)
    (refine N.seq ?_)
    (refine W.seq ?_)
    (refine W.cT rfl ?_)
    (refine W.skip ?_)
    (refine N.seq ?_)
    (refine W.seq ?_)
    (refine W.block ?_)
    (refine W.seq ?_)
    (refine W.region ?_)
    (refine Jx.indexEl rfl rfl (by assumption) rfl rfl ?_)
    (refine Jx.loadPPall rfl rfl rfl ?_)
    (refine J.alloc (by simp only [List.map_cons, List.map_nil]; rfl) rfl rfl ?_; intro b')
    (refine J.storeAll rfl rfl rfl 0 rfl rfl rfl ?_)
    (refine J.nil ?_)
    (refine N.seq ?_)
    (refine W.draw follows ?_)
    (refine JD.begin 9 rfl ?_; refine JP.more [0, 1, 2] _ rfl (by decide +kernel) ?_)
    (refine Cx.fieldAddr rfl rfl ?_)
    (refine Cx.load rfl 0 rfl rfl rfl ?_)
    (refine Cx.move rfl rfl ?_)
    (refine SegC.nil ?_)
    (focus (refine JP.perm (List.Perm.trans (List.Perm.cons _ (List.Perm.swap _ _ _)) (List.Perm.swap _ _ _)) ?_; refine JP.call (idx := [0, 1, 2]) (Lc := [rdO b ⟨s, a, c⟩]) 3 [22] [2, 3] [0, 1] cr rfl (by decide +kernel) rfl ?_ (evs_args rfl) rfl ?_; rotate_left); rintro _ _ ⟨t, a', c', rfl, rfl, ha', hb'⟩; simp only [List.cons_append, List.nil_append])
    (focus (refine JP.perm (List.Perm.trans (List.Perm.cons _ (List.Perm.swap _ _ _)) (List.Perm.swap _ _ _)) ?_; refine JP.callV (us := []) (vs := []) (args := [str t, ptr p5]) (idx := [0, 1]) (Lc := [.obj p5 tBk (bkC ⟨o1.getD hd0, [], ct0⟩)]) 4 [21, 23, 5] [0, 1, 2, 3, 4] [] (btxs_ok t (by have := bound_text hb'; omega) p5 ⟨o1.getD hd0, [], ct0⟩) rfl (by decide +kernel) rfl ?_ rfl (evs_args rfl) rfl ?_; rotate_left); rintro _ _ ⟨o, ho, rfl, rfl⟩; simp only [List.cons_append, List.nil_append])
    (refine JP.tail (idx := []) 5 (by decide +kernel) (by decide +kernel) rfl rfl ?_ ?_)
    (refine SegC.nil ?_)
    (refine Ag.nil)
    (refine Jx.move rfl rfl ?_)
    (refine' J.guardAnd rfl rfl rfl rfl rfl rfl rfl rfl (fun _ => ?_) ?_; rotate_left)
    (refine J.gY rfl rfl rfl ?_)
    (refine Jx.move rfl rfl ?_)
    (refine J.nil ?_)
    (refine N.joinedN rfl rfl rfl)
    (refine Jx.assign rfl rfl ?_)
    (refine J.nil ?_)
    (refine N.seq ?_)
    (refine W.region ?_)
    (refine Jx.add64 rfl rfl (by omega) rfl ?_)
    (refine Jx.move rfl rfl ?_)
    (refine J.nil ?_)
    (refine id ?_; rotate_left)
    (refine Cx.fieldAddr rfl rfl ?_)
    (refine Cx.load rfl 2 rfl rfl rfl ?_)
    (refine SegC.nil ?_)
    (refine Ag.cons rfl ?_)
    (refine Ag.cons rfl ?_)
    (refine Ag.nil)
    (refine Cx.fieldAddr rfl rfl ?_)
    (refine Cx.load rfl 1 rfl rfl rfl ?_)
    (refine Cx.move rfl rfl ?_)
    (refine SegC.nil ?_)
    (refine Ag.cons rfl ?_)
    (refine Ag.cons rfl ?_)
    (refine Ag.cons rfl ?_)
    (refine Ag.nil))
    refine N.drop (List.Sublist.cons_cons _ (List.Sublist.cons_cons _ (List.sublist_cons_self _ _))) ?_
    exact N.round (1 + 1, ⟨o1.getD hd0, o.getD [], ct0⟩, o.isSome && o1.isSome, a', c') ⟨by simp only; omega, ha', ⟨t1, _, t, o1, o, e1, d1, hb', ho, rfl, rfl⟩⟩ (by simp only; omega) rfl ⟨ref0 rfl, ref0 rfl, ref0 rfl, ref0 rfl, ref0 rfl, ref0 rfl, ref0 rfl, trivial⟩
  | 2, _, hr =>
    have cfl := rd_Flag b s a c ha hs
    have hjs : x.just = ct0 := by obtain ⟨_, _, _, o1, o2, _, _, _, _, h, _⟩ := hr; rw [h]
    have hsk : x.head.skips.length ≤ 1048576 := by obtain ⟨_, _, _, o1, o2, _, d1, _, _, h, _⟩ := hr; rw [h]; exact dec_skips d1
    obtain ⟨xh, xt, xj⟩ := x
    simp only at hjs hsk
    subst hjs
    focus (
    (refine W.seq ?_)
    (refine W.region ?_)
    (refine Jx.lssI rfl rfl rfl ?_)
    (refine J.nil ?_)
    (refine N.seq ?_)
    (refine W.seq ?_)
    (refine W.cF rfl ?_)
    (refine W.exit ?_)
    (refine N.seq ?_)
    (refine W.seq ?_)
    (refine W.seq ?_)
    (refine W.region ?_)
    (refine Jx.move rfl rfl ?_)
    (refine J.call1 1 (cfl) rfl (evs_args rfl) rfl (by rintro _ _ ⟨f, a1, c1, rfl, rfl, ha1, hfl⟩; exact ⟨_, rfl⟩) ?_; rintro _ _ ⟨f, a1, c1, rfl, ⟨⟩, ha1, hfl⟩; simp only [List.set_cons_zero, List.set_cons_succ])
    (refine J.nil ?_)
    (refine N.seq ?_)
    (refine id ?_; rotate_left))
    refine W.joinE (α := Ct × Bool × Bool × Nat × Int) (fun y => [(6, bool (y.2.1 && fine)), (5, ptr p5), (4, ptr b), (2, ptr p2)]) (fun y => [.obj p5 tBk (bkC ⟨xh, xt, y.1⟩), rdO b ⟨s, y.2.2.2.1, y.2.2.2.2⟩, .obj p2 tBk bkz]) (fun y => y.2.2.2.1 ≤ s.length ∧ JustR 65536 (lf s a c) y.1 y.2.1 (lf s y.2.2.2.1 y.2.2.2.2)) ?_ ?_
    · cases f with
      | false =>
        focus (
    (refine W.cF rfl ?_)
    (refine W.skip ?_)
    (refine id ?_; rotate_left))
        exact N.joinE (ct0, true, true, a1, c1) ⟨ha1, _, _, hfl, fun _ => ⟨rfl, rfl, rfl⟩, fun h => by cases h⟩ rfl ⟨ref0 rfl, ref0 rfl, ref0 rfl, ref0 rfl, trivial⟩
      | true =>
        have cr := rd_Text b s a1 c1 65536 ha1 hs
        focus (
    (refine W.cT rfl ?_)
    (refine W.seq ?_)
    (refine W.region ?_)
    (refine Jx.buildB rfl rfl rfl rfl rfl ?_)
    (refine J.alloc (by simp only [List.map_cons, List.map_nil]; rfl) rfl rfl ?_; intro b')
    (refine J.storeAll rfl rfl rfl 0 rfl rfl rfl ?_)
    (refine J.nil ?_)
    (refine N.seq ?_)
    (refine W.draw follows ?_)
    (refine JD.begin 9 rfl ?_; refine JP.more [0, 1, 2] _ rfl (by decide +kernel) ?_)
    (refine Cx.fieldAddr rfl rfl ?_)
    (refine Cx.load rfl 0 rfl rfl rfl ?_)
    (refine Cx.move rfl rfl ?_)
    (refine SegC.nil ?_)
    (focus (refine JP.perm (List.Perm.trans (List.Perm.cons _ (List.Perm.swap _ _ _)) (List.Perm.swap _ _ _)) ?_; refine JP.call (idx := [0, 1, 2]) (Lc := [rdO b ⟨s, a1, c1⟩]) 3 [34] [2, 3] [0, 1] cr rfl (by decide +kernel) rfl ?_ (evs_args rfl) rfl ?_; rotate_left); rintro _ _ ⟨t, a', c', rfl, rfl, ha', hb'⟩; simp only [List.cons_append, List.nil_append])
    (focus (refine JP.perm (List.Perm.trans (List.Perm.cons _ (List.Perm.swap _ _ _)) (List.Perm.swap _ _ _)) ?_; refine JP.callV (us := []) (vs := []) (args := [str t, ptr p5]) (idx := [0, 1]) (Lc := [.obj p5 tBk (bkC ⟨xh, xt, ct0⟩)]) 4 [33, 35, 5] [0, 1, 2, 3, 4] [] (bjust_ok t (by have := bound_text hb'; omega) p5 ⟨xh, xt, ct0⟩) rfl (by decide +kernel) rfl ?_ rfl (evs_args rfl) rfl ?_; rotate_left); rintro _ _ ⟨o, ho, rfl, rfl⟩; simp only [List.cons_append, List.nil_append])
    (refine JP.tail (idx := []) 5 (by decide +kernel) (by decide +kernel) rfl rfl ?_ ?_)
    (refine SegC.nil ?_)
    (refine Ag.nil)
    (refine Jx.move rfl rfl ?_)
    (refine' J.guardAnd rfl rfl rfl rfl rfl rfl rfl rfl (fun _ => ?_) ?_; rotate_left)
    (refine J.gY rfl rfl rfl ?_)
    (refine Jx.move rfl rfl ?_)
    (refine J.nil ?_)
    (refine N.joinedN rfl rfl rfl)
    (refine Jx.assign rfl rfl ?_)
    (refine J.nil ?_)
    (refine id ?_; rotate_left)
    (refine Cx.fieldAddr rfl rfl ?_)
    (refine Cx.load rfl 2 rfl rfl rfl ?_)
    (refine SegC.nil ?_)
    (refine Ag.cons rfl ?_)
    (refine Ag.cons rfl ?_)
    (refine Ag.nil)
    (refine Cx.fieldAddr rfl rfl ?_)
    (refine Cx.load rfl 1 rfl rfl rfl ?_)
    (refine Cx.move rfl rfl ?_)
    (refine SegC.nil ?_)
    (refine Ag.cons rfl ?_)
    (refine Ag.cons rfl ?_)
    (refine Ag.cons rfl ?_)
    (refine Ag.nil))
        refine N.drop (List.Sublist.cons_cons _ (List.Sublist.cons_cons _ (List.sublist_cons_self _ _))) ?_
        exact N.joinE (o.getD ct0, o.isSome, true, a', c') ⟨ha', _, _, hfl, (fun h => by cases h), fun _ => ⟨t, o, hb', ho, rfl, rfl⟩⟩ rfl ⟨ref0 rfl, ref0 rfl, ref0 rfl, ref0 rfl, trivial⟩
    · rintro ⟨c3, k3, _, a3, cc3⟩ ⟨ha3, hj⟩
      simp only at ha3 hj ⊢
      obtain ⟨k1, k2, hrd, hfine⟩ := PartR.read hr hj
      simp only at hrd
      have ce := rd_End b s a3 cc3 ha3 hs
      have ck := bcheck_ok ⟨xh, xt, c3⟩ hsk
      focus (
    (refine N.seq ?_)
    (refine W.seq ?_)
    (refine W.seq ?_)
    (refine W.region ?_)
    (refine Jx.move rfl rfl ?_)
    (refine J.call1 1 (ce) rfl (evs_args rfl) rfl (by rintro _ _ ⟨e, a4, c4, rfl, rfl, he⟩; exact ⟨_, rfl⟩) ?_; rintro _ _ ⟨e, a4, c4, rfl, ⟨⟩, he⟩; simp only [List.set_cons_zero, List.set_cons_succ])
    (refine Jx.neqI rfl rfl rfl ?_)
    (refine Jx.move rfl rfl ?_)
    (refine' J.guardOr rfl rfl rfl rfl rfl rfl rfl rfl (fun _ => ?_) ?_; rotate_left)
    (refine J.gY rfl rfl rfl ?_)
    (refine Jx.move rfl rfl ?_)
    (refine J.gY rfl rfl rfl ?_)
    (refine Jx.not rfl rfl ?_)
    (refine J.nil ?_)
    (refine N.joinedN rfl rfl rfl)
    (refine Jx.move rfl rfl ?_)
    (refine' J.guardOr rfl rfl rfl rfl rfl rfl rfl rfl (fun _ => ?_) ?_; rotate_left)
    (refine J.gY rfl rfl rfl ?_)
    (refine Jx.loadAll rfl 0 rfl rfl rfl ?_)
    (refine J.gY rfl rfl rfl ?_)
    (refine J.call (Lc := []) ck rfl (evs_args rfl) rfl ?_; rintro _ _ ⟨rfl, rfl⟩; simp only [List.cons_append, List.nil_append, List.append_nil])
    (refine J.gY rfl rfl rfl ?_)
    (refine Jx.neqI rfl rfl rfl ?_)
    (refine J.nil ?_)
    (refine N.joinedN rfl rfl rfl)
    (refine J.nil ?_)
    (refine N.seq ?_)
    (refine id ?_; rotate_left))
      refine W.cond rfl (fun hb => ?_) (fun hb => ?_)
      · focus (
    (refine W.seq ?_)
    (refine W.region ?_)
    (refine Jx.buildB rfl rfl rfl rfl rfl ?_)
    (refine J.storeAll rfl rfl rfl 2 rfl rfl rfl ?_)
    (refine Jx.assign rfl rfl ?_)
    (refine J.nil ?_)
    (refine N.seq ?_)
    (refine W.ret ?_)
    (refine N.noGotoRet ?_)
    (refine id ?_; rotate_left))
        refine N.objSub 2 (bkC bk0) rfl bkz_sub rfl ?_
        refine N.retD (rs := [.cell 2 tBk, .tmp 3]) (L1 := []) rfl (.cell rfl 2 rfl agBk (.tmp rfl .nil)) (List.nil_sublist _) ⟨⟨none, fun y hy hz => ?_, rfl⟩, rfl⟩
        obtain ⟨rfl, h1, h2, h3, h4⟩ := hrd.whole (by decide) ((fineBk_iff y).1 hy) (r := []) (by rw [List.append_nil, hz])
        rw [he.2 h4, hy, hfine, h1, h2, h3] at hb
        simp at hb
      · focus (
    (refine W.skip ?_)
    (refine N.seq ?_)
    (refine W.seq ?_)
    (refine W.region ?_)
    (refine Jx.loadAll rfl 0 rfl rfl rfl ?_)
    (refine J.storeAll rfl rfl rfl 2 rfl rfl rfl ?_)
    (refine Jx.assign rfl rfl ?_)
    (refine J.nil ?_)
    (refine N.seq ?_)
    (refine W.ret ?_)
    (refine id ?_; rotate_left))
        refine N.retD (rs := [.cell 2 tBk, .tmp 3]) (L1 := []) rfl (.cell rfl 2 rfl agBk (.tmp rfl .nil)) (List.nil_sublist _) ⟨⟨some ⟨xh, xt, c3⟩, ?_, rfl⟩, rfl⟩
        simp only [Bool.or_eq_false_iff, decide_eq_false_iff_not, Classical.not_not, Bool.not_eq_false', Bool.and_eq_true] at hb
        obtain ⟨⟨b1, b2, b3⟩, b4⟩ := hb
        have hf : fineBk ⟨xh, xt, c3⟩ = true := by
          cases hf : fineBk ⟨xh, xt, c3⟩ with
          | true => rfl
          | false => rw [hf] at b4; simp at b4
        rw [hfine, Bool.and_eq_true] at b3
        rw [he.1 b1, b3.1, b3.2, b2] at hrd
        exact ⟨hf, hrd.sound⟩
end Go.Proofs.YtlfdhkahiaammaaDoor
namespace Go.Sse
open Go
set_option linter.unusedVariables false
set_option linter.unusedSimpArgs false
structure FnD (P : Program) [Gl P] (f : Nat) (args : List SV) (L : List Own) (R : SV → List Own → Prop) : Prop where
  go : ∀ (Z : Nat → Prop) (w : World) (vs : List Value), vs.length = args.length → (∀ j, j < args.length → Rel (ZL Z L) w (args.getD j .any) (vs.getD j undef)) →
    (∀ b, Z b → b < w.heap.size) → (foots L).Nodup → (∀ b, inF L b → ¬ Z b) → (∀ o ∈ L, o.holds (ZL Z L) w) →
    (∀ x ∈ Gl.gl P, x.1 < w.heap.size ∧ ¬ inF L x.1 ∧ ∀ i v, x.2[i]? = some v → w.cell? ⟨x.1, i, none⟩ = some v) → ∀ u, CallsD P f vs.toArray u w (fun e u' w' => u' = u ∧ RetP Z w L R e w')
theorem FnD.intro {P : Program} [Gl P] {f : Nat} {fn : Func} {c : Code} {args : List SV} {L : List Own} {R : SV → List Own → Prop} {n : Nat} (hf : P.funcs[f]? = some fn) (hb : fn.body = some c)
    (hn : fn.ntmps = n) (ha : Nat.ble args.length n = true) (h : ∀ Z w0, Globs P ⟨Z, w0, inF L, n, []⟩ → W P ⟨Z, w0, inF L, n, []⟩ (bodyPost P fn (RetP Z w0 L R)) (argF 0 args) L c) : FnD P f args L R := by
  have ha := Nat.le_of_ble_eq_true ha
  refine ⟨fun Z w vs hl hr hz hnd hd ho hgl u => callsD_of_wp hf hb ?_⟩
  refine (h Z w ⟨hgl⟩).go _ _ ⟨⟨rfl, rfl, rfl, Nat.le_refl _, fun _ _ _ => rfl, hz, hnd, fun b hi => ⟨hd b hi, .inl hi⟩, ho⟩, ?_, rfl, ?_⟩
  · subst hn; simp; omega
  · intro i s hi
    obtain ⟨j, rfl, hj⟩ := look_argF args 0 i s hi
    have hlt : j < args.length := by
      rcases Nat.lt_or_ge j args.length with h | h
      · exact h
      · simp [List.getElem?_eq_none h] at hj
    have := hr j hlt
    rw [List.getD_eq_getElem?_getD, hj] at this
    have hg : (vs.toArray ++ Array.replicate (fn.ntmps - vs.toArray.size) undef).getD (0 + j) undef = vs.getD j undef := by
      rw [Array.getD_eq_getD_getElem?, Array.getElem?_append_left (by simp; omega)]
      simp [List.getD_eq_getElem?_getD]
    show Rel _ _ _ ((vs.toArray ++ Array.replicate (fn.ntmps - vs.toArray.size) undef).getD (0 + j) undef)
    rw [hg]
    exact this
theorem FnC.introD {P : Program} [Gl P] {f : Nat} {fn : Func} {c : Code} {args : List SV} {L : List Own} {R : SV → List Own → Prop} {n : Nat} (hf : P.funcs[f]? = some fn) (hb : fn.body = some c)
    (hn : fn.ntmps = n) (ha : Nat.ble args.length n = true) (h : ∀ Z w0, Globs P ⟨Z, w0, inF L, n, []⟩ → W P ⟨Z, w0, inF L, n, []⟩ (bodyPostD P fn (RetP Z w0 L R)) (argF 0 args) L c) : FnC P f args L R := by
  have ha := Nat.le_of_ble_eq_true ha
  refine ⟨fun Z w vs hl hr hz hnd hd ho hgl => calls_of_wp_defers hf hb ?_⟩
  refine (h Z w ⟨hgl⟩).go _ _ ⟨⟨rfl, rfl, rfl, Nat.le_refl _, fun _ _ _ => rfl, hz, hnd, fun b hi => ⟨hd b hi, .inl hi⟩, ho⟩, ?_, rfl, ?_⟩
  · subst hn; simp; omega
  · intro i s hi
    obtain ⟨j, rfl, hj⟩ := look_argF args 0 i s hi
    have hlt : j < args.length := by
      rcases Nat.lt_or_ge j args.length with h | h
      · exact h
      · simp [List.getElem?_eq_none h] at hj
    have := hr j hlt
    rw [List.getD_eq_getElem?_getD, hj] at this
    have hg : (vs.toArray ++ Array.replicate (fn.ntmps - vs.toArray.size) undef).getD (0 + j) undef = vs.getD j undef := by
      rw [Array.getD_eq_getD_getElem?, Array.getElem?_append_left (by simp; omega)]
      simp [List.getD_eq_getElem?_getD]
    show Rel _ _ _ ((vs.toArray ++ Array.replicate (fn.ntmps - vs.toArray.size) undef).getD (0 + j) undef)
    rw [hg]
    exact this
instance {P : Program} [Gl P] {Z Fp : Nat → Prop} {w0 : World} {n : Nat} {d : Deferred} {df : List Deferred} [h : Globs P ⟨Z, w0, Fp, n, []⟩] : Globs P ⟨Z, w0, Fp, n, d :: df⟩ := ⟨h.ok⟩
theorem WSt.df {Z Fp : Nat → Prop} {w0 : World} {n : Nat} {df df' : List Deferred} {L : List Own} {w : World} (h : WSt ⟨Z, w0, Fp, n, df⟩ L w) : WSt ⟨Z, w0, Fp, n, df'⟩ L w :=
  ⟨h.os, h.tape, h.output, h.size, h.keep, h.zlt, h.nodup, h.foot, h.holds⟩
theorem callsD_at {P : Program} [Gl P] {Γ : Ctx} [hG : Globs P Γ] {Lc Lr : List Own} {w : World} {f : Nat} {args : List SV} {R : SV → List Own → Prop} {vs : List Value} (hF : FnD P f args Lc R) (hws : WSt Γ (Lc ++ Lr) w)
    (hl : vs.length = args.length) (hr : ∀ j, j < args.length → Rel (ZL Γ.Z (Lc ++ Lr)) w (args.getD j .any) (vs.getD j undef)) (u : FrameMode) :
    CallsD P f vs.toArray u w fun e u' w' => u' = u ∧ ∃ v s L', e = .returned v ∧ R s L' ∧ Step Γ (Lc ++ Lr) (L' ++ Lr) w w' := by
  have hz : ∀ b, ZL (ZL Γ.Z Lr) Lc b → ZL Γ.Z (Lc ++ Lr) b := by
    intro b
    simp only [ZL, inF_append]
    rintro ((h | h) | h) <;> simp [h]
  have hnd := hws.nodup
  rw [foots_append, List.nodup_append] at hnd
  have hw : ∀ b, b < w.heap.size → ¬ ZL Γ.Z (Lc ++ Lr) b → w.heap[b]? = w.heap[b]? ∧ ¬ ZL (ZL Γ.Z Lr) Lc b := fun b _ hn => ⟨rfl, fun h => hn (hz b h)⟩
  refine (hF.go (ZL Γ.Z Lr) w vs hl (fun j hj => (hr j hj).stable hw) ?_ hnd.1 ?_ ?_ (fun x hx => ?_) u).mono ?_
  · rintro b (h | h)
    · exact Nat.lt_of_lt_of_le (hws.zlt b h) hws.size
    · exact hws.foot_lt (inF_append.2 (.inr h) : inF (Lc ++ Lr) b)
  · rintro b h (h' | h')
    · exact (hws.foot b (inF_append.2 (.inl h))).1 h'
    · exact hnd.2.2 b h b h' rfl
  · exact fun o ho => Own.stable (hws.holds o (List.mem_append.2 (.inl ho))) (fun _ _ => rfl) (Nat.le_refl _) hw
  · obtain ⟨h1, h2, h3⟩ := Globs.at (P := P) hws hx
    exact ⟨h1, fun hi => h2 (inF_append.2 (.inl hi)), h3⟩
  · rintro e u' w' ⟨rfl, v, s, L', rfl, hR, hrel, hp⟩
    obtain ⟨h1, h2⟩ := call_step (P := P) (R := R) hws hrel hp
    exact ⟨rfl, v, s, L', rfl, hR, h1⟩
section
variable {P : Program} {ops : Array Oper} {Q : Exit → Act → World → Prop} {F : List (Nat × SV)} {L : List Own} {rest : List Oper} {Z Fp : Nat → Prop} {w0 : World} {n : Nat} {df : List Deferred}
theorem J.defer {ty : TypeId} {pos : String} {aft : Array Edge} {t : Operand} {ts : Array TypeId} {f : FuncId} {us vs : List Value} (ht : ev F t = some (.val (.func (.func f) us.toArray vs.toArray)))
    (k : J P ⟨Z, w0, Fp, n, ⟨.fn (.func f) vs.toArray, us.toArray⟩ :: df⟩ ops Q F L rest) : J P ⟨Z, w0, Fp, n, df⟩ ops Q F L (⟨none, .defer { callee := .value t, args := #[], argTypes := ts }, ty, pos, aft, none⟩ :: rest) :=
  ⟨fun a w hst => wpList_plain rfl fun K hK => by
    unfold Oper.wp
    have he : (execOp a.eval ⟨none, .defer { callee := .value t, args := #[], argTypes := ts }, ty, pos, aft, none⟩).run P w = .ok (.defer ⟨.fn (.func f) vs.toArray, us.toArray⟩) w := by
      simp [execOp, resolve, hst.evv ht, Deferred.ofValue]
    rw [he, Oper.upon_defer]
    exact hK _ _ (k.go _ _ ⟨hst.ws.df, hst.nt, by simp [Act.put, hst.df], hst.fr⟩)⟩
variable {L0 : List Own} {R : SV → List Own → Prop} {fn : Func}
theorem N.leave0 (h : N ⟨Z, w0, inF L0, n, []⟩ (bodyPost P fn (RetP Z w0 L0 R) .ret) F L) : N ⟨Z, w0, inF L0, n, []⟩ (bodyPostD P fn (RetP Z w0 L0 R) .ret) F L :=
  ⟨fun a w hst => by
    obtain ⟨hd, v, hr, hR⟩ := h.go a w hst
    show Leaves P fn a.tmps _ a.defers .returning w
    rw [hd]
    exact ⟨v, hr, hR⟩⟩
theorem N.leave1 [Gl P] [Globs P ⟨Z, w0, inF L0, n, []⟩] {f : Nat} [hT : TFunc P f] {us vs : List Value} {Lc Lr : List Own} {R1 : SV → List Own → Prop} (hF : FnD P f (us.map .val ++ vs.map .val) Lc R1) (hL : L = Lc ++ Lr)
    (h : ∀ s Lc', R1 s Lc' → N ⟨Z, w0, inF L0, n, []⟩ (bodyPost P fn (RetP Z w0 L0 R) .ret) F (Lc' ++ Lr)) : N ⟨Z, w0, inF L0, n, [⟨.fn (.func f) vs.toArray, us.toArray⟩]⟩ (bodyPostD P fn (RetP Z w0 L0 R) .ret) F L :=
  ⟨fun a w hst => by
    subst hL
    show Leaves P fn a.tmps _ a.defers .returning w
    rw [hst.df]
    refine leaves_cons (by simp) (f := f) (args := (us ++ vs).toArray) (by simp [invoke, run_callFunc hT]) ?_
    refine (callsD_at hF hst.ws (vs := us ++ vs) (by simp) (fun j hj => ?_) .returning).mono ?_
    · rw [← List.map_append]
      simp only [List.getD_eq_getElem?_getD, List.getElem?_map]
      rw [← List.map_append, List.length_map] at hj
      rw [List.getElem?_eq_getElem hj]
      exact .val _
    · rintro e u' w' ⟨rfl, v, s, L', rfl, hR1, hs⟩
      have hst' : St ⟨Z, w0, inF L0, n, []⟩ F (L' ++ Lr) { a with defers := [] } w' := ⟨hs.ws.df, hst.nt, rfl, fun i t hl => hs.rel (hst.fr i t hl)⟩
      obtain ⟨_, v', hr, hR⟩ := (h s L' hR1).go _ _ hst'
      exact ⟨v', hr, hR⟩⟩
end
end Go.Sse
namespace Go.Proofs.YtlfdhkahiaammaaDoor
open Go Go.Sse
set_option linter.unusedVariables false
set_option linter.unusedSimpArgs false
set_option maxRecDepth 10000
abbrev tMs : Nat := 48
theorem agMs : TAg Tryd.prog tMs 21 := inferInstance
abbrev msz : List SV := [int 0, str [], int 0, int 0, str [], int 0, int 0, int 0, bool false, str [], str [], str [], str [], str [], str [], .val (.slice none 0 0), .val (.slice none 0 0), str [], .val (.slice none 0 0), str [], .val (.slice none 0 0)]
theorem msz_sub : SubL msz (msC ms0) := .cons (.refl _) (.cons (.refl _) (.cons (.refl _) (.cons (.refl _) (.cons (.refl _) (.cons (.refl _) (.cons (.refl _) (.cons (.refl _) (.cons (.refl _) (.cons (.refl _) (.cons (.refl _) (.cons (.refl _) (.cons (.refl _) (.cons (.refl _) (.cons (.refl _) (.cons (Sub.nil 1 _) (.cons (Sub.nil 8 _) (.cons (.refl _) (.cons (Sub.nil 1 _) (.cons (.refl _) (.cons (Sub.nil 1 _) .nil))))))))))))))))))))
theorem bk0_iff (b : Bk) : b = bk0 ↔ (b.head.height = 0 ∧ b.head.epoch = 0 ∧ b.head.view = 0 ∧ b.head.last = false ∧ b.head.parent = [] ∧ b.head.state = [] ∧ b.head.receipts = [] ∧ b.head.txs = [] ∧ b.head.members = [] ∧ b.head.next = [] ∧ (b.head.skips.length : Int) = 0) ∧ (b.txs.length : Int) = 0 ∧ bareCt b.just = true := by
  constructor
  · intro h; subst h; simp [bk0, hd0, bareCt, ct0]
  · rintro ⟨⟨h1, h2, h3, h4, h5, h6, h7, h8, h9, h10, h11⟩, h12, h13⟩
    refine Bk.ext' ?_ (len0 h12) (bare_eq h13)
    obtain ⟨⟨a1, a2, a3, a4, a5, a6, a7, a8, a9, a10, a11⟩, q, r⟩ := b
    simp only at h1 h2 h3 h4 h5 h6 h7 h8 h9 h10 h11
    rw [h1, h2, h3, h4, h5, h6, h7, h8, h9, h10, len0 h11]
    rfl
set_option maxHeartbeats 4000000 in
theorem vempty_ok (b : Bk) : FnC Tryd.prog 82 [.agg (bkC b)] [] (fun v L => v = bool (decide (b = bk0)) ∧ L = []) := by
  have c := vbare_ok b.just
  refine FnC.intro Tryd.func82 rfl Tryd.ntmps82 rfl fun Z w0 hG => ?_
  focus (
    (refine W.seq ?_)
    (refine W.region ?_)
    (refine J.boxAg rfl rfl ?_; intro b')
    (refine Jx.assign rfl rfl ?_)
    (refine J.nil ?_)
    (refine N.seq ?_)
    (refine W.seq ?_)
    (refine W.region ?_)
    (refine Jx.fieldAddr rfl rfl ?_)
    (refine Jx.loadAg rfl 0 rfl rfl rfl rfl ?_)
    (refine J.alloc (by simp only [List.map_cons, List.map_nil]; rfl) rfl rfl ?_; intro b')
    (refine J.storeAll rfl rfl rfl 0 rfl rfl rfl ?_)
    (refine J.nil ?_)
    (refine N.seq ?_)
    (refine W.seq ?_)
    (refine W.region ?_)
    (refine Jx.fieldAddr rfl rfl ?_)
    (refine Jx.load rfl 0 rfl rfl rfl ?_)
    (refine Jx.eqlI rfl rfl rfl ?_)
    (refine Jx.move rfl rfl ?_)
    (refine' J.guardAnd rfl rfl rfl rfl rfl rfl rfl rfl (fun _ => ?_) ?_; rotate_left)
    (refine J.gY rfl rfl rfl ?_)
    (refine Jx.fieldAddr rfl rfl ?_)
    (refine J.gY rfl rfl rfl ?_)
    (refine Jx.load rfl 0 rfl rfl rfl ?_)
    (refine J.gY rfl rfl rfl ?_)
    (refine Jx.eqlI rfl rfl rfl ?_)
    (refine J.nil ?_)
    (refine N.joinedN rfl rfl rfl)
    (refine Jx.move rfl rfl ?_)
    (refine' J.guardAnd rfl rfl rfl rfl rfl rfl rfl rfl (fun _ => ?_) ?_; rotate_left)
    (refine J.gY rfl rfl rfl ?_)
    (refine Jx.fieldAddr rfl rfl ?_)
    (refine J.gY rfl rfl rfl ?_)
    (refine Jx.load rfl 0 rfl rfl rfl ?_)
    (refine J.gY rfl rfl rfl ?_)
    (refine Jx.eqlI rfl rfl rfl ?_)
    (refine J.nil ?_)
    (refine N.joinedN rfl rfl rfl)
    (refine Jx.move rfl rfl ?_)
    (refine' J.guardAnd rfl rfl rfl rfl rfl rfl rfl rfl (fun _ => ?_) ?_; rotate_left)
    (refine J.gY rfl rfl rfl ?_)
    (refine Jx.fieldAddr rfl rfl ?_)
    (refine J.gY rfl rfl rfl ?_)
    (refine Jx.load rfl 0 rfl rfl rfl ?_)
    (refine J.gY rfl rfl rfl ?_)
    (refine Jx.not rfl rfl ?_)
    (refine J.nil ?_)
    (refine N.joinedN rfl rfl rfl)
    (refine Jx.move rfl rfl ?_)
    (refine' J.guardAnd rfl rfl rfl rfl rfl rfl rfl rfl (fun _ => ?_) ?_; rotate_left)
    (refine J.gY rfl rfl rfl ?_)
    (refine Jx.fieldAddr rfl rfl ?_)
    (refine J.gY rfl rfl rfl ?_)
    (refine Jx.load rfl 0 rfl rfl rfl ?_)
    (refine J.gY rfl rfl rfl ?_)
    (refine Jx.eqlS rfl rfl rfl ?_)
    (refine J.nil ?_)
    (refine N.joinedN rfl rfl rfl)
    (refine Jx.move rfl rfl ?_)
    (refine' J.guardAnd rfl rfl rfl rfl rfl rfl rfl rfl (fun _ => ?_) ?_; rotate_left)
    (refine J.gY rfl rfl rfl ?_)
    (refine Jx.fieldAddr rfl rfl ?_)
    (refine J.gY rfl rfl rfl ?_)
    (refine Jx.load rfl 0 rfl rfl rfl ?_)
    (refine J.gY rfl rfl rfl ?_)
    (refine Jx.eqlS rfl rfl rfl ?_)
    (refine J.nil ?_)
    (refine N.joinedN rfl rfl rfl)
    (refine Jx.move rfl rfl ?_)
    (refine' J.guardAnd rfl rfl rfl rfl rfl rfl rfl rfl (fun _ => ?_) ?_; rotate_left)
    (refine J.gY rfl rfl rfl ?_)
    (refine Jx.fieldAddr rfl rfl ?_)
    (refine J.gY rfl rfl rfl ?_)
    (refine Jx.load rfl 0 rfl rfl rfl ?_)
    (refine J.gY rfl rfl rfl ?_)
    (refine Jx.eqlS rfl rfl rfl ?_)
    (refine J.nil ?_)
    (refine N.joinedN rfl rfl rfl)
    (refine Jx.assign rfl rfl ?_)
    (refine J.nil ?_)
    (refine N.seq ?_)
    (refine W.seq ?_)
    (refine W.region ?_)
    (refine Jx.fieldAddr rfl rfl ?_)
    (refine Jx.load rfl 0 rfl rfl rfl ?_)
    (refine Jx.eqlS rfl rfl rfl ?_)
    (refine Jx.move rfl rfl ?_)
    (refine' J.guardAnd rfl rfl rfl rfl rfl rfl rfl rfl (fun _ => ?_) ?_; rotate_left)
    (refine J.gY rfl rfl rfl ?_)
    (refine Jx.fieldAddr rfl rfl ?_)
    (refine J.gY rfl rfl rfl ?_)
    (refine Jx.load rfl 0 rfl rfl rfl ?_)
    (refine J.gY rfl rfl rfl ?_)
    (refine Jx.eqlS rfl rfl rfl ?_)
    (refine J.nil ?_)
    (refine N.joinedN rfl rfl rfl)
    (refine Jx.move rfl rfl ?_)
    (refine' J.guardAnd rfl rfl rfl rfl rfl rfl rfl rfl (fun _ => ?_) ?_; rotate_left)
    (refine J.gY rfl rfl rfl ?_)
    (refine Jx.fieldAddr rfl rfl ?_)
    (refine J.gY rfl rfl rfl ?_)
    (refine Jx.load rfl 0 rfl rfl rfl ?_)
    (refine J.gY rfl rfl rfl ?_)
    (refine Jx.eqlS rfl rfl rfl ?_)
    (refine J.nil ?_)
    (refine N.joinedN rfl rfl rfl)
    (refine Jx.move rfl rfl ?_)
    (refine' J.guardAnd rfl rfl rfl rfl rfl rfl rfl rfl (fun _ => ?_) ?_; rotate_left)
    (refine J.gY rfl rfl rfl ?_)
    (refine Jx.fieldAddr rfl rfl ?_)
    (refine J.gY rfl rfl rfl ?_)
    (refine Jx.load rfl 0 rfl rfl rfl ?_)
    (refine J.gY rfl rfl rfl ?_)
    (refine Jx.lenSl rfl rfl ?_)
    (refine J.gY rfl rfl rfl ?_)
    (refine Jx.eqlI rfl rfl rfl ?_)
    (refine J.nil ?_)
    (refine N.joinedN rfl rfl rfl)
    (refine Jx.assign rfl rfl ?_)
    (refine J.nil ?_)
    (refine N.seq ?_)
    (refine W.seq ?_)
    (refine W.region ?_)
    (refine Jx.move rfl rfl ?_)
    (refine Jx.move rfl rfl ?_)
    (refine' J.guardAnd rfl rfl rfl rfl rfl rfl rfl rfl (fun _ => ?_) ?_; rotate_left)
    (refine J.gY rfl rfl rfl ?_)
    (refine Jx.move rfl rfl ?_)
    (refine J.nil ?_)
    (refine N.joinedN rfl rfl rfl)
    (refine Jx.move rfl rfl ?_)
    (refine' J.guardAnd rfl rfl rfl rfl rfl rfl rfl rfl (fun _ => ?_) ?_; rotate_left)
    (refine J.gY rfl rfl rfl ?_)
    (refine Jx.fieldAddr rfl rfl ?_)
    (refine J.gY rfl rfl rfl ?_)
    (refine Jx.load rfl 1 rfl rfl rfl ?_)
    (refine J.gY rfl rfl rfl ?_)
    (refine Jx.lenSl rfl rfl ?_)
    (refine J.gY rfl rfl rfl ?_)
    (refine Jx.eqlI rfl rfl rfl ?_)
    (refine J.nil ?_)
    (refine N.joinedN rfl rfl rfl)
    (refine Jx.move rfl rfl ?_)
    (refine' J.guardAnd rfl rfl rfl rfl rfl rfl rfl rfl (fun _ => ?_) ?_; rotate_left)
    (refine J.gY rfl rfl rfl ?_)
    (refine Jx.fieldAddr rfl rfl ?_)
    (refine J.gY rfl rfl rfl ?_)
    (refine Jx.loadAg rfl 1 rfl rfl rfl rfl ?_)
    (refine J.gY rfl rfl rfl ?_)
    (refine J.call (c) rfl (evs_args rfl) rfl ?_; rintro _ _ ⟨rfl, rfl⟩; simp only [List.cons_append, List.nil_append, List.append_nil])
    (refine J.nil ?_)
    (refine N.joinedN rfl rfl rfl)
    (refine Jx.assign rfl rfl ?_)
    (refine J.nil ?_)
    (refine N.seq ?_)
    (refine W.ret ?_)
    (refine id ?_; rotate_left))
  refine N.retD (rs := [.tmp 2]) (L1 := []) rfl (.tmp rfl .nil) (List.nil_sublist _) ⟨congrArg Sse.bool ?_, rfl⟩
  rw [Bool.eq_iff_iff, decide_eq_true_iff, bk0_iff]
  simp only [Bool.and_eq_true, decide_eq_true_eq, Bool.not_eq_true']
  constructor
  · intro h; simp only [h, and_self]
  · intro h; simp only [h, and_self]
set_option maxHeartbeats 4000000 in
theorem vfits_ok (m : Ms) (hl : m.block.head.skips.length ≤ 1048576) : FnC Tryd.prog 57 [.agg (msC m)] [] (fun v L => v = bool (fitsM m) ∧ L = []) := by
  have c1 := vbare_ok m.cert
  have c2 := cencode_ok m.cert
  have c3 := bcheck_ok m.block hl
  have c4 := vempty_ok m.block
  have e32 : decide ((m.digest.length : Int) = 32) = decide (m.digest.length = 32) := decide_eq_decide.2 (by omega)
  generalize hE : encO fineCt encCt m.cert = E at *
  refine FnC.intro Tryd.func57 rfl Tryd.ntmps57 rfl fun Z w0 hG => ?_
  unfold fitsM
  by_cases e1 : m.kind = 1
  · rw [if_pos e1]
    cases hf : fineBk m.block <;> rw [hf] at c3
    · focus (
    (refine W.seq ?_)
    (refine W.region ?_)
    (refine J.boxAg rfl rfl ?_; intro b')
    (refine Jx.assign rfl rfl ?_)
    (refine J.nil ?_)
    (refine N.seq ?_)
    (refine W.seq ?_)
    (refine W.region ?_)
    (refine Jx.fieldAddr rfl rfl ?_)
    (refine Jx.load rfl 0 rfl rfl rfl ?_)
    (refine Jx.lenS rfl rfl ?_)
    (refine Jx.eqlI rfl rfl rfl ?_)
    (refine Jx.assign rfl rfl ?_)
    (refine J.nil ?_)
    (refine N.seq ?_)
    (refine W.seq ?_)
    (refine W.region ?_)
    (refine Jx.fieldAddr rfl rfl ?_)
    (refine Jx.load rfl 0 rfl rfl rfl ?_)
    (refine Jx.eqlS rfl rfl rfl ?_)
    (refine Jx.assign rfl rfl ?_)
    (refine J.nil ?_)
    (refine N.seq ?_)
    (refine W.seq ?_)
    (refine W.region ?_)
    (refine Jx.fieldAddr rfl rfl ?_)
    (refine Jx.loadAg rfl 0 rfl rfl rfl rfl ?_)
    (refine J.call (c2) rfl (evs_args rfl) rfl ?_; rintro _ _ ⟨rfl, rfl⟩; simp only [List.cons_append, List.nil_append, List.append_nil])
    (refine Jx.move rfl rfl ?_)
    (refine Jx.extract rfl rfl rfl ?_)
    (refine Jx.extract rfl rfl rfl ?_)
    (refine Jx.assign rfl rfl ?_)
    (refine Jx.assign rfl rfl ?_)
    (refine J.nil ?_)
    (refine N.seq ?_)
    (refine W.seq ?_)
    (refine W.seq ?_)
    (refine W.region ?_)
    (refine Jx.fieldAddr rfl rfl ?_)
    (refine Jx.load rfl 0 rfl rfl rfl ?_)
    (refine J.nil ?_)
    (refine N.seq ?_)
    (refine W.block ?_)
    (refine W.seq ?_)
    (refine W.region ?_)
    (refine Jx.eqlI rfl rfl rfl ?_)
    (refine Jx.assign rfl rfl ?_)
    (refine J.nil ?_)
    (refine N.seq ?_)
    (refine W.cT rfl ?_)
    (refine W.seq ?_)
    (refine W.region ?_)
    (refine Jx.move rfl rfl ?_)
    (refine Jx.move rfl rfl ?_)
    (refine' J.guardAnd rfl rfl rfl rfl rfl rfl rfl rfl (fun _ => ?_) ?_; rotate_left)
    (refine J.gY rfl rfl rfl ?_)
    (refine Jx.fieldAddr rfl rfl ?_)
    (refine J.gY rfl rfl rfl ?_)
    (refine Jx.loadAg rfl 0 rfl rfl rfl rfl ?_)
    (refine J.gY rfl rfl rfl ?_)
    (refine J.call (c1) rfl (evs_args rfl) rfl ?_; rintro _ _ ⟨rfl, rfl⟩; simp only [List.cons_append, List.nil_append, List.append_nil])
    (refine J.nil ?_)
    (refine N.joinedN rfl rfl rfl)
    (refine Jx.move rfl rfl ?_)
    (refine' J.guardAnd rfl rfl rfl rfl rfl rfl rfl rfl (fun _ => ?_) ?_; rotate_left)
    (refine J.gY rfl rfl rfl ?_)
    (refine Jx.fieldAddr rfl rfl ?_)
    (refine J.gY rfl rfl rfl ?_)
    (refine Jx.loadAg rfl 0 rfl rfl rfl rfl ?_)
    (refine J.gY rfl rfl rfl ?_)
    (refine J.call (c3) rfl (evs_args rfl) rfl ?_; rintro _ _ ⟨rfl, rfl⟩; simp only [List.cons_append, List.nil_append, List.append_nil])
    (refine J.gY rfl rfl rfl ?_)
    (refine Jx.eqlI rfl rfl rfl ?_)
    (refine J.nil ?_)
    (refine N.joinedN rfl rfl rfl)
    (refine Jx.move rfl rfl ?_)
    (refine J.gN rfl rfl rfl rfl ?_)
    (refine J.gN rfl rfl rfl rfl ?_)
    (refine J.gN rfl rfl rfl rfl ?_)
    (refine J.gN rfl rfl rfl rfl ?_)
    (refine J.gN rfl rfl rfl rfl ?_)
    (refine J.gN rfl rfl rfl rfl ?_)
    (refine J.gN rfl rfl rfl rfl ?_)
    (refine Jx.pF rfl rfl rfl ?_)
    (refine Jx.move rfl rfl ?_)
    (refine J.gN rfl rfl rfl rfl ?_)
    (refine J.gN rfl rfl rfl rfl ?_)
    (refine J.gN rfl rfl rfl rfl ?_)
    (refine J.gN rfl rfl rfl rfl ?_)
    (refine J.gN rfl rfl rfl rfl ?_)
    (refine J.gN rfl rfl rfl rfl ?_)
    (refine J.gN rfl rfl rfl rfl ?_)
    (refine Jx.pF rfl rfl rfl ?_)
    (refine Jx.assign rfl rfl ?_)
    (refine J.nil ?_)
    (refine N.seq ?_)
    (refine W.ret ?_)
    (refine N.noGotoRet ?_)
    (refine N.noGotoRet ?_)
    (refine id ?_; rotate_left))
      exact N.retD (rs := [.tmp 2]) (L1 := []) rfl (.tmp rfl .nil) (List.nil_sublist _) ⟨by simp [oneOr], rfl⟩
    · focus (
    (refine W.seq ?_)
    (refine W.region ?_)
    (refine J.boxAg rfl rfl ?_; intro b')
    (refine Jx.assign rfl rfl ?_)
    (refine J.nil ?_)
    (refine N.seq ?_)
    (refine W.seq ?_)
    (refine W.region ?_)
    (refine Jx.fieldAddr rfl rfl ?_)
    (refine Jx.load rfl 0 rfl rfl rfl ?_)
    (refine Jx.lenS rfl rfl ?_)
    (refine Jx.eqlI rfl rfl rfl ?_)
    (refine Jx.assign rfl rfl ?_)
    (refine J.nil ?_)
    (refine N.seq ?_)
    (refine W.seq ?_)
    (refine W.region ?_)
    (refine Jx.fieldAddr rfl rfl ?_)
    (refine Jx.load rfl 0 rfl rfl rfl ?_)
    (refine Jx.eqlS rfl rfl rfl ?_)
    (refine Jx.assign rfl rfl ?_)
    (refine J.nil ?_)
    (refine N.seq ?_)
    (refine W.seq ?_)
    (refine W.region ?_)
    (refine Jx.fieldAddr rfl rfl ?_)
    (refine Jx.loadAg rfl 0 rfl rfl rfl rfl ?_)
    (refine J.call (c2) rfl (evs_args rfl) rfl ?_; rintro _ _ ⟨rfl, rfl⟩; simp only [List.cons_append, List.nil_append, List.append_nil])
    (refine Jx.move rfl rfl ?_)
    (refine Jx.extract rfl rfl rfl ?_)
    (refine Jx.extract rfl rfl rfl ?_)
    (refine Jx.assign rfl rfl ?_)
    (refine Jx.assign rfl rfl ?_)
    (refine J.nil ?_)
    (refine N.seq ?_)
    (refine W.seq ?_)
    (refine W.seq ?_)
    (refine W.region ?_)
    (refine Jx.fieldAddr rfl rfl ?_)
    (refine Jx.load rfl 0 rfl rfl rfl ?_)
    (refine J.nil ?_)
    (refine N.seq ?_)
    (refine W.block ?_)
    (refine W.seq ?_)
    (refine W.region ?_)
    (refine Jx.eqlI rfl rfl rfl ?_)
    (refine Jx.assign rfl rfl ?_)
    (refine J.nil ?_)
    (refine N.seq ?_)
    (refine W.cT rfl ?_)
    (refine W.seq ?_)
    (refine W.region ?_)
    (refine Jx.move rfl rfl ?_)
    (refine Jx.move rfl rfl ?_)
    (refine' J.guardAnd rfl rfl rfl rfl rfl rfl rfl rfl (fun _ => ?_) ?_; rotate_left)
    (refine J.gY rfl rfl rfl ?_)
    (refine Jx.fieldAddr rfl rfl ?_)
    (refine J.gY rfl rfl rfl ?_)
    (refine Jx.loadAg rfl 0 rfl rfl rfl rfl ?_)
    (refine J.gY rfl rfl rfl ?_)
    (refine J.call (c1) rfl (evs_args rfl) rfl ?_; rintro _ _ ⟨rfl, rfl⟩; simp only [List.cons_append, List.nil_append, List.append_nil])
    (refine J.nil ?_)
    (refine N.joinedN rfl rfl rfl)
    (refine Jx.move rfl rfl ?_)
    (refine' J.guardAnd rfl rfl rfl rfl rfl rfl rfl rfl (fun _ => ?_) ?_; rotate_left)
    (refine J.gY rfl rfl rfl ?_)
    (refine Jx.fieldAddr rfl rfl ?_)
    (refine J.gY rfl rfl rfl ?_)
    (refine Jx.loadAg rfl 0 rfl rfl rfl rfl ?_)
    (refine J.gY rfl rfl rfl ?_)
    (refine J.call (c3) rfl (evs_args rfl) rfl ?_; rintro _ _ ⟨rfl, rfl⟩; simp only [List.cons_append, List.nil_append, List.append_nil])
    (refine J.gY rfl rfl rfl ?_)
    (refine Jx.eqlI rfl rfl rfl ?_)
    (refine J.nil ?_)
    (refine N.joinedN rfl rfl rfl)
    (refine Jx.move rfl rfl ?_)
    (refine' J.guardAnd rfl rfl rfl rfl rfl rfl rfl rfl (fun _ => ?_) ?_; rotate_left)
    (refine J.gY rfl rfl rfl ?_)
    (refine Jx.fieldAddr rfl rfl ?_)
    (refine J.gY rfl rfl rfl ?_)
    (refine Jx.load rfl 0 rfl rfl rfl ?_)
    (refine J.gY rfl rfl rfl ?_)
    (refine Jx.fieldAddr rfl rfl ?_)
    (refine J.gY rfl rfl rfl ?_)
    (refine Jx.fieldAddr rfl rfl ?_)
    (refine J.gY rfl rfl rfl ?_)
    (refine Jx.fieldAddr rfl rfl ?_)
    (refine J.gY rfl rfl rfl ?_)
    (refine Jx.load rfl 0 rfl rfl rfl ?_)
    (refine J.gY rfl rfl rfl ?_)
    (refine Jx.eqlI rfl rfl rfl ?_)
    (refine J.nil ?_)
    (refine N.joinedN rfl rfl rfl)
    (refine Jx.move rfl rfl ?_)
    (refine' J.guardAnd rfl rfl rfl rfl rfl rfl rfl rfl (fun _ => ?_) ?_; rotate_left)
    (refine J.gY rfl rfl rfl ?_)
    (refine Jx.fieldAddr rfl rfl ?_)
    (refine J.gY rfl rfl rfl ?_)
    (refine Jx.load rfl 0 rfl rfl rfl ?_)
    (refine J.gY rfl rfl rfl ?_)
    (refine Jx.fieldAddr rfl rfl ?_)
    (refine J.gY rfl rfl rfl ?_)
    (refine Jx.fieldAddr rfl rfl ?_)
    (refine J.gY rfl rfl rfl ?_)
    (refine Jx.fieldAddr rfl rfl ?_)
    (refine J.gY rfl rfl rfl ?_)
    (refine Jx.load rfl 0 rfl rfl rfl ?_)
    (refine J.gY rfl rfl rfl ?_)
    (refine Jx.eqlI rfl rfl rfl ?_)
    (refine J.nil ?_)
    (refine N.joinedN rfl rfl rfl)
    (refine Jx.assign rfl rfl ?_)
    (refine J.nil ?_)
    (refine N.seq ?_)
    (refine W.ret ?_)
    (refine N.noGotoRet ?_)
    (refine N.noGotoRet ?_)
    (refine id ?_; rotate_left))
      exact N.retD (rs := [.tmp 2]) (L1 := []) rfl (.tmp rfl .nil) (List.nil_sublist _) ⟨rfl, rfl⟩
  · rw [if_neg e1]
    by_cases e2 : m.kind = 2
    · rw [if_pos e2]
      focus (
    (refine W.seq ?_)
    (refine W.region ?_)
    (refine J.boxAg rfl rfl ?_; intro b')
    (refine Jx.assign rfl rfl ?_)
    (refine J.nil ?_)
    (refine N.seq ?_)
    (refine W.seq ?_)
    (refine W.region ?_)
    (refine Jx.fieldAddr rfl rfl ?_)
    (refine Jx.load rfl 0 rfl rfl rfl ?_)
    (refine Jx.lenS rfl rfl ?_)
    (refine Jx.eqlI rfl rfl rfl ?_)
    (refine Jx.assign rfl rfl ?_)
    (refine J.nil ?_)
    (refine N.seq ?_)
    (refine W.seq ?_)
    (refine W.region ?_)
    (refine Jx.fieldAddr rfl rfl ?_)
    (refine Jx.load rfl 0 rfl rfl rfl ?_)
    (refine Jx.eqlS rfl rfl rfl ?_)
    (refine Jx.assign rfl rfl ?_)
    (refine J.nil ?_)
    (refine N.seq ?_)
    (refine W.seq ?_)
    (refine W.region ?_)
    (refine Jx.fieldAddr rfl rfl ?_)
    (refine Jx.loadAg rfl 0 rfl rfl rfl rfl ?_)
    (refine J.call (c2) rfl (evs_args rfl) rfl ?_; rintro _ _ ⟨rfl, rfl⟩; simp only [List.cons_append, List.nil_append, List.append_nil])
    (refine Jx.move rfl rfl ?_)
    (refine Jx.extract rfl rfl rfl ?_)
    (refine Jx.extract rfl rfl rfl ?_)
    (refine Jx.assign rfl rfl ?_)
    (refine Jx.assign rfl rfl ?_)
    (refine J.nil ?_)
    (refine N.seq ?_)
    (refine W.seq ?_)
    (refine W.seq ?_)
    (refine W.region ?_)
    (refine Jx.fieldAddr rfl rfl ?_)
    (refine Jx.load rfl 0 rfl rfl rfl ?_)
    (refine J.nil ?_)
    (refine N.seq ?_)
    (refine W.block ?_)
    (refine W.seq ?_)
    (refine W.region ?_)
    (refine Jx.eqlI rfl rfl rfl ?_)
    (refine Jx.assign rfl rfl ?_)
    (refine J.nil ?_)
    (refine N.seq ?_)
    (refine W.cF rfl ?_)
    (refine W.seq ?_)
    (refine W.region ?_)
    (refine Jx.eqlI rfl rfl rfl ?_)
    (refine Jx.assign rfl rfl ?_)
    (refine J.nil ?_)
    (refine N.seq ?_)
    (refine W.cT rfl ?_)
    (refine W.seq ?_)
    (refine W.region ?_)
    (refine Jx.move rfl rfl ?_)
    (refine Jx.move rfl rfl ?_)
    (refine' J.guardAnd rfl rfl rfl rfl rfl rfl rfl rfl (fun _ => ?_) ?_; rotate_left)
    (refine J.gY rfl rfl rfl ?_)
    (refine Jx.fieldAddr rfl rfl ?_)
    (refine J.gY rfl rfl rfl ?_)
    (refine Jx.loadAg rfl 0 rfl rfl rfl rfl ?_)
    (refine J.gY rfl rfl rfl ?_)
    (refine J.call (c1) rfl (evs_args rfl) rfl ?_; rintro _ _ ⟨rfl, rfl⟩; simp only [List.cons_append, List.nil_append, List.append_nil])
    (refine J.nil ?_)
    (refine N.joinedN rfl rfl rfl)
    (refine Jx.move rfl rfl ?_)
    (refine' J.guardAnd rfl rfl rfl rfl rfl rfl rfl rfl (fun _ => ?_) ?_; rotate_left)
    (refine J.gY rfl rfl rfl ?_)
    (refine Jx.fieldAddr rfl rfl ?_)
    (refine J.gY rfl rfl rfl ?_)
    (refine Jx.loadAg rfl 0 rfl rfl rfl rfl ?_)
    (refine J.gY rfl rfl rfl ?_)
    (refine J.call (c4) rfl (evs_args rfl) rfl ?_; rintro _ _ ⟨rfl, rfl⟩; simp only [List.cons_append, List.nil_append, List.append_nil])
    (refine J.nil ?_)
    (refine N.joinedN rfl rfl rfl)
    (refine Jx.assign rfl rfl ?_)
    (refine J.nil ?_)
    (refine N.seq ?_)
    (refine W.ret ?_)
    (refine N.noGotoRet ?_)
    (refine N.noGotoRet ?_)
    (refine id ?_; rotate_left))
      exact N.retD (rs := [.tmp 2]) (L1 := []) rfl (.tmp rfl .nil) (List.nil_sublist _) ⟨by rw [← e32]; rfl, rfl⟩
    · rw [if_neg e2]
      by_cases e3 : m.kind = 3
      · rw [if_pos e3]
        by_cases hd : m.digest = []
        · cases hb : bareCt m.cert with
          | true =>
            rw [hb] at c1
            focus (
    (refine W.seq ?_)
    (refine W.region ?_)
    (refine J.boxAg rfl rfl ?_; intro b')
    (refine Jx.assign rfl rfl ?_)
    (refine J.nil ?_)
    (refine N.seq ?_)
    (refine W.seq ?_)
    (refine W.region ?_)
    (refine Jx.fieldAddr rfl rfl ?_)
    (refine Jx.load rfl 0 rfl rfl rfl ?_)
    (refine Jx.lenS rfl rfl ?_)
    (refine Jx.eqlI rfl rfl rfl ?_)
    (refine Jx.assign rfl rfl ?_)
    (refine J.nil ?_)
    (refine N.seq ?_)
    (refine W.seq ?_)
    (refine W.region ?_)
    (refine Jx.fieldAddr rfl rfl ?_)
    (refine Jx.load rfl 0 rfl rfl rfl ?_)
    (refine Jx.eqlS rfl rfl rfl ?_)
    (refine Jx.assign rfl rfl ?_)
    (refine J.nil ?_)
    (refine N.seq ?_)
    (refine W.seq ?_)
    (refine W.region ?_)
    (refine Jx.fieldAddr rfl rfl ?_)
    (refine Jx.loadAg rfl 0 rfl rfl rfl rfl ?_)
    (refine J.call (c2) rfl (evs_args rfl) rfl ?_; rintro _ _ ⟨rfl, rfl⟩; simp only [List.cons_append, List.nil_append, List.append_nil])
    (refine Jx.move rfl rfl ?_)
    (refine Jx.extract rfl rfl rfl ?_)
    (refine Jx.extract rfl rfl rfl ?_)
    (refine Jx.assign rfl rfl ?_)
    (refine Jx.assign rfl rfl ?_)
    (refine J.nil ?_)
    (refine N.seq ?_)
    (refine W.seq ?_)
    (refine W.seq ?_)
    (refine W.region ?_)
    (refine Jx.fieldAddr rfl rfl ?_)
    (refine Jx.load rfl 0 rfl rfl rfl ?_)
    (refine J.nil ?_)
    (refine N.seq ?_)
    (refine W.block ?_)
    (refine W.seq ?_)
    (refine W.region ?_)
    (refine Jx.eqlI rfl rfl rfl ?_)
    (refine Jx.assign rfl rfl ?_)
    (refine J.nil ?_)
    (refine N.seq ?_)
    (refine W.cF rfl ?_)
    (refine W.seq ?_)
    (refine W.region ?_)
    (refine Jx.eqlI rfl rfl rfl ?_)
    (refine Jx.assign rfl rfl ?_)
    (refine J.nil ?_)
    (refine N.seq ?_)
    (refine W.cF rfl ?_)
    (refine W.seq ?_)
    (refine W.region ?_)
    (refine Jx.eqlI rfl rfl rfl ?_)
    (refine Jx.assign rfl rfl ?_)
    (refine J.nil ?_)
    (refine N.seq ?_)
    (refine W.cT rfl ?_)
    (refine W.seq ?_)
    (refine W.region ?_)
    (refine Jx.move rfl rfl ?_)
    (refine Jx.move rfl rfl ?_)
    (refine J.gY rfl rfl rfl ?_)
    (refine Jx.fieldAddr rfl rfl ?_)
    (refine J.gY rfl rfl rfl ?_)
    (refine Jx.loadAg rfl 0 rfl rfl rfl rfl ?_)
    (refine J.gY rfl rfl rfl ?_)
    (refine J.call (c1) rfl (evs_args rfl) rfl ?_; rintro _ _ ⟨rfl, rfl⟩; simp only [List.cons_append, List.nil_append, List.append_nil])
    (refine J.gY rfl rfl rfl ?_)
    (refine Jx.move rfl rfl ?_)
    (refine J.gN rfl rfl rfl rfl ?_)
    (refine J.gN rfl rfl rfl rfl ?_)
    (refine J.gY rfl rfl rfl ?_)
    (refine Jx.pT rfl rfl rfl ?_)
    (refine Jx.pT rfl rfl rfl ?_)
    (refine Jx.move rfl rfl ?_)
    (refine J.gY rfl rfl rfl ?_)
    (refine Jx.fieldAddr rfl rfl ?_)
    (refine J.gY rfl rfl rfl ?_)
    (refine Jx.loadAg rfl 0 rfl rfl rfl rfl ?_)
    (refine J.gY rfl rfl rfl ?_)
    (refine J.call (c4) rfl (evs_args rfl) rfl ?_; rintro _ _ ⟨rfl, rfl⟩; simp only [List.cons_append, List.nil_append, List.append_nil])
    (refine Jx.pT rfl rfl rfl ?_)
    (refine Jx.assign rfl rfl ?_)
    (refine J.nil ?_)
    (refine N.seq ?_)
    (refine W.ret ?_)
    (refine N.noGotoRet ?_)
    (refine N.noGotoRet ?_)
    (refine id ?_; rotate_left))
            exact N.retD (rs := [.tmp 2]) (L1 := []) rfl (.tmp rfl .nil) (List.nil_sublist _) ⟨by rw [decide_eq_true hd]; rfl, rfl⟩
          | false =>
            rw [hb] at c1
            cases hf : fineCt m.cert with
            | true =>
              rw [hf] at c2
              focus (
    (refine W.seq ?_)
    (refine W.region ?_)
    (refine J.boxAg rfl rfl ?_; intro b')
    (refine Jx.assign rfl rfl ?_)
    (refine J.nil ?_)
    (refine N.seq ?_)
    (refine W.seq ?_)
    (refine W.region ?_)
    (refine Jx.fieldAddr rfl rfl ?_)
    (refine Jx.load rfl 0 rfl rfl rfl ?_)
    (refine Jx.lenS rfl rfl ?_)
    (refine Jx.eqlI rfl rfl rfl ?_)
    (refine Jx.assign rfl rfl ?_)
    (refine J.nil ?_)
    (refine N.seq ?_)
    (refine W.seq ?_)
    (refine W.region ?_)
    (refine Jx.fieldAddr rfl rfl ?_)
    (refine Jx.load rfl 0 rfl rfl rfl ?_)
    (refine Jx.eqlS rfl rfl rfl ?_)
    (refine Jx.assign rfl rfl ?_)
    (refine J.nil ?_)
    (refine N.seq ?_)
    (refine W.seq ?_)
    (refine W.region ?_)
    (refine Jx.fieldAddr rfl rfl ?_)
    (refine Jx.loadAg rfl 0 rfl rfl rfl rfl ?_)
    (refine J.call (c2) rfl (evs_args rfl) rfl ?_; rintro _ _ ⟨rfl, rfl⟩; simp only [List.cons_append, List.nil_append, List.append_nil])
    (refine Jx.move rfl rfl ?_)
    (refine Jx.extract rfl rfl rfl ?_)
    (refine Jx.extract rfl rfl rfl ?_)
    (refine Jx.assign rfl rfl ?_)
    (refine Jx.assign rfl rfl ?_)
    (refine J.nil ?_)
    (refine N.seq ?_)
    (refine W.seq ?_)
    (refine W.seq ?_)
    (refine W.region ?_)
    (refine Jx.fieldAddr rfl rfl ?_)
    (refine Jx.load rfl 0 rfl rfl rfl ?_)
    (refine J.nil ?_)
    (refine N.seq ?_)
    (refine W.block ?_)
    (refine W.seq ?_)
    (refine W.region ?_)
    (refine Jx.eqlI rfl rfl rfl ?_)
    (refine Jx.assign rfl rfl ?_)
    (refine J.nil ?_)
    (refine N.seq ?_)
    (refine W.cF rfl ?_)
    (refine W.seq ?_)
    (refine W.region ?_)
    (refine Jx.eqlI rfl rfl rfl ?_)
    (refine Jx.assign rfl rfl ?_)
    (refine J.nil ?_)
    (refine N.seq ?_)
    (refine W.cF rfl ?_)
    (refine W.seq ?_)
    (refine W.region ?_)
    (refine Jx.eqlI rfl rfl rfl ?_)
    (refine Jx.assign rfl rfl ?_)
    (refine J.nil ?_)
    (refine N.seq ?_)
    (refine W.cT rfl ?_)
    (refine W.seq ?_)
    (refine W.region ?_)
    (refine Jx.move rfl rfl ?_)
    (refine Jx.move rfl rfl ?_)
    (refine J.gY rfl rfl rfl ?_)
    (refine Jx.fieldAddr rfl rfl ?_)
    (refine J.gY rfl rfl rfl ?_)
    (refine Jx.loadAg rfl 0 rfl rfl rfl rfl ?_)
    (refine J.gY rfl rfl rfl ?_)
    (refine J.call (c1) rfl (evs_args rfl) rfl ?_; rintro _ _ ⟨rfl, rfl⟩; simp only [List.cons_append, List.nil_append, List.append_nil])
    (refine J.gY rfl rfl rfl ?_)
    (refine Jx.move rfl rfl ?_)
    (refine J.gY rfl rfl rfl ?_)
    (refine Jx.move rfl rfl ?_)
    (refine J.gY rfl rfl rfl ?_)
    (refine Jx.eqlI rfl rfl rfl ?_)
    (refine J.gY rfl rfl rfl ?_)
    (refine Jx.pF rfl rfl rfl ?_)
    (refine Jx.pT rfl rfl rfl ?_)
    (refine Jx.move rfl rfl ?_)
    (refine J.gY rfl rfl rfl ?_)
    (refine Jx.fieldAddr rfl rfl ?_)
    (refine J.gY rfl rfl rfl ?_)
    (refine Jx.loadAg rfl 0 rfl rfl rfl rfl ?_)
    (refine J.gY rfl rfl rfl ?_)
    (refine J.call (c4) rfl (evs_args rfl) rfl ?_; rintro _ _ ⟨rfl, rfl⟩; simp only [List.cons_append, List.nil_append, List.append_nil])
    (refine Jx.pT rfl rfl rfl ?_)
    (refine Jx.assign rfl rfl ?_)
    (refine J.nil ?_)
    (refine N.seq ?_)
    (refine W.ret ?_)
    (refine N.noGotoRet ?_)
    (refine N.noGotoRet ?_)
    (refine id ?_; rotate_left))
              exact N.retD (rs := [.tmp 2]) (L1 := []) rfl (.tmp rfl .nil) (List.nil_sublist _) ⟨by rw [decide_eq_true hd]; rfl, rfl⟩
            | false =>
              rw [hf] at c2
              focus (
    (refine W.seq ?_)
    (refine W.region ?_)
    (refine J.boxAg rfl rfl ?_; intro b')
    (refine Jx.assign rfl rfl ?_)
    (refine J.nil ?_)
    (refine N.seq ?_)
    (refine W.seq ?_)
    (refine W.region ?_)
    (refine Jx.fieldAddr rfl rfl ?_)
    (refine Jx.load rfl 0 rfl rfl rfl ?_)
    (refine Jx.lenS rfl rfl ?_)
    (refine Jx.eqlI rfl rfl rfl ?_)
    (refine Jx.assign rfl rfl ?_)
    (refine J.nil ?_)
    (refine N.seq ?_)
    (refine W.seq ?_)
    (refine W.region ?_)
    (refine Jx.fieldAddr rfl rfl ?_)
    (refine Jx.load rfl 0 rfl rfl rfl ?_)
    (refine Jx.eqlS rfl rfl rfl ?_)
    (refine Jx.assign rfl rfl ?_)
    (refine J.nil ?_)
    (refine N.seq ?_)
    (refine W.seq ?_)
    (refine W.region ?_)
    (refine Jx.fieldAddr rfl rfl ?_)
    (refine Jx.loadAg rfl 0 rfl rfl rfl rfl ?_)
    (refine J.call (c2) rfl (evs_args rfl) rfl ?_; rintro _ _ ⟨rfl, rfl⟩; simp only [List.cons_append, List.nil_append, List.append_nil])
    (refine Jx.move rfl rfl ?_)
    (refine Jx.extract rfl rfl rfl ?_)
    (refine Jx.extract rfl rfl rfl ?_)
    (refine Jx.assign rfl rfl ?_)
    (refine Jx.assign rfl rfl ?_)
    (refine J.nil ?_)
    (refine N.seq ?_)
    (refine W.seq ?_)
    (refine W.seq ?_)
    (refine W.region ?_)
    (refine Jx.fieldAddr rfl rfl ?_)
    (refine Jx.load rfl 0 rfl rfl rfl ?_)
    (refine J.nil ?_)
    (refine N.seq ?_)
    (refine W.block ?_)
    (refine W.seq ?_)
    (refine W.region ?_)
    (refine Jx.eqlI rfl rfl rfl ?_)
    (refine Jx.assign rfl rfl ?_)
    (refine J.nil ?_)
    (refine N.seq ?_)
    (refine W.cF rfl ?_)
    (refine W.seq ?_)
    (refine W.region ?_)
    (refine Jx.eqlI rfl rfl rfl ?_)
    (refine Jx.assign rfl rfl ?_)
    (refine J.nil ?_)
    (refine N.seq ?_)
    (refine W.cF rfl ?_)
    (refine W.seq ?_)
    (refine W.region ?_)
    (refine Jx.eqlI rfl rfl rfl ?_)
    (refine Jx.assign rfl rfl ?_)
    (refine J.nil ?_)
    (refine N.seq ?_)
    (refine W.cT rfl ?_)
    (refine W.seq ?_)
    (refine W.region ?_)
    (refine Jx.move rfl rfl ?_)
    (refine Jx.move rfl rfl ?_)
    (refine J.gY rfl rfl rfl ?_)
    (refine Jx.fieldAddr rfl rfl ?_)
    (refine J.gY rfl rfl rfl ?_)
    (refine Jx.loadAg rfl 0 rfl rfl rfl rfl ?_)
    (refine J.gY rfl rfl rfl ?_)
    (refine J.call (c1) rfl (evs_args rfl) rfl ?_; rintro _ _ ⟨rfl, rfl⟩; simp only [List.cons_append, List.nil_append, List.append_nil])
    (refine J.gY rfl rfl rfl ?_)
    (refine Jx.move rfl rfl ?_)
    (refine J.gY rfl rfl rfl ?_)
    (refine Jx.move rfl rfl ?_)
    (refine J.gY rfl rfl rfl ?_)
    (refine Jx.eqlI rfl rfl rfl ?_)
    (refine J.gY rfl rfl rfl ?_)
    (refine Jx.pF rfl rfl rfl ?_)
    (refine Jx.pT rfl rfl rfl ?_)
    (refine Jx.move rfl rfl ?_)
    (refine J.gN rfl rfl rfl rfl ?_)
    (refine J.gN rfl rfl rfl rfl ?_)
    (refine J.gN rfl rfl rfl rfl ?_)
    (refine Jx.pF rfl rfl rfl ?_)
    (refine Jx.assign rfl rfl ?_)
    (refine J.nil ?_)
    (refine N.seq ?_)
    (refine W.ret ?_)
    (refine N.noGotoRet ?_)
    (refine N.noGotoRet ?_)
    (refine id ?_; rotate_left))
              exact N.retD (rs := [.tmp 2]) (L1 := []) rfl (.tmp rfl .nil) (List.nil_sublist _) ⟨by rw [decide_eq_true hd]; rfl, rfl⟩
        · rw [decide_eq_false hd]
          focus (
    (refine W.seq ?_)
    (refine W.region ?_)
    (refine J.boxAg rfl rfl ?_; intro b')
    (refine Jx.assign rfl rfl ?_)
    (refine J.nil ?_)
    (refine N.seq ?_)
    (refine W.seq ?_)
    (refine W.region ?_)
    (refine Jx.fieldAddr rfl rfl ?_)
    (refine Jx.load rfl 0 rfl rfl rfl ?_)
    (refine Jx.lenS rfl rfl ?_)
    (refine Jx.eqlI rfl rfl rfl ?_)
    (refine Jx.assign rfl rfl ?_)
    (refine J.nil ?_)
    (refine N.seq ?_)
    (refine W.seq ?_)
    (refine W.region ?_)
    (refine Jx.fieldAddr rfl rfl ?_)
    (refine Jx.load rfl 0 rfl rfl rfl ?_)
    (refine Jx.eqlS rfl rfl rfl ?_)
    (refine Jx.assign rfl rfl ?_)
    (refine J.nil ?_)
    (refine N.seq ?_)
    (refine W.seq ?_)
    (refine W.region ?_)
    (refine Jx.fieldAddr rfl rfl ?_)
    (refine Jx.loadAg rfl 0 rfl rfl rfl rfl ?_)
    (refine J.call (c2) rfl (evs_args rfl) rfl ?_; rintro _ _ ⟨rfl, rfl⟩; simp only [List.cons_append, List.nil_append, List.append_nil])
    (refine Jx.move rfl rfl ?_)
    (refine Jx.extract rfl rfl rfl ?_)
    (refine Jx.extract rfl rfl rfl ?_)
    (refine Jx.assign rfl rfl ?_)
    (refine Jx.assign rfl rfl ?_)
    (refine J.nil ?_)
    (refine N.seq ?_)
    (refine W.seq ?_)
    (refine W.seq ?_)
    (refine W.region ?_)
    (refine Jx.fieldAddr rfl rfl ?_)
    (refine Jx.load rfl 0 rfl rfl rfl ?_)
    (refine J.nil ?_)
    (refine N.seq ?_)
    (refine W.block ?_)
    (refine W.seq ?_)
    (refine W.region ?_)
    (refine Jx.eqlI rfl rfl rfl ?_)
    (refine Jx.assign rfl rfl ?_)
    (refine J.nil ?_)
    (refine N.seq ?_)
    (refine W.cF rfl ?_)
    (refine W.seq ?_)
    (refine W.region ?_)
    (refine Jx.eqlI rfl rfl rfl ?_)
    (refine Jx.assign rfl rfl ?_)
    (refine J.nil ?_)
    (refine N.seq ?_)
    (refine W.cF rfl ?_)
    (refine W.seq ?_)
    (refine W.region ?_)
    (refine Jx.eqlI rfl rfl rfl ?_)
    (refine Jx.assign rfl rfl ?_)
    (refine J.nil ?_)
    (refine N.seq ?_)
    (refine W.cT rfl ?_)
    (refine W.seq ?_)
    (refine W.region ?_)
    (refine Jx.move rfl rfl ?_)
    (refine Jx.move rfl rfl ?_)
    (refine J.gN rfl rfl rfl rfl ?_)
    (refine J.gN rfl rfl rfl rfl ?_)
    (refine J.gN rfl rfl rfl rfl ?_)
    (refine J.gN rfl rfl rfl rfl ?_)
    (refine J.guardSkip rfl rfl rfl rfl ?_)
    (refine J.guardSkip rfl rfl rfl rfl ?_)
    (refine J.gN rfl rfl rfl rfl ?_)
    (refine Jx.pF rfl rfl rfl ?_)
    (refine Jx.move rfl rfl ?_)
    (refine J.gN rfl rfl rfl rfl ?_)
    (refine J.gN rfl rfl rfl rfl ?_)
    (refine J.gN rfl rfl rfl rfl ?_)
    (refine Jx.pF rfl rfl rfl ?_)
    (refine Jx.assign rfl rfl ?_)
    (refine J.nil ?_)
    (refine N.seq ?_)
    (refine W.ret ?_)
    (refine N.noGotoRet ?_)
    (refine N.noGotoRet ?_)
    (refine id ?_; rotate_left))
          exact N.retD (rs := [.tmp 2]) (L1 := []) rfl (.tmp rfl .nil) (List.nil_sublist _) ⟨rfl, rfl⟩
      · rw [if_neg e3]
        by_cases e4 : m.kind = 4
        · rw [if_pos e4]
          focus (
    (refine W.seq ?_)
    (refine W.region ?_)
    (refine J.boxAg rfl rfl ?_; intro b')
    (refine Jx.assign rfl rfl ?_)
    (refine J.nil ?_)
    (refine N.seq ?_)
    (refine W.seq ?_)
    (refine W.region ?_)
    (refine Jx.fieldAddr rfl rfl ?_)
    (refine Jx.load rfl 0 rfl rfl rfl ?_)
    (refine Jx.lenS rfl rfl ?_)
    (refine Jx.eqlI rfl rfl rfl ?_)
    (refine Jx.assign rfl rfl ?_)
    (refine J.nil ?_)
    (refine N.seq ?_)
    (refine W.seq ?_)
    (refine W.region ?_)
    (refine Jx.fieldAddr rfl rfl ?_)
    (refine Jx.load rfl 0 rfl rfl rfl ?_)
    (refine Jx.eqlS rfl rfl rfl ?_)
    (refine Jx.assign rfl rfl ?_)
    (refine J.nil ?_)
    (refine N.seq ?_)
    (refine W.seq ?_)
    (refine W.region ?_)
    (refine Jx.fieldAddr rfl rfl ?_)
    (refine Jx.loadAg rfl 0 rfl rfl rfl rfl ?_)
    (refine J.call (c2) rfl (evs_args rfl) rfl ?_; rintro _ _ ⟨rfl, rfl⟩; simp only [List.cons_append, List.nil_append, List.append_nil])
    (refine Jx.move rfl rfl ?_)
    (refine Jx.extract rfl rfl rfl ?_)
    (refine Jx.extract rfl rfl rfl ?_)
    (refine Jx.assign rfl rfl ?_)
    (refine Jx.assign rfl rfl ?_)
    (refine J.nil ?_)
    (refine N.seq ?_)
    (refine W.seq ?_)
    (refine W.seq ?_)
    (refine W.region ?_)
    (refine Jx.fieldAddr rfl rfl ?_)
    (refine Jx.load rfl 0 rfl rfl rfl ?_)
    (refine J.nil ?_)
    (refine N.seq ?_)
    (refine W.block ?_)
    (refine W.seq ?_)
    (refine W.region ?_)
    (refine Jx.eqlI rfl rfl rfl ?_)
    (refine Jx.assign rfl rfl ?_)
    (refine J.nil ?_)
    (refine N.seq ?_)
    (refine W.cF rfl ?_)
    (refine W.seq ?_)
    (refine W.region ?_)
    (refine Jx.eqlI rfl rfl rfl ?_)
    (refine Jx.assign rfl rfl ?_)
    (refine J.nil ?_)
    (refine N.seq ?_)
    (refine W.cF rfl ?_)
    (refine W.seq ?_)
    (refine W.region ?_)
    (refine Jx.eqlI rfl rfl rfl ?_)
    (refine Jx.assign rfl rfl ?_)
    (refine J.nil ?_)
    (refine N.seq ?_)
    (refine W.cF rfl ?_)
    (refine W.seq ?_)
    (refine W.region ?_)
    (refine Jx.eqlI rfl rfl rfl ?_)
    (refine Jx.assign rfl rfl ?_)
    (refine J.nil ?_)
    (refine N.seq ?_)
    (refine W.cT rfl ?_)
    (refine W.seq ?_)
    (refine W.region ?_)
    (refine Jx.move rfl rfl ?_)
    (refine Jx.move rfl rfl ?_)
    (refine' J.guardAnd rfl rfl rfl rfl rfl rfl rfl rfl (fun _ => ?_) ?_; rotate_left)
    (refine J.gY rfl rfl rfl ?_)
    (refine Jx.fieldAddr rfl rfl ?_)
    (refine J.gY rfl rfl rfl ?_)
    (refine Jx.loadAg rfl 0 rfl rfl rfl rfl ?_)
    (refine J.gY rfl rfl rfl ?_)
    (refine J.call (c1) rfl (evs_args rfl) rfl ?_; rintro _ _ ⟨rfl, rfl⟩; simp only [List.cons_append, List.nil_append, List.append_nil])
    (refine J.nil ?_)
    (refine N.joinedN rfl rfl rfl)
    (refine Jx.move rfl rfl ?_)
    (refine' J.guardAnd rfl rfl rfl rfl rfl rfl rfl rfl (fun _ => ?_) ?_; rotate_left)
    (refine J.gY rfl rfl rfl ?_)
    (refine Jx.fieldAddr rfl rfl ?_)
    (refine J.gY rfl rfl rfl ?_)
    (refine Jx.loadAg rfl 0 rfl rfl rfl rfl ?_)
    (refine J.gY rfl rfl rfl ?_)
    (refine J.call (c4) rfl (evs_args rfl) rfl ?_; rintro _ _ ⟨rfl, rfl⟩; simp only [List.cons_append, List.nil_append, List.append_nil])
    (refine J.nil ?_)
    (refine N.joinedN rfl rfl rfl)
    (refine Jx.move rfl rfl ?_)
    (refine' J.guardAnd rfl rfl rfl rfl rfl rfl rfl rfl (fun _ => ?_) ?_; rotate_left)
    (refine J.gY rfl rfl rfl ?_)
    (refine Jx.fieldAddr rfl rfl ?_)
    (refine J.gY rfl rfl rfl ?_)
    (refine Jx.load rfl 0 rfl rfl rfl ?_)
    (refine J.gY rfl rfl rfl ?_)
    (refine Jx.eqlI rfl rfl rfl ?_)
    (refine J.nil ?_)
    (refine N.joinedN rfl rfl rfl)
    (refine Jx.move rfl rfl ?_)
    (refine' J.guardAnd rfl rfl rfl rfl rfl rfl rfl rfl (fun _ => ?_) ?_; rotate_left)
    (refine J.gY rfl rfl rfl ?_)
    (refine Jx.fieldAddr rfl rfl ?_)
    (refine J.gY rfl rfl rfl ?_)
    (refine Jx.load rfl 0 rfl rfl rfl ?_)
    (refine J.gY rfl rfl rfl ?_)
    (refine Jx.eqlI rfl rfl rfl ?_)
    (refine J.nil ?_)
    (refine N.joinedN rfl rfl rfl)
    (refine Jx.assign rfl rfl ?_)
    (refine J.nil ?_)
    (refine N.seq ?_)
    (refine W.ret ?_)
    (refine N.noGotoRet ?_)
    (refine N.noGotoRet ?_)
    (refine id ?_; rotate_left))
          exact N.retD (rs := [.tmp 2]) (L1 := []) rfl (.tmp rfl .nil) (List.nil_sublist _) ⟨by rw [← e32]; rfl, rfl⟩
        · rw [if_neg e4]
          focus (
    (refine W.seq ?_)
    (refine W.region ?_)
    (refine J.boxAg rfl rfl ?_; intro b')
    (refine Jx.assign rfl rfl ?_)
    (refine J.nil ?_)
    (refine N.seq ?_)
    (refine W.seq ?_)
    (refine W.region ?_)
    (refine Jx.fieldAddr rfl rfl ?_)
    (refine Jx.load rfl 0 rfl rfl rfl ?_)
    (refine Jx.lenS rfl rfl ?_)
    (refine Jx.eqlI rfl rfl rfl ?_)
    (refine Jx.assign rfl rfl ?_)
    (refine J.nil ?_)
    (refine N.seq ?_)
    (refine W.seq ?_)
    (refine W.region ?_)
    (refine Jx.fieldAddr rfl rfl ?_)
    (refine Jx.load rfl 0 rfl rfl rfl ?_)
    (refine Jx.eqlS rfl rfl rfl ?_)
    (refine Jx.assign rfl rfl ?_)
    (refine J.nil ?_)
    (refine N.seq ?_)
    (refine W.seq ?_)
    (refine W.region ?_)
    (refine Jx.fieldAddr rfl rfl ?_)
    (refine Jx.loadAg rfl 0 rfl rfl rfl rfl ?_)
    (refine J.call (c2) rfl (evs_args rfl) rfl ?_; rintro _ _ ⟨rfl, rfl⟩; simp only [List.cons_append, List.nil_append, List.append_nil])
    (refine Jx.move rfl rfl ?_)
    (refine Jx.extract rfl rfl rfl ?_)
    (refine Jx.extract rfl rfl rfl ?_)
    (refine Jx.assign rfl rfl ?_)
    (refine Jx.assign rfl rfl ?_)
    (refine J.nil ?_)
    (refine N.seq ?_)
    (refine W.seq ?_)
    (refine W.seq ?_)
    (refine W.region ?_)
    (refine Jx.fieldAddr rfl rfl ?_)
    (refine Jx.load rfl 0 rfl rfl rfl ?_)
    (refine J.nil ?_)
    (refine N.seq ?_)
    (refine W.block ?_)
    (refine W.seq ?_)
    (refine W.region ?_)
    (refine Jx.eqlI rfl rfl rfl ?_)
    (refine Jx.assign rfl rfl ?_)
    (refine J.nil ?_)
    (refine N.seq ?_)
    (refine W.cF rfl ?_)
    (refine W.seq ?_)
    (refine W.region ?_)
    (refine Jx.eqlI rfl rfl rfl ?_)
    (refine Jx.assign rfl rfl ?_)
    (refine J.nil ?_)
    (refine N.seq ?_)
    (refine W.cF rfl ?_)
    (refine W.seq ?_)
    (refine W.region ?_)
    (refine Jx.eqlI rfl rfl rfl ?_)
    (refine Jx.assign rfl rfl ?_)
    (refine J.nil ?_)
    (refine N.seq ?_)
    (refine W.cF rfl ?_)
    (refine W.seq ?_)
    (refine W.region ?_)
    (refine Jx.eqlI rfl rfl rfl ?_)
    (refine Jx.assign rfl rfl ?_)
    (refine J.nil ?_)
    (refine N.seq ?_)
    (refine W.cF rfl ?_)
    (refine W.skip ?_)
    (refine N.seq ?_)
    (refine W.seq ?_)
    (refine W.region ?_)
    (refine Jx.assign rfl rfl ?_)
    (refine J.nil ?_)
    (refine N.seq ?_)
    (refine W.ret ?_)
    (refine id ?_; rotate_left))
          exact N.retD (rs := [.tmp 2]) (L1 := []) rfl (.tmp rfl .nil) (List.nil_sublist _) ⟨rfl, rfl⟩
set_option maxHeartbeats 4000000 in
theorem vcheck_ok (m : Ms) (hl : m.block.head.skips.length ≤ 1048576) : FnC Tryd.prog 26 [.agg (msC m)] [] (fun v L => v = int (codeB (fineMs m) 220) ∧ L = []) := by
  have c := vfits_ok m hl
  have hn : nameB m.who = (decide (m.who ≠ []) && decide ((m.who.length : Int) ≤ 6)) := rfl
  have hf : fineMs m = ((nameB m.who && numsM m) && fitsM m) := rfl
  have hz := codeB_zero (fineMs m) 220 (by decide)
  refine FnC.intro Tryd.func26 rfl Tryd.ntmps26 rfl fun Z w0 hG => ?_
  focus (
    (refine W.seq ?_)
    (refine W.region ?_)
    (refine J.boxAg rfl rfl ?_; intro b')
    (refine Jx.assign rfl rfl ?_)
    (refine J.nil ?_)
    (refine N.seq ?_)
    (refine W.seq ?_)
    (refine W.region ?_)
    (refine Jx.fieldAddr rfl rfl ?_)
    (refine Jx.load rfl 0 rfl rfl rfl ?_)
    (refine Jx.neqS rfl rfl rfl ?_)
    (refine Jx.move rfl rfl ?_)
    (refine' J.guardAnd rfl rfl rfl rfl rfl rfl rfl rfl (fun _ => ?_) ?_; rotate_left)
    (refine J.gY rfl rfl rfl ?_)
    (refine Jx.fieldAddr rfl rfl ?_)
    (refine J.gY rfl rfl rfl ?_)
    (refine Jx.load rfl 0 rfl rfl rfl ?_)
    (refine J.gY rfl rfl rfl ?_)
    (refine Jx.lenS rfl rfl ?_)
    (refine J.gY rfl rfl rfl ?_)
    (refine Jx.leqI rfl rfl rfl ?_)
    (refine J.nil ?_)
    (refine N.joinedN rfl rfl rfl)
    (refine Jx.assign rfl rfl ?_)
    (refine J.nil ?_)
    (refine N.seq ?_)
    (refine W.seq ?_)
    (refine W.region ?_)
    (refine Jx.fieldAddr rfl rfl ?_)
    (refine Jx.load rfl 0 rfl rfl rfl ?_)
    (refine Jx.geqI rfl rfl rfl ?_)
    (refine Jx.move rfl rfl ?_)
    (refine' J.guardAnd rfl rfl rfl rfl rfl rfl rfl rfl (fun _ => ?_) ?_; rotate_left)
    (refine J.gY rfl rfl rfl ?_)
    (refine Jx.fieldAddr rfl rfl ?_)
    (refine J.gY rfl rfl rfl ?_)
    (refine Jx.load rfl 0 rfl rfl rfl ?_)
    (refine J.gY rfl rfl rfl ?_)
    (refine Jx.leqI rfl rfl rfl ?_)
    (refine J.nil ?_)
    (refine N.joinedN rfl rfl rfl)
    (refine Jx.move rfl rfl ?_)
    (refine' J.guardAnd rfl rfl rfl rfl rfl rfl rfl rfl (fun _ => ?_) ?_; rotate_left)
    (refine J.gY rfl rfl rfl ?_)
    (refine Jx.fieldAddr rfl rfl ?_)
    (refine J.gY rfl rfl rfl ?_)
    (refine Jx.load rfl 0 rfl rfl rfl ?_)
    (refine J.gY rfl rfl rfl ?_)
    (refine Jx.geqI rfl rfl rfl ?_)
    (refine J.nil ?_)
    (refine N.joinedN rfl rfl rfl)
    (refine Jx.move rfl rfl ?_)
    (refine' J.guardAnd rfl rfl rfl rfl rfl rfl rfl rfl (fun _ => ?_) ?_; rotate_left)
    (refine J.gY rfl rfl rfl ?_)
    (refine Jx.fieldAddr rfl rfl ?_)
    (refine J.gY rfl rfl rfl ?_)
    (refine Jx.load rfl 0 rfl rfl rfl ?_)
    (refine J.gY rfl rfl rfl ?_)
    (refine Jx.leqI rfl rfl rfl ?_)
    (refine J.nil ?_)
    (refine N.joinedN rfl rfl rfl)
    (refine Jx.assign rfl rfl ?_)
    (refine J.nil ?_)
    (refine N.seq ?_)
    (refine W.seq ?_)
    (refine W.seq ?_)
    (refine W.region ?_)
    (refine Jx.move rfl rfl ?_)
    (refine Jx.not rfl rfl ?_)
    (refine Jx.move rfl rfl ?_)
    (refine' J.guardOr rfl rfl rfl rfl rfl rfl rfl rfl (fun _ => ?_) ?_; rotate_left)
    (refine J.gY rfl rfl rfl ?_)
    (refine Jx.move rfl rfl ?_)
    (refine J.gY rfl rfl rfl ?_)
    (refine Jx.not rfl rfl ?_)
    (refine J.nil ?_)
    (refine N.joinedN rfl rfl rfl)
    (refine Jx.move rfl rfl ?_)
    (refine' J.guardOr rfl rfl rfl rfl rfl rfl rfl rfl (fun _ => ?_) ?_; rotate_left)
    (refine J.gY rfl rfl rfl ?_)
    (refine Jx.loadAll rfl 0 rfl rfl rfl ?_)
    (refine J.gY rfl rfl rfl ?_)
    (refine J.call (c) rfl (evs_args rfl) rfl ?_; rintro _ _ ⟨rfl, rfl⟩; simp only [List.cons_append, List.nil_append, List.append_nil])
    (refine J.gY rfl rfl rfl ?_)
    (refine Jx.not rfl rfl ?_)
    (refine J.nil ?_)
    (refine N.joinedN rfl rfl rfl)
    (refine J.nil ?_)
    (refine N.seq ?_)
    (refine id ?_; rotate_left))
  refine W.cond rfl (fun hb => ?_) (fun hb => ?_)
  · have : fineMs m = false := by
      rw [hf, hn]
      simp only [Bool.or_eq_true, Bool.not_eq_true'] at hb
      rcases hb with (h | h) | h
      · rw [h]; rfl
      · have : numsM m = false := h
        rw [this, Bool.and_false]; rfl
      · rw [h, Bool.and_false]
    rw [this]
    focus (
    (refine W.seq ?_)
    (refine W.region ?_)
    (refine Jx.assign rfl rfl ?_)
    (refine J.nil ?_)
    (refine N.seq ?_)
    (refine W.ret ?_)
    (refine N.noGotoRet ?_)
    (refine id ?_; rotate_left))
    exact N.retD (rs := [.tmp 2]) (L1 := []) rfl (.tmp rfl .nil) (List.nil_sublist _) ⟨rfl, rfl⟩
  · have : fineMs m = true := by
      rw [hf, hn]
      simp only [Bool.or_eq_false_iff, Bool.not_eq_false'] at hb
      obtain ⟨⟨h1, h2⟩, h3⟩ := hb
      have : numsM m = true := h2
      rw [h1, this, h3]; rfl
    rw [this]
    focus (
    (refine W.skip ?_)
    (refine N.seq ?_)
    (refine W.seq ?_)
    (refine W.region ?_)
    (refine Jx.assign rfl rfl ?_)
    (refine J.nil ?_)
    (refine N.seq ?_)
    (refine W.ret ?_)
    (refine id ?_; rotate_left))
    exact N.retD (rs := [.tmp 2]) (L1 := []) rfl (.tmp rfl .nil) (List.nil_sublist _) ⟨rfl, rfl⟩
set_option maxHeartbeats 4000000 in
theorem sameMs_ok (x y : Ms) (h1 : x.block.head.skips.length ≤ 1048576) (h2 : x.block.txs.length ≤ 1048576) (h3 : ∀ t ∈ x.block.txs, t.members.length ≤ 1048576) (h4 : x.block.just.signers.length ≤ 1048576) (h5 : x.cert.signers.length ≤ 1048576) : FnC Tryd.prog 25 [.agg (msC x), .agg (msC y)] [] (fun v L => v = bool (decide (x = y)) ∧ L = []) := by
  have c1 := sameB_ok x.block y.block h1 h2 h3 h4
  have c2 := sameC_ok x.cert y.cert h5
  refine FnC.intro Tryd.func25 rfl Tryd.ntmps25 rfl fun Z w0 hG => ?_
  focus (
    (refine W.seq ?_)
    (refine W.region ?_)
    (refine J.boxAg rfl rfl ?_; intro b')
    (refine J.boxAg rfl rfl ?_; intro b')
    (refine Jx.assign rfl rfl ?_)
    (refine J.nil ?_)
    (refine N.seq ?_)
    (refine W.seq ?_)
    (refine W.region ?_)
    (refine Jx.fieldAddr rfl rfl ?_)
    (refine Jx.load rfl 1 rfl rfl rfl ?_)
    (refine Jx.fieldAddr rfl rfl ?_)
    (refine Jx.load rfl 0 rfl rfl rfl ?_)
    (refine Jx.eqlI rfl rfl rfl ?_)
    (refine Jx.move rfl rfl ?_)
    (refine' J.guardAnd rfl rfl rfl rfl rfl rfl rfl rfl (fun _ => ?_) ?_; rotate_left)
    (refine J.gY rfl rfl rfl ?_)
    (refine Jx.fieldAddr rfl rfl ?_)
    (refine J.gY rfl rfl rfl ?_)
    (refine Jx.load rfl 1 rfl rfl rfl ?_)
    (refine J.gY rfl rfl rfl ?_)
    (refine Jx.fieldAddr rfl rfl ?_)
    (refine J.gY rfl rfl rfl ?_)
    (refine Jx.load rfl 0 rfl rfl rfl ?_)
    (refine J.gY rfl rfl rfl ?_)
    (refine Jx.eqlS rfl rfl rfl ?_)
    (refine J.nil ?_)
    (refine N.joinedN rfl rfl rfl)
    (refine Jx.move rfl rfl ?_)
    (refine' J.guardAnd rfl rfl rfl rfl rfl rfl rfl rfl (fun _ => ?_) ?_; rotate_left)
    (refine J.gY rfl rfl rfl ?_)
    (refine Jx.fieldAddr rfl rfl ?_)
    (refine J.gY rfl rfl rfl ?_)
    (refine Jx.load rfl 1 rfl rfl rfl ?_)
    (refine J.gY rfl rfl rfl ?_)
    (refine Jx.fieldAddr rfl rfl ?_)
    (refine J.gY rfl rfl rfl ?_)
    (refine Jx.load rfl 0 rfl rfl rfl ?_)
    (refine J.gY rfl rfl rfl ?_)
    (refine Jx.eqlI rfl rfl rfl ?_)
    (refine J.nil ?_)
    (refine N.joinedN rfl rfl rfl)
    (refine Jx.move rfl rfl ?_)
    (refine' J.guardAnd rfl rfl rfl rfl rfl rfl rfl rfl (fun _ => ?_) ?_; rotate_left)
    (refine J.gY rfl rfl rfl ?_)
    (refine Jx.fieldAddr rfl rfl ?_)
    (refine J.gY rfl rfl rfl ?_)
    (refine Jx.load rfl 1 rfl rfl rfl ?_)
    (refine J.gY rfl rfl rfl ?_)
    (refine Jx.fieldAddr rfl rfl ?_)
    (refine J.gY rfl rfl rfl ?_)
    (refine Jx.load rfl 0 rfl rfl rfl ?_)
    (refine J.gY rfl rfl rfl ?_)
    (refine Jx.eqlI rfl rfl rfl ?_)
    (refine J.nil ?_)
    (refine N.joinedN rfl rfl rfl)
    (refine Jx.move rfl rfl ?_)
    (refine' J.guardAnd rfl rfl rfl rfl rfl rfl rfl rfl (fun _ => ?_) ?_; rotate_left)
    (refine J.gY rfl rfl rfl ?_)
    (refine Jx.fieldAddr rfl rfl ?_)
    (refine J.gY rfl rfl rfl ?_)
    (refine Jx.load rfl 1 rfl rfl rfl ?_)
    (refine J.gY rfl rfl rfl ?_)
    (refine Jx.fieldAddr rfl rfl ?_)
    (refine J.gY rfl rfl rfl ?_)
    (refine Jx.load rfl 0 rfl rfl rfl ?_)
    (refine J.gY rfl rfl rfl ?_)
    (refine Jx.eqlS rfl rfl rfl ?_)
    (refine J.nil ?_)
    (refine N.joinedN rfl rfl rfl)
    (refine Jx.move rfl rfl ?_)
    (refine' J.guardAnd rfl rfl rfl rfl rfl rfl rfl rfl (fun _ => ?_) ?_; rotate_left)
    (refine J.gY rfl rfl rfl ?_)
    (refine Jx.fieldAddr rfl rfl ?_)
    (refine J.gY rfl rfl rfl ?_)
    (refine Jx.loadAg rfl 1 rfl rfl rfl rfl ?_)
    (refine J.gY rfl rfl rfl ?_)
    (refine Jx.fieldAddr rfl rfl ?_)
    (refine J.gY rfl rfl rfl ?_)
    (refine Jx.loadAg rfl 0 rfl rfl rfl rfl ?_)
    (refine J.gY rfl rfl rfl ?_)
    (refine J.call (c1) rfl (evs_args rfl) rfl ?_; rintro _ _ ⟨rfl, rfl⟩; simp only [List.cons_append, List.nil_append, List.append_nil])
    (refine J.nil ?_)
    (refine N.joinedN rfl rfl rfl)
    (refine Jx.move rfl rfl ?_)
    (refine' J.guardAnd rfl rfl rfl rfl rfl rfl rfl rfl (fun _ => ?_) ?_; rotate_left)
    (refine J.gY rfl rfl rfl ?_)
    (refine Jx.fieldAddr rfl rfl ?_)
    (refine J.gY rfl rfl rfl ?_)
    (refine Jx.loadAg rfl 1 rfl rfl rfl rfl ?_)
    (refine J.gY rfl rfl rfl ?_)
    (refine Jx.fieldAddr rfl rfl ?_)
    (refine J.gY rfl rfl rfl ?_)
    (refine Jx.loadAg rfl 0 rfl rfl rfl rfl ?_)
    (refine J.gY rfl rfl rfl ?_)
    (refine J.call (c2) rfl (evs_args rfl) rfl ?_; rintro _ _ ⟨rfl, rfl⟩; simp only [List.cons_append, List.nil_append, List.append_nil])
    (refine J.nil ?_)
    (refine N.joinedN rfl rfl rfl)
    (refine Jx.assign rfl rfl ?_)
    (refine J.nil ?_)
    (refine N.seq ?_)
    (refine W.ret ?_)
    (refine id ?_; rotate_left))
  refine N.retD (rs := [.tmp 4]) (L1 := []) rfl (.tmp rfl .nil) (List.nil_sublist _) ⟨congrArg Sse.bool ?_, rfl⟩
  rw [Bool.eq_iff_iff]
  simp only [Bool.and_eq_true, decide_eq_true_eq]
  exact ⟨fun h => Ms.ext' h.1.1.1.1.1.1 h.1.1.1.1.1.2 h.1.1.1.1.2 h.1.1.1.2 h.1.1.2 h.1.2 h.2, fun h => by subst h; simp⟩
end Go.Proofs.YtlfdhkahiaammaaDoor
namespace Go.Proofs.YtlfdhkahiaammaaDoor
open Go Go.Sse
set_option linter.unusedVariables false
set_option linter.unusedSimpArgs false
set_option maxRecDepth 10000
theorem vtail_ok (a b : Nat) (s t : List UInt8) (hl : s.length + t.length ≤ 1099511627776) : FnD Tryd.prog 55 [ptr a, ptr b] [.obj b 9 [str t], .obj a 9 [str s]] (fun v L => L = [.obj b 9 [str t], .obj a 9 [str (s ++ t)]]) := by
  refine FnD.intro Tryd.func55 rfl Tryd.ntmps55 rfl fun Z w0 hG => ?_
  focus (
    (refine W.region ?_)
    (refine Jx.load rfl 1 rfl rfl rfl ?_)
    (refine Jx.load rfl 0 rfl rfl rfl ?_)
    (refine Jx.cat rfl rfl (by first | omega | (simp only [List.length_append, List.length_cons, List.length_nil]; omega)) rfl ?_)
    (refine J.st 1 rfl rfl rfl rfl rfl rfl ?_)
    (refine J.nil ?_)
    (refine id ?_; rotate_left))
  exact N.fin (rs := []) rfl .nil rfl
set_option maxHeartbeats 8000000 in
theorem vencode_ok (m : Ms) (hl : m.block.head.skips.length ≤ 1048576) : FnC Tryd.prog 24 [.agg (msC m)] [] (fun v L => v = .tup [str (encO fineMs encMs m), int (codeB (fineMs m) 220)] ∧ L = []) := by
  have ck := vcheck_ok m hl
  refine FnC.introD Tryd.func24 rfl Tryd.ntmps24 rfl fun Z w0 hG => ?_
  unfold encO
  cases hf : fineMs m with
  | false =>
    rw [hf] at ck
    focus (
    (refine W.seq ?_)
    (refine W.region ?_)
    (refine J.boxAg rfl rfl ?_; intro b')
    (refine J.alloc (by simp only [List.map_cons, List.map_nil]; rfl) rfl rfl ?_; intro b')
    (refine Jx.assign rfl rfl ?_)
    (refine J.nil ?_)
    (refine N.seq ?_)
    (refine W.seq ?_)
    (refine W.seq ?_)
    (refine W.region ?_)
    (refine Jx.loadAll rfl 1 rfl rfl rfl ?_)
    (refine J.call (ck) rfl (evs_args rfl) rfl ?_; rintro _ _ ⟨rfl, rfl⟩; simp only [List.cons_append, List.nil_append, List.append_nil])
    (refine Jx.assign rfl rfl ?_)
    (refine J.nil ?_)
    (refine N.seq ?_)
    (refine W.seq ?_)
    (refine W.region ?_)
    (refine Jx.move rfl rfl ?_)
    (refine Jx.neqI rfl rfl rfl ?_)
    (refine J.nil ?_)
    (refine N.seq ?_)
    (refine W.cT rfl ?_)
    (refine W.seq ?_)
    (refine W.region ?_)
    (refine Jx.move rfl rfl ?_)
    (refine J.st 0 rfl rfl rfl rfl rfl rfl ?_)
    (refine Jx.assign rfl rfl ?_)
    (refine J.nil ?_)
    (refine N.seq ?_)
    (refine W.ret ?_)
    (refine N.noGotoRet ?_)
    (refine id ?_; rotate_left))
    exact N.leave0 (N.retD (rs := [.cell 2 9, .tmp 3]) (L1 := []) rfl (.cell1 rfl 0 rfl inferInstance (.tmp rfl .nil)) (List.nil_sublist _) ⟨rfl, rfl⟩)
  | true =>
    rw [hf] at ck
    have f := fineMs_spec hf
    have f1 := f.who; have f2 := f.epoch; have f3 := f.view; have fk := f.kind
    have c1 := text_ok m.who (by omega)
    have c2 := Num_ok m.epoch (by omega)
    have c3 := Num_ok m.view (by omega)
    rw [numR_pos f2.1] at c2
    rw [numR_pos f3.1] at c3
    have k1 := textB_len f1.2 (by omega)
    have k2 := numB9 (n := m.epoch) (by omega)
    have k3 := numB9 (n := m.view) (by omega)
    have hkn : m.kind = ((m.kind.toNat : Nat) : Int) := by omega
    have he : encMs m = [UInt8.ofNat m.kind.toNat] ++ textB m.who ++ numB m.epoch.toNat ++ numB m.view.toNat ++ tailM m := rfl
    have ht := tailM_len f
    rw [if_pos rfl, he]
    generalize textB m.who = tw at *
    generalize numB m.epoch.toNat = te at *
    generalize numB m.view.toNat = tv at *
    have hend : ∀ (s t : List UInt8) (a b : Nat), s.length + t.length ≤ 1099511627776 → FnD Tryd.prog 55 ([].map SV.val ++ [Value.pointer (some ⟨a, 0, none⟩), .pointer (some ⟨b, 0, none⟩)].map SV.val) [.obj b 9 [str t], .obj a 9 [str s]] (fun v L => L = [.obj b 9 [str t], .obj a 9 [str (s ++ t)]]) := fun s t a b h => vtail_ok a b s t h
    by_cases e1 : m.kind = 1
    · have g := f.k1 e1
      have cb := bencode_ok m.block hl
      rw [encO, g.2.2, if_pos rfl] at cb
      have lb := encBk_len ((fineBk_iff _).1 g.2.2)
      have c4 := text_ok (encBk m.block) (by omega)
      have htl : tailM m = textB (encBk m.block) := by rw [tailM, if_pos e1]
      rw [htl] at ht ⊢
      clear he htl
      generalize textB (encBk m.block) = tl at *
      generalize encBk m.block = eb at *
      focus (
    (refine W.seq ?_)
    (refine W.region ?_)
    (refine J.boxAg rfl rfl ?_; intro b')
    (refine J.alloc (by simp only [List.map_cons, List.map_nil]; rfl) rfl rfl ?_; intro b')
    (refine Jx.assign rfl rfl ?_)
    (refine J.nil ?_)
    (refine N.seq ?_)
    (refine W.seq ?_)
    (refine W.seq ?_)
    (refine W.region ?_)
    (refine Jx.loadAll rfl 1 rfl rfl rfl ?_)
    (refine J.call (ck) rfl (evs_args rfl) rfl ?_; rintro _ _ ⟨rfl, rfl⟩; simp only [List.cons_append, List.nil_append, List.append_nil])
    (refine Jx.assign rfl rfl ?_)
    (refine J.nil ?_)
    (refine N.seq ?_)
    (refine W.seq ?_)
    (refine W.region ?_)
    (refine Jx.move rfl rfl ?_)
    (refine Jx.neqI rfl rfl rfl ?_)
    (refine J.nil ?_)
    (refine N.seq ?_)
    (refine W.cF rfl ?_)
    (refine W.skip ?_)
    (refine N.seq ?_)
    (refine W.seq ?_)
    (refine W.region ?_)
    (refine J.alloc (by simp only [List.map_cons, List.map_nil]; rfl) rfl rfl ?_; intro b')
    (refine J.st 0 rfl rfl rfl rfl rfl rfl ?_)
    (refine J.nil ?_)
    (refine N.seq ?_)
    (refine W.seq ?_)
    (refine W.region ?_)
    (refine J.pv (Pv.makeFunc (us := []) (vs := [.pointer (some ⟨_, 0, none⟩), .pointer (some ⟨_, 0, none⟩)]) (evs_args rfl) (evs_args rfl) (fun _ => rfl)) rfl ?_)
    (refine J.defer rfl ?_)
    (refine J.nil ?_)
    (refine N.seq ?_)
    (refine W.seq ?_)
    (refine W.seq ?_)
    (refine W.region ?_)
    (refine Jx.fieldAddr rfl rfl ?_)
    (refine Jx.load rfl 2 rfl rfl rfl ?_)
    (refine J.nil ?_)
    (refine N.seq ?_)
    (refine W.block ?_)
    (refine W.seq ?_)
    (refine W.region ?_)
    (refine Jx.eqlI rfl rfl rfl ?_)
    (refine Jx.assign rfl rfl ?_)
    (refine J.nil ?_)
    (refine N.seq ?_)
    (refine W.cT rfl ?_)
    (refine W.seq ?_)
    (refine W.region ?_)
    (refine Jx.fieldAddr rfl rfl ?_)
    (refine Jx.loadAg rfl 2 rfl rfl rfl rfl ?_)
    (refine J.call (cb) rfl (evs_args rfl) rfl ?_; rintro _ _ ⟨rfl, rfl⟩; simp only [List.cons_append, List.nil_append, List.append_nil])
    (refine Jx.move rfl rfl ?_)
    (refine Jx.extract rfl rfl rfl ?_)
    (refine Jx.extract rfl rfl rfl ?_)
    (refine Jx.assign rfl rfl ?_)
    (refine Jx.assign rfl rfl ?_)
    (refine J.nil ?_)
    (refine N.seq ?_)
    (refine W.region ?_)
    (refine Jx.move rfl rfl ?_)
    (refine J.call (c4) rfl (evs_args rfl) rfl ?_; rintro _ _ ⟨rfl, rfl⟩; simp only [List.cons_append, List.nil_append, List.append_nil])
    (refine J.st 0 rfl rfl rfl rfl rfl rfl ?_)
    (refine J.nil ?_)
    (refine N.seq ?_)
    (refine W.seq ?_)
    (refine W.region ?_)
    (refine Jx.fieldAddr rfl rfl ?_)
    (refine Jx.load rfl 2 rfl rfl rfl ?_)
    (refine J.call (c2) rfl (evs_args rfl) rfl ?_; rintro _ _ ⟨rfl, rfl⟩; simp only [List.cons_append, List.nil_append, List.append_nil])
    (refine Jx.move rfl rfl ?_)
    (refine Jx.extract rfl rfl rfl ?_)
    (refine Jx.extract rfl rfl rfl ?_)
    (refine Jx.assign rfl rfl ?_)
    (refine Jx.assign rfl rfl ?_)
    (refine J.nil ?_)
    (refine N.seq ?_)
    (refine W.seq ?_)
    (refine W.region ?_)
    (refine Jx.fieldAddr rfl rfl ?_)
    (refine Jx.load rfl 2 rfl rfl rfl ?_)
    (refine J.call (c3) rfl (evs_args rfl) rfl ?_; rintro _ _ ⟨rfl, rfl⟩; simp only [List.cons_append, List.nil_append, List.append_nil])
    (refine Jx.move rfl rfl ?_)
    (refine Jx.extract rfl rfl rfl ?_)
    (refine Jx.extract rfl rfl rfl ?_)
    (refine Jx.assign rfl rfl ?_)
    (refine Jx.assign rfl rfl ?_)
    (refine J.nil ?_)
    (refine N.seq ?_)
    (refine W.seq ?_)
    (refine W.draw follows ?_)
    (refine JD.upto (n := 13) rfl (by decide +kernel) (by decide +kernel) rfl rfl ?_)
    (refine Cx.fieldAddr rfl rfl ?_)
    (refine Cx.load rfl 2 rfl rfl rfl ?_)
    (refine Cx.numByte m.kind.toNat rfl rfl hkn rfl ?_)
    (refine SegC.q (Qs.buildBytes [UInt8.ofNat m.kind.toNat] rfl rfl rfl (by decide) (by decide)) rfl ?_)
    (refine Cx.bytesStr rfl rfl ?_)
    (refine Cx.fieldAddr rfl rfl ?_)
    (refine Cx.load rfl 2 rfl rfl rfl ?_)
    (refine SegC.q (Qs.call (Lc := []) (c1) (fun s L' h => h) (List.Perm.refl _) (evs_args rfl)) rfl ?_)
    (refine Cx.cat rfl rfl (by first | omega | (simp only [List.length_append, List.length_cons, List.length_nil]; omega)) rfl ?_)
    (refine Cx.move rfl rfl ?_)
    (refine Cx.cat rfl rfl (by first | omega | (simp only [List.length_append, List.length_cons, List.length_nil]; omega)) rfl ?_)
    (refine Cx.move rfl rfl ?_)
    (refine Cx.cat rfl rfl (by first | omega | (simp only [List.length_append, List.length_cons, List.length_nil]; omega)) rfl ?_)
    (refine SegC.nil ?_)
    (refine J.st 1 rfl rfl rfl rfl rfl rfl ?_)
    (refine Jx.assign rfl rfl ?_)
    (refine J.nil ?_)
    (refine N.seq ?_)
    (refine W.ret ?_)
    (refine id ?_; rotate_left))
      refine N.leave1 (Lc := [_, _]) (hend _ _ _ _ (by simp; omega)) rfl ?_
      rintro _ _ rfl
      exact N.retD (rs := [.cell 2 9, .tmp 3]) (L1 := []) rfl (.cell1 rfl 1 rfl inferInstance (.tmp rfl .nil)) (List.nil_sublist _) ⟨by simp [oneOr], rfl⟩
    · by_cases e3 : m.kind = 3
      · have g := f.k3 e3
        have cv := vbare_ok m.cert
        have cc := cencode_ok m.cert
        have htl : tailM m = justE m.cert := by rw [tailM, if_neg e1, if_pos e3]
        have kf1 := flag_len true; have kf0 := flag_len false
        rw [htl]
        clear he htl
        cases hb : bareCt m.cert with
        | true =>
          rw [hb] at cv
          rw [encO, bare_fine hb] at cc
          have hj : justE m.cert = flagB false := by rw [justE, if_pos hb]
          rw [hj]
          clear hj
          have c5 := flag_ok false
          generalize flagB false = fb at *
          focus (
    (refine W.seq ?_)
    (refine W.region ?_)
    (refine J.boxAg rfl rfl ?_; intro b')
    (refine J.alloc (by simp only [List.map_cons, List.map_nil]; rfl) rfl rfl ?_; intro b')
    (refine Jx.assign rfl rfl ?_)
    (refine J.nil ?_)
    (refine N.seq ?_)
    (refine W.seq ?_)
    (refine W.seq ?_)
    (refine W.region ?_)
    (refine Jx.loadAll rfl 1 rfl rfl rfl ?_)
    (refine J.call (ck) rfl (evs_args rfl) rfl ?_; rintro _ _ ⟨rfl, rfl⟩; simp only [List.cons_append, List.nil_append, List.append_nil])
    (refine Jx.assign rfl rfl ?_)
    (refine J.nil ?_)
    (refine N.seq ?_)
    (refine W.seq ?_)
    (refine W.region ?_)
    (refine Jx.move rfl rfl ?_)
    (refine Jx.neqI rfl rfl rfl ?_)
    (refine J.nil ?_)
    (refine N.seq ?_)
    (refine W.cF rfl ?_)
    (refine W.skip ?_)
    (refine N.seq ?_)
    (refine W.seq ?_)
    (refine W.region ?_)
    (refine J.alloc (by simp only [List.map_cons, List.map_nil]; rfl) rfl rfl ?_; intro b')
    (refine J.st 0 rfl rfl rfl rfl rfl rfl ?_)
    (refine J.nil ?_)
    (refine N.seq ?_)
    (refine W.seq ?_)
    (refine W.region ?_)
    (refine J.pv (Pv.makeFunc (us := []) (vs := [.pointer (some ⟨_, 0, none⟩), .pointer (some ⟨_, 0, none⟩)]) (evs_args rfl) (evs_args rfl) (fun _ => rfl)) rfl ?_)
    (refine J.defer rfl ?_)
    (refine J.nil ?_)
    (refine N.seq ?_)
    (refine W.seq ?_)
    (refine W.seq ?_)
    (refine W.region ?_)
    (refine Jx.fieldAddr rfl rfl ?_)
    (refine Jx.load rfl 2 rfl rfl rfl ?_)
    (refine J.nil ?_)
    (refine N.seq ?_)
    (refine W.block ?_)
    (refine W.seq ?_)
    (refine W.region ?_)
    (refine Jx.eqlI rfl rfl rfl ?_)
    (refine Jx.assign rfl rfl ?_)
    (refine J.nil ?_)
    (refine N.seq ?_)
    (refine W.cF rfl ?_)
    (refine W.seq ?_)
    (refine W.region ?_)
    (refine Jx.eqlI rfl rfl rfl ?_)
    (refine Jx.assign rfl rfl ?_)
    (refine J.nil ?_)
    (refine N.seq ?_)
    (refine W.cT rfl ?_)
    (refine W.seq ?_)
    (refine W.region ?_)
    (refine Jx.fieldAddr rfl rfl ?_)
    (refine Jx.loadAg rfl 2 rfl rfl rfl rfl ?_)
    (refine J.call (cv) rfl (evs_args rfl) rfl ?_; rintro _ _ ⟨rfl, rfl⟩; simp only [List.cons_append, List.nil_append, List.append_nil])
    (refine Jx.not rfl rfl ?_)
    (refine J.call (c5) rfl (evs_args rfl) rfl ?_; rintro _ _ ⟨rfl, rfl⟩; simp only [List.cons_append, List.nil_append, List.append_nil])
    (refine J.st 0 rfl rfl rfl rfl rfl rfl ?_)
    (refine J.nil ?_)
    (refine N.seq ?_)
    (refine W.seq ?_)
    (refine W.region ?_)
    (refine Jx.fieldAddr rfl rfl ?_)
    (refine Jx.loadAg rfl 2 rfl rfl rfl rfl ?_)
    (refine J.call (cc) rfl (evs_args rfl) rfl ?_; rintro _ _ ⟨rfl, rfl⟩; simp only [List.cons_append, List.nil_append, List.append_nil])
    (refine Jx.move rfl rfl ?_)
    (refine Jx.extract rfl rfl rfl ?_)
    (refine Jx.extract rfl rfl rfl ?_)
    (refine Jx.assign rfl rfl ?_)
    (refine Jx.assign rfl rfl ?_)
    (refine J.nil ?_)
    (refine N.seq ?_)
    (refine W.seq ?_)
    (refine W.region ?_)
    (refine Jx.move rfl rfl ?_)
    (refine Jx.eqlI rfl rfl rfl ?_)
    (refine J.nil ?_)
    (refine N.seq ?_)
    (refine W.cF rfl ?_)
    (refine W.skip ?_)
    (refine N.seq ?_)
    (refine W.seq ?_)
    (refine W.region ?_)
    (refine Jx.fieldAddr rfl rfl ?_)
    (refine Jx.load rfl 2 rfl rfl rfl ?_)
    (refine J.call (c2) rfl (evs_args rfl) rfl ?_; rintro _ _ ⟨rfl, rfl⟩; simp only [List.cons_append, List.nil_append, List.append_nil])
    (refine Jx.move rfl rfl ?_)
    (refine Jx.extract rfl rfl rfl ?_)
    (refine Jx.extract rfl rfl rfl ?_)
    (refine Jx.assign rfl rfl ?_)
    (refine Jx.assign rfl rfl ?_)
    (refine J.nil ?_)
    (refine N.seq ?_)
    (refine W.seq ?_)
    (refine W.region ?_)
    (refine Jx.fieldAddr rfl rfl ?_)
    (refine Jx.load rfl 2 rfl rfl rfl ?_)
    (refine J.call (c3) rfl (evs_args rfl) rfl ?_; rintro _ _ ⟨rfl, rfl⟩; simp only [List.cons_append, List.nil_append, List.append_nil])
    (refine Jx.move rfl rfl ?_)
    (refine Jx.extract rfl rfl rfl ?_)
    (refine Jx.extract rfl rfl rfl ?_)
    (refine Jx.assign rfl rfl ?_)
    (refine Jx.assign rfl rfl ?_)
    (refine J.nil ?_)
    (refine N.seq ?_)
    (refine W.seq ?_)
    (refine W.draw follows ?_)
    (refine JD.upto (n := 13) rfl (by decide +kernel) (by decide +kernel) rfl rfl ?_)
    (refine Cx.fieldAddr rfl rfl ?_)
    (refine Cx.load rfl 2 rfl rfl rfl ?_)
    (refine Cx.numByte m.kind.toNat rfl rfl hkn rfl ?_)
    (refine SegC.q (Qs.buildBytes [UInt8.ofNat m.kind.toNat] rfl rfl rfl (by decide) (by decide)) rfl ?_)
    (refine Cx.bytesStr rfl rfl ?_)
    (refine Cx.fieldAddr rfl rfl ?_)
    (refine Cx.load rfl 2 rfl rfl rfl ?_)
    (refine SegC.q (Qs.call (Lc := []) (c1) (fun s L' h => h) (List.Perm.refl _) (evs_args rfl)) rfl ?_)
    (refine Cx.cat rfl rfl (by first | omega | (simp only [List.length_append, List.length_cons, List.length_nil]; omega)) rfl ?_)
    (refine Cx.move rfl rfl ?_)
    (refine Cx.cat rfl rfl (by first | omega | (simp only [List.length_append, List.length_cons, List.length_nil]; omega)) rfl ?_)
    (refine Cx.move rfl rfl ?_)
    (refine Cx.cat rfl rfl (by first | omega | (simp only [List.length_append, List.length_cons, List.length_nil]; omega)) rfl ?_)
    (refine SegC.nil ?_)
    (refine J.st 1 rfl rfl rfl rfl rfl rfl ?_)
    (refine Jx.assign rfl rfl ?_)
    (refine J.nil ?_)
    (refine N.seq ?_)
    (refine W.ret ?_)
    (refine id ?_; rotate_left))
          refine N.leave1 (Lc := [_, _]) (hend _ _ _ _ (by simp; omega)) rfl ?_
          rintro _ _ rfl
          exact N.retD (rs := [.cell 2 9, .tmp 3]) (L1 := []) rfl (.cell1 rfl 1 rfl inferInstance (.tmp rfl .nil)) (List.nil_sublist _) ⟨by simp [oneOr], rfl⟩
        | false =>
          rw [hb] at cv
          have hfc : fineCt m.cert = true := by rcases g.2.1 with h | h; (rw [hb] at h; cases h); exact h
          have lc := encCt_len hfc
          rw [encO, hfc, if_pos rfl] at cc
          have hj : justE m.cert = flagB true ++ textB (encCt m.cert) := by rw [justE, if_neg (by rw [hb]; simp)]
          have lt := textB_len lc (by omega)
          rw [hj]
          clear hj
          have c5 := flag_ok true
          have c6 := text_ok (encCt m.cert) (by omega)
          generalize flagB true = fb at *
          generalize textB (encCt m.cert) = tc at *
          generalize encCt m.cert = ec at *
          focus (
    (refine W.seq ?_)
    (refine W.region ?_)
    (refine J.boxAg rfl rfl ?_; intro b')
    (refine J.alloc (by simp only [List.map_cons, List.map_nil]; rfl) rfl rfl ?_; intro b')
    (refine Jx.assign rfl rfl ?_)
    (refine J.nil ?_)
    (refine N.seq ?_)
    (refine W.seq ?_)
    (refine W.seq ?_)
    (refine W.region ?_)
    (refine Jx.loadAll rfl 1 rfl rfl rfl ?_)
    (refine J.call (ck) rfl (evs_args rfl) rfl ?_; rintro _ _ ⟨rfl, rfl⟩; simp only [List.cons_append, List.nil_append, List.append_nil])
    (refine Jx.assign rfl rfl ?_)
    (refine J.nil ?_)
    (refine N.seq ?_)
    (refine W.seq ?_)
    (refine W.region ?_)
    (refine Jx.move rfl rfl ?_)
    (refine Jx.neqI rfl rfl rfl ?_)
    (refine J.nil ?_)
    (refine N.seq ?_)
    (refine W.cF rfl ?_)
    (refine W.skip ?_)
    (refine N.seq ?_)
    (refine W.seq ?_)
    (refine W.region ?_)
    (refine J.alloc (by simp only [List.map_cons, List.map_nil]; rfl) rfl rfl ?_; intro b')
    (refine J.st 0 rfl rfl rfl rfl rfl rfl ?_)
    (refine J.nil ?_)
    (refine N.seq ?_)
    (refine W.seq ?_)
    (refine W.region ?_)
    (refine J.pv (Pv.makeFunc (us := []) (vs := [.pointer (some ⟨_, 0, none⟩), .pointer (some ⟨_, 0, none⟩)]) (evs_args rfl) (evs_args rfl) (fun _ => rfl)) rfl ?_)
    (refine J.defer rfl ?_)
    (refine J.nil ?_)
    (refine N.seq ?_)
    (refine W.seq ?_)
    (refine W.seq ?_)
    (refine W.region ?_)
    (refine Jx.fieldAddr rfl rfl ?_)
    (refine Jx.load rfl 2 rfl rfl rfl ?_)
    (refine J.nil ?_)
    (refine N.seq ?_)
    (refine W.block ?_)
    (refine W.seq ?_)
    (refine W.region ?_)
    (refine Jx.eqlI rfl rfl rfl ?_)
    (refine Jx.assign rfl rfl ?_)
    (refine J.nil ?_)
    (refine N.seq ?_)
    (refine W.cF rfl ?_)
    (refine W.seq ?_)
    (refine W.region ?_)
    (refine Jx.eqlI rfl rfl rfl ?_)
    (refine Jx.assign rfl rfl ?_)
    (refine J.nil ?_)
    (refine N.seq ?_)
    (refine W.cT rfl ?_)
    (refine W.seq ?_)
    (refine W.region ?_)
    (refine Jx.fieldAddr rfl rfl ?_)
    (refine Jx.loadAg rfl 2 rfl rfl rfl rfl ?_)
    (refine J.call (cv) rfl (evs_args rfl) rfl ?_; rintro _ _ ⟨rfl, rfl⟩; simp only [List.cons_append, List.nil_append, List.append_nil])
    (refine Jx.not rfl rfl ?_)
    (refine J.call (c5) rfl (evs_args rfl) rfl ?_; rintro _ _ ⟨rfl, rfl⟩; simp only [List.cons_append, List.nil_append, List.append_nil])
    (refine J.st 0 rfl rfl rfl rfl rfl rfl ?_)
    (refine J.nil ?_)
    (refine N.seq ?_)
    (refine W.seq ?_)
    (refine W.region ?_)
    (refine Jx.fieldAddr rfl rfl ?_)
    (refine Jx.loadAg rfl 2 rfl rfl rfl rfl ?_)
    (refine J.call (cc) rfl (evs_args rfl) rfl ?_; rintro _ _ ⟨rfl, rfl⟩; simp only [List.cons_append, List.nil_append, List.append_nil])
    (refine Jx.move rfl rfl ?_)
    (refine Jx.extract rfl rfl rfl ?_)
    (refine Jx.extract rfl rfl rfl ?_)
    (refine Jx.assign rfl rfl ?_)
    (refine Jx.assign rfl rfl ?_)
    (refine J.nil ?_)
    (refine N.seq ?_)
    (refine W.seq ?_)
    (refine W.region ?_)
    (refine Jx.move rfl rfl ?_)
    (refine Jx.eqlI rfl rfl rfl ?_)
    (refine J.nil ?_)
    (refine N.seq ?_)
    (refine W.cT rfl ?_)
    (refine W.draw follows ?_)
    (refine JD.upto (n := 4) rfl (by decide +kernel) (by decide +kernel) rfl rfl ?_)
    (refine Cx.load rfl 0 rfl rfl rfl ?_)
    (refine Cx.move rfl rfl ?_)
    (refine SegC.q (Qs.call (Lc := []) (c6) (fun s L' h => h) (List.Perm.refl _) (evs_args rfl)) rfl ?_)
    (refine Cx.cat rfl rfl (by first | omega | (simp only [List.length_append, List.length_cons, List.length_nil]; omega)) rfl ?_)
    (refine SegC.nil ?_)
    (refine J.st 0 rfl rfl rfl rfl rfl rfl ?_)
    (refine J.nil ?_)
    (refine N.seq ?_)
    (refine W.seq ?_)
    (refine W.region ?_)
    (refine Jx.fieldAddr rfl rfl ?_)
    (refine Jx.load rfl 2 rfl rfl rfl ?_)
    (refine J.call (c2) rfl (evs_args rfl) rfl ?_; rintro _ _ ⟨rfl, rfl⟩; simp only [List.cons_append, List.nil_append, List.append_nil])
    (refine Jx.move rfl rfl ?_)
    (refine Jx.extract rfl rfl rfl ?_)
    (refine Jx.extract rfl rfl rfl ?_)
    (refine Jx.assign rfl rfl ?_)
    (refine Jx.assign rfl rfl ?_)
    (refine J.nil ?_)
    (refine N.seq ?_)
    (refine W.seq ?_)
    (refine W.region ?_)
    (refine Jx.fieldAddr rfl rfl ?_)
    (refine Jx.load rfl 2 rfl rfl rfl ?_)
    (refine J.call (c3) rfl (evs_args rfl) rfl ?_; rintro _ _ ⟨rfl, rfl⟩; simp only [List.cons_append, List.nil_append, List.append_nil])
    (refine Jx.move rfl rfl ?_)
    (refine Jx.extract rfl rfl rfl ?_)
    (refine Jx.extract rfl rfl rfl ?_)
    (refine Jx.assign rfl rfl ?_)
    (refine Jx.assign rfl rfl ?_)
    (refine J.nil ?_)
    (refine N.seq ?_)
    (refine W.seq ?_)
    (refine W.draw follows ?_)
    (refine JD.upto (n := 13) rfl (by decide +kernel) (by decide +kernel) rfl rfl ?_)
    (refine Cx.fieldAddr rfl rfl ?_)
    (refine Cx.load rfl 2 rfl rfl rfl ?_)
    (refine Cx.numByte m.kind.toNat rfl rfl hkn rfl ?_)
    (refine SegC.q (Qs.buildBytes [UInt8.ofNat m.kind.toNat] rfl rfl rfl (by decide) (by decide)) rfl ?_)
    (refine Cx.bytesStr rfl rfl ?_)
    (refine Cx.fieldAddr rfl rfl ?_)
    (refine Cx.load rfl 2 rfl rfl rfl ?_)
    (refine SegC.q (Qs.call (Lc := []) (c1) (fun s L' h => h) (List.Perm.refl _) (evs_args rfl)) rfl ?_)
    (refine Cx.cat rfl rfl (by first | omega | (simp only [List.length_append, List.length_cons, List.length_nil]; omega)) rfl ?_)
    (refine Cx.move rfl rfl ?_)
    (refine Cx.cat rfl rfl (by first | omega | (simp only [List.length_append, List.length_cons, List.length_nil]; omega)) rfl ?_)
    (refine Cx.move rfl rfl ?_)
    (refine Cx.cat rfl rfl (by first | omega | (simp only [List.length_append, List.length_cons, List.length_nil]; omega)) rfl ?_)
    (refine SegC.nil ?_)
    (refine J.st 1 rfl rfl rfl rfl rfl rfl ?_)
    (refine Jx.assign rfl rfl ?_)
    (refine J.nil ?_)
    (refine N.seq ?_)
    (refine W.ret ?_)
    (refine id ?_; rotate_left))
          refine N.leave1 (Lc := [_, _]) (hend _ _ _ _ (by simp; omega)) rfl ?_
          rintro _ _ rfl
          exact N.retD (rs := [.cell 2 9, .tmp 3]) (L1 := []) rfl (.cell1 rfl 1 rfl inferInstance (.tmp rfl .nil)) (List.nil_sublist _) ⟨by simp [oneOr], rfl⟩
      · have g := f.k2 (by omega)
        have htl : tailM m = m.digest := by rw [tailM, if_neg e1, if_neg e3]
        rw [htl] at ht ⊢
        clear he htl
        focus (
    (refine W.seq ?_)
    (refine W.region ?_)
    (refine J.boxAg rfl rfl ?_; intro b')
    (refine J.alloc (by simp only [List.map_cons, List.map_nil]; rfl) rfl rfl ?_; intro b')
    (refine Jx.assign rfl rfl ?_)
    (refine J.nil ?_)
    (refine N.seq ?_)
    (refine W.seq ?_)
    (refine W.seq ?_)
    (refine W.region ?_)
    (refine Jx.loadAll rfl 1 rfl rfl rfl ?_)
    (refine J.call (ck) rfl (evs_args rfl) rfl ?_; rintro _ _ ⟨rfl, rfl⟩; simp only [List.cons_append, List.nil_append, List.append_nil])
    (refine Jx.assign rfl rfl ?_)
    (refine J.nil ?_)
    (refine N.seq ?_)
    (refine W.seq ?_)
    (refine W.region ?_)
    (refine Jx.move rfl rfl ?_)
    (refine Jx.neqI rfl rfl rfl ?_)
    (refine J.nil ?_)
    (refine N.seq ?_)
    (refine W.cF rfl ?_)
    (refine W.skip ?_)
    (refine N.seq ?_)
    (refine W.seq ?_)
    (refine W.region ?_)
    (refine J.alloc (by simp only [List.map_cons, List.map_nil]; rfl) rfl rfl ?_; intro b')
    (refine J.st 0 rfl rfl rfl rfl rfl rfl ?_)
    (refine J.nil ?_)
    (refine N.seq ?_)
    (refine W.seq ?_)
    (refine W.region ?_)
    (refine J.pv (Pv.makeFunc (us := []) (vs := [.pointer (some ⟨_, 0, none⟩), .pointer (some ⟨_, 0, none⟩)]) (evs_args rfl) (evs_args rfl) (fun _ => rfl)) rfl ?_)
    (refine J.defer rfl ?_)
    (refine J.nil ?_)
    (refine N.seq ?_)
    (refine W.seq ?_)
    (refine W.seq ?_)
    (refine W.region ?_)
    (refine Jx.fieldAddr rfl rfl ?_)
    (refine Jx.load rfl 2 rfl rfl rfl ?_)
    (refine J.nil ?_)
    (refine N.seq ?_)
    (refine W.block ?_)
    (refine W.seq ?_)
    (refine W.region ?_)
    (refine Jx.eqlI rfl rfl rfl ?_)
    (refine Jx.assign rfl rfl ?_)
    (refine J.nil ?_)
    (refine N.seq ?_)
    (refine W.cF rfl ?_)
    (refine W.seq ?_)
    (refine W.region ?_)
    (refine Jx.eqlI rfl rfl rfl ?_)
    (refine Jx.assign rfl rfl ?_)
    (refine J.nil ?_)
    (refine N.seq ?_)
    (refine W.cF rfl ?_)
    (refine W.region ?_)
    (refine Jx.fieldAddr rfl rfl ?_)
    (refine Jx.load rfl 2 rfl rfl rfl ?_)
    (refine J.st 0 rfl rfl rfl rfl rfl rfl ?_)
    (refine J.nil ?_)
    (refine N.seq ?_)
    (refine W.seq ?_)
    (refine W.region ?_)
    (refine Jx.fieldAddr rfl rfl ?_)
    (refine Jx.load rfl 2 rfl rfl rfl ?_)
    (refine J.call (c2) rfl (evs_args rfl) rfl ?_; rintro _ _ ⟨rfl, rfl⟩; simp only [List.cons_append, List.nil_append, List.append_nil])
    (refine Jx.move rfl rfl ?_)
    (refine Jx.extract rfl rfl rfl ?_)
    (refine Jx.extract rfl rfl rfl ?_)
    (refine Jx.assign rfl rfl ?_)
    (refine Jx.assign rfl rfl ?_)
    (refine J.nil ?_)
    (refine N.seq ?_)
    (refine W.seq ?_)
    (refine W.region ?_)
    (refine Jx.fieldAddr rfl rfl ?_)
    (refine Jx.load rfl 2 rfl rfl rfl ?_)
    (refine J.call (c3) rfl (evs_args rfl) rfl ?_; rintro _ _ ⟨rfl, rfl⟩; simp only [List.cons_append, List.nil_append, List.append_nil])
    (refine Jx.move rfl rfl ?_)
    (refine Jx.extract rfl rfl rfl ?_)
    (refine Jx.extract rfl rfl rfl ?_)
    (refine Jx.assign rfl rfl ?_)
    (refine Jx.assign rfl rfl ?_)
    (refine J.nil ?_)
    (refine N.seq ?_)
    (refine W.seq ?_)
    (refine W.draw follows ?_)
    (refine JD.upto (n := 13) rfl (by decide +kernel) (by decide +kernel) rfl rfl ?_)
    (refine Cx.fieldAddr rfl rfl ?_)
    (refine Cx.load rfl 2 rfl rfl rfl ?_)
    (refine Cx.numByte m.kind.toNat rfl rfl hkn rfl ?_)
    (refine SegC.q (Qs.buildBytes [UInt8.ofNat m.kind.toNat] rfl rfl rfl (by decide) (by decide)) rfl ?_)
    (refine Cx.bytesStr rfl rfl ?_)
    (refine Cx.fieldAddr rfl rfl ?_)
    (refine Cx.load rfl 2 rfl rfl rfl ?_)
    (refine SegC.q (Qs.call (Lc := []) (c1) (fun s L' h => h) (List.Perm.refl _) (evs_args rfl)) rfl ?_)
    (refine Cx.cat rfl rfl (by first | omega | (simp only [List.length_append, List.length_cons, List.length_nil]; omega)) rfl ?_)
    (refine Cx.move rfl rfl ?_)
    (refine Cx.cat rfl rfl (by first | omega | (simp only [List.length_append, List.length_cons, List.length_nil]; omega)) rfl ?_)
    (refine Cx.move rfl rfl ?_)
    (refine Cx.cat rfl rfl (by first | omega | (simp only [List.length_append, List.length_cons, List.length_nil]; omega)) rfl ?_)
    (refine SegC.nil ?_)
    (refine J.st 1 rfl rfl rfl rfl rfl rfl ?_)
    (refine Jx.assign rfl rfl ?_)
    (refine J.nil ?_)
    (refine N.seq ?_)
    (refine W.ret ?_)
    (refine id ?_; rotate_left))
        refine N.leave1 (Lc := [_, _]) (hend _ _ _ _ (by simp; omega)) rfl ?_
        rintro _ _ rfl
        exact N.retD (rs := [.cell 2 9, .tmp 3]) (L1 := []) rfl (.cell1 rfl 1 rfl inferInstance (.tmp rfl .nil)) (List.nil_sublist _) ⟨by simp [oneOr], rfl⟩
end Go.Proofs.YtlfdhkahiaammaaDoor
namespace Go.Proofs.YtlfdhkahiaammaaDoor
open Go Go.Sse
set_option linter.unusedVariables false
set_option linter.unusedSimpArgs false
set_option maxRecDepth 10000
abbrev msJ (k : Int) (w : List UInt8) (e v : Int) (d : List UInt8) : List SV := [int k, str w, int e, int v, str d, int 0, int 0, int 0, bool false, str [], str [], str [], str [], str [], str [], .val (.slice none 0 0), .val (.slice none 0 0), str [], .val (.slice none 0 0), str [], .val (.slice none 0 0)]
theorem msJ_sub (k : Int) (w : List UInt8) (e v : Int) (d : List UInt8) : SubL (msJ k w e v d) (msC ⟨k, w, e, v, d, bk0, ct0⟩) := .cons (.refl _) (.cons (.refl _) (.cons (.refl _) (.cons (.refl _) (.cons (.refl _) (.cons (.refl _) (.cons (.refl _) (.cons (.refl _) (.cons (.refl _) (.cons (.refl _) (.cons (.refl _) (.cons (.refl _) (.cons (.refl _) (.cons (.refl _) (.cons (.refl _) (.cons (Sub.nil 1 _) (.cons (Sub.nil 8 _) (.cons (.refl _) (.cons (Sub.nil 1 _) (.cons (.refl _) (.cons (Sub.nil 1 _) .nil))))))))))))))))))))
theorem msB_sub (k : Int) (w : List UInt8) (e v : Int) (d : List UInt8) (B : Bk) : SubL [int k, str w, int e, int v, str d, int B.head.height, int B.head.epoch, int B.head.view, bool B.head.last, str B.head.parent, str B.head.state, str B.head.receipts, str B.head.txs, str B.head.members, str B.head.next, ssl B.head.skips, txsl B.txs, str B.just.digest, ssl B.just.signers, str [], .val (.slice none 0 0)] (msC ⟨k, w, e, v, d, B, ct0⟩) := .cons (.refl _) (.cons (.refl _) (.cons (.refl _) (.cons (.refl _) (.cons (.refl _) (.cons (.refl _) (.cons (.refl _) (.cons (.refl _) (.cons (.refl _) (.cons (.refl _) (.cons (.refl _) (.cons (.refl _) (.cons (.refl _) (.cons (.refl _) (.cons (.refl _) (.cons (.refl _) (.cons (.refl _) (.cons (.refl _) (.cons (.refl _) (.cons (.refl _) (.cons (Sub.nil 1 _) .nil))))))))))))))))))))
theorem msK_sub (k : Int) (w : List UInt8) (e v : Int) (d : List UInt8) (C : Ct) : SubL [int k, str w, int e, int v, str d, int 0, int 0, int 0, bool false, str [], str [], str [], str [], str [], str [], .val (.slice none 0 0), .val (.slice none 0 0), str [], .val (.slice none 0 0), str C.digest, ssl C.signers] (msC ⟨k, w, e, v, d, bk0, C⟩) := .cons (.refl _) (.cons (.refl _) (.cons (.refl _) (.cons (.refl _) (.cons (.refl _) (.cons (.refl _) (.cons (.refl _) (.cons (.refl _) (.cons (.refl _) (.cons (.refl _) (.cons (.refl _) (.cons (.refl _) (.cons (.refl _) (.cons (.refl _) (.cons (.refl _) (.cons (Sub.nil 1 _) (.cons (Sub.nil 8 _) (.cons (.refl _) (.cons (Sub.nil 1 _) (.cons (.refl _) (.cons (.refl _) .nil))))))))))))))))))))
theorem codeO_zero {α : Type} {o : Option α} {e : Int} (he : e ≠ 0) : codeO o e = 0 ↔ o.isSome = true := by cases o <;> simp [he]
theorem kdOf_eq (k : List UInt8) : kdOf k = ((k.getD 0 0).toNat : Int) := by
  cases k <;> rfl
theorem decB_skips {s : List UInt8} {o : Option Bk} (h : DecR fineBk encBk s o) : (o.getD bk0).head.skips.length ≤ 1048576 := by
  cases o with
  | none => simp [bk0, hd0]
  | some x => have := ((fineHd_iff _).1 ((fineBk_iff x).1 h.1).head).skips20; simp only [Option.getD_some]; omega
set_option maxHeartbeats 8000000 in
theorem vdecode_ok (s : List UInt8) (hs : s.length ≤ 1099511627776) : FnC Tryd.prog 23 [str s] [] (fun v L => (∃ o, DecR fineMs encMs s o ∧ v = .tup [.agg (msC (o.getD ms0)), int (codeO o 220)]) ∧ L = []) := by
  have c0 := read_ok s
  have c1 := fun b => rd_Bytes b s 0 0 1 (Nat.zero_le _) hs
  refine FnC.intro Tryd.func23 rfl Tryd.ntmps23 rfl fun Z w0 hG => ?_
  focus (
    (refine W.seq ?_)
    (refine W.region ?_)
    (refine J.alloc (by simp only [List.map_cons, List.map_nil]; rfl) rfl rfl ?_; intro b')
    (refine Jx.assign rfl rfl ?_)
    (refine J.nil ?_)
    (refine N.seq ?_)
    (refine W.seq ?_)
    (refine W.region ?_)
    (refine Jx.move rfl rfl ?_)
    (refine J.call (Lc := []) c0 rfl (evs_args rfl) rfl ?_; rintro _ _ ⟨b, rfl, rfl⟩; simp only [List.cons_append, List.nil_append, List.append_nil])
    (refine Jx.assign rfl rfl ?_)
    (refine J.nil ?_)
    (refine N.seq ?_)
    (refine W.seq ?_)
    (refine W.region ?_)
    (refine J.alloc (by simp only [List.map_cons, List.map_nil]; rfl) rfl rfl ?_; intro b')
    (refine J.nil ?_)
    (refine N.seq ?_)
    (refine W.seq ?_)
    (refine W.seq ?_)
    (refine W.region ?_)
    (refine Jx.move rfl rfl ?_)
    (refine J.call1 1 ((c1 _)) rfl (evs_args rfl) rfl (by rintro _ _ ⟨k, a1, c1', rfl, rfl, ha1, hk⟩; exact ⟨_, rfl⟩) ?_; rintro _ _ ⟨k, a1, c1', rfl, ⟨⟩, ha1, hk⟩; simp only [List.set_cons_zero, List.set_cons_succ])
    (refine Jx.assign rfl rfl ?_)
    (refine J.nil ?_)
    (refine N.seq ?_)
    (refine W.seq ?_)
    (refine W.region ?_)
    (refine Jx.move rfl rfl ?_)
    (refine Jx.neqS rfl rfl rfl ?_)
    (refine J.nil ?_)
    (refine N.seq ?_)
    (refine id ?_; rotate_left))
  rename_i p2
  refine W.joinE (α := Unit) (fun _ => [(4, ptr b), (5, ptr b'), (2, ptr p2)]) (fun _ => [.obj b' tMs (msJ (kdOf k) [] 0 0 []), rdO b ⟨s, a1, c1'⟩, .obj p2 tMs msz]) (fun _ => True) ?_ ?_
  · refine W.cond rfl (fun h1 => ?_) (fun h1 => ?_)
    · have h1 := of_decide_eq_true h1
      have hl : (0 : Int) < (k.length : Int) := by have := List.length_pos_iff.2 h1; omega
      focus (
    (refine W.region ?_)
    (refine Jx.move rfl rfl ?_)
    (refine Jx.indexS (m := 0) rfl rfl (by decide) hl rfl ?_)
    (refine Jx.byteNum rfl rfl rfl ?_)
    (refine Jx.fieldAddr rfl rfl ?_)
    (refine J.st 0 rfl rfl rfl rfl rfl rfl ?_)
    (refine J.nil ?_)
    (refine id ?_; rotate_left))
      exact N.joinE () trivial rfl ⟨ref0 rfl, ref0 rfl, ref0 rfl, trivial⟩
    · have h1 : k = [] := by have := of_decide_eq_false h1; exact Classical.not_not.1 this
      focus (
    (refine W.skip ?_)
    (refine id ?_; rotate_left))
      exact N.joinE () trivial (by rw [h1]; rfl) ⟨ref0 rfl, ref0 rfl, ref0 rfl, trivial⟩
  · intro _ _
    have c2 := rd_Text b s a1 c1' 6 ha1 hs
    have hke := kdOf_eq k
    generalize kdOf k = kd at *
    focus (
    (refine N.seq ?_)
    (refine W.seq ?_)
    (refine W.region ?_)
    (refine Jx.move rfl rfl ?_)
    (refine J.call1 1 (c2) rfl (evs_args rfl) rfl (by rintro _ _ ⟨f, a2, c2', rfl, rfl, ha2, hf⟩; exact ⟨_, rfl⟩) ?_; rintro _ _ ⟨f, a2, c2', rfl, ⟨⟩, ha2, hf⟩; simp only [List.set_cons_zero, List.set_cons_succ])
    (refine Jx.fieldAddr rfl rfl ?_)
    (refine J.st 0 rfl rfl rfl rfl rfl rfl ?_)
    (refine J.nil ?_)
    (refine N.seq ?_)
    (refine W.seq ?_)
    (refine W.region ?_)
    (refine Jx.move rfl rfl ?_)
    (refine J.call1 1 ((rd_Num b s a2 c2' ha2 hs)) rfl (evs_args rfl) rfl (by rintro _ _ ⟨q, a3, c3', rfl, rfl, ha3, hql, hq⟩; exact ⟨_, rfl⟩) ?_; rintro _ _ ⟨q, a3, c3', rfl, ⟨⟩, ha3, hql, hq⟩; simp only [List.set_cons_zero, List.set_cons_succ])
    (refine Jx.move rfl rfl ?_)
    (refine J.call1 1 ((rd_Num b s a3 c3' ha3 hs)) rfl (evs_args rfl) rfl (by rintro _ _ ⟨v, a4, c4', rfl, rfl, ha4, hvl, hv⟩; exact ⟨_, rfl⟩) ?_; rintro _ _ ⟨v, a4, c4', rfl, ⟨⟩, ha4, hvl, hv⟩; simp only [List.set_cons_zero, List.set_cons_succ])
    (refine Jx.fieldAddr rfl rfl ?_)
    (refine J.st 0 rfl rfl rfl rfl rfl rfl ?_)
    (refine Jx.fieldAddr rfl rfl ?_)
    (refine J.st 0 rfl rfl rfl rfl rfl rfl ?_)
    (refine J.nil ?_)
    (refine N.seq ?_)
    (refine W.seq ?_)
    (refine W.region ?_)
    (refine Jx.assign rfl rfl ?_)
    (refine J.nil ?_)
    (refine N.seq ?_)
    (refine W.seq ?_)
    (refine W.seq ?_)
    (refine W.region ?_)
    (refine Jx.fieldAddr rfl rfl ?_)
    (refine Jx.load rfl 0 rfl rfl rfl ?_)
    (refine J.nil ?_)
    (refine N.seq ?_)
    (refine id ?_; rotate_left))
    refine W.joinE (α := Ms × Bool × Nat × Int × Int) (fun x => [(7, int x.2.2.2.2), (4, ptr b), (5, ptr b'), (2, ptr p2)]) (fun x => [.obj b' tMs (msC x.1), rdO b ⟨s, x.2.2.1, x.2.2.2.1⟩, .obj p2 tMs msz]) (fun x => x.2.2.1 ≤ s.length ∧ x.1.block.head.skips.length ≤ 1048576 ∧ (x.2.2.2.2 = 0 ↔ x.2.1 = true) ∧ ReadM 6 65536 s x.1 x.2.1 (lf s x.2.2.1 x.2.2.2.1)) ?_ ?_
    · have mk : ∀ (x : Ms) ok st, x.kind = kd → x.who = f → x.epoch = (q : Int) → x.view = (v : Int) → TailM 65536 x ok (lf s a4 c4') st → ReadM 6 65536 s x ok st := fun x ok st h1 h2 h3 h4 h5 =>
        ⟨k, _, _, q, _, v, _, hk, by rw [h1, hke], by rw [h2]; exact hf, hq, h3, hv, h4, h5⟩
      have hsk0 : bk0.head.skips.length ≤ 1048576 := by decide
      by_cases e1 : kd = 1
      · focus (
    (refine W.block ?_)
    (refine W.seq ?_)
    (refine W.region ?_)
    (refine Jx.eqlI rfl rfl rfl ?_)
    (refine Jx.assign rfl rfl ?_)
    (refine J.nil ?_)
    (refine N.seq ?_)
    (refine W.cT rfl ?_)
    (refine W.region ?_)
    (refine Jx.move rfl rfl ?_)
    (refine J.call1 1 ((rd_Text b s a4 c4' 65536 ha4 hs)) rfl (evs_args rfl) rfl (by rintro _ _ ⟨t, a5, c5', rfl, rfl, ha5, ht⟩; exact ⟨_, rfl⟩) ?_; rintro _ _ ⟨t, a5, c5', rfl, ⟨⟩, ha5, ht⟩; simp only [List.set_cons_zero, List.set_cons_succ])
    (refine J.call (Lc := []) (bdecode_ok t (by have := bound_text ht; omega)) rfl (evs_args rfl) rfl ?_; rintro _ _ ⟨⟨o, ho, rfl⟩, rfl⟩; simp only [List.cons_append, List.nil_append, List.append_nil])
    (refine Jx.move rfl rfl ?_)
    (refine Jx.extract rfl rfl rfl ?_)
    (refine Jx.extract rfl rfl rfl ?_)
    (refine Jx.fieldAddr rfl rfl ?_)
    (refine J.storeAg rfl rfl rfl 0 rfl rfl rfl rfl ?_)
    (refine Jx.assign rfl rfl ?_)
    (refine J.nil ?_)
    (refine N.noGotoNormal ?_)
    (refine id ?_; rotate_left))
        refine N.objSub 0 (msC ⟨kd, f, q, v, [], o.getD bk0, ct0⟩) rfl (msB_sub _ _ _ _ _ _) rfl ?_
        exact N.joinE (⟨kd, f, q, v, [], o.getD bk0, ct0⟩, o.isSome, a5, c5', codeO o 210) ⟨ha5, decB_skips ho, codeO_zero (by decide), mk _ _ _ rfl rfl rfl rfl ⟨fun _ => ⟨t, o, ht, ho, rfl, rfl, rfl, rfl⟩, fun h => by simp only at h; omega, fun h => absurd e1 h⟩⟩ rfl ⟨ref0 rfl, ref0 rfl, ref0 rfl, ref0 rfl, trivial⟩
      · by_cases e3 : kd = 3
        · focus (
    (refine W.block ?_)
    (refine W.seq ?_)
    (refine W.region ?_)
    (refine Jx.eqlI rfl rfl rfl ?_)
    (refine Jx.assign rfl rfl ?_)
    (refine J.nil ?_)
    (refine N.seq ?_)
    (refine W.cF rfl ?_)
    (refine W.seq ?_)
    (refine W.region ?_)
    (refine Jx.eqlI rfl rfl rfl ?_)
    (refine Jx.assign rfl rfl ?_)
    (refine J.nil ?_)
    (refine N.seq ?_)
    (refine W.cT rfl ?_)
    (refine W.seq ?_)
    (refine W.region ?_)
    (refine Jx.move rfl rfl ?_)
    (refine J.call1 1 ((rd_Flag b s a4 c4' ha4 hs)) rfl (evs_args rfl) rfl (by rintro _ _ ⟨fl, a5, c5', rfl, rfl, ha5, hfl⟩; exact ⟨_, rfl⟩) ?_; rintro _ _ ⟨fl, a5, c5', rfl, ⟨⟩, ha5, hfl⟩; simp only [List.set_cons_zero, List.set_cons_succ])
    (refine J.nil ?_)
    (refine N.seq ?_)
    (refine id ?_; rotate_left))
          cases fl with
          | false =>
            focus (
    (refine W.cF rfl ?_)
    (refine W.skip ?_)
    (refine N.noGotoNormal ?_)
    (refine id ?_; rotate_left))
            refine N.objSub 0 (msC ⟨kd, f, q, v, [], bk0, ct0⟩) rfl (msJ_sub _ _ _ _ _) rfl ?_
            exact N.joinE (⟨kd, f, q, v, [], bk0, ct0⟩, true, a5, c5', 0) ⟨ha5, hsk0, by simp, mk _ _ _ rfl rfl rfl rfl ⟨fun h => absurd h e1, fun _ => ⟨⟨false, _, hfl, fun _ => ⟨rfl, rfl, rfl⟩, fun h => by cases h⟩, rfl, rfl⟩, fun _ h => absurd e3 h⟩⟩ rfl ⟨ref0 rfl, ref0 rfl, ref0 rfl, ref0 rfl, trivial⟩
          | true =>
            focus (
    (refine W.cT rfl ?_)
    (refine W.region ?_)
    (refine Jx.move rfl rfl ?_)
    (refine J.call1 1 ((rd_Text b s a5 c5' 65536 ha5 hs)) rfl (evs_args rfl) rfl (by rintro _ _ ⟨t, a6, c6', rfl, rfl, ha6, ht⟩; exact ⟨_, rfl⟩) ?_; rintro _ _ ⟨t, a6, c6', rfl, ⟨⟩, ha6, ht⟩; simp only [List.set_cons_zero, List.set_cons_succ])
    (refine J.call (Lc := []) (cdecode_ok t (by have := bound_text ht; omega)) rfl (evs_args rfl) rfl ?_; rintro _ _ ⟨⟨o, ho, rfl⟩, rfl⟩; simp only [List.cons_append, List.nil_append, List.append_nil])
    (refine Jx.move rfl rfl ?_)
    (refine Jx.extract rfl rfl rfl ?_)
    (refine Jx.extract rfl rfl rfl ?_)
    (refine Jx.fieldAddr rfl rfl ?_)
    (refine J.storeAg rfl rfl rfl 0 rfl rfl rfl rfl ?_)
    (refine Jx.assign rfl rfl ?_)
    (refine J.nil ?_)
    (refine N.noGotoNormal ?_)
    (refine id ?_; rotate_left))
            refine N.objSub 0 (msC ⟨kd, f, q, v, [], bk0, o.getD ct0⟩) rfl (msK_sub _ _ _ _ _ _) rfl ?_
            exact N.joinE (⟨kd, f, q, v, [], bk0, o.getD ct0⟩, o.isSome, a6, c6', codeO o 3) ⟨ha6, hsk0, codeO_zero (by decide), mk _ _ _ rfl rfl rfl rfl ⟨fun h => absurd h e1, fun _ => ⟨⟨true, _, hfl, (fun h => by cases h), fun _ => ⟨t, o, ht, ho, rfl, rfl⟩⟩, rfl, rfl⟩, fun _ h => absurd e3 h⟩⟩ rfl ⟨ref0 rfl, ref0 rfl, ref0 rfl, ref0 rfl, trivial⟩
        · focus (
    (refine W.block ?_)
    (refine W.seq ?_)
    (refine W.region ?_)
    (refine Jx.eqlI rfl rfl rfl ?_)
    (refine Jx.assign rfl rfl ?_)
    (refine J.nil ?_)
    (refine N.seq ?_)
    (refine W.cF rfl ?_)
    (refine W.seq ?_)
    (refine W.region ?_)
    (refine Jx.eqlI rfl rfl rfl ?_)
    (refine Jx.assign rfl rfl ?_)
    (refine J.nil ?_)
    (refine N.seq ?_)
    (refine W.cF rfl ?_)
    (refine W.region ?_)
    (refine Jx.move rfl rfl ?_)
    (refine J.call1 1 ((rd_Bytes b s a4 c4' 32 ha4 hs)) rfl (evs_args rfl) rfl (by rintro _ _ ⟨t, a5, c5', rfl, rfl, ha5, ht⟩; exact ⟨_, rfl⟩) ?_; rintro _ _ ⟨t, a5, c5', rfl, ⟨⟩, ha5, ht⟩; simp only [List.set_cons_zero, List.set_cons_succ])
    (refine Jx.fieldAddr rfl rfl ?_)
    (refine J.st 0 rfl rfl rfl rfl rfl rfl ?_)
    (refine J.nil ?_)
    (refine N.noGotoNormal ?_)
    (refine id ?_; rotate_left))
          refine N.objSub 0 (msC ⟨kd, f, q, v, t, bk0, ct0⟩) rfl (msJ_sub _ _ _ _ _) rfl ?_
          exact N.joinE (⟨kd, f, q, v, t, bk0, ct0⟩, true, a5, c5', 0) ⟨ha5, hsk0, by simp, mk _ _ _ rfl rfl rfl rfl ⟨fun h => absurd h e1, fun h => absurd h e3, fun _ _ => ⟨ht, rfl, rfl, rfl⟩⟩⟩ rfl ⟨ref0 rfl, ref0 rfl, ref0 rfl, ref0 rfl, trivial⟩
    · rintro ⟨x, ok, a, c, e7⟩ ⟨ha, hsk, h7, hr⟩
      simp only at ha hsk h7 hr ⊢
      have ce := rd_End b s a c ha hs
      have ck := vcheck_ok x hsk
      focus (
    (refine N.seq ?_)
    (refine W.seq ?_)
    (refine W.seq ?_)
    (refine W.region ?_)
    (refine Jx.move rfl rfl ?_)
    (refine J.call1 1 (ce) rfl (evs_args rfl) rfl (by rintro _ _ ⟨e, a9, c9, rfl, rfl, he⟩; exact ⟨_, rfl⟩) ?_; rintro _ _ ⟨e, a9, c9, rfl, ⟨⟩, he⟩; simp only [List.set_cons_zero, List.set_cons_succ])
    (refine Jx.neqI rfl rfl rfl ?_)
    (refine Jx.move rfl rfl ?_)
    (refine' J.guardOr rfl rfl rfl rfl rfl rfl rfl rfl (fun _ => ?_) ?_; rotate_left)
    (refine J.gY rfl rfl rfl ?_)
    (refine Jx.move rfl rfl ?_)
    (refine J.gY rfl rfl rfl ?_)
    (refine Jx.neqI rfl rfl rfl ?_)
    (refine J.nil ?_)
    (refine N.joinedN rfl rfl rfl)
    (refine Jx.move rfl rfl ?_)
    (refine' J.guardOr rfl rfl rfl rfl rfl rfl rfl rfl (fun _ => ?_) ?_; rotate_left)
    (refine J.gY rfl rfl rfl ?_)
    (refine Jx.loadAll rfl 0 rfl rfl rfl ?_)
    (refine J.gY rfl rfl rfl ?_)
    (refine J.call (Lc := []) ck rfl (evs_args rfl) rfl ?_; rintro _ _ ⟨rfl, rfl⟩; simp only [List.cons_append, List.nil_append, List.append_nil])
    (refine J.gY rfl rfl rfl ?_)
    (refine Jx.neqI rfl rfl rfl ?_)
    (refine J.nil ?_)
    (refine N.joinedN rfl rfl rfl)
    (refine J.nil ?_)
    (refine N.seq ?_)
    (refine id ?_; rotate_left))
      refine W.cond rfl (fun hb => ?_) (fun hb => ?_)
      · focus (
    (refine W.seq ?_)
    (refine W.region ?_)
    (refine Jx.buildB rfl rfl rfl rfl rfl ?_)
    (refine J.storeAll rfl rfl rfl 2 rfl rfl rfl ?_)
    (refine Jx.assign rfl rfl ?_)
    (refine J.nil ?_)
    (refine N.seq ?_)
    (refine W.ret ?_)
    (refine N.noGotoRet ?_)
    (refine id ?_; rotate_left))
        refine N.objSub 2 (msC ms0) rfl msz_sub rfl ?_
        refine N.retD (rs := [.cell 2 tMs, .tmp 3]) (L1 := []) rfl (.cell rfl 2 rfl agMs (.tmp rfl .nil)) (List.nil_sublist _) ⟨⟨none, fun y hy hz => ?_, rfl⟩, rfl⟩
        obtain ⟨rfl, h1, h2⟩ := hr.whole (by decide) (by decide) hy (r := []) (by rw [List.append_nil, hz])
        rw [he.2 h2, hy, h7.2 h1] at hb
        simp at hb
      · focus (
    (refine W.skip ?_)
    (refine N.seq ?_)
    (refine W.seq ?_)
    (refine W.region ?_)
    (refine Jx.loadAll rfl 0 rfl rfl rfl ?_)
    (refine J.storeAll rfl rfl rfl 2 rfl rfl rfl ?_)
    (refine Jx.assign rfl rfl ?_)
    (refine J.nil ?_)
    (refine N.seq ?_)
    (refine W.ret ?_)
    (refine id ?_; rotate_left))
        refine N.retD (rs := [.cell 2 tMs, .tmp 3]) (L1 := []) rfl (.cell rfl 2 rfl agMs (.tmp rfl .nil)) (List.nil_sublist _) ⟨⟨some x, ?_, rfl⟩, rfl⟩
        simp only [Bool.or_eq_false_iff, decide_eq_false_iff_not, Classical.not_not] at hb
        obtain ⟨⟨b1, b2⟩, b3⟩ := hb
        have hf : fineMs x = true := by
          cases hf : fineMs x with
          | true => rfl
          | false => rw [hf] at b3; simp at b3
        rw [he.1 b1, h7.1 b2] at hr
        exact ⟨hf, hr.sound⟩
end Go.Proofs.YtlfdhkahiaammaaDoor
namespace Go.Proofs.YtlfdhkahiaammaaDoor
open Go Go.Sse
set_option linter.unusedVariables false
open Go.Shelf in
def lays105_ren : Go.Shelf.Ren := ⟨fun | 105 => 27 | 212 => 58 | 99 => 59 | 165 => 60 | 166 => 61 | 170 => 62 | 169 => 63 | 263 => 83 | 264 => 84 | 206 => 85 | 240 => 86 | 241 => 87 | 276 => 102 | 277 => 103 | n => n, fun | 9 => 9 | 3 => 3 | 4 => 4 | 20 => 20 | 0 => 0 | 46 => 91 | 109 => 92 | 5 => 5 | 72 => 97 | 76 => 101 | 51 => 121 | 146 => 122 | 53 => 124 | 148 => 125 | 70 => 95 | 37 => 90 | 75 => 100 | 127 => 127 | 164 => 144 | 80 => 103 | n => n, fun | n => n⟩
open Go.Shelf in
theorem lays105 : Go.Proofs.Lays.n105 Tryd.prog lays105_ren := {
  mixed := by kernel_rfl
  f99 := Tryd.func59.trans (congrArg some (by kernel_rfl))
  f105 := Tryd.func27.trans (congrArg some (by kernel_rfl))
  f165 := Tryd.func60.trans (congrArg some (by kernel_rfl))
  f166 := Tryd.func61.trans (congrArg some (by kernel_rfl))
  f169 := Tryd.func63.trans (congrArg some (by kernel_rfl))
  f170 := Tryd.func62.trans (congrArg some (by kernel_rfl))
  f206 := Tryd.func85.trans (congrArg some (by kernel_rfl))
  f212 := Tryd.func58.trans (congrArg some (by kernel_rfl))
  f240 := Tryd.func86.trans (congrArg some (by kernel_rfl))
  f241 := Tryd.func87.trans (congrArg some (by kernel_rfl))
  f263 := Tryd.func83.trans (congrArg some (by kernel_rfl))
  f264 := Tryd.func84.trans (congrArg some (by kernel_rfl))
  f276 := Tryd.func102.trans (congrArg some (by kernel_rfl))
  f277 := Tryd.func103.trans (congrArg some (by kernel_rfl))
  t0 := Tryd.underlying0
  a0 := Tryd.isAgg0
  z0 := Tryd.sizeOf0
  v0 := Tryd.zeroValue0
  t3 := Tryd.underlying3
  a3 := Tryd.isAgg3
  z3 := Tryd.sizeOf3
  v3 := Tryd.zeroValue3
  t4 := Tryd.underlying4
  a4 := Tryd.isAgg4
  z4 := Tryd.sizeOf4
  v4 := Tryd.zeroValue4
  t5 := Tryd.underlying5
  a5 := Tryd.isAgg5
  z5 := Tryd.sizeOf5
  v5 := Tryd.zeroValue5
  t9 := Tryd.underlying9
  a9 := Tryd.isAgg9
  z9 := Tryd.sizeOf9
  v9 := Tryd.zeroValue9
  t20 := Tryd.underlying20
  a20 := Tryd.isAgg20
  z20 := Tryd.sizeOf20
  v20 := Tryd.zeroValue20
  t37 := Tryd.underlying90
  a37 := Tryd.isAgg90
  z37 := Tryd.sizeOf90
  v37 := Tryd.zeroValue90
  t46 := Tryd.underlying91
  a46 := Tryd.isAgg91
  z46 := Tryd.sizeOf91
  v46 := Tryd.zeroValue91
  t51 := Tryd.underlying121
  a51 := Tryd.isAgg121
  z51 := Tryd.sizeOf121
  v51 := Tryd.zeroValue121
  t53 := Tryd.underlying124
  a53 := Tryd.isAgg124
  z53 := Tryd.sizeOf124
  v53 := Tryd.zeroValue124
  t70 := Tryd.underlying95
  a70 := Tryd.isAgg95
  z70 := Tryd.sizeOf95
  v70 := Tryd.zeroValue95
  t72 := Tryd.underlying97
  a72 := Tryd.isAgg97
  z72 := Tryd.sizeOf97
  v72 := Tryd.zeroValue97
  t75 := Tryd.underlying100
  a75 := Tryd.isAgg100
  z75 := Tryd.sizeOf100
  v75 := Tryd.zeroValue100
  t76 := Tryd.underlying101
  a76 := Tryd.isAgg101
  z76 := Tryd.sizeOf101
  v76 := Tryd.zeroValue101
  t109 := Tryd.underlying92
  a109 := Tryd.isAgg92
  z109 := Tryd.sizeOf92
  v109 := Tryd.zeroValue92
  t127 := Tryd.underlying127
  a127 := Tryd.isAgg127
  z127 := Tryd.sizeOf127
  v127 := Tryd.zeroValue127
  t146 := Tryd.underlying122
  a146 := Tryd.isAgg122
  z146 := Tryd.sizeOf122
  v146 := Tryd.zeroValue122
  t148 := Tryd.underlying125
  a148 := Tryd.isAgg125
  z148 := Tryd.sizeOf125
  v148 := Tryd.zeroValue125
  t164 := Tryd.underlying144
  a164 := Tryd.isAgg144
  z164 := Tryd.sizeOf144
  v164 := Tryd.zeroValue144 }
open Go.Shelf in
theorem Builder_Extra_105 : Builder.Extra Tryd.prog lays105_ren := {
  sizeBuilder := by kernel_rfl
  liesBuilder := by kernel_rfl
  t5 := Tryd.underlying5
  a5 := Tryd.isAgg5
  z5 := Tryd.sizeOf5
  v5 := Tryd.zeroValue5
  infoByte := by kernel_rfl
  cellsByte := by kernel_rfl
  sizeByte := by kernel_rfl
  neB5 := by decide }
open Go.RowKit Go.Lib Go.Shelf in
theorem strings_Repeat (s : ByteArray) (c : Nat) (w : World) (hc : c ≤ 9223372036854775807) (hlen : s.size * c ≤ 140737488355328) :
    Calls Tryd.prog 27 #[.string s, .int .i64 c] w fun e w' => e = .returned (.string ⟨(Lib.repeatL s.data.toList c).toArray⟩) ∧ Below w.heap.size w w' := Any.strings_Repeat lays105 Builder_Extra_105 s c w hc hlen
theorem repL_one (x : UInt8) : ∀ n, Lib.repeatL [x] n = List.replicate n x
  | 0 => rfl
  | n + 1 => by rw [Lib.repeatL, repL_one x n]; rfl
theorem rep_ok (x : UInt8) (n : Nat) (hn : n ≤ 140737488355328) : FnC Tryd.prog 27 [str [x], int (n : Int)] [] (fun v L => v = str (List.replicate n x) ∧ L = []) := by
  refine ⟨fun Z w vs hl hr hz hnd hd ho hgl => ?_⟩
  match vs, hl with
  | [a, b], _ =>
    obtain rfl : a = _ := (hr 0 (by simp)).val_eq
    obtain rfl : b = _ := (hr 1 (by simp)).val_eq
    refine (strings_Repeat ⟨[x].toArray⟩ n w (by omega) (by simpa [ByteArray.size] using hn)).mono fun e w' ⟨he, hb⟩ => ?_
    refine ⟨_, str (List.replicate n x), [], he, ⟨rfl, rfl⟩, ?_, ⟨hb.os, hb.tape, hb.output, hb.size, fun k hk _ => hb.block k hk, hz, hnd, fun b hi => by simp [inF, foots] at hi, fun o h => by cases h⟩⟩
    rw [show [x].toArray.toList = [x] from rfl, repL_one]
    exact .val _
end Go.Proofs.YtlfdhkahiaammaaDoor
namespace Go.Proofs.YtlfdhkahiaammaaDoor
open Go Go.Sse
set_option linter.unusedVariables false
set_option linter.unusedSimpArgs false
set_option maxRecDepth 10000
def bigH (h : Hd) : Bool := (((((!fewB h.skips 40 100 || decide (100 < (h.parent.length : Int))) || decide (100 < (h.state.length : Int))) || decide (100 < (h.receipts.length : Int))) || decide (100 < (h.txs.length : Int))) || decide (100 < (h.members.length : Int))) || decide (100 < (h.next.length : Int))
theorem bigH_no {h : Hd} (hb : bigH h = false) : h.skips.length ≤ 40 := by
  simp only [bigH, Bool.or_eq_false_iff, Bool.not_eq_false'] at hb
  exact (few_spec (n := 40) (e := 100) hb.1.1.1.1.1.1).1
end Go.Proofs.YtlfdhkahiaammaaDoor
namespace Go.Proofs.YtlfdhkahiaammaaDoor
open Go Go.Sse
set_option linter.unusedVariables false
set_option linter.unusedSimpArgs false
set_option maxRecDepth 10000
end Go.Proofs.YtlfdhkahiaammaaDoor
namespace Go.Proofs.YtlfdhkahiaammaaDoor
open Go Go.Sse
set_option linter.unusedVariables false
set_option linter.unusedSimpArgs false
set_option maxRecDepth 10000
def bigT (x : Tx) : Bool := (((decide (100 < (x.from_.length : Int)) || decide (100 < (x.to_.length : Int))) || decide (100 < (x.key.length : Int))) || decide (100 < (x.value.length : Int))) || decide (100 < (x.members.length : Int))
theorem bigT_no {x : Tx} (h : bigT x = false) : x.from_.length ≤ 100 ∧ x.to_.length ≤ 100 ∧ x.key.length ≤ 100 ∧ x.value.length ≤ 100 ∧ x.members.length ≤ 100 := by
  simp only [bigT, Bool.or_eq_false_iff, decide_eq_false_iff_not] at h
  omega
end Go.Proofs.YtlfdhkahiaammaaDoor
namespace Go.Proofs.YtlfdhkahiaammaaDoor
open Go Go.Sse
set_option linter.unusedVariables false
set_option linter.unusedSimpArgs false
set_option maxRecDepth 10000
def bigBk (b : Bk) : Bool := bigH b.head || (b.txs.any bigT || ((decide (20 < (b.txs.length : Int)) || !fewB b.just.signers 50 100) || decide (100 < (b.just.digest.length : Int))))
theorem bigBk_no {b : Bk} (h : bigBk b = false) : b.head.skips.length ≤ 40 ∧ b.txs.length ≤ 20 ∧ (∀ x ∈ b.txs, x.members.length ≤ 100) ∧ b.just.signers.length ≤ 50 := by
  simp only [bigBk, Bool.or_eq_false_iff, Bool.not_eq_false', decide_eq_false_iff_not] at h
  obtain ⟨h1, h2, ⟨h3, h4⟩, h5⟩ := h
  refine ⟨bigH_no h1, by omega, fun x hx => ?_, (few_spec (n := 50) (e := 100) h4).1⟩
  exact (bigT_no (by simpa using List.any_eq_false.1 h2 x hx)).2.2.2.2
end Go.Proofs.YtlfdhkahiaammaaDoor
namespace Go.Proofs.YtlfdhkahiaammaaDoor
open Go Go.Sse
set_option linter.unusedVariables false
set_option linter.unusedSimpArgs false
set_option maxRecDepth 10000
def bigM (m : Ms) : Bool := ((decide (100 < (m.who.length : Int)) || decide (100 < (m.digest.length : Int))) || decide (100 < (m.cert.digest.length : Int))) || !fewB m.cert.signers 50 100
def bigMs (m : Ms) : Bool := bigBk m.block || bigM m
theorem bigMs_no {m : Ms} (h : bigMs m = false) : (m.block.head.skips.length ≤ 40 ∧ m.block.txs.length ≤ 20 ∧ (∀ x ∈ m.block.txs, x.members.length ≤ 100) ∧ m.block.just.signers.length ≤ 50) ∧ m.cert.signers.length ≤ 50 := by
  simp only [bigMs, bigM, Bool.or_eq_false_iff, Bool.not_eq_false'] at h
  exact ⟨bigBk_no h.1, (few_spec (n := 50) (e := 100) h.2.2).1⟩
set_option maxHeartbeats 4000000 in
theorem vbig_ok (m : Ms) (hl : m.block.txs.length ≤ 9223372036854775807) : FnC Tryd.prog 22 [.agg (msC m)] [] (fun v L => v = bool (bigMs m) ∧ L = []) := by
  have c := few_ok m.block.head.skips 40 100 (by decide)
  have c2 := few_ok m.block.just.signers 50 100 (by decide)
  have c3 := few_ok m.cert.signers 50 100 (by decide)
  have he : bigMs m = (bigBk m.block || bigM m) := rfl
  refine FnC.intro Tryd.func22 rfl Tryd.ntmps22 rfl fun Z w0 hG => ?_
  rw [he]
  obtain ⟨b, hb⟩ : ∃ b, b = m.block := ⟨_, rfl⟩
  focus (
    (refine W.seq ?_)
    (refine W.region ?_)
    (refine J.boxAg rfl rfl ?_; intro b')
    (refine Jx.assign rfl rfl ?_)
    (refine J.nil ?_)
    (refine N.seq ?_)
    (refine W.seq ?_)
    (refine W.region ?_)
    (refine Jx.fieldAddr rfl rfl ?_)
    (refine Jx.loadAg rfl 0 rfl rfl rfl rfl ?_)
    (refine J.alloc (by simp only [List.map_cons, List.map_nil]; rfl) rfl rfl ?_; intro b')
    (refine J.storeAll rfl rfl rfl 0 rfl rfl rfl ?_)
    (refine J.nil ?_)
    (refine N.seq ?_)
    (refine W.seq ?_)
    (refine W.region ?_)
    (refine Jx.fieldAddr rfl rfl ?_)
    (refine Jx.loadAg rfl 0 rfl rfl rfl rfl ?_)
    (refine J.alloc (by simp only [List.map_cons, List.map_nil]; rfl) rfl rfl ?_; intro b')
    (refine J.storeAll rfl rfl rfl 0 rfl rfl rfl ?_)
    (refine J.nil ?_)
    (refine N.seq ?_)
    (refine W.seq ?_)
    (refine W.seq ?_)
    (refine W.region ?_)
    (refine Jx.fieldAddr rfl rfl ?_)
    (refine Jx.load rfl 0 rfl rfl rfl ?_)
    (refine J.call (c) rfl (evs_args rfl) rfl ?_; rintro _ _ ⟨rfl, rfl⟩; simp only [List.cons_append, List.nil_append, List.append_nil])
    (refine Jx.not rfl rfl ?_)
    (refine Jx.move rfl rfl ?_)
    (refine' J.guardOr rfl rfl rfl rfl rfl rfl rfl rfl (fun _ => ?_) ?_; rotate_left)
    (refine J.gY rfl rfl rfl ?_)
    (refine Jx.fieldAddr rfl rfl ?_)
    (refine J.gY rfl rfl rfl ?_)
    (refine Jx.load rfl 0 rfl rfl rfl ?_)
    (refine J.gY rfl rfl rfl ?_)
    (refine Jx.lenS rfl rfl ?_)
    (refine J.gY rfl rfl rfl ?_)
    (refine Jx.gtrI rfl rfl rfl ?_)
    (refine J.nil ?_)
    (refine N.joinedN rfl rfl rfl)
    (refine Jx.move rfl rfl ?_)
    (refine' J.guardOr rfl rfl rfl rfl rfl rfl rfl rfl (fun _ => ?_) ?_; rotate_left)
    (refine J.gY rfl rfl rfl ?_)
    (refine Jx.fieldAddr rfl rfl ?_)
    (refine J.gY rfl rfl rfl ?_)
    (refine Jx.load rfl 0 rfl rfl rfl ?_)
    (refine J.gY rfl rfl rfl ?_)
    (refine Jx.lenS rfl rfl ?_)
    (refine J.gY rfl rfl rfl ?_)
    (refine Jx.gtrI rfl rfl rfl ?_)
    (refine J.nil ?_)
    (refine N.joinedN rfl rfl rfl)
    (refine Jx.move rfl rfl ?_)
    (refine' J.guardOr rfl rfl rfl rfl rfl rfl rfl rfl (fun _ => ?_) ?_; rotate_left)
    (refine J.gY rfl rfl rfl ?_)
    (refine Jx.fieldAddr rfl rfl ?_)
    (refine J.gY rfl rfl rfl ?_)
    (refine Jx.load rfl 0 rfl rfl rfl ?_)
    (refine J.gY rfl rfl rfl ?_)
    (refine Jx.lenS rfl rfl ?_)
    (refine J.gY rfl rfl rfl ?_)
    (refine Jx.gtrI rfl rfl rfl ?_)
    (refine J.nil ?_)
    (refine N.joinedN rfl rfl rfl)
    (refine Jx.move rfl rfl ?_)
    (refine' J.guardOr rfl rfl rfl rfl rfl rfl rfl rfl (fun _ => ?_) ?_; rotate_left)
    (refine J.gY rfl rfl rfl ?_)
    (refine Jx.fieldAddr rfl rfl ?_)
    (refine J.gY rfl rfl rfl ?_)
    (refine Jx.load rfl 0 rfl rfl rfl ?_)
    (refine J.gY rfl rfl rfl ?_)
    (refine Jx.lenS rfl rfl ?_)
    (refine J.gY rfl rfl rfl ?_)
    (refine Jx.gtrI rfl rfl rfl ?_)
    (refine J.nil ?_)
    (refine N.joinedN rfl rfl rfl)
    (refine Jx.move rfl rfl ?_)
    (refine' J.guardOr rfl rfl rfl rfl rfl rfl rfl rfl (fun _ => ?_) ?_; rotate_left)
    (refine J.gY rfl rfl rfl ?_)
    (refine Jx.fieldAddr rfl rfl ?_)
    (refine J.gY rfl rfl rfl ?_)
    (refine Jx.load rfl 0 rfl rfl rfl ?_)
    (refine J.gY rfl rfl rfl ?_)
    (refine Jx.lenS rfl rfl ?_)
    (refine J.gY rfl rfl rfl ?_)
    (refine Jx.gtrI rfl rfl rfl ?_)
    (refine J.nil ?_)
    (refine N.joinedN rfl rfl rfl)
    (refine Jx.move rfl rfl ?_)
    (refine' J.guardOr rfl rfl rfl rfl rfl rfl rfl rfl (fun _ => ?_) ?_; rotate_left)
    (refine J.gY rfl rfl rfl ?_)
    (refine Jx.fieldAddr rfl rfl ?_)
    (refine J.gY rfl rfl rfl ?_)
    (refine Jx.load rfl 0 rfl rfl rfl ?_)
    (refine J.gY rfl rfl rfl ?_)
    (refine Jx.lenS rfl rfl ?_)
    (refine J.gY rfl rfl rfl ?_)
    (refine Jx.gtrI rfl rfl rfl ?_)
    (refine J.nil ?_)
    (refine N.joinedN rfl rfl rfl)
    (refine J.nil ?_)
    (refine N.seq ?_)
    (refine id ?_; rotate_left))
  rename_i p1 p2
  refine W.cond rfl (fun hb => ?_) (fun hb => ?_)
  · have hb : bigH m.block.head = true := hb
    rw [bigBk, hb]
    focus (
    (refine W.seq ?_)
    (refine W.region ?_)
    (refine Jx.assign rfl rfl ?_)
    (refine J.nil ?_)
    (refine N.seq ?_)
    (refine W.ret ?_)
    (refine N.noGotoRet ?_)
    (refine id ?_; rotate_left))
    exact N.retD (rs := [.tmp 2]) (L1 := []) rfl (.tmp rfl .nil) (List.nil_sublist _) ⟨rfl, rfl⟩
  · have hb : bigH m.block.head = false := hb
    rw [bigBk, hb]
    focus (
    (refine W.skip ?_)
    (refine N.seq ?_)
    (refine W.seq ?_)
    (refine W.seq ?_)
    (refine W.region ?_)
    (refine Jx.assign rfl rfl ?_)
    (refine J.nil ?_)
    (refine N.seq ?_)
    (refine W.block ?_)
    (refine id ?_; rotate_left))
    refine W.loop (α := Nat) (fun i => [(5, int (i : Int)), (3, ptr p2), (1, ptr p1)]) (fun _ => [.obj b' tHd (hdC m.block.head), .obj p2 tBk (bkC m.block), .obj p1 tMs (msC m)]) (fun i => i ≤ m.block.txs.length ∧ (m.block.txs.take i).any bigT = false) (fun i => m.block.txs.length - i) 0 (by simp) rfl ⟨ref0 rfl, ref0 rfl, ref0 rfl, trivial⟩ ?_
    rintro i ⟨hi, hn⟩
    by_cases h1 : i < m.block.txs.length
    · focus (
    (refine W.seq ?_)
    (refine W.seq ?_)
    (refine W.region ?_)
    (refine Jx.move rfl rfl ?_)
    (refine Jx.fieldAddr rfl rfl ?_)
    (refine Jx.load rfl 1 rfl rfl rfl ?_)
    (refine Jx.lenSl rfl rfl ?_)
    (refine Jx.lssI rfl rfl rfl ?_)
    (refine J.nil ?_)
    (refine N.seq ?_)
    (refine W.cT rfl ?_)
    (refine W.skip ?_)
    (refine N.seq ?_)
    (refine W.seq ?_)
    (refine W.block ?_)
    (refine W.seq ?_)
    (refine W.region ?_)
    (refine Jx.fieldAddr rfl rfl ?_)
    (refine Jx.load rfl 1 rfl rfl rfl ?_)
    (refine Jx.move rfl rfl ?_)
    (refine Jx.indexEl rfl rfl (by assumption) rfl rfl ?_)
    (refine Jx.loadPPall rfl rfl rfl ?_)
    (refine J.alloc (by simp only [List.map_cons, List.map_nil]; rfl) rfl rfl ?_; intro b')
    (refine J.storeAll rfl rfl rfl 0 rfl rfl rfl ?_)
    (refine J.nil ?_)
    (refine N.seq ?_)
    (refine W.seq ?_)
    (refine W.region ?_)
    (refine Jx.fieldAddr rfl rfl ?_)
    (refine Jx.load rfl 0 rfl rfl rfl ?_)
    (refine Jx.lenS rfl rfl ?_)
    (refine Jx.gtrI rfl rfl rfl ?_)
    (refine Jx.move rfl rfl ?_)
    (refine' J.guardOr rfl rfl rfl rfl rfl rfl rfl rfl (fun _ => ?_) ?_; rotate_left)
    (refine J.gY rfl rfl rfl ?_)
    (refine Jx.fieldAddr rfl rfl ?_)
    (refine J.gY rfl rfl rfl ?_)
    (refine Jx.load rfl 0 rfl rfl rfl ?_)
    (refine J.gY rfl rfl rfl ?_)
    (refine Jx.lenS rfl rfl ?_)
    (refine J.gY rfl rfl rfl ?_)
    (refine Jx.gtrI rfl rfl rfl ?_)
    (refine J.nil ?_)
    (refine N.joinedN rfl rfl rfl)
    (refine Jx.move rfl rfl ?_)
    (refine' J.guardOr rfl rfl rfl rfl rfl rfl rfl rfl (fun _ => ?_) ?_; rotate_left)
    (refine J.gY rfl rfl rfl ?_)
    (refine Jx.fieldAddr rfl rfl ?_)
    (refine J.gY rfl rfl rfl ?_)
    (refine Jx.load rfl 0 rfl rfl rfl ?_)
    (refine J.gY rfl rfl rfl ?_)
    (refine Jx.lenS rfl rfl ?_)
    (refine J.gY rfl rfl rfl ?_)
    (refine Jx.gtrI rfl rfl rfl ?_)
    (refine J.nil ?_)
    (refine N.joinedN rfl rfl rfl)
    (refine Jx.move rfl rfl ?_)
    (refine' J.guardOr rfl rfl rfl rfl rfl rfl rfl rfl (fun _ => ?_) ?_; rotate_left)
    (refine J.gY rfl rfl rfl ?_)
    (refine Jx.fieldAddr rfl rfl ?_)
    (refine J.gY rfl rfl rfl ?_)
    (refine Jx.load rfl 0 rfl rfl rfl ?_)
    (refine J.gY rfl rfl rfl ?_)
    (refine Jx.lenS rfl rfl ?_)
    (refine J.gY rfl rfl rfl ?_)
    (refine Jx.gtrI rfl rfl rfl ?_)
    (refine J.nil ?_)
    (refine N.joinedN rfl rfl rfl)
    (refine Jx.move rfl rfl ?_)
    (refine' J.guardOr rfl rfl rfl rfl rfl rfl rfl rfl (fun _ => ?_) ?_; rotate_left)
    (refine J.gY rfl rfl rfl ?_)
    (refine Jx.fieldAddr rfl rfl ?_)
    (refine J.gY rfl rfl rfl ?_)
    (refine Jx.load rfl 0 rfl rfl rfl ?_)
    (refine J.gY rfl rfl rfl ?_)
    (refine Jx.lenSl rfl rfl ?_)
    (refine J.gY rfl rfl rfl ?_)
    (refine Jx.gtrI rfl rfl rfl ?_)
    (refine J.nil ?_)
    (refine N.joinedN rfl rfl rfl)
    (refine J.nil ?_)
    (refine N.seq ?_)
    (refine id ?_; rotate_left))
      refine W.cond rfl (fun hq => ?_) (fun hq => ?_)
      · have hq : bigT (m.block.txs.getD i tx0) = true := hq
        have : m.block.txs.any bigT = true := List.any_eq_true.2 ⟨_, getD_mem h1, hq⟩
        rw [this]
        focus (
    (refine W.seq ?_)
    (refine W.region ?_)
    (refine Jx.assign rfl rfl ?_)
    (refine J.nil ?_)
    (refine N.seq ?_)
    (refine W.ret ?_)
    (refine N.noGotoRet ?_)
    (refine N.noGotoRet ?_)
    (refine N.noGotoRet ?_)
    (refine N.noGotoRet ?_)
    (refine N.noGotoRet ?_)
    (refine id ?_; rotate_left))
        exact N.retD (rs := [.tmp 2]) (L1 := []) rfl (.tmp rfl .nil) (List.nil_sublist _) ⟨rfl, rfl⟩
      · have hq : bigT (m.block.txs.getD i tx0) = false := hq
        focus (
    (refine W.skip ?_)
    (refine N.seq ?_)
    (refine W.region ?_)
    (refine Jx.move rfl rfl ?_)
    (refine Jx.add64 rfl rfl (by omega) rfl ?_)
    (refine Jx.assign rfl rfl ?_)
    (refine J.nil ?_)
    (refine id ?_; rotate_left))
        refine N.drop (List.sublist_cons_self _ _) ?_
        exact N.round (i + 1) ⟨h1, by rw [take_snoc (d := tx0) h1, List.any_append, hn, List.any_cons, hq]; rfl⟩ (by omega) rfl ⟨ref0 rfl, ref0 rfl, ref0 rfl, trivial⟩
    · rw [List.take_of_length_le (by omega)] at hn
      rw [hn]
      focus (
    (refine W.seq ?_)
    (refine W.seq ?_)
    (refine W.region ?_)
    (refine Jx.move rfl rfl ?_)
    (refine Jx.fieldAddr rfl rfl ?_)
    (refine Jx.load rfl 1 rfl rfl rfl ?_)
    (refine Jx.lenSl rfl rfl ?_)
    (refine Jx.lssI rfl rfl rfl ?_)
    (refine J.nil ?_)
    (refine N.seq ?_)
    (refine W.cF rfl ?_)
    (refine W.exit ?_)
    (refine N.seq ?_)
    (refine W.seq ?_)
    (refine W.seq ?_)
    (refine W.region ?_)
    (refine Jx.fieldAddr rfl rfl ?_)
    (refine Jx.load rfl 1 rfl rfl rfl ?_)
    (refine Jx.lenSl rfl rfl ?_)
    (refine Jx.gtrI rfl rfl rfl ?_)
    (refine Jx.move rfl rfl ?_)
    (refine' J.guardOr rfl rfl rfl rfl rfl rfl rfl rfl (fun _ => ?_) ?_; rotate_left)
    (refine J.gY rfl rfl rfl ?_)
    (refine Jx.fieldAddr rfl rfl ?_)
    (refine J.gY rfl rfl rfl ?_)
    (refine Jx.fieldAddr rfl rfl ?_)
    (refine J.gY rfl rfl rfl ?_)
    (refine Jx.load rfl 1 rfl rfl rfl ?_)
    (refine J.gY rfl rfl rfl ?_)
    (refine J.call (c2) rfl (evs_args rfl) rfl ?_; rintro _ _ ⟨rfl, rfl⟩; simp only [List.cons_append, List.nil_append, List.append_nil])
    (refine J.gY rfl rfl rfl ?_)
    (refine Jx.not rfl rfl ?_)
    (refine J.nil ?_)
    (refine N.joinedN rfl rfl rfl)
    (refine Jx.move rfl rfl ?_)
    (refine' J.guardOr rfl rfl rfl rfl rfl rfl rfl rfl (fun _ => ?_) ?_; rotate_left)
    (refine J.gY rfl rfl rfl ?_)
    (refine Jx.fieldAddr rfl rfl ?_)
    (refine J.gY rfl rfl rfl ?_)
    (refine Jx.fieldAddr rfl rfl ?_)
    (refine J.gY rfl rfl rfl ?_)
    (refine Jx.load rfl 1 rfl rfl rfl ?_)
    (refine J.gY rfl rfl rfl ?_)
    (refine Jx.lenS rfl rfl ?_)
    (refine J.gY rfl rfl rfl ?_)
    (refine Jx.gtrI rfl rfl rfl ?_)
    (refine J.nil ?_)
    (refine N.joinedN rfl rfl rfl)
    (refine J.nil ?_)
    (refine N.seq ?_)
    (refine id ?_; rotate_left))
      refine W.cond rfl (fun hq => ?_) (fun hq => ?_)
      · have hq : ((decide (20 < (m.block.txs.length : Int)) || !fewB m.block.just.signers 50 100) || decide (100 < (m.block.just.digest.length : Int))) = true := hq
        rw [hq]
        focus (
    (refine W.seq ?_)
    (refine W.region ?_)
    (refine Jx.assign rfl rfl ?_)
    (refine J.nil ?_)
    (refine N.seq ?_)
    (refine W.ret ?_)
    (refine N.noGotoRet ?_)
    (refine id ?_; rotate_left))
        exact N.retD (rs := [.tmp 2]) (L1 := []) rfl (.tmp rfl .nil) (List.nil_sublist _) ⟨rfl, rfl⟩
      · have hq : ((decide (20 < (m.block.txs.length : Int)) || !fewB m.block.just.signers 50 100) || decide (100 < (m.block.just.digest.length : Int))) = false := hq
        rw [hq]
        focus (
    (refine W.skip ?_)
    (refine N.seq ?_)
    (refine W.seq ?_)
    (refine W.region ?_)
    (refine Jx.fieldAddr rfl rfl ?_)
    (refine Jx.load rfl 2 rfl rfl rfl ?_)
    (refine Jx.lenS rfl rfl ?_)
    (refine Jx.gtrI rfl rfl rfl ?_)
    (refine Jx.move rfl rfl ?_)
    (refine' J.guardOr rfl rfl rfl rfl rfl rfl rfl rfl (fun _ => ?_) ?_; rotate_left)
    (refine J.gY rfl rfl rfl ?_)
    (refine Jx.fieldAddr rfl rfl ?_)
    (refine J.gY rfl rfl rfl ?_)
    (refine Jx.load rfl 2 rfl rfl rfl ?_)
    (refine J.gY rfl rfl rfl ?_)
    (refine Jx.lenS rfl rfl ?_)
    (refine J.gY rfl rfl rfl ?_)
    (refine Jx.gtrI rfl rfl rfl ?_)
    (refine J.nil ?_)
    (refine N.joinedN rfl rfl rfl)
    (refine Jx.move rfl rfl ?_)
    (refine' J.guardOr rfl rfl rfl rfl rfl rfl rfl rfl (fun _ => ?_) ?_; rotate_left)
    (refine J.gY rfl rfl rfl ?_)
    (refine Jx.fieldAddr rfl rfl ?_)
    (refine J.gY rfl rfl rfl ?_)
    (refine Jx.fieldAddr rfl rfl ?_)
    (refine J.gY rfl rfl rfl ?_)
    (refine Jx.load rfl 2 rfl rfl rfl ?_)
    (refine J.gY rfl rfl rfl ?_)
    (refine Jx.lenS rfl rfl ?_)
    (refine J.gY rfl rfl rfl ?_)
    (refine Jx.gtrI rfl rfl rfl ?_)
    (refine J.nil ?_)
    (refine N.joinedN rfl rfl rfl)
    (refine Jx.move rfl rfl ?_)
    (refine' J.guardOr rfl rfl rfl rfl rfl rfl rfl rfl (fun _ => ?_) ?_; rotate_left)
    (refine J.gY rfl rfl rfl ?_)
    (refine Jx.fieldAddr rfl rfl ?_)
    (refine J.gY rfl rfl rfl ?_)
    (refine Jx.fieldAddr rfl rfl ?_)
    (refine J.gY rfl rfl rfl ?_)
    (refine Jx.load rfl 2 rfl rfl rfl ?_)
    (refine J.gY rfl rfl rfl ?_)
    (refine J.call (c3) rfl (evs_args rfl) rfl ?_; rintro _ _ ⟨rfl, rfl⟩; simp only [List.cons_append, List.nil_append, List.append_nil])
    (refine J.gY rfl rfl rfl ?_)
    (refine Jx.not rfl rfl ?_)
    (refine J.nil ?_)
    (refine N.joinedN rfl rfl rfl)
    (refine Jx.assign rfl rfl ?_)
    (refine J.nil ?_)
    (refine N.seq ?_)
    (refine W.ret ?_)
    (refine id ?_; rotate_left))
        exact N.retD (rs := [.tmp 2]) (L1 := []) rfl (.tmp rfl .nil) (List.nil_sublist _) ⟨rfl, rfl⟩
def exM (d : List UInt8) : Ms := ⟨4, [97], 0, 0, d, bk0, ct0⟩
theorem exM_fine {d : List UInt8} (h : d.length = 32) : fineMs (exM d) = true := by
  simp [fineMs, exM, nameB, numsM, fitsM, h, bareCt, ct0]
theorem exM_enc (d : List UInt8) : encMs (exM d) = [4, 1, 1, 97, 0, 0] ++ d := by
  have h1 : textB [97] = [1, 1, 97] := by decide +kernel
  have h2 : numB 0 = [0] := by decide +kernel
  have h3 : encMs (exM d) = [4] ++ textB [97] ++ numB 0 ++ numB 0 ++ d := rfl
  rw [h3, h1, h2]; rfl
theorem ms0_no : fineMs ms0 = false := by decide
theorem vdec_enc {x : Ms} (h : fineMs x = true) : FnC Tryd.prog 23 [str (encMs x)] [] (fun v L => v = .tup [.agg (msC x), int 0] ∧ L = []) := by
  refine (vdecode_ok (encMs x) (by have := encMs_len (fineMs_spec h); omega)).mono ?_
  rintro v L ⟨⟨o, ho, rfl⟩, rfl⟩
  rw [apMs.some' ho h rfl]
  exact ⟨rfl, rfl⟩
set_option maxHeartbeats 4000000 in
theorem vworks_ok : FnC Tryd.prog 21 [] [] (fun s L => s = bool true ∧ L = []) := by
  have ca : FnC Tryd.prog 27 [str [100], int 32] [] (fun v L => v = str (List.replicate 32 100) ∧ L = []) := rep_ok 100 32 (by decide)
  have hd : (List.replicate 32 (100 : UInt8)).length = 32 := by simp
  generalize List.replicate 32 (100 : UInt8) = d at *
  have hf := exM_fine hd
  have c1 := vencode_ok (exM d) (by simp [exM, bk0, hd0])
  have hen := exM_enc d
  rw [encO, hf, if_pos rfl, hen] at c1
  have c2 := vdec_enc hf
  rw [hen] at c2
  have c3 := vcheck_ok ms0 (by decide)
  rw [ms0_no] at c3
  refine FnC.intro Tryd.func21 rfl Tryd.ntmps21 rfl fun Z w0 hG => ?_
  focus (
    (refine W.seq ?_)
    (refine W.region ?_)
    (refine Jx.assign rfl rfl ?_)
    (refine J.nil ?_)
    (refine N.seq ?_)
    (refine W.seq ?_)
    (refine W.region ?_)
    (refine J.call (ca) rfl (evs_args rfl) rfl ?_; rintro _ _ ⟨rfl, rfl⟩; simp only [List.cons_append, List.nil_append, List.append_nil])
    (refine Jx.assign rfl rfl ?_)
    (refine J.nil ?_)
    (refine N.seq ?_)
    (refine W.seq ?_)
    (refine W.region ?_)
    (refine Jx.move rfl rfl ?_)
    (refine Jx.buildB rfl rfl rfl rfl rfl ?_)
    (refine J.call c1 rfl (Args.sub rfl (Sub.agg (msJ_sub 4 [97] 0 0 d)) Args.nil) rfl ?_; rintro _ _ ⟨rfl, rfl⟩; simp only [List.cons_append, List.nil_append, List.append_nil])
    (refine Jx.move rfl rfl ?_)
    (refine Jx.extract rfl rfl rfl ?_)
    (refine Jx.extract rfl rfl rfl ?_)
    (refine Jx.assign rfl rfl ?_)
    (refine Jx.assign rfl rfl ?_)
    (refine J.nil ?_)
    (refine N.seq ?_)
    (refine W.seq ?_)
    (refine W.region ?_)
    (refine Jx.move rfl rfl ?_)
    (refine J.call (c2) rfl (evs_args rfl) rfl ?_; rintro _ _ ⟨rfl, rfl⟩; simp only [List.cons_append, List.nil_append, List.append_nil])
    (refine Jx.move rfl rfl ?_)
    (refine Jx.extract rfl rfl rfl ?_)
    (refine Jx.extract rfl rfl rfl ?_)
    (refine J.alloc (by simp only [List.map_cons, List.map_nil]; rfl) rfl rfl ?_; intro b')
    (refine J.storeAll rfl rfl rfl 0 rfl rfl rfl ?_)
    (refine Jx.assign rfl rfl ?_)
    (refine J.nil ?_)
    (refine N.seq ?_)
    (refine W.seq ?_)
    (refine W.region ?_)
    (refine Jx.move rfl rfl ?_)
    (refine Jx.move rfl rfl ?_)
    (refine Jx.cat (m := [4, 1, 1, 97, 0, 0]) (n := d) rfl rfl (by simp only [List.length_cons, List.length_nil]; omega) rfl ?_)
    (refine Jx.eqlS rfl rfl rfl ?_)
    (refine Jx.move rfl rfl ?_)
    (refine J.gY rfl rfl rfl ?_)
    (refine Jx.move rfl rfl ?_)
    (refine J.gY rfl rfl rfl ?_)
    (refine Jx.eqlI rfl rfl rfl ?_)
    (refine Jx.pT rfl rfl rfl ?_)
    (refine Jx.move rfl rfl ?_)
    (refine J.gY rfl rfl rfl ?_)
    (refine Jx.fieldAddr rfl rfl ?_)
    (refine J.gY rfl rfl rfl ?_)
    (refine Jx.load rfl 0 rfl rfl rfl ?_)
    (refine J.gY rfl rfl rfl ?_)
    (refine Jx.eqlI rfl rfl rfl ?_)
    (refine Jx.pT rfl rfl rfl ?_)
    (refine Jx.move rfl rfl ?_)
    (refine J.gY rfl rfl rfl ?_)
    (refine Jx.fieldAddr rfl rfl ?_)
    (refine J.gY rfl rfl rfl ?_)
    (refine Jx.load rfl 0 rfl rfl rfl ?_)
    (refine J.gY rfl rfl rfl ?_)
    (refine Jx.move rfl rfl ?_)
    (refine J.gY rfl rfl rfl ?_)
    (refine Jx.eqlS rfl rfl rfl ?_)
    (refine Jx.pT rfl rfl rfl ?_)
    (refine Jx.move rfl rfl ?_)
    (refine J.gY rfl rfl rfl ?_)
    (refine Jx.move rfl rfl ?_)
    (refine J.gY rfl rfl rfl ?_)
    (refine Jx.eqlI rfl rfl rfl ?_)
    (refine Jx.pT rfl rfl rfl ?_)
    (refine Jx.move rfl rfl ?_)
    (refine J.gY rfl rfl rfl ?_)
    (refine Jx.buildB rfl rfl rfl rfl rfl ?_)
    (refine J.gY rfl rfl rfl ?_)
    (refine J.call c3 rfl (Args.sub rfl (Sub.agg msz_sub) Args.nil) rfl ?_; rintro _ _ ⟨rfl, rfl⟩; simp only [List.cons_append, List.nil_append, List.append_nil])
    (refine J.gY rfl rfl rfl ?_)
    (refine Jx.eqlI rfl rfl rfl ?_)
    (refine Jx.pT rfl rfl rfl ?_)
    (refine Jx.assign rfl rfl ?_)
    (refine J.nil ?_)
    (refine N.seq ?_)
    (refine W.ret ?_)
    (refine id ?_; rotate_left))
  exact N.retD (rs := [.tmp 0]) (L1 := []) rfl (.tmp rfl .nil) (List.nil_sublist _) ⟨by first | rfl | (simp [oneOr, exM]; done), rfl⟩
end Go.Proofs.YtlfdhkahiaammaaDoor
namespace Go.Proofs.YtlfdhkahiaammaaDoor
open Go Go.Sse
set_option linter.unusedVariables false
set_option linter.unusedSimpArgs false
set_option maxRecDepth 10000
set_option maxHeartbeats 8000000 in
theorem voteUnlike_ok (x y : Ms) (hx : x.block.txs.length ≤ 9223372036854775807) (hy : y.block.txs.length ≤ 9223372036854775807) : FnC Tryd.prog 7 [.agg (msC x), .agg (msC y)] [] (fun v L => v = bool true ∧ L = []) := by
  have cb := vbig_ok x hx
  have cb2 := vbig_ok y hy
  have cw := vworks_ok
  refine FnC.intro Tryd.func7 rfl Tryd.ntmps7 rfl fun Z w0 hG => ?_
  cases h1 : bigMs x with
  | true =>
    rw [h1] at cb
    focus (
    (refine W.seq ?_)
    (refine W.region ?_)
    (refine J.boxAg rfl rfl ?_; intro b')
    (refine J.boxAg rfl rfl ?_; intro b')
    (refine Jx.assign rfl rfl ?_)
    (refine J.nil ?_)
    (refine N.seq ?_)
    (refine W.seq ?_)
    (refine W.seq ?_)
    (refine W.region ?_)
    (refine J.call (cw) rfl (evs_args rfl) rfl ?_; rintro _ _ ⟨rfl, rfl⟩; simp only [List.cons_append, List.nil_append, List.append_nil])
    (refine Jx.not rfl rfl ?_)
    (refine J.nil ?_)
    (refine N.seq ?_)
    (refine W.cF rfl ?_)
    (refine W.skip ?_)
    (refine N.seq ?_)
    (refine W.seq ?_)
    (refine W.seq ?_)
    (refine W.region ?_)
    (refine Jx.loadAll rfl 1 rfl rfl rfl ?_)
    (refine J.call (cb) rfl (evs_args rfl) rfl ?_; rintro _ _ ⟨rfl, rfl⟩; simp only [List.cons_append, List.nil_append, List.append_nil])
    (refine Jx.move rfl rfl ?_)
    (refine J.gN rfl rfl rfl rfl ?_)
    (refine J.gN rfl rfl rfl rfl ?_)
    (refine Jx.pT rfl rfl rfl ?_)
    (refine J.nil ?_)
    (refine N.seq ?_)
    (refine W.cT rfl ?_)
    (refine W.seq ?_)
    (refine W.region ?_)
    (refine Jx.assign rfl rfl ?_)
    (refine J.nil ?_)
    (refine N.seq ?_)
    (refine W.ret ?_)
    (refine N.noGotoRet ?_)
    (refine id ?_; rotate_left))
    exact N.retD (rs := [.tmp 4]) (L1 := []) rfl (.tmp rfl .nil) (List.nil_sublist _) ⟨rfl, rfl⟩
  | false =>
    rw [h1] at cb
    obtain ⟨⟨m1, m2, m3, m4⟩, m5⟩ := bigMs_no h1
    cases h2 : bigMs y with
    | true =>
      rw [h2] at cb2
      focus (
    (refine W.seq ?_)
    (refine W.region ?_)
    (refine J.boxAg rfl rfl ?_; intro b')
    (refine J.boxAg rfl rfl ?_; intro b')
    (refine Jx.assign rfl rfl ?_)
    (refine J.nil ?_)
    (refine N.seq ?_)
    (refine W.seq ?_)
    (refine W.seq ?_)
    (refine W.region ?_)
    (refine J.call (cw) rfl (evs_args rfl) rfl ?_; rintro _ _ ⟨rfl, rfl⟩; simp only [List.cons_append, List.nil_append, List.append_nil])
    (refine Jx.not rfl rfl ?_)
    (refine J.nil ?_)
    (refine N.seq ?_)
    (refine W.cF rfl ?_)
    (refine W.skip ?_)
    (refine N.seq ?_)
    (refine W.seq ?_)
    (refine W.seq ?_)
    (refine W.region ?_)
    (refine Jx.loadAll rfl 1 rfl rfl rfl ?_)
    (refine J.call (cb) rfl (evs_args rfl) rfl ?_; rintro _ _ ⟨rfl, rfl⟩; simp only [List.cons_append, List.nil_append, List.append_nil])
    (refine Jx.move rfl rfl ?_)
    (refine J.gY rfl rfl rfl ?_)
    (refine Jx.loadAll rfl 0 rfl rfl rfl ?_)
    (refine J.gY rfl rfl rfl ?_)
    (refine J.call (cb2) rfl (evs_args rfl) rfl ?_; rintro _ _ ⟨rfl, rfl⟩; simp only [List.cons_append, List.nil_append, List.append_nil])
    (refine Jx.pF rfl rfl rfl ?_)
    (refine J.nil ?_)
    (refine N.seq ?_)
    (refine W.cT rfl ?_)
    (refine W.seq ?_)
    (refine W.region ?_)
    (refine Jx.assign rfl rfl ?_)
    (refine J.nil ?_)
    (refine N.seq ?_)
    (refine W.ret ?_)
    (refine N.noGotoRet ?_)
    (refine id ?_; rotate_left))
      exact N.retD (rs := [.tmp 4]) (L1 := []) rfl (.tmp rfl .nil) (List.nil_sublist _) ⟨rfl, rfl⟩
    | false =>
      rw [h2] at cb2
      obtain ⟨⟨n1, n2, n3, n4⟩, n5⟩ := bigMs_no h2
      have e1 := vencode_ok x (by omega)
      have e2 := vencode_ok y (by omega)
      have s1 := sameMs_ok x y (by omega) (by omega) (fun t ht => by have := m3 t ht; omega) (by omega) (by omega)
      cases hf : fineMs x with
      | false =>
        rw [encO, hf] at e1
        generalize encO fineMs encMs y = ey at *
        focus (
    (refine W.seq ?_)
    (refine W.region ?_)
    (refine J.boxAg rfl rfl ?_; intro b')
    (refine J.boxAg rfl rfl ?_; intro b')
    (refine Jx.assign rfl rfl ?_)
    (refine J.nil ?_)
    (refine N.seq ?_)
    (refine W.seq ?_)
    (refine W.seq ?_)
    (refine W.region ?_)
    (refine J.call (cw) rfl (evs_args rfl) rfl ?_; rintro _ _ ⟨rfl, rfl⟩; simp only [List.cons_append, List.nil_append, List.append_nil])
    (refine Jx.not rfl rfl ?_)
    (refine J.nil ?_)
    (refine N.seq ?_)
    (refine W.cF rfl ?_)
    (refine W.skip ?_)
    (refine N.seq ?_)
    (refine W.seq ?_)
    (refine W.seq ?_)
    (refine W.region ?_)
    (refine Jx.loadAll rfl 1 rfl rfl rfl ?_)
    (refine J.call (cb) rfl (evs_args rfl) rfl ?_; rintro _ _ ⟨rfl, rfl⟩; simp only [List.cons_append, List.nil_append, List.append_nil])
    (refine Jx.move rfl rfl ?_)
    (refine J.gY rfl rfl rfl ?_)
    (refine Jx.loadAll rfl 0 rfl rfl rfl ?_)
    (refine J.gY rfl rfl rfl ?_)
    (refine J.call (cb2) rfl (evs_args rfl) rfl ?_; rintro _ _ ⟨rfl, rfl⟩; simp only [List.cons_append, List.nil_append, List.append_nil])
    (refine Jx.pF rfl rfl rfl ?_)
    (refine J.nil ?_)
    (refine N.seq ?_)
    (refine W.cF rfl ?_)
    (refine W.skip ?_)
    (refine N.seq ?_)
    (refine W.seq ?_)
    (refine W.region ?_)
    (refine Jx.loadAll rfl 1 rfl rfl rfl ?_)
    (refine J.call (e1) rfl (evs_args rfl) rfl ?_; rintro _ _ ⟨rfl, rfl⟩; simp only [List.cons_append, List.nil_append, List.append_nil])
    (refine Jx.move rfl rfl ?_)
    (refine Jx.extract rfl rfl rfl ?_)
    (refine Jx.extract rfl rfl rfl ?_)
    (refine Jx.assign rfl rfl ?_)
    (refine Jx.assign rfl rfl ?_)
    (refine J.nil ?_)
    (refine N.seq ?_)
    (refine W.seq ?_)
    (refine W.region ?_)
    (refine Jx.loadAll rfl 0 rfl rfl rfl ?_)
    (refine J.call (e2) rfl (evs_args rfl) rfl ?_; rintro _ _ ⟨rfl, rfl⟩; simp only [List.cons_append, List.nil_append, List.append_nil])
    (refine Jx.move rfl rfl ?_)
    (refine Jx.extract rfl rfl rfl ?_)
    (refine Jx.extract rfl rfl rfl ?_)
    (refine Jx.assign rfl rfl ?_)
    (refine Jx.assign rfl rfl ?_)
    (refine J.nil ?_)
    (refine N.seq ?_)
    (refine W.seq ?_)
    (refine W.seq ?_)
    (refine W.region ?_)
    (refine Jx.move rfl rfl ?_)
    (refine Jx.neqI rfl rfl rfl ?_)
    (refine Jx.move rfl rfl ?_)
    (refine J.gN rfl rfl rfl rfl ?_)
    (refine J.gN rfl rfl rfl rfl ?_)
    (refine Jx.pT rfl rfl rfl ?_)
    (refine J.nil ?_)
    (refine N.seq ?_)
    (refine W.cT rfl ?_)
    (refine W.seq ?_)
    (refine W.region ?_)
    (refine Jx.assign rfl rfl ?_)
    (refine J.nil ?_)
    (refine N.seq ?_)
    (refine W.ret ?_)
    (refine N.noGotoRet ?_)
    (refine id ?_; rotate_left))
        exact N.retD (rs := [.tmp 4]) (L1 := []) rfl (.tmp rfl .nil) (List.nil_sublist _) ⟨rfl, rfl⟩
      | true =>
        cases hg : fineMs y with
        | false =>
          rw [encO, hf, if_pos rfl] at e1
          rw [encO, hg] at e2
          generalize encMs x = ex at *
          focus (
    (refine W.seq ?_)
    (refine W.region ?_)
    (refine J.boxAg rfl rfl ?_; intro b')
    (refine J.boxAg rfl rfl ?_; intro b')
    (refine Jx.assign rfl rfl ?_)
    (refine J.nil ?_)
    (refine N.seq ?_)
    (refine W.seq ?_)
    (refine W.seq ?_)
    (refine W.region ?_)
    (refine J.call (cw) rfl (evs_args rfl) rfl ?_; rintro _ _ ⟨rfl, rfl⟩; simp only [List.cons_append, List.nil_append, List.append_nil])
    (refine Jx.not rfl rfl ?_)
    (refine J.nil ?_)
    (refine N.seq ?_)
    (refine W.cF rfl ?_)
    (refine W.skip ?_)
    (refine N.seq ?_)
    (refine W.seq ?_)
    (refine W.seq ?_)
    (refine W.region ?_)
    (refine Jx.loadAll rfl 1 rfl rfl rfl ?_)
    (refine J.call (cb) rfl (evs_args rfl) rfl ?_; rintro _ _ ⟨rfl, rfl⟩; simp only [List.cons_append, List.nil_append, List.append_nil])
    (refine Jx.move rfl rfl ?_)
    (refine J.gY rfl rfl rfl ?_)
    (refine Jx.loadAll rfl 0 rfl rfl rfl ?_)
    (refine J.gY rfl rfl rfl ?_)
    (refine J.call (cb2) rfl (evs_args rfl) rfl ?_; rintro _ _ ⟨rfl, rfl⟩; simp only [List.cons_append, List.nil_append, List.append_nil])
    (refine Jx.pF rfl rfl rfl ?_)
    (refine J.nil ?_)
    (refine N.seq ?_)
    (refine W.cF rfl ?_)
    (refine W.skip ?_)
    (refine N.seq ?_)
    (refine W.seq ?_)
    (refine W.region ?_)
    (refine Jx.loadAll rfl 1 rfl rfl rfl ?_)
    (refine J.call (e1) rfl (evs_args rfl) rfl ?_; rintro _ _ ⟨rfl, rfl⟩; simp only [List.cons_append, List.nil_append, List.append_nil])
    (refine Jx.move rfl rfl ?_)
    (refine Jx.extract rfl rfl rfl ?_)
    (refine Jx.extract rfl rfl rfl ?_)
    (refine Jx.assign rfl rfl ?_)
    (refine Jx.assign rfl rfl ?_)
    (refine J.nil ?_)
    (refine N.seq ?_)
    (refine W.seq ?_)
    (refine W.region ?_)
    (refine Jx.loadAll rfl 0 rfl rfl rfl ?_)
    (refine J.call (e2) rfl (evs_args rfl) rfl ?_; rintro _ _ ⟨rfl, rfl⟩; simp only [List.cons_append, List.nil_append, List.append_nil])
    (refine Jx.move rfl rfl ?_)
    (refine Jx.extract rfl rfl rfl ?_)
    (refine Jx.extract rfl rfl rfl ?_)
    (refine Jx.assign rfl rfl ?_)
    (refine Jx.assign rfl rfl ?_)
    (refine J.nil ?_)
    (refine N.seq ?_)
    (refine W.seq ?_)
    (refine W.seq ?_)
    (refine W.region ?_)
    (refine Jx.move rfl rfl ?_)
    (refine Jx.neqI rfl rfl rfl ?_)
    (refine Jx.move rfl rfl ?_)
    (refine J.gY rfl rfl rfl ?_)
    (refine Jx.move rfl rfl ?_)
    (refine J.gY rfl rfl rfl ?_)
    (refine Jx.neqI rfl rfl rfl ?_)
    (refine Jx.pF rfl rfl rfl ?_)
    (refine J.nil ?_)
    (refine N.seq ?_)
    (refine W.cT rfl ?_)
    (refine W.seq ?_)
    (refine W.region ?_)
    (refine Jx.assign rfl rfl ?_)
    (refine J.nil ?_)
    (refine N.seq ?_)
    (refine W.ret ?_)
    (refine N.noGotoRet ?_)
    (refine id ?_; rotate_left))
          exact N.retD (rs := [.tmp 4]) (L1 := []) rfl (.tmp rfl .nil) (List.nil_sublist _) ⟨rfl, rfl⟩
        | true =>
          rw [encO, hf, if_pos rfl] at e1
          rw [encO, hg, if_pos rfl] at e2
          have hxy : decide (x = y) = decide (encMs x = encMs y) := decide_eq_decide.2 ⟨fun h => by rw [h], fun h => (apMs.ap x y [] [] hf hg (by rw [h])).1⟩
          rw [hxy] at s1
          clear hxy
          generalize encMs x = ex at *
          generalize encMs y = ey at *
          focus (
    (refine W.seq ?_)
    (refine W.region ?_)
    (refine J.boxAg rfl rfl ?_; intro b')
    (refine J.boxAg rfl rfl ?_; intro b')
    (refine Jx.assign rfl rfl ?_)
    (refine J.nil ?_)
    (refine N.seq ?_)
    (refine W.seq ?_)
    (refine W.seq ?_)
    (refine W.region ?_)
    (refine J.call (cw) rfl (evs_args rfl) rfl ?_; rintro _ _ ⟨rfl, rfl⟩; simp only [List.cons_append, List.nil_append, List.append_nil])
    (refine Jx.not rfl rfl ?_)
    (refine J.nil ?_)
    (refine N.seq ?_)
    (refine W.cF rfl ?_)
    (refine W.skip ?_)
    (refine N.seq ?_)
    (refine W.seq ?_)
    (refine W.seq ?_)
    (refine W.region ?_)
    (refine Jx.loadAll rfl 1 rfl rfl rfl ?_)
    (refine J.call (cb) rfl (evs_args rfl) rfl ?_; rintro _ _ ⟨rfl, rfl⟩; simp only [List.cons_append, List.nil_append, List.append_nil])
    (refine Jx.move rfl rfl ?_)
    (refine J.gY rfl rfl rfl ?_)
    (refine Jx.loadAll rfl 0 rfl rfl rfl ?_)
    (refine J.gY rfl rfl rfl ?_)
    (refine J.call (cb2) rfl (evs_args rfl) rfl ?_; rintro _ _ ⟨rfl, rfl⟩; simp only [List.cons_append, List.nil_append, List.append_nil])
    (refine Jx.pF rfl rfl rfl ?_)
    (refine J.nil ?_)
    (refine N.seq ?_)
    (refine W.cF rfl ?_)
    (refine W.skip ?_)
    (refine N.seq ?_)
    (refine W.seq ?_)
    (refine W.region ?_)
    (refine Jx.loadAll rfl 1 rfl rfl rfl ?_)
    (refine J.call (e1) rfl (evs_args rfl) rfl ?_; rintro _ _ ⟨rfl, rfl⟩; simp only [List.cons_append, List.nil_append, List.append_nil])
    (refine Jx.move rfl rfl ?_)
    (refine Jx.extract rfl rfl rfl ?_)
    (refine Jx.extract rfl rfl rfl ?_)
    (refine Jx.assign rfl rfl ?_)
    (refine Jx.assign rfl rfl ?_)
    (refine J.nil ?_)
    (refine N.seq ?_)
    (refine W.seq ?_)
    (refine W.region ?_)
    (refine Jx.loadAll rfl 0 rfl rfl rfl ?_)
    (refine J.call (e2) rfl (evs_args rfl) rfl ?_; rintro _ _ ⟨rfl, rfl⟩; simp only [List.cons_append, List.nil_append, List.append_nil])
    (refine Jx.move rfl rfl ?_)
    (refine Jx.extract rfl rfl rfl ?_)
    (refine Jx.extract rfl rfl rfl ?_)
    (refine Jx.assign rfl rfl ?_)
    (refine Jx.assign rfl rfl ?_)
    (refine J.nil ?_)
    (refine N.seq ?_)
    (refine W.seq ?_)
    (refine W.seq ?_)
    (refine W.region ?_)
    (refine Jx.move rfl rfl ?_)
    (refine Jx.neqI rfl rfl rfl ?_)
    (refine Jx.move rfl rfl ?_)
    (refine J.gY rfl rfl rfl ?_)
    (refine Jx.move rfl rfl ?_)
    (refine J.gY rfl rfl rfl ?_)
    (refine Jx.neqI rfl rfl rfl ?_)
    (refine Jx.pF rfl rfl rfl ?_)
    (refine J.nil ?_)
    (refine N.seq ?_)
    (refine W.cF rfl ?_)
    (refine W.skip ?_)
    (refine N.seq ?_)
    (refine W.seq ?_)
    (refine W.region ?_)
    (refine Jx.move rfl rfl ?_)
    (refine Jx.move rfl rfl ?_)
    (refine Jx.eqlS rfl rfl rfl ?_)
    (refine Jx.loadAll rfl 1 rfl rfl rfl ?_)
    (refine Jx.loadAll rfl 0 rfl rfl rfl ?_)
    (refine J.call (s1) rfl (evs_args rfl) rfl ?_; rintro _ _ ⟨rfl, rfl⟩; simp only [List.cons_append, List.nil_append, List.append_nil])
    (refine Jx.eqlB rfl rfl rfl ?_)
    (refine Jx.assign rfl rfl ?_)
    (refine J.nil ?_)
    (refine N.seq ?_)
    (refine W.ret ?_)
    (refine id ?_; rotate_left))
          exact N.retD (rs := [.tmp 4]) (L1 := []) rfl (.tmp rfl .nil) (List.nil_sublist _) ⟨by simp [oneOr], rfl⟩
end Go.Proofs.YtlfdhkahiaammaaDoor
namespace Go.Proofs.YtlfdhkahiaammaaDoor
open Go Go.Sse Go.ChangeShapes Go.WideShapes Go.ChangeAt Go.RowKit
set_option linter.unusedVariables false
set_option linter.unusedSimpArgs false
set_option maxRecDepth 100000
noncomputable def rdHd : Rd Tryd.prog 24 Hd :=
  rdIso (Rd.struct (tos := [(3, 0), (3, 1), (3, 2), (4, 3), (9, 4), (9, 5), (9, 6), (9, 7), (9, 8), (9, 9), (22, 10)]) (by kernel_rfl)
    (Fds.cons rdInt (Fds.cons rdInt (Fds.cons rdInt (Fds.cons rdBool (Fds.cons rdStr (Fds.cons rdStr (Fds.cons rdStr (Fds.cons rdStr (Fds.cons rdStr (Fds.cons rdStr (Fds.cons rdStrs Fds.nil))))))))))) (by kernel_rfl))
    (fun x => ⟨x.1, x.2.1, x.2.2.1, x.2.2.2.1, x.2.2.2.2.1, x.2.2.2.2.2.1, x.2.2.2.2.2.2.1, x.2.2.2.2.2.2.2.1, x.2.2.2.2.2.2.2.2.1, x.2.2.2.2.2.2.2.2.2.1, x.2.2.2.2.2.2.2.2.2.2.1⟩) (fun x => (x.height, x.epoch, x.view, x.last, x.parent, x.state, x.receipts, x.txs, x.members, x.next, x.skips, ())) (fun _ => rfl) hdC (fun _ => rfl) (fun _ => rfl)
end Go.Proofs.YtlfdhkahiaammaaDoor
namespace Go.Proofs.YtlfdhkahiaammaaDoor
open Go Go.Sse Go.ChangeShapes Go.WideShapes Go.ChangeAt Go.RowKit
set_option linter.unusedVariables false
set_option linter.unusedSimpArgs false
set_option maxRecDepth 100000
noncomputable def rdCt : Rd Tryd.prog 27 Ct :=
  rdIso (Rd.struct (tos := [(9, 0), (22, 1)]) (by kernel_rfl) (Fds.cons rdStr (Fds.cons rdStrs Fds.nil)) (by kernel_rfl)) (fun x => ⟨x.1, x.2.1⟩) (fun c => (c.digest, c.signers, ())) (fun _ => rfl) ctC (fun _ => rfl) (fun _ => rfl)
noncomputable def rdBk : Rd Tryd.prog 29 Bk :=
  rdIso (Rd.struct (tos := [(24, 0), (25, 11), (27, 12)]) (by kernel_rfl) (Fds.cons rdHd (Fds.cons rdTxs (Fds.cons rdCt Fds.nil))) (by kernel_rfl)) (fun x => ⟨x.1, x.2.1, x.2.2.1⟩) (fun b => (b.head, b.txs, b.just, ())) (fun _ => rfl) bkC (fun _ => rfl) (fun _ => rfl)
end Go.Proofs.YtlfdhkahiaammaaDoor
namespace Go.Proofs.YtlfdhkahiaammaaDoor
open Go Go.Sse Go.ChangeShapes Go.WideShapes Go.ChangeAt Go.RowKit
set_option linter.unusedVariables false
set_option linter.unusedSimpArgs false
set_option maxRecDepth 100000
noncomputable def rdMs : Rd Tryd.prog 48 Ms :=
  rdIso (Rd.struct (tos := [(3, 0), (9, 1), (3, 2), (3, 3), (9, 4), (29, 5), (27, 19)]) (by kernel_rfl) (Fds.cons rdInt (Fds.cons rdStr (Fds.cons rdInt (Fds.cons rdInt (Fds.cons rdStr (Fds.cons rdBk (Fds.cons rdCt Fds.nil))))))) (by kernel_rfl)) (fun x => ⟨x.1, x.2.1, x.2.2.1, x.2.2.2.1, x.2.2.2.2.1, x.2.2.2.2.2.1, x.2.2.2.2.2.2.1⟩) (fun m => (m.kind, m.who, m.epoch, m.view, m.digest, m.block, m.cert, ())) (fun _ => rfl) msC (fun _ => rfl) (fun _ => rfl)
end Go.Proofs.YtlfdhkahiaammaaDoor
