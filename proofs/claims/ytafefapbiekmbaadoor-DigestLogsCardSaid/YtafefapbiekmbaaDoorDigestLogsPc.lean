/-
  Lemmas for the claim, part 3.
-/
import Derived.Test.YtafefapbiekmbaaDoorDigestLogsPb
namespace Go.Proofs.YtafefapbiekmbaaDoor
open Go Go.Sse
set_option linter.unusedVariables false
set_option linter.unusedSimpArgs false
set_option maxRecDepth 10000
theorem findN_not {all : List Nt} {n : Nt} (h : n ∉ all) : findN all n = none := by
  cases hf : findN all n with
  | none => rfl
  | some i =>
    obtain ⟨h1, h2⟩ := getD_lt hf
    exact absurd (h2 ▸ getD_mem' h1) h
set_option maxHeartbeats 4000000 in
theorem put_first (b : Nat) (v : Value) (mt mf : Nat) (all : List Nt) (M : List (Nt × Value)) (K : List (List UInt8 × Value)) (n : Nt) (hI : LogInv all M K) (h1 : ¬ n.tag < 1) (h2 : ¬ 255 < n.tag) (h3 : n.digest.length = 32) (hn : n ∉ all) (hl : all.length < 1024) (hd : findD all n.digest = none) :
    FnC Tryd.prog 12 [ptr b, .agg (ntC n)] (logO b v mt mf all M K) (fun r L => ∃ v' M' K', r = int 0 ∧ L = logO b v' mt mf (all ++ [n]) M' K' ∧ LogInv (all ++ [n]) M' K') := by
  have h4 : (n.digest.length : Int) = 32 := by omega
  have hlk : lk M n = none := by rw [hI.there, findN_not hn]; rfl
  have hlk2 : lk K n.digest = none := by rw [hI.first, hd]; rfl
  have hinv := inv_put hI hn
  rw [hd] at hinv
  have htw : twI (all ++ [n]) = twI all := by simp [twI, clashA_snoc, hd]
  have hmx : all.length + [n].length ≤ maxLen ∧ (all.length + [n].length) * 40 ≤ 140737488355328 := by simp only [maxLen, List.length_cons, List.length_nil]; omega
  have hge : ¬ (1024 : Int) ≤ (all.length : Int) := by omega
  refine FnC.intro Tryd.func12 rfl Tryd.ntmps12 rfl fun Z w0 hG => ?_
  focus (
 (refine W.seq (W.region ?_))
 (refine J.boxAg rfl rfl ?_; intro b')
 (refine Jx.assign rfl rfl (J.nil (N.seq (W.seq (W.seq (W.region (Jx.fieldAddr rfl rfl ?_)))))))
 (refine Jx.load rfl 0 rfl rfl rfl ?_)
 (refine Jx.lssI rfl rfl rfl (Jx.move rfl rfl (J.gY rfl rfl rfl ?_)))
 (refine Jx.fieldAddr rfl rfl ?_)
 (refine J.gY rfl rfl rfl ?_)
 (refine Jx.load rfl 0 rfl rfl rfl ?_)
 (refine J.gY rfl rfl rfl ?_)
 (refine Jx.gtrI rfl rfl rfl (Jx.pF rfl rfl rfl ?_))
 (refine J.nil (N.seq (W.cF rfl ?_)))
 (refine W.skip (N.seq (W.seq (W.seq (W.region (Jx.fieldAddr rfl rfl ?_))))))
 (refine Jx.load rfl 0 rfl rfl rfl ?_)
 (refine Jx.lenS rfl rfl ?_)
 (refine Jx.neqI rfl rfl rfl (J.nil (N.seq (W.cF rfl ?_))))
 (refine W.skip (N.seq (W.seq (W.seq ?_))))
 (refine W.draw follows ?_)
 (refine JD.calm rfl (by decide +kernel) ?_)
 (refine Cx.move rfl rfl ?_)
 (refine Cx.nilCheck rfl rfl ?_)
 (refine Cx.fieldAddr rfl rfl ?_)
 (refine Cx.load rfl 2 rfl rfl rfl ?_)
 (refine Cx.loadAll rfl 0 rfl rfl rfl ?_)
 (refine Cx.lookupA ntV ntV_fit ntV_inj rfl rfl rfl 3 rfl rfl ?_; rw [hlk])
 (refine Cx.move rfl rfl ?_)
 (refine Cx.extract rfl rfl rfl ?_)
 (refine Cx.extract rfl rfl rfl ?_)
 (refine Cx.assign rfl rfl ?_)
 (refine Cx.assign rfl rfl ?_)
 (refine SegC.nil ?_)
 (refine N.seq (W.seq ?_))
 (refine W.draw follows ?_)
 (refine JD.calm rfl (by decide +kernel) ?_)
 (refine Cx.move rfl rfl ?_)
 (refine Cx.move rfl rfl ?_)
 (refine SegC.gU rfl rfl rfl rfl ?_)
 (refine SegC.gU rfl rfl rfl rfl ?_)
 (refine SegC.gU rfl rfl rfl rfl ?_)
 (refine SegC.gU rfl rfl rfl rfl ?_)
 (refine SegC.gU rfl rfl rfl rfl ?_)
 (refine SegC.gU rfl rfl rfl rfl ?_)
 (refine SegC.gU rfl rfl rfl rfl ?_)
 (refine SegC.gU rfl rfl rfl rfl ?_)
 (refine SegC.gU rfl rfl rfl rfl ?_)
 (refine Cx.pickF rfl (by first | rfl | assumption | (exact decide_eq_true (by first | assumption | omega | rfl)) | (exact decide_eq_false (by first | assumption | omega | rfl)) | (simp; done) | (simp; omega)) rfl rfl ?_)
 (refine SegC.nil ?_)
 (refine N.seq (W.cF rfl ?_))
 (refine W.skip (N.seq (W.seq (W.seq (W.region (Jx.move rfl rfl (Jx.nilCheck rfl rfl ?_)))))))
 (refine Jx.fieldAddr rfl rfl ?_)
 (refine Jx.load rfl 2 rfl rfl rfl ?_)
 (refine Jx.lenRow rfl 1 rfl rfl ?_)
 (refine Jx.geqI rfl rfl rfl (J.nil (N.seq (W.cF rfl ?_))))
 (refine W.skip (N.seq (W.seq (W.region (Jx.move rfl rfl (Jx.nilCheck rfl rfl ?_))))))
 (refine Jx.fieldAddr rfl rfl ?_)
 (refine Jx.load rfl 2 rfl rfl rfl ?_)
 (refine Jx.lenRow rfl 1 rfl rfl ?_)
 (refine Jx.assign rfl rfl (J.nil (N.seq (W.seq ?_))))
 (refine W.draw follows ?_)
 (refine JD.begin (ops := [_, _, _, _, _, _, ⟨_, .buildSlice _ _ _, _, _, _, _⟩, _, _, _, _].toArray) 11 rfl ?_; refine JP.more [0, 1, 2, 3, 4, 5, 6] _ rfl (by decide +kernel) ?_)
 (refine Cx.move rfl rfl ?_)
 (refine Cx.move rfl rfl ?_)
 (refine Cx.nilCheck rfl rfl ?_)
 (refine Cx.fieldAddr rfl rfl ?_)
 (refine Cx.load rfl 2 rfl rfl rfl ?_)
 (refine Cx.loadAll rfl 0 rfl rfl rfl ?_)
 (refine SegC.q (Qs.buildOne ntC nt0 n rfl rfl rfl rfl rfl rfl rfl) rfl ?_)
 (refine SegC.nil ?_)
 (refine JP.perm (List.Perm.swap _ _ _) ?_; refine JP.append (idx := [0, 1, 2, 3, 4, 5, 6]) (m := all) (m2 := [n]) 7 [58, 60] [1, 2, 3, 4, 5, 6, 7] [0] (by decide +kernel) rfl ?_ rfl (SrcOK.sl rfl) rfl rfl hmx rfl ?_; rotate_left; intro v' hv'; rotate_left)
 (refine Cx.move rfl rfl ?_)
 (refine Cx.move rfl rfl ?_)
 (refine Cx.nilCheck rfl rfl ?_)
 (refine Cx.fieldAddr rfl rfl ?_)
 (refine Cx.load rfl 2 rfl rfl rfl ?_)
 (refine Cx.loadAll rfl 1 rfl rfl rfl ?_)
 (refine SegC.q (Qs.buildOne ntC nt0 n rfl rfl rfl rfl rfl rfl rfl) rfl ?_)
 (refine SegC.nil ?_)
 (refine Ag.cons rfl ?_)
 (refine Ag.cons rfl ?_)
 (refine Ag.cons rfl ?_)
 (refine Ag.cons rfl ?_)
 (refine Ag.cons rfl ?_)
 (refine Ag.cons rfl ?_)
 (refine Ag.cons rfl ?_)
 (refine Ag.nil)
 (refine JP.tail (idx := [0]) 8 (by decide +kernel) (by decide +kernel) rfl rfl ?_ ?_)
 (refine Cx.move rfl rfl ?_)
 (refine SegC.nil ?_)
 (refine Ag.cons rfl ?_)
 (refine Ag.nil)
 (refine Jx.nilCheck rfl rfl ?_)
 (refine Jx.fieldAddr rfl rfl ?_)
 (refine J.store rfl rfl (One.val hv') 2 rfl rfl rfl rfl ?_)
 (refine J.nil (N.seq (W.seq ?_)))
 (refine W.draw follows ?_)
 (refine JD.till (l := [_, _, _, _, _, _, ⟨none, .mapUpdate _ _ _ _, _, _, _, none⟩]) 6 (by decide +kernel) (by decide +kernel) rfl rfl ?_)
 (refine Cx.move rfl rfl ?_)
 (refine Cx.nilCheck rfl rfl ?_)
 (refine Cx.fieldAddr rfl rfl ?_)
 (refine Cx.load rfl 2 rfl rfl rfl ?_)
 (refine Cx.loadAll rfl 1 rfl rfl rfl ?_)
 (refine Cx.move rfl rfl ?_)
 (refine SegC.nil ?_)
 (refine J.mapUpdA ntV ntV_fit ntV_inj rfl rfl rfl rfl 3 rfl hlk rfl ?_)
 (refine J.nil (N.seq (W.seq (W.seq ?_))))
 (refine W.draw follows ?_)
 (refine JD.calm rfl (by decide +kernel) ?_)
 (refine Cx.move rfl rfl ?_)
 (refine Cx.nilCheck rfl rfl ?_)
 (refine Cx.fieldAddr rfl rfl ?_)
 (refine Cx.load rfl 2 rfl rfl rfl ?_)
 (refine Cx.fieldAddr rfl rfl ?_)
 (refine Cx.load rfl 1 rfl rfl rfl ?_)
 (refine Cx.lookupS rfl rfl 4 rfl rfl ?_; rw [hlk2])
 (refine Cx.move rfl rfl ?_)
 (refine Cx.extract rfl rfl rfl ?_)
 (refine Cx.extract rfl rfl rfl ?_)
 (refine Cx.assign rfl rfl ?_)
 (refine Cx.assign rfl rfl ?_)
 (refine SegC.nil ?_)
 (refine N.seq (W.seq (W.region (Jx.move rfl rfl (Jx.not rfl rfl (J.nil (N.seq (W.cT rfl ?_))))))))
 (refine W.draw follows ?_)
 (refine JD.till (l := [_, _, _, _, _, _, _, ⟨none, .mapUpdate _ _ _ _, _, _, _, none⟩]) 7 (by decide +kernel) (by decide +kernel) rfl rfl ?_)
 (refine Cx.move rfl rfl ?_)
 (refine Cx.nilCheck rfl rfl ?_)
 (refine Cx.fieldAddr rfl rfl ?_)
 (refine Cx.load rfl 2 rfl rfl rfl ?_)
 (refine Cx.fieldAddr rfl rfl ?_)
 (refine Cx.load rfl 1 rfl rfl rfl ?_)
 (refine Cx.move rfl rfl ?_)
 (refine SegC.nil ?_)
 (refine J.mapUpdS rfl rfl rfl 4 rfl hlk2 rfl ?_)
 (refine J.nil (N.seq (W.seq (W.region (Jx.assign rfl rfl (J.nil (N.seq (W.ret ?_))))))))
 (refine id ?_; rotate_left))
  refine N.retD (rs := [.tmp 4]) rfl (.tmp rfl .nil) (.cons_cons _ (.cons _ (List.Sublist.refl _))) ⟨v', M ++ [(n, iV all.length)], K ++ [(n.digest, iV all.length)], rfl, ?_, hinv⟩
  simp only [logO, htw] <;> rfl
set_option maxHeartbeats 4000000 in
theorem put_again (b : Nat) (v : Value) (mt mf : Nat) (all : List Nt) (M : List (Nt × Value)) (K : List (List UInt8 × Value)) (n : Nt) (hI : LogInv all M K) (h1 : ¬ n.tag < 1) (h2 : ¬ 255 < n.tag) (h3 : n.digest.length = 32) (hn : n ∉ all) (hl : all.length < 1024) (j : Nat) (hd : findD all n.digest = some j) :
    FnC Tryd.prog 12 [ptr b, .agg (ntC n)] (logO b v mt mf all M K) (fun r L => ∃ v' M' K', r = int 0 ∧ L = logO b v' mt mf (all ++ [n]) M' K' ∧ LogInv (all ++ [n]) M' K') := by
  have h4 : (n.digest.length : Int) = 32 := by omega
  have hlk : lk M n = none := by rw [hI.there, findN_not hn]; rfl
  have hlk2 : lk K n.digest = some (iV j) := by rw [hI.first, hd]; rfl
  have hinv := inv_put hI hn
  rw [hd] at hinv
  have hmx : all.length + [n].length ≤ maxLen ∧ (all.length + [n].length) * 40 ≤ 140737488355328 := by simp only [maxLen, List.length_cons, List.length_nil]; omega
  have hge : ¬ (1024 : Int) ≤ (all.length : Int) := by omega
  refine FnC.intro Tryd.func12 rfl Tryd.ntmps12 rfl fun Z w0 hG => ?_
  cases hc : clashA all with
  | none =>
    have htw0 : twI all = -1 := by simp [twI, hc]
    have htw : twI (all ++ [n]) = (all.length : Int) := by simp [twI, clashA_snoc, hc, hd]
    simp only [logO]
    rw [htw0]
    focus (
 (refine W.seq (W.region ?_))
 (refine J.boxAg rfl rfl ?_; intro b')
 (refine Jx.assign rfl rfl (J.nil (N.seq (W.seq (W.seq (W.region (Jx.fieldAddr rfl rfl ?_)))))))
 (refine Jx.load rfl 0 rfl rfl rfl ?_)
 (refine Jx.lssI rfl rfl rfl (Jx.move rfl rfl (J.gY rfl rfl rfl ?_)))
 (refine Jx.fieldAddr rfl rfl ?_)
 (refine J.gY rfl rfl rfl ?_)
 (refine Jx.load rfl 0 rfl rfl rfl ?_)
 (refine J.gY rfl rfl rfl ?_)
 (refine Jx.gtrI rfl rfl rfl (Jx.pF rfl rfl rfl ?_))
 (refine J.nil (N.seq (W.cF rfl ?_)))
 (refine W.skip (N.seq (W.seq (W.seq (W.region (Jx.fieldAddr rfl rfl ?_))))))
 (refine Jx.load rfl 0 rfl rfl rfl ?_)
 (refine Jx.lenS rfl rfl ?_)
 (refine Jx.neqI rfl rfl rfl (J.nil (N.seq (W.cF rfl ?_))))
 (refine W.skip (N.seq (W.seq (W.seq ?_))))
 (refine W.draw follows ?_)
 (refine JD.calm rfl (by decide +kernel) ?_)
 (refine Cx.move rfl rfl ?_)
 (refine Cx.nilCheck rfl rfl ?_)
 (refine Cx.fieldAddr rfl rfl ?_)
 (refine Cx.load rfl 2 rfl rfl rfl ?_)
 (refine Cx.loadAll rfl 0 rfl rfl rfl ?_)
 (refine Cx.lookupA ntV ntV_fit ntV_inj rfl rfl rfl 3 rfl rfl ?_; rw [hlk])
 (refine Cx.move rfl rfl ?_)
 (refine Cx.extract rfl rfl rfl ?_)
 (refine Cx.extract rfl rfl rfl ?_)
 (refine Cx.assign rfl rfl ?_)
 (refine Cx.assign rfl rfl ?_)
 (refine SegC.nil ?_)
 (refine N.seq (W.seq ?_))
 (refine W.draw follows ?_)
 (refine JD.calm rfl (by decide +kernel) ?_)
 (refine Cx.move rfl rfl ?_)
 (refine Cx.move rfl rfl ?_)
 (refine SegC.gU rfl rfl rfl rfl ?_)
 (refine SegC.gU rfl rfl rfl rfl ?_)
 (refine SegC.gU rfl rfl rfl rfl ?_)
 (refine SegC.gU rfl rfl rfl rfl ?_)
 (refine SegC.gU rfl rfl rfl rfl ?_)
 (refine SegC.gU rfl rfl rfl rfl ?_)
 (refine SegC.gU rfl rfl rfl rfl ?_)
 (refine SegC.gU rfl rfl rfl rfl ?_)
 (refine SegC.gU rfl rfl rfl rfl ?_)
 (refine Cx.pickF rfl (by first | rfl | assumption | (exact decide_eq_true (by first | assumption | omega | rfl)) | (exact decide_eq_false (by first | assumption | omega | rfl)) | (simp; done) | (simp; omega)) rfl rfl ?_)
 (refine SegC.nil ?_)
 (refine N.seq (W.cF rfl ?_))
 (refine W.skip (N.seq (W.seq (W.seq (W.region (Jx.move rfl rfl (Jx.nilCheck rfl rfl ?_)))))))
 (refine Jx.fieldAddr rfl rfl ?_)
 (refine Jx.load rfl 2 rfl rfl rfl ?_)
 (refine Jx.lenRow rfl 1 rfl rfl ?_)
 (refine Jx.geqI rfl rfl rfl (J.nil (N.seq (W.cF rfl ?_))))
 (refine W.skip (N.seq (W.seq (W.region (Jx.move rfl rfl (Jx.nilCheck rfl rfl ?_))))))
 (refine Jx.fieldAddr rfl rfl ?_)
 (refine Jx.load rfl 2 rfl rfl rfl ?_)
 (refine Jx.lenRow rfl 1 rfl rfl ?_)
 (refine Jx.assign rfl rfl (J.nil (N.seq (W.seq ?_))))
 (refine W.draw follows ?_)
 (refine JD.begin (ops := [_, _, _, _, _, _, ⟨_, .buildSlice _ _ _, _, _, _, _⟩, _, _, _, _].toArray) 11 rfl ?_; refine JP.more [0, 1, 2, 3, 4, 5, 6] _ rfl (by decide +kernel) ?_)
 (refine Cx.move rfl rfl ?_)
 (refine Cx.move rfl rfl ?_)
 (refine Cx.nilCheck rfl rfl ?_)
 (refine Cx.fieldAddr rfl rfl ?_)
 (refine Cx.load rfl 2 rfl rfl rfl ?_)
 (refine Cx.loadAll rfl 0 rfl rfl rfl ?_)
 (refine SegC.q (Qs.buildOne ntC nt0 n rfl rfl rfl rfl rfl rfl rfl) rfl ?_)
 (refine SegC.nil ?_)
 (refine JP.perm (List.Perm.swap _ _ _) ?_; refine JP.append (idx := [0, 1, 2, 3, 4, 5, 6]) (m := all) (m2 := [n]) 7 [58, 60] [1, 2, 3, 4, 5, 6, 7] [0] (by decide +kernel) rfl ?_ rfl (SrcOK.sl rfl) rfl rfl hmx rfl ?_; rotate_left; intro v' hv'; rotate_left)
 (refine Cx.move rfl rfl ?_)
 (refine Cx.move rfl rfl ?_)
 (refine Cx.nilCheck rfl rfl ?_)
 (refine Cx.fieldAddr rfl rfl ?_)
 (refine Cx.load rfl 2 rfl rfl rfl ?_)
 (refine Cx.loadAll rfl 1 rfl rfl rfl ?_)
 (refine SegC.q (Qs.buildOne ntC nt0 n rfl rfl rfl rfl rfl rfl rfl) rfl ?_)
 (refine SegC.nil ?_)
 (refine Ag.cons rfl ?_)
 (refine Ag.cons rfl ?_)
 (refine Ag.cons rfl ?_)
 (refine Ag.cons rfl ?_)
 (refine Ag.cons rfl ?_)
 (refine Ag.cons rfl ?_)
 (refine Ag.cons rfl ?_)
 (refine Ag.nil)
 (refine JP.tail (idx := [0]) 8 (by decide +kernel) (by decide +kernel) rfl rfl ?_ ?_)
 (refine Cx.move rfl rfl ?_)
 (refine SegC.nil ?_)
 (refine Ag.cons rfl ?_)
 (refine Ag.nil)
 (refine Jx.nilCheck rfl rfl ?_)
 (refine Jx.fieldAddr rfl rfl ?_)
 (refine J.store rfl rfl (One.val hv') 2 rfl rfl rfl rfl ?_)
 (refine J.nil (N.seq (W.seq ?_)))
 (refine W.draw follows ?_)
 (refine JD.till (l := [_, _, _, _, _, _, ⟨none, .mapUpdate _ _ _ _, _, _, _, none⟩]) 6 (by decide +kernel) (by decide +kernel) rfl rfl ?_)
 (refine Cx.move rfl rfl ?_)
 (refine Cx.nilCheck rfl rfl ?_)
 (refine Cx.fieldAddr rfl rfl ?_)
 (refine Cx.load rfl 2 rfl rfl rfl ?_)
 (refine Cx.loadAll rfl 1 rfl rfl rfl ?_)
 (refine Cx.move rfl rfl ?_)
 (refine SegC.nil ?_)
 (refine J.mapUpdA ntV ntV_fit ntV_inj rfl rfl rfl rfl 3 rfl hlk rfl ?_)
 (refine J.nil (N.seq (W.seq (W.seq ?_))))
 (refine W.draw follows ?_)
 (refine JD.calm rfl (by decide +kernel) ?_)
 (refine Cx.move rfl rfl ?_)
 (refine Cx.nilCheck rfl rfl ?_)
 (refine Cx.fieldAddr rfl rfl ?_)
 (refine Cx.load rfl 2 rfl rfl rfl ?_)
 (refine Cx.fieldAddr rfl rfl ?_)
 (refine Cx.load rfl 1 rfl rfl rfl ?_)
 (refine Cx.lookupS rfl rfl 4 rfl rfl ?_; rw [hlk2])
 (refine Cx.move rfl rfl ?_)
 (refine Cx.extract rfl rfl rfl ?_)
 (refine Cx.extract rfl rfl rfl ?_)
 (refine Cx.assign rfl rfl ?_)
 (refine Cx.assign rfl rfl ?_)
 (refine SegC.nil ?_)
 (refine N.seq (W.seq (W.region (Jx.move rfl rfl (Jx.not rfl rfl (J.nil (N.seq (W.cF rfl ?_))))))))
 (refine W.seq (W.region (Jx.move rfl rfl (Jx.nilCheck rfl rfl ?_))))
 (refine Jx.fieldAddr rfl rfl ?_)
 (refine Jx.load rfl 2 rfl rfl rfl ?_)
 (refine Jx.lssI rfl rfl rfl (J.nil (N.seq (W.cT rfl ?_))))
 (refine W.region (Jx.move rfl rfl (Jx.move rfl rfl (Jx.nilCheck rfl rfl ?_))))
 (refine Jx.fieldAddr rfl rfl ?_)
 (refine J.st 2 rfl rfl rfl rfl rfl rfl ?_)
 (refine J.nil (N.seq (W.seq (W.region (Jx.assign rfl rfl (J.nil (N.seq (W.ret ?_))))))))
 (refine id ?_; rotate_left))
    refine N.retD (rs := [.tmp 4]) rfl (.tmp rfl .nil) (.cons_cons _ (.cons _ (List.Sublist.refl _))) ⟨v', M ++ [(n, iV all.length)], K, rfl, ?_, hinv⟩
    simp only [logO, htw] <;> rfl
  | some i =>
    have htw0 : twI all = (i : Int) := by simp [twI, hc]
    have htw : twI (all ++ [n]) = (i : Int) := by simp [twI, clashA_snoc, hc, hd]
    have hi0 : ¬ (i : Int) < 0 := by omega
    simp only [logO]
    rw [htw0]
    focus (
 (refine W.seq (W.region ?_))
 (refine J.boxAg rfl rfl ?_; intro b')
 (refine Jx.assign rfl rfl (J.nil (N.seq (W.seq (W.seq (W.region (Jx.fieldAddr rfl rfl ?_)))))))
 (refine Jx.load rfl 0 rfl rfl rfl ?_)
 (refine Jx.lssI rfl rfl rfl (Jx.move rfl rfl (J.gY rfl rfl rfl ?_)))
 (refine Jx.fieldAddr rfl rfl ?_)
 (refine J.gY rfl rfl rfl ?_)
 (refine Jx.load rfl 0 rfl rfl rfl ?_)
 (refine J.gY rfl rfl rfl ?_)
 (refine Jx.gtrI rfl rfl rfl (Jx.pF rfl rfl rfl ?_))
 (refine J.nil (N.seq (W.cF rfl ?_)))
 (refine W.skip (N.seq (W.seq (W.seq (W.region (Jx.fieldAddr rfl rfl ?_))))))
 (refine Jx.load rfl 0 rfl rfl rfl ?_)
 (refine Jx.lenS rfl rfl ?_)
 (refine Jx.neqI rfl rfl rfl (J.nil (N.seq (W.cF rfl ?_))))
 (refine W.skip (N.seq (W.seq (W.seq ?_))))
 (refine W.draw follows ?_)
 (refine JD.calm rfl (by decide +kernel) ?_)
 (refine Cx.move rfl rfl ?_)
 (refine Cx.nilCheck rfl rfl ?_)
 (refine Cx.fieldAddr rfl rfl ?_)
 (refine Cx.load rfl 2 rfl rfl rfl ?_)
 (refine Cx.loadAll rfl 0 rfl rfl rfl ?_)
 (refine Cx.lookupA ntV ntV_fit ntV_inj rfl rfl rfl 3 rfl rfl ?_; rw [hlk])
 (refine Cx.move rfl rfl ?_)
 (refine Cx.extract rfl rfl rfl ?_)
 (refine Cx.extract rfl rfl rfl ?_)
 (refine Cx.assign rfl rfl ?_)
 (refine Cx.assign rfl rfl ?_)
 (refine SegC.nil ?_)
 (refine N.seq (W.seq ?_))
 (refine W.draw follows ?_)
 (refine JD.calm rfl (by decide +kernel) ?_)
 (refine Cx.move rfl rfl ?_)
 (refine Cx.move rfl rfl ?_)
 (refine SegC.gU rfl rfl rfl rfl ?_)
 (refine SegC.gU rfl rfl rfl rfl ?_)
 (refine SegC.gU rfl rfl rfl rfl ?_)
 (refine SegC.gU rfl rfl rfl rfl ?_)
 (refine SegC.gU rfl rfl rfl rfl ?_)
 (refine SegC.gU rfl rfl rfl rfl ?_)
 (refine SegC.gU rfl rfl rfl rfl ?_)
 (refine SegC.gU rfl rfl rfl rfl ?_)
 (refine SegC.gU rfl rfl rfl rfl ?_)
 (refine Cx.pickF rfl (by first | rfl | assumption | (exact decide_eq_true (by first | assumption | omega | rfl)) | (exact decide_eq_false (by first | assumption | omega | rfl)) | (simp; done) | (simp; omega)) rfl rfl ?_)
 (refine SegC.nil ?_)
 (refine N.seq (W.cF rfl ?_))
 (refine W.skip (N.seq (W.seq (W.seq (W.region (Jx.move rfl rfl (Jx.nilCheck rfl rfl ?_)))))))
 (refine Jx.fieldAddr rfl rfl ?_)
 (refine Jx.load rfl 2 rfl rfl rfl ?_)
 (refine Jx.lenRow rfl 1 rfl rfl ?_)
 (refine Jx.geqI rfl rfl rfl (J.nil (N.seq (W.cF rfl ?_))))
 (refine W.skip (N.seq (W.seq (W.region (Jx.move rfl rfl (Jx.nilCheck rfl rfl ?_))))))
 (refine Jx.fieldAddr rfl rfl ?_)
 (refine Jx.load rfl 2 rfl rfl rfl ?_)
 (refine Jx.lenRow rfl 1 rfl rfl ?_)
 (refine Jx.assign rfl rfl (J.nil (N.seq (W.seq ?_))))
 (refine W.draw follows ?_)
 (refine JD.begin (ops := [_, _, _, _, _, _, ⟨_, .buildSlice _ _ _, _, _, _, _⟩, _, _, _, _].toArray) 11 rfl ?_; refine JP.more [0, 1, 2, 3, 4, 5, 6] _ rfl (by decide +kernel) ?_)
 (refine Cx.move rfl rfl ?_)
 (refine Cx.move rfl rfl ?_)
 (refine Cx.nilCheck rfl rfl ?_)
 (refine Cx.fieldAddr rfl rfl ?_)
 (refine Cx.load rfl 2 rfl rfl rfl ?_)
 (refine Cx.loadAll rfl 0 rfl rfl rfl ?_)
 (refine SegC.q (Qs.buildOne ntC nt0 n rfl rfl rfl rfl rfl rfl rfl) rfl ?_)
 (refine SegC.nil ?_)
 (refine JP.perm (List.Perm.swap _ _ _) ?_; refine JP.append (idx := [0, 1, 2, 3, 4, 5, 6]) (m := all) (m2 := [n]) 7 [58, 60] [1, 2, 3, 4, 5, 6, 7] [0] (by decide +kernel) rfl ?_ rfl (SrcOK.sl rfl) rfl rfl hmx rfl ?_; rotate_left; intro v' hv'; rotate_left)
 (refine Cx.move rfl rfl ?_)
 (refine Cx.move rfl rfl ?_)
 (refine Cx.nilCheck rfl rfl ?_)
 (refine Cx.fieldAddr rfl rfl ?_)
 (refine Cx.load rfl 2 rfl rfl rfl ?_)
 (refine Cx.loadAll rfl 1 rfl rfl rfl ?_)
 (refine SegC.q (Qs.buildOne ntC nt0 n rfl rfl rfl rfl rfl rfl rfl) rfl ?_)
 (refine SegC.nil ?_)
 (refine Ag.cons rfl ?_)
 (refine Ag.cons rfl ?_)
 (refine Ag.cons rfl ?_)
 (refine Ag.cons rfl ?_)
 (refine Ag.cons rfl ?_)
 (refine Ag.cons rfl ?_)
 (refine Ag.cons rfl ?_)
 (refine Ag.nil)
 (refine JP.tail (idx := [0]) 8 (by decide +kernel) (by decide +kernel) rfl rfl ?_ ?_)
 (refine Cx.move rfl rfl ?_)
 (refine SegC.nil ?_)
 (refine Ag.cons rfl ?_)
 (refine Ag.nil)
 (refine Jx.nilCheck rfl rfl ?_)
 (refine Jx.fieldAddr rfl rfl ?_)
 (refine J.store rfl rfl (One.val hv') 2 rfl rfl rfl rfl ?_)
 (refine J.nil (N.seq (W.seq ?_)))
 (refine W.draw follows ?_)
 (refine JD.till (l := [_, _, _, _, _, _, ⟨none, .mapUpdate _ _ _ _, _, _, _, none⟩]) 6 (by decide +kernel) (by decide +kernel) rfl rfl ?_)
 (refine Cx.move rfl rfl ?_)
 (refine Cx.nilCheck rfl rfl ?_)
 (refine Cx.fieldAddr rfl rfl ?_)
 (refine Cx.load rfl 2 rfl rfl rfl ?_)
 (refine Cx.loadAll rfl 1 rfl rfl rfl ?_)
 (refine Cx.move rfl rfl ?_)
 (refine SegC.nil ?_)
 (refine J.mapUpdA ntV ntV_fit ntV_inj rfl rfl rfl rfl 3 rfl hlk rfl ?_)
 (refine J.nil (N.seq (W.seq (W.seq ?_))))
 (refine W.draw follows ?_)
 (refine JD.calm rfl (by decide +kernel) ?_)
 (refine Cx.move rfl rfl ?_)
 (refine Cx.nilCheck rfl rfl ?_)
 (refine Cx.fieldAddr rfl rfl ?_)
 (refine Cx.load rfl 2 rfl rfl rfl ?_)
 (refine Cx.fieldAddr rfl rfl ?_)
 (refine Cx.load rfl 1 rfl rfl rfl ?_)
 (refine Cx.lookupS rfl rfl 4 rfl rfl ?_; rw [hlk2])
 (refine Cx.move rfl rfl ?_)
 (refine Cx.extract rfl rfl rfl ?_)
 (refine Cx.extract rfl rfl rfl ?_)
 (refine Cx.assign rfl rfl ?_)
 (refine Cx.assign rfl rfl ?_)
 (refine SegC.nil ?_)
 (refine N.seq (W.seq (W.region (Jx.move rfl rfl (Jx.not rfl rfl (J.nil (N.seq (W.cF rfl ?_))))))))
 (refine W.seq (W.region (Jx.move rfl rfl (Jx.nilCheck rfl rfl ?_))))
 (refine Jx.fieldAddr rfl rfl ?_)
 (refine Jx.load rfl 2 rfl rfl rfl ?_)
 (refine Jx.lssI rfl rfl rfl (J.nil (N.seq (W.cF rfl ?_))))
 (refine W.skip (N.seq (W.seq (W.region (Jx.assign rfl rfl (J.nil (N.seq (W.ret ?_))))))))
 (refine id ?_; rotate_left))
    refine N.retD (rs := [.tmp 4]) rfl (.tmp rfl .nil) (.cons_cons _ (.cons _ (List.Sublist.refl _))) ⟨v', M ++ [(n, iV all.length)], K, rfl, ?_, hinv⟩
    simp only [logO, htw] <;> rfl
abbrev Nil0 (v : Value) (all : List Nt) : Prop := all = [] → v = .slice none 0 0
theorem put_ok (b : Nat) (v : Value) (mt mf : Nat) (all : List Nt) (M : List (Nt × Value)) (K : List (List UInt8 × Value)) (n : Nt) (hI : LogInv all M K) (hl : all.length < 1024) :
    FnC Tryd.prog 12 [ptr b, .agg (ntC n)] (logO b v mt mf all M K) (fun r L => ∃ v' M' K', r = int (putR all n).1 ∧ L = logO b v' mt mf (putR all n).2 M' K' ∧ LogInv (putR all n).2 M' K' ∧ (Nil0 v all → Nil0 v' (putR all n).2)) := by
  by_cases h1 : n.tag < 1
  · have e : putR all n = (1, all) := by simp [putR, h1]
    rw [e]
    exact (put_bad b v mt mf all M K n (.inl h1)).mono (by rintro _ _ ⟨rfl, rfl⟩; exact ⟨_, _, _, rfl, rfl, hI, id⟩)
  by_cases h2 : 255 < n.tag
  · have e : putR all n = (1, all) := by simp [putR, h1, h2]
    rw [e]
    exact (put_bad b v mt mf all M K n (.inr h2)).mono (by rintro _ _ ⟨rfl, rfl⟩; exact ⟨_, _, _, rfl, rfl, hI, id⟩)
  by_cases h3 : n.digest.length = 32
  · by_cases hn : n ∈ all
    · have e : putR all n = (0, all) := by simp [putR, h1, h2, h3, hn]
      rw [e]
      exact (put_there b v mt mf all M K n hI h1 h2 h3 hn).mono (by rintro _ _ ⟨rfl, rfl⟩; exact ⟨_, _, _, rfl, rfl, hI, id⟩)
    · have e : putR all n = (0, all ++ [n]) := by simp [putR, h1, h2, h3, hn]
      rw [e]
      cases hd : findD all n.digest with
      | none => exact (put_first b v mt mf all M K n hI h1 h2 h3 hn hl hd).mono (by rintro _ _ ⟨v', M', K', e1, e2, e3⟩; exact ⟨v', M', K', e1, e2, e3, fun _ h => by simp at h⟩)
      | some j => exact (put_again b v mt mf all M K n hI h1 h2 h3 hn hl j hd).mono (by rintro _ _ ⟨v', M', K', e1, e2, e3⟩; exact ⟨v', M', K', e1, e2, e3, fun _ h => by simp at h⟩)
  · have e : putR all n = (3, all) := by simp [putR, h1, h2, h3]
    rw [e]
    exact (put_form b v mt mf all M K n h1 h2 h3).mono (by rintro _ _ ⟨rfl, rfl⟩; exact ⟨_, _, _, rfl, rfl, hI, id⟩)
end Go.Proofs.YtafefapbiekmbaaDoor
namespace Go.Proofs.YtafefapbiekmbaaDoor
open Go Go.Sse
set_option linter.unusedVariables false
set_option linter.unusedSimpArgs false
set_option maxRecDepth 10000
theorem agNt : TAg Tryd.prog 28 3 := inferInstance
theorem find_none (b : Nat) (v : Value) (mt mf : Nat) (all : List Nt) (M : List (Nt × Value)) (K : List (List UInt8 × Value)) (s : List UInt8) (hI : LogInv all M K) (h : findD all s = none) :
    FnC Tryd.prog 14 [ptr b, str s] (logO b v mt mf all M K) (fun r L => r = .tup [.agg (ntC nt0), bool false] ∧ L = logO b v mt mf all M K) := by
  have hlk := hI.first s
  rw [h] at hlk
  refine FnC.intro Tryd.func14 rfl Tryd.ntmps14 rfl fun Z w0 hG => ?_
  focus (
 (refine W.seq (W.region ?_))
 (refine J.alloc (by simp only [List.map_cons, List.map_nil]; rfl) rfl rfl ?_; intro b')
 (refine Jx.assign rfl rfl (J.nil (N.seq (W.seq (W.region (Jx.move rfl rfl (Jx.nilCheck rfl rfl ?_)))))))
 (refine Jx.fieldAddr rfl rfl ?_)
 (refine Jx.load rfl 2 rfl rfl rfl ?_)
 (refine Jx.move rfl rfl ?_)
 (refine Jx.lookupS rfl rfl 4 rfl rfl ?_; rw [hlk])
 (refine Jx.move rfl rfl (Jx.extract rfl rfl rfl ?_))
 (refine Jx.extract rfl rfl rfl ?_)
 (refine Jx.assign rfl rfl (Jx.assign rfl rfl (J.nil (N.seq (W.seq (W.seq (W.region (Jx.move rfl rfl (Jx.not rfl rfl (J.nil (N.seq (W.cT rfl ?_))))))))))))
 (refine W.seq (W.region (Jx.buildB rfl rfl rfl rfl rfl ?_)))
 (refine J.storeAll rfl rfl rfl 0 rfl rfl rfl ?_)
 (refine Jx.assign rfl rfl (J.nil (N.seq (W.ret (N.noGotoRet ?_)))))
 (refine id ?_; rotate_left))
  exact N.retD (rs := [.cell 4 28, .tmp 5]) rfl (.cell rfl 0 rfl agNt (.tmp rfl .nil)) (List.sublist_cons_self _ _) ⟨rfl, rfl⟩
theorem find_some (b : Nat) (v : Value) (mt mf : Nat) (all : List Nt) (M : List (Nt × Value)) (K : List (List UInt8 × Value)) (s : List UInt8) (hI : LogInv all M K) (j : Nat) (h : findD all s = some j) :
    FnC Tryd.prog 14 [ptr b, str s] (logO b v mt mf all M K) (fun r L => r = .tup [.agg (ntC (all.getD j nt0)), bool true] ∧ L = logO b v mt mf all M K) := by
  have hlk := hI.first s
  rw [h] at hlk
  have hlt := (findP_some nt0 h).1
  refine FnC.intro Tryd.func14 rfl Tryd.ntmps14 rfl fun Z w0 hG => ?_
  refine W.rowView 0 rfl (by omega) ?_
  rintro r cap rfl hc1 hc2
  focus (
 (refine W.seq (W.region ?_))
 (refine J.alloc (by simp only [List.map_cons, List.map_nil]; rfl) rfl rfl ?_; intro b')
 (refine Jx.assign rfl rfl (J.nil (N.seq (W.seq (W.region (Jx.move rfl rfl (Jx.nilCheck rfl rfl ?_)))))))
 (refine Jx.fieldAddr rfl rfl ?_)
 (refine Jx.load rfl 2 rfl rfl rfl ?_)
 (refine Jx.move rfl rfl ?_)
 (refine Jx.lookupS rfl rfl 4 rfl rfl ?_; rw [hlk])
 (refine Jx.move rfl rfl (Jx.extract rfl rfl rfl ?_))
 (refine Jx.extract rfl rfl rfl ?_)
 (refine Jx.assign rfl rfl (Jx.assign rfl rfl (J.nil (N.seq (W.seq (W.seq (W.region (Jx.move rfl rfl (Jx.not rfl rfl (J.nil (N.seq (W.cF rfl ?_))))))))))))
 (refine W.skip (N.seq (W.seq (W.region (Jx.move rfl rfl (Jx.nilCheck rfl rfl ?_))))))
 (refine Jx.fieldAddr rfl rfl ?_)
 (refine Jx.load rfl 2 rfl rfl rfl ?_)
 (refine Jx.move rfl rfl ?_)
 (refine Jx.indexRow j rfl rfl rfl hlt rfl ?_)
 (refine Jx.loadRowAg rfl 1 rfl j rfl hlt (ds := ntC (all.getD j nt0)) rfl rfl ?_)
 (refine J.storeAll rfl rfl rfl 0 rfl rfl rfl ?_)
 (refine Jx.assign rfl rfl (J.nil (N.seq (W.ret ?_))))
 (refine id ?_; rotate_left))
  exact N.retD (rs := [.cell 4 28, .tmp 5]) rfl (.cell rfl 0 rfl agNt (.tmp rfl .nil)) (List.sublist_cons_self _ _) ⟨rfl, rfl⟩
def findR (all : List Nt) (s : List UInt8) : Nt × Bool := match findD all s with | some j => (all.getD j nt0, true) | none => (nt0, false)
theorem find_ok (b : Nat) (v : Value) (mt mf : Nat) (all : List Nt) (M : List (Nt × Value)) (K : List (List UInt8 × Value)) (s : List UInt8) (hI : LogInv all M K) :
    FnC Tryd.prog 14 [ptr b, str s] (logO b v mt mf all M K) (fun r L => r = .tup [.agg (ntC (findR all s).1), bool (findR all s).2] ∧ L = logO b v mt mf all M K) := by
  cases h : findD all s with
  | none => rw [show findR all s = (nt0, false) by simp [findR, h]]; exact find_none b v mt mf all M K s hI h
  | some j => rw [show findR all s = (all.getD j nt0, true) by simp only [findR, h]]; exact find_some b v mt mf all M K s hI j h
def clashR (all : List Nt) : Nt × Nt × Bool := match clashA all with
  | none => (nt0, nt0, false)
  | some i => ((findR all (all.getD i nt0).digest).1, all.getD i nt0, true)
theorem clash_ok (b : Nat) (v : Value) (mt mf : Nat) (all : List Nt) (M : List (Nt × Value)) (K : List (List UInt8 × Value)) (hI : LogInv all M K) :
    FnC Tryd.prog 10 [ptr b] (logO b v mt mf all M K) (fun r L => r = .tup [.agg (ntC (clashR all).1), .agg (ntC (clashR all).2.1), bool (clashR all).2.2] ∧ L = logO b v mt mf all M K) := by
  cases hc : clashA all with
  | none =>
    have htw0 : twI all = -1 := by simp [twI, hc]
    rw [show clashR all = (nt0, nt0, false) by simp [clashR, hc]]
    simp only [logO]
    rw [htw0]
    refine FnC.intro Tryd.func10 rfl Tryd.ntmps10 rfl fun Z w0 hG => ?_
    focus (
 (refine W.seq (W.region ?_))
 (refine J.alloc (by simp only [List.map_cons, List.map_nil]; rfl) rfl rfl ?_; intro b')
 (refine J.alloc (by simp only [List.map_cons, List.map_nil]; rfl) rfl rfl ?_; intro b')
 (refine Jx.assign rfl rfl (J.nil (N.seq (W.seq (W.seq (W.region (Jx.move rfl rfl (Jx.nilCheck rfl rfl ?_))))))))
 (refine Jx.fieldAddr rfl rfl ?_)
 (refine Jx.load rfl 3 rfl rfl rfl ?_)
 (refine Jx.lssI rfl rfl rfl (J.nil (N.seq (W.cT rfl ?_))))
 (refine W.seq (W.region (Jx.buildB rfl rfl rfl rfl rfl ?_)))
 (refine Jx.buildB rfl rfl rfl rfl rfl ?_)
 (refine J.storeAll rfl rfl rfl 1 rfl rfl rfl ?_)
 (refine J.storeAll rfl rfl rfl 0 rfl rfl rfl ?_)
 (refine Jx.assign rfl rfl (J.nil (N.seq (W.ret (N.noGotoRet ?_)))))
 (refine id ?_; rotate_left))
    exact N.retD (rs := [.cell 2 28, .cell 3 28, .tmp 4]) rfl (.cell rfl 1 rfl agNt (.cell rfl 0 rfl agNt (.tmp rfl .nil))) ((List.sublist_cons_self _ _).cons _) ⟨rfl, rfl⟩
  | some i =>
    obtain ⟨hlt, _⟩ := clashA_some hc
    have htw0 : twI all = (i : Int) := by simp [twI, hc]
    have hi0 : ¬ (i : Int) < 0 := by omega
    have cf := fun v => find_ok b v mt mf all M K (all.getD i nt0).digest hI
    rw [show clashR all = ((findR all (all.getD i nt0).digest).1, all.getD i nt0, true) by simp only [clashR, hc]]
    simp only [logO] at cf ⊢
    rw [htw0] at cf ⊢
    refine FnC.intro Tryd.func10 rfl Tryd.ntmps10 rfl fun Z w0 hG => ?_
    refine W.rowView 0 rfl (by omega) ?_
    rintro r cap rfl hc1 hc2
    generalize findR all (all.getD i nt0).digest = fr at *
    focus (
 (refine W.seq (W.region ?_))
 (refine J.alloc (by simp only [List.map_cons, List.map_nil]; rfl) rfl rfl ?_; intro b')
 (refine J.alloc (by simp only [List.map_cons, List.map_nil]; rfl) rfl rfl ?_; intro b')
 (refine Jx.assign rfl rfl (J.nil (N.seq (W.seq (W.seq (W.region (Jx.move rfl rfl (Jx.nilCheck rfl rfl ?_))))))))
 (refine Jx.fieldAddr rfl rfl ?_)
 (refine Jx.load rfl 3 rfl rfl rfl ?_)
 (refine Jx.lssI rfl rfl rfl (J.nil (N.seq (W.cF rfl ?_))))
 (refine W.skip (N.seq (W.seq ?_)))
 (refine W.draw follows ?_)
 (refine JD.upto (n := 10) rfl (by decide +kernel) (by decide +kernel) rfl rfl ?_)
 (refine Cx.move rfl rfl ?_)
 (refine Cx.nilCheck rfl rfl ?_)
 (refine Cx.fieldAddr rfl rfl ?_)
 (refine Cx.load rfl 3 rfl rfl rfl ?_)
 (refine Cx.move rfl rfl ?_)
 (refine Cx.nilCheck rfl rfl ?_)
 (refine Cx.fieldAddr rfl rfl ?_)
 (refine Cx.load rfl 3 rfl rfl rfl ?_)
 (refine Cx.indexRow i rfl rfl rfl hlt rfl ?_)
 (refine Cx.loadRowAg rfl 2 rfl i rfl hlt (ds := ntC (all.getD i nt0)) rfl rfl ?_)
 (refine SegC.nil ?_)
 (refine J.storeAll rfl rfl rfl 0 rfl rfl rfl ?_)
 (refine J.nil (N.seq (W.seq (W.region (Jx.move rfl rfl (Jx.fieldAddr rfl rfl ?_))))))
 (refine Jx.load rfl 0 rfl rfl rfl ?_)
 (refine J.perm (List.perm_append_comm (l₁ := [_, _]) (l₂ := [_, _, _, _])) ?_; refine J.call (cf _) rfl (evs_args rfl) rfl ?_; rintro _ _ ⟨rfl, rfl⟩; simp only [List.cons_append, List.nil_append])
 (refine Jx.move rfl rfl (Jx.extract rfl rfl rfl ?_))
 (refine Jx.extract rfl rfl rfl ?_)
 (refine J.storeAll rfl rfl rfl 5 rfl rfl rfl ?_)
 (refine J.nil (N.seq (W.seq ?_)))
 (refine W.draw follows ?_)
 (refine JD.begin 5 rfl ?_; refine JP.more [0, 1] _ rfl (by decide +kernel) ?_)
 (refine Cx.loadAll rfl 5 rfl rfl rfl ?_)
 (refine Cx.loadAll rfl 4 rfl rfl rfl ?_)
 (refine SegC.nil ?_)
 (refine JP.storeAll (idx := [0, 1]) 2 [2, 29] [0, 2] [1] (by decide +kernel) rfl ?_ rfl rfl rfl 5 rfl rfl rfl ?_)
 (refine Cx.loadAll rfl 5 rfl rfl rfl ?_)
 (refine Cx.loadAll rfl 4 rfl rfl rfl ?_)
 (refine SegC.nil ?_)
 (refine Ag.cons rfl ?_)
 (refine Ag.cons rfl ?_)
 (refine Ag.nil)
 (refine JP.storeAll (idx := [1]) 3 [3, 30] [0, 1, 2, 3] [] (by decide +kernel) rfl ?_ rfl rfl rfl 4 rfl rfl rfl ?_)
 (refine Cx.loadAll rfl 4 rfl rfl rfl ?_)
 (refine SegC.nil ?_)
 (refine Ag.cons rfl ?_)
 (refine Ag.nil)
 (refine JP.tail (idx := []) 4 (by decide +kernel) (by decide +kernel) rfl rfl ?_ ?_)
 (refine SegC.nil ?_)
 (refine Ag.nil)
 (refine Jx.assign rfl rfl (J.nil (N.seq (W.ret ?_))))
 (refine id ?_; rotate_left))
    exact N.retD (rs := [.cell 2 28, .cell 3 28, .tmp 4]) rfl (.cell rfl 5 rfl agNt (.cell rfl 4 rfl agNt (.tmp rfl .nil))) (List.sublist_append_left [_, _, _, _] _) ⟨rfl, rfl⟩
def dsumR (tag : Int) (s : List UInt8) : List UInt8 × Int := if tag < 1 then ([], 1) else if 255 < tag then ([], 1) else (sumD tag.toNat s, 0)
theorem dsumR_ok (tag : Int) (s : List UInt8) (hs : s.length ≤ 1073741824) : FnC Tryd.prog 17 [int tag, str s] [] (fun v L => v = .tup [str (dsumR tag s).1, int (dsumR tag s).2] ∧ L = []) := by
  by_cases h1 : tag < 1
  · rw [show dsumR tag s = ([], 1) by simp [dsumR, h1]]
    refine FnC.intro Tryd.func17 rfl Tryd.ntmps17 rfl fun Z w0 hG => ?_
    focus (
 (refine W.seq (W.region (Jx.assign rfl rfl (Jx.assign rfl rfl (J.nil (N.seq (W.seq (W.seq (W.region (Jx.move rfl rfl (Jx.lssI rfl rfl rfl (Jx.move rfl rfl (J.gN rfl rfl rfl rfl ?_)))))))))))))
 (refine J.gN rfl rfl rfl rfl ?_)
 (refine Jx.pT rfl rfl rfl ?_)
 (refine J.nil (N.seq (W.cT rfl ?_)))
 (refine W.seq (W.region (Jx.assign rfl rfl (Jx.assign rfl rfl (J.nil (N.seq (W.ret (N.noGotoRet ?_))))))))
 (refine id ?_; rotate_left))
    exact N.ret (rs := [.tmp 4, .tmp 5]) rfl (.tmp rfl (.tmp rfl .nil)) ⟨rfl, rfl⟩
  by_cases h2 : 255 < tag
  · rw [show dsumR tag s = ([], 1) by simp [dsumR, h1, h2]]
    refine FnC.intro Tryd.func17 rfl Tryd.ntmps17 rfl fun Z w0 hG => ?_
    focus (
 (refine W.seq (W.region (Jx.assign rfl rfl (Jx.assign rfl rfl (J.nil (N.seq (W.seq (W.seq (W.region (Jx.move rfl rfl (Jx.lssI rfl rfl rfl (Jx.move rfl rfl (J.gY rfl rfl rfl ?_)))))))))))))
 (refine Jx.move rfl rfl (J.gY rfl rfl rfl ?_))
 (refine Jx.gtrI rfl rfl rfl (Jx.pF rfl rfl rfl ?_))
 (refine J.nil (N.seq (W.cT rfl ?_)))
 (refine W.seq (W.region (Jx.assign rfl rfl (Jx.assign rfl rfl (J.nil (N.seq (W.ret (N.noGotoRet ?_))))))))
 (refine id ?_; rotate_left))
    exact N.ret (rs := [.tmp 4, .tmp 5]) rfl (.tmp rfl (.tmp rfl .nil)) ⟨rfl, rfl⟩
  · obtain ⟨m, rfl⟩ : ∃ m : Nat, tag = m := ⟨tag.toNat, by omega⟩
    rw [show dsumR m s = (sumD m s, 0) by simp only [dsumR, h1, h2, if_false]; rfl]
    exact dsum_ok m s (by omega) (by omega) hs
end Go.Proofs.YtafefapbiekmbaaDoor
namespace Go.Proofs.YtafefapbiekmbaaDoor
open Go Go.Sse
set_option linter.unusedVariables false
set_option linter.unusedSimpArgs false
set_option maxRecDepth 10000
theorem putR_yes {all : List Nt} {n : Nt} (h : (putR all n).1 = 0) : (1 ≤ n.tag ∧ n.tag ≤ 255 ∧ n.digest.length = 32) ∧ (putR all n).2 = if n ∈ all then all else all ++ [n] := by
  unfold putR at h ⊢
  by_cases h1 : n.tag < 1
  · simp [h1] at h
  by_cases h2 : 255 < n.tag
  · simp [h1, h2] at h
  by_cases h3 : n.digest.length = 32
  · refine ⟨⟨by omega, by omega, h3⟩, ?_⟩
    by_cases h4 : n ∈ all <;> simp [h1, h2, h3, h4]
  · simp [h1, h2, h3] at h
theorem putR_no {all : List Nt} {n : Nt} (h : (putR all n).1 ≠ 0) : (putR all n).2 = all := by
  unfold putR at h ⊢
  by_cases h1 : n.tag < 1
  · simp [h1]
  by_cases h2 : 255 < n.tag
  · simp [h1, h2]
  by_cases h3 : n.digest.length = 32
  · by_cases h4 : n ∈ all <;> simp [h1, h2, h3, h4] at h
  · simp [h1, h2, h3]
structure Filled (all inn : List Nt) (i : Nat) : Prop where
  le : all.length ≤ inn.length
  top : inn.length ≤ i
  mem : ∀ x, x ∈ all ↔ x ∈ inn
  fine : ∀ x, x ∈ all → 1 ≤ x.tag ∧ x.tag ≤ 255 ∧ x.digest.length = 32
end Go.Proofs.YtafefapbiekmbaaDoor
namespace Go.Proofs.YtafefapbiekmbaaDoor
open Go Go.Sse
set_option linter.unusedVariables false
set_option linter.unusedSimpArgs false
set_option maxRecDepth 10000
set_option maxHeartbeats 2000000 in
theorem dworks_ok : FnC Tryd.prog 8 [] [] (fun r L => r = bool true ∧ L = []) := by
  have hl := sumD_len 1 [97, 98]
  have c1 := dsumR_ok 1 [97, 98] (by decide)
  rw [show dsumR 1 [97, 98] = (sumD 1 [97, 98], 0) by simp [dsumR]] at c1
  have c2 := dsumR_ok 0 [97, 98] (by decide)
  rw [show dsumR 0 [97, 98] = ([], 1) by simp [dsumR]] at c2
  have c3 := Sha.hsum_ok [97, 110, 121] (by decide)
  have c4 := Sha.hsum_ok [1, 97, 98] (by decide)
  rw [show Sha.shaS [1, 97, 98] = sumD 1 [97, 98] from congrArg Sha.shaS (show ([1, 97, 98] : List UInt8) = [UInt8.ofNat 1] ++ [97, 98] from rfl)] at c4
  have hs := Sha.shaS_len [97, 110, 121]
  generalize Sha.shaS [97, 110, 121] = sm at *
  generalize sumD 1 [97, 98] = s1 at *
  have hlz : (s1.length : Int) = 32 := by omega
  have e1 : putR [] ⟨1, [120], sm⟩ = (0, [⟨1, [120], sm⟩]) := by simp [putR, hs]
  have e2 : putR [⟨1, [120], sm⟩] ⟨2, [120], sm⟩ = (0, [⟨1, [120], sm⟩, ⟨2, [120], sm⟩]) := by simp [putR, hs]
  have p1 := fun b v mt mf M K h => put_ok b v mt mf [] M K ⟨1, [120], sm⟩ h (by decide)
  rw [e1] at p1
  have p2 := fun b v mt mf M K h => put_ok b v mt mf [⟨1, [120], sm⟩] M K ⟨2, [120], sm⟩ h (by simp)
  rw [e2] at p2
  have e3 : clashR [⟨1, [120], sm⟩, ⟨2, [120], sm⟩] = (⟨1, [120], sm⟩, ⟨2, [120], sm⟩, true) := by simp [clashR, clashA, clashI, findR, findD, findP]
  have p3 := fun b v mt mf M K h => clash_ok b v mt mf [⟨1, [120], sm⟩, ⟨2, [120], sm⟩] M K h
  rw [e3] at p3
  refine FnC.intro Tryd.func8 rfl Tryd.ntmps8 rfl fun Z w0 hG => ?_
  focus (
 (refine W.seq (W.region (Jx.assign rfl rfl (J.nil (N.seq (W.seq (W.region ?_)))))))
 (refine J.call (c1) rfl (evs_args rfl) rfl ?_; rintro _ _ ⟨rfl, rfl⟩; simp only [la1, la2, la3])
 (refine Jx.move rfl rfl (Jx.extract rfl rfl rfl ?_))
 (refine Jx.extract rfl rfl rfl ?_)
 (refine Jx.assign rfl rfl (Jx.assign rfl rfl (J.nil (N.seq (W.seq (W.region ?_))))))
 (refine J.call (c2) rfl (evs_args rfl) rfl ?_; rintro _ _ ⟨rfl, rfl⟩; simp only [la1, la2, la3])
 (refine Jx.move rfl rfl (Jx.extract rfl rfl rfl ?_))
 (refine Jx.extract rfl rfl rfl ?_)
 (refine Jx.assign rfl rfl (Jx.assign rfl rfl (J.nil (N.seq (W.seq (W.region ?_))))))
 (refine J.call (newLog_ok) rfl (evs_args rfl) rfl ?_; rintro _ _ ⟨b, mt, mf, rfl, rfl⟩; simp only [la1, la2, la3])
 (refine Jx.assign rfl rfl (J.nil (N.seq (W.seq (W.seq (W.region (Jx.move rfl rfl (Jx.eqlNil rfl rfl ?_))))))))
 (refine J.nil (N.seq (W.cF rfl ?_)))
 (refine W.skip (N.seq (W.seq (W.region ?_))))
 (refine J.call (c3) rfl (evs_args rfl) rfl ?_; rintro _ _ ⟨rfl, rfl⟩; simp only [la1, la2, la3])
 (refine Jx.assign rfl rfl (J.nil (N.seq (W.seq (W.region (Jx.move rfl rfl (Jx.move rfl rfl (Jx.buildB rfl rfl rfl rfl rfl ?_))))))))
 (refine J.call ((p1 b (.slice none 0 0) mt mf [] [] inv_nil)) rfl (evs_args rfl) rfl ?_; rintro _ _ ⟨v1, M1, K1, rfl, rfl, hI1, _⟩; simp only [la1, la2, la3])
 (refine Jx.assign rfl rfl (J.nil (N.seq (W.seq (W.region (Jx.move rfl rfl (Jx.move rfl rfl (Jx.buildB rfl rfl rfl rfl rfl ?_))))))))
 (refine J.call ((p2 b v1 mt mf M1 K1 hI1)) rfl (evs_args rfl) rfl ?_; rintro _ _ ⟨v2, M2, K2, rfl, rfl, hI2, _⟩; simp only [la1, la2, la3])
 (refine Jx.assign rfl rfl (J.nil (N.seq (W.seq (W.region (Jx.move rfl rfl ?_))))))
 (refine J.call ((p3 b v2 mt mf M2 K2 hI2)) rfl (evs_args rfl) rfl ?_; rintro _ _ ⟨rfl, rfl⟩; simp only [la1, la2, la3])
 (refine Jx.move rfl rfl (Jx.extract rfl rfl rfl ?_))
 (refine Jx.extract rfl rfl rfl ?_)
 (refine Jx.extract rfl rfl rfl ?_)
 (refine J.alloc (by simp only [List.map_cons, List.map_nil]; rfl) rfl rfl ?_; intro b')
 (refine J.alloc (by simp only [List.map_cons, List.map_nil]; rfl) rfl rfl ?_; intro b')
 (refine J.storeAll rfl rfl rfl 1 rfl rfl rfl ?_)
 (refine J.storeAll rfl rfl rfl 0 rfl rfl rfl ?_)
 (refine Jx.assign rfl rfl (J.nil (N.seq (W.seq (W.region (Jx.move rfl rfl ?_))))))
 (refine J.call (c4) rfl (evs_args rfl) rfl ?_; rintro _ _ ⟨rfl, rfl⟩; simp only [la1, la2, la3])
 (refine Jx.eqlS rfl rfl rfl (Jx.move rfl rfl (J.gY rfl rfl rfl ?_)))
 (refine Jx.move rfl rfl (J.gY rfl rfl rfl ?_))
 (refine Jx.lenS rfl rfl ?_)
 (refine J.gY rfl rfl rfl ?_)
 (refine Jx.eqlI rfl rfl rfl (Jx.pT rfl rfl rfl ?_))
 (refine Jx.move rfl rfl (J.gY rfl rfl rfl ?_))
 (refine Jx.move rfl rfl (J.gY rfl rfl rfl ?_))
 (refine Jx.eqlI rfl rfl rfl (Jx.pT rfl rfl rfl ?_))
 (refine Jx.move rfl rfl (J.gY rfl rfl rfl ?_))
 (refine Jx.move rfl rfl (J.gY rfl rfl rfl ?_))
 (refine Jx.eqlI rfl rfl rfl (Jx.pT rfl rfl rfl ?_))
 (refine Jx.move rfl rfl (J.gY rfl rfl rfl ?_))
 (refine Jx.move rfl rfl (J.gY rfl rfl rfl ?_))
 (refine Jx.eqlI rfl rfl rfl (Jx.pT rfl rfl rfl ?_))
 (refine Jx.move rfl rfl (J.gY rfl rfl rfl ?_))
 (refine Jx.move rfl rfl (J.gY rfl rfl rfl ?_))
 (refine Jx.eqlI rfl rfl rfl (Jx.pT rfl rfl rfl ?_))
 (refine Jx.move rfl rfl (J.gY rfl rfl rfl ?_))
 (refine Jx.move rfl rfl (Jx.pT rfl rfl rfl ?_))
 (refine Jx.move rfl rfl (J.gY rfl rfl rfl ?_))
 (refine Jx.fieldAddr rfl rfl ?_)
 (refine J.gY rfl rfl rfl ?_)
 (refine Jx.load rfl 1 rfl rfl rfl ?_)
 (refine J.gY rfl rfl rfl ?_)
 (refine Jx.eqlI rfl rfl rfl (Jx.pT rfl rfl rfl ?_))
 (refine Jx.move rfl rfl (J.gY rfl rfl rfl ?_))
 (refine Jx.fieldAddr rfl rfl ?_)
 (refine J.gY rfl rfl rfl ?_)
 (refine Jx.load rfl 0 rfl rfl rfl ?_)
 (refine J.gY rfl rfl rfl ?_)
 (refine Jx.eqlI rfl rfl rfl (Jx.pT rfl rfl rfl ?_))
 (refine Jx.assign rfl rfl (J.nil (N.seq (W.ret ?_))))
 (refine id ?_; rotate_left))
  exact N.retD (rs := [.tmp 0]) (L1 := []) rfl (.tmp rfl .nil) (List.nil_sublist _) ⟨rfl, rfl⟩
end Go.Proofs.YtafefapbiekmbaaDoor
namespace Go.Proofs.YtafefapbiekmbaaDoor
open Go Go.Sse
set_option linter.unusedVariables false
set_option linter.unusedSimpArgs false
set_option maxRecDepth 10000
abbrev ntL (l : List Nt) : SV := .sl 3 l.length (elOf ntC nt0 l)
theorem nt_ne {a b : Nt} (h : a ≠ b) : (false = true ↔ ntV a = ntV b) := ⟨fun h => (by cases h), fun e => absurd (ntV_inj _ _ e) h⟩
end Go.Proofs.YtafefapbiekmbaaDoor
namespace Go.Proofs.YtafefapbiekmbaaDoor
open Go Go.Sse Go.ChangeShapes Go.WideShapes Go.ChangeAt Go.RowKit
set_option linter.unusedVariables false
set_option linter.unusedSimpArgs false
set_option maxRecDepth 100000
noncomputable def rdNt : Rd Tryd.prog 28 Nt :=
  rdIso (Rd.struct (tos := [(3, 0), (9, 1), (9, 2)]) (by kernel_rfl) (Fds.cons rdInt (Fds.cons rdStr (Fds.cons rdStr Fds.nil))) (by kernel_rfl)) (fun x => ⟨x.1, x.2.1, x.2.2.1⟩) (fun m => (m.tag, m.text, m.digest, ())) (fun _ => rfl) ntC (fun _ => rfl) (fun _ => rfl)
end Go.Proofs.YtafefapbiekmbaaDoor
namespace Go.Proofs.YtafefapbiekmbaaDoor
open Go Go.Sse
set_option linter.unusedVariables false
set_option linter.unusedSimpArgs false
set_option maxRecDepth 10000
theorem clone_ok (v : Value) (all : List Nt) (hN : Nil0 v all) (hl : all.length ≤ 1024) : FnC Tryd.prog 24 [.val v] [.row v tNt 3 all.length (elOf ntC nt0 all)]
    (fun r L => ∃ u, r = .val u ∧ L = [.row u tNt 3 all.length (elOf ntC nt0 all), .row v tNt 3 all.length (elOf ntC nt0 all)]) := by
  by_cases he : all = []
  · subst he
    obtain rfl := hN rfl
    refine FnC.intro Tryd.func24 rfl Tryd.ntmps24 rfl fun Z w0 hG => ?_
    focus (
 (refine W.seq (W.region (Jx.assign rfl rfl (J.nil (N.seq (W.seq (W.seq (W.region (Jx.move rfl rfl (Jx.eqlNilSl rfl rfl ?_))))))))))
 (refine J.nil (N.seq (W.cT rfl ?_)))
 (refine W.seq (W.region (Jx.assign rfl rfl (J.nil (N.seq (W.ret (N.noGotoRet ?_)))))))
 (refine id ?_; rotate_left))
    refine N.rowNil tNt 3 (elOf ntC nt0 []) ?_
    exact N.ret (rs := [.tmp 2]) rfl (.tmp rfl .nil) ⟨_, rfl, rfl⟩
  · have hpos : 0 < all.length := List.length_pos_iff.2 he
    have hmx : all.length ≤ maxLen ∧ all.length * 40 ≤ 140737488355328 := by simp only [maxLen]; omega
    refine FnC.intro Tryd.func24 rfl Tryd.ntmps24 rfl fun Z w0 hG => ?_
    refine W.rowView 0 rfl hpos ?_
    rintro r cap rfl hc1 hc2
    focus (
 (refine W.seq (W.region (Jx.assign rfl rfl (J.nil (N.seq (W.seq (W.seq (W.region (Jx.move rfl rfl (Jx.eqlNilSl rfl rfl ?_))))))))))
 (refine J.nil (N.seq (W.cF rfl ?_)))
 (refine W.skip (N.seq (W.seq (W.region (J.qs (Qs.buildNone (elOf ntC nt0 [])) rfl ?_)))))
 (refine Jx.move rfl rfl ?_)
 (refine J.appendZ (l := all) (enc := ntC) (dd := nt0) rfl (SrcOK.row rfl 0 rfl) rfl rfl hmx hpos rfl ?_; intro u hu)
 (refine Jx.assign rfl rfl (J.nil (N.seq (W.ret ?_))))
 (refine id ?_; rotate_left))
    exact N.ret (rs := [.tmp 2]) rfl (.tmp rfl .nil) ⟨_, rfl, rfl⟩
theorem all_ok (b : Nat) (v : Value) (mt mf : Nat) (all : List Nt) (M : List (Nt × Value)) (K : List (List UInt8 × Value)) (hN : Nil0 v all) (hl : all.length ≤ 1024) :
    FnC Tryd.prog 11 [ptr b] (logO b v mt mf all M K) (fun r L => ∃ u, r = .val u ∧ L = .row u tNt 3 all.length (elOf ntC nt0 all) :: logO b v mt mf all M K) := by
  have c := clone_ok v all hN hl
  refine FnC.intro Tryd.func11 rfl Tryd.ntmps11 rfl fun Z w0 hG => ?_
  focus (
 (refine W.seq (W.region (Jx.assign rfl rfl (J.nil (N.seq (W.seq (W.region (Jx.move rfl rfl (Jx.nilCheck rfl rfl ?_)))))))))
 (refine Jx.fieldAddr rfl rfl ?_)
 (refine Jx.load rfl 1 rfl rfl rfl ?_)
 (refine J.call (c) rfl (evs_args rfl) rfl ?_; rintro _ _ ⟨u, rfl, rfl⟩; simp only [la1, la2, la3])
 (refine Jx.assign rfl rfl (J.nil (N.seq (W.ret ?_))))
 (refine id ?_; rotate_left))
  exact N.ret (rs := [.tmp 2]) rfl (.tmp rfl .nil) ⟨_, rfl, rfl⟩
theorem putR_own (all : List Nt) (m : Nat) (s : List UInt8) (h1 : 1 ≤ m) (h2 : m ≤ 255) : (putR all ⟨m, s, sumD m s⟩).1 = 0 := by
  have h3 := sumD_len m s
  by_cases h : (⟨m, s, sumD m s⟩ : Nt) ∈ all <;> simp [putR, h3, h, show ¬ (m : Int) < 1 by omega, show ¬ (255 : Int) < (m : Int) by omega]
theorem note_ok (b : Nat) (v : Value) (mt mf : Nat) (all : List Nt) (M : List (Nt × Value)) (K : List (List UInt8 × Value)) (hI : LogInv all M K) (hl : all.length < 1024) (m : Nat) (s : List UInt8) (h1 : 1 ≤ m) (h2 : m ≤ 255) (hs : s.length ≤ 1073741824) :
    FnC Tryd.prog 15 [ptr b, int (m : Int), str s] (logO b v mt mf all M K) (fun r L => ∃ v' M' K', r = .tup [str (sumD m s), int 0] ∧ L = logO b v' mt mf (putR all ⟨m, s, sumD m s⟩).2 M' K' ∧ LogInv (putR all ⟨m, s, sumD m s⟩).2 M' K' ∧ (Nil0 v all → Nil0 v' (putR all ⟨m, s, sumD m s⟩).2)) := by
  have c1 := dsum_ok m s h1 h2 hs
  have c2 := put_ok b v mt mf all M K ⟨m, s, sumD m s⟩ hI hl
  rw [putR_own all m s h1 h2] at c2
  generalize (putR all ⟨m, s, sumD m s⟩).2 = all2 at *
  generalize sumD m s = w at *
  refine FnC.intro Tryd.func15 rfl Tryd.ntmps15 rfl fun Z w0 hG => ?_
  focus (
 (refine W.seq (W.region (Jx.assign rfl rfl (Jx.assign rfl rfl (J.nil (N.seq (W.seq (W.region (Jx.move rfl rfl (Jx.move rfl rfl ?_))))))))))
 (refine J.call (c1) rfl (evs_args rfl) rfl ?_; rintro _ _ ⟨rfl, rfl⟩; simp only [la1, la2, la3])
 (refine Jx.move rfl rfl (Jx.extract rfl rfl rfl ?_))
 (refine Jx.extract rfl rfl rfl ?_)
 (refine Jx.assign rfl rfl (Jx.assign rfl rfl (J.nil (N.seq (W.seq (W.seq (W.region (Jx.move rfl rfl (Jx.eqlI rfl rfl rfl (J.nil (N.seq (W.cT rfl ?_))))))))))))
 (refine W.region (Jx.move rfl rfl (Jx.move rfl rfl (Jx.move rfl rfl (Jx.move rfl rfl (Jx.buildB rfl rfl rfl rfl rfl ?_))))))
 (refine J.call (c2) rfl (evs_args rfl) rfl ?_; rintro _ _ ⟨v', M', K', rfl, rfl, hI', hN'⟩; simp only [la1, la2, la3])
 (refine Jx.assign rfl rfl (J.nil (N.seq (W.seq (W.seq (W.region (Jx.move rfl rfl (Jx.neqI rfl rfl rfl (J.nil (N.seq (W.cF rfl ?_)))))))))))
 (refine W.skip (N.seq (W.seq (W.region (Jx.move rfl rfl (Jx.assign rfl rfl (Jx.assign rfl rfl (J.nil (N.seq (W.ret ?_))))))))))
 (refine id ?_; rotate_left))
  exact N.ret (rs := [.tmp 6, .tmp 7]) rfl (.tmp rfl (.tmp rfl .nil)) ⟨_, _, _, rfl, rfl, hI', hN'⟩
end Go.Proofs.YtafefapbiekmbaaDoor
namespace Go.Proofs.YtafefapbiekmbaaDoor
open Go Go.Sse
set_option linter.unusedVariables false
set_option linter.unusedSimpArgs false
set_option maxRecDepth 10000
end Go.Proofs.YtafefapbiekmbaaDoor
namespace Go.Proofs.YtafefapbiekmbaaDoor
open Go Go.Sse
set_option linter.unusedVariables false
set_option linter.unusedSimpArgs false
set_option maxRecDepth 10000
set_option maxHeartbeats 4000000 in
theorem rput_ok (all : List Nt) (n : Nt) (hl : all.length < 1024) : FnC Tryd.prog 22 [ntL all, .agg (ntC n)] [] (fun r L => r = .tup [ntL (putR all n).2, int (putR all n).1] ∧ L = []) := by
  refine FnC.intro Tryd.func22 rfl Tryd.ntmps22 rfl fun Z w0 hG => ?_
  by_cases h1 : n.tag < 1
  · rw [show putR all n = (1, all) by simp [putR, h1]]
    focus (
 (refine W.seq (W.region ?_))
 (refine J.boxAg rfl rfl ?_; intro b')
 (refine Jx.assign rfl rfl (Jx.assign rfl rfl (J.nil (N.seq (W.seq (W.seq (W.region (Jx.fieldAddr rfl rfl ?_))))))))
 (refine Jx.load rfl 0 rfl rfl rfl ?_)
 (refine Jx.lssI rfl rfl rfl (Jx.move rfl rfl (J.gN rfl rfl rfl rfl ?_)))
 (refine J.gN rfl rfl rfl rfl ?_)
 (refine J.gN rfl rfl rfl rfl ?_)
 (refine Jx.pT rfl rfl rfl ?_)
 (refine J.nil (N.seq (W.cT rfl ?_)))
 (refine W.seq (W.region (Jx.move rfl rfl (Jx.assign rfl rfl (Jx.assign rfl rfl (J.nil (N.seq (W.ret (N.noGotoRet ?_)))))))))
 (refine id ?_; rotate_left))
    exact N.retD (rs := [.tmp 4, .tmp 5]) (L1 := []) rfl (.tmp rfl (.tmp rfl .nil)) (List.nil_sublist _) ⟨rfl, rfl⟩
  by_cases h2 : 255 < n.tag
  · rw [show putR all n = (1, all) by simp [putR, h1, h2]]
    focus (
 (refine W.seq (W.region ?_))
 (refine J.boxAg rfl rfl ?_; intro b')
 (refine Jx.assign rfl rfl (Jx.assign rfl rfl (J.nil (N.seq (W.seq (W.seq (W.region (Jx.fieldAddr rfl rfl ?_))))))))
 (refine Jx.load rfl 0 rfl rfl rfl ?_)
 (refine Jx.lssI rfl rfl rfl (Jx.move rfl rfl (J.gY rfl rfl rfl ?_)))
 (refine Jx.fieldAddr rfl rfl ?_)
 (refine J.gY rfl rfl rfl ?_)
 (refine Jx.load rfl 0 rfl rfl rfl ?_)
 (refine J.gY rfl rfl rfl ?_)
 (refine Jx.gtrI rfl rfl rfl (Jx.pF rfl rfl rfl ?_))
 (refine J.nil (N.seq (W.cT rfl ?_)))
 (refine W.seq (W.region (Jx.move rfl rfl (Jx.assign rfl rfl (Jx.assign rfl rfl (J.nil (N.seq (W.ret (N.noGotoRet ?_)))))))))
 (refine id ?_; rotate_left))
    exact N.retD (rs := [.tmp 4, .tmp 5]) (L1 := []) rfl (.tmp rfl (.tmp rfl .nil)) (List.nil_sublist _) ⟨rfl, rfl⟩
  by_cases h3 : n.digest.length = 32
  · have h3' : (n.digest.length : Int) = 32 := by omega
    focus (
 (refine W.seq (W.region ?_))
 (refine J.boxAg rfl rfl ?_; intro b')
 (refine Jx.assign rfl rfl (Jx.assign rfl rfl (J.nil (N.seq (W.seq (W.seq (W.region (Jx.fieldAddr rfl rfl ?_))))))))
 (refine Jx.load rfl 0 rfl rfl rfl ?_)
 (refine Jx.lssI rfl rfl rfl (Jx.move rfl rfl (J.gY rfl rfl rfl ?_)))
 (refine Jx.fieldAddr rfl rfl ?_)
 (refine J.gY rfl rfl rfl ?_)
 (refine Jx.load rfl 0 rfl rfl rfl ?_)
 (refine J.gY rfl rfl rfl ?_)
 (refine Jx.gtrI rfl rfl rfl (Jx.pF rfl rfl rfl ?_))
 (refine J.nil (N.seq (W.cF rfl ?_)))
 (refine W.skip (N.seq (W.seq (W.seq (W.region (Jx.fieldAddr rfl rfl ?_))))))
 (refine Jx.load rfl 0 rfl rfl rfl ?_)
 (refine Jx.lenS rfl rfl ?_)
 (refine Jx.neqI rfl rfl rfl (J.nil (N.seq (W.cF rfl ?_))))
 (refine W.skip (N.seq (W.seq (W.seq (W.region (Jx.assign rfl rfl (J.nil (N.seq (W.block ?_)))))))))
 (refine id ?_; rotate_left))
    refine W.loop (α := Nat) (fun i => [(6, int (i : Int)), (0, ntL all), (3, ptr b')]) (fun _ => [.obj b' tNt (ntC n)]) (fun i => i ≤ all.length ∧ ∀ k, k < i → all.getD k nt0 ≠ n) (fun i => all.length - i) 0 ⟨by simp, by simp⟩ rfl ⟨ref0 rfl, ref0 rfl, ref0 rfl, trivial⟩ ?_
    rintro i ⟨hi, hno⟩
    by_cases h4 : i < all.length
    · by_cases he : all.getD i nt0 = n
      · have hm : n ∈ all := he ▸ getD_mem' h4
        rw [show putR all n = (0, all) by simp [putR, h1, h2, h3, hm]]
        focus (
 (refine W.seq (W.seq (W.region (Jx.move rfl rfl (Jx.move rfl rfl (Jx.lenSl rfl rfl ?_))))))
 (refine Jx.lssI rfl rfl rfl (J.nil (N.seq (W.cT rfl ?_))))
 (refine W.skip (N.seq (W.seq (W.block (W.seq ?_)))))
 (refine W.draw follows ?_)
 (refine JD.calm rfl (by decide +kernel) ?_)
 (refine Cx.move rfl rfl ?_)
 (refine Cx.move rfl rfl ?_)
 (refine Cx.indexEl rfl rfl (by assumption) rfl rfl ?_)
 (refine Cx.loadPPall rfl rfl rfl ?_)
 (refine Cx.loadAll rfl 0 rfl rfl rfl ?_)
 (refine Cx.eqlAg true rfl rfl rfl rfl rfl rfl ⟨fun _ => congrArg ntV he, fun _ => rfl⟩ rfl ?_)
 (refine SegC.nil ?_)
 (refine N.seq (W.cT rfl ?_))
 (refine W.seq (W.region (Jx.move rfl rfl (Jx.assign rfl rfl (Jx.assign rfl rfl (J.nil (N.seq (W.ret (N.noGotoRet (N.noGotoRet (N.noGotoRet (N.noGotoRet (N.noGotoRet ?_)))))))))))))
 (refine id ?_; rotate_left))
        exact N.retD (rs := [.tmp 4, .tmp 5]) (L1 := []) rfl (.tmp rfl (.tmp rfl .nil)) (List.nil_sublist _) ⟨rfl, rfl⟩
      · focus (
 (refine W.seq (W.seq (W.region (Jx.move rfl rfl (Jx.move rfl rfl (Jx.lenSl rfl rfl ?_))))))
 (refine Jx.lssI rfl rfl rfl (J.nil (N.seq (W.cT rfl ?_))))
 (refine W.skip (N.seq (W.seq (W.block (W.seq ?_)))))
 (refine W.draw follows ?_)
 (refine JD.calm rfl (by decide +kernel) ?_)
 (refine Cx.move rfl rfl ?_)
 (refine Cx.move rfl rfl ?_)
 (refine Cx.indexEl rfl rfl (by assumption) rfl rfl ?_)
 (refine Cx.loadPPall rfl rfl rfl ?_)
 (refine Cx.loadAll rfl 0 rfl rfl rfl ?_)
 (refine Cx.eqlAg false rfl rfl rfl rfl rfl rfl (nt_ne he) rfl ?_)
 (refine SegC.nil ?_)
 (refine N.seq (W.cF rfl ?_))
 (refine W.skip (N.seq (W.region (Jx.move rfl rfl (Jx.add64 rfl rfl (by omega) rfl ?_)))))
 (refine Jx.assign rfl rfl (J.nil ?_))
 (refine id ?_; rotate_left))
        refine N.round (i + 1) ⟨h4, fun k hk => ?_⟩ (by omega) rfl ⟨ref0 rfl, ref0 rfl, ref0 rfl, trivial⟩
        rcases Nat.lt_or_ge k i with h | h
        · exact hno k h
        · obtain rfl : k = i := by omega
          exact he
    · have hm : n ∉ all := fun hm => by
        obtain ⟨k, hk, he⟩ := List.getElem_of_mem hm
        exact hno k (by omega) (by simp [List.getD_eq_getElem?_getD, hk, he])
      rw [show putR all n = (0, all ++ [n]) by simp [putR, h1, h2, h3, hm]]
      have hge : ¬ (1024 : Int) ≤ (all.length : Int) := by omega
      have hm1 : ([] : List Nt).length + all.length ≤ maxLen ∧ (([] : List Nt).length + all.length) * 40 ≤ 140737488355328 := by simp only [maxLen, List.length_nil]; omega
      have hm2 : all.length + [n].length ≤ maxLen ∧ (all.length + [n].length) * 40 ≤ 140737488355328 := by simp only [maxLen, List.length_cons, List.length_nil]; omega
      focus (
 (refine W.seq (W.seq (W.region (Jx.move rfl rfl (Jx.move rfl rfl (Jx.lenSl rfl rfl ?_))))))
 (refine Jx.lssI rfl rfl rfl (J.nil (N.seq (W.cF rfl ?_))))
 (refine W.exit (N.seq (W.seq (W.seq (W.region (Jx.move rfl rfl (Jx.lenSl rfl rfl ?_)))))))
 (refine Jx.geqI rfl rfl rfl (J.nil (N.seq (W.cF rfl ?_))))
 (refine W.skip (N.seq (W.seq (W.region (Jx.assign rfl rfl (J.nil (N.seq (W.seq (W.region (Jx.move rfl rfl (Jx.move rfl rfl ?_)))))))))))
 (refine J.rowNil tNt 3 (elOf ntC nt0 []) ?_; refine J.appendAt (l := []) (l2 := all) 0 rfl rfl (SrcOK.sl rfl) rfl rfl hm1 rfl ?_; intro v1 hv1; simp only [List.nil_append, List.set_cons_zero])
 (refine Jx.assign rfl rfl (J.nil (N.seq (W.seq (W.region (Jx.move rfl rfl (Jx.loadAll rfl 1 rfl rfl rfl ?_)))))))
 (refine J.qs (Qs.buildOne ntC nt0 n rfl rfl rfl rfl rfl rfl rfl) rfl ?_)
 (refine J.appendAt (l := all) (l2 := [n]) 0 rfl rfl (SrcOK.sl rfl) rfl rfl hm2 rfl ?_; intro v2 hv2)
 (refine Jx.assign rfl rfl (Jx.assign rfl rfl (J.nil (N.seq (W.ret ?_)))))
 (refine id ?_; rotate_left))
      refine N.freeze 4 rfl (by simp only [maxLen, List.length_append, List.length_cons, List.length_nil]; omega) ?_
      exact N.retD (rs := [.tmp 4, .tmp 5]) (L1 := []) rfl (.tmp rfl (.tmp rfl .nil)) (List.nil_sublist _) ⟨rfl, rfl⟩
  · have h3' : ¬ (n.digest.length : Int) = 32 := by omega
    rw [show putR all n = (3, all) by simp [putR, h1, h2, h3]]
    focus (
 (refine W.seq (W.region ?_))
 (refine J.boxAg rfl rfl ?_; intro b')
 (refine Jx.assign rfl rfl (Jx.assign rfl rfl (J.nil (N.seq (W.seq (W.seq (W.region (Jx.fieldAddr rfl rfl ?_))))))))
 (refine Jx.load rfl 0 rfl rfl rfl ?_)
 (refine Jx.lssI rfl rfl rfl (Jx.move rfl rfl (J.gY rfl rfl rfl ?_)))
 (refine Jx.fieldAddr rfl rfl ?_)
 (refine J.gY rfl rfl rfl ?_)
 (refine Jx.load rfl 0 rfl rfl rfl ?_)
 (refine J.gY rfl rfl rfl ?_)
 (refine Jx.gtrI rfl rfl rfl (Jx.pF rfl rfl rfl ?_))
 (refine J.nil (N.seq (W.cF rfl ?_)))
 (refine W.skip (N.seq (W.seq (W.seq (W.region (Jx.fieldAddr rfl rfl ?_))))))
 (refine Jx.load rfl 0 rfl rfl rfl ?_)
 (refine Jx.lenS rfl rfl ?_)
 (refine Jx.neqI rfl rfl rfl (J.nil (N.seq (W.cT rfl ?_))))
 (refine W.seq (W.region (Jx.move rfl rfl (Jx.assign rfl rfl (Jx.assign rfl rfl (J.nil (N.seq (W.ret (N.noGotoRet ?_)))))))))
 (refine id ?_; rotate_left))
    exact N.retD (rs := [.tmp 4, .tmp 5]) (L1 := []) rfl (.tmp rfl (.tmp rfl .nil)) (List.nil_sublist _) ⟨rfl, rfl⟩
def fnd (all : List Nt) (s : List UInt8) : Int := match findD all s with | some i => (i : Int) | none => -1
theorem rfind_ok (all : List Nt) (s : List UInt8) (hl : all.length < 1048576) : FnC Tryd.prog 31 [ntL all, str s] [] (fun r L => r = int (fnd all s) ∧ L = []) := by
  refine FnC.intro Tryd.func31 rfl Tryd.ntmps31 rfl fun Z w0 hG => ?_
  focus (
 (refine W.seq (W.region (Jx.assign rfl rfl (J.nil (N.seq (W.seq (W.seq (W.region (Jx.assign rfl rfl (J.nil (N.seq (W.block ?_))))))))))))
 (refine id ?_; rotate_left))
  refine W.loop (α := Nat) (fun i => [(5, int (i : Int)), (0, ntL all), (1, str s)]) (fun _ => []) (fun i => i ≤ all.length ∧ ∀ k, k < i → ¬ (all.getD k nt0).digest = s) (fun i => all.length - i) 0 ⟨by simp, by simp⟩ rfl ⟨ref0 rfl, ref0 rfl, ref0 rfl, trivial⟩ ?_
  rintro i ⟨hi, hno⟩
  by_cases h1 : i < all.length
  · by_cases he : (all.getD i nt0).digest = s
    · have hf : findD all s = some i := findP_eq nt0 h1 (by simpa using he) (fun j hj => by simpa using hno j hj)
      rw [show fnd all s = (i : Int) by simp only [fnd, hf]]
      focus (
 (refine W.seq (W.seq (W.region (Jx.move rfl rfl (Jx.move rfl rfl (Jx.lenSl rfl rfl ?_))))))
 (refine Jx.lssI rfl rfl rfl (J.nil (N.seq (W.cT rfl ?_))))
 (refine W.skip (N.seq (W.seq (W.block (W.seq (W.region (Jx.move rfl rfl (Jx.move rfl rfl (Jx.indexEl rfl rfl (by assumption) rfl rfl ?_)))))))))
 (refine Jx.fieldEl rfl rfl rfl ?_)
 (refine Jx.loadPP rfl rfl ?_)
 (refine Jx.move rfl rfl (Jx.eqlS rfl rfl rfl (J.nil (N.seq (W.cT rfl ?_)))))
 (refine W.seq (W.region (Jx.move rfl rfl (Jx.assign rfl rfl (J.nil (N.seq (W.ret (N.noGotoRet (N.noGotoRet (N.noGotoRet (N.noGotoRet (N.noGotoRet ?_))))))))))))
 (refine id ?_; rotate_left))
      exact N.ret (rs := [.tmp 4]) rfl (.tmp rfl .nil) ⟨rfl, rfl⟩
    · focus (
 (refine W.seq (W.seq (W.region (Jx.move rfl rfl (Jx.move rfl rfl (Jx.lenSl rfl rfl ?_))))))
 (refine Jx.lssI rfl rfl rfl (J.nil (N.seq (W.cT rfl ?_))))
 (refine W.skip (N.seq (W.seq (W.block (W.seq (W.region (Jx.move rfl rfl (Jx.move rfl rfl (Jx.indexEl rfl rfl (by assumption) rfl rfl ?_)))))))))
 (refine Jx.fieldEl rfl rfl rfl ?_)
 (refine Jx.loadPP rfl rfl ?_)
 (refine Jx.move rfl rfl (Jx.eqlS rfl rfl rfl (J.nil (N.seq (W.cF rfl ?_)))))
 (refine W.skip (N.seq (W.region (Jx.move rfl rfl (Jx.add64 rfl rfl (by omega) rfl ?_)))))
 (refine Jx.assign rfl rfl (J.nil ?_))
 (refine id ?_; rotate_left))
      refine N.round (i + 1) ⟨h1, fun k hk => ?_⟩ (by omega) rfl ⟨ref0 rfl, ref0 rfl, ref0 rfl, trivial⟩
      rcases Nat.lt_or_ge k i with h | h
      · exact hno k h
      · obtain rfl : k = i := by omega
        exact he
  · have hf : findD all s = none := by
      cases hf : findD all s with
      | none => rfl
      | some j =>
        obtain ⟨h2, h3, _⟩ := findP_some nt0 hf
        exact absurd (by simpa using h3) (hno j (by omega))
    rw [show fnd all s = -1 by simp only [fnd, hf]]
    focus (
 (refine W.seq (W.seq (W.region (Jx.move rfl rfl (Jx.move rfl rfl (Jx.lenSl rfl rfl ?_))))))
 (refine Jx.lssI rfl rfl rfl (J.nil (N.seq (W.cF rfl ?_))))
 (refine W.exit (N.seq (W.seq (W.region (Jx.assign rfl rfl (J.nil (N.seq (W.ret ?_))))))))
 (refine id ?_; rotate_left))
    exact N.ret (rs := [.tmp 4]) rfl (.tmp rfl .nil) ⟨rfl, rfl⟩
def cls (all : List Nt) : Int × Int := match clashA all with | some i => (fnd all (all.getD i nt0).digest, (i : Int)) | none => (-1, -1)
theorem fnd_self {all : List Nt} {i : Nat} (h : i < all.length) : ∃ j, j ≤ i ∧ findD all (all.getD i nt0).digest = some j := by
  cases hf : findD all (all.getD i nt0).digest with
  | none => have := findP_none hf _ (getD_mem' (d := nt0) h); simp at this
  | some j =>
    obtain ⟨h1, h2, h3⟩ := findP_some nt0 hf
    refine ⟨j, ?_, rfl⟩
    rcases Nat.lt_or_ge i j with h4 | h4
    · have := h3 i h4; simp at this
    · exact h4
theorem rclash_ok (all : List Nt) (hl : all.length < 1048576) : FnC Tryd.prog 32 [ntL all] [] (fun r L => r = .tup [int (cls all).1, int (cls all).2] ∧ L = []) := by
  refine FnC.intro Tryd.func32 rfl Tryd.ntmps32 rfl fun Z w0 hG => ?_
  focus (
 (refine W.seq (W.region (Jx.assign rfl rfl (Jx.assign rfl rfl (J.nil (N.seq (W.seq (W.seq (W.region (Jx.assign rfl rfl (J.nil (N.seq (W.block ?_)))))))))))))
 (refine id ?_; rotate_left))
  refine W.loop (α := Nat) (fun i => [(4, int (i : Int)), (0, ntL all)]) (fun _ => []) (fun i => i ≤ all.length ∧ ∀ k, k < i → firstAt all k) (fun i => all.length - i) 0 ⟨by simp, by simp⟩ rfl ⟨ref0 rfl, ref0 rfl, trivial⟩ ?_
  rintro i ⟨hi, hno⟩
  by_cases h1 : i < all.length
  · obtain ⟨j, hj, hf⟩ := fnd_self h1
    have cf := rfind_ok all (all.getD i nt0).digest hl
    have hfe : fnd all (all.getD i nt0).digest = (j : Int) := by simp only [fnd, hf]
    rw [hfe] at cf
    by_cases h2 : j < i
    · have hc : clashA all = some i := by
        cases hc : clashA all with
        | none => have := clashA_none hc i h1; unfold firstAt at this; rw [hf] at this; simp at this; omega
        | some i2 =>
          obtain ⟨a1, ⟨j2, a2, a3⟩, a4⟩ := clashA_some hc
          rcases Nat.lt_trichotomy i2 i with h | h | h
          · have := hno i2 h; unfold firstAt at this; rw [a3] at this; simp at this; omega
          · rw [h]
          · have := a4 i h; unfold firstAt at this; rw [hf] at this; simp at this; omega
      rw [show cls all = ((j : Int), (i : Int)) by simp only [cls, hc, hfe]]
      have h2' : (j : Int) < (i : Int) := by omega
      focus (
 (refine W.seq (W.seq (W.region (Jx.move rfl rfl (Jx.move rfl rfl (Jx.lenSl rfl rfl ?_))))))
 (refine Jx.lssI rfl rfl rfl (J.nil (N.seq (W.cT rfl ?_))))
 (refine W.skip (N.seq (W.seq (W.block (W.seq (W.region (Jx.move rfl rfl (Jx.move rfl rfl (Jx.move rfl rfl (Jx.indexEl rfl rfl (by assumption) rfl rfl ?_))))))))))
 (refine Jx.fieldEl rfl rfl rfl ?_)
 (refine Jx.loadPP rfl rfl ?_)
 (refine J.call (cf) rfl (evs_args rfl) rfl ?_; rintro _ _ ⟨rfl, rfl⟩; simp only [la1, la2, la3])
 (refine Jx.assign rfl rfl (J.nil (N.seq (W.seq (W.region (Jx.move rfl rfl (Jx.move rfl rfl (Jx.lssI rfl rfl rfl (J.nil (N.seq (W.cT rfl ?_)))))))))))
 (refine W.seq (W.region (Jx.move rfl rfl (Jx.move rfl rfl (Jx.assign rfl rfl (Jx.assign rfl rfl (J.nil (N.seq (W.ret (N.noGotoRet (N.noGotoRet (N.noGotoRet (N.noGotoRet (N.noGotoRet ?_))))))))))))))
 (refine id ?_; rotate_left))
      exact N.ret (rs := [.tmp 2, .tmp 3]) rfl (.tmp rfl (.tmp rfl .nil)) ⟨rfl, rfl⟩
    · obtain rfl : j = i := by omega
      focus (
 (refine W.seq (W.seq (W.region (Jx.move rfl rfl (Jx.move rfl rfl (Jx.lenSl rfl rfl ?_))))))
 (refine Jx.lssI rfl rfl rfl (J.nil (N.seq (W.cT rfl ?_))))
 (refine W.skip (N.seq (W.seq (W.block (W.seq (W.region (Jx.move rfl rfl (Jx.move rfl rfl (Jx.move rfl rfl (Jx.indexEl rfl rfl (by assumption) rfl rfl ?_))))))))))
 (refine Jx.fieldEl rfl rfl rfl ?_)
 (refine Jx.loadPP rfl rfl ?_)
 (refine J.call (cf) rfl (evs_args rfl) rfl ?_; rintro _ _ ⟨rfl, rfl⟩; simp only [la1, la2, la3])
 (refine Jx.assign rfl rfl (J.nil (N.seq (W.seq (W.region (Jx.move rfl rfl (Jx.move rfl rfl (Jx.lssI rfl rfl rfl (J.nil (N.seq (W.cF rfl ?_)))))))))))
 (refine W.skip (N.seq (W.region (Jx.move rfl rfl (Jx.add64 rfl rfl (by omega) rfl ?_)))))
 (refine Jx.assign rfl rfl (J.nil ?_))
 (refine id ?_; rotate_left))
      refine N.round (j + 1) ⟨h1, fun k hk => ?_⟩ (by omega) rfl ⟨ref0 rfl, ref0 rfl, trivial⟩
      rcases Nat.lt_or_ge k j with h | h
      · exact hno k h
      · obtain rfl : k = j := by omega
        exact hf
  · have hc : clashA all = none := by
      cases hc : clashA all with
      | none => rfl
      | some i2 =>
        obtain ⟨a1, ⟨j2, a2, a3⟩, a4⟩ := clashA_some hc
        have := hno i2 (by omega)
        unfold firstAt at this; rw [a3] at this; simp at this; omega
    rw [show cls all = (-1, -1) by simp only [cls, hc]]
    focus (
 (refine W.seq (W.seq (W.region (Jx.move rfl rfl (Jx.move rfl rfl (Jx.lenSl rfl rfl ?_))))))
 (refine Jx.lssI rfl rfl rfl (J.nil (N.seq (W.cF rfl ?_))))
 (refine W.exit (N.seq (W.seq (W.region (Jx.assign rfl rfl (Jx.assign rfl rfl (J.nil (N.seq (W.ret ?_)))))))))
 (refine id ?_; rotate_left))
    exact N.ret (rs := [.tmp 2, .tmp 3]) rfl (.tmp rfl (.tmp rfl .nil)) ⟨rfl, rfl⟩
theorem note_bad (b : Nat) (tag : Int) (s : List UInt8) (L : List Own) (h : dsumR tag s = ([], 1)) (hs : s.length ≤ 1073741824) : FnC Tryd.prog 15 [ptr b, int tag, str s] [] (fun r L => r = .tup [str [], int 1] ∧ L = []) := by
  have c := dsumR_ok tag s hs
  rw [h] at c
  refine FnC.intro Tryd.func15 rfl Tryd.ntmps15 rfl fun Z w0 hG => ?_
  focus (
 (refine W.seq (W.region (Jx.assign rfl rfl (Jx.assign rfl rfl (J.nil (N.seq (W.seq (W.region (Jx.move rfl rfl (Jx.move rfl rfl ?_))))))))))
 (refine J.call (c) rfl (evs_args rfl) rfl ?_; rintro _ _ ⟨rfl, rfl⟩; simp only [la1, la2, la3])
 (refine Jx.move rfl rfl (Jx.extract rfl rfl rfl ?_))
 (refine Jx.extract rfl rfl rfl ?_)
 (refine Jx.assign rfl rfl (Jx.assign rfl rfl (J.nil (N.seq (W.seq (W.seq (W.region (Jx.move rfl rfl (Jx.eqlI rfl rfl rfl (J.nil (N.seq (W.cF rfl ?_))))))))))))
 (refine W.skip (N.seq (W.seq (W.seq (W.region (Jx.move rfl rfl (Jx.neqI rfl rfl rfl (J.nil (N.seq (W.cT rfl ?_))))))))))
 (refine W.seq (W.region (Jx.move rfl rfl (Jx.assign rfl rfl (Jx.assign rfl rfl (J.nil (N.seq (W.ret (N.noGotoRet ?_)))))))))
 (refine id ?_; rotate_left))
  exact N.ret (rs := [.tmp 6, .tmp 7]) rfl (.tmp rfl (.tmp rfl .nil)) ⟨rfl, rfl⟩
end Go.Proofs.YtafefapbiekmbaaDoor
namespace Go.Proofs.YtafefapbiekmbaaDoor
open Go Go.Sse
set_option linter.unusedVariables false
set_option linter.unusedSimpArgs false
set_option maxRecDepth 10000
def zN : Nt := ⟨0, [97, 110, 111, 116, 104, 101, 114, 32, 111, 110, 101], []⟩
def gotA (all : List Nt) (i : Nat) : List Nt := List.replicate i zN ++ all.drop i
theorem gotA_len {all : List Nt} {i : Nat} (h : i ≤ all.length) : (gotA all i).length = all.length := by simp [gotA]; omega
theorem gotA_get {all : List Nt} {i : Nat} (h : i < all.length) : (gotA all i).getD i nt0 = all.getD i nt0 := by
  simp [gotA, List.getD_eq_getElem?_getD, List.getElem?_append_right]
theorem gotA_set {all : List Nt} {i : Nat} (h : i < all.length) : (gotA all i).set i zN = gotA all (i + 1) := by
  simp only [gotA]
  rw [List.set_append_right _ _ (by simp), List.length_replicate, Nat.sub_self, List.drop_eq_getElem_cons h, List.set_cons_zero, List.replicate_succ']
  simp
theorem findR_fnd (all : List Nt) (s : List UInt8) : (∃ j, j < all.length ∧ fnd all s = (j : Int) ∧ findR all s = (all.getD j nt0, true)) ∨ (fnd all s = -1 ∧ findR all s = (nt0, false)) := by
  cases h : findD all s with
  | some j => exact .inl ⟨j, (findP_some nt0 h).1, by simp only [fnd, h], by simp only [findR, h]⟩
  | none => exact .inr ⟨by simp only [fnd, h], by simp only [findR, h]⟩
theorem clashR_cls (all : List Nt) : (∃ i j, i < all.length ∧ j < all.length ∧ cls all = ((j : Int), (i : Int)) ∧ clashR all = (all.getD j nt0, all.getD i nt0, true)) ∨ (cls all = (-1, -1) ∧ clashR all = (nt0, nt0, false)) := by
  cases hc : clashA all with
  | none => exact .inr ⟨by simp only [cls, hc], by simp only [clashR, hc]⟩
  | some i =>
    obtain ⟨h1, ⟨j, h2, h3⟩, _⟩ := clashA_some hc
    exact .inl ⟨i, j, h1, by omega, by simp only [cls, hc, fnd, h3], by simp only [clashR, hc, findR, h3]⟩
set_option maxHeartbeats 8000000 in
theorem tells_ok (b : Nat) (v : Value) (mt mf : Nat) (all : List Nt) (M : List (Nt × Value)) (K : List (List UInt8 × Value)) (hI : LogInv all M K) (hN : Nil0 v all) (hl : all.length ≤ 1000) (s : List UInt8) :
    FnC Tryd.prog 23 [ptr b, ntL all, str s] (logO b v mt mf all M K) (fun r L => r = bool true ∧ L = logO b v mt mf all M K) := by
  have ca := all_ok b v mt mf all M K hN (by omega)
  have c1 := find_ok b v mt mf all M K s hI
  have c2 := rfind_ok all s (by omega)
  have c3 := clash_ok b v mt mf all M K hI
  have c4 := rclash_ok all (by omega)
  refine FnC.intro Tryd.func23 rfl Tryd.ntmps23 rfl fun Z w0 hG => ?_
  focus (
 (refine W.seq (W.region (Jx.assign rfl rfl (J.nil (N.seq (W.seq (W.region (Jx.move rfl rfl ?_))))))))
 (refine J.call (ca) rfl (evs_args rfl) rfl ?_; rintro _ _ ⟨u, rfl, rfl⟩; simp only [la1, la2, la3])
 (refine Jx.assign rfl rfl (J.nil (N.seq (W.seq (W.seq (W.region (Jx.move rfl rfl (Jx.lenRow rfl 0 rfl rfl ?_))))))))
 (refine Jx.move rfl rfl (Jx.lenSl rfl rfl ?_))
 (refine Jx.neqI rfl rfl rfl (J.nil (N.seq (W.cF rfl ?_))))
 (refine W.skip (N.seq (W.seq (W.seq (W.region (Jx.assign rfl rfl (J.nil (N.seq (W.block ?_)))))))))
 (refine id ?_; rotate_left))
  by_cases h0 : all.length = 0
  · obtain rfl := List.eq_nil_of_length_eq_zero h0
    have hge : decide ((0 : Int) ≤ -1) = false := rfl
    rw [show findR [] s = (nt0, false) from rfl] at c1
    rw [show fnd [] s = -1 from rfl] at c2
    rw [show clashR [] = (nt0, nt0, false) from rfl] at c3
    rw [show cls [] = (-1, -1) from rfl] at c4
    refine W.loop (α := Unit) (fun _ => [(8, int 0), (7, .val u), (1, ntL []), (0, ptr b), (2, str s)]) (fun _ => .row u tNt 3 ([] : List Nt).length (elOf ntC nt0 []) :: logO b v mt mf [] M K) (fun _ => True) (fun _ => 0) () trivial rfl ⟨ref0 rfl, ref0 rfl, ref0 rfl, ref0 rfl, ref0 rfl, trivial⟩ ?_
    rintro _ _
    focus (
 (refine W.seq (W.seq (W.region (Jx.move rfl rfl (Jx.move rfl rfl (Jx.lenSl rfl rfl ?_))))))
 (refine Jx.lssI rfl rfl rfl (J.nil (N.seq (W.cF rfl ?_))))
 (refine W.exit (N.seq (W.seq (W.region (Jx.move rfl rfl (Jx.move rfl rfl ?_))))))
 (refine J.drop (List.sublist_cons_self _ _) ?_; refine J.call (c1) rfl (evs_args rfl) rfl ?_; rintro _ _ ⟨rfl, rfl⟩; simp only [la1, la2, la3])
 (refine Jx.move rfl rfl (Jx.extract rfl rfl rfl ?_))
 (refine Jx.extract rfl rfl rfl ?_)
 (refine J.alloc (by simp only [List.map_cons, List.map_nil]; rfl) rfl rfl ?_; intro b')
 (refine J.storeAll rfl rfl rfl 0 rfl rfl rfl ?_)
 (refine Jx.assign rfl rfl (J.nil (N.seq (W.seq (W.region (Jx.move rfl rfl (Jx.move rfl rfl ?_)))))))
 (refine J.call (c2) rfl (evs_args rfl) rfl ?_; rintro _ _ ⟨rfl, rfl⟩; simp only [la1, la2, la3])
 (refine Jx.assign rfl rfl (J.nil (N.seq (W.seq (W.seq ?_)))))
 (refine W.draw follows ?_)
 (refine JD.calm rfl (by decide +kernel) ?_)
 (refine Cx.move rfl rfl ?_)
 (refine Cx.move rfl rfl ?_)
 (refine Cx.geqI rfl rfl rfl ?_; rw [hge])
 (refine Cx.neqB rfl rfl rfl ?_)
 (refine Cx.move rfl rfl ?_)
 (refine SegC.gY rfl rfl rfl ?_)
 (refine Cx.move rfl rfl ?_)
 (refine SegC.gY rfl rfl rfl ?_)
 (refine Cx.move rfl rfl ?_)
 (refine SegC.gU rfl rfl rfl rfl ?_)
 (refine SegC.gU rfl rfl rfl rfl ?_)
 (refine SegC.gU rfl rfl rfl rfl ?_)
 (refine SegC.gU rfl rfl rfl rfl ?_)
 (refine SegC.gU rfl rfl rfl rfl ?_)
 (refine SegC.gU rfl rfl rfl rfl ?_)
 (refine SegC.gY rfl rfl rfl ?_)
 (refine Cx.pickF rfl (by first | rfl | assumption | (exact decide_eq_true (by first | assumption | omega | rfl)) | (exact decide_eq_false (by first | assumption | omega | rfl)) | (simp; done) | (simp; omega)) rfl rfl ?_)
 (refine Cx.pickF rfl (by first | rfl | assumption | (exact decide_eq_true (by first | assumption | omega | rfl)) | (exact decide_eq_false (by first | assumption | omega | rfl)) | (simp; done) | (simp; omega)) rfl rfl ?_)
 (refine Cx.move rfl rfl ?_)
 (refine SegC.gY rfl rfl rfl ?_)
 (refine Cx.move rfl rfl ?_)
 (refine SegC.gY rfl rfl rfl ?_)
 (refine Cx.not rfl rfl ?_)
 (refine SegC.gY rfl rfl rfl ?_)
 (refine Cx.move rfl rfl ?_)
 (refine SegC.gY rfl rfl rfl ?_)
 (refine Cx.loadAll rfl 0 rfl rfl rfl ?_)
 (refine SegC.gY rfl rfl rfl ?_)
 (refine Cx.build (by repeat (first | exact Args.nil | refine' Args.cons rfl ?_)) (by repeat (first | exact AllOK.nil | refine AllOK.cons (by first | exact .agg | exact .one (.val rfl) | exact .one .sl | exact .one .pp) ?_)) rfl (by simp [fillS, cellsS]; rfl) rfl ?_)
 (refine SegC.gY rfl rfl rfl ?_)
 (refine Cx.neqAg true rfl rfl rfl rfl rfl rfl ⟨fun _ => rfl, fun _ => rfl⟩ rfl ?_)
 (refine SegC.gY rfl rfl rfl ?_)
 (refine Cx.pickT rfl (by first | rfl | assumption | (exact decide_eq_true (by first | assumption | omega | rfl)) | (exact decide_eq_false (by first | assumption | omega | rfl)) | (simp; done) | (simp; omega)) rfl rfl ?_)
 (refine Cx.pickF rfl (by first | rfl | assumption | (exact decide_eq_true (by first | assumption | omega | rfl)) | (exact decide_eq_false (by first | assumption | omega | rfl)) | (simp; done) | (simp; omega)) rfl rfl ?_)
 (refine SegC.nil ?_)
 (refine N.seq (W.cF rfl ?_))
 (refine W.skip (N.seq (W.seq (W.region (Jx.move rfl rfl ?_)))))
 (refine J.perm (List.perm_append_comm (l₁ := [_]) (l₂ := [_, _, _, _])) ?_; refine J.call (c3) rfl (evs_args rfl) rfl ?_; rintro _ _ ⟨rfl, rfl⟩; simp only [la1, la2, la3])
 (refine Jx.move rfl rfl (Jx.extract rfl rfl rfl ?_))
 (refine Jx.extract rfl rfl rfl ?_)
 (refine Jx.extract rfl rfl rfl ?_)
 (refine J.alloc (by simp only [List.map_cons, List.map_nil]; rfl) rfl rfl ?_; intro b')
 (refine J.alloc (by simp only [List.map_cons, List.map_nil]; rfl) rfl rfl ?_; intro b')
 (refine J.storeAll rfl rfl rfl 1 rfl rfl rfl ?_)
 (refine J.storeAll rfl rfl rfl 0 rfl rfl rfl ?_)
 (refine Jx.assign rfl rfl (J.nil (N.seq (W.seq (W.region (Jx.move rfl rfl ?_))))))
 (refine J.call (c4) rfl (evs_args rfl) rfl ?_; rintro _ _ ⟨rfl, rfl⟩; simp only [la1, la2, la3])
 (refine Jx.move rfl rfl (Jx.extract rfl rfl rfl ?_))
 (refine Jx.extract rfl rfl rfl ?_)
 (refine Jx.assign rfl rfl (Jx.assign rfl rfl (J.nil (N.seq (W.seq (W.seq (W.region (Jx.move rfl rfl (Jx.lssI rfl rfl rfl (J.nil (N.seq (W.cT rfl ?_))))))))))))
 (refine W.seq (W.region (Jx.move rfl rfl (Jx.not rfl rfl (Jx.move rfl rfl (J.gY rfl rfl rfl ?_))))))
 (refine Jx.loadAll rfl 1 rfl rfl rfl ?_)
 (refine J.gY rfl rfl rfl ?_)
 (refine Jx.buildB rfl rfl rfl rfl rfl ?_)
 (refine J.gY rfl rfl rfl ?_)
 (refine Jx.eqlAg true rfl rfl rfl rfl rfl rfl ⟨fun _ => rfl, fun _ => rfl⟩ rfl ?_)
 (refine Jx.pT rfl rfl rfl ?_)
 (refine Jx.move rfl rfl (J.gY rfl rfl rfl ?_))
 (refine Jx.loadAll rfl 0 rfl rfl rfl ?_)
 (refine J.gY rfl rfl rfl ?_)
 (refine Jx.buildB rfl rfl rfl rfl rfl ?_)
 (refine J.gY rfl rfl rfl ?_)
 (refine Jx.eqlAg true rfl rfl rfl rfl rfl rfl ⟨fun _ => rfl, fun _ => rfl⟩ rfl ?_)
 (refine Jx.pT rfl rfl rfl ?_)
 (refine Jx.assign rfl rfl (J.nil (N.seq (W.ret (N.noGotoRet ?_)))))
 (refine id ?_; rotate_left))
    exact N.retD (rs := [.tmp 6]) rfl (.tmp rfl .nil) (.cons _ (.cons _ (List.sublist_append_left [_, _, _, _] _))) ⟨rfl, rfl⟩
  · refine W.rowView 0 rfl (by omega) ?_
    rintro r cap rfl hc1 hc2
    refine W.loop (α := Nat) (fun i => [(8, int (i : Int)), (7, .val (.slice (some ⟨r, 0, none⟩) all.length cap)), (1, ntL all), (0, ptr b), (2, str s)]) (fun i => .row (.slice (some ⟨r, 0, none⟩) (gotA all i).length cap) tNt 3 (gotA all i).length (elOf ntC nt0 (gotA all i)) :: logO b v mt mf all M K) (fun i => i ≤ all.length) (fun i => all.length - i) 0 (by simp) (by simp [gotA]) ⟨ref0 rfl, ref0 rfl, ref0 rfl, ref0 rfl, ref0 rfl, trivial⟩ ?_
    intro i hi
    by_cases h1 : i < all.length
    · have hg := gotA_get h1
      have hs := gotA_set h1
      have hgl := gotA_len hi
      have hel : elOf ntC nt0 (gotA all i) i = ntC (all.getD i nt0) := by show ntC ((gotA all i).getD i nt0) = _; rw [hg]
      have hi1 : i < (gotA all i).length := by omega
      have hn2 : (gotA all i).length = (gotA all (i + 1)).length := by rw [← hs, List.length_set]
      focus (
 (refine W.seq (W.seq (W.region (Jx.move rfl rfl (Jx.move rfl rfl (Jx.lenSl rfl rfl ?_))))))
 (refine Jx.lssI rfl rfl rfl (J.nil (N.seq (W.cT rfl ?_))))
 (refine W.skip (N.seq (W.seq (W.block (W.seq (W.seq ?_))))))
 (refine W.draw follows ?_)
 (refine JD.calm rfl (by decide +kernel) ?_)
 (refine Cx.move rfl rfl ?_)
 (refine Cx.move rfl rfl ?_)
 (refine Cx.indexRow i rfl rfl rfl h1 rfl ?_)
 (refine Cx.loadRowAg rfl 0 rfl i rfl hi1 hel rfl ?_)
 (refine Cx.move rfl rfl ?_)
 (refine Cx.move rfl rfl ?_)
 (refine Cx.indexEl rfl rfl (by assumption) rfl rfl ?_)
 (refine Cx.loadPPall rfl rfl rfl ?_)
 (refine Cx.neqAg true rfl rfl rfl rfl rfl rfl ⟨fun _ => rfl, fun _ => rfl⟩ rfl ?_)
 (refine SegC.nil ?_)
 (refine N.seq (W.cF rfl ?_))
 (refine W.skip (N.seq (W.region (Jx.move rfl rfl (Jx.move rfl rfl (Jx.buildB rfl rfl rfl rfl rfl ?_))))))
 (refine Jx.indexRow i rfl rfl rfl h1 rfl ?_)
 (refine J.storeRowAgL i zN rfl rfl rfl 0 rfl rfl hi1 rfl (L' := .row (.slice (some ⟨r, 0, none⟩) (gotA all (i + 1)).length cap) tNt 3 (gotA all (i + 1)).length (elOf ntC nt0 (gotA all (i + 1))) :: logO b v mt mf all M K) (by rw [← hs, List.length_set]; rfl) ?_)
 (refine J.nil (N.seq (W.region (Jx.move rfl rfl (Jx.add64 rfl rfl (by omega) rfl ?_)))))
 (refine Jx.assign rfl rfl (J.nil ?_))
 (refine id ?_; rotate_left))
      exact N.round (i + 1) h1 (by omega) rfl ⟨ref0 rfl, ref0 rfl, ref0 rfl, ref0 rfl, ref0 rfl, trivial⟩
    · have hil : ¬ i < all.length := h1
      rcases findR_fnd all s with ⟨j, hj, e1, e2⟩ | ⟨e1, e2⟩
      · rw [e2] at c1
        rw [e1] at c2
        have hge : decide ((0 : Int) ≤ (j : Int)) = true := decide_eq_true (by omega)
        rcases clashR_cls all with ⟨x, y, hx, hy, e3, e4⟩ | ⟨e3, e4⟩
        · rw [e4] at c3
          rw [e3] at c4
          have hy0 : ¬ (y : Int) < 0 := by omega
          focus (
 (refine W.seq (W.seq (W.region (Jx.move rfl rfl (Jx.move rfl rfl (Jx.lenSl rfl rfl ?_))))))
 (refine Jx.lssI rfl rfl rfl (J.nil (N.seq (W.cF rfl ?_))))
 (refine W.exit (N.seq (W.seq (W.region (Jx.move rfl rfl (Jx.move rfl rfl ?_))))))
 (refine J.drop (List.sublist_cons_self _ _) ?_; refine J.call (c1) rfl (evs_args rfl) rfl ?_; rintro _ _ ⟨rfl, rfl⟩; simp only [la1, la2, la3])
 (refine Jx.move rfl rfl (Jx.extract rfl rfl rfl ?_))
 (refine Jx.extract rfl rfl rfl ?_)
 (refine J.alloc (by simp only [List.map_cons, List.map_nil]; rfl) rfl rfl ?_; intro b')
 (refine J.storeAll rfl rfl rfl 0 rfl rfl rfl ?_)
 (refine Jx.assign rfl rfl (J.nil (N.seq (W.seq (W.region (Jx.move rfl rfl (Jx.move rfl rfl ?_)))))))
 (refine J.call (c2) rfl (evs_args rfl) rfl ?_; rintro _ _ ⟨rfl, rfl⟩; simp only [la1, la2, la3])
 (refine Jx.assign rfl rfl (J.nil (N.seq (W.seq (W.seq ?_)))))
 (refine W.draw follows ?_)
 (refine JD.calm rfl (by decide +kernel) ?_)
 (refine Cx.move rfl rfl ?_)
 (refine Cx.move rfl rfl ?_)
 (refine Cx.geqI rfl rfl rfl ?_; rw [hge])
 (refine Cx.neqB rfl rfl rfl ?_)
 (refine Cx.move rfl rfl ?_)
 (refine SegC.gY rfl rfl rfl ?_)
 (refine Cx.move rfl rfl ?_)
 (refine SegC.gY rfl rfl rfl ?_)
 (refine Cx.move rfl rfl ?_)
 (refine SegC.gY rfl rfl rfl ?_)
 (refine Cx.loadAll rfl 0 rfl rfl rfl ?_)
 (refine SegC.gY rfl rfl rfl ?_)
 (refine Cx.move rfl rfl ?_)
 (refine SegC.gY rfl rfl rfl ?_)
 (refine Cx.move rfl rfl ?_)
 (refine SegC.gY rfl rfl rfl ?_)
 (refine Cx.indexEl rfl rfl (by assumption) rfl rfl ?_)
 (refine SegC.gY rfl rfl rfl ?_)
 (refine Cx.loadPPall rfl rfl rfl ?_)
 (refine SegC.gY rfl rfl rfl ?_)
 (refine Cx.neqAg true rfl rfl rfl rfl rfl rfl ⟨fun _ => rfl, fun _ => rfl⟩ rfl ?_)
 (refine SegC.gY rfl rfl rfl ?_)
 (refine Cx.pickT rfl (by first | rfl | assumption | (exact decide_eq_true (by first | assumption | omega | rfl)) | (exact decide_eq_false (by first | assumption | omega | rfl)) | (simp; done) | (simp; omega)) rfl rfl ?_)
 (refine Cx.pickF rfl (by first | rfl | assumption | (exact decide_eq_true (by first | assumption | omega | rfl)) | (exact decide_eq_false (by first | assumption | omega | rfl)) | (simp; done) | (simp; omega)) rfl rfl ?_)
 (refine Cx.move rfl rfl ?_)
 (refine SegC.gY rfl rfl rfl ?_)
 (refine Cx.move rfl rfl ?_)
 (refine SegC.gY rfl rfl rfl ?_)
 (refine Cx.not rfl rfl ?_)
 (refine SegC.gY rfl rfl rfl ?_)
 (refine Cx.move rfl rfl ?_)
 (refine SegC.gU rfl rfl rfl rfl ?_)
 (refine SegC.gU rfl rfl rfl rfl ?_)
 (refine SegC.gU rfl rfl rfl rfl ?_)
 (refine SegC.gY rfl rfl rfl ?_)
 (refine Cx.pickF rfl (by first | rfl | assumption | (exact decide_eq_true (by first | assumption | omega | rfl)) | (exact decide_eq_false (by first | assumption | omega | rfl)) | (simp; done) | (simp; omega)) rfl rfl ?_)
 (refine Cx.pickF rfl (by first | rfl | assumption | (exact decide_eq_true (by first | assumption | omega | rfl)) | (exact decide_eq_false (by first | assumption | omega | rfl)) | (simp; done) | (simp; omega)) rfl rfl ?_)
 (refine SegC.nil ?_)
 (refine N.seq (W.cF rfl ?_))
 (refine W.skip (N.seq (W.seq (W.region (Jx.move rfl rfl ?_)))))
 (refine J.perm (List.perm_append_comm (l₁ := [_]) (l₂ := [_, _, _, _])) ?_; refine J.call (c3) rfl (evs_args rfl) rfl ?_; rintro _ _ ⟨rfl, rfl⟩; simp only [la1, la2, la3])
 (refine Jx.move rfl rfl (Jx.extract rfl rfl rfl ?_))
 (refine Jx.extract rfl rfl rfl ?_)
 (refine Jx.extract rfl rfl rfl ?_)
 (refine J.alloc (by simp only [List.map_cons, List.map_nil]; rfl) rfl rfl ?_; intro b')
 (refine J.alloc (by simp only [List.map_cons, List.map_nil]; rfl) rfl rfl ?_; intro b')
 (refine J.storeAll rfl rfl rfl 1 rfl rfl rfl ?_)
 (refine J.storeAll rfl rfl rfl 0 rfl rfl rfl ?_)
 (refine Jx.assign rfl rfl (J.nil (N.seq (W.seq (W.region (Jx.move rfl rfl ?_))))))
 (refine J.call (c4) rfl (evs_args rfl) rfl ?_; rintro _ _ ⟨rfl, rfl⟩; simp only [la1, la2, la3])
 (refine Jx.move rfl rfl (Jx.extract rfl rfl rfl ?_))
 (refine Jx.extract rfl rfl rfl ?_)
 (refine Jx.assign rfl rfl (Jx.assign rfl rfl (J.nil (N.seq (W.seq (W.seq (W.region (Jx.move rfl rfl (Jx.lssI rfl rfl rfl (J.nil (N.seq (W.cF rfl ?_))))))))))))
 (refine W.skip (N.seq (W.seq ?_)))
 (refine W.draw follows ?_)
 (refine JD.calm rfl (by decide +kernel) ?_)
 (refine Cx.move rfl rfl ?_)
 (refine Cx.move rfl rfl ?_)
 (refine SegC.gY rfl rfl rfl ?_)
 (refine Cx.loadAll rfl 1 rfl rfl rfl ?_)
 (refine SegC.gY rfl rfl rfl ?_)
 (refine Cx.move rfl rfl ?_)
 (refine SegC.gY rfl rfl rfl ?_)
 (refine Cx.move rfl rfl ?_)
 (refine SegC.gY rfl rfl rfl ?_)
 (refine Cx.indexEl rfl rfl (by assumption) rfl rfl ?_)
 (refine SegC.gY rfl rfl rfl ?_)
 (refine Cx.loadPPall rfl rfl rfl ?_)
 (refine SegC.gY rfl rfl rfl ?_)
 (refine Cx.eqlAg true rfl rfl rfl rfl rfl rfl ⟨fun _ => rfl, fun _ => rfl⟩ rfl ?_)
 (refine Cx.pickT rfl (by first | rfl | assumption | (exact decide_eq_true (by first | assumption | omega | rfl)) | (exact decide_eq_false (by first | assumption | omega | rfl)) | (simp; done) | (simp; omega)) rfl rfl ?_)
 (refine Cx.move rfl rfl ?_)
 (refine SegC.gY rfl rfl rfl ?_)
 (refine Cx.loadAll rfl 0 rfl rfl rfl ?_)
 (refine SegC.gY rfl rfl rfl ?_)
 (refine Cx.move rfl rfl ?_)
 (refine SegC.gY rfl rfl rfl ?_)
 (refine Cx.move rfl rfl ?_)
 (refine SegC.gY rfl rfl rfl ?_)
 (refine Cx.indexEl rfl rfl (by assumption) rfl rfl ?_)
 (refine SegC.gY rfl rfl rfl ?_)
 (refine Cx.loadPPall rfl rfl rfl ?_)
 (refine SegC.gY rfl rfl rfl ?_)
 (refine Cx.eqlAg true rfl rfl rfl rfl rfl rfl ⟨fun _ => rfl, fun _ => rfl⟩ rfl ?_)
 (refine Cx.pickT rfl (by first | rfl | assumption | (exact decide_eq_true (by first | assumption | omega | rfl)) | (exact decide_eq_false (by first | assumption | omega | rfl)) | (simp; done) | (simp; omega)) rfl rfl ?_)
 (refine Cx.assign rfl rfl ?_)
 (refine SegC.nil ?_)
 (refine N.seq (W.ret ?_))
 (refine id ?_; rotate_left))
          exact N.retD (rs := [.tmp 6]) rfl (.tmp rfl .nil) (.cons _ (.cons _ (List.sublist_append_left [_, _, _, _] _))) ⟨rfl, rfl⟩
        · rw [e4] at c3
          rw [e3] at c4
          focus (
 (refine W.seq (W.seq (W.region (Jx.move rfl rfl (Jx.move rfl rfl (Jx.lenSl rfl rfl ?_))))))
 (refine Jx.lssI rfl rfl rfl (J.nil (N.seq (W.cF rfl ?_))))
 (refine W.exit (N.seq (W.seq (W.region (Jx.move rfl rfl (Jx.move rfl rfl ?_))))))
 (refine J.drop (List.sublist_cons_self _ _) ?_; refine J.call (c1) rfl (evs_args rfl) rfl ?_; rintro _ _ ⟨rfl, rfl⟩; simp only [la1, la2, la3])
 (refine Jx.move rfl rfl (Jx.extract rfl rfl rfl ?_))
 (refine Jx.extract rfl rfl rfl ?_)
 (refine J.alloc (by simp only [List.map_cons, List.map_nil]; rfl) rfl rfl ?_; intro b')
 (refine J.storeAll rfl rfl rfl 0 rfl rfl rfl ?_)
 (refine Jx.assign rfl rfl (J.nil (N.seq (W.seq (W.region (Jx.move rfl rfl (Jx.move rfl rfl ?_)))))))
 (refine J.call (c2) rfl (evs_args rfl) rfl ?_; rintro _ _ ⟨rfl, rfl⟩; simp only [la1, la2, la3])
 (refine Jx.assign rfl rfl (J.nil (N.seq (W.seq (W.seq ?_)))))
 (refine W.draw follows ?_)
 (refine JD.calm rfl (by decide +kernel) ?_)
 (refine Cx.move rfl rfl ?_)
 (refine Cx.move rfl rfl ?_)
 (refine Cx.geqI rfl rfl rfl ?_; rw [hge])
 (refine Cx.neqB rfl rfl rfl ?_)
 (refine Cx.move rfl rfl ?_)
 (refine SegC.gY rfl rfl rfl ?_)
 (refine Cx.move rfl rfl ?_)
 (refine SegC.gY rfl rfl rfl ?_)
 (refine Cx.move rfl rfl ?_)
 (refine SegC.gY rfl rfl rfl ?_)
 (refine Cx.loadAll rfl 0 rfl rfl rfl ?_)
 (refine SegC.gY rfl rfl rfl ?_)
 (refine Cx.move rfl rfl ?_)
 (refine SegC.gY rfl rfl rfl ?_)
 (refine Cx.move rfl rfl ?_)
 (refine SegC.gY rfl rfl rfl ?_)
 (refine Cx.indexEl rfl rfl (by assumption) rfl rfl ?_)
 (refine SegC.gY rfl rfl rfl ?_)
 (refine Cx.loadPPall rfl rfl rfl ?_)
 (refine SegC.gY rfl rfl rfl ?_)
 (refine Cx.neqAg true rfl rfl rfl rfl rfl rfl ⟨fun _ => rfl, fun _ => rfl⟩ rfl ?_)
 (refine SegC.gY rfl rfl rfl ?_)
 (refine Cx.pickT rfl (by first | rfl | assumption | (exact decide_eq_true (by first | assumption | omega | rfl)) | (exact decide_eq_false (by first | assumption | omega | rfl)) | (simp; done) | (simp; omega)) rfl rfl ?_)
 (refine Cx.pickF rfl (by first | rfl | assumption | (exact decide_eq_true (by first | assumption | omega | rfl)) | (exact decide_eq_false (by first | assumption | omega | rfl)) | (simp; done) | (simp; omega)) rfl rfl ?_)
 (refine Cx.move rfl rfl ?_)
 (refine SegC.gY rfl rfl rfl ?_)
 (refine Cx.move rfl rfl ?_)
 (refine SegC.gY rfl rfl rfl ?_)
 (refine Cx.not rfl rfl ?_)
 (refine SegC.gY rfl rfl rfl ?_)
 (refine Cx.move rfl rfl ?_)
 (refine SegC.gU rfl rfl rfl rfl ?_)
 (refine SegC.gU rfl rfl rfl rfl ?_)
 (refine SegC.gU rfl rfl rfl rfl ?_)
 (refine SegC.gY rfl rfl rfl ?_)
 (refine Cx.pickF rfl (by first | rfl | assumption | (exact decide_eq_true (by first | assumption | omega | rfl)) | (exact decide_eq_false (by first | assumption | omega | rfl)) | (simp; done) | (simp; omega)) rfl rfl ?_)
 (refine Cx.pickF rfl (by first | rfl | assumption | (exact decide_eq_true (by first | assumption | omega | rfl)) | (exact decide_eq_false (by first | assumption | omega | rfl)) | (simp; done) | (simp; omega)) rfl rfl ?_)
 (refine SegC.nil ?_)
 (refine N.seq (W.cF rfl ?_))
 (refine W.skip (N.seq (W.seq (W.region (Jx.move rfl rfl ?_)))))
 (refine J.perm (List.perm_append_comm (l₁ := [_]) (l₂ := [_, _, _, _])) ?_; refine J.call (c3) rfl (evs_args rfl) rfl ?_; rintro _ _ ⟨rfl, rfl⟩; simp only [la1, la2, la3])
 (refine Jx.move rfl rfl (Jx.extract rfl rfl rfl ?_))
 (refine Jx.extract rfl rfl rfl ?_)
 (refine Jx.extract rfl rfl rfl ?_)
 (refine J.alloc (by simp only [List.map_cons, List.map_nil]; rfl) rfl rfl ?_; intro b')
 (refine J.alloc (by simp only [List.map_cons, List.map_nil]; rfl) rfl rfl ?_; intro b')
 (refine J.storeAll rfl rfl rfl 1 rfl rfl rfl ?_)
 (refine J.storeAll rfl rfl rfl 0 rfl rfl rfl ?_)
 (refine Jx.assign rfl rfl (J.nil (N.seq (W.seq (W.region (Jx.move rfl rfl ?_))))))
 (refine J.call (c4) rfl (evs_args rfl) rfl ?_; rintro _ _ ⟨rfl, rfl⟩; simp only [la1, la2, la3])
 (refine Jx.move rfl rfl (Jx.extract rfl rfl rfl ?_))
 (refine Jx.extract rfl rfl rfl ?_)
 (refine Jx.assign rfl rfl (Jx.assign rfl rfl (J.nil (N.seq (W.seq (W.seq (W.region (Jx.move rfl rfl (Jx.lssI rfl rfl rfl (J.nil (N.seq (W.cT rfl ?_))))))))))))
 (refine W.seq (W.region (Jx.move rfl rfl (Jx.not rfl rfl (Jx.move rfl rfl (J.gY rfl rfl rfl ?_))))))
 (refine Jx.loadAll rfl 1 rfl rfl rfl ?_)
 (refine J.gY rfl rfl rfl ?_)
 (refine Jx.buildB rfl rfl rfl rfl rfl ?_)
 (refine J.gY rfl rfl rfl ?_)
 (refine Jx.eqlAg true rfl rfl rfl rfl rfl rfl ⟨fun _ => rfl, fun _ => rfl⟩ rfl ?_)
 (refine Jx.pT rfl rfl rfl ?_)
 (refine Jx.move rfl rfl (J.gY rfl rfl rfl ?_))
 (refine Jx.loadAll rfl 0 rfl rfl rfl ?_)
 (refine J.gY rfl rfl rfl ?_)
 (refine Jx.buildB rfl rfl rfl rfl rfl ?_)
 (refine J.gY rfl rfl rfl ?_)
 (refine Jx.eqlAg true rfl rfl rfl rfl rfl rfl ⟨fun _ => rfl, fun _ => rfl⟩ rfl ?_)
 (refine Jx.pT rfl rfl rfl ?_)
 (refine Jx.assign rfl rfl (J.nil (N.seq (W.ret (N.noGotoRet ?_)))))
 (refine id ?_; rotate_left))
          exact N.retD (rs := [.tmp 6]) rfl (.tmp rfl .nil) (.cons _ (.cons _ (List.sublist_append_left [_, _, _, _] _))) ⟨rfl, rfl⟩
      · rw [e2] at c1
        rw [e1] at c2
        have hge : decide ((0 : Int) ≤ -1) = false := rfl
        rcases clashR_cls all with ⟨x, y, hx, hy, e3, e4⟩ | ⟨e3, e4⟩
        · rw [e4] at c3
          rw [e3] at c4
          have hy0 : ¬ (y : Int) < 0 := by omega
          focus (
 (refine W.seq (W.seq (W.region (Jx.move rfl rfl (Jx.move rfl rfl (Jx.lenSl rfl rfl ?_))))))
 (refine Jx.lssI rfl rfl rfl (J.nil (N.seq (W.cF rfl ?_))))
 (refine W.exit (N.seq (W.seq (W.region (Jx.move rfl rfl (Jx.move rfl rfl ?_))))))
 (refine J.drop (List.sublist_cons_self _ _) ?_; refine J.call (c1) rfl (evs_args rfl) rfl ?_; rintro _ _ ⟨rfl, rfl⟩; simp only [la1, la2, la3])
 (refine Jx.move rfl rfl (Jx.extract rfl rfl rfl ?_))
 (refine Jx.extract rfl rfl rfl ?_)
 (refine J.alloc (by simp only [List.map_cons, List.map_nil]; rfl) rfl rfl ?_; intro b')
 (refine J.storeAll rfl rfl rfl 0 rfl rfl rfl ?_)
 (refine Jx.assign rfl rfl (J.nil (N.seq (W.seq (W.region (Jx.move rfl rfl (Jx.move rfl rfl ?_)))))))
 (refine J.call (c2) rfl (evs_args rfl) rfl ?_; rintro _ _ ⟨rfl, rfl⟩; simp only [la1, la2, la3])
 (refine Jx.assign rfl rfl (J.nil (N.seq (W.seq (W.seq ?_)))))
 (refine W.draw follows ?_)
 (refine JD.calm rfl (by decide +kernel) ?_)
 (refine Cx.move rfl rfl ?_)
 (refine Cx.move rfl rfl ?_)
 (refine Cx.geqI rfl rfl rfl ?_; rw [hge])
 (refine Cx.neqB rfl rfl rfl ?_)
 (refine Cx.move rfl rfl ?_)
 (refine SegC.gY rfl rfl rfl ?_)
 (refine Cx.move rfl rfl ?_)
 (refine SegC.gY rfl rfl rfl ?_)
 (refine Cx.move rfl rfl ?_)
 (refine SegC.gU rfl rfl rfl rfl ?_)
 (refine SegC.gU rfl rfl rfl rfl ?_)
 (refine SegC.gU rfl rfl rfl rfl ?_)
 (refine SegC.gU rfl rfl rfl rfl ?_)
 (refine SegC.gU rfl rfl rfl rfl ?_)
 (refine SegC.gU rfl rfl rfl rfl ?_)
 (refine SegC.gY rfl rfl rfl ?_)
 (refine Cx.pickF rfl (by first | rfl | assumption | (exact decide_eq_true (by first | assumption | omega | rfl)) | (exact decide_eq_false (by first | assumption | omega | rfl)) | (simp; done) | (simp; omega)) rfl rfl ?_)
 (refine Cx.pickF rfl (by first | rfl | assumption | (exact decide_eq_true (by first | assumption | omega | rfl)) | (exact decide_eq_false (by first | assumption | omega | rfl)) | (simp; done) | (simp; omega)) rfl rfl ?_)
 (refine Cx.move rfl rfl ?_)
 (refine SegC.gY rfl rfl rfl ?_)
 (refine Cx.move rfl rfl ?_)
 (refine SegC.gY rfl rfl rfl ?_)
 (refine Cx.not rfl rfl ?_)
 (refine SegC.gY rfl rfl rfl ?_)
 (refine Cx.move rfl rfl ?_)
 (refine SegC.gY rfl rfl rfl ?_)
 (refine Cx.loadAll rfl 0 rfl rfl rfl ?_)
 (refine SegC.gY rfl rfl rfl ?_)
 (refine Cx.build (by repeat (first | exact Args.nil | refine' Args.cons rfl ?_)) (by repeat (first | exact AllOK.nil | refine AllOK.cons (by first | exact .agg | exact .one (.val rfl) | exact .one .sl | exact .one .pp) ?_)) rfl (by simp [fillS, cellsS]; rfl) rfl ?_)
 (refine SegC.gY rfl rfl rfl ?_)
 (refine Cx.neqAg true rfl rfl rfl rfl rfl rfl ⟨fun _ => rfl, fun _ => rfl⟩ rfl ?_)
 (refine SegC.gY rfl rfl rfl ?_)
 (refine Cx.pickT rfl (by first | rfl | assumption | (exact decide_eq_true (by first | assumption | omega | rfl)) | (exact decide_eq_false (by first | assumption | omega | rfl)) | (simp; done) | (simp; omega)) rfl rfl ?_)
 (refine Cx.pickF rfl (by first | rfl | assumption | (exact decide_eq_true (by first | assumption | omega | rfl)) | (exact decide_eq_false (by first | assumption | omega | rfl)) | (simp; done) | (simp; omega)) rfl rfl ?_)
 (refine SegC.nil ?_)
 (refine N.seq (W.cF rfl ?_))
 (refine W.skip (N.seq (W.seq (W.region (Jx.move rfl rfl ?_)))))
 (refine J.perm (List.perm_append_comm (l₁ := [_]) (l₂ := [_, _, _, _])) ?_; refine J.call (c3) rfl (evs_args rfl) rfl ?_; rintro _ _ ⟨rfl, rfl⟩; simp only [la1, la2, la3])
 (refine Jx.move rfl rfl (Jx.extract rfl rfl rfl ?_))
 (refine Jx.extract rfl rfl rfl ?_)
 (refine Jx.extract rfl rfl rfl ?_)
 (refine J.alloc (by simp only [List.map_cons, List.map_nil]; rfl) rfl rfl ?_; intro b')
 (refine J.alloc (by simp only [List.map_cons, List.map_nil]; rfl) rfl rfl ?_; intro b')
 (refine J.storeAll rfl rfl rfl 1 rfl rfl rfl ?_)
 (refine J.storeAll rfl rfl rfl 0 rfl rfl rfl ?_)
 (refine Jx.assign rfl rfl (J.nil (N.seq (W.seq (W.region (Jx.move rfl rfl ?_))))))
 (refine J.call (c4) rfl (evs_args rfl) rfl ?_; rintro _ _ ⟨rfl, rfl⟩; simp only [la1, la2, la3])
 (refine Jx.move rfl rfl (Jx.extract rfl rfl rfl ?_))
 (refine Jx.extract rfl rfl rfl ?_)
 (refine Jx.assign rfl rfl (Jx.assign rfl rfl (J.nil (N.seq (W.seq (W.seq (W.region (Jx.move rfl rfl (Jx.lssI rfl rfl rfl (J.nil (N.seq (W.cF rfl ?_))))))))))))
 (refine W.skip (N.seq (W.seq ?_)))
 (refine W.draw follows ?_)
 (refine JD.calm rfl (by decide +kernel) ?_)
 (refine Cx.move rfl rfl ?_)
 (refine Cx.move rfl rfl ?_)
 (refine SegC.gY rfl rfl rfl ?_)
 (refine Cx.loadAll rfl 1 rfl rfl rfl ?_)
 (refine SegC.gY rfl rfl rfl ?_)
 (refine Cx.move rfl rfl ?_)
 (refine SegC.gY rfl rfl rfl ?_)
 (refine Cx.move rfl rfl ?_)
 (refine SegC.gY rfl rfl rfl ?_)
 (refine Cx.indexEl rfl rfl (by assumption) rfl rfl ?_)
 (refine SegC.gY rfl rfl rfl ?_)
 (refine Cx.loadPPall rfl rfl rfl ?_)
 (refine SegC.gY rfl rfl rfl ?_)
 (refine Cx.eqlAg true rfl rfl rfl rfl rfl rfl ⟨fun _ => rfl, fun _ => rfl⟩ rfl ?_)
 (refine Cx.pickT rfl (by first | rfl | assumption | (exact decide_eq_true (by first | assumption | omega | rfl)) | (exact decide_eq_false (by first | assumption | omega | rfl)) | (simp; done) | (simp; omega)) rfl rfl ?_)
 (refine Cx.move rfl rfl ?_)
 (refine SegC.gY rfl rfl rfl ?_)
 (refine Cx.loadAll rfl 0 rfl rfl rfl ?_)
 (refine SegC.gY rfl rfl rfl ?_)
 (refine Cx.move rfl rfl ?_)
 (refine SegC.gY rfl rfl rfl ?_)
 (refine Cx.move rfl rfl ?_)
 (refine SegC.gY rfl rfl rfl ?_)
 (refine Cx.indexEl rfl rfl (by assumption) rfl rfl ?_)
 (refine SegC.gY rfl rfl rfl ?_)
 (refine Cx.loadPPall rfl rfl rfl ?_)
 (refine SegC.gY rfl rfl rfl ?_)
 (refine Cx.eqlAg true rfl rfl rfl rfl rfl rfl ⟨fun _ => rfl, fun _ => rfl⟩ rfl ?_)
 (refine Cx.pickT rfl (by first | rfl | assumption | (exact decide_eq_true (by first | assumption | omega | rfl)) | (exact decide_eq_false (by first | assumption | omega | rfl)) | (simp; done) | (simp; omega)) rfl rfl ?_)
 (refine Cx.assign rfl rfl ?_)
 (refine SegC.nil ?_)
 (refine N.seq (W.ret ?_))
 (refine id ?_; rotate_left))
          exact N.retD (rs := [.tmp 6]) rfl (.tmp rfl .nil) (.cons _ (.cons _ (List.sublist_append_left [_, _, _, _] _))) ⟨rfl, rfl⟩
        · rw [e4] at c3
          rw [e3] at c4
          focus (
 (refine W.seq (W.seq (W.region (Jx.move rfl rfl (Jx.move rfl rfl (Jx.lenSl rfl rfl ?_))))))
 (refine Jx.lssI rfl rfl rfl (J.nil (N.seq (W.cF rfl ?_))))
 (refine W.exit (N.seq (W.seq (W.region (Jx.move rfl rfl (Jx.move rfl rfl ?_))))))
 (refine J.drop (List.sublist_cons_self _ _) ?_; refine J.call (c1) rfl (evs_args rfl) rfl ?_; rintro _ _ ⟨rfl, rfl⟩; simp only [la1, la2, la3])
 (refine Jx.move rfl rfl (Jx.extract rfl rfl rfl ?_))
 (refine Jx.extract rfl rfl rfl ?_)
 (refine J.alloc (by simp only [List.map_cons, List.map_nil]; rfl) rfl rfl ?_; intro b')
 (refine J.storeAll rfl rfl rfl 0 rfl rfl rfl ?_)
 (refine Jx.assign rfl rfl (J.nil (N.seq (W.seq (W.region (Jx.move rfl rfl (Jx.move rfl rfl ?_)))))))
 (refine J.call (c2) rfl (evs_args rfl) rfl ?_; rintro _ _ ⟨rfl, rfl⟩; simp only [la1, la2, la3])
 (refine Jx.assign rfl rfl (J.nil (N.seq (W.seq (W.seq ?_)))))
 (refine W.draw follows ?_)
 (refine JD.calm rfl (by decide +kernel) ?_)
 (refine Cx.move rfl rfl ?_)
 (refine Cx.move rfl rfl ?_)
 (refine Cx.geqI rfl rfl rfl ?_; rw [hge])
 (refine Cx.neqB rfl rfl rfl ?_)
 (refine Cx.move rfl rfl ?_)
 (refine SegC.gY rfl rfl rfl ?_)
 (refine Cx.move rfl rfl ?_)
 (refine SegC.gY rfl rfl rfl ?_)
 (refine Cx.move rfl rfl ?_)
 (refine SegC.gU rfl rfl rfl rfl ?_)
 (refine SegC.gU rfl rfl rfl rfl ?_)
 (refine SegC.gU rfl rfl rfl rfl ?_)
 (refine SegC.gU rfl rfl rfl rfl ?_)
 (refine SegC.gU rfl rfl rfl rfl ?_)
 (refine SegC.gU rfl rfl rfl rfl ?_)
 (refine SegC.gY rfl rfl rfl ?_)
 (refine Cx.pickF rfl (by first | rfl | assumption | (exact decide_eq_true (by first | assumption | omega | rfl)) | (exact decide_eq_false (by first | assumption | omega | rfl)) | (simp; done) | (simp; omega)) rfl rfl ?_)
 (refine Cx.pickF rfl (by first | rfl | assumption | (exact decide_eq_true (by first | assumption | omega | rfl)) | (exact decide_eq_false (by first | assumption | omega | rfl)) | (simp; done) | (simp; omega)) rfl rfl ?_)
 (refine Cx.move rfl rfl ?_)
 (refine SegC.gY rfl rfl rfl ?_)
 (refine Cx.move rfl rfl ?_)
 (refine SegC.gY rfl rfl rfl ?_)
 (refine Cx.not rfl rfl ?_)
 (refine SegC.gY rfl rfl rfl ?_)
 (refine Cx.move rfl rfl ?_)
 (refine SegC.gY rfl rfl rfl ?_)
 (refine Cx.loadAll rfl 0 rfl rfl rfl ?_)
 (refine SegC.gY rfl rfl rfl ?_)
 (refine Cx.build (by repeat (first | exact Args.nil | refine' Args.cons rfl ?_)) (by repeat (first | exact AllOK.nil | refine AllOK.cons (by first | exact .agg | exact .one (.val rfl) | exact .one .sl | exact .one .pp) ?_)) rfl (by simp [fillS, cellsS]; rfl) rfl ?_)
 (refine SegC.gY rfl rfl rfl ?_)
 (refine Cx.neqAg true rfl rfl rfl rfl rfl rfl ⟨fun _ => rfl, fun _ => rfl⟩ rfl ?_)
 (refine SegC.gY rfl rfl rfl ?_)
 (refine Cx.pickT rfl (by first | rfl | assumption | (exact decide_eq_true (by first | assumption | omega | rfl)) | (exact decide_eq_false (by first | assumption | omega | rfl)) | (simp; done) | (simp; omega)) rfl rfl ?_)
 (refine Cx.pickF rfl (by first | rfl | assumption | (exact decide_eq_true (by first | assumption | omega | rfl)) | (exact decide_eq_false (by first | assumption | omega | rfl)) | (simp; done) | (simp; omega)) rfl rfl ?_)
 (refine SegC.nil ?_)
 (refine N.seq (W.cF rfl ?_))
 (refine W.skip (N.seq (W.seq (W.region (Jx.move rfl rfl ?_)))))
 (refine J.perm (List.perm_append_comm (l₁ := [_]) (l₂ := [_, _, _, _])) ?_; refine J.call (c3) rfl (evs_args rfl) rfl ?_; rintro _ _ ⟨rfl, rfl⟩; simp only [la1, la2, la3])
 (refine Jx.move rfl rfl (Jx.extract rfl rfl rfl ?_))
 (refine Jx.extract rfl rfl rfl ?_)
 (refine Jx.extract rfl rfl rfl ?_)
 (refine J.alloc (by simp only [List.map_cons, List.map_nil]; rfl) rfl rfl ?_; intro b')
 (refine J.alloc (by simp only [List.map_cons, List.map_nil]; rfl) rfl rfl ?_; intro b')
 (refine J.storeAll rfl rfl rfl 1 rfl rfl rfl ?_)
 (refine J.storeAll rfl rfl rfl 0 rfl rfl rfl ?_)
 (refine Jx.assign rfl rfl (J.nil (N.seq (W.seq (W.region (Jx.move rfl rfl ?_))))))
 (refine J.call (c4) rfl (evs_args rfl) rfl ?_; rintro _ _ ⟨rfl, rfl⟩; simp only [la1, la2, la3])
 (refine Jx.move rfl rfl (Jx.extract rfl rfl rfl ?_))
 (refine Jx.extract rfl rfl rfl ?_)
 (refine Jx.assign rfl rfl (Jx.assign rfl rfl (J.nil (N.seq (W.seq (W.seq (W.region (Jx.move rfl rfl (Jx.lssI rfl rfl rfl (J.nil (N.seq (W.cT rfl ?_))))))))))))
 (refine W.seq (W.region (Jx.move rfl rfl (Jx.not rfl rfl (Jx.move rfl rfl (J.gY rfl rfl rfl ?_))))))
 (refine Jx.loadAll rfl 1 rfl rfl rfl ?_)
 (refine J.gY rfl rfl rfl ?_)
 (refine Jx.buildB rfl rfl rfl rfl rfl ?_)
 (refine J.gY rfl rfl rfl ?_)
 (refine Jx.eqlAg true rfl rfl rfl rfl rfl rfl ⟨fun _ => rfl, fun _ => rfl⟩ rfl ?_)
 (refine Jx.pT rfl rfl rfl ?_)
 (refine Jx.move rfl rfl (J.gY rfl rfl rfl ?_))
 (refine Jx.loadAll rfl 0 rfl rfl rfl ?_)
 (refine J.gY rfl rfl rfl ?_)
 (refine Jx.buildB rfl rfl rfl rfl rfl ?_)
 (refine J.gY rfl rfl rfl ?_)
 (refine Jx.eqlAg true rfl rfl rfl rfl rfl rfl ⟨fun _ => rfl, fun _ => rfl⟩ rfl ?_)
 (refine Jx.pT rfl rfl rfl ?_)
 (refine Jx.assign rfl rfl (J.nil (N.seq (W.ret (N.noGotoRet ?_)))))
 (refine id ?_; rotate_left))
          exact N.retD (rs := [.tmp 6]) rfl (.tmp rfl .nil) (.cons _ (.cons _ (List.sublist_append_left [_, _, _, _] _))) ⟨rfl, rfl⟩
end Go.Proofs.YtafefapbiekmbaaDoor
namespace Go.Proofs.YtafefapbiekmbaaDoor
open Go Go.Sse
set_option linter.unusedVariables false
set_option linter.unusedSimpArgs false
set_option maxRecDepth 10000
structure St where
  own : Bool
  note : Nt
def st0 : St := ⟨false, nt0⟩
def stC (x : St) : List SV := bool x.own :: ntC x.note
abbrev stL (l : List St) : SV := .sl 4 l.length (elOf stC st0 l)
theorem putR_len (all : List Nt) (n : Nt) : (putR all n).2.length ≤ all.length + 1 := by
  by_cases h : (putR all n).1 = 0
  · obtain ⟨_, e⟩ := putR_yes h
    rw [e]; split <;> simp
  · rw [putR_no h]; omega
theorem dsumR_bad {tag : Int} {s : List UInt8} (h : tag < 1 ∨ 255 < tag) : dsumR tag s = ([], 1) := by
  unfold dsumR
  by_cases h1 : tag < 1
  · rw [if_pos h1]
  · rw [if_neg h1, if_pos (by omega)]
set_option maxHeartbeats 8000000 in
theorem digestLogs_ok (l : List St) (sum : List UInt8) : FnC Tryd.prog 7 [stL l, str sum] [] (fun r L => r = bool true ∧ L = []) := by
  have cw := dworks_ok
  refine FnC.intro Tryd.func7 rfl Tryd.ntmps7 rfl fun Z w0 hG => ?_
  focus (
 (refine W.seq (W.region (Jx.assign rfl rfl (J.nil (N.seq (W.seq (W.region ?_)))))))
 (refine J.call (newLog_ok) rfl (evs_args rfl) rfl ?_; rintro _ _ ⟨b, mt, mf, rfl, rfl⟩; simp only [la1, la2, la3])
 (refine Jx.assign rfl rfl (J.nil (N.seq (W.seq (W.seq (W.region (Jx.move rfl rfl (Jx.eqlNil rfl rfl ?_))))))))
 (refine J.nil (N.seq (W.cF rfl ?_)))
 (refine W.skip (N.seq (W.seq (W.region (Jx.assign rfl rfl (J.nil (N.seq (W.seq (W.seq (W.region (Jx.assign rfl rfl (J.nil (N.seq (W.block ?_))))))))))))))
 (refine id ?_; rotate_left))
  refine W.rowNil tNt 3 (elOf ntC nt0 []) ?_
  refine W.freezeAt 0 6 rfl rfl (by decide) ?_
  refine W.loop (α := Nat × Value × List Nt × List (Nt × Value) × List (List UInt8 × Value)) (fun x => [(7, int (x.1 : Int)), (0, stL l), (1, str sum), (5, ptr b), (6, ntL x.2.2.1)]) (fun x => logO b x.2.1 mt mf x.2.2.1 x.2.2.2.1 x.2.2.2.2) (fun x => x.1 ≤ l.length ∧ x.1 ≤ 30 ∧ x.2.2.1.length ≤ x.1 ∧ LogInv x.2.2.1 x.2.2.2.1 x.2.2.2.2 ∧ Nil0 x.2.1 x.2.2.1) (fun x => 30 - x.1) (0, .slice none 0 0, [], [], []) ⟨by simp, by simp, by simp, inv_nil, fun _ => rfl⟩ rfl ⟨ref0 rfl, ref0 rfl, ref0 rfl, ref0 rfl, ref0 rfl, trivial⟩ ?_
  rintro ⟨i, v, all, M, K⟩ ⟨hi, h30, hal, hI, hN⟩
  simp only at hi h30 hal hI hN ⊢
  by_cases h1 : i < l.length
  · have h1' : (i : Int) < (l.length : Int) := by omega
    by_cases h2 : i < 30
    · have h2' : (i : Int) < 30 := by omega
      have hl : all.length < 1024 := by omega
      by_cases h3 : 100 < (l.getD i st0).note.text.length
      · have h3' : (100 : Int) < ((l.getD i st0).note.text.length : Int) := by omega
        focus (
 (refine W.seq (W.seq (W.region (Jx.move rfl rfl (Jx.move rfl rfl (Jx.lenSl rfl rfl ?_))))))
 (refine Jx.lssI rfl rfl rfl (Jx.move rfl rfl (J.gY rfl rfl rfl ?_)))
 (refine Jx.move rfl rfl (J.gY rfl rfl rfl ?_))
 (refine Jx.lssI rfl rfl rfl (Jx.pT rfl rfl rfl ?_))
 (refine J.nil (N.seq (W.cT rfl ?_)))
 (refine W.skip (N.seq (W.seq (W.block (W.seq (W.region (Jx.move rfl rfl (Jx.move rfl rfl (Jx.indexEl rfl rfl (by assumption) rfl rfl ?_)))))))))
 (refine Jx.fieldEl rfl rfl rfl ?_)
 (refine Jx.loadPPall rfl rfl rfl ?_)
 (refine J.alloc (by simp only [List.map_cons, List.map_nil]; rfl) rfl rfl ?_; intro b')
 (refine J.storeAll rfl rfl rfl 0 rfl rfl rfl ?_)
 (refine J.nil (N.seq (W.seq (W.seq (W.region (Jx.fieldAddr rfl rfl ?_))))))
 (refine Jx.load rfl 0 rfl rfl rfl ?_)
 (refine Jx.lenS rfl rfl ?_)
 (refine Jx.gtrI rfl rfl rfl (Jx.move rfl rfl (J.gN rfl rfl rfl rfl ?_)))
 (refine J.gN rfl rfl rfl rfl ?_)
 (refine J.gN rfl rfl rfl rfl ?_)
 (refine J.gN rfl rfl rfl rfl ?_)
 (refine Jx.pT rfl rfl rfl ?_)
 (refine J.nil (N.seq (W.cT rfl ?_)))
 (refine W.exit (N.seq (W.region (Jx.move rfl rfl (Jx.add64 rfl rfl (by omega) rfl ?_)))))
 (refine Jx.assign rfl rfl (J.nil ?_))
 (refine id ?_; rotate_left))
        refine N.drop (List.sublist_cons_self _ _) ?_
        exact N.round (i + 1, v, all, M, K) ⟨by simp only; omega, by simp only; omega, by simp only; omega, hI, hN⟩ (by simp only; omega) rfl ⟨ref0 rfl, ref0 rfl, ref0 rfl, ref0 rfl, ref0 rfl, trivial⟩
      have h3' : ¬ (100 : Int) < ((l.getD i st0).note.text.length : Int) := by omega
      by_cases h4 : 100 < (l.getD i st0).note.digest.length
      · have h4' : (100 : Int) < ((l.getD i st0).note.digest.length : Int) := by omega
        focus (
 (refine W.seq (W.seq (W.region (Jx.move rfl rfl (Jx.move rfl rfl (Jx.lenSl rfl rfl ?_))))))
 (refine Jx.lssI rfl rfl rfl (Jx.move rfl rfl (J.gY rfl rfl rfl ?_)))
 (refine Jx.move rfl rfl (J.gY rfl rfl rfl ?_))
 (refine Jx.lssI rfl rfl rfl (Jx.pT rfl rfl rfl ?_))
 (refine J.nil (N.seq (W.cT rfl ?_)))
 (refine W.skip (N.seq (W.seq (W.block (W.seq (W.region (Jx.move rfl rfl (Jx.move rfl rfl (Jx.indexEl rfl rfl (by assumption) rfl rfl ?_)))))))))
 (refine Jx.fieldEl rfl rfl rfl ?_)
 (refine Jx.loadPPall rfl rfl rfl ?_)
 (refine J.alloc (by simp only [List.map_cons, List.map_nil]; rfl) rfl rfl ?_; intro b')
 (refine J.storeAll rfl rfl rfl 0 rfl rfl rfl ?_)
 (refine J.nil (N.seq (W.seq (W.seq (W.region (Jx.fieldAddr rfl rfl ?_))))))
 (refine Jx.load rfl 0 rfl rfl rfl ?_)
 (refine Jx.lenS rfl rfl ?_)
 (refine Jx.gtrI rfl rfl rfl (Jx.move rfl rfl (J.gY rfl rfl rfl ?_)))
 (refine Jx.fieldAddr rfl rfl ?_)
 (refine J.gY rfl rfl rfl ?_)
 (refine Jx.load rfl 0 rfl rfl rfl ?_)
 (refine J.gY rfl rfl rfl ?_)
 (refine Jx.lenS rfl rfl ?_)
 (refine J.gY rfl rfl rfl ?_)
 (refine Jx.gtrI rfl rfl rfl (Jx.pF rfl rfl rfl ?_))
 (refine J.nil (N.seq (W.cT rfl ?_)))
 (refine W.exit (N.seq (W.region (Jx.move rfl rfl (Jx.add64 rfl rfl (by omega) rfl ?_)))))
 (refine Jx.assign rfl rfl (J.nil ?_))
 (refine id ?_; rotate_left))
        refine N.drop (List.sublist_cons_self _ _) ?_
        exact N.round (i + 1, v, all, M, K) ⟨by simp only; omega, by simp only; omega, by simp only; omega, hI, hN⟩ (by simp only; omega) rfl ⟨ref0 rfl, ref0 rfl, ref0 rfl, ref0 rfl, ref0 rfl, trivial⟩
      have h4' : ¬ (100 : Int) < ((l.getD i st0).note.digest.length : Int) := by omega
      have hln := putR_len all (l.getD i st0).note
      cases ho : (l.getD i st0).own with
      | false =>
        have cr := rput_ok all (l.getD i st0).note hl
        have cp := put_ok b v mt mf all M K (l.getD i st0).note hI hl
        generalize hpr : putR all (l.getD i st0).note = pr at *
        obtain ⟨e, all2⟩ := pr
        simp only at cr cp hln
        have ct := fun v M K (a : LogInv all2 M K) (c : Nil0 v all2) s => tells_ok b v mt mf all2 M K a c (by omega) s
        have hee : decide (e ≠ e) = false := decide_eq_false (fun h => h rfl)
        focus (
 (refine W.seq (W.seq (W.region (Jx.move rfl rfl (Jx.move rfl rfl (Jx.lenSl rfl rfl ?_))))))
 (refine Jx.lssI rfl rfl rfl (Jx.move rfl rfl (J.gY rfl rfl rfl ?_)))
 (refine Jx.move rfl rfl (J.gY rfl rfl rfl ?_))
 (refine Jx.lssI rfl rfl rfl (Jx.pT rfl rfl rfl ?_))
 (refine J.nil (N.seq (W.cT rfl ?_)))
 (refine W.skip (N.seq (W.seq (W.block (W.seq (W.region (Jx.move rfl rfl (Jx.move rfl rfl (Jx.indexEl rfl rfl (by assumption) rfl rfl ?_)))))))))
 (refine Jx.fieldEl rfl rfl rfl ?_)
 (refine Jx.loadPPall rfl rfl rfl ?_)
 (refine J.alloc (by simp only [List.map_cons, List.map_nil]; rfl) rfl rfl ?_; intro b')
 (refine J.storeAll rfl rfl rfl 0 rfl rfl rfl ?_)
 (refine J.nil (N.seq (W.seq (W.seq (W.region (Jx.fieldAddr rfl rfl ?_))))))
 (refine Jx.load rfl 0 rfl rfl rfl ?_)
 (refine Jx.lenS rfl rfl ?_)
 (refine Jx.gtrI rfl rfl rfl (Jx.move rfl rfl (J.gY rfl rfl rfl ?_)))
 (refine Jx.fieldAddr rfl rfl ?_)
 (refine J.gY rfl rfl rfl ?_)
 (refine Jx.load rfl 0 rfl rfl rfl ?_)
 (refine J.gY rfl rfl rfl ?_)
 (refine Jx.lenS rfl rfl ?_)
 (refine J.gY rfl rfl rfl ?_)
 (refine Jx.gtrI rfl rfl rfl (Jx.pF rfl rfl rfl ?_))
 (refine J.nil (N.seq (W.cF rfl ?_)))
 (refine W.skip (N.seq (W.seq (W.region (Jx.assign rfl rfl (Jx.assign rfl rfl (J.nil (N.seq (W.seq (W.seq (W.region (Jx.move rfl rfl (Jx.move rfl rfl (Jx.indexEl rfl rfl (by assumption) rfl rfl ?_))))))))))))))
 (refine Jx.fieldEl rfl rfl rfl ?_)
 (refine Jx.loadPP rfl rfl ?_; rw [ho])
 (refine J.nil (N.seq (W.cF rfl ?_)))
 (refine W.seq (W.region (Jx.move rfl rfl (Jx.loadAll rfl 0 rfl rfl rfl ?_))))
 (refine J.call (cr) rfl (evs_args rfl) rfl ?_; rintro _ _ ⟨rfl, rfl⟩; simp only [la1, la2, la3])
 (refine Jx.move rfl rfl (Jx.extract rfl rfl rfl ?_))
 (refine Jx.extract rfl rfl rfl ?_)
 (refine Jx.assign rfl rfl (Jx.assign rfl rfl (J.nil (N.seq (W.region (Jx.move rfl rfl (Jx.loadAll rfl 0 rfl rfl rfl ?_)))))))
 (refine J.perm (List.perm_append_comm (l₁ := [_]) (l₂ := [_, _, _, _])) ?_; refine J.call cp rfl (evs_args rfl) rfl ?_; rintro _ _ ⟨v2, M2, K2, rfl, rfl, hI2, hN2⟩; simp only [List.cons_append, List.nil_append])
 (refine Jx.assign rfl rfl (J.nil (N.seq (W.seq (W.region (Jx.move rfl rfl (Jx.move rfl rfl ?_)))))))
 (refine Jx.neqI rfl rfl rfl ?_; rw [hee])
 (refine Jx.move rfl rfl (J.gY rfl rfl rfl ?_))
 (refine Jx.move rfl rfl (J.gY rfl rfl rfl ?_))
 (refine Jx.move rfl rfl (J.gY rfl rfl rfl ?_))
 (refine Jx.fieldAddr rfl rfl ?_)
 (refine J.gY rfl rfl rfl ?_)
 (refine Jx.load rfl 4 rfl rfl rfl ?_)
 (refine J.gY rfl rfl rfl ?_)
 (refine J.call ((ct v2 M2 K2 hI2 (hN2 hN) (l.getD i st0).note.digest)) rfl (evs_args rfl) rfl ?_; rintro _ _ ⟨rfl, rfl⟩; simp only [la1, la2, la3])
 (refine J.gY rfl rfl rfl ?_)
 (refine Jx.not rfl rfl (Jx.pF rfl rfl rfl ?_))
 (refine Jx.move rfl rfl (J.gY rfl rfl rfl ?_))
 (refine Jx.move rfl rfl (J.gY rfl rfl rfl ?_))
 (refine Jx.move rfl rfl (J.gY rfl rfl rfl ?_))
 (refine Jx.move rfl rfl (J.gY rfl rfl rfl ?_))
 (refine J.call ((ct v2 M2 K2 hI2 (hN2 hN) sum)) rfl (evs_args rfl) rfl ?_; rintro _ _ ⟨rfl, rfl⟩; simp only [la1, la2, la3])
 (refine J.gY rfl rfl rfl ?_)
 (refine Jx.not rfl rfl (Jx.pF rfl rfl rfl ?_))
 (refine J.nil (N.seq (W.cF rfl ?_)))
 (refine W.skip (N.seq (W.region (Jx.move rfl rfl (Jx.add64 rfl rfl (by omega) rfl ?_)))))
 (refine Jx.assign rfl rfl (J.nil ?_))
 (refine id ?_; rotate_left))
        refine N.drop (List.sublist_append_left [_, _, _, _] _) ?_
        exact N.round (i + 1, v2, all2, M2, K2) ⟨by simp only; omega, by simp only; omega, by simp only; omega, hI2, hN2 hN⟩ (by simp only; omega) rfl ⟨ref0 rfl, ref0 rfl, ref0 rfl, ref0 rfl, ref0 rfl, trivial⟩
      | true =>
        by_cases hb : (l.getD i st0).note.tag < 1 ∨ 255 < (l.getD i st0).note.tag
        · have c1 := dsumR_ok (l.getD i st0).note.tag (l.getD i st0).note.text (by omega)
          have c2 := note_bad b (l.getD i st0).note.tag (l.getD i st0).note.text [] (dsumR_bad hb) (by omega)
          rw [dsumR_bad hb] at c1
          have ct := fun s => tells_ok b v mt mf all M K hI hN (by omega) s
          focus (
 (refine W.seq (W.seq (W.region (Jx.move rfl rfl (Jx.move rfl rfl (Jx.lenSl rfl rfl ?_))))))
 (refine Jx.lssI rfl rfl rfl (Jx.move rfl rfl (J.gY rfl rfl rfl ?_)))
 (refine Jx.move rfl rfl (J.gY rfl rfl rfl ?_))
 (refine Jx.lssI rfl rfl rfl (Jx.pT rfl rfl rfl ?_))
 (refine J.nil (N.seq (W.cT rfl ?_)))
 (refine W.skip (N.seq (W.seq (W.block (W.seq (W.region (Jx.move rfl rfl (Jx.move rfl rfl (Jx.indexEl rfl rfl (by assumption) rfl rfl ?_)))))))))
 (refine Jx.fieldEl rfl rfl rfl ?_)
 (refine Jx.loadPPall rfl rfl rfl ?_)
 (refine J.alloc (by simp only [List.map_cons, List.map_nil]; rfl) rfl rfl ?_; intro b')
 (refine J.storeAll rfl rfl rfl 0 rfl rfl rfl ?_)
 (refine J.nil (N.seq (W.seq (W.seq (W.region (Jx.fieldAddr rfl rfl ?_))))))
 (refine Jx.load rfl 0 rfl rfl rfl ?_)
 (refine Jx.lenS rfl rfl ?_)
 (refine Jx.gtrI rfl rfl rfl (Jx.move rfl rfl (J.gY rfl rfl rfl ?_)))
 (refine Jx.fieldAddr rfl rfl ?_)
 (refine J.gY rfl rfl rfl ?_)
 (refine Jx.load rfl 0 rfl rfl rfl ?_)
 (refine J.gY rfl rfl rfl ?_)
 (refine Jx.lenS rfl rfl ?_)
 (refine J.gY rfl rfl rfl ?_)
 (refine Jx.gtrI rfl rfl rfl (Jx.pF rfl rfl rfl ?_))
 (refine J.nil (N.seq (W.cF rfl ?_)))
 (refine W.skip (N.seq (W.seq (W.region (Jx.assign rfl rfl (Jx.assign rfl rfl (J.nil (N.seq (W.seq (W.seq (W.region (Jx.move rfl rfl (Jx.move rfl rfl (Jx.indexEl rfl rfl (by assumption) rfl rfl ?_))))))))))))))
 (refine Jx.fieldEl rfl rfl rfl ?_)
 (refine Jx.loadPP rfl rfl ?_; rw [ho])
 (refine J.nil (N.seq (W.cT rfl ?_)))
 (refine W.seq (W.region (Jx.fieldAddr rfl rfl ?_)))
 (refine Jx.load rfl 0 rfl rfl rfl ?_)
 (refine Jx.fieldAddr rfl rfl ?_)
 (refine Jx.load rfl 0 rfl rfl rfl ?_)
 (refine J.call (c1) rfl (evs_args rfl) rfl ?_; rintro _ _ ⟨rfl, rfl⟩; simp only [la1, la2, la3])
 (refine Jx.move rfl rfl (Jx.extract rfl rfl rfl ?_))
 (refine Jx.extract rfl rfl rfl ?_)
 (refine Jx.assign rfl rfl (Jx.assign rfl rfl (J.nil (N.seq (W.seq (W.region (Jx.move rfl rfl (Jx.fieldAddr rfl rfl ?_))))))))
 (refine Jx.load rfl 0 rfl rfl rfl ?_)
 (refine Jx.fieldAddr rfl rfl ?_)
 (refine Jx.load rfl 0 rfl rfl rfl ?_)
 (refine J.call (c2) rfl (evs_args rfl) rfl ?_; rintro _ _ ⟨rfl, rfl⟩; simp only [la1, la2, la3])
 (refine Jx.move rfl rfl (Jx.extract rfl rfl rfl ?_))
 (refine Jx.extract rfl rfl rfl ?_)
 (refine Jx.assign rfl rfl (Jx.assign rfl rfl (J.nil (N.seq (W.seq (W.region (Jx.move rfl rfl (Jx.fieldAddr rfl rfl ?_))))))))
 (refine J.st 0 rfl rfl rfl rfl rfl rfl ?_)
 (refine J.nil (N.seq (W.seq (W.region (Jx.move rfl rfl (Jx.move rfl rfl (Jx.assign rfl rfl (Jx.assign rfl rfl (J.nil (N.seq (W.seq (W.seq (W.region (Jx.move rfl rfl ?_))))))))))))))
 (refine Jx.eqlI rfl rfl rfl (J.nil (N.seq (W.cF rfl ?_))))
 (refine W.skip (N.seq (W.seq (W.region (Jx.move rfl rfl (Jx.move rfl rfl (Jx.neqS rfl rfl rfl (J.nil (N.seq (W.cF rfl ?_))))))))))
 (refine W.skip (N.seq (W.seq (W.region (Jx.move rfl rfl (Jx.move rfl rfl (Jx.neqI rfl rfl rfl (Jx.move rfl rfl (J.gY rfl rfl rfl ?_)))))))))
 (refine Jx.move rfl rfl (J.gY rfl rfl rfl ?_))
 (refine Jx.move rfl rfl (J.gY rfl rfl rfl ?_))
 (refine Jx.fieldAddr rfl rfl ?_)
 (refine J.gY rfl rfl rfl ?_)
 (refine Jx.load rfl 0 rfl rfl rfl ?_)
 (refine J.gY rfl rfl rfl ?_)
 (refine J.perm (List.perm_append_comm (l₁ := [_]) (l₂ := [_, _, _, _])) ?_; refine J.call (ct []) rfl (evs_args rfl) rfl ?_; rintro _ _ ⟨rfl, rfl⟩; simp only [List.cons_append, List.nil_append])
 (refine J.gY rfl rfl rfl ?_)
 (refine Jx.not rfl rfl (Jx.pF rfl rfl rfl ?_))
 (refine Jx.move rfl rfl (J.gY rfl rfl rfl ?_))
 (refine Jx.move rfl rfl (J.gY rfl rfl rfl ?_))
 (refine Jx.move rfl rfl (J.gY rfl rfl rfl ?_))
 (refine Jx.move rfl rfl (J.gY rfl rfl rfl ?_))
 (refine J.call ((ct sum)) rfl (evs_args rfl) rfl ?_; rintro _ _ ⟨rfl, rfl⟩; simp only [la1, la2, la3])
 (refine J.gY rfl rfl rfl ?_)
 (refine Jx.not rfl rfl (Jx.pF rfl rfl rfl ?_))
 (refine J.nil (N.seq (W.cF rfl ?_)))
 (refine W.skip (N.seq (W.region (Jx.move rfl rfl (Jx.add64 rfl rfl (by omega) rfl ?_)))))
 (refine Jx.assign rfl rfl (J.nil ?_))
 (refine id ?_; rotate_left))
          refine N.drop (List.sublist_append_left [_, _, _, _] _) ?_
          exact N.round (i + 1, v, all, M, K) ⟨by simp only; omega, by simp only; omega, by simp only; omega, hI, hN⟩ (by simp only; omega) rfl ⟨ref0 rfl, ref0 rfl, ref0 rfl, ref0 rfl, ref0 rfl, trivial⟩
        · obtain ⟨m, hm⟩ : ∃ m : Nat, (l.getD i st0).note.tag = m := ⟨(l.getD i st0).note.tag.toNat, by omega⟩
          have c1 := dsum_ok m (l.getD i st0).note.text (by omega) (by omega) (by omega)
          have c2 := note_ok b v mt mf all M K hI hl m (l.getD i st0).note.text (by omega) (by omega) (by omega)
          have cr := rput_ok all ⟨m, (l.getD i st0).note.text, sumD m (l.getD i st0).note.text⟩ hl
          have hz := putR_own all m (l.getD i st0).note.text (by omega) (by omega)
          have hln := putR_len all ⟨m, (l.getD i st0).note.text, sumD m (l.getD i st0).note.text⟩
          rw [hz] at cr
          generalize (putR all ⟨m, (l.getD i st0).note.text, sumD m (l.getD i st0).note.text⟩).2 = all2 at *
          generalize sumD m (l.getD i st0).note.text = w at *
          rw [← hm] at c1 c2 cr
          have hww : decide (w ≠ w) = false := decide_eq_false (fun h => h rfl)
          have ct := fun v M K (a : LogInv all2 M K) (c : Nil0 v all2) s => tells_ok b v mt mf all2 M K a c (by omega) s
          focus (
 (refine W.seq (W.seq (W.region (Jx.move rfl rfl (Jx.move rfl rfl (Jx.lenSl rfl rfl ?_))))))
 (refine Jx.lssI rfl rfl rfl (Jx.move rfl rfl (J.gY rfl rfl rfl ?_)))
 (refine Jx.move rfl rfl (J.gY rfl rfl rfl ?_))
 (refine Jx.lssI rfl rfl rfl (Jx.pT rfl rfl rfl ?_))
 (refine J.nil (N.seq (W.cT rfl ?_)))
 (refine W.skip (N.seq (W.seq (W.block (W.seq (W.region (Jx.move rfl rfl (Jx.move rfl rfl (Jx.indexEl rfl rfl (by assumption) rfl rfl ?_)))))))))
 (refine Jx.fieldEl rfl rfl rfl ?_)
 (refine Jx.loadPPall rfl rfl rfl ?_)
 (refine J.alloc (by simp only [List.map_cons, List.map_nil]; rfl) rfl rfl ?_; intro b')
 (refine J.storeAll rfl rfl rfl 0 rfl rfl rfl ?_)
 (refine J.nil (N.seq (W.seq (W.seq (W.region (Jx.fieldAddr rfl rfl ?_))))))
 (refine Jx.load rfl 0 rfl rfl rfl ?_)
 (refine Jx.lenS rfl rfl ?_)
 (refine Jx.gtrI rfl rfl rfl (Jx.move rfl rfl (J.gY rfl rfl rfl ?_)))
 (refine Jx.fieldAddr rfl rfl ?_)
 (refine J.gY rfl rfl rfl ?_)
 (refine Jx.load rfl 0 rfl rfl rfl ?_)
 (refine J.gY rfl rfl rfl ?_)
 (refine Jx.lenS rfl rfl ?_)
 (refine J.gY rfl rfl rfl ?_)
 (refine Jx.gtrI rfl rfl rfl (Jx.pF rfl rfl rfl ?_))
 (refine J.nil (N.seq (W.cF rfl ?_)))
 (refine W.skip (N.seq (W.seq (W.region (Jx.assign rfl rfl (Jx.assign rfl rfl (J.nil (N.seq (W.seq (W.seq (W.region (Jx.move rfl rfl (Jx.move rfl rfl (Jx.indexEl rfl rfl (by assumption) rfl rfl ?_))))))))))))))
 (refine Jx.fieldEl rfl rfl rfl ?_)
 (refine Jx.loadPP rfl rfl ?_; rw [ho])
 (refine J.nil (N.seq (W.cT rfl ?_)))
 (refine W.seq (W.region (Jx.fieldAddr rfl rfl ?_)))
 (refine Jx.load rfl 0 rfl rfl rfl ?_)
 (refine Jx.fieldAddr rfl rfl ?_)
 (refine Jx.load rfl 0 rfl rfl rfl ?_)
 (refine J.call (c1) rfl (evs_args rfl) rfl ?_; rintro _ _ ⟨rfl, rfl⟩; simp only [la1, la2, la3])
 (refine Jx.move rfl rfl (Jx.extract rfl rfl rfl ?_))
 (refine Jx.extract rfl rfl rfl ?_)
 (refine Jx.assign rfl rfl (Jx.assign rfl rfl (J.nil (N.seq (W.seq (W.region (Jx.move rfl rfl (Jx.fieldAddr rfl rfl ?_))))))))
 (refine Jx.load rfl 0 rfl rfl rfl ?_)
 (refine Jx.fieldAddr rfl rfl ?_)
 (refine Jx.load rfl 0 rfl rfl rfl ?_)
 (refine J.perm (List.perm_append_comm (l₁ := [_]) (l₂ := [_, _, _, _])) ?_; refine J.call c2 rfl (evs_args rfl) rfl ?_; rintro _ _ ⟨v2, M2, K2, rfl, rfl, hI2, hN2⟩; simp only [List.cons_append, List.nil_append])
 (refine Jx.move rfl rfl (Jx.extract rfl rfl rfl ?_))
 (refine Jx.extract rfl rfl rfl ?_)
 (refine Jx.assign rfl rfl (Jx.assign rfl rfl (J.nil (N.seq (W.seq (W.region (Jx.move rfl rfl (Jx.fieldAddr rfl rfl ?_))))))))
 (refine J.st 4 rfl rfl rfl rfl rfl rfl ?_)
 (refine J.nil (N.seq (W.seq (W.region (Jx.move rfl rfl (Jx.move rfl rfl (Jx.assign rfl rfl (Jx.assign rfl rfl (J.nil (N.seq (W.seq (W.seq (W.region (Jx.move rfl rfl ?_))))))))))))))
 (refine Jx.eqlI rfl rfl rfl (J.nil (N.seq (W.cT rfl ?_))))
 (refine W.region (Jx.move rfl rfl (Jx.loadAll rfl 4 rfl rfl rfl ?_)))
 (refine J.call (cr) rfl (evs_args rfl) rfl ?_; rintro _ _ ⟨rfl, rfl⟩; simp only [la1, la2, la3])
 (refine Jx.move rfl rfl (Jx.extract rfl rfl rfl ?_))
 (refine Jx.extract rfl rfl rfl ?_)
 (refine Jx.assign rfl rfl (Jx.assign rfl rfl (J.nil (N.seq (W.seq (W.region (Jx.move rfl rfl (Jx.move rfl rfl (Jx.neqS rfl rfl rfl (J.nil (N.seq (W.cF rfl ?_))))))))))))
 (refine W.skip (N.seq (W.seq (W.region (Jx.move rfl rfl (Jx.move rfl rfl (Jx.neqI rfl rfl rfl (Jx.move rfl rfl (J.gY rfl rfl rfl ?_)))))))))
 (refine Jx.move rfl rfl (J.gY rfl rfl rfl ?_))
 (refine Jx.move rfl rfl (J.gY rfl rfl rfl ?_))
 (refine Jx.fieldAddr rfl rfl ?_)
 (refine J.gY rfl rfl rfl ?_)
 (refine Jx.load rfl 4 rfl rfl rfl ?_)
 (refine J.gY rfl rfl rfl ?_)
 (refine J.call ((ct v2 M2 K2 hI2 (hN2 hN) w)) rfl (evs_args rfl) rfl ?_; rintro _ _ ⟨rfl, rfl⟩; simp only [la1, la2, la3])
 (refine J.gY rfl rfl rfl ?_)
 (refine Jx.not rfl rfl (Jx.pF rfl rfl rfl ?_))
 (refine Jx.move rfl rfl (J.gY rfl rfl rfl ?_))
 (refine Jx.move rfl rfl (J.gY rfl rfl rfl ?_))
 (refine Jx.move rfl rfl (J.gY rfl rfl rfl ?_))
 (refine Jx.move rfl rfl (J.gY rfl rfl rfl ?_))
 (refine J.call ((ct v2 M2 K2 hI2 (hN2 hN) sum)) rfl (evs_args rfl) rfl ?_; rintro _ _ ⟨rfl, rfl⟩; simp only [la1, la2, la3])
 (refine J.gY rfl rfl rfl ?_)
 (refine Jx.not rfl rfl (Jx.pF rfl rfl rfl ?_))
 (refine J.nil (N.seq (W.cF rfl ?_)))
 (refine W.skip (N.seq (W.region (Jx.move rfl rfl (Jx.add64 rfl rfl (by omega) rfl ?_)))))
 (refine Jx.assign rfl rfl (J.nil ?_))
 (refine id ?_; rotate_left))
          refine N.drop (List.sublist_append_left [_, _, _, _] _) ?_
          exact N.round (i + 1, v2, all2, M2, K2) ⟨by simp only; omega, by simp only; omega, by simp only; omega, hI2, hN2 hN⟩ (by simp only; omega) rfl ⟨ref0 rfl, ref0 rfl, ref0 rfl, ref0 rfl, ref0 rfl, trivial⟩
    · have h2' : ¬ (i : Int) < 30 := by omega
      focus (
 (refine W.seq (W.seq (W.region (Jx.move rfl rfl (Jx.move rfl rfl (Jx.lenSl rfl rfl ?_))))))
 (refine Jx.lssI rfl rfl rfl (Jx.move rfl rfl (J.gY rfl rfl rfl ?_)))
 (refine Jx.move rfl rfl (J.gY rfl rfl rfl ?_))
 (refine Jx.lssI rfl rfl rfl (Jx.pT rfl rfl rfl ?_))
 (refine J.nil (N.seq (W.cF rfl ?_)))
 (refine W.exit (N.seq (W.seq (W.region ?_))))
 (refine J.call (cw) rfl (evs_args rfl) rfl ?_; rintro _ _ ⟨rfl, rfl⟩; simp only [la1, la2, la3])
 (refine Jx.assign rfl rfl (J.nil (N.seq (W.ret ?_))))
 (refine id ?_; rotate_left))
      exact N.retD (rs := [.tmp 4]) (L1 := []) rfl (.tmp rfl .nil) (List.nil_sublist _) ⟨rfl, rfl⟩
  · have h1' : ¬ (i : Int) < (l.length : Int) := by omega
    focus (
 (refine W.seq (W.seq (W.region (Jx.move rfl rfl (Jx.move rfl rfl (Jx.lenSl rfl rfl ?_))))))
 (refine Jx.lssI rfl rfl rfl (Jx.move rfl rfl (J.gN rfl rfl rfl rfl ?_)))
 (refine J.gN rfl rfl rfl rfl ?_)
 (refine Jx.pF rfl rfl rfl ?_)
 (refine J.nil (N.seq (W.cF rfl ?_)))
 (refine W.exit (N.seq (W.seq (W.region ?_))))
 (refine J.call (cw) rfl (evs_args rfl) rfl ?_; rintro _ _ ⟨rfl, rfl⟩; simp only [la1, la2, la3])
 (refine Jx.assign rfl rfl (J.nil (N.seq (W.ret ?_))))
 (refine id ?_; rotate_left))
    exact N.retD (rs := [.tmp 4]) (L1 := []) rfl (.tmp rfl .nil) (List.nil_sublist _) ⟨rfl, rfl⟩
end Go.Proofs.YtafefapbiekmbaaDoor
