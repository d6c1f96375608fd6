/-
  Lemmas for the claim, part 4.
-/
import Derived.Test.YtmlncbdfbodjoaaDoorTxAllPc
namespace Go.Proofs.YtmlncbdfbodjoaaDoor
open Go Go.Sse
set_option linter.unusedVariables false
set_option linter.unusedSimpArgs false
set_option maxRecDepth 10000
set_option maxHeartbeats 2000000 in
theorem sameT_ok (x y : Tx) (hb : x.members.length ≤ 1048576) : FnC Tryd.prog 18 [.agg (txC x), .agg (txC y)] [] (fun v L => v = bool (decide (x = y)) ∧ L = []) := by
  have c := sameM_ok x.members y.members hb
  refine FnC.intro Tryd.func18 rfl Tryd.ntmps18 rfl fun Z w0 hG => ?_
  focus (
    (refine W.seq ?_)
    (refine W.region ?_)
    (refine J.boxAg rfl rfl ?_; intro b')
    (refine J.boxAg rfl rfl ?_; intro b')
    (refine Jx.assign rfl rfl ?_)
    (refine J.nil ?_)
    (refine N.seq ?_)
    (refine W.seq ?_)
    (refine W.seq ?_)
    (refine W.region ?_)
    (refine Jx.fieldAddr rfl rfl ?_)
    (refine Jx.load rfl 1 rfl rfl rfl ?_)
    (refine Jx.fieldAddr rfl rfl ?_)
    (refine Jx.load rfl 0 rfl rfl rfl ?_)
    (refine Jx.neqI rfl rfl rfl ?_)
    (refine Jx.move rfl rfl ?_)
    (refine' J.guardOr rfl rfl rfl rfl rfl rfl rfl rfl (fun _ => ?_) ?_; rotate_left)
    (refine J.gY rfl rfl rfl ?_)
    (refine Jx.fieldAddr rfl rfl ?_)
    (refine J.gY rfl rfl rfl ?_)
    (refine Jx.load rfl 1 rfl rfl rfl ?_)
    (refine J.gY rfl rfl rfl ?_)
    (refine Jx.fieldAddr rfl rfl ?_)
    (refine J.gY rfl rfl rfl ?_)
    (refine Jx.load rfl 0 rfl rfl rfl ?_)
    (refine J.gY rfl rfl rfl ?_)
    (refine Jx.neqS rfl rfl rfl ?_)
    (refine J.nil ?_)
    (refine N.joinedN rfl rfl rfl)
    (refine Jx.move rfl rfl ?_)
    (refine' J.guardOr rfl rfl rfl rfl rfl rfl rfl rfl (fun _ => ?_) ?_; rotate_left)
    (refine J.gY rfl rfl rfl ?_)
    (refine Jx.fieldAddr rfl rfl ?_)
    (refine J.gY rfl rfl rfl ?_)
    (refine Jx.load rfl 1 rfl rfl rfl ?_)
    (refine J.gY rfl rfl rfl ?_)
    (refine Jx.fieldAddr rfl rfl ?_)
    (refine J.gY rfl rfl rfl ?_)
    (refine Jx.load rfl 0 rfl rfl rfl ?_)
    (refine J.gY rfl rfl rfl ?_)
    (refine Jx.neqI rfl rfl rfl ?_)
    (refine J.nil ?_)
    (refine N.joinedN rfl rfl rfl)
    (refine Jx.move rfl rfl ?_)
    (refine' J.guardOr rfl rfl rfl rfl rfl rfl rfl rfl (fun _ => ?_) ?_; rotate_left)
    (refine J.gY rfl rfl rfl ?_)
    (refine Jx.fieldAddr rfl rfl ?_)
    (refine J.gY rfl rfl rfl ?_)
    (refine Jx.load rfl 1 rfl rfl rfl ?_)
    (refine J.gY rfl rfl rfl ?_)
    (refine Jx.fieldAddr rfl rfl ?_)
    (refine J.gY rfl rfl rfl ?_)
    (refine Jx.load rfl 0 rfl rfl rfl ?_)
    (refine J.gY rfl rfl rfl ?_)
    (refine Jx.neqS rfl rfl rfl ?_)
    (refine J.nil ?_)
    (refine N.joinedN rfl rfl rfl)
    (refine Jx.move rfl rfl ?_)
    (refine' J.guardOr rfl rfl rfl rfl rfl rfl rfl rfl (fun _ => ?_) ?_; rotate_left)
    (refine J.gY rfl rfl rfl ?_)
    (refine Jx.fieldAddr rfl rfl ?_)
    (refine J.gY rfl rfl rfl ?_)
    (refine Jx.load rfl 1 rfl rfl rfl ?_)
    (refine J.gY rfl rfl rfl ?_)
    (refine Jx.fieldAddr rfl rfl ?_)
    (refine J.gY rfl rfl rfl ?_)
    (refine Jx.load rfl 0 rfl rfl rfl ?_)
    (refine J.gY rfl rfl rfl ?_)
    (refine Jx.neqI rfl rfl rfl ?_)
    (refine J.nil ?_)
    (refine N.joinedN rfl rfl rfl)
    (refine Jx.move rfl rfl ?_)
    (refine' J.guardOr rfl rfl rfl rfl rfl rfl rfl rfl (fun _ => ?_) ?_; rotate_left)
    (refine J.gY rfl rfl rfl ?_)
    (refine Jx.fieldAddr rfl rfl ?_)
    (refine J.gY rfl rfl rfl ?_)
    (refine Jx.load rfl 1 rfl rfl rfl ?_)
    (refine J.gY rfl rfl rfl ?_)
    (refine Jx.fieldAddr rfl rfl ?_)
    (refine J.gY rfl rfl rfl ?_)
    (refine Jx.load rfl 0 rfl rfl rfl ?_)
    (refine J.gY rfl rfl rfl ?_)
    (refine Jx.neqS rfl rfl rfl ?_)
    (refine J.nil ?_)
    (refine N.joinedN rfl rfl rfl)
    (refine Jx.move rfl rfl ?_)
    (refine' J.guardOr rfl rfl rfl rfl rfl rfl rfl rfl (fun _ => ?_) ?_; rotate_left)
    (refine J.gY rfl rfl rfl ?_)
    (refine Jx.fieldAddr rfl rfl ?_)
    (refine J.gY rfl rfl rfl ?_)
    (refine Jx.load rfl 1 rfl rfl rfl ?_)
    (refine J.gY rfl rfl rfl ?_)
    (refine Jx.fieldAddr rfl rfl ?_)
    (refine J.gY rfl rfl rfl ?_)
    (refine Jx.load rfl 0 rfl rfl rfl ?_)
    (refine J.gY rfl rfl rfl ?_)
    (refine Jx.neqS rfl rfl rfl ?_)
    (refine J.nil ?_)
    (refine N.joinedN rfl rfl rfl)
    (refine J.nil ?_)
    (refine N.seq ?_)
    (refine id ?_; rotate_left))
  refine W.cond rfl (fun hb => ?_) (fun hb => ?_)
  · have hne : x ≠ y := fun e => by subst e; simp at hb
    focus (
    (refine W.seq ?_)
    (refine W.region ?_)
    (refine Jx.assign rfl rfl ?_)
    (refine J.nil ?_)
    (refine N.seq ?_)
    (refine W.ret ?_)
    (refine N.seqRet ?_)
    (refine id ?_; rotate_left))
    exact N.retD (rs := [.tmp 4]) (L1 := []) rfl (.tmp rfl .nil) (List.nil_sublist _) ⟨by rw [decide_eq_false hne]; rfl, rfl⟩
  · simp only [Bool.or_eq_false_iff, decide_eq_false_iff_not, Classical.not_not] at hb
    obtain ⟨⟨⟨⟨⟨⟨e1, e2⟩, e3⟩, e4⟩, e5⟩, e6⟩, e7⟩ := hb
    have he : decide (x.members = y.members) = decide (x = y) := by
      by_cases h : x.members = y.members
      · rw [decide_eq_true h, decide_eq_true (Tx.ext' e1 e2 e3 e4 e5 e6 e7 h)]
      · rw [decide_eq_false h, decide_eq_false fun e => h (by rw [e])]
    focus (
    (refine W.skip ?_)
    (refine N.seq ?_)
    (refine W.seq ?_)
    (refine W.region ?_)
    (refine Jx.fieldAddr rfl rfl ?_)
    (refine Jx.load rfl 1 rfl rfl rfl ?_)
    (refine Jx.fieldAddr rfl rfl ?_)
    (refine Jx.load rfl 0 rfl rfl rfl ?_)
    (refine J.call (c) rfl (evs_args rfl) rfl ?_; rintro _ _ ⟨rfl, rfl⟩; simp only [List.cons_append, List.nil_append, List.append_nil])
    (refine Jx.assign rfl rfl ?_)
    (refine J.nil ?_)
    (refine N.seq ?_)
    (refine W.ret ?_)
    (refine id ?_; rotate_left))
    exact N.retD (rs := [.tmp 4]) (L1 := []) rfl (.tmp rfl .nil) (List.nil_sublist _) ⟨by rw [he]; rfl, rfl⟩
end Go.Proofs.YtmlncbdfbodjoaaDoor
namespace Go.Proofs.YtmlncbdfbodjoaaDoor
open Go Go.Sse
set_option linter.unusedVariables false
set_option linter.unusedSimpArgs false
set_option maxRecDepth 10000
abbrev txz : List SV := [int 0, str [], int 0, str [], int 0, str [], str [], .val (.slice none 0 0)]
theorem txz_sub : SubL txz (txC tx0) := .cons (.refl _) (.cons (.refl _) (.cons (.refl _) (.cons (.refl _) (.cons (.refl _) (.cons (.refl _) (.cons (.refl _) (.cons (Sub.nil 2 _) .nil)))))))
theorem tx_sub (k q a : Int) (f t ky v : List UInt8) : SubL [int k, str f, int q, str t, int a, str ky, str v, .val (.slice none 0 0)] (txC ⟨k, f, q, t, a, ky, v, []⟩) := .cons (.refl _) (.cons (.refl _) (.cons (.refl _) (.cons (.refl _) (.cons (.refl _) (.cons (.refl _) (.cons (.refl _) (.cons (Sub.nil 2 _) .nil)))))))
theorem agTx : TAg Tryd.prog tTx 8 := inferInstance
def kdOf (k : List UInt8) : Int := (((k.getD 0 0).toNat : Nat) : Int)
theorem lf_len {s l : List UInt8} {a : Nat} {c : Int} (h : lf s a c = some l) : l.length ≤ s.length := by
  unfold lf at h
  split at h
  · simp only [Option.some.injEq] at h
    rw [← h, List.length_drop]; omega
  · cases h
theorem bound_text {m : Int} {s t : List UInt8} {a : Nat} {c : Int} {st : PSt} (h : textP m (lf s a c) = (t, st)) : t.length ≤ s.length := by
  cases st with
  | none => rw [textP_short h]; simp
  | some r =>
    have h1 := (textP_good h).1
    have h2 := lf_len h1
    rw [List.length_append, textB, List.length_append] at h2
    omega
set_option maxHeartbeats 4000000 in
theorem tdecode_ok (s : List UInt8) (hs : s.length ≤ 1099511627776) : FnC Tryd.prog 16 [str s] [] (fun v L => (∃ o, DecR fineTx encTx s o ∧ v = .tup [.agg (txC (o.getD tx0)), int (codeO o 150)]) ∧ L = []) := by
  have c0 := read_ok s
  have c1 := fun b => rd_Bytes b s 0 0 1 (Nat.zero_le _) hs
  refine FnC.intro Tryd.func16 rfl Tryd.ntmps16 rfl fun Z w0 hG => ?_
  focus (
    (refine W.seq ?_)
    (refine W.region ?_)
    (refine J.alloc (by simp only [List.map_cons, List.map_nil]; rfl) rfl rfl ?_; intro b')
    (refine Jx.assign rfl rfl ?_)
    (refine J.nil ?_)
    (refine N.seq ?_)
    (refine W.seq ?_)
    (refine W.region ?_)
    (refine Jx.move rfl rfl ?_)
    (refine J.call (Lc := []) c0 rfl (evs_args rfl) rfl ?_; rintro _ _ ⟨b, rfl, rfl⟩; simp only [List.cons_append, List.nil_append, List.append_nil])
    (refine Jx.assign rfl rfl ?_)
    (refine J.nil ?_)
    (refine N.seq ?_)
    (refine W.seq ?_)
    (refine W.region ?_)
    (refine J.alloc (by simp only [List.map_cons, List.map_nil]; rfl) rfl rfl ?_; intro b')
    (refine J.nil ?_)
    (refine N.seq ?_)
    (refine W.seq ?_)
    (refine W.seq ?_)
    (refine W.region ?_)
    (refine Jx.move rfl rfl ?_)
    (refine J.call1 1 ((c1 _)) rfl (evs_args rfl) rfl (by rintro _ _ ⟨k, a1, c1', rfl, rfl, ha1, hk⟩; exact ⟨_, rfl⟩) ?_; rintro _ _ ⟨k, a1, c1', rfl, ⟨⟩, ha1, hk⟩; simp only [List.set_cons_zero, List.set_cons_succ])
    (refine Jx.assign rfl rfl ?_)
    (refine J.nil ?_)
    (refine N.seq ?_)
    (refine W.seq ?_)
    (refine W.region ?_)
    (refine Jx.move rfl rfl ?_)
    (refine Jx.neqS rfl rfl rfl ?_)
    (refine J.nil ?_)
    (refine N.seq ?_)
    (refine id ?_; rotate_left))
  rename_i p2
  refine W.joinE (α := Unit) (fun _ => [(4, ptr b), (5, ptr b'), (2, ptr p2)]) (fun _ => [.obj b' tTx [int (kdOf k), str [], int 0, str [], int 0, str [], str [], .val (.slice none 0 0)], rdO b ⟨s, a1, c1'⟩, .obj p2 tTx txz]) (fun _ => True) ?_ ?_
  · refine W.cond rfl (fun h1 => ?_) (fun h1 => ?_)
    · have h1 := of_decide_eq_true h1
      have hl : (0 : Int) < (k.length : Int) := by have := List.length_pos_iff.2 h1; omega
      focus (
    (refine W.region ?_)
    (refine Jx.move rfl rfl ?_)
    (refine Jx.indexS (m := 0) rfl rfl (by decide) hl rfl ?_)
    (refine Jx.byteNum rfl rfl rfl ?_)
    (refine Jx.fieldAddr rfl rfl ?_)
    (refine J.st 0 rfl rfl rfl rfl rfl rfl ?_)
    (refine J.nil ?_)
    (refine id ?_; rotate_left))
      exact N.joinE () trivial rfl ⟨ref0 rfl, ref0 rfl, ref0 rfl, trivial⟩
    · have h1 : k = [] := by have := of_decide_eq_false h1; exact Classical.not_not.1 this
      focus (
    (refine W.skip ?_)
    (refine id ?_; rotate_left))
      exact N.joinE () trivial (by rw [h1]; rfl) ⟨ref0 rfl, ref0 rfl, ref0 rfl, trivial⟩
  · intro _ _
    have c2 := rd_Text b s a1 c1' 6 ha1 hs
    generalize hkd : kdOf k = kd at *
    focus (
    (refine N.seq ?_)
    (refine W.seq ?_)
    (refine W.region ?_)
    (refine Jx.move rfl rfl ?_)
    (refine J.call1 1 (c2) rfl (evs_args rfl) rfl (by rintro _ _ ⟨f, a2, c2', rfl, rfl, ha2, hf⟩; exact ⟨_, rfl⟩) ?_; rintro _ _ ⟨f, a2, c2', rfl, ⟨⟩, ha2, hf⟩; simp only [List.set_cons_zero, List.set_cons_succ])
    (refine Jx.fieldAddr rfl rfl ?_)
    (refine J.st 0 rfl rfl rfl rfl rfl rfl ?_)
    (refine J.nil ?_)
    (refine N.seq ?_)
    (refine W.seq ?_)
    (refine W.region ?_)
    (refine Jx.move rfl rfl ?_)
    (refine J.call1 1 ((rd_Num b s a2 c2' ha2 hs)) rfl (evs_args rfl) rfl (by rintro _ _ ⟨q, a3, c3', rfl, rfl, ha3, hql, hq⟩; exact ⟨_, rfl⟩) ?_; rintro _ _ ⟨q, a3, c3', rfl, ⟨⟩, ha3, hql, hq⟩; simp only [List.set_cons_zero, List.set_cons_succ])
    (refine Jx.fieldAddr rfl rfl ?_)
    (refine J.st 0 rfl rfl rfl rfl rfl rfl ?_)
    (refine J.nil ?_)
    (refine N.seq ?_)
    (refine W.seq ?_)
    (refine W.seq ?_)
    (refine W.region ?_)
    (refine Jx.fieldAddr rfl rfl ?_)
    (refine Jx.load rfl 0 rfl rfl rfl ?_)
    (refine J.nil ?_)
    (refine N.seq ?_)
    (refine id ?_; rotate_left))
    refine W.joinE (α := Tx × Nat × Int) (fun x => [(4, ptr b), (5, ptr b'), (2, ptr p2)]) (fun x => [.obj b' tTx (txC x.1), rdO b ⟨s, x.2.1, x.2.2⟩, .obj p2 tTx txz]) (fun x => x.2.1 ≤ s.length ∧ ReadT 6 6 8 32 65536 s x.1 (lf s x.2.1 x.2.2)) ?_ ?_
    · have mk : ∀ (x : Tx) st, x.kind = kd → x.from_ = f → x.seq = (q : Int) → TailR 6 8 32 65536 x (lf s a3 c3') st → ReadT 6 6 8 32 65536 s x st := fun x st h1 h2 h3 h4 =>
        ⟨k, _, _, _, q, hk, by rw [h1, ← hkd]; rfl, by rw [h2]; exact hf, hq, h3, h4⟩
      by_cases e1 : kd = 1
      · focus (
    (refine W.block ?_)
    (refine W.seq ?_)
    (refine W.region ?_)
    (refine Jx.eqlI rfl rfl rfl ?_)
    (refine Jx.assign rfl rfl ?_)
    (refine J.nil ?_)
    (refine N.seq ?_)
    (refine W.cT rfl ?_)
    (refine W.seq ?_)
    (refine W.region ?_)
    (refine Jx.move rfl rfl ?_)
    (refine J.call1 1 ((rd_Text b s a3 c3' 6 ha3 hs)) rfl (evs_args rfl) rfl (by rintro _ _ ⟨t, a4, c4', rfl, rfl, ha4, ht⟩; exact ⟨_, rfl⟩) ?_; rintro _ _ ⟨t, a4, c4', rfl, ⟨⟩, ha4, ht⟩; simp only [List.set_cons_zero, List.set_cons_succ])
    (refine Jx.fieldAddr rfl rfl ?_)
    (refine J.st 0 rfl rfl rfl rfl rfl rfl ?_)
    (refine J.nil ?_)
    (refine N.seq ?_)
    (refine W.region ?_)
    (refine Jx.move rfl rfl ?_)
    (refine J.call1 1 ((rd_Num b s a4 c4' ha4 hs)) rfl (evs_args rfl) rfl (by rintro _ _ ⟨n, a5, c5', rfl, rfl, ha5, hnl, hn⟩; exact ⟨_, rfl⟩) ?_; rintro _ _ ⟨n, a5, c5', rfl, ⟨⟩, ha5, hnl, hn⟩; simp only [List.set_cons_zero, List.set_cons_succ])
    (refine Jx.fieldAddr rfl rfl ?_)
    (refine J.st 0 rfl rfl rfl rfl rfl rfl ?_)
    (refine J.nil ?_)
    (refine N.blockNormal ?_)
    (refine id ?_; rotate_left))
        refine N.objSub 0 (txC ⟨kd, f, q, t, n, [], [], []⟩) rfl (tx_sub _ _ _ _ _ _ _) rfl ?_
        exact N.joinE (⟨kd, f, q, t, n, [], [], []⟩, a5, c5') ⟨ha5, mk _ _ rfl rfl rfl (by unfold TailR; rw [if_pos (by exact e1)]; exact ⟨⟨_, n, ht, hn, rfl⟩, rfl, rfl, rfl⟩)⟩ rfl ⟨ref0 rfl, ref0 rfl, ref0 rfl, trivial⟩
      · by_cases e2 : kd = 2
        · focus (
    (refine W.block ?_)
    (refine W.seq ?_)
    (refine W.region ?_)
    (refine Jx.eqlI rfl rfl rfl ?_)
    (refine Jx.assign rfl rfl ?_)
    (refine J.nil ?_)
    (refine N.seq ?_)
    (refine W.cF rfl ?_)
    (refine W.seq ?_)
    (refine W.region ?_)
    (refine Jx.eqlI rfl rfl rfl ?_)
    (refine Jx.assign rfl rfl ?_)
    (refine J.nil ?_)
    (refine N.seq ?_)
    (refine W.cT rfl ?_)
    (refine W.seq ?_)
    (refine W.region ?_)
    (refine Jx.move rfl rfl ?_)
    (refine J.call1 1 ((rd_Text b s a3 c3' 8 ha3 hs)) rfl (evs_args rfl) rfl (by rintro _ _ ⟨t, a4, c4', rfl, rfl, ha4, ht⟩; exact ⟨_, rfl⟩) ?_; rintro _ _ ⟨t, a4, c4', rfl, ⟨⟩, ha4, ht⟩; simp only [List.set_cons_zero, List.set_cons_succ])
    (refine Jx.fieldAddr rfl rfl ?_)
    (refine J.st 0 rfl rfl rfl rfl rfl rfl ?_)
    (refine J.nil ?_)
    (refine N.seq ?_)
    (refine W.region ?_)
    (refine Jx.move rfl rfl ?_)
    (refine J.call1 1 ((rd_Text b s a4 c4' 32 ha4 hs)) rfl (evs_args rfl) rfl (by rintro _ _ ⟨n, a5, c5', rfl, rfl, ha5, hn⟩; exact ⟨_, rfl⟩) ?_; rintro _ _ ⟨n, a5, c5', rfl, ⟨⟩, ha5, hn⟩; simp only [List.set_cons_zero, List.set_cons_succ])
    (refine Jx.fieldAddr rfl rfl ?_)
    (refine J.st 0 rfl rfl rfl rfl rfl rfl ?_)
    (refine J.nil ?_)
    (refine N.blockNormal ?_)
    (refine id ?_; rotate_left))
          refine N.objSub 0 (txC ⟨kd, f, q, [], 0, t, n, []⟩) rfl (tx_sub _ _ _ _ _ _ _) rfl ?_
          exact N.joinE (⟨kd, f, q, [], 0, t, n, []⟩, a5, c5') ⟨ha5, mk _ _ rfl rfl rfl (by unfold TailR; rw [if_neg (by exact e1), if_pos (by exact e2)]; exact ⟨⟨_, ht, hn⟩, rfl, rfl, rfl⟩)⟩ rfl ⟨ref0 rfl, ref0 rfl, ref0 rfl, trivial⟩
        · by_cases e3 : kd = 3
          · focus (
    (refine W.block ?_)
    (refine W.seq ?_)
    (refine W.region ?_)
    (refine Jx.eqlI rfl rfl rfl ?_)
    (refine Jx.assign rfl rfl ?_)
    (refine J.nil ?_)
    (refine N.seq ?_)
    (refine W.cF rfl ?_)
    (refine W.seq ?_)
    (refine W.region ?_)
    (refine Jx.eqlI rfl rfl rfl ?_)
    (refine Jx.assign rfl rfl ?_)
    (refine J.nil ?_)
    (refine N.seq ?_)
    (refine W.cF rfl ?_)
    (refine W.seq ?_)
    (refine W.region ?_)
    (refine Jx.eqlI rfl rfl rfl ?_)
    (refine Jx.assign rfl rfl ?_)
    (refine J.nil ?_)
    (refine N.seq ?_)
    (refine W.cT rfl ?_)
    (refine W.region ?_)
    (refine Jx.move rfl rfl ?_)
    (refine J.call1 1 ((rd_Text b s a3 c3' 8 ha3 hs)) rfl (evs_args rfl) rfl (by rintro _ _ ⟨t, a4, c4', rfl, rfl, ha4, ht⟩; exact ⟨_, rfl⟩) ?_; rintro _ _ ⟨t, a4, c4', rfl, ⟨⟩, ha4, ht⟩; simp only [List.set_cons_zero, List.set_cons_succ])
    (refine Jx.fieldAddr rfl rfl ?_)
    (refine J.st 0 rfl rfl rfl rfl rfl rfl ?_)
    (refine J.nil ?_)
    (refine N.blockNormal ?_)
    (refine id ?_; rotate_left))
            refine N.objSub 0 (txC ⟨kd, f, q, [], 0, t, [], []⟩) rfl (tx_sub _ _ _ _ _ _ _) rfl ?_
            exact N.joinE (⟨kd, f, q, [], 0, t, [], []⟩, a4, c4') ⟨ha4, mk _ _ rfl rfl rfl (by unfold TailR; rw [if_neg (by exact e1), if_neg (by exact e2), if_pos (by exact e3)]; exact ⟨ht, rfl, rfl, rfl, rfl⟩)⟩ rfl ⟨ref0 rfl, ref0 rfl, ref0 rfl, trivial⟩
          · by_cases e4 : kd = 4
            · focus (
    (refine W.block ?_)
    (refine W.seq ?_)
    (refine W.region ?_)
    (refine Jx.eqlI rfl rfl rfl ?_)
    (refine Jx.assign rfl rfl ?_)
    (refine J.nil ?_)
    (refine N.seq ?_)
    (refine W.cF rfl ?_)
    (refine W.seq ?_)
    (refine W.region ?_)
    (refine Jx.eqlI rfl rfl rfl ?_)
    (refine Jx.assign rfl rfl ?_)
    (refine J.nil ?_)
    (refine N.seq ?_)
    (refine W.cF rfl ?_)
    (refine W.seq ?_)
    (refine W.region ?_)
    (refine Jx.eqlI rfl rfl rfl ?_)
    (refine Jx.assign rfl rfl ?_)
    (refine J.nil ?_)
    (refine N.seq ?_)
    (refine W.cF rfl ?_)
    (refine W.seq ?_)
    (refine W.region ?_)
    (refine Jx.eqlI rfl rfl rfl ?_)
    (refine Jx.assign rfl rfl ?_)
    (refine J.nil ?_)
    (refine N.seq ?_)
    (refine W.cT rfl ?_)
    (refine W.region ?_)
    (refine Jx.move rfl rfl ?_)
    (refine J.call1 1 ((rd_Text b s a3 c3' 65536 ha3 hs)) rfl (evs_args rfl) rfl (by rintro _ _ ⟨t, a4, c4', rfl, rfl, ha4, ht⟩; exact ⟨_, rfl⟩) ?_; rintro _ _ ⟨t, a4, c4', rfl, ⟨⟩, ha4, ht⟩; simp only [List.set_cons_zero, List.set_cons_succ])
    (refine J.call (Lc := []) (pdecode_ok t (by have := bound_text ht; omega)) rfl (evs_args rfl) rfl ?_; rintro _ _ ⟨⟨o, ho, rfl⟩, rfl⟩; simp only [List.cons_append, List.nil_append, List.append_nil])
    (refine Jx.move rfl rfl ?_)
    (refine Jx.extract rfl rfl rfl ?_)
    (refine Jx.extract rfl rfl rfl ?_)
    (refine Jx.fieldAddr rfl rfl ?_)
    (refine J.st 0 rfl rfl rfl rfl rfl rfl ?_)
    (refine J.nil ?_)
    (refine N.blockNormal ?_)
    (refine id ?_; rotate_left))
              exact N.joinE (⟨kd, f, q, [], 0, [], [], o.getD []⟩, a4, c4') ⟨ha4, mk _ _ rfl rfl rfl (by unfold TailR; rw [if_neg (by exact e1), if_neg (by exact e2), if_neg (by exact e3), if_pos (by exact e4)]; exact ⟨⟨t, o, ht, ho, rfl⟩, rfl, rfl, rfl, rfl⟩)⟩ rfl ⟨ref0 rfl, ref0 rfl, ref0 rfl, trivial⟩
            · focus (
    (refine W.block ?_)
    (refine W.seq ?_)
    (refine W.region ?_)
    (refine Jx.eqlI rfl rfl rfl ?_)
    (refine Jx.assign rfl rfl ?_)
    (refine J.nil ?_)
    (refine N.seq ?_)
    (refine W.cF rfl ?_)
    (refine W.seq ?_)
    (refine W.region ?_)
    (refine Jx.eqlI rfl rfl rfl ?_)
    (refine Jx.assign rfl rfl ?_)
    (refine J.nil ?_)
    (refine N.seq ?_)
    (refine W.cF rfl ?_)
    (refine W.seq ?_)
    (refine W.region ?_)
    (refine Jx.eqlI rfl rfl rfl ?_)
    (refine Jx.assign rfl rfl ?_)
    (refine J.nil ?_)
    (refine N.seq ?_)
    (refine W.cF rfl ?_)
    (refine W.seq ?_)
    (refine W.region ?_)
    (refine Jx.eqlI rfl rfl rfl ?_)
    (refine Jx.assign rfl rfl ?_)
    (refine J.nil ?_)
    (refine N.seq ?_)
    (refine W.cF rfl ?_)
    (refine W.skip ?_)
    (refine N.blockNormal ?_)
    (refine id ?_; rotate_left))
              refine N.objSub 0 (txC ⟨kd, f, q, [], 0, [], [], []⟩) rfl (tx_sub _ _ _ _ _ _ _) rfl ?_
              exact N.joinE (⟨kd, f, q, [], 0, [], [], []⟩, a3, c3') ⟨ha3, mk _ _ rfl rfl rfl (by unfold TailR; rw [if_neg (by exact e1), if_neg (by exact e2), if_neg (by exact e3), if_neg (by exact e4)]; trivial)⟩ rfl ⟨ref0 rfl, ref0 rfl, ref0 rfl, trivial⟩
    · rintro ⟨x, a, c⟩ ⟨ha, hr⟩
      simp only at ha hr ⊢
      have ce := rd_End b s a c ha hs
      have ck := tcheck_ok x
      focus (
    (refine N.seq ?_)
    (refine W.seq ?_)
    (refine W.seq ?_)
    (refine W.region ?_)
    (refine Jx.move rfl rfl ?_)
    (refine J.call1 1 (ce) rfl (evs_args rfl) rfl (by rintro _ _ ⟨e, a4, c4, rfl, rfl, he⟩; exact ⟨_, rfl⟩) ?_; rintro _ _ ⟨e, a4, c4, rfl, ⟨⟩, he⟩; simp only [List.set_cons_zero, List.set_cons_succ])
    (refine Jx.neqI rfl rfl rfl ?_)
    (refine Jx.move rfl rfl ?_)
    (refine' J.guardOr rfl rfl rfl rfl rfl rfl rfl rfl (fun _ => ?_) ?_; rotate_left)
    (refine J.gY rfl rfl rfl ?_)
    (refine Jx.loadAll rfl 0 rfl rfl rfl ?_)
    (refine J.gY rfl rfl rfl ?_)
    (refine J.call (Lc := []) ck rfl (evs_args rfl) rfl ?_; rintro _ _ ⟨rfl, rfl⟩; simp only [List.cons_append, List.nil_append, List.append_nil])
    (refine J.gY rfl rfl rfl ?_)
    (refine Jx.neqI rfl rfl rfl ?_)
    (refine J.nil ?_)
    (refine N.joinedN rfl rfl rfl)
    (refine J.nil ?_)
    (refine N.seq ?_)
    (refine id ?_; rotate_left))
      refine W.cond rfl (fun hb => ?_) (fun hb => ?_)
      · focus (
    (refine W.seq ?_)
    (refine W.region ?_)
    (refine Jx.buildB rfl rfl rfl rfl rfl ?_)
    (refine J.storeAll rfl rfl rfl 2 rfl rfl rfl ?_)
    (refine Jx.assign rfl rfl ?_)
    (refine J.nil ?_)
    (refine N.seq ?_)
    (refine W.ret ?_)
    (refine N.seqRet ?_)
    (refine id ?_; rotate_left))
        refine N.objSub 2 (txC tx0) rfl txz_sub rfl ?_
        refine N.retD (rs := [.cell 2 tTx, .tmp 3]) (L1 := []) rfl (.cell rfl 2 rfl agTx (.tmp rfl .nil)) (List.nil_sublist _) ⟨⟨none, fun y hy hz => ?_, rfl⟩, rfl⟩
        obtain ⟨rfl, h2⟩ := hr.whole (by decide) (by decide) (by decide) (by decide) (by decide) hy hz
        rw [he.2 h2, hy] at hb
        simp at hb
      · focus (
    (refine W.skip ?_)
    (refine N.seq ?_)
    (refine W.seq ?_)
    (refine W.region ?_)
    (refine Jx.loadAll rfl 0 rfl rfl rfl ?_)
    (refine J.storeAll rfl rfl rfl 2 rfl rfl rfl ?_)
    (refine Jx.assign rfl rfl ?_)
    (refine J.nil ?_)
    (refine N.seq ?_)
    (refine W.ret ?_)
    (refine id ?_; rotate_left))
        refine N.retD (rs := [.cell 2 tTx, .tmp 3]) (L1 := []) rfl (.cell rfl 2 rfl agTx (.tmp rfl .nil)) (List.nil_sublist _) ⟨⟨some x, ?_, rfl⟩, rfl⟩
        simp only [Bool.or_eq_false_iff, decide_eq_false_iff_not] at hb
        have hf : fineTx x = true := by
          cases hf : fineTx x with
          | true => rfl
          | false => rw [hf] at hb; simp at hb
        rw [he.1 (by omega)] at hr
        exact ⟨hf, hr.sound hf⟩
end Go.Proofs.YtmlncbdfbodjoaaDoor
namespace Go.Proofs.YtmlncbdfbodjoaaDoor
open Go Go.Sse
set_option linter.unusedVariables false
set_option linter.unusedSimpArgs false
set_option maxRecDepth 10000
end Go.Proofs.YtmlncbdfbodjoaaDoor
namespace Go.Proofs.YtmlncbdfbodjoaaDoor
open Go Go.Sse
set_option linter.unusedVariables false
set_option linter.unusedSimpArgs false
set_option maxRecDepth 10000
def sumD (tag : Nat) (s : List UInt8) : List UInt8 := Sha.shaS ([UInt8.ofNat tag] ++ s)
theorem sumD_len (tag : Nat) (s : List UInt8) : (sumD tag s).length = 32 := Sha.shaS_len _
theorem dsum_ok (tag : Nat) (s : List UInt8) (h1 : 1 ≤ tag) (h2 : tag ≤ 255) (hs : s.length ≤ 1073741824) : FnC Tryd.prog 25 [int (tag : Int), str s] [] (fun v L => v = .tup [str (sumD tag s), int 0] ∧ L = []) := by
  have c := Sha.hsum_ok ([UInt8.ofNat tag] ++ s) (by simp only [List.length_append, List.length_cons, List.length_nil]; omega)
  have e : sumD tag s = Sha.shaS ([UInt8.ofNat tag] ++ s) := rfl
  rw [e]
  generalize Sha.shaS ([UInt8.ofNat tag] ++ s) = sm at *
  refine FnC.intro Tryd.func25 rfl Tryd.ntmps25 rfl fun Z w0 hG => ?_
  focus (
    (refine W.seq ?_)
    (refine W.region ?_)
    (refine Jx.assign rfl rfl ?_)
    (refine Jx.assign rfl rfl ?_)
    (refine J.nil ?_)
    (refine N.seq ?_)
    (refine W.seq ?_)
    (refine W.seq ?_)
    (refine W.region ?_)
    (refine Jx.move rfl rfl ?_)
    (refine Jx.lssI rfl rfl rfl ?_)
    (refine Jx.move rfl rfl ?_)
    (refine J.gY rfl rfl rfl ?_)
    (refine Jx.move rfl rfl ?_)
    (refine J.gY rfl rfl rfl ?_)
    (refine Jx.gtrI rfl rfl rfl ?_)
    (refine Jx.pF rfl rfl rfl ?_)
    (refine J.nil ?_)
    (refine N.seq ?_)
    (refine W.cF rfl ?_)
    (refine W.skip ?_)
    (refine N.seq ?_)
    (refine W.seq ?_)
    (refine W.region ?_)
    (refine Jx.move rfl rfl ?_)
    (refine Jx.numByte tag rfl rfl rfl rfl ?_)
    (refine J.qs (Qs.buildBytes [UInt8.ofNat tag] rfl rfl rfl (by decide) (by decide)) rfl ?_)
    (refine Jx.bytesStr rfl rfl ?_)
    (refine Jx.move rfl rfl ?_)
    (refine Jx.cat rfl rfl (by first | omega | (simp only [List.length_append, List.length_cons, List.length_nil]; omega)) rfl ?_)
    (refine J.call (c) rfl (evs_args rfl) rfl ?_; rintro _ _ ⟨rfl, rfl⟩; simp only [List.cons_append, List.nil_append, List.append_nil])
    (refine Jx.assign rfl rfl ?_)
    (refine Jx.assign rfl rfl ?_)
    (refine J.nil ?_)
    (refine N.seq ?_)
    (refine W.ret ?_)
    (refine id ?_; rotate_left))
  exact N.ret (rs := [.tmp 4, .tmp 5]) rfl (.tmp rfl (.tmp rfl .nil)) ⟨rfl, rfl⟩
end Go.Proofs.YtmlncbdfbodjoaaDoor
namespace Go.Proofs.YtmlncbdfbodjoaaDoor
open Go Go.Sse
set_option linter.unusedVariables false
set_option linter.unusedSimpArgs false
set_option maxRecDepth 10000
theorem encTx_ap {x y : Tx} {r q : List UInt8} (hx : fineTx x = true) (hy : fineTx y = true) (h : encTx x ++ r = encTx y ++ q) : x = y ∧ r = q := by
  have fx := (fineTx_iff x).1 hx
  have fy := (fineTx_iff y).1 hy
  have kx := fx.kind; have ky := fy.kind
  have a1 := fx.from6; have a2 := fy.from6; have a3 := fx.seq0; have a4 := fy.seq0; have a5 := fx.seqM; have a6 := fy.seqM
  simp only [encTx, List.append_assoc, List.cons_append, List.nil_append, List.cons.injEq] at h
  obtain ⟨h0, h⟩ := h
  have hk := congrArg UInt8.toNat h0
  simp only [UInt8.toNat_ofNat'] at hk
  obtain ⟨h1, h⟩ := textB_ap (by omega) (by omega) h
  obtain ⟨h2, h⟩ := numB_ap (by omega) (by omega) h
  have ek : x.kind = y.kind := by omega
  have es : x.seq = y.seq := by omega
  unfold bodyTx at h
  by_cases c1 : y.kind = 1
  · rw [if_pos (by omega), if_pos c1] at h
    obtain ⟨⟨b1, b2, b3, b4⟩, b5, b6, b7⟩ := fx.k1 (by omega)
    obtain ⟨⟨d1, d2, d3, d4⟩, d5, d6, d7⟩ := fy.k1 c1
    rw [List.append_assoc, List.append_assoc] at h
    obtain ⟨h3, h⟩ := textB_ap (by omega) (by omega) h
    obtain ⟨h4, h⟩ := numB_ap (by omega) (by omega) h
    exact ⟨Tx.ext' ek h1 es h3 (by omega) (by rw [b5, d5]) (by rw [b6, d6]) (by rw [b7, d7]), h⟩
  · by_cases c2 : y.kind = 2
    · rw [if_neg (by omega), if_pos (by omega), if_neg c1, if_pos c2] at h
      obtain ⟨⟨b1, b2, b3, b4⟩, b5, b6, b7⟩ := fx.k2 (by omega)
      obtain ⟨⟨d1, d2, d3, d4⟩, d5, d6, d7⟩ := fy.k2 c2
      rw [List.append_assoc, List.append_assoc] at h
      obtain ⟨h3, h⟩ := textB_ap (by omega) (by omega) h
      obtain ⟨h4, h⟩ := textB_ap (by omega) (by omega) h
      exact ⟨Tx.ext' ek h1 es (by rw [b5, d5]) (by rw [b6, d6]) h3 h4 (by rw [b7, d7]), h⟩
    · by_cases c3 : y.kind = 3
      · rw [if_neg (by omega), if_neg (by omega), if_pos (by omega), if_neg c1, if_neg c2, if_pos c3] at h
        obtain ⟨⟨b1, b2⟩, b3, b4, b5, b6⟩ := fx.k3 (by omega)
        obtain ⟨⟨d1, d2⟩, d3, d4, d5, d6⟩ := fy.k3 c3
        obtain ⟨h4, h⟩ := textB_ap (by omega) (by omega) h
        exact ⟨Tx.ext' ek h1 es (by rw [b4, d4]) (by rw [b5, d5]) h4 (by rw [b3, d3]) (by rw [b6, d6]), h⟩
      · have c4 : y.kind = 4 := by omega
        rw [if_neg (by omega), if_neg (by omega), if_neg (by omega), if_neg c1, if_neg c2, if_neg c3] at h
        obtain ⟨b1, b2, b3, b4, b5⟩ := fx.k4 (by omega)
        obtain ⟨d1, d2, d3, d4, d5⟩ := fy.k4 c4
        have l1 := encSet_len b1; have l2 := encSet_len d1
        obtain ⟨h4, h⟩ := textB_ap (by omega) (by omega) h
        exact ⟨Tx.ext' ek h1 es (by rw [b2, d2]) (by rw [b3, d3]) (by rw [b4, d4]) (by rw [b5, d5]) (encSet_inj b1 d1 h4), h⟩
theorem encTx_inj {x y : Tx} (hx : fineTx x = true) (hy : fineTx y = true) (h : encTx x = encTx y) : x = y := (encTx_ap (r := []) (q := []) hx hy (by rw [h])).1
structure Apart {α : Type} (fine : α → Bool) (enc : α → List UInt8) : Prop where
  ap : ∀ x y (r q : List UInt8), fine x = true → fine y = true → enc x ++ r = enc y ++ q → x = y ∧ r = q
theorem Apart.some' {α : Type} {fine : α → Bool} {enc : α → List UInt8} (h : Apart fine enc) {s : List UInt8} {o : Option α} {x : α} (ho : DecR fine enc s o) (h1 : fine x = true) (h2 : enc x = s) : o = some x := by
  cases o with
  | none => exact absurd h2 (ho x h1)
  | some y => rw [(h.ap y x [] [] ho.1 h1 (by rw [ho.2, h2])).1]
theorem Apart.same {α : Type} {fine : α → Bool} {enc : α → List UInt8} (h : Apart fine enc) {s : List UInt8} {o p : Option α} (ho : DecR fine enc s o) (hp : DecR fine enc s p) : o = p := by
  cases p with
  | some y => exact h.some' ho hp.1 hp.2
  | none =>
    cases o with
    | none => rfl
    | some x => exact absurd ho.2 (hp x ho.1)
theorem apTx : Apart fineTx encTx := ⟨fun x y r q hx hy h => encTx_ap hx hy h⟩
def fineAll (l : List Tx) : Bool := decide (l.length ≤ 8) && l.all fineTx
def encAll (l : List Tx) : List UInt8 := listB (l.map encTx)
def codeAll (l : List Tx) : Int := if 8 < l.length then 2 else if l.all fineTx then 0 else 150
theorem codeAll_zero (l : List Tx) : codeAll l = 0 ↔ fineAll l = true := by
  unfold codeAll fineAll
  by_cases h : 8 < l.length
  · simp [h]; omega
  · rw [if_neg h]
    cases l.all fineTx <;> simp; omega
theorem fineAll_spec {l : List Tx} (h : fineAll l = true) : l.length ≤ 8 ∧ ∀ x ∈ l, fineTx x = true := by
  simp only [fineAll, Bool.and_eq_true, decide_eq_true_eq, List.all_eq_true] at h
  exact h
theorem map_take {α β : Type} (f : α → β) (d : α) (l : List α) (i : Nat) (h : i < l.length) : (l.take i).map f ++ [f (l.getD i d)] = (l.take (i + 1)).map f := by
  rw [List.take_add_one, List.getElem?_eq_getElem h, List.getD_eq_getElem?_getD, List.getElem?_eq_getElem h]
  simp only [List.map_append, Option.toList_some, List.map_cons, List.map_nil, Option.getD_some]
theorem listB_len' {l : List (List UInt8)} {k n : Nat} (hl : l.length ≤ n) (hn : n ≤ 1048576) (h : ∀ s ∈ l, s.length ≤ k) (hk : k ≤ 1048576) : (listB l).length ≤ 9 + (k + 9) * n := by
  have h1 : (flT textB l).length ≤ (k + 9) * l.length := flT_len fun s hs => textB_len (h s hs) (by omega)
  have h2 := (numB_len (n := l.length) (by omega)).2
  have h3 : (k + 9) * l.length ≤ (k + 9) * n := Nat.mul_le_mul_left _ hl
  have h4 : (listB l).length = (numB l.length).length + (flT textB l).length := by rw [listB, List.length_append]; rfl
  omega
theorem encAll_len {l : List Tx} (h : fineAll l = true) : (encAll l).length ≤ 1769 := by
  obtain ⟨h1, h2⟩ := fineAll_spec h
  have := listB_len' (l := l.map encTx) (k := 211) (n := 8) (by simpa using h1) (by omega) (fun s hs => by obtain ⟨x, hx, rfl⟩ := List.mem_map.1 hs; exact encTx_len ((fineTx_iff x).1 (h2 x hx))) (by omega)
  unfold encAll; omega
set_option maxHeartbeats 1000000 in
theorem tencAll_ok (l : List Tx) : FnC Tryd.prog 32 [txsl l] [] (fun v L => v = .tup [str (encO fineAll encAll l), int (codeAll l)] ∧ L = []) := by
  refine FnC.intro Tryd.func32 rfl Tryd.ntmps32 rfl fun Z w0 hG => ?_
  by_cases h8 : 8 < l.length
  · have hf : fineAll l = false := by rw [fineAll, decide_eq_false (by omega)]; rfl
    have hc : codeAll l = 2 := if_pos h8
    rw [encO, hf, hc]
    focus (
    (refine W.seq ?_)
    (refine W.region ?_)
    (refine Jx.assign rfl rfl ?_)
    (refine Jx.assign rfl rfl ?_)
    (refine J.nil ?_)
    (refine N.seq ?_)
    (refine W.seq ?_)
    (refine W.seq ?_)
    (refine W.region ?_)
    (refine Jx.move rfl rfl ?_)
    (refine Jx.lenSl rfl rfl ?_)
    (refine Jx.gtrI rfl rfl rfl ?_)
    (refine J.nil ?_)
    (refine N.seq ?_)
    (refine W.cT rfl ?_)
    (refine W.seq ?_)
    (refine W.region ?_)
    (refine Jx.assign rfl rfl ?_)
    (refine Jx.assign rfl rfl ?_)
    (refine J.nil ?_)
    (refine N.seq ?_)
    (refine W.ret ?_)
    (refine N.seqRet ?_)
    (refine id ?_; rotate_left))
    exact N.ret (rs := [.tmp 2, .tmp 3]) rfl (.tmp rfl (.tmp rfl .nil)) ⟨rfl, rfl⟩
  · focus (
    (refine W.seq ?_)
    (refine W.region ?_)
    (refine Jx.assign rfl rfl ?_)
    (refine Jx.assign rfl rfl ?_)
    (refine J.nil ?_)
    (refine N.seq ?_)
    (refine W.seq ?_)
    (refine W.seq ?_)
    (refine W.region ?_)
    (refine Jx.move rfl rfl ?_)
    (refine Jx.lenSl rfl rfl ?_)
    (refine Jx.gtrI rfl rfl rfl ?_)
    (refine J.nil ?_)
    (refine N.seq ?_)
    (refine W.cF rfl ?_)
    (refine W.skip ?_)
    (refine N.seq ?_)
    (refine W.seq ?_)
    (refine W.region ?_)
    (refine Jx.assign rfl rfl ?_)
    (refine J.nil ?_)
    (refine N.seq ?_)
    (refine W.seq ?_)
    (refine W.seq ?_)
    (refine W.region ?_)
    (refine Jx.move rfl rfl ?_)
    (refine Jx.lenSl rfl rfl ?_)
    (refine Jx.move rfl rfl ?_)
    (refine J.nil ?_)
    (refine N.seq ?_)
    (refine W.block ?_)
    (refine id ?_; rotate_left))
    refine W.rowNil 9 1 (elOf (fun a => [str a]) [] []) ?_
    refine W.loop (α := Nat × Value) (fun x => [(14, int (x.1 : Int)), (13, int l.length), (12, txsl l), (4, .val x.2)]) (fun x => [.row x.2 9 1 ((l.take x.1).map encTx).length (elOf (fun a => [str a]) [] ((l.take x.1).map encTx))]) (fun x => x.1 ≤ l.length ∧ ∀ y ∈ l.take x.1, fineTx y = true) (fun x => l.length - x.1) (0, .slice none 0 0) ⟨by simp, by simp⟩ (by simp) ⟨ref0 rfl, ref0 rfl, ref0 rfl, ref0 rfl, trivial⟩ ?_
    rintro ⟨i, u⟩ ⟨hi, hall⟩
    simp only at hi hall ⊢
    by_cases h1 : i < l.length
    · have c1 := tencode_ok (l.getD i tx0)
      have hti := map_take encTx tx0 l i h1
      have hlen : ((l.take i).map encTx).length ≤ 8 := by rw [List.length_map, List.length_take]; omega
      cases hf : fineTx (l.getD i tx0) with
      | false =>
        have hna : l.all fineTx = false := List.all_eq_false.2 ⟨_, getD_mem h1, by rw [hf]; simp⟩
        have hfa : fineAll l = false := by rw [fineAll, hna, Bool.and_false]
        have hc : codeAll l = 150 := by rw [codeAll, if_neg h8, hna]; rfl
        rw [encO, hf] at c1
        rw [encO, hfa, hc]
        focus (
    (refine W.seq ?_)
    (refine W.region ?_)
    (refine Jx.lssI rfl rfl rfl ?_)
    (refine J.nil ?_)
    (refine N.seq ?_)
    (refine W.seq ?_)
    (refine W.cT rfl ?_)
    (refine W.skip ?_)
    (refine N.seq ?_)
    (refine W.seq ?_)
    (refine W.block ?_)
    (refine W.seq ?_)
    (refine W.region ?_)
    (refine Jx.indexEl rfl rfl (by assumption) rfl rfl ?_)
    (refine Jx.loadPPall rfl rfl rfl ?_)
    (refine J.alloc (by simp only [List.map_cons, List.map_nil]; rfl) rfl rfl ?_; intro b')
    (refine J.storeAll rfl rfl rfl 0 rfl rfl rfl ?_)
    (refine J.nil ?_)
    (refine N.seq ?_)
    (refine W.seq ?_)
    (refine W.region ?_)
    (refine Jx.loadAll rfl 0 rfl rfl rfl ?_)
    (refine J.call (Lc := []) c1 rfl (evs_args rfl) rfl ?_; rintro _ _ ⟨rfl, rfl⟩; simp only [List.cons_append, List.nil_append, List.append_nil])
    (refine Jx.move rfl rfl ?_)
    (refine Jx.extract rfl rfl rfl ?_)
    (refine Jx.extract rfl rfl rfl ?_)
    (refine Jx.assign rfl rfl ?_)
    (refine Jx.assign rfl rfl ?_)
    (refine J.nil ?_)
    (refine N.seq ?_)
    (refine W.seq ?_)
    (refine W.seq ?_)
    (refine W.region ?_)
    (refine Jx.move rfl rfl ?_)
    (refine Jx.neqI rfl rfl rfl ?_)
    (refine J.nil ?_)
    (refine N.seq ?_)
    (refine W.cT rfl ?_)
    (refine W.seq ?_)
    (refine W.region ?_)
    (refine Jx.move rfl rfl ?_)
    (refine Jx.assign rfl rfl ?_)
    (refine Jx.assign rfl rfl ?_)
    (refine J.nil ?_)
    (refine N.seq ?_)
    (refine W.ret ?_)
    (refine N.seqRet ?_)
    (refine N.blockRet ?_)
    (refine N.seqRet ?_)
    (refine N.seqRet ?_)
    (refine N.blockRet ?_)
    (refine N.seqRet ?_)
    (refine id ?_; rotate_left))
        exact N.retD (rs := [.tmp 2, .tmp 3]) (L1 := []) rfl (.tmp rfl (.tmp rfl .nil)) (List.nil_sublist _) ⟨rfl, rfl⟩
      | true =>
        rw [encO, hf] at c1
        simp only [if_true] at c1
        have hmx : ((l.take i).map encTx).length + [encTx (l.getD i tx0)].length ≤ maxLen ∧ (((l.take i).map encTx).length + [encTx (l.getD i tx0)].length) * 16 ≤ 140737488355328 := by simp only [maxLen, List.length_cons, List.length_nil]; omega
        generalize encTx (l.getD i tx0) = e at *
        focus (
    (refine W.seq ?_)
    (refine W.region ?_)
    (refine Jx.lssI rfl rfl rfl ?_)
    (refine J.nil ?_)
    (refine N.seq ?_)
    (refine W.seq ?_)
    (refine W.cT rfl ?_)
    (refine W.skip ?_)
    (refine N.seq ?_)
    (refine W.seq ?_)
    (refine W.block ?_)
    (refine W.seq ?_)
    (refine W.region ?_)
    (refine Jx.indexEl rfl rfl (by assumption) rfl rfl ?_)
    (refine Jx.loadPPall rfl rfl rfl ?_)
    (refine J.alloc (by simp only [List.map_cons, List.map_nil]; rfl) rfl rfl ?_; intro b')
    (refine J.storeAll rfl rfl rfl 0 rfl rfl rfl ?_)
    (refine J.nil ?_)
    (refine N.seq ?_)
    (refine W.seq ?_)
    (refine W.region ?_)
    (refine Jx.loadAll rfl 0 rfl rfl rfl ?_)
    (refine J.call (Lc := []) c1 rfl (evs_args rfl) rfl ?_; rintro _ _ ⟨rfl, rfl⟩; simp only [List.cons_append, List.nil_append, List.append_nil])
    (refine Jx.move rfl rfl ?_)
    (refine Jx.extract rfl rfl rfl ?_)
    (refine Jx.extract rfl rfl rfl ?_)
    (refine Jx.assign rfl rfl ?_)
    (refine Jx.assign rfl rfl ?_)
    (refine J.nil ?_)
    (refine N.seq ?_)
    (refine W.seq ?_)
    (refine W.seq ?_)
    (refine W.region ?_)
    (refine Jx.move rfl rfl ?_)
    (refine Jx.neqI rfl rfl rfl ?_)
    (refine J.nil ?_)
    (refine N.seq ?_)
    (refine W.cF rfl ?_)
    (refine W.skip ?_)
    (refine N.seq ?_)
    (refine W.region ?_)
    (refine Jx.move rfl rfl ?_)
    (refine Jx.move rfl rfl ?_)
    (refine J.qs (Qs.buildTexts [e] rfl rfl rfl (by decide) (by decide)) rfl ?_)
    (refine J.appendAt (l := (l.take i).map encTx) (l2 := [e]) 1 rfl rfl (SrcOK.sl rfl) rfl rfl hmx rfl ?_; intro v2 hv2)
    (refine Jx.assign rfl rfl ?_)
    (refine J.nil ?_)
    (refine N.seq ?_)
    (refine W.region ?_)
    (refine Jx.add64 rfl rfl (by omega) rfl ?_)
    (refine Jx.move rfl rfl ?_)
    (refine J.nil ?_)
    (refine id ?_; rotate_left))
        refine N.drop (List.sublist_cons_self _ _) ?_
        refine N.round (i + 1, v2) ⟨h1, fun y hy => ?_⟩ (by simp only; omega) (by rw [hti]; rfl) ⟨ref0 rfl, ref0 rfl, ref0 rfl, ref0 rfl, trivial⟩
        rw [List.take_add_one, List.getElem?_eq_getElem h1] at hy
        rcases List.mem_append.1 hy with hy | hy
        · exact hall y hy
        · simp only [Option.toList_some, List.mem_singleton] at hy
          subst hy
          rw [List.getD_eq_getElem?_getD, List.getElem?_eq_getElem h1] at hf
          exact hf
    · have hil : i = l.length := by omega
      subst hil
      rw [List.take_length] at hall ⊢
      have hfa : fineAll l = true := by rw [fineAll, decide_eq_true (by omega), List.all_eq_true.2 hall]; rfl
      have hc : codeAll l = 0 := (codeAll_zero l).2 hfa
      have cl := list_ok (l.map encTx) (by rw [List.length_map]; omega) (fun s hs => by obtain ⟨x, hx, rfl⟩ := List.mem_map.1 hs; have := encTx_len ((fineTx_iff x).1 (hall x hx)); omega)
      rw [encO, hfa, hc, if_pos rfl, encAll]
      refine W.freezeAt 0 4 rfl rfl (by rw [List.length_map]; simp only [maxLen]; omega) ?_
      generalize listB (l.map encTx) = lb at *
      generalize l.map encTx = le at *
      focus (
    (refine W.seq ?_)
    (refine W.region ?_)
    (refine Jx.lssI rfl rfl rfl ?_)
    (refine J.nil ?_)
    (refine N.seq ?_)
    (refine W.seq ?_)
    (refine W.cF rfl ?_)
    (refine W.exit ?_)
    (refine N.seq ?_)
    (refine W.seq ?_)
    (refine W.region ?_)
    (refine Jx.move rfl rfl ?_)
    (refine J.call (Lc := []) cl rfl (evs_args rfl) rfl ?_; rintro _ _ ⟨rfl, rfl⟩; simp only [List.cons_append, List.nil_append, List.append_nil])
    (refine Jx.assign rfl rfl ?_)
    (refine Jx.assign rfl rfl ?_)
    (refine J.nil ?_)
    (refine N.seq ?_)
    (refine W.ret ?_)
    (refine id ?_; rotate_left))
      exact N.retD (rs := [.tmp 2, .tmp 3]) (L1 := []) rfl (.tmp rfl (.tmp rfl .nil)) (List.nil_sublist _) ⟨rfl, rfl⟩
end Go.Proofs.YtmlncbdfbodjoaaDoor
namespace Go.Proofs.YtmlncbdfbodjoaaDoor
open Go Go.Sse
set_option linter.unusedVariables false
set_option linter.unusedSimpArgs false
set_option maxRecDepth 10000
theorem all_back {m e : Int} {s : List UInt8} {st : PSt} {all : List (List UInt8)} (hm : 8 ≤ m) (he : 211 ≤ e) (h : listP m e (some s) = (all, st)) {l : List Tx} (hf : fineAll l = true) (hs : encAll l = s) : all = l.map encTx ∧ st = some [] := by
  obtain ⟨h1, h2⟩ := fineAll_spec hf
  have h3 := listP_back (m := m) (e := e) (l.map encTx) [] (by rw [List.length_map]; omega) (by rw [List.length_map]; omega) (fun t ht => by
    obtain ⟨x, hx, rfl⟩ := List.mem_map.1 ht
    have := encTx_len ((fineTx_iff x).1 (h2 x hx))
    exact ⟨by omega, by omega⟩)
  rw [List.append_nil, show listB (l.map encTx) = s from hs, h] at h3
  simp only [Prod.mk.injEq] at h3
  exact h3
theorem all_done {m e : Int} {s : List UInt8} {st : PSt} {all : List (List UInt8)} (hm : m = 8) (h : listP m e (some s) = (all, st)) (hst : st = some []) {acc : List Tx} (h1 : acc.map encTx = all) (h2 : ∀ x ∈ acc, fineTx x = true) : DecR fineAll encAll s (some acc) := by
  subst hst
  obtain ⟨g1, g2, g3, g4⟩ := listP_good h
  simp only [Option.some.injEq, List.append_nil] at g1
  refine ⟨?_, by rw [encAll, h1, g1]⟩
  have : acc.length = all.length := by rw [← h1, List.length_map]
  rw [fineAll, decide_eq_true (by omega), List.all_eq_true.2 h2]; rfl
theorem all_no {all : List (List UInt8)} {l : List Tx} (h : all = l.map encTx) (hf : fineAll l = true) {i : Nat} (hi : i < all.length) (hn : DecR fineTx encTx (all.getD i []) none) : False := by
  subst h
  have hi' : i < l.length := by simpa using hi
  refine hn (l.getD i tx0) ((fineAll_spec hf).2 _ (getD_mem hi')) ?_
  rw [List.getD_eq_getElem?_getD, List.getD_eq_getElem?_getD, List.getElem?_map, List.getElem?_eq_getElem hi']; rfl
theorem take_snoc {α : Type} {l : List α} {d : α} {i : Nat} (h : i < l.length) : l.take (i + 1) = l.take i ++ [l.getD i d] := by
  rw [List.take_add_one, List.getElem?_eq_getElem h, List.getD_eq_getElem?_getD, List.getElem?_eq_getElem h]; rfl
theorem listP_mem {m e : Int} {st st' : PSt} {l : List (List UInt8)} (he : 0 ≤ e) (h : listP m e st = (l, st')) : ∀ t ∈ l, (t.length : Int) ≤ e := by
  cases st' with
  | none => rw [listP_short h]; simp
  | some r => exact fun t ht => ((listP_good h).2.2.2 t ht).1
set_option maxHeartbeats 2000000 in
theorem tdecAll_ok (s : List UInt8) (hs : s.length ≤ 1099511627776) : FnC Tryd.prog 34 [str s] [] (fun v L => (∃ o, DecR fineAll encAll s o ∧ v = .tup [txsl (o.getD []), int (codeO o 150)]) ∧ L = []) := by
  have c0 := read_ok s
  have c1 := fun b => rd_List b s 0 0 8 65536 (Nat.zero_le _) hs (by decide)
  refine FnC.intro Tryd.func34 rfl Tryd.ntmps34 rfl fun Z w0 hG => ?_
  focus (
    (refine W.seq ?_)
    (refine W.region ?_)
    (refine Jx.assign rfl rfl ?_)
    (refine Jx.assign rfl rfl ?_)
    (refine J.nil ?_)
    (refine N.seq ?_)
    (refine W.seq ?_)
    (refine W.region ?_)
    (refine Jx.move rfl rfl ?_)
    (refine J.call (Lc := []) c0 rfl (evs_args rfl) rfl ?_; rintro _ _ ⟨b, rfl, rfl⟩; simp only [List.cons_append, List.nil_append, List.append_nil])
    (refine Jx.assign rfl rfl ?_)
    (refine J.nil ?_)
    (refine N.seq ?_)
    (refine W.seq ?_)
    (refine W.region ?_)
    (refine Jx.move rfl rfl ?_)
    (refine J.call ((c1 _)) rfl (evs_args rfl) rfl ?_; rintro _ _ ⟨all, a1, c1', rfl, rfl, ha1, hall⟩; simp only [List.cons_append, List.nil_append, List.append_nil])
    (refine Jx.assign rfl rfl ?_)
    (refine J.nil ?_)
    (refine N.seq ?_)
    (refine W.seq ?_)
    (refine W.seq ?_)
    (refine W.region ?_)
    (refine Jx.move rfl rfl ?_)
    (refine J.call ((rd_End _ s a1 c1' ha1 hs)) rfl (evs_args rfl) rfl ?_; rintro _ _ ⟨e, a2, c2', rfl, rfl, he⟩; simp only [List.cons_append, List.nil_append, List.append_nil])
    (refine Jx.neqI rfl rfl rfl ?_)
    (refine J.nil ?_)
    (refine N.seq ?_)
    (refine id ?_; rotate_left))
  have hall : listP 8 65536 (some s) = (all, lf s a1 c1') := hall
  have hmem := listP_mem (by decide) hall
  refine W.cond rfl (fun hb => ?_) (fun hb => ?_)
  · focus (
    (refine W.seq ?_)
    (refine W.region ?_)
    (refine Jx.assign rfl rfl ?_)
    (refine Jx.assign rfl rfl ?_)
    (refine J.nil ?_)
    (refine N.seq ?_)
    (refine W.ret ?_)
    (refine N.seqRet ?_)
    (refine id ?_; rotate_left))
    refine N.told (G := [(2, txsl []), (3, int 150)]) ⟨⟨_, rfl, Sub.nil 8 _⟩, ref0 rfl, trivial⟩ ?_
    refine N.retD (rs := [.tmp 2, .tmp 3]) (L1 := []) rfl (.tmp rfl (.tmp rfl .nil)) (List.nil_sublist _) ⟨⟨none, fun y hy hz => ?_, rfl⟩, rfl⟩
    have := (all_back (by decide) (by decide) hall hy hz).2
    rw [he.2 this] at hb
    simp at hb
  · have he0 : e = 0 := by simpa using hb
    have hst := he.1 he0
    have h8 : all.length ≤ 8 := by rw [hst] at hall; have := (listP_good hall).2.1; omega
    focus (
    (refine W.skip ?_)
    (refine N.seq ?_)
    (refine W.seq ?_)
    (refine W.region ?_)
    (refine Jx.assign rfl rfl ?_)
    (refine J.nil ?_)
    (refine N.seq ?_)
    (refine W.seq ?_)
    (refine W.seq ?_)
    (refine W.region ?_)
    (refine Jx.move rfl rfl ?_)
    (refine Jx.lenSl rfl rfl ?_)
    (refine Jx.move rfl rfl ?_)
    (refine J.nil ?_)
    (refine N.seq ?_)
    (refine W.block ?_)
    (refine id ?_; rotate_left))
    refine W.rowNil tTx 8 (elOf txC tx0 []) ?_
    refine W.loop (α := Value × List Tx) (fun x => [(20, int (x.2.length : Int)), (19, int all.length), (18, ssl all), (6, .val x.1)]) (fun x => [.row x.1 tTx 8 x.2.length (elOf txC tx0 x.2), rdO b ⟨s, a2, c2'⟩]) (fun x => x.2.length ≤ all.length ∧ x.2.map encTx = all.take x.2.length ∧ ∀ y ∈ x.2, fineTx y = true) (fun x => all.length - x.2.length) (.slice none 0 0, []) ⟨by simp, by simp, by simp⟩ rfl ⟨ref0 rfl, ref0 rfl, ref0 rfl, ref0 rfl, trivial⟩ ?_
    rintro ⟨u, acc⟩ ⟨hi, hm, hf⟩
    simp only at hi hm hf ⊢
    by_cases h1 : acc.length < all.length
    · have c3 := tdecode_ok (all.getD acc.length []) (by have := hmem _ (getD_mem (d := []) h1); omega)
      have hmx : ∀ x : Tx, acc.length + [x].length ≤ maxLen ∧ (acc.length + [x].length) * 112 ≤ 140737488355328 := fun x => by simp only [maxLen, List.length_cons, List.length_nil]; omega
      focus (
    (refine W.seq ?_)
    (refine W.region ?_)
    (refine Jx.lssI rfl rfl rfl ?_)
    (refine J.nil ?_)
    (refine N.seq ?_)
    (refine W.seq ?_)
    (refine W.cT rfl ?_)
    (refine W.skip ?_)
    (refine N.seq ?_)
    (refine W.seq ?_)
    (refine W.block ?_)
    (refine W.seq ?_)
    (refine W.region ?_)
    (refine Jx.indexEl rfl rfl (by assumption) rfl rfl ?_)
    (refine Jx.loadPP rfl rfl ?_)
    (refine Jx.assign rfl rfl ?_)
    (refine J.nil ?_)
    (refine N.seq ?_)
    (refine W.seq ?_)
    (refine W.region ?_)
    (refine Jx.move rfl rfl ?_)
    (refine J.call (Lc := []) c3 rfl (evs_args rfl) rfl ?_; rintro _ _ ⟨⟨o, ho, rfl⟩, rfl⟩; simp only [List.cons_append, List.nil_append, List.append_nil])
    (refine Jx.move rfl rfl ?_)
    (refine Jx.extract rfl rfl rfl ?_)
    (refine Jx.extract rfl rfl rfl ?_)
    (refine J.alloc (by simp only [List.map_cons, List.map_nil]; rfl) rfl rfl ?_; intro b')
    (refine J.storeAll rfl rfl rfl 0 rfl rfl rfl ?_)
    (refine Jx.assign rfl rfl ?_)
    (refine J.nil ?_)
    (refine N.seq ?_)
    (refine W.seq ?_)
    (refine W.seq ?_)
    (refine W.region ?_)
    (refine Jx.move rfl rfl ?_)
    (refine Jx.neqI rfl rfl rfl ?_)
    (refine J.nil ?_)
    (refine N.seq ?_)
    (refine id ?_; rotate_left))
      cases o with
      | none =>
        focus (
    (refine W.cT rfl ?_)
    (refine W.seq ?_)
    (refine W.region ?_)
    (refine Jx.move rfl rfl ?_)
    (refine Jx.assign rfl rfl ?_)
    (refine Jx.assign rfl rfl ?_)
    (refine J.nil ?_)
    (refine N.seq ?_)
    (refine W.ret ?_)
    (refine N.seqRet ?_)
    (refine N.blockRet ?_)
    (refine N.seqRet ?_)
    (refine N.seqRet ?_)
    (refine N.blockRet ?_)
    (refine N.seqRet ?_)
    (refine id ?_; rotate_left))
        refine N.told (G := [(2, txsl []), (3, int 150)]) ⟨⟨_, rfl, Sub.nil 8 _⟩, ref0 rfl, trivial⟩ ?_
        refine N.retD (rs := [.tmp 2, .tmp 3]) (L1 := []) rfl (.tmp rfl (.tmp rfl .nil)) (List.nil_sublist _) ⟨⟨none, fun y hy hz => ?_, rfl⟩, rfl⟩
        exact all_no (all_back (by decide) (by decide) hall hy hz).1 hy h1 ho
      | some x =>
        simp only [Option.getD_some]
        focus (
    (refine W.cF rfl ?_)
    (refine W.skip ?_)
    (refine N.seq ?_)
    (refine W.region ?_)
    (refine Jx.move rfl rfl ?_)
    (refine Jx.loadAll rfl 0 rfl rfl rfl ?_)
    (refine J.qs (Qs.buildOne txC tx0 x rfl rfl rfl rfl rfl rfl rfl) rfl ?_)
    (refine J.appendAt (l := acc) (l2 := [x]) 1 rfl rfl (SrcOK.sl rfl) rfl rfl (hmx x) rfl ?_; intro v2 hv2)
    (refine Jx.assign rfl rfl ?_)
    (refine J.nil ?_)
    (refine N.seq ?_)
    (refine W.region ?_)
    (refine Jx.add64 rfl rfl (by omega) rfl ?_)
    (refine Jx.move rfl rfl ?_)
    (refine J.nil ?_)
    (refine id ?_; rotate_left))
        refine N.drop (List.sublist_cons_self _ _) ?_
        refine N.round (v2, acc ++ [x]) ⟨by simp only [List.length_append, List.length_cons, List.length_nil]; omega, ?_, ?_⟩ (by simp only [List.length_append, List.length_cons, List.length_nil]; omega) rfl ⟨⟨_, rfl, Sub.of_eq (by simp)⟩, ref0 rfl, ref0 rfl, ref0 rfl, trivial⟩
        · simp only [List.length_append, List.length_cons, List.length_nil, List.map_append, List.map_cons, List.map_nil]
          rw [hm, take_snoc (d := []) h1, ho.2]
        · intro y hy
          rcases List.mem_append.1 hy with hy | hy
          · exact hf y hy
          · simp only [List.mem_singleton] at hy; subst hy; exact ho.1
    · refine W.freezeAt 0 6 rfl rfl (by simp only [maxLen]; omega) ?_
      focus (
    (refine W.seq ?_)
    (refine W.region ?_)
    (refine Jx.lssI rfl rfl rfl ?_)
    (refine J.nil ?_)
    (refine N.seq ?_)
    (refine W.seq ?_)
    (refine W.cF rfl ?_)
    (refine W.exit ?_)
    (refine N.seq ?_)
    (refine W.seq ?_)
    (refine W.region ?_)
    (refine Jx.move rfl rfl ?_)
    (refine Jx.assign rfl rfl ?_)
    (refine Jx.assign rfl rfl ?_)
    (refine J.nil ?_)
    (refine N.seq ?_)
    (refine W.ret ?_)
    (refine id ?_; rotate_left))
      refine N.retD (rs := [.tmp 2, .tmp 3]) (L1 := []) rfl (.tmp rfl (.tmp rfl .nil)) (List.nil_sublist _) ⟨⟨some acc, all_done rfl hall hst ?_ hf, rfl⟩, rfl⟩
      rw [hm, List.take_of_length_le (by omega)]
def rootT (l : List Tx) : List UInt8 := if fineAll l then sumD 3 (encAll l) else []
theorem troot_ok (l : List Tx) : FnC Tryd.prog 36 [txsl l] [] (fun v L => v = .tup [str (rootT l), int (codeAll l)] ∧ L = []) := by
  have c := tencAll_ok l
  have hz := codeAll_zero l
  refine FnC.intro Tryd.func36 rfl Tryd.ntmps36 rfl fun Z w0 hG => ?_
  unfold rootT
  cases hf : fineAll l with
  | false =>
    have hc : codeAll l ≠ 0 := fun h => by rw [hz.1 h] at hf; cases hf
    rw [encO, hf] at c
    generalize codeAll l = e at *
    focus (
    (refine W.seq ?_)
    (refine W.region ?_)
    (refine Jx.assign rfl rfl ?_)
    (refine Jx.assign rfl rfl ?_)
    (refine J.nil ?_)
    (refine N.seq ?_)
    (refine W.seq ?_)
    (refine W.region ?_)
    (refine Jx.move rfl rfl ?_)
    (refine J.call (Lc := []) c rfl (evs_args rfl) rfl ?_; rintro _ _ ⟨rfl, rfl⟩; simp only [List.cons_append, List.nil_append, List.append_nil])
    (refine Jx.move rfl rfl ?_)
    (refine Jx.extract rfl rfl rfl ?_)
    (refine Jx.extract rfl rfl rfl ?_)
    (refine Jx.assign rfl rfl ?_)
    (refine Jx.assign rfl rfl ?_)
    (refine J.nil ?_)
    (refine N.seq ?_)
    (refine W.seq ?_)
    (refine W.seq ?_)
    (refine W.region ?_)
    (refine Jx.move rfl rfl ?_)
    (refine Jx.neqI rfl rfl rfl ?_)
    (refine J.nil ?_)
    (refine N.seq ?_)
    (refine W.cT rfl ?_)
    (refine W.seq ?_)
    (refine W.region ?_)
    (refine Jx.move rfl rfl ?_)
    (refine Jx.assign rfl rfl ?_)
    (refine Jx.assign rfl rfl ?_)
    (refine J.nil ?_)
    (refine N.seq ?_)
    (refine W.ret ?_)
    (refine N.seqRet ?_)
    (refine id ?_; rotate_left))
    exact N.ret (rs := [.tmp 2, .tmp 3]) rfl (.tmp rfl (.tmp rfl .nil)) ⟨rfl, rfl⟩
  | true =>
    have hc := hz.2 hf
    rw [encO, if_pos hf, hc] at c
    rw [if_pos rfl, hc]
    have cs := dsum_ok 3 (encAll l) (by decide) (by decide) (by have := encAll_len hf; omega)
    generalize sumD 3 (encAll l) = sm at *
    generalize encAll l = ea at *
    focus (
    (refine W.seq ?_)
    (refine W.region ?_)
    (refine Jx.assign rfl rfl ?_)
    (refine Jx.assign rfl rfl ?_)
    (refine J.nil ?_)
    (refine N.seq ?_)
    (refine W.seq ?_)
    (refine W.region ?_)
    (refine Jx.move rfl rfl ?_)
    (refine J.call (Lc := []) c rfl (evs_args rfl) rfl ?_; rintro _ _ ⟨rfl, rfl⟩; simp only [List.cons_append, List.nil_append, List.append_nil])
    (refine Jx.move rfl rfl ?_)
    (refine Jx.extract rfl rfl rfl ?_)
    (refine Jx.extract rfl rfl rfl ?_)
    (refine Jx.assign rfl rfl ?_)
    (refine Jx.assign rfl rfl ?_)
    (refine J.nil ?_)
    (refine N.seq ?_)
    (refine W.seq ?_)
    (refine W.seq ?_)
    (refine W.region ?_)
    (refine Jx.move rfl rfl ?_)
    (refine Jx.neqI rfl rfl rfl ?_)
    (refine J.nil ?_)
    (refine N.seq ?_)
    (refine W.cF rfl ?_)
    (refine W.skip ?_)
    (refine N.seq ?_)
    (refine W.seq ?_)
    (refine W.region ?_)
    (refine Jx.move rfl rfl ?_)
    (refine J.call (Lc := []) cs rfl (evs_args rfl) rfl ?_; rintro _ _ ⟨rfl, rfl⟩; simp only [List.cons_append, List.nil_append, List.append_nil])
    (refine Jx.extract rfl rfl rfl ?_)
    (refine Jx.extract rfl rfl rfl ?_)
    (refine Jx.assign rfl rfl ?_)
    (refine Jx.assign rfl rfl ?_)
    (refine J.nil ?_)
    (refine N.seq ?_)
    (refine W.ret ?_)
    (refine id ?_; rotate_left))
    exact N.ret (rs := [.tmp 2, .tmp 3]) rfl (.tmp rfl (.tmp rfl .nil)) ⟨rfl, rfl⟩
set_option maxHeartbeats 1000000 in
theorem sameTs_ok (l m : List Tx) (hb : l.length ≤ 1048576) (hm : ∀ x ∈ l, x.members.length ≤ 1048576) : FnC Tryd.prog 38 [txsl l, txsl m] [] (fun v L => v = bool (decide (l = m)) ∧ L = []) := by
  refine FnC.intro Tryd.func38 rfl Tryd.ntmps38 rfl fun Z w0 hG => ?_
  by_cases hl : l.length = m.length
  · focus (
    (refine W.seq ?_)
    (refine W.region ?_)
    (refine Jx.assign rfl rfl ?_)
    (refine J.nil ?_)
    (refine N.seq ?_)
    (refine W.seq ?_)
    (refine W.region ?_)
    (refine Jx.move rfl rfl ?_)
    (refine Jx.lenSl rfl rfl ?_)
    (refine Jx.move rfl rfl ?_)
    (refine Jx.lenSl rfl rfl ?_)
    (refine Jx.eqlI rfl rfl rfl ?_)
    (refine Jx.assign rfl rfl ?_)
    (refine J.nil ?_)
    (refine N.seq ?_)
    (refine W.seq ?_)
    (refine W.seq ?_)
    (refine W.region ?_)
    (refine Jx.assign rfl rfl ?_)
    (refine J.nil ?_)
    (refine N.seq ?_)
    (refine W.block ?_)
    (refine id ?_; rotate_left))
    refine W.loop (α := Nat × Bool) (fun x => [(6, int (x.1 : Int)), (5, bool x.2), (0, txsl l), (1, txsl m)]) (fun _ => []) (fun x => x.1 ≤ l.length ∧ (x.2 = true → l.take x.1 = m.take x.1) ∧ (x.2 = false → l ≠ m)) (fun x => l.length - x.1) (0, true) ⟨by omega, by simp, by simp⟩ rfl ⟨ref0 rfl, ⟨_, rfl, Sub.of_eq (by simp [hl])⟩, ref0 rfl, ref0 rfl, trivial⟩ ?_
    rintro ⟨i, q⟩ ⟨hi, h1, h2⟩
    simp only at hi h1 h2
    cases q with
    | false =>
      focus (
    (refine W.seq ?_)
    (refine W.seq ?_)
    (refine W.region ?_)
    (refine Jx.move rfl rfl ?_)
    (refine Jx.move rfl rfl ?_)
    (refine J.gN rfl rfl rfl rfl ?_)
    (refine J.gN rfl rfl rfl rfl ?_)
    (refine J.gN rfl rfl rfl rfl ?_)
    (refine J.gN rfl rfl rfl rfl ?_)
    (refine Jx.pF rfl rfl rfl ?_)
    (refine J.nil ?_)
    (refine N.seq ?_)
    (refine W.cF rfl ?_)
    (refine W.exit ?_)
    (refine N.seq ?_)
    (refine W.seq ?_)
    (refine W.region ?_)
    (refine Jx.move rfl rfl ?_)
    (refine Jx.assign rfl rfl ?_)
    (refine J.nil ?_)
    (refine N.seq ?_)
    (refine W.ret ?_)
    (refine id ?_; rotate_left))
      exact N.ret (rs := [.tmp 4]) rfl (.tmp rfl .nil) ⟨by rw [decide_eq_false (h2 rfl)]; rfl, rfl⟩
    | true =>
      by_cases h3 : i < l.length
      · have h4 : i < m.length := by omega
        have e1 := take_snoc (d := tx0) h3
        have e2 := take_snoc (d := tx0) h4
        have c := sameT_ok (l.getD i tx0) (m.getD i tx0) (hm _ (getD_mem h3))
        focus (
    (refine W.seq ?_)
    (refine W.seq ?_)
    (refine W.region ?_)
    (refine Jx.move rfl rfl ?_)
    (refine Jx.move rfl rfl ?_)
    (refine J.gY rfl rfl rfl ?_)
    (refine Jx.move rfl rfl ?_)
    (refine J.gY rfl rfl rfl ?_)
    (refine Jx.move rfl rfl ?_)
    (refine J.gY rfl rfl rfl ?_)
    (refine Jx.lenSl rfl rfl ?_)
    (refine J.gY rfl rfl rfl ?_)
    (refine Jx.lssI rfl rfl rfl ?_)
    (refine Jx.pT rfl rfl rfl ?_)
    (refine J.nil ?_)
    (refine N.seq ?_)
    (refine W.cT rfl ?_)
    (refine W.skip ?_)
    (refine N.seq ?_)
    (refine W.seq ?_)
    (refine W.block ?_)
    (refine W.draw follows ?_)
    (refine JD.calm rfl (by decide +kernel) ?_)
    (refine Cx.move rfl rfl ?_)
    (refine Cx.move rfl rfl ?_)
    (refine Cx.indexEl rfl rfl (by assumption) rfl rfl ?_)
    (refine Cx.loadPPall rfl rfl rfl ?_)
    (refine Cx.move rfl rfl ?_)
    (refine Cx.move rfl rfl ?_)
    (refine Cx.indexEl rfl rfl (by assumption) rfl rfl ?_)
    (refine Cx.loadPPall rfl rfl rfl ?_)
    (refine SegC.q (Qs.call (Lc := []) (c) (fun s L' h => h) (List.Perm.refl _) (evs_args rfl)) rfl ?_)
    (refine Cx.assign rfl rfl ?_)
    (refine SegC.nil ?_)
    (refine N.seq ?_)
    (refine W.region ?_)
    (refine Jx.move rfl rfl ?_)
    (refine Jx.add64 rfl rfl (by omega) rfl ?_)
    (refine Jx.assign rfl rfl ?_)
    (refine J.nil ?_)
    (refine id ?_; rotate_left))
        refine N.round (i + 1, decide (l.getD i tx0 = m.getD i tx0)) ⟨h3, fun h => ?_, fun h e => ?_⟩ (by simp only; omega) rfl ⟨ref0 rfl, ref0 rfl, ref0 rfl, ref0 rfl, trivial⟩
        · simp only [decide_eq_true_eq] at h
          rw [e1, e2, h1 rfl, h]
        · simp only [decide_eq_false_iff_not] at h
          exact h (by rw [e])
      · have e := h1 rfl
        rw [List.take_of_length_le (by omega), List.take_of_length_le (by omega)] at e
        focus (
    (refine W.seq ?_)
    (refine W.seq ?_)
    (refine W.region ?_)
    (refine Jx.move rfl rfl ?_)
    (refine Jx.move rfl rfl ?_)
    (refine J.gY rfl rfl rfl ?_)
    (refine Jx.move rfl rfl ?_)
    (refine J.gY rfl rfl rfl ?_)
    (refine Jx.move rfl rfl ?_)
    (refine J.gY rfl rfl rfl ?_)
    (refine Jx.lenSl rfl rfl ?_)
    (refine J.gY rfl rfl rfl ?_)
    (refine Jx.lssI rfl rfl rfl ?_)
    (refine Jx.pT rfl rfl rfl ?_)
    (refine J.nil ?_)
    (refine N.seq ?_)
    (refine W.cF rfl ?_)
    (refine W.exit ?_)
    (refine N.seq ?_)
    (refine W.seq ?_)
    (refine W.region ?_)
    (refine Jx.move rfl rfl ?_)
    (refine Jx.assign rfl rfl ?_)
    (refine J.nil ?_)
    (refine N.seq ?_)
    (refine W.ret ?_)
    (refine id ?_; rotate_left))
        exact N.ret (rs := [.tmp 4]) rfl (.tmp rfl .nil) ⟨by rw [decide_eq_true e]; rfl, rfl⟩
  · have hne : l ≠ m := fun e => hl (by rw [e])
    focus (
    (refine W.seq ?_)
    (refine W.region ?_)
    (refine Jx.assign rfl rfl ?_)
    (refine J.nil ?_)
    (refine N.seq ?_)
    (refine W.seq ?_)
    (refine W.region ?_)
    (refine Jx.move rfl rfl ?_)
    (refine Jx.lenSl rfl rfl ?_)
    (refine Jx.move rfl rfl ?_)
    (refine Jx.lenSl rfl rfl ?_)
    (refine Jx.eqlI rfl rfl rfl ?_)
    (refine Jx.assign rfl rfl ?_)
    (refine J.nil ?_)
    (refine N.seq ?_)
    (refine W.seq ?_)
    (refine W.seq ?_)
    (refine W.region ?_)
    (refine Jx.assign rfl rfl ?_)
    (refine J.nil ?_)
    (refine N.seq ?_)
    (refine W.block ?_)
    (refine id ?_; rotate_left))
    refine W.loop (α := Unit) (fun x => [(5, bool false)]) (fun _ => []) (fun x => True) (fun x => 0) () trivial rfl ⟨⟨_, rfl, Sub.of_eq (by simp; omega)⟩, trivial⟩ ?_
    rintro _ _
    focus (
    (refine W.seq ?_)
    (refine W.seq ?_)
    (refine W.region ?_)
    (refine Jx.move rfl rfl ?_)
    (refine Jx.move rfl rfl ?_)
    (refine J.gN rfl rfl rfl rfl ?_)
    (refine J.gN rfl rfl rfl rfl ?_)
    (refine J.gN rfl rfl rfl rfl ?_)
    (refine J.gN rfl rfl rfl rfl ?_)
    (refine Jx.pF rfl rfl rfl ?_)
    (refine J.nil ?_)
    (refine N.seq ?_)
    (refine W.cF rfl ?_)
    (refine W.exit ?_)
    (refine N.seq ?_)
    (refine W.seq ?_)
    (refine W.region ?_)
    (refine Jx.move rfl rfl ?_)
    (refine Jx.assign rfl rfl ?_)
    (refine J.nil ?_)
    (refine N.seq ?_)
    (refine W.ret ?_)
    (refine id ?_; rotate_left))
    exact N.ret (rs := [.tmp 4]) rfl (.tmp rfl .nil) ⟨by rw [decide_eq_false hne]; rfl, rfl⟩
end Go.Proofs.YtmlncbdfbodjoaaDoor
namespace Go.Proofs.YtmlncbdfbodjoaaDoor
open Go Go.Sse
set_option linter.unusedVariables false
set_option linter.unusedSimpArgs false
set_option maxRecDepth 10000
end Go.Proofs.YtmlncbdfbodjoaaDoor
namespace Go.Proofs.YtmlncbdfbodjoaaDoor
open Go Go.Sse
set_option linter.unusedVariables false
set_option linter.unusedSimpArgs false
set_option maxRecDepth 10000
def bigT (x : Tx) : Bool := (((decide (100 < (x.from_.length : Int)) || decide (100 < (x.to_.length : Int))) || decide (100 < (x.key.length : Int))) || decide (100 < (x.value.length : Int))) || decide (100 < (x.members.length : Int))
theorem tbig_ok (x : Tx) : FnC Tryd.prog 12 [.agg (txC x)] [] (fun v L => v = bool (bigT x) ∧ L = []) := by
  refine FnC.intro Tryd.func12 rfl Tryd.ntmps12 rfl fun Z w0 hG => ?_
  focus (
    (refine W.seq ?_)
    (refine W.region ?_)
    (refine J.boxAg rfl rfl ?_; intro b')
    (refine Jx.assign rfl rfl ?_)
    (refine J.nil ?_)
    (refine N.seq ?_)
    (refine W.seq ?_)
    (refine W.region ?_)
    (refine Jx.fieldAddr rfl rfl ?_)
    (refine Jx.load rfl 0 rfl rfl rfl ?_)
    (refine Jx.lenS rfl rfl ?_)
    (refine Jx.gtrI rfl rfl rfl ?_)
    (refine Jx.move rfl rfl ?_)
    (refine' J.guardOr rfl rfl rfl rfl rfl rfl rfl rfl (fun _ => ?_) ?_; rotate_left)
    (refine J.gY rfl rfl rfl ?_)
    (refine Jx.fieldAddr rfl rfl ?_)
    (refine J.gY rfl rfl rfl ?_)
    (refine Jx.load rfl 0 rfl rfl rfl ?_)
    (refine J.gY rfl rfl rfl ?_)
    (refine Jx.lenS rfl rfl ?_)
    (refine J.gY rfl rfl rfl ?_)
    (refine Jx.gtrI rfl rfl rfl ?_)
    (refine J.nil ?_)
    (refine N.joinedN rfl rfl rfl)
    (refine Jx.move rfl rfl ?_)
    (refine' J.guardOr rfl rfl rfl rfl rfl rfl rfl rfl (fun _ => ?_) ?_; rotate_left)
    (refine J.gY rfl rfl rfl ?_)
    (refine Jx.fieldAddr rfl rfl ?_)
    (refine J.gY rfl rfl rfl ?_)
    (refine Jx.load rfl 0 rfl rfl rfl ?_)
    (refine J.gY rfl rfl rfl ?_)
    (refine Jx.lenS rfl rfl ?_)
    (refine J.gY rfl rfl rfl ?_)
    (refine Jx.gtrI rfl rfl rfl ?_)
    (refine J.nil ?_)
    (refine N.joinedN rfl rfl rfl)
    (refine Jx.move rfl rfl ?_)
    (refine' J.guardOr rfl rfl rfl rfl rfl rfl rfl rfl (fun _ => ?_) ?_; rotate_left)
    (refine J.gY rfl rfl rfl ?_)
    (refine Jx.fieldAddr rfl rfl ?_)
    (refine J.gY rfl rfl rfl ?_)
    (refine Jx.load rfl 0 rfl rfl rfl ?_)
    (refine J.gY rfl rfl rfl ?_)
    (refine Jx.lenS rfl rfl ?_)
    (refine J.gY rfl rfl rfl ?_)
    (refine Jx.gtrI rfl rfl rfl ?_)
    (refine J.nil ?_)
    (refine N.joinedN rfl rfl rfl)
    (refine Jx.move rfl rfl ?_)
    (refine' J.guardOr rfl rfl rfl rfl rfl rfl rfl rfl (fun _ => ?_) ?_; rotate_left)
    (refine J.gY rfl rfl rfl ?_)
    (refine Jx.fieldAddr rfl rfl ?_)
    (refine J.gY rfl rfl rfl ?_)
    (refine Jx.load rfl 0 rfl rfl rfl ?_)
    (refine J.gY rfl rfl rfl ?_)
    (refine Jx.lenSl rfl rfl ?_)
    (refine J.gY rfl rfl rfl ?_)
    (refine Jx.gtrI rfl rfl rfl ?_)
    (refine J.nil ?_)
    (refine N.joinedN rfl rfl rfl)
    (refine Jx.assign rfl rfl ?_)
    (refine J.nil ?_)
    (refine N.seq ?_)
    (refine W.ret ?_)
    (refine id ?_; rotate_left))
  exact N.retD (rs := [.tmp 2]) (L1 := []) rfl (.tmp rfl .nil) (List.nil_sublist _) ⟨rfl, rfl⟩
def bigTs (l : List Tx) : Bool := l.any bigT || decide (20 < (l.length : Int))
theorem tbigs_ok (l : List Tx) (hl : l.length ≤ 9223372036854775807) : FnC Tryd.prog 31 [txsl l] [] (fun v L => v = bool (bigTs l) ∧ L = []) := by
  refine FnC.intro Tryd.func31 rfl Tryd.ntmps31 rfl fun Z w0 hG => ?_
  focus (
    (refine W.seq ?_)
    (refine W.region ?_)
    (refine Jx.assign rfl rfl ?_)
    (refine J.nil ?_)
    (refine N.seq ?_)
    (refine W.seq ?_)
    (refine W.seq ?_)
    (refine W.region ?_)
    (refine Jx.assign rfl rfl ?_)
    (refine J.nil ?_)
    (refine N.seq ?_)
    (refine W.block ?_)
    (refine id ?_; rotate_left))
  refine W.loop (α := Nat) (fun i => [(3, int (i : Int)), (0, txsl l)]) (fun _ => []) (fun i => i ≤ l.length ∧ (l.take i).any bigT = false) (fun i => l.length - i) 0 (by simp) rfl ⟨ref0 rfl, ref0 rfl, trivial⟩ ?_
  rintro i ⟨hi, hn⟩
  by_cases h1 : i < l.length
  · have c := tbig_ok (l.getD i tx0)
    cases hb : bigT (l.getD i tx0) with
    | true =>
      have : l.any bigT = true := List.any_eq_true.2 ⟨_, getD_mem h1, hb⟩
      rw [hb] at c
      focus (
    (refine W.seq ?_)
    (refine W.seq ?_)
    (refine W.region ?_)
    (refine Jx.move rfl rfl ?_)
    (refine Jx.move rfl rfl ?_)
    (refine Jx.lenSl rfl rfl ?_)
    (refine Jx.lssI rfl rfl rfl ?_)
    (refine J.nil ?_)
    (refine N.seq ?_)
    (refine W.cT rfl ?_)
    (refine W.skip ?_)
    (refine N.seq ?_)
    (refine W.seq ?_)
    (refine W.block ?_)
    (refine W.seq ?_)
    (refine W.region ?_)
    (refine Jx.move rfl rfl ?_)
    (refine Jx.move rfl rfl ?_)
    (refine Jx.indexEl rfl rfl (by assumption) rfl rfl ?_)
    (refine Jx.loadPPall rfl rfl rfl ?_)
    (refine J.call (c) rfl (evs_args rfl) rfl ?_; rintro _ _ ⟨rfl, rfl⟩; simp only [List.cons_append, List.nil_append, List.append_nil])
    (refine J.nil ?_)
    (refine N.seq ?_)
    (refine W.cT rfl ?_)
    (refine W.seq ?_)
    (refine W.region ?_)
    (refine Jx.assign rfl rfl ?_)
    (refine J.nil ?_)
    (refine N.seq ?_)
    (refine W.ret ?_)
    (refine N.blockRet ?_)
    (refine N.seqRet ?_)
    (refine N.seqRet ?_)
    (refine N.blockRet ?_)
    (refine N.seqRet ?_)
    (refine id ?_; rotate_left))
      exact N.ret (rs := [.tmp 2]) rfl (.tmp rfl .nil) ⟨by rw [bigTs, this]; rfl, rfl⟩
    | false =>
      rw [hb] at c
      focus (
    (refine W.seq ?_)
    (refine W.seq ?_)
    (refine W.region ?_)
    (refine Jx.move rfl rfl ?_)
    (refine Jx.move rfl rfl ?_)
    (refine Jx.lenSl rfl rfl ?_)
    (refine Jx.lssI rfl rfl rfl ?_)
    (refine J.nil ?_)
    (refine N.seq ?_)
    (refine W.cT rfl ?_)
    (refine W.skip ?_)
    (refine N.seq ?_)
    (refine W.seq ?_)
    (refine W.block ?_)
    (refine W.seq ?_)
    (refine W.region ?_)
    (refine Jx.move rfl rfl ?_)
    (refine Jx.move rfl rfl ?_)
    (refine Jx.indexEl rfl rfl (by assumption) rfl rfl ?_)
    (refine Jx.loadPPall rfl rfl rfl ?_)
    (refine J.call (c) rfl (evs_args rfl) rfl ?_; rintro _ _ ⟨rfl, rfl⟩; simp only [List.cons_append, List.nil_append, List.append_nil])
    (refine J.nil ?_)
    (refine N.seq ?_)
    (refine W.cF rfl ?_)
    (refine W.skip ?_)
    (refine N.seq ?_)
    (refine W.region ?_)
    (refine Jx.move rfl rfl ?_)
    (refine Jx.add64 rfl rfl (by omega) rfl ?_)
    (refine Jx.assign rfl rfl ?_)
    (refine J.nil ?_)
    (refine id ?_; rotate_left))
      exact N.round (i + 1) ⟨h1, by rw [take_snoc (d := tx0) h1, List.any_append, hn, List.any_cons, hb]; rfl⟩ (by omega) rfl ⟨ref0 rfl, ref0 rfl, trivial⟩
  · rw [List.take_of_length_le (by omega)] at hn
    focus (
    (refine W.seq ?_)
    (refine W.seq ?_)
    (refine W.region ?_)
    (refine Jx.move rfl rfl ?_)
    (refine Jx.move rfl rfl ?_)
    (refine Jx.lenSl rfl rfl ?_)
    (refine Jx.lssI rfl rfl rfl ?_)
    (refine J.nil ?_)
    (refine N.seq ?_)
    (refine W.cF rfl ?_)
    (refine W.exit ?_)
    (refine N.seq ?_)
    (refine W.seq ?_)
    (refine W.region ?_)
    (refine Jx.move rfl rfl ?_)
    (refine Jx.lenSl rfl rfl ?_)
    (refine Jx.gtrI rfl rfl rfl ?_)
    (refine Jx.assign rfl rfl ?_)
    (refine J.nil ?_)
    (refine N.seq ?_)
    (refine W.ret ?_)
    (refine id ?_; rotate_left))
    exact N.ret (rs := [.tmp 2]) rfl (.tmp rfl .nil) ⟨by rw [bigTs, hn]; rfl, rfl⟩
def exT : Tx := ⟨1, [97], 0, [98], 5, [], [], []⟩
theorem exT_fine : fineTx exT = true := by decide
theorem numB_one {n : Nat} (h1 : 0 < n) (h2 : n < 256) : numB n = [1, UInt8.ofNat n] := by
  have h0 : be n = [UInt8.ofNat n] := by rw [be_pos h1, show n / 256 = 0 by omega, be_zero, show n % 256 = n by omega]; rfl
  unfold numB; rw [h0]; rfl
theorem exT_enc : encTx exT = [1, 1, 1, 97, 0, 1, 1, 98, 1, 5] := by
  simp only [encTx, bodyTx, exT, if_true, textB, List.length_cons, List.length_nil, Nat.zero_add, Int.toNat_zero, be_0]
  rw [numB_one (by decide) (by decide), show Int.toNat 5 = 5 from rfl, numB_one (by decide) (by decide)]
  rfl
theorem tdec_enc {x : Tx} (h : fineTx x = true) : FnC Tryd.prog 16 [str (encTx x)] [] (fun v L => v = .tup [.agg (txC x), int 0] ∧ L = []) := by
  refine (tdecode_ok (encTx x) (by have := encTx_len ((fineTx_iff x).1 h); omega)).mono ?_
  rintro v L ⟨⟨o, ho, rfl⟩, rfl⟩
  rw [apTx.some' ho h rfl]
  exact ⟨rfl, rfl⟩
theorem exAll_fine : fineAll [exT] = true := by decide
set_option maxHeartbeats 2000000 in
theorem tworks_ok : FnC Tryd.prog 13 [] [] (fun s L => s = bool true ∧ L = []) := by
  have c1 := tencode_ok exT
  rw [exT_fine, encO, exT_fine, if_pos rfl] at c1
  have c2 := tdec_enc exT_fine
  rw [exT_enc] at c1 c2
  have c3 := troot_ok [exT]
  rw [(codeAll_zero [exT]).2 exAll_fine, rootT, if_pos exAll_fine] at c3
  have c4 := sameT_ok exT exT (by decide)
  rw [decide_eq_true (rfl : exT = exT)] at c4
  have hl : ((sumD 3 (encAll [exT])).length : Int) = 32 := by rw [sumD_len]; rfl
  generalize sumD 3 (encAll [exT]) = sm at *
  refine FnC.intro Tryd.func13 rfl Tryd.ntmps13 rfl fun Z w0 hG => ?_
  focus (
    (refine W.seq ?_)
    (refine W.region ?_)
    (refine Jx.assign rfl rfl ?_)
    (refine J.nil ?_)
    (refine N.seq ?_)
    (refine W.seq ?_)
    (refine W.region ?_)
    (refine Jx.buildB rfl rfl rfl rfl rfl ?_)
    (refine J.alloc (by simp only [List.map_cons, List.map_nil]; rfl) rfl rfl ?_; intro b')
    (refine J.storeAll rfl rfl rfl 0 rfl rfl rfl ?_)
    (refine J.nil ?_)
    (refine N.seq ?_)
    (refine W.seq ?_)
    (refine W.region ?_)
    (refine J.objSub 0 (txC exT) rfl (tx_sub _ _ _ _ _ _ _) rfl ?_)
    (refine Jx.loadAll rfl 0 rfl rfl rfl ?_)
    (refine J.call (c1) rfl (evs_args rfl) rfl ?_; rintro _ _ ⟨rfl, rfl⟩; simp only [List.cons_append, List.nil_append, List.append_nil])
    (refine Jx.move rfl rfl ?_)
    (refine Jx.extract rfl rfl rfl ?_)
    (refine Jx.extract rfl rfl rfl ?_)
    (refine Jx.assign rfl rfl ?_)
    (refine Jx.assign rfl rfl ?_)
    (refine J.nil ?_)
    (refine N.seq ?_)
    (refine W.seq ?_)
    (refine W.region ?_)
    (refine Jx.move rfl rfl ?_)
    (refine J.call (c2) rfl (evs_args rfl) rfl ?_; rintro _ _ ⟨rfl, rfl⟩; simp only [List.cons_append, List.nil_append, List.append_nil])
    (refine Jx.move rfl rfl ?_)
    (refine Jx.extract rfl rfl rfl ?_)
    (refine Jx.extract rfl rfl rfl ?_)
    (refine J.alloc (by simp only [List.map_cons, List.map_nil]; rfl) rfl rfl ?_; intro b')
    (refine J.storeAll rfl rfl rfl 0 rfl rfl rfl ?_)
    (refine Jx.assign rfl rfl ?_)
    (refine J.nil ?_)
    (refine N.seq ?_)
    (refine W.seq ?_)
    (refine W.region ?_)
    (refine Jx.loadAll rfl 1 rfl rfl rfl ?_)
    (refine J.qs (Qs.buildOne txC tx0 exT rfl rfl rfl rfl rfl rfl rfl) rfl ?_)
    (refine J.call (c3) rfl (evs_args rfl) rfl ?_; rintro _ _ ⟨rfl, rfl⟩; simp only [List.cons_append, List.nil_append, List.append_nil])
    (refine Jx.move rfl rfl ?_)
    (refine Jx.extract rfl rfl rfl ?_)
    (refine Jx.extract rfl rfl rfl ?_)
    (refine Jx.assign rfl rfl ?_)
    (refine Jx.assign rfl rfl ?_)
    (refine J.nil ?_)
    (refine N.seq ?_)
    (refine W.seq ?_)
    (refine W.region ?_)
    (refine Jx.move rfl rfl ?_)
    (refine Jx.eqlS rfl rfl rfl ?_)
    (refine Jx.move rfl rfl ?_)
    (refine J.gY rfl rfl rfl ?_)
    (refine Jx.move rfl rfl ?_)
    (refine J.gY rfl rfl rfl ?_)
    (refine Jx.eqlI rfl rfl rfl ?_)
    (refine Jx.pT rfl rfl rfl ?_)
    (refine Jx.move rfl rfl ?_)
    (refine J.gY rfl rfl rfl ?_)
    (refine Jx.loadAll rfl 1 rfl rfl rfl ?_)
    (refine J.gY rfl rfl rfl ?_)
    (refine Jx.loadAll rfl 0 rfl rfl rfl ?_)
    (refine J.gY rfl rfl rfl ?_)
    (refine J.call (c4) rfl (evs_args rfl) rfl ?_; rintro _ _ ⟨rfl, rfl⟩; simp only [List.cons_append, List.nil_append, List.append_nil])
    (refine Jx.pT rfl rfl rfl ?_)
    (refine Jx.move rfl rfl ?_)
    (refine J.gY rfl rfl rfl ?_)
    (refine Jx.move rfl rfl ?_)
    (refine J.gY rfl rfl rfl ?_)
    (refine Jx.eqlI rfl rfl rfl ?_)
    (refine Jx.pT rfl rfl rfl ?_)
    (refine Jx.move rfl rfl ?_)
    (refine J.gY rfl rfl rfl ?_)
    (refine Jx.move rfl rfl ?_)
    (refine J.gY rfl rfl rfl ?_)
    (refine Jx.lenS rfl rfl ?_)
    (refine J.gY rfl rfl rfl ?_)
    (refine Jx.eqlI rfl rfl rfl ?_)
    (refine Jx.pT rfl rfl rfl ?_)
    (refine Jx.move rfl rfl ?_)
    (refine J.gY rfl rfl rfl ?_)
    (refine Jx.move rfl rfl ?_)
    (refine J.gY rfl rfl rfl ?_)
    (refine Jx.eqlI rfl rfl rfl ?_)
    (refine Jx.pT rfl rfl rfl ?_)
    (refine Jx.assign rfl rfl ?_)
    (refine J.nil ?_)
    (refine N.seq ?_)
    (refine W.ret ?_)
    (refine id ?_; rotate_left))
  exact N.retD (rs := [.tmp 0]) (L1 := []) rfl (.tmp rfl .nil) (List.nil_sublist _) ⟨by first | rfl | (simp [oneOr, hl]; done), rfl⟩
end Go.Proofs.YtmlncbdfbodjoaaDoor
namespace Go.Proofs.YtmlncbdfbodjoaaDoor
open Go Go.Sse
set_option linter.unusedVariables false
set_option linter.unusedSimpArgs false
set_option maxRecDepth 10000
theorem decT_len {s : List UInt8} {o : Option Tx} (h : DecR fineTx encTx s o) : (o.getD tx0).members.length ≤ 1048576 := by
  cases o with
  | none => simp [tx0]
  | some x =>
    have hF := (fineTx_iff x).1 h.1
    have hk := hF.kind
    simp only [Option.getD_some]
    by_cases c4 : x.kind = 4
    · have := (fineSet_spec (hF.k4 c4).1).2.1; omega
    · have : x.members = [] := by
        by_cases c1 : x.kind = 1
        · exact (hF.k1 c1).2.2.2
        · by_cases c2 : x.kind = 2
          · exact (hF.k2 c2).2.2.2
          · exact (hF.k3 (by omega)).2.2.2.2
      rw [this]; simp
end Go.Proofs.YtmlncbdfbodjoaaDoor
namespace Go.Proofs.YtmlncbdfbodjoaaDoor
open Go Go.Sse
set_option linter.unusedVariables false
set_option linter.unusedSimpArgs false
set_option maxRecDepth 10000
theorem encAll_ap {a b : List Tx} {r q : List UInt8} (ha : fineAll a = true) (hb : fineAll b = true) (h : encAll a ++ r = encAll b ++ q) : a = b ∧ r = q := by
  obtain ⟨a1, a2⟩ := fineAll_spec ha
  obtain ⟨b1, b2⟩ := fineAll_spec hb
  have key : ∀ {l : List Tx} (t : List UInt8), fineAll l = true → listP 8 65536 (some (encAll l ++ t)) = (l.map encTx, some t) := fun {l} t hl => by
    obtain ⟨l1, l2⟩ := fineAll_spec hl
    exact listP_back _ _ (by rw [List.length_map]; omega) (by rw [List.length_map]; omega) fun u hu => by
      obtain ⟨x, hx, rfl⟩ := List.mem_map.1 hu
      have := encTx_len ((fineTx_iff x).1 (l2 x hx))
      exact ⟨by omega, by omega⟩
  have h1 := key r ha
  rw [h, key q hb] at h1
  simp only [Prod.mk.injEq, Option.some.injEq] at h1
  obtain ⟨h2, rfl⟩ := h1
  refine ⟨?_, rfl⟩
  clear key h ha hb a1 b1
  induction a generalizing b with
  | nil => cases b with
    | nil => rfl
    | cons y b => simp at h2
  | cons x a ih => cases b with
    | nil => simp at h2
    | cons y b =>
      simp only [List.map_cons, List.cons.injEq] at h2
      rw [encTx_inj (a2 x (List.mem_cons_self ..)) (b2 y (List.mem_cons_self ..)) h2.1.symm, ih (fun z hz => a2 z (List.mem_cons_of_mem _ hz)) (fun z hz => b2 z (List.mem_cons_of_mem _ hz)) h2.2]
theorem apAll : Apart fineAll encAll := ⟨fun x y r q hx hy h => encAll_ap hx hy h⟩
theorem decAll_len {s : List UInt8} {o : Option (List Tx)} (h : DecR fineAll encAll s o) : (o.getD []).length ≤ 1048576 ∧ ∀ x ∈ o.getD [], x.members.length ≤ 1048576 := by
  cases o with
  | none => simp
  | some l =>
    obtain ⟨h1, h2⟩ := fineAll_spec h.1
    simp only [Option.getD_some]
    exact ⟨by omega, fun x hx => decT_len (o := some x) ⟨h2 x hx, rfl⟩⟩
set_option maxHeartbeats 4000000 in
theorem txAll_ok (a b : List Tx) (ha : a.length ≤ 9223372036854775807) (hb : b.length ≤ 9223372036854775807) : FnC Tryd.prog 9 [txsl a, txsl b] [] (fun v L => v = bool true ∧ L = []) := by
  have ca := tbigs_ok a ha
  have cb := tbigs_ok b hb
  have cw := tworks_ok
  have c1 := tencAll_ok a
  have c2 := tencAll_ok b
  refine FnC.intro Tryd.func9 rfl Tryd.ntmps9 rfl fun Z w0 hG => ?_
  focus (
    (refine W.seq ?_)
    (refine W.region ?_)
    (refine Jx.assign rfl rfl ?_)
    (refine J.nil ?_)
    (refine N.seq ?_)
    (refine W.seq ?_)
    (refine W.seq ?_)
    (refine W.region ?_)
    (refine J.call (cw) rfl (evs_args rfl) rfl ?_; rintro _ _ ⟨rfl, rfl⟩; simp only [List.cons_append, List.nil_append, List.append_nil])
    (refine Jx.not rfl rfl ?_)
    (refine J.nil ?_)
    (refine N.seq ?_)
    (refine W.cF rfl ?_)
    (refine W.skip ?_)
    (refine N.seq ?_)
    (refine W.seq ?_)
    (refine W.seq ?_)
    (refine W.region ?_)
    (refine Jx.move rfl rfl ?_)
    (refine J.call (ca) rfl (evs_args rfl) rfl ?_; rintro _ _ ⟨rfl, rfl⟩; simp only [List.cons_append, List.nil_append, List.append_nil])
    (refine Jx.move rfl rfl ?_)
    (refine' J.guardOr rfl rfl rfl rfl rfl rfl rfl rfl (fun _ => ?_) ?_; rotate_left)
    (refine J.gY rfl rfl rfl ?_)
    (refine Jx.move rfl rfl ?_)
    (refine J.gY rfl rfl rfl ?_)
    (refine J.call (cb) rfl (evs_args rfl) rfl ?_; rintro _ _ ⟨rfl, rfl⟩; simp only [List.cons_append, List.nil_append, List.append_nil])
    (refine J.nil ?_)
    (refine N.joinedN rfl rfl rfl)
    (refine J.nil ?_)
    (refine N.seq ?_)
    (refine id ?_; rotate_left))
  refine W.cond rfl (fun hq => ?_) (fun hq => ?_)
  · focus (
    (refine W.seq ?_)
    (refine W.region ?_)
    (refine Jx.assign rfl rfl ?_)
    (refine J.nil ?_)
    (refine N.seq ?_)
    (refine W.ret ?_)
    (refine N.seqRet ?_)
    (refine id ?_; rotate_left))
    exact N.ret (rs := [.tmp 4]) rfl (.tmp rfl .nil) ⟨rfl, rfl⟩
  · simp only [Bool.or_eq_false_iff] at hq
    have za := codeAll_zero a
    have zb := codeAll_zero b
    have oa : encO fineAll encAll a = if fineAll a then encAll a else [] := rfl
    have ob : encO fineAll encAll b = if fineAll b then encAll b else [] := rfl
    have t2 : codeAll a = 2 ↔ 8 < (a.length : Int) := by
      unfold codeAll
      by_cases h : 8 < a.length
      · rw [if_pos h]; simp; omega
      · rw [if_neg h]
        refine ⟨fun h2 => ?_, fun h2 => by omega⟩
        split at h2 <;> simp at h2
    by_cases hfa : fineAll a = true
    · by_cases hfb : fineAll b = true
      · rw [encO, if_pos hfa, za.2 hfa] at c1
        rw [encO, if_pos hfb, zb.2 hfb] at c2
        have c3 := troot_ok a
        have c4 := troot_ok b
        rw [za.2 hfa] at c3
        rw [zb.2 hfb] at c4
        have c5 := tdecAll_ok (encAll a) (by have := encAll_len hfa; omega)
        have hin : encAll a = encAll b ↔ a = b := ⟨fun h => (encAll_ap (r := []) (q := []) hfa hfb (by rw [h])).1, fun h => by rw [h]⟩
        have hroot : encAll a = encAll b → rootT a = rootT b := fun h => by rw [hin.1 h]
        have c7 : FnC Tryd.prog 38 [txsl a, txsl a] [] (fun v L => v = bool true ∧ L = []) := by
          have := sameTs_ok a a (decAll_len (o := some a) ⟨hfa, rfl⟩).1 (decAll_len (o := some a) ⟨hfa, rfl⟩).2
          rwa [decide_eq_true rfl] at this
        have c8 := sameTs_ok a b (decAll_len (o := some a) ⟨hfa, rfl⟩).1 (decAll_len (o := some a) ⟨hfa, rfl⟩).2
        have hd : ∀ o, DecR fineAll encAll (encAll a) o → o = some a := fun o ho => apAll.some' ho hfa rfl
        generalize encAll a = ea at *
        generalize encAll b = eb at *
        generalize rootT a = ra at *
        generalize rootT b = rb at *
        focus (
    (refine W.skip ?_)
    (refine N.seq ?_)
    (refine W.seq ?_)
    (refine W.region ?_)
    (refine Jx.move rfl rfl ?_)
    (refine J.call (c1) rfl (evs_args rfl) rfl ?_; rintro _ _ ⟨rfl, rfl⟩; simp only [List.cons_append, List.nil_append, List.append_nil])
    (refine Jx.move rfl rfl ?_)
    (refine Jx.extract rfl rfl rfl ?_)
    (refine Jx.extract rfl rfl rfl ?_)
    (refine Jx.assign rfl rfl ?_)
    (refine Jx.assign rfl rfl ?_)
    (refine J.nil ?_)
    (refine N.seq ?_)
    (refine W.seq ?_)
    (refine W.region ?_)
    (refine Jx.move rfl rfl ?_)
    (refine J.call (c2) rfl (evs_args rfl) rfl ?_; rintro _ _ ⟨rfl, rfl⟩; simp only [List.cons_append, List.nil_append, List.append_nil])
    (refine Jx.move rfl rfl ?_)
    (refine Jx.extract rfl rfl rfl ?_)
    (refine Jx.extract rfl rfl rfl ?_)
    (refine Jx.assign rfl rfl ?_)
    (refine Jx.assign rfl rfl ?_)
    (refine J.nil ?_)
    (refine N.seq ?_)
    (refine W.seq ?_)
    (refine W.seq ?_)
    (refine W.region ?_)
    (refine Jx.move rfl rfl ?_)
    (refine Jx.neqI rfl rfl rfl ?_)
    (refine Jx.move rfl rfl ?_)
    (refine J.gY rfl rfl rfl ?_)
    (refine Jx.move rfl rfl ?_)
    (refine J.gY rfl rfl rfl ?_)
    (refine Jx.neqI rfl rfl rfl ?_)
    (refine Jx.pF rfl rfl rfl ?_)
    (refine J.nil ?_)
    (refine N.seq ?_)
    (refine W.cF rfl ?_)
    (refine W.skip ?_)
    (refine N.seq ?_)
    (refine W.seq ?_)
    (refine W.region ?_)
    (refine Jx.move rfl rfl ?_)
    (refine J.call c5 rfl (evs_args rfl) rfl ?_; rintro _ _ ⟨⟨o, ho, rfl⟩, rfl⟩; simp only [List.cons_append, List.nil_append, List.append_nil]; obtain rfl := hd o ho; simp only [Option.getD_some])
    (refine Jx.move rfl rfl ?_)
    (refine Jx.extract rfl rfl rfl ?_)
    (refine Jx.extract rfl rfl rfl ?_)
    (refine Jx.assign rfl rfl ?_)
    (refine Jx.assign rfl rfl ?_)
    (refine J.nil ?_)
    (refine N.seq ?_)
    (refine W.seq ?_)
    (refine W.region ?_)
    (refine Jx.move rfl rfl ?_)
    (refine J.call (c3) rfl (evs_args rfl) rfl ?_; rintro _ _ ⟨rfl, rfl⟩; simp only [List.cons_append, List.nil_append, List.append_nil])
    (refine Jx.move rfl rfl ?_)
    (refine Jx.extract rfl rfl rfl ?_)
    (refine Jx.extract rfl rfl rfl ?_)
    (refine Jx.assign rfl rfl ?_)
    (refine Jx.assign rfl rfl ?_)
    (refine J.nil ?_)
    (refine N.seq ?_)
    (refine W.seq ?_)
    (refine W.region ?_)
    (refine Jx.move rfl rfl ?_)
    (refine J.call (c4) rfl (evs_args rfl) rfl ?_; rintro _ _ ⟨rfl, rfl⟩; simp only [List.cons_append, List.nil_append, List.append_nil])
    (refine Jx.move rfl rfl ?_)
    (refine Jx.extract rfl rfl rfl ?_)
    (refine Jx.extract rfl rfl rfl ?_)
    (refine Jx.assign rfl rfl ?_)
    (refine Jx.assign rfl rfl ?_)
    (refine J.nil ?_)
    (refine N.seq ?_)
    (refine W.seq ?_)
    (refine W.region ?_)
    (refine Jx.move rfl rfl ?_)
    (refine Jx.eqlI rfl rfl rfl ?_)
    (refine Jx.move rfl rfl ?_)
    (refine J.gY rfl rfl rfl ?_)
    (refine Jx.move rfl rfl ?_)
    (refine J.gY rfl rfl rfl ?_)
    (refine Jx.move rfl rfl ?_)
    (refine J.gY rfl rfl rfl ?_)
    (refine J.call (c7) rfl (evs_args rfl) rfl ?_; rintro _ _ ⟨rfl, rfl⟩; simp only [List.cons_append, List.nil_append, List.append_nil])
    (refine Jx.pT rfl rfl rfl ?_)
    (refine Jx.move rfl rfl ?_)
    (refine J.gY rfl rfl rfl ?_)
    (refine Jx.move rfl rfl ?_)
    (refine J.gY rfl rfl rfl ?_)
    (refine Jx.move rfl rfl ?_)
    (refine J.gY rfl rfl rfl ?_)
    (refine Jx.eqlS rfl rfl rfl ?_)
    (refine J.gY rfl rfl rfl ?_)
    (refine Jx.move rfl rfl ?_)
    (refine J.gY rfl rfl rfl ?_)
    (refine Jx.move rfl rfl ?_)
    (refine J.gY rfl rfl rfl ?_)
    (refine J.call (c8) rfl (evs_args rfl) rfl ?_; rintro _ _ ⟨rfl, rfl⟩; simp only [List.cons_append, List.nil_append, List.append_nil])
    (refine J.gY rfl rfl rfl ?_)
    (refine Jx.eqlB rfl rfl rfl ?_)
    (refine Jx.pT rfl rfl rfl ?_)
    (refine Jx.move rfl rfl ?_)
    (refine J.gY rfl rfl rfl ?_)
    (refine Jx.move rfl rfl ?_)
    (refine J.gY rfl rfl rfl ?_)
    (refine Jx.eqlI rfl rfl rfl ?_)
    (refine Jx.pT rfl rfl rfl ?_)
    (refine Jx.move rfl rfl ?_)
    (refine J.gY rfl rfl rfl ?_)
    (refine Jx.move rfl rfl ?_)
    (refine J.gY rfl rfl rfl ?_)
    (refine Jx.eqlI rfl rfl rfl ?_)
    (refine Jx.pT rfl rfl rfl ?_)
    (refine Jx.move rfl rfl ?_)
    (refine J.gY rfl rfl rfl ?_)
    (refine Jx.move rfl rfl ?_)
    (refine J.gY rfl rfl rfl ?_)
    (refine Jx.move rfl rfl ?_)
    (refine J.gY rfl rfl rfl ?_)
    (refine Jx.neqS rfl rfl rfl ?_)
    (refine J.gY rfl rfl rfl ?_)
    (refine Jx.move rfl rfl ?_)
    (refine' J.guardOrG rfl rfl rfl (by first | rfl | assumption | (exact decide_eq_true (by first | assumption | omega | rfl)) | (exact decide_eq_false (by first | assumption | omega | rfl)) | (simp; done) | (simp; omega)) rfl rfl rfl rfl rfl rfl rfl rfl (fun _ => ?_) ?_; rotate_left)
    (refine J.gY rfl rfl rfl ?_)
    (refine Jx.move rfl rfl ?_)
    (refine J.gY rfl rfl rfl ?_)
    (refine Jx.move rfl rfl ?_)
    (refine J.gY rfl rfl rfl ?_)
    (refine Jx.eqlS rfl rfl rfl ?_)
    (refine J.nil ?_)
    (refine N.joinedN rfl rfl rfl)
    (refine Jx.pT rfl rfl rfl ?_)
    (refine Jx.assign rfl rfl ?_)
    (refine J.nil ?_)
    (refine N.seq ?_)
    (refine W.ret ?_)
    (refine id ?_; rotate_left))
        refine N.ret (rs := [.tmp 4]) rfl (.tmp rfl .nil) ⟨congrArg Sse.bool ?_, rfl⟩
        by_cases h : a = b
        · have h1 := hin.2 h
          have h2 := hroot h1
          simp [h, h1, h2]
        · have h1 : ¬ ea = eb := fun e => h (hin.1 e)
          simp [h, h1]
      · have hfb : fineAll b = false := by simpa using hfb
        rw [hfb] at ob zb
        have hz : ¬ codeAll b = 0 := fun h => by have := zb.1 h; cases this
        simp only [Bool.false_eq_true, if_false] at ob
        rw [ob] at c2
        rw [encO, if_pos hfa, za.2 hfa] at c1
        generalize codeAll b = eb at *
        generalize encAll a = ea at *
        focus (
    (refine W.skip ?_)
    (refine N.seq ?_)
    (refine W.seq ?_)
    (refine W.region ?_)
    (refine Jx.move rfl rfl ?_)
    (refine J.call (c1) rfl (evs_args rfl) rfl ?_; rintro _ _ ⟨rfl, rfl⟩; simp only [List.cons_append, List.nil_append, List.append_nil])
    (refine Jx.move rfl rfl ?_)
    (refine Jx.extract rfl rfl rfl ?_)
    (refine Jx.extract rfl rfl rfl ?_)
    (refine Jx.assign rfl rfl ?_)
    (refine Jx.assign rfl rfl ?_)
    (refine J.nil ?_)
    (refine N.seq ?_)
    (refine W.seq ?_)
    (refine W.region ?_)
    (refine Jx.move rfl rfl ?_)
    (refine J.call (c2) rfl (evs_args rfl) rfl ?_; rintro _ _ ⟨rfl, rfl⟩; simp only [List.cons_append, List.nil_append, List.append_nil])
    (refine Jx.move rfl rfl ?_)
    (refine Jx.extract rfl rfl rfl ?_)
    (refine Jx.extract rfl rfl rfl ?_)
    (refine Jx.assign rfl rfl ?_)
    (refine Jx.assign rfl rfl ?_)
    (refine J.nil ?_)
    (refine N.seq ?_)
    (refine W.seq ?_)
    (refine W.seq ?_)
    (refine W.region ?_)
    (refine Jx.move rfl rfl ?_)
    (refine Jx.neqI rfl rfl rfl ?_)
    (refine Jx.move rfl rfl ?_)
    (refine J.gY rfl rfl rfl ?_)
    (refine Jx.move rfl rfl ?_)
    (refine J.gY rfl rfl rfl ?_)
    (refine Jx.neqI rfl rfl rfl ?_)
    (refine Jx.pF rfl rfl rfl ?_)
    (refine J.nil ?_)
    (refine N.seq ?_)
    (refine W.cT rfl ?_)
    (refine W.seq ?_)
    (refine W.region ?_)
    (refine Jx.move rfl rfl ?_)
    (refine Jx.eqlI rfl rfl rfl ?_)
    (refine Jx.move rfl rfl ?_)
    (refine J.gN rfl rfl rfl rfl ?_)
    (refine J.gN rfl rfl rfl rfl ?_)
    (refine J.gN rfl rfl rfl rfl ?_)
    (refine J.guardSkip rfl rfl rfl rfl ?_)
    (refine J.guardSkip rfl rfl rfl rfl ?_)
    (refine J.guardSkip rfl rfl rfl rfl ?_)
    (refine J.guardSkip rfl rfl rfl rfl ?_)
    (refine J.guardSkip rfl rfl rfl rfl ?_)
    (refine J.guardSkip rfl rfl rfl rfl ?_)
    (refine J.gN rfl rfl rfl rfl ?_)
    (refine Jx.pT rfl rfl rfl ?_)
    (refine Jx.move rfl rfl ?_)
    (refine J.gY rfl rfl rfl ?_)
    (refine Jx.move rfl rfl ?_)
    (refine J.gY rfl rfl rfl ?_)
    (refine Jx.eqlI rfl rfl rfl ?_)
    (refine J.gY rfl rfl rfl ?_)
    (refine Jx.move rfl rfl ?_)
    (refine J.gY rfl rfl rfl ?_)
    (refine Jx.move rfl rfl ?_)
    (refine J.gY rfl rfl rfl ?_)
    (refine Jx.eqlS rfl rfl rfl ?_)
    (refine J.gY rfl rfl rfl ?_)
    (refine Jx.pF rfl rfl rfl ?_)
    (refine Jx.pT rfl rfl rfl ?_)
    (refine Jx.assign rfl rfl ?_)
    (refine J.nil ?_)
    (refine N.seq ?_)
    (refine W.ret ?_)
    (refine N.seqRet ?_)
    (refine id ?_; rotate_left))
        exact N.ret (rs := [.tmp 4]) rfl (.tmp rfl .nil) ⟨by simp [oneOr, hz], rfl⟩
    · have hfa : fineAll a = false := by simpa using hfa
      rw [hfa] at oa za
      have hz : ¬ codeAll a = 0 := fun h => by have := za.1 h; cases this
      simp only [Bool.false_eq_true, if_false] at oa
      rw [oa] at c1
      have hsame : (decide (codeAll a = 2) == decide (8 < (a.length : Int))) = true := by
        by_cases h : codeAll a = 2
        · rw [decide_eq_true h, decide_eq_true (t2.1 h)]; rfl
        · rw [decide_eq_false h, decide_eq_false fun h2 => h (t2.2 h2)]; rfl
      by_cases hfb : fineAll b = true
      · rw [encO, if_pos hfb, zb.2 hfb] at c2
        generalize codeAll a = eca at *
        generalize encAll b = eb at *
        focus (
    (refine W.skip ?_)
    (refine N.seq ?_)
    (refine W.seq ?_)
    (refine W.region ?_)
    (refine Jx.move rfl rfl ?_)
    (refine J.call (c1) rfl (evs_args rfl) rfl ?_; rintro _ _ ⟨rfl, rfl⟩; simp only [List.cons_append, List.nil_append, List.append_nil])
    (refine Jx.move rfl rfl ?_)
    (refine Jx.extract rfl rfl rfl ?_)
    (refine Jx.extract rfl rfl rfl ?_)
    (refine Jx.assign rfl rfl ?_)
    (refine Jx.assign rfl rfl ?_)
    (refine J.nil ?_)
    (refine N.seq ?_)
    (refine W.seq ?_)
    (refine W.region ?_)
    (refine Jx.move rfl rfl ?_)
    (refine J.call (c2) rfl (evs_args rfl) rfl ?_; rintro _ _ ⟨rfl, rfl⟩; simp only [List.cons_append, List.nil_append, List.append_nil])
    (refine Jx.move rfl rfl ?_)
    (refine Jx.extract rfl rfl rfl ?_)
    (refine Jx.extract rfl rfl rfl ?_)
    (refine Jx.assign rfl rfl ?_)
    (refine Jx.assign rfl rfl ?_)
    (refine J.nil ?_)
    (refine N.seq ?_)
    (refine W.seq ?_)
    (refine W.seq ?_)
    (refine W.region ?_)
    (refine Jx.move rfl rfl ?_)
    (refine Jx.neqI rfl rfl rfl ?_)
    (refine Jx.move rfl rfl ?_)
    (refine J.gN rfl rfl rfl rfl ?_)
    (refine J.gN rfl rfl rfl rfl ?_)
    (refine Jx.pT rfl rfl rfl ?_)
    (refine J.nil ?_)
    (refine N.seq ?_)
    (refine W.cT rfl ?_)
    (refine W.seq ?_)
    (refine W.region ?_)
    (refine Jx.move rfl rfl ?_)
    (refine Jx.eqlI rfl rfl rfl ?_)
    (refine Jx.move rfl rfl ?_)
    (refine J.gY rfl rfl rfl ?_)
    (refine Jx.move rfl rfl ?_)
    (refine J.gY rfl rfl rfl ?_)
    (refine Jx.eqlS rfl rfl rfl ?_)
    (refine J.gY rfl rfl rfl ?_)
    (refine Jx.move rfl rfl ?_)
    (refine J.gY rfl rfl rfl ?_)
    (refine Jx.move rfl rfl ?_)
    (refine J.gY rfl rfl rfl ?_)
    (refine Jx.eqlI rfl rfl rfl ?_)
    (refine J.gY rfl rfl rfl ?_)
    (refine Jx.move rfl rfl ?_)
    (refine J.gY rfl rfl rfl ?_)
    (refine Jx.lenSl rfl rfl ?_)
    (refine J.gY rfl rfl rfl ?_)
    (refine Jx.gtrI rfl rfl rfl ?_)
    (refine J.gY rfl rfl rfl ?_)
    (refine Jx.eqlB rfl rfl rfl ?_)
    (refine J.gY rfl rfl rfl ?_)
    (refine Jx.pT rfl rfl rfl ?_)
    (refine Jx.pF rfl rfl rfl ?_)
    (refine Jx.move rfl rfl ?_)
    (refine J.gY rfl rfl rfl ?_)
    (refine Jx.move rfl rfl ?_)
    (refine J.gY rfl rfl rfl ?_)
    (refine Jx.eqlI rfl rfl rfl ?_)
    (refine J.gY rfl rfl rfl ?_)
    (refine Jx.move rfl rfl ?_)
    (refine J.gN rfl rfl rfl rfl ?_)
    (refine J.gN rfl rfl rfl rfl ?_)
    (refine J.gY rfl rfl rfl ?_)
    (refine Jx.pT rfl rfl rfl ?_)
    (refine Jx.pT rfl rfl rfl ?_)
    (refine Jx.assign rfl rfl ?_)
    (refine J.nil ?_)
    (refine N.seq ?_)
    (refine W.ret ?_)
    (refine N.seqRet ?_)
    (refine id ?_; rotate_left))
        exact N.ret (rs := [.tmp 4]) rfl (.tmp rfl .nil) ⟨by first | (simp [oneOr, hz]; done) | (simp [oneOr, hz]; simpa using hsame), rfl⟩
      · have hfb : fineAll b = false := by simpa using hfb
        rw [hfb] at ob zb
        have hzb : ¬ codeAll b = 0 := fun h => by have := zb.1 h; cases this
        simp only [Bool.false_eq_true, if_false] at ob
        rw [ob] at c2
        generalize codeAll a = eca at *
        generalize codeAll b = ecb at *
        focus (
    (refine W.skip ?_)
    (refine N.seq ?_)
    (refine W.seq ?_)
    (refine W.region ?_)
    (refine Jx.move rfl rfl ?_)
    (refine J.call (c1) rfl (evs_args rfl) rfl ?_; rintro _ _ ⟨rfl, rfl⟩; simp only [List.cons_append, List.nil_append, List.append_nil])
    (refine Jx.move rfl rfl ?_)
    (refine Jx.extract rfl rfl rfl ?_)
    (refine Jx.extract rfl rfl rfl ?_)
    (refine Jx.assign rfl rfl ?_)
    (refine Jx.assign rfl rfl ?_)
    (refine J.nil ?_)
    (refine N.seq ?_)
    (refine W.seq ?_)
    (refine W.region ?_)
    (refine Jx.move rfl rfl ?_)
    (refine J.call (c2) rfl (evs_args rfl) rfl ?_; rintro _ _ ⟨rfl, rfl⟩; simp only [List.cons_append, List.nil_append, List.append_nil])
    (refine Jx.move rfl rfl ?_)
    (refine Jx.extract rfl rfl rfl ?_)
    (refine Jx.extract rfl rfl rfl ?_)
    (refine Jx.assign rfl rfl ?_)
    (refine Jx.assign rfl rfl ?_)
    (refine J.nil ?_)
    (refine N.seq ?_)
    (refine W.seq ?_)
    (refine W.seq ?_)
    (refine W.region ?_)
    (refine Jx.move rfl rfl ?_)
    (refine Jx.neqI rfl rfl rfl ?_)
    (refine Jx.move rfl rfl ?_)
    (refine J.gN rfl rfl rfl rfl ?_)
    (refine J.gN rfl rfl rfl rfl ?_)
    (refine Jx.pT rfl rfl rfl ?_)
    (refine J.nil ?_)
    (refine N.seq ?_)
    (refine W.cT rfl ?_)
    (refine W.seq ?_)
    (refine W.region ?_)
    (refine Jx.move rfl rfl ?_)
    (refine Jx.eqlI rfl rfl rfl ?_)
    (refine Jx.move rfl rfl ?_)
    (refine J.gY rfl rfl rfl ?_)
    (refine Jx.move rfl rfl ?_)
    (refine J.gY rfl rfl rfl ?_)
    (refine Jx.eqlS rfl rfl rfl ?_)
    (refine J.gY rfl rfl rfl ?_)
    (refine Jx.move rfl rfl ?_)
    (refine J.gY rfl rfl rfl ?_)
    (refine Jx.move rfl rfl ?_)
    (refine J.gY rfl rfl rfl ?_)
    (refine Jx.eqlI rfl rfl rfl ?_)
    (refine J.gY rfl rfl rfl ?_)
    (refine Jx.move rfl rfl ?_)
    (refine J.gY rfl rfl rfl ?_)
    (refine Jx.lenSl rfl rfl ?_)
    (refine J.gY rfl rfl rfl ?_)
    (refine Jx.gtrI rfl rfl rfl ?_)
    (refine J.gY rfl rfl rfl ?_)
    (refine Jx.eqlB rfl rfl rfl ?_)
    (refine J.gY rfl rfl rfl ?_)
    (refine Jx.pT rfl rfl rfl ?_)
    (refine Jx.pF rfl rfl rfl ?_)
    (refine Jx.move rfl rfl ?_)
    (refine J.gY rfl rfl rfl ?_)
    (refine Jx.move rfl rfl ?_)
    (refine J.gY rfl rfl rfl ?_)
    (refine Jx.eqlI rfl rfl rfl ?_)
    (refine J.gY rfl rfl rfl ?_)
    (refine Jx.move rfl rfl ?_)
    (refine J.gY rfl rfl rfl ?_)
    (refine Jx.move rfl rfl ?_)
    (refine J.gY rfl rfl rfl ?_)
    (refine Jx.eqlS rfl rfl rfl ?_)
    (refine J.gY rfl rfl rfl ?_)
    (refine Jx.pF rfl rfl rfl ?_)
    (refine Jx.pT rfl rfl rfl ?_)
    (refine Jx.assign rfl rfl ?_)
    (refine J.nil ?_)
    (refine N.seq ?_)
    (refine W.ret ?_)
    (refine N.seqRet ?_)
    (refine id ?_; rotate_left))
        exact N.ret (rs := [.tmp 4]) rfl (.tmp rfl .nil) ⟨by first | (simp [oneOr, hz, hzb]; done) | (simp [oneOr, hz, hzb]; simpa using hsame), rfl⟩
end Go.Proofs.YtmlncbdfbodjoaaDoor
