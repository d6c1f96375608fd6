/-
  Lemmas for the claim, part 3.
-/
import Derived.Test.YtmkicbphbegjbaaNetArrivesPb
namespace Go.Proofs.Ytmkicbphbegjbaa
open Go Go.Sse
set_option linter.unusedVariables false
set_option linter.unusedSimpArgs false
set_option maxRecDepth 10000
abbrev dF (S : NS) : Nat := fateN S.fates / 4 % 8
def stepN (S : NS) (x : Lt) : NS :=
  if fateN S.fates % 4 = 1 then popF S
  else if fateN S.fates % 4 = 2 then arS (arS (popF S) x (1 + (dF S : Int))) x (2 + 2 * (dF S : Int))
  else if fateN S.fates % 4 = 3 then arS (popF S) x (1 + 2 * (dF S : Int))
  else arS (popF S) x (1 + (dF S : Int))
def okL (x : Lt) : Prop := okN x.fr = true ∧ okN x.to_ = true ∧ x.tx.length ≤ 65536
instance (x : Lt) : Decidable (okL x) := by unfold okL; exact inferInstance
def postN (S : NS) (x : Lt) : NS × Int := if okL x then (if 1022 < S.A.length then (S, 2) else (stepN S x, 0)) else (S, 1)
theorem postN_bad {S : NS} {x : Lt} (h : ¬ okL x) : postN S x = (S, 1) := if_neg h
theorem postN_full {S : NS} {x : Lt} (h : okL x) (k : 1022 < S.A.length) : postN S x = (S, 2) := (if_pos h).trans (if_pos k)
theorem postN_ok {S : NS} {x : Lt} (h : okL x) (k : ¬ 1022 < S.A.length) : postN S x = (stepN S x, 0) := (if_pos h).trans (if_neg k)
theorem fateN_lt (f : List UInt8) : fateN f < 256 := UInt8.toNat_lt _
theorem and7 : ∀ m : Fin 64, IntKind.u8.wrap ((BitVec.ofInt IntKind.u8.bits ((m.1 : Nat) : Int) &&& BitVec.ofInt IntKind.u8.bits 7).toNat) = ((m.1 % 8 : Nat) : Int) := by decide +kernel
theorem and3 : ∀ m : Fin 256, IntKind.u8.wrap ((BitVec.ofInt IntKind.u8.bits ((m.1 : Nat) : Int) &&& BitVec.ofInt IntKind.u8.bits 3).toNat) = ((m.1 % 4 : Nat) : Int) := by decide +kernel
theorem wrap8 : ∀ m : Fin 8, IntKind.i64.wrap ((m.1 : Nat) : Int) = ((m.1 : Nat) : Int) := by decide +kernel
set_option maxHeartbeats 8000000 in
theorem nPost_ok (b : Nat) (S : NS) (n : Nat) (L0 : List Own) (h : Nw b S n L0) (x : Lt) (hn : n ≤ 40000) : FnC Try.prog 27 [ptr b, .agg (ltC x)] L0 (fun r L => r = int (postN S x).2 ∧ Nw b (postN S x).1 (n + 2) L) := by
  have hup := h.mono (show n ≤ n + 2 by omega)
  have h' := h
  obtain ⟨tb, M, mp, LT, rfl, hT, hN⟩ := h
  have cn1 := name_ok x.fr
  have cn2 := name_ok x.to_
  by_cases g1 : okN x.fr = true
  case neg =>
    rw [postN_bad (fun hh => g1 hh.1)]
    have g1' : okN x.fr = false := by simpa using g1
    rw [g1'] at cn1
    refine FnC.intro Try.func27 rfl Try.ntmps27 rfl fun Z w0 hG => ?_
    focus (
 (refine W.seq (W.region ?_))
 (refine J.boxAg rfl rfl ?_; intro b')
 (refine Jx.assign rfl rfl (J.nil (N.seq (W.seq (W.seq (W.region (Jx.fieldAddr rfl rfl ?_)))))))
 (refine Jx.load rfl 0 rfl rfl rfl ?_)
 (refine J.call (Lc := []) cn1 rfl (evs_args rfl) rfl ?_; rintro _ _ ⟨rfl, rfl⟩; rw [List.nil_append])
 (refine Jx.not rfl rfl (Jx.move rfl rfl (J.gN rfl rfl rfl rfl ?_)))
 (refine J.gN rfl rfl rfl rfl ?_)
 (refine J.gN rfl rfl rfl rfl ?_)
 (refine J.gN rfl rfl rfl rfl ?_)
 (refine Jx.pT rfl rfl rfl ?_)
 (refine Jx.move rfl rfl (J.gN rfl rfl rfl rfl ?_))
 (refine J.gN rfl rfl rfl rfl ?_)
 (refine J.gN rfl rfl rfl rfl ?_)
 (refine J.gN rfl rfl rfl rfl ?_)
 (refine Jx.pT rfl rfl rfl ?_)
 (refine J.nil (N.seq (W.cT rfl ?_)))
 (refine W.seq (W.region (Jx.assign rfl rfl (J.nil (N.seq (W.ret (N.noGotoRet ?_)))))))
 (refine id ?_; rotate_left))
    exact N.retD (rs := [.tmp 4]) rfl (.tmp rfl .nil) (List.sublist_cons_self _ _) ⟨rfl, hup⟩
  rw [g1] at cn1
  by_cases g2 : okN x.to_ = true
  case neg =>
    rw [postN_bad (fun hh => g2 hh.2.1)]
    have g2' : okN x.to_ = false := by simpa using g2
    rw [g2'] at cn2
    refine FnC.intro Try.func27 rfl Try.ntmps27 rfl fun Z w0 hG => ?_
    focus (
 (refine W.seq (W.region ?_))
 (refine J.boxAg rfl rfl ?_; intro b')
 (refine Jx.assign rfl rfl (J.nil (N.seq (W.seq (W.seq (W.region (Jx.fieldAddr rfl rfl ?_)))))))
 (refine Jx.load rfl 0 rfl rfl rfl ?_)
 (refine J.call (Lc := []) cn1 rfl (evs_args rfl) rfl ?_; rintro _ _ ⟨rfl, rfl⟩; rw [List.nil_append])
 (refine Jx.not rfl rfl (Jx.move rfl rfl (J.gY rfl rfl rfl ?_)))
 (refine Jx.fieldAddr rfl rfl ?_)
 (refine J.gY rfl rfl rfl ?_)
 (refine Jx.load rfl 0 rfl rfl rfl ?_)
 (refine J.gY rfl rfl rfl ?_)
 (refine J.call (Lc := []) cn2 rfl (evs_args rfl) rfl ?_; rintro _ _ ⟨rfl, rfl⟩; rw [List.nil_append])
 (refine J.gY rfl rfl rfl ?_)
 (refine Jx.not rfl rfl (Jx.pF rfl rfl rfl ?_))
 (refine Jx.move rfl rfl (J.gN rfl rfl rfl rfl ?_))
 (refine J.gN rfl rfl rfl rfl ?_)
 (refine J.gN rfl rfl rfl rfl ?_)
 (refine J.gN rfl rfl rfl rfl ?_)
 (refine Jx.pT rfl rfl rfl ?_)
 (refine J.nil (N.seq (W.cT rfl ?_)))
 (refine W.seq (W.region (Jx.assign rfl rfl (J.nil (N.seq (W.ret (N.noGotoRet ?_)))))))
 (refine id ?_; rotate_left))
    exact N.retD (rs := [.tmp 4]) rfl (.tmp rfl .nil) (List.sublist_cons_self _ _) ⟨rfl, hup⟩
  rw [g2] at cn2
  by_cases g3 : x.tx.length ≤ 65536
  case neg =>
    rw [postN_bad (fun hh => g3 hh.2.2)]
    have g3' : (65536 : Int) < (x.tx.length : Int) := by omega
    refine FnC.intro Try.func27 rfl Try.ntmps27 rfl fun Z w0 hG => ?_
    focus (
 (refine W.seq (W.region ?_))
 (refine J.boxAg rfl rfl ?_; intro b')
 (refine Jx.assign rfl rfl (J.nil (N.seq (W.seq (W.seq (W.region (Jx.fieldAddr rfl rfl ?_)))))))
 (refine Jx.load rfl 0 rfl rfl rfl ?_)
 (refine J.call (Lc := []) cn1 rfl (evs_args rfl) rfl ?_; rintro _ _ ⟨rfl, rfl⟩; rw [List.nil_append])
 (refine Jx.not rfl rfl (Jx.move rfl rfl (J.gY rfl rfl rfl ?_)))
 (refine Jx.fieldAddr rfl rfl ?_)
 (refine J.gY rfl rfl rfl ?_)
 (refine Jx.load rfl 0 rfl rfl rfl ?_)
 (refine J.gY rfl rfl rfl ?_)
 (refine J.call (Lc := []) cn2 rfl (evs_args rfl) rfl ?_; rintro _ _ ⟨rfl, rfl⟩; rw [List.nil_append])
 (refine J.gY rfl rfl rfl ?_)
 (refine Jx.not rfl rfl (Jx.pF rfl rfl rfl ?_))
 (refine Jx.move rfl rfl (J.gY rfl rfl rfl ?_))
 (refine Jx.fieldAddr rfl rfl ?_)
 (refine J.gY rfl rfl rfl ?_)
 (refine Jx.load rfl 0 rfl rfl rfl ?_)
 (refine J.gY rfl rfl rfl ?_)
 (refine Jx.lenS rfl rfl ?_)
 (refine J.gY rfl rfl rfl ?_)
 (refine Jx.gtrI rfl rfl rfl (Jx.pF rfl rfl rfl ?_))
 (refine J.nil (N.seq (W.cT rfl ?_)))
 (refine W.seq (W.region (Jx.assign rfl rfl (J.nil (N.seq (W.ret (N.noGotoRet ?_)))))))
 (refine id ?_; rotate_left))
    exact N.retD (rs := [.tmp 4]) rfl (.tmp rfl .nil) (List.sublist_cons_self _ _) ⟨rfl, hup⟩
  have g3' : ¬ (65536 : Int) < (x.tx.length : Int) := by omega
  have cl := tLen_ok tb _ n LT hT
  rw [List.length_map] at cl
  by_cases g4 : 1022 < S.A.length
  case pos =>
    have g4' : (1022 : Int) < (S.A.length : Int) := by omega
    rw [postN_full ⟨g1, g2, g3⟩ g4]
    refine FnC.intro Try.func27 rfl Try.ntmps27 rfl fun Z w0 hG => ?_
    focus (
 (refine W.seq (W.region ?_))
 (refine J.boxAg rfl rfl ?_; intro b')
 (refine Jx.assign rfl rfl (J.nil (N.seq (W.seq (W.seq (W.region (Jx.fieldAddr rfl rfl ?_)))))))
 (refine Jx.load rfl 0 rfl rfl rfl ?_)
 (refine J.call (Lc := []) cn1 rfl (evs_args rfl) rfl ?_; rintro _ _ ⟨rfl, rfl⟩; rw [List.nil_append])
 (refine Jx.not rfl rfl (Jx.move rfl rfl (J.gY rfl rfl rfl ?_)))
 (refine Jx.fieldAddr rfl rfl ?_)
 (refine J.gY rfl rfl rfl ?_)
 (refine Jx.load rfl 0 rfl rfl rfl ?_)
 (refine J.gY rfl rfl rfl ?_)
 (refine J.call (Lc := []) cn2 rfl (evs_args rfl) rfl ?_; rintro _ _ ⟨rfl, rfl⟩; rw [List.nil_append])
 (refine J.gY rfl rfl rfl ?_)
 (refine Jx.not rfl rfl (Jx.pF rfl rfl rfl ?_))
 (refine Jx.move rfl rfl (J.gY rfl rfl rfl ?_))
 (refine Jx.fieldAddr rfl rfl ?_)
 (refine J.gY rfl rfl rfl ?_)
 (refine Jx.load rfl 0 rfl rfl rfl ?_)
 (refine J.gY rfl rfl rfl ?_)
 (refine Jx.lenS rfl rfl ?_)
 (refine J.gY rfl rfl rfl ?_)
 (refine Jx.gtrI rfl rfl rfl (Jx.pF rfl rfl rfl ?_))
 (refine J.nil (N.seq (W.cF rfl ?_)))
 (refine W.skip (N.seq (W.seq (W.seq (W.region (Jx.move rfl rfl (Jx.nilCheck rfl rfl ?_)))))))
 (refine Jx.fieldAddr rfl rfl ?_)
 (refine Jx.load rfl 1 rfl rfl rfl ?_)
 (refine J.perm (List.perm_append_comm (l₁ := [_, _, _]) (l₂ := LT)) ?_; refine J.call cl rfl (evs_args rfl) rfl ?_; rintro _ L9 ⟨rfl, h9⟩; rw [h9]; refine J.perm (List.perm_append_comm (l₁ := LT) (l₂ := [_, _, _])) ?_; simp only [List.cons_append, List.nil_append])
 (refine Jx.gtrI rfl rfl rfl (J.nil (N.seq (W.cT rfl ?_))))
 (refine W.seq (W.region (Jx.assign rfl rfl (J.nil (N.seq (W.ret (N.noGotoRet ?_)))))))
 (refine id ?_; rotate_left))
    exact N.retD (rs := [.tmp 4]) rfl (.tmp rfl .nil) (List.sublist_cons_self _ _) ⟨rfl, hup⟩
  have g4' : ¬ (1022 : Int) < (S.A.length : Int) := by omega
  rw [postN_ok ⟨g1, g2, g3⟩ g4]
  have cf := nFate_ok b S n _ h'
  have hf := fateN_lt S.fates
  have a7 := and7 ⟨fateN S.fates / 2 ^ 2, by omega⟩
  have a3 := and3 ⟨fateN S.fates, hf⟩
  have aw := wrap8 ⟨fateN S.fates / 2 ^ 2 % 8, Nat.mod_lt _ (by decide)⟩
  simp only at a7 a3 aw
  have hd8 : fateN S.fates / 2 ^ 2 % 8 < 8 := Nat.mod_lt _ (by decide)
  have hdF : dF S = fateN S.fates / 2 ^ 2 % 8 := rfl
  unfold stepN
  rw [hdF]
  have hm4 : fateN S.fates % 4 < 4 := Nat.mod_lt _ (by decide)
  have ca := fun L1 (h1 : Nw b (popF S) n L1) (d : Int) (hd : 1 ≤ d ∧ d ≤ 16) => nArrive_ok b (popF S) n L1 h1 x d hd (by omega) (by simp only; omega)
  have ca2 := fun L1 (d0 : Int) (h1 : Nw b (arS (popF S) x d0) (n + 1) L1) (d : Int) (hd : 1 ≤ d ∧ d ≤ 16) => nArrive_ok b (arS (popF S) x d0) (n + 1) L1 h1 x d hd (by omega) (by simp only [List.length_append, List.length_singleton]; omega)
  by_cases k1 : fateN S.fates % 4 = 1
  · rw [k1] at a3
    rw [if_pos k1]
    generalize fateN S.fates / 2 ^ 2 % 8 = d at *
    refine FnC.intro Try.func27 rfl Try.ntmps27 rfl fun Z w0 hG => ?_
    focus (
 (refine W.seq (W.region ?_))
 (refine J.boxAg rfl rfl ?_; intro b')
 (refine Jx.assign rfl rfl (J.nil (N.seq (W.seq (W.seq (W.region (Jx.fieldAddr rfl rfl ?_)))))))
 (refine Jx.load rfl 0 rfl rfl rfl ?_)
 (refine J.call (Lc := []) cn1 rfl (evs_args rfl) rfl ?_; rintro _ _ ⟨rfl, rfl⟩; rw [List.nil_append])
 (refine Jx.not rfl rfl (Jx.move rfl rfl (J.gY rfl rfl rfl ?_)))
 (refine Jx.fieldAddr rfl rfl ?_)
 (refine J.gY rfl rfl rfl ?_)
 (refine Jx.load rfl 0 rfl rfl rfl ?_)
 (refine J.gY rfl rfl rfl ?_)
 (refine J.call (Lc := []) cn2 rfl (evs_args rfl) rfl ?_; rintro _ _ ⟨rfl, rfl⟩; rw [List.nil_append])
 (refine J.gY rfl rfl rfl ?_)
 (refine Jx.not rfl rfl (Jx.pF rfl rfl rfl ?_))
 (refine Jx.move rfl rfl (J.gY rfl rfl rfl ?_))
 (refine Jx.fieldAddr rfl rfl ?_)
 (refine J.gY rfl rfl rfl ?_)
 (refine Jx.load rfl 0 rfl rfl rfl ?_)
 (refine J.gY rfl rfl rfl ?_)
 (refine Jx.lenS rfl rfl ?_)
 (refine J.gY rfl rfl rfl ?_)
 (refine Jx.gtrI rfl rfl rfl (Jx.pF rfl rfl rfl ?_))
 (refine J.nil (N.seq (W.cF rfl ?_)))
 (refine W.skip (N.seq (W.seq (W.seq (W.region (Jx.move rfl rfl (Jx.nilCheck rfl rfl ?_)))))))
 (refine Jx.fieldAddr rfl rfl ?_)
 (refine Jx.load rfl 1 rfl rfl rfl ?_)
 (refine J.perm (List.perm_append_comm (l₁ := [_, _, _]) (l₂ := LT)) ?_; refine J.call cl rfl (evs_args rfl) rfl ?_; rintro _ L9 ⟨rfl, h9⟩; rw [h9]; refine J.perm (List.perm_append_comm (l₁ := LT) (l₂ := [_, _, _])) ?_; simp only [List.cons_append, List.nil_append])
 (refine Jx.gtrI rfl rfl rfl (J.nil (N.seq (W.cF rfl ?_))))
 (refine W.skip (N.seq (W.seq (W.region (Jx.move rfl rfl ?_)))))
 (refine J.perm (List.perm_append_comm (l₁ := [_]) (l₂ := ntO b S tb M :: mapD M mp :: LT)) ?_; refine J.call cf rfl (evs_args rfl) rfl ?_; rintro _ L1 ⟨rfl, h1⟩; refine J.perm (List.perm_append_comm (l₁ := L1) (l₂ := [_])) ?_; simp only [List.cons_append, List.nil_append])
 (refine Jx.assign rfl rfl (J.nil (N.seq (W.seq (W.region (Jx.move rfl rfl (Jx.shrN (n := fateN S.fates) (s := 2) rfl rfl rfl (by decide) rfl ?_)))))))
 (refine Jx.band rfl rfl rfl ?_; rw [a7])
 (refine Jx.convI (by kernel_rfl) rfl rfl ?_; rw [aw])
 (refine Jx.assign rfl rfl (J.nil (N.seq (W.seq (W.seq (W.region (Jx.move rfl rfl ?_)))))))
 (refine Jx.band rfl rfl rfl ?_; rw [a3])
 (refine J.nil (N.seq (W.block (W.seq (W.region (Jx.eqlI rfl rfl rfl (Jx.assign rfl rfl (J.nil (N.seq (W.cT rfl ?_))))))))))
 (refine W.skip (N.seq (W.seq (W.region (Jx.assign rfl rfl (J.nil (N.seq (W.ret ?_))))))))
 (refine id ?_; rotate_left))
    exact N.retD (rs := [.tmp 4]) rfl (.tmp rfl .nil) (List.sublist_cons_self _ _) ⟨rfl, h1.mono (by omega)⟩
  by_cases k2 : fateN S.fates % 4 = 2
  · rw [k2] at a3
    rw [if_neg k1, if_pos k2]
    generalize fateN S.fates / 2 ^ 2 % 8 = d at *
    refine FnC.intro Try.func27 rfl Try.ntmps27 rfl fun Z w0 hG => ?_
    focus (
 (refine W.seq (W.region ?_))
 (refine J.boxAg rfl rfl ?_; intro b')
 (refine Jx.assign rfl rfl (J.nil (N.seq (W.seq (W.seq (W.region (Jx.fieldAddr rfl rfl ?_)))))))
 (refine Jx.load rfl 0 rfl rfl rfl ?_)
 (refine J.call (Lc := []) cn1 rfl (evs_args rfl) rfl ?_; rintro _ _ ⟨rfl, rfl⟩; rw [List.nil_append])
 (refine Jx.not rfl rfl (Jx.move rfl rfl (J.gY rfl rfl rfl ?_)))
 (refine Jx.fieldAddr rfl rfl ?_)
 (refine J.gY rfl rfl rfl ?_)
 (refine Jx.load rfl 0 rfl rfl rfl ?_)
 (refine J.gY rfl rfl rfl ?_)
 (refine J.call (Lc := []) cn2 rfl (evs_args rfl) rfl ?_; rintro _ _ ⟨rfl, rfl⟩; rw [List.nil_append])
 (refine J.gY rfl rfl rfl ?_)
 (refine Jx.not rfl rfl (Jx.pF rfl rfl rfl ?_))
 (refine Jx.move rfl rfl (J.gY rfl rfl rfl ?_))
 (refine Jx.fieldAddr rfl rfl ?_)
 (refine J.gY rfl rfl rfl ?_)
 (refine Jx.load rfl 0 rfl rfl rfl ?_)
 (refine J.gY rfl rfl rfl ?_)
 (refine Jx.lenS rfl rfl ?_)
 (refine J.gY rfl rfl rfl ?_)
 (refine Jx.gtrI rfl rfl rfl (Jx.pF rfl rfl rfl ?_))
 (refine J.nil (N.seq (W.cF rfl ?_)))
 (refine W.skip (N.seq (W.seq (W.seq (W.region (Jx.move rfl rfl (Jx.nilCheck rfl rfl ?_)))))))
 (refine Jx.fieldAddr rfl rfl ?_)
 (refine Jx.load rfl 1 rfl rfl rfl ?_)
 (refine J.perm (List.perm_append_comm (l₁ := [_, _, _]) (l₂ := LT)) ?_; refine J.call cl rfl (evs_args rfl) rfl ?_; rintro _ L9 ⟨rfl, h9⟩; rw [h9]; refine J.perm (List.perm_append_comm (l₁ := LT) (l₂ := [_, _, _])) ?_; simp only [List.cons_append, List.nil_append])
 (refine Jx.gtrI rfl rfl rfl (J.nil (N.seq (W.cF rfl ?_))))
 (refine W.skip (N.seq (W.seq (W.region (Jx.move rfl rfl ?_)))))
 (refine J.perm (List.perm_append_comm (l₁ := [_]) (l₂ := ntO b S tb M :: mapD M mp :: LT)) ?_; refine J.call cf rfl (evs_args rfl) rfl ?_; rintro _ L1 ⟨rfl, h1⟩; refine J.perm (List.perm_append_comm (l₁ := L1) (l₂ := [_])) ?_; simp only [List.cons_append, List.nil_append])
 (refine Jx.assign rfl rfl (J.nil (N.seq (W.seq (W.region (Jx.move rfl rfl (Jx.shrN (n := fateN S.fates) (s := 2) rfl rfl rfl (by decide) rfl ?_)))))))
 (refine Jx.band rfl rfl rfl ?_; rw [a7])
 (refine Jx.convI (by kernel_rfl) rfl rfl ?_; rw [aw])
 (refine Jx.assign rfl rfl (J.nil (N.seq (W.seq (W.seq (W.region (Jx.move rfl rfl ?_)))))))
 (refine Jx.band rfl rfl rfl ?_; rw [a3])
 (refine J.nil (N.seq (W.block (W.seq (W.region (Jx.eqlI rfl rfl rfl (Jx.assign rfl rfl (J.nil (N.seq (W.cF rfl ?_))))))))))
 (refine W.seq (W.region (Jx.eqlI rfl rfl rfl (Jx.assign rfl rfl (J.nil (N.seq (W.cT rfl ?_)))))))
 (refine W.seq (W.region (Jx.move rfl rfl (Jx.loadAll rfl 0 rfl rfl rfl ?_))))
 (refine Jx.move rfl rfl (Jx.add64 rfl rfl (by omega) rfl ?_))
 (refine J.perm (List.perm_append_comm (l₁ := [_]) (l₂ := L1)) ?_; refine J.call (ca L1 h1 (1 + (d : Int)) (by omega)) rfl (evs_args rfl) rfl ?_; rintro _ L2 h2; refine J.perm (List.perm_append_comm (l₁ := L2) (l₂ := [_])) ?_; simp only [List.cons_append, List.nil_append])
 (refine J.nil (N.seq (W.region (Jx.move rfl rfl (Jx.loadAll rfl 0 rfl rfl rfl ?_)))))
 (refine Jx.move rfl rfl (Jx.mul64 rfl rfl (by omega) rfl ?_))
 (refine Jx.add64 rfl rfl (by omega) rfl ?_)
 (refine J.perm (List.perm_append_comm (l₁ := [_]) (l₂ := L2)) ?_; refine J.call (ca2 L2 (1 + (d : Int)) h2 (2 + 2 * (d : Int)) (by omega)) rfl (evs_args rfl) rfl ?_; rintro _ L3 h3; refine J.perm (List.perm_append_comm (l₁ := L3) (l₂ := [_])) ?_; simp only [List.cons_append, List.nil_append])
 (refine J.nil (N.seq (W.seq (W.region (Jx.assign rfl rfl (J.nil (N.seq (W.ret ?_))))))))
 (refine id ?_; rotate_left))
    exact N.retD (rs := [.tmp 4]) rfl (.tmp rfl .nil) (List.sublist_cons_self _ _) ⟨rfl, h3⟩
  by_cases k3 : fateN S.fates % 4 = 3
  · rw [k3] at a3
    rw [if_neg k1, if_neg k2, if_pos k3]
    generalize fateN S.fates / 2 ^ 2 % 8 = d at *
    refine FnC.intro Try.func27 rfl Try.ntmps27 rfl fun Z w0 hG => ?_
    focus (
 (refine W.seq (W.region ?_))
 (refine J.boxAg rfl rfl ?_; intro b')
 (refine Jx.assign rfl rfl (J.nil (N.seq (W.seq (W.seq (W.region (Jx.fieldAddr rfl rfl ?_)))))))
 (refine Jx.load rfl 0 rfl rfl rfl ?_)
 (refine J.call (Lc := []) cn1 rfl (evs_args rfl) rfl ?_; rintro _ _ ⟨rfl, rfl⟩; rw [List.nil_append])
 (refine Jx.not rfl rfl (Jx.move rfl rfl (J.gY rfl rfl rfl ?_)))
 (refine Jx.fieldAddr rfl rfl ?_)
 (refine J.gY rfl rfl rfl ?_)
 (refine Jx.load rfl 0 rfl rfl rfl ?_)
 (refine J.gY rfl rfl rfl ?_)
 (refine J.call (Lc := []) cn2 rfl (evs_args rfl) rfl ?_; rintro _ _ ⟨rfl, rfl⟩; rw [List.nil_append])
 (refine J.gY rfl rfl rfl ?_)
 (refine Jx.not rfl rfl (Jx.pF rfl rfl rfl ?_))
 (refine Jx.move rfl rfl (J.gY rfl rfl rfl ?_))
 (refine Jx.fieldAddr rfl rfl ?_)
 (refine J.gY rfl rfl rfl ?_)
 (refine Jx.load rfl 0 rfl rfl rfl ?_)
 (refine J.gY rfl rfl rfl ?_)
 (refine Jx.lenS rfl rfl ?_)
 (refine J.gY rfl rfl rfl ?_)
 (refine Jx.gtrI rfl rfl rfl (Jx.pF rfl rfl rfl ?_))
 (refine J.nil (N.seq (W.cF rfl ?_)))
 (refine W.skip (N.seq (W.seq (W.seq (W.region (Jx.move rfl rfl (Jx.nilCheck rfl rfl ?_)))))))
 (refine Jx.fieldAddr rfl rfl ?_)
 (refine Jx.load rfl 1 rfl rfl rfl ?_)
 (refine J.perm (List.perm_append_comm (l₁ := [_, _, _]) (l₂ := LT)) ?_; refine J.call cl rfl (evs_args rfl) rfl ?_; rintro _ L9 ⟨rfl, h9⟩; rw [h9]; refine J.perm (List.perm_append_comm (l₁ := LT) (l₂ := [_, _, _])) ?_; simp only [List.cons_append, List.nil_append])
 (refine Jx.gtrI rfl rfl rfl (J.nil (N.seq (W.cF rfl ?_))))
 (refine W.skip (N.seq (W.seq (W.region (Jx.move rfl rfl ?_)))))
 (refine J.perm (List.perm_append_comm (l₁ := [_]) (l₂ := ntO b S tb M :: mapD M mp :: LT)) ?_; refine J.call cf rfl (evs_args rfl) rfl ?_; rintro _ L1 ⟨rfl, h1⟩; refine J.perm (List.perm_append_comm (l₁ := L1) (l₂ := [_])) ?_; simp only [List.cons_append, List.nil_append])
 (refine Jx.assign rfl rfl (J.nil (N.seq (W.seq (W.region (Jx.move rfl rfl (Jx.shrN (n := fateN S.fates) (s := 2) rfl rfl rfl (by decide) rfl ?_)))))))
 (refine Jx.band rfl rfl rfl ?_; rw [a7])
 (refine Jx.convI (by kernel_rfl) rfl rfl ?_; rw [aw])
 (refine Jx.assign rfl rfl (J.nil (N.seq (W.seq (W.seq (W.region (Jx.move rfl rfl ?_)))))))
 (refine Jx.band rfl rfl rfl ?_; rw [a3])
 (refine J.nil (N.seq (W.block (W.seq (W.region (Jx.eqlI rfl rfl rfl (Jx.assign rfl rfl (J.nil (N.seq (W.cF rfl ?_))))))))))
 (refine W.seq (W.region (Jx.eqlI rfl rfl rfl (Jx.assign rfl rfl (J.nil (N.seq (W.cF rfl ?_)))))))
 (refine W.seq (W.region (Jx.eqlI rfl rfl rfl (Jx.assign rfl rfl (J.nil (N.seq (W.cT rfl ?_)))))))
 (refine W.region (Jx.move rfl rfl (Jx.loadAll rfl 0 rfl rfl rfl ?_)))
 (refine Jx.move rfl rfl (Jx.mul64 rfl rfl (by omega) rfl ?_))
 (refine Jx.add64 rfl rfl (by omega) rfl ?_)
 (refine J.perm (List.perm_append_comm (l₁ := [_]) (l₂ := L1)) ?_; refine J.call (ca L1 h1 (1 + 2 * (d : Int)) (by omega)) rfl (evs_args rfl) rfl ?_; rintro _ L2 h2; refine J.perm (List.perm_append_comm (l₁ := L2) (l₂ := [_])) ?_; simp only [List.cons_append, List.nil_append])
 (refine J.nil (N.seq (W.seq (W.region (Jx.assign rfl rfl (J.nil (N.seq (W.ret ?_))))))))
 (refine id ?_; rotate_left))
    exact N.retD (rs := [.tmp 4]) rfl (.tmp rfl .nil) (List.sublist_cons_self _ _) ⟨rfl, h2.mono (by omega)⟩
  · have k0 : fateN S.fates % 4 = 0 := by omega
    rw [k0] at a3
    rw [if_neg k1, if_neg k2, if_neg k3]
    generalize fateN S.fates / 2 ^ 2 % 8 = d at *
    refine FnC.intro Try.func27 rfl Try.ntmps27 rfl fun Z w0 hG => ?_
    focus (
 (refine W.seq (W.region ?_))
 (refine J.boxAg rfl rfl ?_; intro b')
 (refine Jx.assign rfl rfl (J.nil (N.seq (W.seq (W.seq (W.region (Jx.fieldAddr rfl rfl ?_)))))))
 (refine Jx.load rfl 0 rfl rfl rfl ?_)
 (refine J.call (Lc := []) cn1 rfl (evs_args rfl) rfl ?_; rintro _ _ ⟨rfl, rfl⟩; rw [List.nil_append])
 (refine Jx.not rfl rfl (Jx.move rfl rfl (J.gY rfl rfl rfl ?_)))
 (refine Jx.fieldAddr rfl rfl ?_)
 (refine J.gY rfl rfl rfl ?_)
 (refine Jx.load rfl 0 rfl rfl rfl ?_)
 (refine J.gY rfl rfl rfl ?_)
 (refine J.call (Lc := []) cn2 rfl (evs_args rfl) rfl ?_; rintro _ _ ⟨rfl, rfl⟩; rw [List.nil_append])
 (refine J.gY rfl rfl rfl ?_)
 (refine Jx.not rfl rfl (Jx.pF rfl rfl rfl ?_))
 (refine Jx.move rfl rfl (J.gY rfl rfl rfl ?_))
 (refine Jx.fieldAddr rfl rfl ?_)
 (refine J.gY rfl rfl rfl ?_)
 (refine Jx.load rfl 0 rfl rfl rfl ?_)
 (refine J.gY rfl rfl rfl ?_)
 (refine Jx.lenS rfl rfl ?_)
 (refine J.gY rfl rfl rfl ?_)
 (refine Jx.gtrI rfl rfl rfl (Jx.pF rfl rfl rfl ?_))
 (refine J.nil (N.seq (W.cF rfl ?_)))
 (refine W.skip (N.seq (W.seq (W.seq (W.region (Jx.move rfl rfl (Jx.nilCheck rfl rfl ?_)))))))
 (refine Jx.fieldAddr rfl rfl ?_)
 (refine Jx.load rfl 1 rfl rfl rfl ?_)
 (refine J.perm (List.perm_append_comm (l₁ := [_, _, _]) (l₂ := LT)) ?_; refine J.call cl rfl (evs_args rfl) rfl ?_; rintro _ L9 ⟨rfl, h9⟩; rw [h9]; refine J.perm (List.perm_append_comm (l₁ := LT) (l₂ := [_, _, _])) ?_; simp only [List.cons_append, List.nil_append])
 (refine Jx.gtrI rfl rfl rfl (J.nil (N.seq (W.cF rfl ?_))))
 (refine W.skip (N.seq (W.seq (W.region (Jx.move rfl rfl ?_)))))
 (refine J.perm (List.perm_append_comm (l₁ := [_]) (l₂ := ntO b S tb M :: mapD M mp :: LT)) ?_; refine J.call cf rfl (evs_args rfl) rfl ?_; rintro _ L1 ⟨rfl, h1⟩; refine J.perm (List.perm_append_comm (l₁ := L1) (l₂ := [_])) ?_; simp only [List.cons_append, List.nil_append])
 (refine Jx.assign rfl rfl (J.nil (N.seq (W.seq (W.region (Jx.move rfl rfl (Jx.shrN (n := fateN S.fates) (s := 2) rfl rfl rfl (by decide) rfl ?_)))))))
 (refine Jx.band rfl rfl rfl ?_; rw [a7])
 (refine Jx.convI (by kernel_rfl) rfl rfl ?_; rw [aw])
 (refine Jx.assign rfl rfl (J.nil (N.seq (W.seq (W.seq (W.region (Jx.move rfl rfl ?_)))))))
 (refine Jx.band rfl rfl rfl ?_; rw [a3])
 (refine J.nil (N.seq (W.block (W.seq (W.region (Jx.eqlI rfl rfl rfl (Jx.assign rfl rfl (J.nil (N.seq (W.cF rfl ?_))))))))))
 (refine W.seq (W.region (Jx.eqlI rfl rfl rfl (Jx.assign rfl rfl (J.nil (N.seq (W.cF rfl ?_)))))))
 (refine W.seq (W.region (Jx.eqlI rfl rfl rfl (Jx.assign rfl rfl (J.nil (N.seq (W.cF rfl ?_)))))))
 (refine W.region (Jx.move rfl rfl (Jx.loadAll rfl 0 rfl rfl rfl ?_)))
 (refine Jx.move rfl rfl (Jx.add64 rfl rfl (by omega) rfl ?_))
 (refine J.perm (List.perm_append_comm (l₁ := [_]) (l₂ := L1)) ?_; refine J.call (ca L1 h1 (1 + (d : Int)) (by omega)) rfl (evs_args rfl) rfl ?_; rintro _ L2 h2; refine J.perm (List.perm_append_comm (l₁ := L2) (l₂ := [_])) ?_; simp only [List.cons_append, List.nil_append])
 (refine J.nil (N.seq (W.seq (W.region (Jx.assign rfl rfl (J.nil (N.seq (W.ret ?_))))))))
 (refine id ?_; rotate_left))
    exact N.retD (rs := [.tmp 4]) rfl (.tmp rfl .nil) (List.sublist_cons_self _ _) ⟨rfl, h2.mono (by omega)⟩
end Go.Proofs.Ytmkicbphbegjbaa
namespace Go.Proofs.Ytmkicbphbegjbaa
open Go Go.Sse
set_option linter.unusedVariables false
set_option linter.unusedSimpArgs false
set_option maxRecDepth 10000
theorem due_now (t : Int) : ∀ D : Dd, (∀ p ∈ D, t ≤ p.2) → due D t = ((D.filter (fun p => decide (p.2 ≤ t))).map (·.1), D.filter (fun p => decide (t < p.2))) := by
  refine due_ind _ t (fun D h hD => ?_) (fun D h ih hD => ?_)
  · have hr := due_rest t D
    rw [due_stop h] at hr ⊢
    simp only at hr
    rw [List.filter_eq_nil_iff.2 (fun p hp => by have := hr p hp; simp; omega), List.filter_eq_self.2 (fun p hp => by have := hr p hp; simp; omega)]
    rfl
  · have h0 := h.1
    have hl0 := firstD_lt h0
    have e0 := due_go h
    have h20 := h.2
    rw [atD_get hl0] at e0 h20
    obtain ⟨k, hl, hlt, h2, e1, ih⟩ : ∃ k, ∃ hl : k < D.length, (∀ j (hj : j < k), D[k].2 < (D[j]'(by omega)).2) ∧ D[k].2 ≤ t ∧ due D t = (D[k].1 :: (due (D.eraseIdx k) t).1, (due (D.eraseIdx k) t).2) ∧ ((∀ p ∈ D.eraseIdx k, t ≤ p.2) → due (D.eraseIdx k) t = (((D.eraseIdx k).filter (fun p => decide (p.2 ≤ t))).map (·.1), (D.eraseIdx k).filter (fun p => decide (t < p.2)))) := ⟨firstD D, hl0, firstD_lt_all _ rfl, h20, e0, ih⟩
    rw [e1]
    have hs : D = D.take k ++ D[k] :: D.drop (k + 1) := by rw [← List.drop_eq_getElem_cons hl, List.take_append_drop]
    have he : D.eraseIdx k = D.take k ++ D.drop (k + 1) := List.eraseIdx_eq_take_drop_succ _ _
    rw [ih (fun p hp => hD p ((List.eraseIdx_sublist _ _).subset hp)), he]
    have h1 := hD D[k] (List.getElem_mem hl)
    generalize D[k] = q at *
    have htk : ∀ p ∈ D.take k, t < p.2 := by
      intro p hp
      obtain ⟨j, hj, e⟩ := List.getElem_of_mem hp
      rw [List.length_take] at hj
      have := hlt j (by omega)
      rw [List.getElem_take] at e
      rw [e] at this
      omega
    have f1 : (D.take k).filter (fun p => decide (p.2 ≤ t)) = [] := List.filter_eq_nil_iff.2 fun p hp => by have := htk p hp; simp; omega
    rw [List.filter_append, List.filter_append, f1, List.nil_append]
    conv => rhs; rw [hs]
    rw [List.filter_append, List.filter_append, f1, List.nil_append, List.filter_cons_of_pos (by simp; exact h2), List.filter_cons_of_neg (by simp; omega)]
    rfl
abbrev dueA (S : NS) : List Ar := S.A.filter (fun a => decide (a.tm ≤ S.now + 1))
abbrev restA (S : NS) : List Ar := S.A.filter (fun a => decide (S.now + 1 < a.tm))
abbrev tickN (S : NS) : NS := ⟨S.fates, S.now + 1, S.posted, restA S⟩
theorem due_net {S : NS} {mp : List (List UInt8 × Value)} {n : Nat} (h : NetOK S mp n) : due (S.A.map arD) (S.now + 1) = ((dueA S).map (fun a => keyN a.k), (restA S).map arD) := by
  rw [due_now]
  · rw [List.filter_map, List.filter_map, List.map_map]; rfl
  · intro p hp
    obtain ⟨a, ha, rfl⟩ := List.mem_map.1 hp
    have := h.tms a ha
    show S.now + 1 ≤ a.tm
    omega
structure TkS where
  j : Nat
  v : Value
  out : List Lt
  mp : List (List UInt8 × Value)
set_option maxHeartbeats 8000000 in
theorem nTick_ok (b : Nat) (S : NS) (n : Nat) (L0 : List Own) (h : Nw b S n L0) (hn : n ≤ 40000) : FnC Try.prog 30 [ptr b] L0 (fun r L => ∃ v L1, v.oneCell' = true ∧ r = .val v ∧ L = rowL v ((dueA S).map Ar.l) :: L1 ∧ Nw b (tickN S) (n + 1) L1) := by
  obtain ⟨tb, M, mp, LT, rfl, hT, hN⟩ := h
  have hn0 := hN.n0
  have hn1 := hN.n1
  have hp1 := hN.p1
  have hlen := hN.len
  have cd := tDue_ok tb _ n LT hT (S.now + 1) (by rw [List.length_map]; omega)
  rw [due_net hN] at cd
  dsimp only at cd
  have hdl : (dueA S).length ≤ S.A.length := List.length_filter_le _ _
  have hdm : ∀ a ∈ dueA S, a ∈ S.A := fun a ha => (List.mem_filter.1 ha).1
  have hds : (dueA S).Pairwise (fun a b => a.k < b.k) := hN.ks.sublist List.filter_sublist
  have hrm : ∀ a ∈ restA S, a ∈ S.A ∧ ∀ d ∈ dueA S, a.k ≠ d.k := by
    intro a ha
    have h1 := List.mem_filter.1 ha
    refine ⟨h1.1, fun d hd e => ?_⟩
    have h2 := List.mem_filter.1 hd
    have h3 : a = d := by
      obtain ⟨i, hi, rfl⟩ := List.getElem_of_mem h1.1
      obtain ⟨j, hj, rfl⟩ := List.getElem_of_mem h2.1
      have hp := List.pairwise_iff_getElem.1 hN.ks
      rcases Nat.lt_trichotomy i j with q | q | q
      · have := hp i j hi hj q; omega
      · subst q; rfl
      · have := hp j i hj hi q; omega
    subst h3
    have q1 := h1.2
    have q2 := h2.2
    simp only [decide_eq_true_eq] at q1 q2
    omega
  have hkk : ∀ a ∈ S.A, ∀ d ∈ S.A, a.k ≠ d.k → keyN a.k ≠ keyN d.k := fun a ha d hd hne e => by
    have h1 := hN.kl a ha
    have h2 := hN.kl d hd
    exact hne (keyN_inj (by omega) (by omega) e)
  have hfr : ∀ k, S.posted ≤ k → k < 65536 → ∀ d ∈ S.A, keyN k ≠ keyN d.k := fun k h1 h2 d hd e => by
    have h3 := hN.kl d hd
    have := keyN_inj (n := k) (m := d.k) h2 (by omega) e
    omega
  have hlks := hN.lks
  have hfree := hN.free
  generalize hDue : dueA S = Q at *
  generalize hRest : restA S = R at *
  have hmN : (Q.map (fun a => keyN a.k)).length ≤ maxLen := by rw [List.length_map]; simp only [maxLen]; omega
  have hNl : (Q.map (fun a => keyN a.k)).length = Q.length := List.length_map _
  refine FnC.intro Try.func30 rfl Try.ntmps30 rfl fun Z w0 hG => ?_
  refine W.rowNil tLt 3 (elOf ltC lt0 []) ?_
  focus (
 (refine W.seq (W.region (Jx.assign rfl rfl (J.nil (N.seq (W.seq (W.region (Jx.move rfl rfl (Jx.nilCheck rfl rfl ?_)))))))))
 (refine Jx.fieldAddr rfl rfl ?_)
 (refine Jx.load rfl 1 rfl rfl rfl ?_)
 (refine Jx.add64 rfl rfl (by omega) rfl ?_)
 (refine Jx.nilCheck rfl rfl ?_)
 (refine Jx.fieldAddr rfl rfl ?_)
 (refine J.st 1 rfl rfl rfl rfl rfl rfl ?_)
 (refine J.nil (N.seq (W.seq (W.region (Jx.assign rfl rfl (J.nil (N.seq (W.seq (W.seq ?_)))))))))
 (refine W.draw follows ?_)
 (refine JD.begin 11 rfl ?_; refine JP.more [0, 1, 2, 3, 4, 5, 6, 7, 10] _ rfl (by decide +kernel) ?_)
 (refine Cx.move rfl rfl ?_)
 (refine Cx.nilCheck rfl rfl ?_)
 (refine Cx.fieldAddr rfl rfl ?_)
 (refine Cx.load rfl 1 rfl rfl rfl ?_)
 (refine Cx.move rfl rfl ?_)
 (refine Cx.nilCheck rfl rfl ?_)
 (refine Cx.fieldAddr rfl rfl ?_)
 (refine Cx.load rfl 1 rfl rfl rfl ?_)
 (refine Cx.move rfl rfl ?_)
 (refine SegC.nil ?_)
 (focus (refine JP.callP (idx := [0, 1, 2, 3, 4, 5, 6, 7, 10]) 8 [16, 20] [0, 1, 2, 3, 4, 5, 6, 7, 8] [10] cd (List.perm_append_comm (l₁ := [_, _, _]) (l₂ := LT)) (by decide +kernel) rfl ?_ (evs_args rfl) rfl ?_; rotate_left); rintro _ _ ⟨v2, L2, hv2, rfl, rfl, hT2⟩; rw [List.cons_append]; refine JP.freeze 21 rfl (by decide +kernel) hmN ?_; refine JP.perm (List.perm_append_comm (l₁ := L2) (l₂ := [_, _, _])) ?_; refine JP.more [9] _ rfl (by decide +kernel) ?_)
 (refine Cx.lenSl rfl rfl ?_)
 (refine SegC.nil ?_)
 (refine JP.tail (idx := [10, 9]) 11 (by decide +kernel) (by decide +kernel) rfl rfl ?_ ?_)
 (refine Cx.move rfl rfl ?_)
 (refine Cx.lenSl rfl rfl ?_)
 (refine SegC.nil ?_)
 (refine Ag.cons rfl ?_)
 (refine Ag.cons rfl ?_)
 (refine Ag.nil)
 (refine J.nil (N.seq (W.block ?_)))
 (refine id ?_; rotate_left)
 (refine Cx.move rfl rfl ?_)
 (refine Cx.nilCheck rfl rfl ?_)
 (refine Cx.fieldAddr rfl rfl ?_)
 (refine Cx.load rfl 1 rfl rfl rfl ?_)
 (refine Cx.move rfl rfl ?_)
 (refine Cx.nilCheck rfl rfl ?_)
 (refine Cx.fieldAddr rfl rfl ?_)
 (refine Cx.load rfl 1 rfl rfl rfl ?_)
 (refine Cx.move rfl rfl ?_)
 (refine SegC.nil ?_)
 (refine Ag.cons rfl ?_)
 (refine Ag.cons rfl ?_)
 (refine Ag.cons rfl ?_)
 (refine Ag.cons rfl ?_)
 (refine Ag.cons rfl ?_)
 (refine Ag.cons rfl ?_)
 (refine Ag.cons rfl ?_)
 (refine Ag.cons rfl ?_)
 (refine Ag.cons rfl ?_)
 (refine Ag.nil))
  refine W.loop (α := TkS) (fun x => [(23, int (x.j : Int)), (22, int ((Q.map (fun a => keyN a.k)).length : Int)), (21, ssl (Q.map (fun a => keyN a.k))), (3, .val x.v), (0, ptr b)]) (fun x => rowL x.v x.out :: .obj b tNet [str S.fates, int (S.now + 1), int (S.posted : Int), ptr tb, .val (.map (some M))] :: mapD M x.mp :: L2) (fun x => x.j ≤ Q.length ∧ x.out = (Q.take x.j).map Ar.l ∧ x.v.oneCell' = true ∧ (∀ a ∈ Q.drop x.j, lk x.mp (keyN a.k) = some (ltV a.l)) ∧ (∀ a ∈ R, lk x.mp (keyN a.k) = some (ltV a.l)) ∧ ∀ k, S.posted ≤ k → k < 65536 → lk x.mp (keyN k) = none) (fun x => Q.length - x.j) ⟨0, .slice none 0 0, [], mp⟩ ⟨Nat.zero_le _, rfl, rfl, fun a ha => hlks a (hdm a ha), fun a ha => hlks a (hrm a ha).1, hfree⟩ rfl ⟨ref0 rfl, ref0 rfl, ref0 rfl, ref0 rfl, ref0 rfl, trivial⟩ ?_
  rintro ⟨j, v, out, mp'⟩ ⟨hj, ho, hv, hq, hr, hz⟩
  simp only at hj ho hv hq hr hz ⊢
  by_cases h1 : j < Q.length
  · have hjn : j < (Q.map (fun a => keyN a.k)).length := by omega
    have hj' : (j : Int) < ((Q.map (fun a => keyN a.k)).length : Int) := by omega
    have e3 : (j : Int) + 1 = ((j + 1 : Nat) : Int) := by omega
    have hd : Q.drop j = Q[j] :: Q.drop (j + 1) := List.drop_eq_getElem_cons h1
    have htk : Q.take (j + 1) = Q.take j ++ [Q[j]] := by rw [List.take_add_one, List.getElem?_eq_getElem h1]; rfl
    have hqj := hdm Q[j] (List.getElem_mem h1)
    have hlk := hq Q[j] (by rw [hd]; exact List.mem_cons_self)
    have hnm : (Q.map (fun a => keyN a.k)).getD j [] = keyN Q[j].k := by rw [List.getD_eq_getElem?_getD, List.getElem?_map, List.getElem?_eq_getElem h1]; rfl
    have hlt : ∀ a ∈ Q.drop (j + 1), a ∈ S.A ∧ a.k ≠ Q[j].k := by
      intro a ha
      have hp := hds.sublist (List.drop_sublist j Q)
      rw [hd] at hp
      have := (List.pairwise_cons.1 hp).1 a ha
      exact ⟨hdm a ((List.drop_sublist _ _).subset ha), by omega⟩
    have hrj : ∀ a ∈ R, a.k ≠ Q[j].k := fun a ha => (hrm a ha).2 _ (List.getElem_mem h1)
    have hol : out.length ≤ Q.length := by rw [ho, List.length_map, List.length_take]; omega
    have ho2 : out ++ [Q[j].l] = (Q.take (j + 1)).map Ar.l := by rw [htk, List.map_append, ← ho]; rfl
    have hq2 : ∀ a ∈ Q.drop j, lk mp' (keyN a.k) = some (ltV a.l) := hq
    rw [hd] at hq2
    generalize Q[j] = q at *
    have hmx : out.length + [q.l].length ≤ maxLen ∧ (out.length + [q.l].length) * 48 ≤ 140737488355328 := by simp only [maxLen, List.length_cons, List.length_nil]; omega
    focus (
 (refine W.seq (W.region (Jx.lssI rfl rfl rfl (J.nil (N.seq (W.seq (W.cT rfl ?_)))))))
 (refine W.skip (N.seq (W.seq (W.block (W.seq (W.region ?_))))))
 (refine Jx.indexEl rfl rfl hjn rfl rfl ?_; rw [hnm])
 (refine Jx.loadPP rfl rfl ?_)
 (refine Jx.assign rfl rfl (J.nil (N.seq (W.seq (W.region (Jx.move rfl rfl (Jx.move rfl rfl (Jx.nilCheck rfl rfl ?_))))))))
 (refine Jx.fieldAddr rfl rfl ?_)
 (refine Jx.load rfl 1 rfl rfl rfl ?_)
 (refine Jx.move rfl rfl ?_)
 (refine Jx.lookupG rfl rfl 2 rfl (ltU q.l) hlk rfl rfl ?_)
 (refine J.qs (Qs.buildOne ltC lt0 q.l rfl rfl rfl rfl rfl rfl rfl) rfl ?_)
 (refine J.appendAt (enc := ltC) (l := out) (l2 := [q.l]) 0 rfl rfl (SrcOK.sl rfl) rfl rfl hmx rfl ?_; intro v' hv'; rw [List.set_cons_zero])
 (refine Jx.assign rfl rfl (J.nil (N.seq (W.region (Jx.move rfl rfl (Jx.nilCheck rfl rfl ?_))))))
 (refine Jx.fieldAddr rfl rfl ?_)
 (refine Jx.load rfl 1 rfl rfl rfl ?_)
 (refine Jx.move rfl rfl (J.deleteS rfl rfl 2 rfl rfl ?_))
 (refine J.nil (N.seq (W.region ?_)))
 (refine Jx.add64 rfl rfl (by omega) rfl ?_; rw [e3])
 (refine Jx.move rfl rfl (J.nil ?_))
 (refine id ?_; rotate_left))
    exact N.round ⟨j + 1, v', out ++ [q.l], unk mp' (keyN q.k)⟩ ⟨h1, ho2, hv', fun a ha => by rw [lk_unk (hkk a (hlt a ha).1 q hqj (hlt a ha).2)]; exact hq2 a (List.mem_cons_of_mem _ ha), fun a ha => by rw [lk_unk (hkk a (hrm a ha).1 q hqj (hrj a ha))]; exact hr a ha, fun k h3 h4 => by rw [lk_unk (hfr k h3 h4 q hqj)]; exact hz k h3 h4⟩ (by simp only; omega) rfl ⟨ref0 rfl, ref0 rfl, ref0 rfl, ref0 rfl, ref0 rfl, trivial⟩
  · have hj' : ¬ (j : Int) < ((Q.map (fun a => keyN a.k)).length : Int) := by omega
    rw [List.take_of_length_le (by omega)] at ho
    subst ho
    focus (
 (refine W.seq (W.region (Jx.lssI rfl rfl rfl (J.nil (N.seq (W.seq (W.cF rfl ?_)))))))
 (refine W.exit (N.seq (W.seq (W.region (Jx.move rfl rfl (Jx.assign rfl rfl (J.nil (N.seq (W.ret ?_)))))))))
 (refine id ?_; rotate_left))
    refine N.ret (rs := [.tmp 2]) rfl (.tmp rfl .nil) ⟨v, _, hv, rfl, rfl, tb, M, mp', L2, rfl, ?_, ?_⟩
    · rw [show (tickN S).A = R from hRest]
      exact hT2.mono (by omega)
    · have hA : (tickN S).A = R := hRest
      have hRl : R.length ≤ S.A.length := by rw [← hRest]; exact List.length_filter_le _ _
      refine ⟨by rw [hA, ← hRest]; exact hN.ks.sublist List.filter_sublist, by rw [hA]; exact fun a ha => hN.kl a (hrm a ha).1, ?_, by rw [hA]; exact hr, hz, ?_, ?_, ?_, ?_⟩
      · rw [hA]
        intro a ha
        have h2 := hN.tms a (hrm a ha).1
        have h3 : S.now + 1 < a.tm := by
          rw [← hRest] at ha
          have := (List.mem_filter.1 ha).2
          simpa using this
        exact ⟨h3, by show a.tm ≤ S.now + 1 + 16; omega⟩
      · show 0 ≤ S.now + 1; omega
      · show S.now + 1 ≤ ((n + 1 : Nat) : Int); omega
      · show S.posted ≤ n + 1; omega
      · rw [hA]; show R.length ≤ S.posted; omega
end Go.Proofs.Ytmkicbphbegjbaa
namespace Go.Proofs.Ytmkicbphbegjbaa
open Go Go.Sse
set_option linter.unusedVariables false
set_option linter.unusedSimpArgs false
set_option maxRecDepth 10000
abbrev ltA (s : List UInt8) : Lt := ⟨[97], [98], s⟩
theorem okA {s : List UInt8} (h : s.length ≤ 65536) : okL (ltA s) := ⟨rfl, rfl, h⟩
set_option maxHeartbeats 8000000 in
theorem nworks_ok : FnC Try.prog 25 [] [] (fun r L => r = Sse.bool true ∧ L = []) := by
  have c1 : ∀ b L, Nw b (ns0 [1, 6]) 0 L → FnC Try.prog 27 [ptr b, .agg (ltC (ltA [120]))] L (fun r L' => r = int 0 ∧ Nw b ⟨[6], 0, 0, []⟩ 2 L') := fun b L h => by
    have := nPost_ok b _ 0 L h (ltA [120]) (by decide)
    rw [postN_ok (okA (by decide)) (by simp)] at this
    exact this
  have c2 : ∀ b L, Nw b ⟨[6], 0, 0, []⟩ 2 L → FnC Try.prog 27 [ptr b, .agg (ltC (ltA [121]))] L (fun r L' => r = int 0 ∧ Nw b ⟨[], 0, 2, [⟨0, ltA [121], 2⟩, ⟨1, ltA [121], 4⟩]⟩ 4 L') := fun b L h => by
    have := nPost_ok b _ 2 L h (ltA [121]) (by decide)
    rw [postN_ok (okA (by decide)) (by simp)] at this
    exact this
  have c3 : ∀ b L, Nw b ⟨[], 0, 2, [⟨0, ltA [121], 2⟩, ⟨1, ltA [121], 4⟩]⟩ 4 L → FnC Try.prog 30 [ptr b] L (fun r L' => ∃ v L1, v.oneCell' = true ∧ r = .val v ∧ L' = rowL v [] :: L1 ∧ Nw b ⟨[], 1, 2, [⟨0, ltA [121], 2⟩, ⟨1, ltA [121], 4⟩]⟩ 5 L1) := fun b L h => nTick_ok b _ 4 L h (by decide)
  have c4 : ∀ b L, Nw b ⟨[], 1, 2, [⟨0, ltA [121], 2⟩, ⟨1, ltA [121], 4⟩]⟩ 5 L → FnC Try.prog 30 [ptr b] L (fun r L' => ∃ v L1, v.oneCell' = true ∧ r = .val v ∧ L' = rowL v [ltA [121]] :: L1 ∧ Nw b ⟨[], 2, 2, [⟨1, ltA [121], 4⟩]⟩ 6 L1) := fun b L h => nTick_ok b _ 5 L h (by decide)
  have c5 : ∀ b L, Nw b ⟨[], 2, 2, [⟨1, ltA [121], 4⟩]⟩ 6 L → FnC Try.prog 30 [ptr b] L (fun r L' => ∃ v L1, v.oneCell' = true ∧ r = .val v ∧ L' = rowL v [] :: L1 ∧ Nw b ⟨[], 3, 2, [⟨1, ltA [121], 4⟩]⟩ 7 L1) := fun b L h => nTick_ok b _ 6 L h (by decide)
  have c6 : ∀ b L, Nw b ⟨[], 3, 2, [⟨1, ltA [121], 4⟩]⟩ 7 L → FnC Try.prog 30 [ptr b] L (fun r L' => ∃ v L1, v.oneCell' = true ∧ r = .val v ∧ L' = rowL v [ltA [121]] :: L1 ∧ Nw b ⟨[], 4, 2, []⟩ 8 L1) := fun b L h => nTick_ok b _ 7 L h (by decide)
  have c7 : ∀ b L, Nw b ⟨[], 4, 2, []⟩ 8 L → FnC Try.prog 31 [ptr b] L (fun r L' => r = int 0 ∧ L' = L) := fun b L h => nLeft_ok b _ 8 L h
  have k0 : ∀ b : Nat, ¬ (Value.pointer (some ⟨b, 0, none⟩) = Value.pointer none) := fun b h => by cases h
  have hm0 : ([] : List Lt).length ≤ maxLen := by simp only [maxLen]; decide
  have hm1 : ([ltA [121]] : List Lt).length ≤ maxLen := by simp only [maxLen]; decide
  have i0 : 0 < ([ltA [121]] : List Lt).length := by decide
  have hn := nNew_ok [1, 6]
  refine FnC.intro Try.func25 rfl Try.ntmps25 rfl fun Z w0 hG => ?_
  focus (
 (refine W.seq (W.region (Jx.assign rfl rfl (J.nil (N.seq (W.seq (W.region ?_)))))))
 (refine J.call hn rfl (evs_args rfl) rfl ?_; rintro _ L0 ⟨b, rfl, h0⟩; rw [List.append_nil])
 (refine Jx.assign rfl rfl (J.nil (N.seq (W.seq (W.seq (W.region (Jx.move rfl rfl (Jx.eqlNil rfl rfl ?_))))))))
 (refine J.nil (N.seq (W.cF rfl ?_)))
 (refine W.skip (N.seq (W.seq (W.region (Jx.move rfl rfl (Jx.buildB rfl rfl rfl rfl rfl ?_))))))
 (refine J.call (c1 b L0 h0) (List.append_nil _).symm (evs_args rfl) rfl ?_; rintro _ L1 ⟨rfl, h1⟩; rw [List.append_nil])
 (refine Jx.move rfl rfl (Jx.buildB rfl rfl rfl rfl rfl ?_))
 (refine J.call (c2 b L1 h1) (List.append_nil _).symm (evs_args rfl) rfl ?_; rintro _ L2 ⟨rfl, h2⟩; rw [List.append_nil])
 (refine Jx.assign rfl rfl (Jx.assign rfl rfl (J.nil (N.seq (W.seq (W.region (Jx.move rfl rfl ?_)))))))
 (refine J.call (c3 b L2 h2) (List.append_nil _).symm (evs_args rfl) rfl ?_; rintro _ _ ⟨v3, L3, hv3, rfl, rfl, h3⟩; rw [List.append_nil]; refine J.freeze 18 rfl hm0 ?_)
 (refine Jx.move rfl rfl ?_)
 (refine J.call (c4 b L3 h3) (List.append_nil _).symm (evs_args rfl) rfl ?_; rintro _ _ ⟨v4, L4, hv4, rfl, rfl, h4⟩; rw [List.append_nil]; refine J.freeze 20 rfl hm1 ?_)
 (refine Jx.move rfl rfl ?_)
 (refine J.call (c5 b L4 h4) (List.append_nil _).symm (evs_args rfl) rfl ?_; rintro _ _ ⟨v5, L5, hv5, rfl, rfl, h5⟩; rw [List.append_nil]; refine J.freeze 22 rfl hm0 ?_)
 (refine Jx.move rfl rfl ?_)
 (refine J.call (c6 b L5 h5) (List.append_nil _).symm (evs_args rfl) rfl ?_; rintro _ _ ⟨v6, L6, hv6, rfl, rfl, h6⟩; rw [List.append_nil]; refine J.freeze 24 rfl hm1 ?_)
 (refine Jx.assign rfl rfl (Jx.assign rfl rfl (Jx.assign rfl rfl (Jx.assign rfl rfl (J.nil (N.seq (W.seq (W.region (Jx.move rfl rfl (Jx.eqlI rfl rfl rfl (Jx.move rfl rfl (J.gY rfl rfl rfl ?_))))))))))))
 (refine Jx.move rfl rfl (J.gY rfl rfl rfl ?_))
 (refine Jx.eqlI rfl rfl rfl (Jx.pT rfl rfl rfl ?_))
 (refine Jx.move rfl rfl (J.gY rfl rfl rfl ?_))
 (refine Jx.move rfl rfl (J.gY rfl rfl rfl ?_))
 (refine Jx.lenSl rfl rfl ?_)
 (refine J.gY rfl rfl rfl ?_)
 (refine Jx.eqlI rfl rfl rfl (Jx.pT rfl rfl rfl ?_))
 (refine Jx.move rfl rfl (J.gY rfl rfl rfl ?_))
 (refine Jx.move rfl rfl (J.gY rfl rfl rfl ?_))
 (refine Jx.lenSl rfl rfl ?_)
 (refine J.gY rfl rfl rfl ?_)
 (refine Jx.eqlI rfl rfl rfl (Jx.pT rfl rfl rfl ?_))
 (refine Jx.move rfl rfl (J.gY rfl rfl rfl ?_))
 (refine Jx.move rfl rfl (J.gY rfl rfl rfl ?_))
 (refine Jx.lenSl rfl rfl ?_)
 (refine J.gY rfl rfl rfl ?_)
 (refine Jx.eqlI rfl rfl rfl (Jx.pT rfl rfl rfl ?_))
 (refine Jx.move rfl rfl (J.gY rfl rfl rfl ?_))
 (refine Jx.move rfl rfl (J.gY rfl rfl rfl ?_))
 (refine Jx.lenSl rfl rfl ?_)
 (refine J.gY rfl rfl rfl ?_)
 (refine Jx.eqlI rfl rfl rfl (Jx.pT rfl rfl rfl ?_))
 (refine Jx.move rfl rfl (J.gY rfl rfl rfl ?_))
 (refine Jx.move rfl rfl (J.gY rfl rfl rfl ?_))
 (refine Jx.indexEl (j := 0) rfl rfl i0 rfl rfl ?_)
 (refine J.gY rfl rfl rfl ?_)
 (refine Jx.fieldEl rfl rfl rfl ?_)
 (refine J.gY rfl rfl rfl ?_)
 (refine Jx.loadPP rfl rfl ?_)
 (refine J.gY rfl rfl rfl ?_)
 (refine Jx.eqlS rfl rfl rfl (Jx.pT rfl rfl rfl ?_))
 (refine Jx.move rfl rfl (J.gY rfl rfl rfl ?_))
 (refine Jx.move rfl rfl (J.gY rfl rfl rfl ?_))
 (refine J.call (c7 b L6 h6) (List.append_nil _).symm (evs_args rfl) rfl ?_; rintro _ L7 ⟨rfl, h7⟩; rw [h7, List.append_nil])
 (refine J.gY rfl rfl rfl ?_)
 (refine Jx.eqlI rfl rfl rfl (Jx.pT rfl rfl rfl ?_))
 (refine Jx.assign rfl rfl (J.nil (N.seq (W.ret ?_))))
 (refine id ?_; rotate_left))
  exact N.retD (rs := [.tmp 0]) (L1 := []) rfl (.tmp rfl .nil) (List.nil_sublist _) ⟨rfl, rfl⟩
structure PnS where
  i : Nat
  S : NS
  L : List Own
end Go.Proofs.Ytmkicbphbegjbaa
namespace Go.Proofs.Ytmkicbphbegjbaa
open Go Go.Sse
set_option linter.unusedVariables false
set_option linter.unusedSimpArgs false
set_option maxRecDepth 10000
abbrev t80 : Nat := 55
def txN (j : Nat) : List UInt8 := [UInt8.ofNat j]
theorem txN_inj {i j : Nat} (hi : i < 80) (hj : j < 80) (h : txN i = txN j) : i = j := by
  have := congrArg UInt8.toNat (List.cons.inj h).1
  simp only [UInt8.toNat_ofNat', Nat.reducePow] at this
  omega
def ctA (xs : List Lt) (j : Nat) : Int := ((xs.filter (fun x => decide (x.tx = txN j))).length : Nat)
theorem ctA_app (xs ys : List Lt) (j : Nat) : ctA (xs ++ ys) j = ctA xs j + ctA ys j := by
  unfold ctA; rw [List.filter_append, List.length_append]; omega
theorem ctA_one (i j : Nat) (hi : i < 80) (hj : j < 80) : ctA [ltA (txN i)] j = if i = j then 1 else 0 := by
  unfold ctA
  by_cases e : i = j
  · subst e; simp
  · rw [if_neg e, List.filter_cons_of_neg (by simp; exact fun h => e (txN_inj hi hj h))]; rfl
theorem ctA_pos (xs : List Lt) (j : Nat) : 0 ≤ ctA xs j := by unfold ctA; omega
theorem ctA_le (xs ys : List Lt) (j : Nat) (h : xs.Sublist ys) : ctA xs j ≤ ctA ys j := by
  unfold ctA; have := (h.filter (fun x => decide (x.tx = txN j))).length_le; omega
def goodX (last : Int) (x : Lt) : Prop := ∃ j : Nat, j < 80 ∧ (j : Int) ≤ last ∧ x = ltA (txN j)
set_option maxHeartbeats 8000000 in
theorem count_ok (sb : Nat) (ws : List Int) (hw : ws.length = 80) (xs : List Lt) (last : Int) (hx : ∀ x ∈ xs, goodX last x) (hc : ∀ j, j < 80 → 0 ≤ ws.getD j 0 ∧ ws.getD j 0 + ctA xs j ≤ 2) (hxl : xs.length ≤ 10000) :
    FnC Try.prog 29 [ptr sb, ltl xs, int last] [.obj sb t80 (ws.map int)] (fun r L => r = Sse.bool true ∧ ∃ ws' : List Int, L = [.obj sb t80 (ws'.map int)] ∧ ws'.length = 80 ∧ ∀ j, j < 80 → ws'.getD j 0 = ws.getD j 0 + ctA xs j) := by
  refine FnC.intro Try.func29 rfl Try.ntmps29 rfl fun Z w0 hG => ?_
  focus (
 (refine W.seq (W.region (Jx.assign rfl rfl (J.nil (N.seq (W.seq (W.seq (W.region (Jx.move rfl rfl (Jx.lenSl rfl rfl ?_))))))))))
 (refine Jx.move rfl rfl (J.nil (N.seq (W.block ?_))))
 (refine id ?_; rotate_left))
  refine W.loop (α := Nat × List Int) (fun x => [(11, int (x.1 : Int)), (10, int (xs.length : Int)), (9, ltl xs), (0, ptr sb), (2, int last)]) (fun x => [.obj sb t80 (x.2.map int)]) (fun x => x.1 ≤ xs.length ∧ x.2.length = 80 ∧ ∀ j, j < 80 → x.2.getD j 0 = ws.getD j 0 + ctA (xs.take x.1) j) (fun x => xs.length - x.1) (0, ws) ⟨Nat.zero_le _, hw, fun j hj => by simp [ctA]⟩ rfl ⟨ref0 rfl, ref0 rfl, ref0 rfl, ref0 rfl, ref0 rfl, trivial⟩ ?_
  rintro ⟨i, vs⟩ ⟨hi, hvl, hvs⟩
  simp only at hi hvl hvs ⊢
  by_cases h1 : i < xs.length
  · have h1' : (i : Int) < (xs.length : Int) := by omega
    have e1 : (i : Int) + 1 = ((i + 1 : Nat) : Int) := by omega
    have hm : xs.getD i lt0 ∈ xs := by rw [List.getD_eq_getElem?_getD, List.getElem?_eq_getElem h1]; exact List.getElem_mem _
    have htk : xs.take (i + 1) = xs.take i ++ [xs.getD i lt0] := by rw [List.take_add_one, List.getElem?_eq_getElem h1, List.getD_eq_getElem?_getD, List.getElem?_eq_getElem h1]; rfl
    obtain ⟨k, hk, hkl, hxk⟩ := hx _ hm
    rw [hxk] at htk
    have h01 : (0 : Int) < ((txN k).length : Int) := by simp [txN]
    have hbn : ((((txN k).getD (Int.toNat 0) 0).toNat : Nat) : Int) = (k : Int) := by
      show (((UInt8.ofNat k).toNat : Nat) : Int) = _
      rw [UInt8.toNat_ofNat']; omega
    have hl1 : ((txN k).length : Int) = 1 := rfl
    have g1 : ¬ last < (k : Int) := by omega
    have g2 : ¬ (80 : Int) ≤ (k : Int) := by omega
    have hkv : k < vs.length := by omega
    have hkv2 : k < (vs.set k (vs.getD k 0 + 1)).length := by rw [List.length_set]; omega
    have hset : (vs.set k (vs.getD k 0 + 1)).getD k 0 = vs.getD k 0 + 1 := by rw [List.getD_eq_getElem?_getD, List.getElem?_set_self (by omega)]; rfl
    have hcnt : ctA (xs.take (i + 1)) k = ctA (xs.take i) k + 1 := by rw [htk, ctA_app, ctA_one k k hk hk, if_pos rfl]
    have hle := ctA_le (xs.take (i + 1)) xs k (List.take_sublist _ _)
    have h2 := hc k hk
    have h3 := hvs k hk
    have h4 := ctA_pos (xs.take i) k
    have g3 : ¬ (2 : Int) < vs.getD k 0 + 1 := by omega
    focus (
 (refine W.seq (W.region (Jx.lssI rfl rfl rfl (J.nil (N.seq (W.seq (W.cT rfl ?_)))))))
 (refine W.skip (N.seq (W.seq (W.block (W.seq (W.region ?_))))))
 (refine Jx.indexEl rfl rfl h1 rfl rfl ?_; rw [hxk])
 (refine Jx.loadPPall rfl rfl rfl ?_)
 (refine J.alloc (by simp only [List.map_cons, List.map_nil]; rfl) rfl rfl ?_; intro b')
 (refine J.storeAll rfl rfl rfl 0 rfl rfl rfl ?_)
 (refine J.nil (N.seq (W.seq (W.seq (W.region (Jx.fieldAddr rfl rfl ?_))))))
 (refine Jx.load rfl 0 rfl rfl rfl ?_)
 (refine Jx.lenS rfl rfl ?_)
 (refine Jx.neqI rfl rfl rfl (Jx.move rfl rfl (J.gY rfl rfl rfl ?_)))
 (refine Jx.fieldAddr rfl rfl ?_)
 (refine J.gY rfl rfl rfl ?_)
 (refine Jx.load rfl 0 rfl rfl rfl ?_)
 (refine J.gY rfl rfl rfl ?_)
 (refine Jx.indexS rfl rfl (by decide) h01 rfl ?_)
 (refine J.gY rfl rfl rfl ?_)
 (refine Jx.byteNum rfl rfl rfl ?_; rw [hbn])
 (refine J.gY rfl rfl rfl ?_)
 (refine Jx.move rfl rfl (J.gY rfl rfl rfl ?_))
 (refine Jx.gtrI rfl rfl rfl (Jx.pF rfl rfl rfl ?_))
 (refine Jx.move rfl rfl (J.gY rfl rfl rfl ?_))
 (refine Jx.fieldAddr rfl rfl ?_)
 (refine J.gY rfl rfl rfl ?_)
 (refine Jx.load rfl 0 rfl rfl rfl ?_)
 (refine J.gY rfl rfl rfl ?_)
 (refine Jx.indexS rfl rfl (by decide) h01 rfl ?_)
 (refine J.gY rfl rfl rfl ?_)
 (refine Jx.byteNum rfl rfl rfl ?_; rw [hbn])
 (refine J.gY rfl rfl rfl ?_)
 (refine Jx.geqI rfl rfl rfl (Jx.pF rfl rfl rfl ?_))
 (refine Jx.move rfl rfl (J.gY rfl rfl rfl ?_))
 (refine Jx.fieldAddr rfl rfl ?_)
 (refine J.gY rfl rfl rfl ?_)
 (refine Jx.load rfl 0 rfl rfl rfl ?_)
 (refine J.gY rfl rfl rfl ?_)
 (refine Jx.neqS rfl rfl rfl (Jx.pF rfl rfl rfl ?_))
 (refine Jx.move rfl rfl (J.gY rfl rfl rfl ?_))
 (refine Jx.fieldAddr rfl rfl ?_)
 (refine J.gY rfl rfl rfl ?_)
 (refine Jx.load rfl 0 rfl rfl rfl ?_)
 (refine J.gY rfl rfl rfl ?_)
 (refine Jx.neqS rfl rfl rfl (Jx.pF rfl rfl rfl ?_))
 (refine J.nil (N.seq (W.cF rfl ?_)))
 (refine W.skip (N.seq (W.seq ?_)))
 (refine W.draw follows ?_)
 (refine JD.upto (n := 10) rfl (by decide +kernel) (by decide +kernel) rfl rfl ?_)
 (refine Cx.move rfl rfl ?_)
 (refine Cx.fieldAddr rfl rfl ?_)
 (refine Cx.load rfl 0 rfl rfl rfl ?_)
 (refine Cx.indexS rfl rfl (by decide) h01 rfl ?_)
 (refine Cx.nilCheck rfl rfl ?_)
 (refine Cx.index0 k rfl rfl hbn hk rfl ?_)
 (refine Cx.loadA int 0 rfl 1 rfl hkv rfl ?_)
 (refine Cx.add64 rfl rfl (by omega) rfl ?_)
 (refine Cx.nilCheck rfl rfl ?_)
 (refine Cx.index0 k rfl rfl hbn hk rfl ?_)
 (refine SegC.nil ?_)
 (refine J.storeA int (vs.getD k 0 + 1) rfl rfl (One.val rfl) 1 rfl hkv rfl ?_)
 (refine J.nil (N.seq (W.seq ?_)))
 (refine W.draw follows ?_)
 (refine JD.calm rfl (by decide +kernel) ?_)
 (refine Cx.move rfl rfl ?_)
 (refine Cx.fieldAddr rfl rfl ?_)
 (refine Cx.load rfl 0 rfl rfl rfl ?_)
 (refine Cx.indexS rfl rfl (by decide) h01 rfl ?_)
 (refine Cx.nilCheck rfl rfl ?_)
 (refine Cx.index0 k rfl rfl hbn hk rfl ?_)
 (refine Cx.loadA int 0 rfl 1 rfl hkv2 rfl ?_; rw [hset])
 (refine Cx.gtrI rfl rfl rfl ?_)
 (refine SegC.nil ?_)
 (refine N.seq (W.cF rfl ?_))
 (refine W.skip (N.seq (W.region ?_)))
 (refine Jx.add64 rfl rfl (by omega) rfl ?_; rw [e1])
 (refine Jx.move rfl rfl (J.nil ?_))
 (refine id ?_; rotate_left))
    refine N.drop (List.sublist_cons_self _ _) ?_
    refine N.round (i + 1, vs.set k (vs.getD k 0 + 1)) ⟨h1, by simp only [List.length_set]; exact hvl, fun j hj => ?_⟩ (by simp only; omega) rfl ⟨ref0 rfl, ref0 rfl, ref0 rfl, ref0 rfl, ref0 rfl, trivial⟩
    simp only
    rw [htk, ctA_app, ctA_one k j hk hj]
    by_cases e : k = j
    · subst e; rw [hset, if_pos rfl]; omega
    · rw [if_neg e, List.getD_eq_getElem?_getD, List.getElem?_set_ne e, ← List.getD_eq_getElem?_getD, hvs j hj]; omega
  · have h1' : ¬ (i : Int) < (xs.length : Int) := by omega
    rw [List.take_of_length_le (by omega)] at hvs
    focus (
 (refine W.seq (W.region (Jx.lssI rfl rfl rfl (J.nil (N.seq (W.seq (W.cF rfl ?_)))))))
 (refine W.exit (N.seq (W.seq (W.region (Jx.assign rfl rfl (J.nil (N.seq (W.ret ?_))))))))
 (refine id ?_; rotate_left))
    exact N.ret (rs := [.tmp 6]) rfl (.tmp rfl .nil) ⟨rfl, vs, rfl, hvl, hvs⟩
end Go.Proofs.Ytmkicbphbegjbaa
namespace Go.Proofs.Ytmkicbphbegjbaa
open Go Go.Sse
set_option linter.unusedVariables false
set_option linter.unusedSimpArgs false
set_option maxRecDepth 10000
def below (x : Int) (n : Nat) : Int := (x.tmod n + n) % n
theorem below_le (x : Int) (n : Nat) (h : 0 < n) : 0 ≤ below x n ∧ below x n < n := ⟨Int.emod_nonneg _ (by omega), Int.emod_lt_of_pos _ (by omega)⟩
theorem below_ok (x : Int) (n : Nat) (h : 0 < n) (hn : n ≤ 1048576) : FnC Try.prog 28 [int x, int (n : Int)] [] (fun s L => s = int (below x n) ∧ L = []) := by
  have h1 : -(n : Int) < x.tmod n ∧ x.tmod n < n := ⟨by have := Int.lt_tmod_of_pos x (show (0 : Int) < n by omega); omega, Int.tmod_lt_of_pos x (by omega)⟩
  have hb : below x n = (x.tmod n + n) % n := rfl
  refine FnC.intro Try.func28 rfl Try.ntmps28 rfl fun Z w0 hG => ?_
  focus (
 (refine W.seq (W.region (Jx.assign rfl rfl (J.nil (N.seq (W.seq (W.region (Jx.move rfl rfl (Jx.move rfl rfl (Jx.rem rfl rfl (by omega) rfl ?_))))))))))
 (refine Jx.move rfl rfl (Jx.add64 rfl rfl (by omega) rfl ?_))
 (refine Jx.move rfl rfl (Jx.rem64 rfl rfl (by omega) (by omega) rfl ?_))
 (refine Jx.assign rfl rfl (J.nil (N.seq (W.ret ?_))))
 (refine id ?_; rotate_left))
  exact N.ret (rs := [.tmp 4]) rfl (.tmp rfl .nil) ⟨by rw [hb]; rfl, rfl⟩
abbrev ctS (A : List Ar) (j : Nat) : Int := ctA (A.map Ar.l) j
theorem ctS_cut (t : Int) (j : Nat) : ∀ A : List Ar, ctS (A.filter (fun a => decide (a.tm ≤ t))) j + ctS (A.filter (fun a => decide (t < a.tm))) j = ctS A j
  | [] => rfl
  | a :: A => by
    have ih := ctS_cut t j A
    have h1 : ctS (a :: A) j = ctA [a.l] j + ctS A j := by rw [ctS, List.map_cons, ← List.singleton_append, ctA_app]
    have h2 := fun B => (show ctS (a :: B) j = ctA [a.l] j + ctS B j by rw [ctS, List.map_cons, ← List.singleton_append, ctA_app])
    by_cases h : a.tm ≤ t
    · rw [List.filter_cons_of_pos (by simpa using h), List.filter_cons_of_neg (by simp; exact h), h1, h2]; omega
    · rw [List.filter_cons_of_neg (by simpa using h), List.filter_cons_of_pos (by simp; omega), h1, h2]; omega
structure Seen (i : Nat) (S : NS) (ws : List Int) : Prop where
  len : ws.length = 80
  from_ : ∀ a ∈ S.A, ∃ j, j < 80 ∧ j < i ∧ a.l = ltA (txN j)
  two : ∀ j, j < 80 → 0 ≤ ws.getD j 0 ∧ ws.getD j 0 + ctS S.A j ≤ 2
  none_ : ∀ j, j < 80 → i ≤ j → ws.getD j 0 + ctS S.A j = 0
theorem step_more (S : NS) (x : Lt) : ∃ E : List Ar, (stepN S x).A = S.A ++ E ∧ (∀ a ∈ E, a.l = x) ∧ E.length ≤ 2 := by
  unfold stepN
  split
  · exact ⟨[], by simp, by simp, by simp⟩
  split
  · exact ⟨[_, _], by simp only [List.append_assoc]; rfl, by simp, by simp⟩
  split
  · exact ⟨[_], rfl, by simp, by simp⟩
  · exact ⟨[_], rfl, by simp, by simp⟩
theorem seen_post {i : Nat} {S : NS} {ws : List Int} (h : Seen i S ws) (hi : i < 80) : Seen (i + 1) (stepN S (ltA (txN i))) ws := by
  obtain ⟨E, hE, hl, h2⟩ := step_more S (ltA (txN i))
  have hc : ∀ j, j < 80 → ctS (stepN S (ltA (txN i))).A j = ctS S.A j + ctS E j := fun j hj => by rw [hE, ctS, List.map_append, ctA_app]
  have hEj : ∀ j, j < 80 → j ≠ i → ctS E j = 0 := by
    intro j hj hne
    have : (E.map Ar.l).filter (fun x => decide (x.tx = txN j)) = [] := by
      rw [List.filter_eq_nil_iff]
      intro x hx
      obtain ⟨a, ha, rfl⟩ := List.mem_map.1 hx
      rw [hl a ha]
      simp only [decide_eq_true_eq]
      exact fun e => hne (txN_inj hi hj e).symm
    show ((List.length _ : Nat) : Int) = 0
    rw [this]; rfl
  have hEi : ctS E i ≤ 2 := by
    have := (List.filter_sublist (l := E.map Ar.l) (p := fun x => decide (x.tx = txN i))).length_le
    rw [List.length_map] at this
    show ((List.length _ : Nat) : Int) ≤ 2
    omega
  refine ⟨h.len, fun a ha => ?_, fun j hj => ?_, fun j hj hij => ?_⟩
  · rw [hE] at ha
    rcases List.mem_append.1 ha with ha | ha
    · obtain ⟨j, h3, h4, h5⟩ := h.from_ a ha
      exact ⟨j, h3, by omega, h5⟩
    · exact ⟨i, hi, by omega, hl a ha⟩
  · rw [hc j hj]
    have h3 := h.two j hj
    by_cases e : j = i
    · subst e
      have h4 := h.none_ j hj (Nat.le_refl _)
      omega
    · rw [hEj j hj e]; omega
  · rw [hc j hj, hEj j hj (by omega)]
    have h4 := h.none_ j hj (by omega)
    omega
theorem seen_tick {i : Nat} {S : NS} {ws ws' : List Int} (h : Seen i S ws) (hl : ws'.length = 80) (hw : ∀ j, j < 80 → ws'.getD j 0 = ws.getD j 0 + ctA ((dueA S).map Ar.l) j) : Seen i (tickN S) ws' := by
  have hc : ∀ j, ctS (dueA S) j + ctS (restA S) j = ctS S.A j := fun j => ctS_cut (S.now + 1) j S.A
  refine ⟨hl, fun a ha => h.from_ a (List.mem_filter.1 ha).1, fun j hj => ?_, fun j hj hij => ?_⟩
  · have h1 := h.two j hj
    have h2 := hc j
    have h3 := ctA_pos ((dueA S).map Ar.l) j
    rw [hw j hj]
    show _ ∧ _ + ctS (restA S) j ≤ 2
    constructor
    · omega
    · have e : ctA ((dueA S).map Ar.l) j = ctS (dueA S) j := rfl
      omega
  · have h1 := h.none_ j hj hij
    have h2 := hc j
    rw [hw j hj]
    show _ + ctS (restA S) j = 0
    have e : ctA ((dueA S).map Ar.l) j = ctS (dueA S) j := rfl
    omega
theorem seen_good {i : Nat} {S : NS} {ws : List Int} (h : Seen i S ws) (last : Int) (hi : (i : Int) ≤ last + 1) : (∀ x ∈ (dueA S).map Ar.l, goodX last x) ∧ ∀ j, j < 80 → 0 ≤ ws.getD j 0 ∧ ws.getD j 0 + ctA ((dueA S).map Ar.l) j ≤ 2 := by
  refine ⟨fun x hx => ?_, fun j hj => ?_⟩
  · obtain ⟨a, ha, rfl⟩ := List.mem_map.1 hx
    obtain ⟨j, h1, h2, h3⟩ := h.from_ a (List.mem_filter.1 ha).1
    exact ⟨j, h1, by omega, h3⟩
  · have h1 := h.two j hj
    have h2 : ctA ((dueA S).map Ar.l) j ≤ ctS S.A j := ctA_le _ _ _ (List.filter_sublist.map _)
    omega
abbrev isl (l : List Int) : SV := .sl 1 l.length (elOf (fun n : Int => [int n]) 0 l)
structure ArS where
  i : Nat
  S : NS
  ws : List Int
  L : List Own
set_option maxHeartbeats 16000000 in
theorem netArrives_ok (f : List UInt8) (l : List Int) : FnC Try.prog 7 [str f, isl l] [] (fun r L => r = Sse.bool true ∧ L = []) := by
  have hn := nNew_ok f
  by_cases g1 : 80 < l.length
  · have g1' : (80 : Int) < (l.length : Int) := by omega
    refine FnC.intro Try.func7 rfl Try.ntmps7 rfl fun Z w0 hG => ?_
    focus (
 (refine W.seq (W.region (Jx.assign rfl rfl (J.nil (N.seq (W.seq (W.seq (W.region ?_))))))))
 (refine J.call nworks_ok rfl (evs_args rfl) rfl ?_; rintro _ _ ⟨rfl, rfl⟩)
 (refine Jx.not rfl rfl (J.nil (N.seq (W.cF rfl ?_))))
 (refine W.skip (N.seq (W.seq (W.seq (W.region (Jx.move rfl rfl (Jx.lenSl rfl rfl ?_)))))))
 (refine Jx.gtrI rfl rfl rfl (Jx.move rfl rfl (J.gN rfl rfl rfl rfl ?_)))
 (refine J.gN rfl rfl rfl rfl ?_)
 (refine J.gN rfl rfl rfl rfl ?_)
 (refine Jx.pT rfl rfl rfl ?_)
 (refine J.nil (N.seq (W.cT rfl ?_)))
 (refine W.seq (W.region (Jx.assign rfl rfl (J.nil (N.seq (W.ret (N.noGotoRet ?_)))))))
 (refine id ?_; rotate_left))
    exact N.ret (rs := [.tmp 4]) rfl (.tmp rfl .nil) ⟨rfl, rfl⟩
  have g1' : ¬ (80 : Int) < (l.length : Int) := by omega
  by_cases g2 : 1000 < f.length
  · have g2' : (1000 : Int) < (f.length : Int) := by omega
    refine FnC.intro Try.func7 rfl Try.ntmps7 rfl fun Z w0 hG => ?_
    focus (
 (refine W.seq (W.region (Jx.assign rfl rfl (J.nil (N.seq (W.seq (W.seq (W.region ?_))))))))
 (refine J.call nworks_ok rfl (evs_args rfl) rfl ?_; rintro _ _ ⟨rfl, rfl⟩)
 (refine Jx.not rfl rfl (J.nil (N.seq (W.cF rfl ?_))))
 (refine W.skip (N.seq (W.seq (W.seq (W.region (Jx.move rfl rfl (Jx.lenSl rfl rfl ?_)))))))
 (refine Jx.gtrI rfl rfl rfl (Jx.move rfl rfl (J.gY rfl rfl rfl ?_)))
 (refine Jx.move rfl rfl (J.gY rfl rfl rfl ?_))
 (refine Jx.lenS rfl rfl ?_)
 (refine J.gY rfl rfl rfl ?_)
 (refine Jx.gtrI rfl rfl rfl (Jx.pF rfl rfl rfl ?_))
 (refine J.nil (N.seq (W.cT rfl ?_)))
 (refine W.seq (W.region (Jx.assign rfl rfl (J.nil (N.seq (W.ret (N.noGotoRet ?_)))))))
 (refine id ?_; rotate_left))
    exact N.ret (rs := [.tmp 4]) rfl (.tmp rfl .nil) ⟨rfl, rfl⟩
  have g2' : ¬ (1000 : Int) < (f.length : Int) := by omega
  have hz : ∀ j, (List.replicate 80 (0 : Int)).getD j 0 = 0 := fun j => by
    rw [List.getD_eq_getElem?_getD, List.getElem?_replicate]; split <;> rfl
  have hs0 : Seen 0 (ns0 f) (List.replicate 80 0) := ⟨by simp, fun a ha => by simp at ha, fun j hj => by rw [hz]; exact ⟨Int.le_refl _, by show (0 : Int) + 0 ≤ 2; decide⟩, fun j hj _ => by rw [hz]; rfl⟩
  refine FnC.intro Try.func7 rfl Try.ntmps7 rfl fun Z w0 hG => ?_
  focus (
 (refine W.seq (W.region (Jx.assign rfl rfl (J.nil (N.seq (W.seq (W.seq (W.region ?_))))))))
 (refine J.call nworks_ok rfl (evs_args rfl) rfl ?_; rintro _ _ ⟨rfl, rfl⟩)
 (refine Jx.not rfl rfl (J.nil (N.seq (W.cF rfl ?_))))
 (refine W.skip (N.seq (W.seq (W.seq (W.region (Jx.move rfl rfl (Jx.lenSl rfl rfl ?_)))))))
 (refine Jx.gtrI rfl rfl rfl (Jx.move rfl rfl (J.gY rfl rfl rfl ?_)))
 (refine Jx.move rfl rfl (J.gY rfl rfl rfl ?_))
 (refine Jx.lenS rfl rfl ?_)
 (refine J.gY rfl rfl rfl ?_)
 (refine Jx.gtrI rfl rfl rfl (Jx.pF rfl rfl rfl ?_))
 (refine J.nil (N.seq (W.cF rfl ?_)))
 (refine W.skip (N.seq (W.seq (W.region (Jx.move rfl rfl ?_)))))
 (refine J.call hn rfl (evs_args rfl) rfl ?_; rintro _ L0 ⟨b, rfl, h0⟩; rw [List.append_nil])
 (refine Jx.assign rfl rfl (J.nil (N.seq (W.seq (W.region ?_)))))
 (refine J.alloc (by simp only [List.map_cons, List.map_nil]; rfl) rfl rfl ?_; intro b')
 (refine J.nil (N.seq (W.seq (W.seq (W.region (Jx.move rfl rfl (Jx.lenSl rfl rfl ?_)))))))
 (refine Jx.move rfl rfl (J.nil (N.seq (W.block ?_))))
 (refine id ?_; rotate_left))
  refine W.loop (α := ArS) (fun x => [(23, int (x.i : Int)), (22, int (l.length : Int)), (21, isl l), (6, ptr b'), (5, ptr b), (1, isl l)]) (fun x => .obj b' t80 (x.ws.map int) :: x.L) (fun x => x.i ≤ l.length ∧ Nw b x.S (5 * x.i) x.L ∧ Seen x.i x.S x.ws) (fun x => l.length - x.i) ⟨0, ns0 f, List.replicate 80 0, L0⟩ ⟨Nat.zero_le _, h0, hs0⟩ rfl ⟨ref0 rfl, ref0 rfl, ref0 rfl, ref0 rfl, ref0 rfl, ref0 rfl, trivial⟩ ?_
  rintro ⟨i, S, ws, L1⟩ ⟨hi, hN, hS⟩
  simp only at hi hN hS ⊢
  by_cases h1 : i < l.length
  · have h1' : (i : Int) < (l.length : Int) := by omega
    have e1 : (i : Int) + 1 = ((i + 1 : Nat) : Int) := by omega
    have cp := nPost_ok b S (5 * i) L1 hN (ltA (txN i)) (by omega)
    have hAl : S.A.length ≤ 1022 := by
      obtain ⟨tb, M, mp, LT, _, _, hK⟩ := hN
      have := hK.len; have := hK.p1; omega
    rw [postN_ok (okA (by simp [txN])) (by omega)] at cp
    dsimp only at cp
    have hS1 := seen_post hS (by omega)
    have cb := below_ok (l.getD i 0) 3 (by decide) (by decide)
    have hbl := below_le (l.getD i 0) 3 (by decide)
    obtain ⟨m, hm⟩ : ∃ m : Nat, below (l.getD i 0) 3 = (m : Int) := ⟨(below (l.getD i 0) 3).toNat, by omega⟩
    rw [hm] at cb hbl
    generalize stepN S (ltA (txN i)) = S1 at *
    focus (
 (refine W.seq (W.region (Jx.lssI rfl rfl rfl (J.nil (N.seq (W.seq (W.cT rfl ?_)))))))
 (refine W.skip (N.seq (W.seq (W.block (W.seq (W.region (Jx.move rfl rfl (Jx.indexEl rfl rfl (by assumption) rfl rfl ?_))))))))
 (refine Jx.loadPP rfl rfl ?_)
 (refine Jx.assign rfl rfl (Jx.assign rfl rfl (J.nil (N.seq (W.seq (W.seq (W.region (Jx.move rfl rfl (Jx.move rfl rfl ?_)))))))))
 (refine Jx.numByte i rfl rfl rfl rfl ?_)
 (refine J.qs (Qs.buildBytes [UInt8.ofNat i] rfl rfl rfl (by decide) (by decide)) rfl ?_)
 (refine Jx.bytesStr rfl rfl ?_)
 (refine Jx.buildB rfl rfl rfl rfl rfl ?_)
 (refine J.perm (List.perm_append_comm (l₁ := [Own.obj b' t80 (ws.map int)]) (l₂ := L1)) ?_; refine J.call cp rfl (evs_args rfl) rfl ?_; rintro _ L2 ⟨rfl, h2⟩; refine J.perm (List.perm_append_comm (l₁ := L2) (l₂ := [Own.obj b' t80 (ws.map int)])) ?_; rw [List.singleton_append])
 (refine Jx.neqI rfl rfl rfl (J.nil (N.seq (W.cF rfl ?_))))
 (refine W.skip (N.seq (W.seq (W.region (Jx.move rfl rfl ?_)))))
 (refine J.call (Lc := []) cb rfl (evs_args rfl) rfl ?_; rintro _ _ ⟨rfl, rfl⟩; rw [List.nil_append])
 (refine Jx.move rfl rfl (J.nil (N.seq (W.block ?_))))
 (refine id ?_; rotate_left))
    refine W.loop (α := ArS) (fun x => [(38, int (x.i : Int)), (37, int (m : Int)), (23, int (i : Int)), (22, int (l.length : Int)), (21, isl l), (7, int (i : Int)), (6, ptr b'), (5, ptr b), (1, isl l)]) (fun x => .obj b' t80 (x.ws.map int) :: x.L) (fun x => x.i ≤ m ∧ Nw b x.S (5 * i + 2 + x.i) x.L ∧ Seen (i + 1) x.S x.ws) (fun x => m - x.i) ⟨0, S1, ws, L2⟩ ⟨Nat.zero_le _, h2, hS1⟩ rfl ⟨ref0 rfl, ref0 rfl, ref0 rfl, ref0 rfl, ref0 rfl, ref0 rfl, ref0 rfl, ref0 rfl, ref0 rfl, trivial⟩ ?_
    rintro ⟨k, T, vs, L3⟩ ⟨hk, hT, hV⟩
    simp only at hk hT hV ⊢
    by_cases h3 : k < m
    · have h3' : (k : Int) < (m : Int) := by omega
      have e3 : (k : Int) + 1 = ((k + 1 : Nat) : Int) := by omega
      have ct := nTick_ok b T _ L3 hT (by omega)
      obtain ⟨hx, hc⟩ := seen_good hV (i : Int) (by omega)
      have hdl : ((dueA T).map Ar.l).length ≤ 10000 := by
        obtain ⟨tb, M, mp, LT, _, _, hK⟩ := hT
        have := hK.len; have := hK.p1
        have : (dueA T).length ≤ T.A.length := List.length_filter_le _ _
        rw [List.length_map]; omega
      have cc := count_ok b' vs hV.len _ (i : Int) hx hc hdl
      have hmx : ((dueA T).map Ar.l).length ≤ maxLen := by simp only [maxLen]; omega
      focus (
 (refine W.seq (W.region (Jx.lssI rfl rfl rfl (J.nil (N.seq (W.seq (W.cT rfl ?_)))))))
 (refine W.skip (N.seq (W.seq (W.block (W.seq (W.region (Jx.move rfl rfl ?_)))))))
 (refine J.perm (List.perm_append_comm (l₁ := [Own.obj b' t80 (vs.map int)]) (l₂ := L3)) ?_; refine J.call ct rfl (evs_args rfl) rfl ?_; rintro _ _ ⟨v4, L4, hv4, rfl, rfl, h4⟩; rw [List.cons_append]; refine J.freeze 41 rfl hmx ?_; refine J.perm (List.perm_append_comm (l₁ := L4) (l₂ := [Own.obj b' t80 (vs.map int)])) ?_; rw [List.singleton_append])
 (refine Jx.move rfl rfl ?_)
 (refine J.call (Lc := [_]) cc rfl (evs_args rfl) rfl ?_; rintro _ _ ⟨rfl, vs', rfl, hl', hv'⟩; rw [List.singleton_append])
 (refine Jx.not rfl rfl (J.nil (N.seq (W.cF rfl ?_))))
 (refine W.skip (N.seq (W.region ?_)))
 (refine Jx.add64 rfl rfl (by omega) rfl ?_; rw [e3])
 (refine Jx.move rfl rfl (J.nil ?_))
 (refine id ?_; rotate_left))
      exact N.round ⟨k + 1, tickN T, vs', L4⟩ ⟨h3, h4, seen_tick hV hl' hv'⟩ (by simp only; omega) rfl ⟨ref0 rfl, ref0 rfl, ref0 rfl, ref0 rfl, ref0 rfl, ref0 rfl, ref0 rfl, ref0 rfl, ref0 rfl, trivial⟩
    · have h3' : ¬ (k : Int) < (m : Int) := by omega
      focus (
 (refine W.seq (W.region (Jx.lssI rfl rfl rfl (J.nil (N.seq (W.seq (W.cF rfl ?_)))))))
 (refine W.exit (N.seq (W.region ?_)))
 (refine Jx.add64 rfl rfl (by omega) rfl ?_; rw [e1])
 (refine Jx.move rfl rfl (J.nil ?_))
 (refine id ?_; rotate_left))
      exact N.round ⟨i + 1, T, vs, L3⟩ ⟨h1, hT.mono (by simp only; omega), hV⟩ (by simp only; omega) rfl ⟨ref0 rfl, ref0 rfl, ref0 rfl, ref0 rfl, ref0 rfl, ref0 rfl, trivial⟩
  · have h1' : ¬ (i : Int) < (l.length : Int) := by omega
    have hil : i = l.length := by omega
    focus (
 (refine W.seq (W.region (Jx.lssI rfl rfl rfl (J.nil (N.seq (W.seq (W.cF rfl ?_)))))))
 (refine W.exit (N.seq (W.seq (W.seq (W.region (Jx.move rfl rfl (J.nil (N.seq (W.block ?_)))))))))
 (refine id ?_; rotate_left))
    have hall : ∀ a ∈ S.A, a.tm ≤ S.now + 16 := by
      obtain ⟨tb, M, mp, LT, _, _, hK⟩ := hN
      exact fun a ha => (hK.tms a ha).2
    generalize hnow : S.now = w at *
    refine W.loop (α := ArS) (fun x => [(47, int (x.i : Int)), (6, ptr b'), (5, ptr b), (1, isl l)]) (fun x => .obj b' t80 (x.ws.map int) :: x.L) (fun x => x.i ≤ 16 ∧ Nw b x.S (5 * i + x.i) x.L ∧ Seen i x.S x.ws ∧ x.S.now = w + x.i ∧ ∀ a ∈ x.S.A, a.tm ≤ w + 16) (fun x => 16 - x.i) ⟨0, S, ws, L1⟩ ⟨Nat.zero_le _, hN, hS, by simp [hnow], hall⟩ rfl ⟨ref0 rfl, ref0 rfl, ref0 rfl, ref0 rfl, trivial⟩ ?_
    rintro ⟨k, T, vs, L3⟩ ⟨hk, hT, hV, hw, hA⟩
    simp only at hk hT hV hw hA ⊢
    by_cases h3 : k < 16
    · have h3' : (k : Int) < 16 := by omega
      have e3 : (k : Int) + 1 = ((k + 1 : Nat) : Int) := by omega
      have ct := nTick_ok b T _ L3 hT (by omega)
      obtain ⟨hx, hc⟩ := seen_good hV ((l.length : Int) - 1) (by omega)
      have hdl : ((dueA T).map Ar.l).length ≤ 10000 := by
        obtain ⟨tb, M, mp, LT, _, _, hK⟩ := hT
        have := hK.len; have := hK.p1
        have : (dueA T).length ≤ T.A.length := List.length_filter_le _ _
        rw [List.length_map]; omega
      have cc := count_ok b' vs hV.len _ ((l.length : Int) - 1) hx hc hdl
      have hmx : ((dueA T).map Ar.l).length ≤ maxLen := by simp only [maxLen]; omega
      focus (
 (refine W.seq (W.region (Jx.lssI rfl rfl rfl (J.nil (N.seq (W.seq (W.cT rfl ?_)))))))
 (refine W.skip (N.seq (W.seq (W.block (W.seq (W.region (Jx.move rfl rfl ?_)))))))
 (refine J.perm (List.perm_append_comm (l₁ := [Own.obj b' t80 (vs.map int)]) (l₂ := L3)) ?_; refine J.call ct rfl (evs_args rfl) rfl ?_; rintro _ _ ⟨v4, L4, hv4, rfl, rfl, h4⟩; rw [List.cons_append]; refine J.freeze 50 rfl hmx ?_; refine J.perm (List.perm_append_comm (l₁ := L4) (l₂ := [Own.obj b' t80 (vs.map int)])) ?_; rw [List.singleton_append])
 (refine Jx.move rfl rfl (Jx.lenSl rfl rfl ?_))
 (refine Jx.sub64 rfl rfl (by omega) rfl ?_)
 (refine J.call (Lc := [_]) cc rfl (evs_args rfl) rfl ?_; rintro _ _ ⟨rfl, vs', rfl, hl', hv'⟩; rw [List.singleton_append])
 (refine Jx.not rfl rfl (J.nil (N.seq (W.cF rfl ?_))))
 (refine W.skip (N.seq (W.region ?_)))
 (refine Jx.add64 rfl rfl (by omega) rfl ?_; rw [e3])
 (refine Jx.move rfl rfl (J.nil ?_))
 (refine id ?_; rotate_left))
      exact N.round ⟨k + 1, tickN T, vs', L4⟩ ⟨h3, h4, seen_tick hV hl' hv', by show T.now + 1 = _; simp only; omega, fun a ha => hA a (List.mem_filter.1 ha).1⟩ (by simp only; omega) rfl ⟨ref0 rfl, ref0 rfl, ref0 rfl, ref0 rfl, trivial⟩
    · have h3' : ¬ (k : Int) < 16 := by omega
      have hT0 : T.A = [] := by
        obtain ⟨tb, M, mp, LT, _, _, hK⟩ := hT
        refine List.eq_nil_iff_forall_not_mem.2 fun a ha => ?_
        have h5 := (hK.tms a ha).1
        have h6 := hA a ha
        omega
      have cl := nLeft_ok b T _ L3 hT
      rw [hT0] at cl
      focus (
 (refine W.seq (W.region (Jx.lssI rfl rfl rfl (J.nil (N.seq (W.seq (W.cF rfl ?_)))))))
 (refine W.exit (N.seq (W.seq (W.region (Jx.move rfl rfl ?_)))))
 (refine J.perm (List.perm_append_comm (l₁ := [Own.obj b' t80 (vs.map int)]) (l₂ := L3)) ?_; refine J.call cl rfl (evs_args rfl) rfl ?_; rintro _ L9 ⟨rfl, h9⟩; rw [h9])
 (refine Jx.eqlI rfl rfl rfl (Jx.assign rfl rfl (J.nil (N.seq (W.ret ?_)))))
 (refine id ?_; rotate_left))
      exact N.retD (rs := [.tmp 4]) (L1 := []) rfl (.tmp rfl .nil) (List.nil_sublist _) ⟨rfl, rfl⟩
end Go.Proofs.Ytmkicbphbegjbaa
