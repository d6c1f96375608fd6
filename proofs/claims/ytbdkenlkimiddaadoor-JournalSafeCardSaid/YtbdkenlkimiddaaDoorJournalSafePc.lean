/-
  Lemmas for the claim, part 3.
-/
import Derived.Test.YtbdkenlkimiddaaDoorJournalSafePb
namespace Go.Proofs.YtbdkenlkimiddaaDoor
open Go Go.Sse
set_option linter.unusedVariables false
set_option linter.unusedSimpArgs false
set_option maxRecDepth 10000
def numOut (r : Rdr) (s : SV) (r' : Rdr) : Prop :=
  s = .tup [int ((readN (r.s.drop r.at_)).1 : Int), int (readN (r.s.drop r.at_)).2.2] ∧ r'.s = r.s ∧ r'.code = r.code ∧ ((readN (r.s.drop r.at_)).2.2 = 0 → r'.at_ = r.at_ + (readN (r.s.drop r.at_)).2.1)
set_option maxHeartbeats 2000000 in
theorem number_bad (b : Nat) (r : Rdr) (h : r.ok) (hc : r.code = 0) (hb : (readN (r.s.drop r.at_)).2.2 ≠ 0) : FnC Tryd.prog 67 [ptr b] [rdO b r] (fun s L => ∃ r', numOut r s r' ∧ L = [rdO b r']) := by
  have h1 := h.le; have h2 := h.mx
  obtain ⟨s, a, c⟩ := r
  simp only at h1 h2 hc hb
  subst hc
  unfold numOut
  simp only
  cases hd : s.drop a with
  | nil =>
    have hlen : s.length ≤ a := by
      have := congrArg List.length hd
      rw [List.length_drop] at this; simp at this; omega
    have c0 := take_no b ⟨s, a, 0⟩ 1 h (by simp only; omega)
    refine FnC.intro Tryd.func67 rfl Tryd.ntmps67 rfl fun Z w0 hG => ?_
    focus (
 (refine W.seq (W.region (Jx.assign rfl rfl (Jx.assign rfl rfl (J.nil (N.seq (W.seq (W.seq (W.region (Jx.move rfl rfl (Jx.nilCheck rfl rfl ?_)))))))))))
 (refine Jx.fieldAddr rfl rfl ?_)
 (refine Jx.load rfl 0 rfl rfl rfl ?_)
 (refine Jx.neqI rfl rfl rfl (J.nil (N.seq (W.cF rfl ?_))))
 (refine W.skip (N.seq (W.seq (W.region (Jx.move rfl rfl ?_)))))
 (refine J.call (c0) rfl (evs_args rfl) rfl ?_; rintro _ _ ⟨rfl, rfl⟩; simp only [la1, la2, la3])
 (refine Jx.move rfl rfl (Jx.extract rfl rfl rfl ?_))
 (refine Jx.extract rfl rfl rfl ?_)
 (refine Jx.assign rfl rfl (Jx.assign rfl rfl (J.nil (N.seq (W.seq (W.seq (W.region (Jx.move rfl rfl (Jx.not rfl rfl (J.nil (N.seq (W.cT rfl ?_))))))))))))
 (refine W.seq (W.region (Jx.assign rfl rfl (Jx.assign rfl rfl (J.nil (N.seq (W.ret (N.seqRet ?_))))))))
 (refine id ?_; rotate_left))
    exact N.ret (rs := [.tmp 2, .tmp 3]) rfl (.tmp rfl (.tmp rfl .nil)) ⟨⟨s, a, 0⟩, ⟨rfl, rfl, rfl, by simp [readN]⟩, rfl⟩
  | cons x t =>
    have hlen : s.length = a + 1 + t.length := by
      have := congrArg List.length hd
      rw [List.length_drop] at this; simp at this; omega
    have c0 := take_yes b ⟨s, a, 0⟩ 1 h (by simp only; omega)
    simp only [hd, List.take_succ_cons, List.take_zero] at c0
    rw [hd] at hb
    have hx := x.toNat_lt
    by_cases h8 : 8 < x.toNat
    · refine FnC.intro Tryd.func67 rfl Tryd.ntmps67 rfl fun Z w0 hG => ?_
      focus (
 (refine W.seq (W.region (Jx.assign rfl rfl (Jx.assign rfl rfl (J.nil (N.seq (W.seq (W.seq (W.region (Jx.move rfl rfl (Jx.nilCheck rfl rfl ?_)))))))))))
 (refine Jx.fieldAddr rfl rfl ?_)
 (refine Jx.load rfl 0 rfl rfl rfl ?_)
 (refine Jx.neqI rfl rfl rfl (J.nil (N.seq (W.cF rfl ?_))))
 (refine W.skip (N.seq (W.seq (W.region (Jx.move rfl rfl ?_)))))
 (refine J.call (c0) rfl (evs_args rfl) rfl ?_; rintro _ _ ⟨rfl, rfl⟩; simp only [la1, la2, la3])
 (refine Jx.move rfl rfl (Jx.extract rfl rfl rfl ?_))
 (refine Jx.extract rfl rfl rfl ?_)
 (refine Jx.assign rfl rfl (Jx.assign rfl rfl (J.nil (N.seq (W.seq (W.seq (W.region (Jx.move rfl rfl (Jx.not rfl rfl (J.nil (N.seq (W.cF rfl ?_))))))))))))
 (refine W.skip (N.seq (W.seq (W.seq (W.region (Jx.move rfl rfl (Jx.indexS rfl rfl (by decide) (by first | (simp; done) | omega) rfl ?_)))))))
 (refine Jx.gtrI rfl rfl rfl (J.nil (N.seq (W.cT rfl ?_))))
 (refine W.seq (W.region (Jx.assign rfl rfl (Jx.assign rfl rfl (J.nil (N.seq (W.ret (N.seqRet ?_))))))))
 (refine id ?_; rotate_left))
      exact N.ret (rs := [.tmp 2, .tmp 3]) rfl (.tmp rfl (.tmp rfl .nil)) ⟨⟨s, a + 1, 0⟩, ⟨by simp [readN, h8, oneOr], rfl, rfl, by simp [readN, h8]⟩, rfl⟩
    · have hok2 : Rdr.ok ⟨s, a + 1, 0⟩ := ⟨by simp only; omega, h2⟩
      have hdt : s.drop (a + 1) = t := by rw [← List.drop_drop, hd]; rfl
      by_cases hs : t.length < x.toNat
      · have c1 := take_no b ⟨s, a + 1, 0⟩ x.toNat hok2 (by simp only; omega)
        refine FnC.intro Tryd.func67 rfl Tryd.ntmps67 rfl fun Z w0 hG => ?_
        focus (
 (refine W.seq (W.region (Jx.assign rfl rfl (Jx.assign rfl rfl (J.nil (N.seq (W.seq (W.seq (W.region (Jx.move rfl rfl (Jx.nilCheck rfl rfl ?_)))))))))))
 (refine Jx.fieldAddr rfl rfl ?_)
 (refine Jx.load rfl 0 rfl rfl rfl ?_)
 (refine Jx.neqI rfl rfl rfl (J.nil (N.seq (W.cF rfl ?_))))
 (refine W.skip (N.seq (W.seq (W.region (Jx.move rfl rfl ?_)))))
 (refine J.call (c0) rfl (evs_args rfl) rfl ?_; rintro _ _ ⟨rfl, rfl⟩; simp only [la1, la2, la3])
 (refine Jx.move rfl rfl (Jx.extract rfl rfl rfl ?_))
 (refine Jx.extract rfl rfl rfl ?_)
 (refine Jx.assign rfl rfl (Jx.assign rfl rfl (J.nil (N.seq (W.seq (W.seq (W.region (Jx.move rfl rfl (Jx.not rfl rfl (J.nil (N.seq (W.cF rfl ?_))))))))))))
 (refine W.skip (N.seq (W.seq (W.seq (W.region (Jx.move rfl rfl (Jx.indexS rfl rfl (by decide) (by first | (simp; done) | omega) rfl ?_)))))))
 (refine Jx.gtrI rfl rfl rfl (J.nil (N.seq (W.cF rfl ?_))))
 (refine W.skip (N.seq (W.seq (W.region (Jx.move rfl rfl (Jx.move rfl rfl (Jx.indexS rfl rfl (by decide) (by first | (simp; done) | omega) rfl ?_)))))))
 (refine Jx.byteNum rfl rfl rfl ?_)
 (refine J.call (c1) rfl (evs_args rfl) rfl ?_; rintro _ _ ⟨rfl, rfl⟩; simp only [la1, la2, la3])
 (refine Jx.move rfl rfl (Jx.extract rfl rfl rfl ?_))
 (refine Jx.extract rfl rfl rfl ?_)
 (refine Jx.assign rfl rfl (Jx.assign rfl rfl (J.nil (N.seq (W.seq (W.seq (W.region (Jx.move rfl rfl (Jx.not rfl rfl (J.nil (N.seq (W.cT rfl ?_))))))))))))
 (refine W.seq (W.region (Jx.assign rfl rfl (Jx.assign rfl rfl (J.nil (N.seq (W.ret (N.seqRet ?_))))))))
 (refine id ?_; rotate_left))
        exact N.ret (rs := [.tmp 2, .tmp 3]) rfl (.tmp rfl (.tmp rfl .nil)) ⟨⟨s, a + 1, 0⟩, ⟨by simp [readN, h8, hs, oneOr], rfl, rfl, by simp [readN, h8, hs]⟩, rfl⟩
      · have c1 := take_yes b ⟨s, a + 1, 0⟩ x.toNat hok2 (by simp only; omega)
        simp only [hdt] at c1
        have hl : (t.take x.toNat).length = x.toNat := by rw [List.length_take]; omega
        have hbad : (0 < x.toNat ∧ (t.getD 0 0).toNat = 0) ∨ (x.toNat = 8 ∧ 128 ≤ (t.getD 0 0).toNat) := Classical.byContradiction fun hn => hb (by simp only [readN, if_neg h8, if_neg hs, if_neg hn])
        have hr : readN (x :: t) = (0, 0, 3) := by simp only [readN, if_neg h8, if_neg hs, if_pos hbad]
        rw [hr]
        have h0 : 0 < x.toNat := by omega
        have hg : ((t.take x.toNat).getD (Int.toNat 0) 0).toNat = (t.getD 0 0).toNat := by rw [show Int.toNat 0 = 0 from rfl, getD_take0 t _ h0]
        generalize t.take x.toNat = bs at *
        generalize (t.getD 0 0).toNat = y at *
        by_cases hy : y = 0
        · refine FnC.intro Tryd.func67 rfl Tryd.ntmps67 rfl fun Z w0 hG => ?_
          focus (
 (refine W.seq (W.region (Jx.assign rfl rfl (Jx.assign rfl rfl (J.nil (N.seq (W.seq (W.seq (W.region (Jx.move rfl rfl (Jx.nilCheck rfl rfl ?_)))))))))))
 (refine Jx.fieldAddr rfl rfl ?_)
 (refine Jx.load rfl 0 rfl rfl rfl ?_)
 (refine Jx.neqI rfl rfl rfl (J.nil (N.seq (W.cF rfl ?_))))
 (refine W.skip (N.seq (W.seq (W.region (Jx.move rfl rfl ?_)))))
 (refine J.call (c0) rfl (evs_args rfl) rfl ?_; rintro _ _ ⟨rfl, rfl⟩; simp only [la1, la2, la3])
 (refine Jx.move rfl rfl (Jx.extract rfl rfl rfl ?_))
 (refine Jx.extract rfl rfl rfl ?_)
 (refine Jx.assign rfl rfl (Jx.assign rfl rfl (J.nil (N.seq (W.seq (W.seq (W.region (Jx.move rfl rfl (Jx.not rfl rfl (J.nil (N.seq (W.cF rfl ?_))))))))))))
 (refine W.skip (N.seq (W.seq (W.seq (W.region (Jx.move rfl rfl (Jx.indexS rfl rfl (by decide) (by first | omega | (simp; done)) rfl ?_)))))))
 (refine Jx.gtrI rfl rfl rfl (J.nil (N.seq (W.cF rfl ?_))))
 (refine W.skip (N.seq (W.seq (W.region (Jx.move rfl rfl (Jx.move rfl rfl (Jx.indexS rfl rfl (by decide) (by first | omega | (simp; done)) rfl ?_)))))))
 (refine Jx.byteNum rfl rfl rfl ?_)
 (refine J.call (c1) rfl (evs_args rfl) rfl ?_; rintro _ _ ⟨rfl, rfl⟩; simp only [la1, la2, la3])
 (refine Jx.move rfl rfl (Jx.extract rfl rfl rfl ?_))
 (refine Jx.extract rfl rfl rfl ?_)
 (refine Jx.assign rfl rfl (Jx.assign rfl rfl (J.nil (N.seq (W.seq (W.seq (W.region (Jx.move rfl rfl (Jx.not rfl rfl (J.nil (N.seq (W.cF rfl ?_))))))))))))
 (refine W.skip (N.seq (W.seq (W.seq (W.region (Jx.move rfl rfl (Jx.lenS rfl rfl ?_)))))))
 (refine Jx.gtrI rfl rfl rfl (Jx.move rfl rfl (J.gY rfl rfl rfl ?_)))
 (refine Jx.move rfl rfl (J.gY rfl rfl rfl ?_))
 (refine Jx.indexS rfl rfl (by decide) (by first | omega | (simp; done)) rfl ?_)
 (refine J.gY rfl rfl rfl ?_)
 (refine Jx.eqlI rfl rfl rfl (Jx.pT rfl rfl rfl ?_))
 (refine Jx.move rfl rfl (J.gN rfl rfl rfl rfl ?_))
 (refine J.gN rfl rfl rfl rfl ?_)
 (refine J.gN rfl rfl rfl rfl ?_)
 (refine J.gN rfl rfl rfl rfl ?_)
 (refine J.guardSkip rfl rfl rfl rfl ?_)
 (refine J.guardSkip rfl rfl rfl rfl ?_)
 (refine J.guardSkip rfl rfl rfl rfl ?_)
 (refine J.gN rfl rfl rfl rfl ?_)
 (refine Jx.pT rfl rfl rfl ?_)
 (refine J.nil (N.seq (W.cT rfl ?_)))
 (refine W.seq (W.region (Jx.assign rfl rfl (Jx.assign rfl rfl (J.nil (N.seq (W.ret (N.seqRet ?_))))))))
 (refine id ?_; rotate_left))
          exact N.ret (rs := [.tmp 2, .tmp 3]) rfl (.tmp rfl (.tmp rfl .nil)) ⟨⟨s, a + 1 + x.toNat, 0⟩, ⟨rfl, rfl, rfl, by simp⟩, rfl⟩
        · have hx8 : x.toNat = 8 := by omega
          refine FnC.intro Tryd.func67 rfl Tryd.ntmps67 rfl fun Z w0 hG => ?_
          focus (
 (refine W.seq (W.region (Jx.assign rfl rfl (Jx.assign rfl rfl (J.nil (N.seq (W.seq (W.seq (W.region (Jx.move rfl rfl (Jx.nilCheck rfl rfl ?_)))))))))))
 (refine Jx.fieldAddr rfl rfl ?_)
 (refine Jx.load rfl 0 rfl rfl rfl ?_)
 (refine Jx.neqI rfl rfl rfl (J.nil (N.seq (W.cF rfl ?_))))
 (refine W.skip (N.seq (W.seq (W.region (Jx.move rfl rfl ?_)))))
 (refine J.call (c0) rfl (evs_args rfl) rfl ?_; rintro _ _ ⟨rfl, rfl⟩; simp only [la1, la2, la3])
 (refine Jx.move rfl rfl (Jx.extract rfl rfl rfl ?_))
 (refine Jx.extract rfl rfl rfl ?_)
 (refine Jx.assign rfl rfl (Jx.assign rfl rfl (J.nil (N.seq (W.seq (W.seq (W.region (Jx.move rfl rfl (Jx.not rfl rfl (J.nil (N.seq (W.cF rfl ?_))))))))))))
 (refine W.skip (N.seq (W.seq (W.seq (W.region (Jx.move rfl rfl (Jx.indexS rfl rfl (by decide) (by first | omega | (simp; done)) rfl ?_)))))))
 (refine Jx.gtrI rfl rfl rfl (J.nil (N.seq (W.cF rfl ?_))))
 (refine W.skip (N.seq (W.seq (W.region (Jx.move rfl rfl (Jx.move rfl rfl (Jx.indexS rfl rfl (by decide) (by first | omega | (simp; done)) rfl ?_)))))))
 (refine Jx.byteNum rfl rfl rfl ?_)
 (refine J.call (c1) rfl (evs_args rfl) rfl ?_; rintro _ _ ⟨rfl, rfl⟩; simp only [la1, la2, la3])
 (refine Jx.move rfl rfl (Jx.extract rfl rfl rfl ?_))
 (refine Jx.extract rfl rfl rfl ?_)
 (refine Jx.assign rfl rfl (Jx.assign rfl rfl (J.nil (N.seq (W.seq (W.seq (W.region (Jx.move rfl rfl (Jx.not rfl rfl (J.nil (N.seq (W.cF rfl ?_))))))))))))
 (refine W.skip (N.seq (W.seq (W.seq (W.region (Jx.move rfl rfl (Jx.lenS rfl rfl ?_)))))))
 (refine Jx.gtrI rfl rfl rfl (Jx.move rfl rfl (J.gY rfl rfl rfl ?_)))
 (refine Jx.move rfl rfl (J.gY rfl rfl rfl ?_))
 (refine Jx.indexS rfl rfl (by decide) (by first | omega | (simp; done)) rfl ?_)
 (refine J.gY rfl rfl rfl ?_)
 (refine Jx.eqlI rfl rfl rfl (Jx.pT rfl rfl rfl ?_))
 (refine Jx.move rfl rfl (J.gY rfl rfl rfl ?_))
 (refine Jx.move rfl rfl (J.gY rfl rfl rfl ?_))
 (refine Jx.lenS rfl rfl ?_)
 (refine J.gY rfl rfl rfl ?_)
 (refine Jx.eqlI rfl rfl rfl (J.gY rfl rfl rfl ?_))
 (refine Jx.move rfl rfl (J.gY rfl rfl rfl ?_))
 (refine Jx.move rfl rfl (J.gY rfl rfl rfl ?_))
 (refine Jx.indexS rfl rfl (by decide) (by first | omega | (simp; done)) rfl ?_)
 (refine J.gY rfl rfl rfl ?_)
 (refine Jx.geqI rfl rfl rfl (J.gY rfl rfl rfl ?_))
 (refine Jx.pT rfl rfl rfl ?_)
 (refine Jx.pF rfl rfl rfl ?_)
 (refine J.nil (N.seq (W.cT rfl ?_)))
 (refine W.seq (W.region (Jx.assign rfl rfl (Jx.assign rfl rfl (J.nil (N.seq (W.ret (N.seqRet ?_))))))))
 (refine id ?_; rotate_left))
          exact N.ret (rs := [.tmp 2, .tmp 3]) rfl (.tmp rfl (.tmp rfl .nil)) ⟨⟨s, a + 1 + x.toNat, 0⟩, ⟨rfl, rfl, rfl, by simp⟩, rfl⟩
set_option maxHeartbeats 2000000 in
theorem number_good (b : Nat) (r : Rdr) (h : r.ok) (hc : r.code = 0) (hb : (readN (r.s.drop r.at_)).2.2 = 0) : FnC Tryd.prog 67 [ptr b] [rdO b r] (fun s L => ∃ r', numOut r s r' ∧ L = [rdO b r']) := by
  have h1 := h.le; have h2 := h.mx
  obtain ⟨s, a, c⟩ := r
  simp only at h1 h2 hc hb
  subst hc
  unfold numOut
  simp only
  cases hd : s.drop a with
  | nil => rw [hd] at hb; simp [readN] at hb
  | cons x t =>
    have hlen : s.length = a + 1 + t.length := by
      have := congrArg List.length hd
      rw [List.length_drop] at this; simp at this; omega
    have c0 := take_yes b ⟨s, a, 0⟩ 1 h (by simp only; omega)
    simp only [hd, List.take_succ_cons, List.take_zero] at c0
    rw [hd] at hb
    have hx := x.toNat_lt
    have h8 : ¬ 8 < x.toNat := fun h => by simp [readN, h] at hb
    have hs : ¬ t.length < x.toNat := fun h => by simp [readN, h8, h] at hb
    have hgood : ¬ ((0 < x.toNat ∧ (t.getD 0 0).toNat = 0) ∨ (x.toNat = 8 ∧ 128 ≤ (t.getD 0 0).toNat)) := fun h => by
      simp only [readN, if_neg h8, if_neg hs, if_pos h] at hb; cases hb
    have hok2 : Rdr.ok ⟨s, a + 1, 0⟩ := ⟨by simp only; omega, h2⟩
    have hdt : s.drop (a + 1) = t := by rw [← List.drop_drop, hd]; rfl
    have c1 := take_yes b ⟨s, a + 1, 0⟩ x.toNat hok2 (by simp only; omega)
    simp only [hdt] at c1
    have hl : (t.take x.toNat).length = x.toNat := by rw [List.length_take]; omega
    have hr : readN (x :: t) = (valB (t.take x.toNat), 1 + x.toNat, 0) := by simp only [readN, if_neg h8, if_neg hs, if_neg hgood]
    rw [hr]
    have hvb := val_bound t x.toNat (by omega) (by omega) (fun h => hgood (.inr h))
    have hg : 0 < x.toNat → ((t.take x.toNat).getD (Int.toNat 0) 0).toNat = (t.getD 0 0).toNat := fun h0 => by rw [show Int.toNat 0 = 0 from rfl, getD_take0 t _ h0]
    generalize t.take x.toNat = bs at *
    by_cases h0 : x.toNat = 0
    · have hbs : bs = [] := List.eq_nil_of_length_eq_zero (by omega)
      subst hbs
      refine FnC.intro Tryd.func67 rfl Tryd.ntmps67 rfl fun Z w0 hG => ?_
      focus (
 (refine W.seq (W.region (Jx.assign rfl rfl (Jx.assign rfl rfl (J.nil (N.seq (W.seq (W.seq (W.region (Jx.move rfl rfl (Jx.nilCheck rfl rfl ?_)))))))))))
 (refine Jx.fieldAddr rfl rfl ?_)
 (refine Jx.load rfl 0 rfl rfl rfl ?_)
 (refine Jx.neqI rfl rfl rfl (J.nil (N.seq (W.cF rfl ?_))))
 (refine W.skip (N.seq (W.seq (W.region (Jx.move rfl rfl ?_)))))
 (refine J.call (c0) rfl (evs_args rfl) rfl ?_; rintro _ _ ⟨rfl, rfl⟩; simp only [la1, la2, la3])
 (refine Jx.move rfl rfl (Jx.extract rfl rfl rfl ?_))
 (refine Jx.extract rfl rfl rfl ?_)
 (refine Jx.assign rfl rfl (Jx.assign rfl rfl (J.nil (N.seq (W.seq (W.seq (W.region (Jx.move rfl rfl (Jx.not rfl rfl (J.nil (N.seq (W.cF rfl ?_))))))))))))
 (refine W.skip (N.seq (W.seq (W.seq (W.region (Jx.move rfl rfl (Jx.indexS rfl rfl (by decide) (by first | omega | (simp; done)) rfl ?_)))))))
 (refine Jx.gtrI rfl rfl rfl (J.nil (N.seq (W.cF rfl ?_))))
 (refine W.skip (N.seq (W.seq (W.region (Jx.move rfl rfl (Jx.move rfl rfl (Jx.indexS rfl rfl (by decide) (by first | omega | (simp; done)) rfl ?_)))))))
 (refine Jx.byteNum rfl rfl rfl ?_)
 (refine J.call (c1) rfl (evs_args rfl) rfl ?_; rintro _ _ ⟨rfl, rfl⟩; simp only [la1, la2, la3])
 (refine Jx.move rfl rfl (Jx.extract rfl rfl rfl ?_))
 (refine Jx.extract rfl rfl rfl ?_)
 (refine Jx.assign rfl rfl (Jx.assign rfl rfl (J.nil (N.seq (W.seq (W.seq (W.region (Jx.move rfl rfl (Jx.not rfl rfl (J.nil (N.seq (W.cF rfl ?_))))))))))))
 (refine W.skip (N.seq (W.seq (W.seq (W.region (Jx.move rfl rfl (Jx.lenS rfl rfl ?_)))))))
 (refine Jx.gtrI rfl rfl rfl (Jx.move rfl rfl ?_))
 (refine J.guardNo rfl rfl rfl (by first | rfl | assumption | (exact decide_eq_true (by first | assumption | omega | rfl)) | (exact decide_eq_false (by first | assumption | omega | rfl)) | (simp; done) | (simp; omega)) rfl ?_)
 (refine J.guardNo rfl rfl rfl (by first | rfl | assumption | (exact decide_eq_true (by first | assumption | omega | rfl)) | (exact decide_eq_false (by first | assumption | omega | rfl)) | (simp; done) | (simp; omega)) rfl ?_)
 (refine J.guardNo rfl rfl rfl (by first | rfl | assumption | (exact decide_eq_true (by first | assumption | omega | rfl)) | (exact decide_eq_false (by first | assumption | omega | rfl)) | (simp; done) | (simp; omega)) rfl ?_)
 (refine Jx.pF rfl rfl rfl ?_)
 (refine Jx.move rfl rfl (J.gY rfl rfl rfl ?_))
 (refine Jx.move rfl rfl (J.gY rfl rfl rfl ?_))
 (refine Jx.lenS rfl rfl ?_)
 (refine J.gY rfl rfl rfl ?_)
 (refine Jx.eqlI rfl rfl rfl (J.gY rfl rfl rfl ?_))
 (refine Jx.move rfl rfl ?_)
 (refine J.guardNo rfl rfl rfl (by first | rfl | assumption | (exact decide_eq_true (by first | assumption | omega | rfl)) | (exact decide_eq_false (by first | assumption | omega | rfl)) | (simp; done) | (simp; omega)) rfl ?_)
 (refine J.guardNo rfl rfl rfl (by first | rfl | assumption | (exact decide_eq_true (by first | assumption | omega | rfl)) | (exact decide_eq_false (by first | assumption | omega | rfl)) | (simp; done) | (simp; omega)) rfl ?_)
 (refine J.guardNo rfl rfl rfl (by first | rfl | assumption | (exact decide_eq_true (by first | assumption | omega | rfl)) | (exact decide_eq_false (by first | assumption | omega | rfl)) | (simp; done) | (simp; omega)) rfl ?_)
 (refine J.gY rfl rfl rfl ?_)
 (refine Jx.pF rfl rfl rfl ?_)
 (refine Jx.pF rfl rfl rfl ?_)
 (refine J.nil (N.seq (W.cF rfl ?_)))
 (refine W.skip (N.seq (W.seq (W.region (Jx.assign rfl rfl (J.nil (N.seq (W.seq (W.seq (W.region (Jx.move rfl rfl (Jx.lenS rfl rfl ?_))))))))))))
 (refine Jx.move rfl rfl (J.nil (N.seq (W.block ?_))))
 (refine id ?_; rotate_left))
      refine W.loop (α := Unit) (fun _ => [(58, int 0), (57, int 0), (7, int 0)]) (fun _ => [rdO b ⟨s, a + 1 + x.toNat, 0⟩]) (fun _ => True) (fun _ => 0) () trivial rfl ⟨ref0 rfl, ref0 rfl, ref0 rfl, trivial⟩ ?_
      intro _ _
      focus (
 (refine W.seq (W.region (Jx.lssI rfl rfl rfl (J.nil (N.seq (W.seq (W.cF rfl ?_)))))))
 (refine W.exit (N.seq (W.seq (W.region (Jx.move rfl rfl (Jx.assign rfl rfl (Jx.assign rfl rfl (J.nil (N.seq (W.ret ?_))))))))))
 (refine id ?_; rotate_left))
      exact N.ret (rs := [.tmp 2, .tmp 3]) rfl (.tmp rfl (.tmp rfl .nil)) ⟨⟨s, a + 1 + x.toNat, 0⟩, ⟨rfl, rfl, rfl, fun _ => by simp only; omega⟩, rfl⟩
    · have hg' := hg (by omega)
      generalize (t.getD 0 0).toNat = y at *
      by_cases hx8 : x.toNat = 8
      · refine FnC.intro Tryd.func67 rfl Tryd.ntmps67 rfl fun Z w0 hG => ?_
        focus (
 (refine W.seq (W.region (Jx.assign rfl rfl (Jx.assign rfl rfl (J.nil (N.seq (W.seq (W.seq (W.region (Jx.move rfl rfl (Jx.nilCheck rfl rfl ?_)))))))))))
 (refine Jx.fieldAddr rfl rfl ?_)
 (refine Jx.load rfl 0 rfl rfl rfl ?_)
 (refine Jx.neqI rfl rfl rfl (J.nil (N.seq (W.cF rfl ?_))))
 (refine W.skip (N.seq (W.seq (W.region (Jx.move rfl rfl ?_)))))
 (refine J.call (c0) rfl (evs_args rfl) rfl ?_; rintro _ _ ⟨rfl, rfl⟩; simp only [la1, la2, la3])
 (refine Jx.move rfl rfl (Jx.extract rfl rfl rfl ?_))
 (refine Jx.extract rfl rfl rfl ?_)
 (refine Jx.assign rfl rfl (Jx.assign rfl rfl (J.nil (N.seq (W.seq (W.seq (W.region (Jx.move rfl rfl (Jx.not rfl rfl (J.nil (N.seq (W.cF rfl ?_))))))))))))
 (refine W.skip (N.seq (W.seq (W.seq (W.region (Jx.move rfl rfl (Jx.indexS rfl rfl (by decide) (by first | omega | (simp; done)) rfl ?_)))))))
 (refine Jx.gtrI rfl rfl rfl (J.nil (N.seq (W.cF rfl ?_))))
 (refine W.skip (N.seq (W.seq (W.region (Jx.move rfl rfl (Jx.move rfl rfl (Jx.indexS rfl rfl (by decide) (by first | omega | (simp; done)) rfl ?_)))))))
 (refine Jx.byteNum rfl rfl rfl ?_)
 (refine J.call (c1) rfl (evs_args rfl) rfl ?_; rintro _ _ ⟨rfl, rfl⟩; simp only [la1, la2, la3])
 (refine Jx.move rfl rfl (Jx.extract rfl rfl rfl ?_))
 (refine Jx.extract rfl rfl rfl ?_)
 (refine Jx.assign rfl rfl (Jx.assign rfl rfl (J.nil (N.seq (W.seq (W.seq (W.region (Jx.move rfl rfl (Jx.not rfl rfl (J.nil (N.seq (W.cF rfl ?_))))))))))))
 (refine W.skip (N.seq (W.seq (W.seq (W.region (Jx.move rfl rfl (Jx.lenS rfl rfl ?_)))))))
 (refine Jx.gtrI rfl rfl rfl (Jx.move rfl rfl (J.gY rfl rfl rfl ?_)))
 (refine Jx.move rfl rfl (J.gY rfl rfl rfl ?_))
 (refine Jx.indexS rfl rfl (by decide) (by first | omega | (simp; done)) rfl ?_)
 (refine J.gY rfl rfl rfl ?_)
 (refine Jx.eqlI rfl rfl rfl (Jx.pT rfl rfl rfl ?_))
 (refine Jx.move rfl rfl (J.gY rfl rfl rfl ?_))
 (refine Jx.move rfl rfl (J.gY rfl rfl rfl ?_))
 (refine Jx.lenS rfl rfl ?_)
 (refine J.gY rfl rfl rfl ?_)
 (refine Jx.eqlI rfl rfl rfl (J.gY rfl rfl rfl ?_))
 (refine Jx.move rfl rfl (J.gY rfl rfl rfl ?_))
 (refine Jx.move rfl rfl (J.gY rfl rfl rfl ?_))
 (refine Jx.indexS rfl rfl (by decide) (by first | omega | (simp; done)) rfl ?_)
 (refine J.gY rfl rfl rfl ?_)
 (refine Jx.geqI rfl rfl rfl (J.gY rfl rfl rfl ?_))
 (refine Jx.pT rfl rfl rfl ?_)
 (refine Jx.pF rfl rfl rfl ?_)
 (refine J.nil (N.seq (W.cF rfl ?_)))
 (refine W.skip (N.seq (W.seq (W.region (Jx.assign rfl rfl (J.nil (N.seq (W.seq (W.seq (W.region (Jx.move rfl rfl (Jx.lenS rfl rfl ?_))))))))))))
 (refine Jx.move rfl rfl (J.nil (N.seq (W.block ?_))))
 (refine id ?_; rotate_left))
        refine W.loop (α := Nat) (fun i => [(58, int i), (57, int bs.length), (7, int (valB (bs.take i) : Int)), (6, str bs)]) (fun _ => [rdO b ⟨s, a + 1 + x.toNat, 0⟩]) (fun i => i ≤ bs.length) (fun i => bs.length - i) 0 (by omega) rfl ⟨ref0 rfl, ref0 rfl, ref0 rfl, ref0 rfl, trivial⟩ ?_
        intro i hi
        by_cases hi1 : i < bs.length
        · have hst := valB_take bs i hi1
          have hmo := valB_mono bs (bs.length - (i + 1)) (i + 1) (by omega)
          have hbb := (bs.getD i 0).toNat_lt
          focus (
 (refine W.seq (W.region (Jx.lssI rfl rfl rfl (J.nil (N.seq (W.seq (W.cT rfl ?_)))))))
 (refine W.skip (N.seq (W.seq (W.block (W.seq (W.region (Jx.move rfl rfl (Jx.assign rfl rfl (J.nil (N.seq (W.region (Jx.move rfl rfl (Jx.shl8 rfl rfl (by omega) rfl ?_)))))))))))))
 (refine Jx.move rfl rfl (Jx.move rfl rfl (Jx.indexS rfl rfl (by omega) (by omega) rfl ?_)))
 (refine Jx.byteNum rfl rfl rfl ?_)
 (refine Jx.orByte (b := (bs.getD i 0).toNat) rfl rfl hbb (by omega) rfl ?_)
 (refine Jx.assign rfl rfl (J.nil (N.seq (W.region (Jx.add64 rfl rfl (by omega) rfl ?_)))))
 (refine Jx.move rfl rfl (J.nil ?_))
 (refine id ?_; rotate_left))
          exact N.round (i + 1) hi1 (by omega) rfl ⟨ref0 rfl, ref0 rfl, ⟨_, rfl, Sub.of_eq (by rw [hst])⟩, ref0 rfl, trivial⟩
        · have hie : bs.take i = bs := List.take_of_length_le (by omega)
          focus (
 (refine W.seq (W.region (Jx.lssI rfl rfl rfl (J.nil (N.seq (W.seq (W.cF rfl ?_)))))))
 (refine W.exit (N.seq (W.seq (W.region (Jx.move rfl rfl (Jx.assign rfl rfl (Jx.assign rfl rfl (J.nil (N.seq (W.ret ?_))))))))))
 (refine id ?_; rotate_left))
          exact N.ret (rs := [.tmp 2, .tmp 3]) rfl (.tmp rfl (.tmp rfl .nil)) ⟨⟨s, a + 1 + x.toNat, 0⟩, ⟨by rw [hie]; rfl, rfl, rfl, fun _ => by simp only; omega⟩, rfl⟩
      · refine FnC.intro Tryd.func67 rfl Tryd.ntmps67 rfl fun Z w0 hG => ?_
        focus (
 (refine W.seq (W.region (Jx.assign rfl rfl (Jx.assign rfl rfl (J.nil (N.seq (W.seq (W.seq (W.region (Jx.move rfl rfl (Jx.nilCheck rfl rfl ?_)))))))))))
 (refine Jx.fieldAddr rfl rfl ?_)
 (refine Jx.load rfl 0 rfl rfl rfl ?_)
 (refine Jx.neqI rfl rfl rfl (J.nil (N.seq (W.cF rfl ?_))))
 (refine W.skip (N.seq (W.seq (W.region (Jx.move rfl rfl ?_)))))
 (refine J.call (c0) rfl (evs_args rfl) rfl ?_; rintro _ _ ⟨rfl, rfl⟩; simp only [la1, la2, la3])
 (refine Jx.move rfl rfl (Jx.extract rfl rfl rfl ?_))
 (refine Jx.extract rfl rfl rfl ?_)
 (refine Jx.assign rfl rfl (Jx.assign rfl rfl (J.nil (N.seq (W.seq (W.seq (W.region (Jx.move rfl rfl (Jx.not rfl rfl (J.nil (N.seq (W.cF rfl ?_))))))))))))
 (refine W.skip (N.seq (W.seq (W.seq (W.region (Jx.move rfl rfl (Jx.indexS rfl rfl (by decide) (by first | omega | (simp; done)) rfl ?_)))))))
 (refine Jx.gtrI rfl rfl rfl (J.nil (N.seq (W.cF rfl ?_))))
 (refine W.skip (N.seq (W.seq (W.region (Jx.move rfl rfl (Jx.move rfl rfl (Jx.indexS rfl rfl (by decide) (by first | omega | (simp; done)) rfl ?_)))))))
 (refine Jx.byteNum rfl rfl rfl ?_)
 (refine J.call (c1) rfl (evs_args rfl) rfl ?_; rintro _ _ ⟨rfl, rfl⟩; simp only [la1, la2, la3])
 (refine Jx.move rfl rfl (Jx.extract rfl rfl rfl ?_))
 (refine Jx.extract rfl rfl rfl ?_)
 (refine Jx.assign rfl rfl (Jx.assign rfl rfl (J.nil (N.seq (W.seq (W.seq (W.region (Jx.move rfl rfl (Jx.not rfl rfl (J.nil (N.seq (W.cF rfl ?_))))))))))))
 (refine W.skip (N.seq (W.seq (W.seq (W.region (Jx.move rfl rfl (Jx.lenS rfl rfl ?_)))))))
 (refine Jx.gtrI rfl rfl rfl (Jx.move rfl rfl (J.gY rfl rfl rfl ?_)))
 (refine Jx.move rfl rfl (J.gY rfl rfl rfl ?_))
 (refine Jx.indexS rfl rfl (by decide) (by first | omega | (simp; done)) rfl ?_)
 (refine J.gY rfl rfl rfl ?_)
 (refine Jx.eqlI rfl rfl rfl (Jx.pT rfl rfl rfl ?_))
 (refine Jx.move rfl rfl (J.gY rfl rfl rfl ?_))
 (refine Jx.move rfl rfl (J.gY rfl rfl rfl ?_))
 (refine Jx.lenS rfl rfl ?_)
 (refine J.gY rfl rfl rfl ?_)
 (refine Jx.eqlI rfl rfl rfl (J.gY rfl rfl rfl ?_))
 (refine Jx.move rfl rfl ?_)
 (refine J.guardNo rfl rfl rfl (by first | rfl | assumption | (exact decide_eq_true (by first | assumption | omega | rfl)) | (exact decide_eq_false (by first | assumption | omega | rfl)) | (simp; done) | (simp; omega)) rfl ?_)
 (refine J.guardNo rfl rfl rfl (by first | rfl | assumption | (exact decide_eq_true (by first | assumption | omega | rfl)) | (exact decide_eq_false (by first | assumption | omega | rfl)) | (simp; done) | (simp; omega)) rfl ?_)
 (refine J.guardNo rfl rfl rfl (by first | rfl | assumption | (exact decide_eq_true (by first | assumption | omega | rfl)) | (exact decide_eq_false (by first | assumption | omega | rfl)) | (simp; done) | (simp; omega)) rfl ?_)
 (refine J.gY rfl rfl rfl ?_)
 (refine Jx.pF rfl rfl rfl ?_)
 (refine Jx.pF rfl rfl rfl ?_)
 (refine J.nil (N.seq (W.cF rfl ?_)))
 (refine W.skip (N.seq (W.seq (W.region (Jx.assign rfl rfl (J.nil (N.seq (W.seq (W.seq (W.region (Jx.move rfl rfl (Jx.lenS rfl rfl ?_))))))))))))
 (refine Jx.move rfl rfl (J.nil (N.seq (W.block ?_))))
 (refine id ?_; rotate_left))
        refine W.loop (α := Nat) (fun i => [(58, int i), (57, int bs.length), (7, int (valB (bs.take i) : Int)), (6, str bs)]) (fun _ => [rdO b ⟨s, a + 1 + x.toNat, 0⟩]) (fun i => i ≤ bs.length) (fun i => bs.length - i) 0 (by omega) rfl ⟨ref0 rfl, ref0 rfl, ref0 rfl, ref0 rfl, trivial⟩ ?_
        intro i hi
        by_cases hi1 : i < bs.length
        · have hst := valB_take bs i hi1
          have hmo := valB_mono bs (bs.length - (i + 1)) (i + 1) (by omega)
          have hbb := (bs.getD i 0).toNat_lt
          focus (
 (refine W.seq (W.region (Jx.lssI rfl rfl rfl (J.nil (N.seq (W.seq (W.cT rfl ?_)))))))
 (refine W.skip (N.seq (W.seq (W.block (W.seq (W.region (Jx.move rfl rfl (Jx.assign rfl rfl (J.nil (N.seq (W.region (Jx.move rfl rfl (Jx.shl8 rfl rfl (by omega) rfl ?_)))))))))))))
 (refine Jx.move rfl rfl (Jx.move rfl rfl (Jx.indexS rfl rfl (by omega) (by omega) rfl ?_)))
 (refine Jx.byteNum rfl rfl rfl ?_)
 (refine Jx.orByte (b := (bs.getD i 0).toNat) rfl rfl hbb (by omega) rfl ?_)
 (refine Jx.assign rfl rfl (J.nil (N.seq (W.region (Jx.add64 rfl rfl (by omega) rfl ?_)))))
 (refine Jx.move rfl rfl (J.nil ?_))
 (refine id ?_; rotate_left))
          exact N.round (i + 1) hi1 (by omega) rfl ⟨ref0 rfl, ref0 rfl, ⟨_, rfl, Sub.of_eq (by rw [hst])⟩, ref0 rfl, trivial⟩
        · have hie : bs.take i = bs := List.take_of_length_le (by omega)
          focus (
 (refine W.seq (W.region (Jx.lssI rfl rfl rfl (J.nil (N.seq (W.seq (W.cF rfl ?_)))))))
 (refine W.exit (N.seq (W.seq (W.region (Jx.move rfl rfl (Jx.assign rfl rfl (Jx.assign rfl rfl (J.nil (N.seq (W.ret ?_))))))))))
 (refine id ?_; rotate_left))
          exact N.ret (rs := [.tmp 2, .tmp 3]) rfl (.tmp rfl (.tmp rfl .nil)) ⟨⟨s, a + 1 + x.toNat, 0⟩, ⟨by rw [hie]; rfl, rfl, rfl, fun _ => by simp only; omega⟩, rfl⟩
end Go.Proofs.YtbdkenlkimiddaaDoor
namespace Go.Proofs.YtbdkenlkimiddaaDoor
open Go Go.Sse
set_option linter.unusedVariables false
set_option linter.unusedSimpArgs false
set_option maxRecDepth 10000
theorem number_code (b : Nat) (r : Rdr) (hc : r.code ≠ 0) : FnC Tryd.prog 67 [ptr b] [rdO b r] (fun s L => s = .tup [int 0, int r.code] ∧ L = [rdO b r]) := by
  refine FnC.intro Tryd.func67 rfl Tryd.ntmps67 rfl fun Z w0 hG => ?_
  focus (
 (refine W.seq (W.region (Jx.assign rfl rfl (Jx.assign rfl rfl (J.nil (N.seq (W.seq (W.seq (W.region (Jx.move rfl rfl (Jx.nilCheck rfl rfl ?_)))))))))))
 (refine Jx.fieldAddr rfl rfl ?_)
 (refine Jx.load rfl 0 rfl rfl rfl ?_)
 (refine Jx.neqI rfl rfl rfl (J.nil (N.seq (W.cT rfl ?_))))
 (refine W.seq ?_)
 (refine W.draw follows ?_)
 (refine JD.calm rfl (by decide +kernel) ?_)
 (refine Cx.move rfl rfl ?_)
 (refine Cx.nilCheck rfl rfl ?_)
 (refine Cx.fieldAddr rfl rfl ?_)
 (refine Cx.load rfl 0 rfl rfl rfl ?_)
 (refine Cx.assign rfl rfl ?_)
 (refine Cx.assign rfl rfl ?_)
 (refine SegC.nil ?_)
 (refine N.seq (W.ret (N.seqRet ?_)))
 (refine id ?_; rotate_left))
  exact N.ret (rs := [.tmp 2, .tmp 3]) rfl (.tmp rfl (.tmp rfl .nil)) ⟨rfl, rfl⟩
end Go.Proofs.YtbdkenlkimiddaaDoor
namespace Go.Proofs.YtbdkenlkimiddaaDoor
open Go Go.Sse
set_option linter.unusedVariables false
set_option linter.unusedSimpArgs false
set_option maxRecDepth 10000
theorem valB_be : ∀ (n : Nat), valB (be n) = n := by
  intro n
  induction n using Nat.strongRecOn with
  | _ n ih =>
    by_cases h : n = 0
    · subst h; rw [be_zero]; rfl
    · rw [be_pos (by omega), valB_snoc, ih (n / 256) (by omega)]
      simp only [UInt8.toNat_ofNat']
      omega
theorem valB_pos : ∀ (k : Nat) (l : List UInt8), l.length = k → 0 < (l.getD 0 0).toNat → 0 < valB l
  | k, [], _, h => by simp at h
  | k, b :: l, _, h => by
    rw [valB_cons l.length b l rfl]
    simp only [List.getD_cons_zero] at h
    have : 0 < b.toNat * 256 ^ l.length := Nat.mul_pos h (Nat.pow_pos (by omega))
    omega
theorem be_valB : ∀ (k : Nat) (l : List UInt8), l.length = k → (0 < k → 0 < (l.getD 0 0).toNat) → be (valB l) = l
  | 0, l, h, _ => by rw [List.eq_nil_of_length_eq_zero h]; simp only [valB, List.foldl_nil]; exact be_zero
  | k + 1, l, h, hp => by
    obtain ⟨m, c, rfl⟩ : ∃ m c, l = m ++ [c] := ⟨l.dropLast, l.getLast (by intro e; subst e; simp at h), (List.dropLast_concat_getLast _).symm⟩
    have hml : m.length = k := by simpa using h
    have hpos := valB_pos (k + 1) (m ++ [c]) h (hp (by omega))
    have hc := c.toNat_lt
    have ih := be_valB k m hml (fun hk => by
      have := hp (by omega)
      rw [List.getD_eq_getElem?_getD, List.getElem?_append_left (by omega)] at this
      rw [List.getD_eq_getElem?_getD]; exact this)
    rw [be_pos hpos, valB_snoc]
    have e1 : (valB m * 256 + c.toNat) / 256 = valB m := by omega
    have e2 : (valB m * 256 + c.toNat) % 256 = c.toNat := by omega
    rw [e1, e2, ih]
    congr 2
    apply UInt8.toNat_inj.1
    simp
theorem readN_good {s : List UInt8} (h : (readN s).2.2 = 0) : s.take (readN s).2.1 = numB (readN s).1 ∧ (readN s).2.1 ≤ s.length ∧ (readN s).1 < 9223372036854775808 := by
  cases s with
  | nil => simp [readN] at h
  | cons x t =>
    have h8 : ¬ 8 < x.toNat := fun h' => by simp [readN, h'] at h
    have hs : ¬ t.length < x.toNat := fun h' => by simp [readN, h8, h'] at h
    have hgood : ¬ ((0 < x.toNat ∧ (t.getD 0 0).toNat = 0) ∨ (x.toNat = 8 ∧ 128 ≤ (t.getD 0 0).toNat)) := fun h' => by
      simp only [readN, if_neg h8, if_neg hs, if_pos h'] at h; cases h
    have hr : readN (x :: t) = (valB (t.take x.toNat), 1 + x.toNat, 0) := by simp only [readN, if_neg h8, if_neg hs, if_neg hgood]
    rw [hr]
    have hl : (t.take x.toNat).length = x.toNat := by rw [List.length_take]; omega
    have hbe := be_valB x.toNat (t.take x.toNat) hl (fun h0 => by rw [getD_take0 t _ h0]; omega)
    refine ⟨?_, by simp only [List.length_cons]; omega, val_bound t x.toNat (by omega) (by omega) (fun h' => hgood (.inr h'))⟩
    simp only [numB, hbe, hl]
    rw [Nat.add_comm 1, List.take_succ_cons]
    congr 1
    apply UInt8.toNat_inj.1
    simp
theorem readN_num (n : Nat) (hn : n < 9223372036854775808) (r : List UInt8) : readN (numB n ++ r) = (n, (numB n).length, 0) := by
  have h8 := be_len8 (n := n) (by omega)
  have hx : (UInt8.ofNat (be n).length).toNat = (be n).length := by simp only [UInt8.toNat_ofNat']; omega
  have htk : (be n ++ r).take (be n).length = be n := by rw [List.take_append_of_le_length (Nat.le_refl _), List.take_length]
  simp only [numB, List.cons_append, readN, hx, List.length_append, htk, valB_be, List.length_cons]
  rw [if_neg (by omega), if_neg (by omega), if_neg]
  · rw [Nat.add_comm]
  · by_cases h0 : n = 0
    · subst h0; rw [be_zero]; simp
    · have hpos : 0 < (be n).length := by rw [be_pos (by omega), List.length_append]; simp
      have hg : (be n ++ r).getD 0 0 = (be n).getD 0 0 := by
        rw [List.getD_eq_getElem?_getD, List.getElem?_append_left hpos, List.getD_eq_getElem?_getD]
      rw [hg]
      have hv := valB_be n
      cases hb : be n with
      | nil => rw [hb] at hpos; simp at hpos
      | cons x t =>
        rw [hb] at hv
        rw [valB_cons t.length x t rfl] at hv
        have ht := valB_lt t.length t rfl
        simp only [List.getD_cons_zero, List.length_cons]
        rintro (⟨_, hx0⟩ | ⟨h88, hx1⟩)
        · rw [hx0, Nat.zero_mul, Nat.zero_add] at hv
          have h9 : (be n).length ≤ t.length := be_len t.length n (by omega)
          rw [hb, List.length_cons] at h9; omega
        · have : t.length = 7 := by omega
          rw [this] at hv
          have : 128 * 256 ^ 7 ≤ x.toNat * 256 ^ 7 := Nat.mul_le_mul_right _ hx1
          omega
end Go.Proofs.YtbdkenlkimiddaaDoor
namespace Go.Proofs.YtbdkenlkimiddaaDoor
open Go Go.Sse
set_option linter.unusedVariables false
set_option linter.unusedSimpArgs false
set_option maxRecDepth 10000
theorem bytes_back (b : Nat) (s : List UInt8) (a n : Nat) (h : Rdr.ok ⟨s, a, 0⟩) (hn : a + n ≤ s.length) :
    FnC Tryd.prog 51 [ptr b, int n] [rdO b ⟨s, a, 0⟩] (fun v L => v = str ((s.drop a).take n) ∧ L = [rdO b ⟨s, a + n, 0⟩]) := by
  have c := take_yes b ⟨s, a, 0⟩ n h hn
  simp only at c
  generalize (s.drop a).take n = t at *
  refine FnC.intro Tryd.func51 rfl Tryd.ntmps51 rfl fun Z w0 hG => ?_
  focus (
 (refine W.seq (W.region (Jx.assign rfl rfl (J.nil (N.seq (W.seq (W.seq (W.region (Jx.move rfl rfl (Jx.nilCheck rfl rfl ?_))))))))))
 (refine Jx.fieldAddr rfl rfl ?_)
 (refine Jx.load rfl 0 rfl rfl rfl ?_)
 (refine Jx.neqI rfl rfl rfl (J.nil (N.seq (W.cF rfl ?_))))
 (refine W.skip (N.seq (W.seq (W.seq (W.region (Jx.move rfl rfl (Jx.lssI rfl rfl rfl (J.nil (N.seq (W.cF rfl ?_))))))))))
 (refine W.skip (N.seq (W.seq (W.region (Jx.move rfl rfl (Jx.move rfl rfl ?_))))))
 (refine J.call (c) rfl (evs_args rfl) rfl ?_; rintro _ _ ⟨rfl, rfl⟩; simp only [la1, la2, la3])
 (refine Jx.move rfl rfl (Jx.extract rfl rfl rfl ?_))
 (refine Jx.extract rfl rfl rfl ?_)
 (refine Jx.assign rfl rfl (Jx.assign rfl rfl (J.nil (N.seq (W.seq (W.seq (W.region (Jx.move rfl rfl (Jx.not rfl rfl (J.nil (N.seq (W.cF rfl ?_))))))))))))
 (refine W.skip (N.seq (W.seq (W.region (Jx.move rfl rfl (Jx.assign rfl rfl (J.nil (N.seq (W.ret ?_)))))))))
 (refine id ?_; rotate_left))
  exact N.ret (rs := [.tmp 4]) rfl (.tmp rfl .nil) ⟨rfl, rfl⟩
theorem same_ok (l m : List (List UInt8)) (hb : l.length ≤ 1048576) : FnC Tryd.prog 34 [ssl l, ssl m] [] (fun v L => v = bool (decide (l = m)) ∧ L = []) := by
  by_cases hl : l.length = m.length
  · refine FnC.intro Tryd.func34 rfl Tryd.ntmps34 rfl fun Z w0 hG => ?_
    focus (
 (refine W.seq (W.region (Jx.assign rfl rfl (J.nil (N.seq (W.seq (W.region (Jx.move rfl rfl (Jx.lenSl rfl rfl ?_)))))))))
 (refine Jx.move rfl rfl (Jx.lenSl rfl rfl ?_))
 (refine Jx.eqlI rfl rfl rfl (Jx.assign rfl rfl (J.nil (N.seq (W.seq (W.seq (W.region (Jx.assign rfl rfl (J.nil (N.seq (W.block ?_)))))))))))
 (refine id ?_; rotate_left))
    refine W.loop (α := Nat × Bool) (fun x => [(6, int (x.1 : Int)), (5, bool x.2), (0, ssl l), (1, ssl m)]) (fun _ => []) (fun x => x.1 ≤ l.length ∧ (x.2 = true → l.take x.1 = m.take x.1) ∧ (x.2 = false → l ≠ m)) (fun x => l.length - x.1) (0, true) ⟨by omega, by simp, by simp⟩ rfl ⟨ref0 rfl, ⟨_, rfl, Sub.of_eq (by simp [hl])⟩, ref0 rfl, ref0 rfl, trivial⟩ ?_
    rintro ⟨i, q⟩ ⟨hi, h1, h2⟩
    simp only at hi h1 h2
    cases q with
    | false =>
      focus (
 (refine W.seq (W.seq (W.region (Jx.move rfl rfl (Jx.move rfl rfl (J.gN rfl rfl rfl rfl ?_))))))
 (refine J.gN rfl rfl rfl rfl ?_)
 (refine J.gN rfl rfl rfl rfl ?_)
 (refine J.gN rfl rfl rfl rfl ?_)
 (refine Jx.pF rfl rfl rfl ?_)
 (refine J.nil (N.seq (W.cF rfl ?_)))
 (refine W.exit (N.seq (W.seq (W.region (Jx.move rfl rfl (Jx.assign rfl rfl (J.nil (N.seq (W.ret ?_)))))))))
 (refine id ?_; rotate_left))
      exact N.ret (rs := [.tmp 4]) rfl (.tmp rfl .nil) ⟨by rw [decide_eq_false (h2 rfl)]; rfl, rfl⟩
    | true =>
      by_cases h3 : i < l.length
      · have h4 : i < m.length := by omega
        have e1 : l.take (i + 1) = l.take i ++ [l.getD i []] := by rw [List.take_add_one, List.getElem?_eq_getElem h3, List.getD_eq_getElem?_getD, List.getElem?_eq_getElem h3]; rfl
        have e2 : m.take (i + 1) = m.take i ++ [m.getD i []] := by rw [List.take_add_one, List.getElem?_eq_getElem h4, List.getD_eq_getElem?_getD, List.getElem?_eq_getElem h4]; rfl
        by_cases h5 : l.getD i [] = m.getD i []
        · focus (
 (refine W.seq (W.seq (W.region (Jx.move rfl rfl (Jx.move rfl rfl (J.gY rfl rfl rfl ?_))))))
 (refine Jx.move rfl rfl (J.gY rfl rfl rfl ?_))
 (refine Jx.move rfl rfl (J.gY rfl rfl rfl ?_))
 (refine Jx.lenSl rfl rfl ?_)
 (refine J.gY rfl rfl rfl ?_)
 (refine Jx.lssI rfl rfl rfl (Jx.pT rfl rfl rfl ?_))
 (refine J.nil (N.seq (W.cT rfl ?_)))
 (refine W.skip (N.seq (W.seq (W.block ?_))))
 (refine W.draw follows ?_)
 (refine JD.calm rfl (by decide +kernel) ?_)
 (refine Cx.move rfl rfl ?_)
 (refine Cx.move rfl rfl ?_)
 (refine Cx.indexEl rfl rfl (by assumption) rfl rfl ?_)
 (refine Cx.loadPP rfl rfl ?_)
 (refine Cx.move rfl rfl ?_)
 (refine Cx.move rfl rfl ?_)
 (refine Cx.indexEl rfl rfl (by assumption) rfl rfl ?_)
 (refine Cx.loadPP rfl rfl ?_)
 (refine Cx.eqlS rfl rfl rfl ?_)
 (refine Cx.assign rfl rfl ?_)
 (refine SegC.nil ?_)
 (refine N.seq (W.region (Jx.move rfl rfl (Jx.add64 rfl rfl (by omega) rfl ?_))))
 (refine Jx.assign rfl rfl (J.nil ?_))
 (refine id ?_; rotate_left))
          exact N.round (i + 1, true) ⟨h3, fun _ => by rw [e1, e2, h1 rfl, h5], by simp⟩ (by simp only; omega) rfl ⟨ref0 rfl, ⟨_, rfl, Sub.of_eq (by simp; simpa [List.getD_eq_getElem?_getD] using h5)⟩, ref0 rfl, ref0 rfl, trivial⟩
        · focus (
 (refine W.seq (W.seq (W.region (Jx.move rfl rfl (Jx.move rfl rfl (J.gY rfl rfl rfl ?_))))))
 (refine Jx.move rfl rfl (J.gY rfl rfl rfl ?_))
 (refine Jx.move rfl rfl (J.gY rfl rfl rfl ?_))
 (refine Jx.lenSl rfl rfl ?_)
 (refine J.gY rfl rfl rfl ?_)
 (refine Jx.lssI rfl rfl rfl (Jx.pT rfl rfl rfl ?_))
 (refine J.nil (N.seq (W.cT rfl ?_)))
 (refine W.skip (N.seq (W.seq (W.block ?_))))
 (refine W.draw follows ?_)
 (refine JD.calm rfl (by decide +kernel) ?_)
 (refine Cx.move rfl rfl ?_)
 (refine Cx.move rfl rfl ?_)
 (refine Cx.indexEl rfl rfl (by assumption) rfl rfl ?_)
 (refine Cx.loadPP rfl rfl ?_)
 (refine Cx.move rfl rfl ?_)
 (refine Cx.move rfl rfl ?_)
 (refine Cx.indexEl rfl rfl (by assumption) rfl rfl ?_)
 (refine Cx.loadPP rfl rfl ?_)
 (refine Cx.eqlS rfl rfl rfl ?_)
 (refine Cx.assign rfl rfl ?_)
 (refine SegC.nil ?_)
 (refine N.seq (W.region (Jx.move rfl rfl (Jx.add64 rfl rfl (by omega) rfl ?_))))
 (refine Jx.assign rfl rfl (J.nil ?_))
 (refine id ?_; rotate_left))
          exact N.round (i + 1, false) ⟨h3, by simp, fun _ e => h5 (by rw [e])⟩ (by simp only; omega) rfl ⟨ref0 rfl, ⟨_, rfl, Sub.of_eq (by simp; simpa [List.getD_eq_getElem?_getD] using h5)⟩, ref0 rfl, ref0 rfl, trivial⟩
      · have e := h1 rfl
        rw [List.take_of_length_le (by omega), List.take_of_length_le (by omega)] at e
        focus (
 (refine W.seq (W.seq (W.region (Jx.move rfl rfl (Jx.move rfl rfl (J.gY rfl rfl rfl ?_))))))
 (refine Jx.move rfl rfl (J.gY rfl rfl rfl ?_))
 (refine Jx.move rfl rfl (J.gY rfl rfl rfl ?_))
 (refine Jx.lenSl rfl rfl ?_)
 (refine J.gY rfl rfl rfl ?_)
 (refine Jx.lssI rfl rfl rfl (Jx.pT rfl rfl rfl ?_))
 (refine J.nil (N.seq (W.cF rfl ?_)))
 (refine W.exit (N.seq (W.seq (W.region (Jx.move rfl rfl (Jx.assign rfl rfl (J.nil (N.seq (W.ret ?_)))))))))
 (refine id ?_; rotate_left))
        exact N.ret (rs := [.tmp 4]) rfl (.tmp rfl .nil) ⟨by rw [decide_eq_true e]; rfl, rfl⟩
  · have hne : l ≠ m := fun e => hl (by rw [e])
    refine FnC.intro Tryd.func34 rfl Tryd.ntmps34 rfl fun Z w0 hG => ?_
    focus (
 (refine W.seq (W.region (Jx.assign rfl rfl (J.nil (N.seq (W.seq (W.region (Jx.move rfl rfl (Jx.lenSl rfl rfl ?_)))))))))
 (refine Jx.move rfl rfl (Jx.lenSl rfl rfl ?_))
 (refine Jx.eqlI rfl rfl rfl (Jx.assign rfl rfl (J.nil (N.seq (W.seq (W.seq (W.region (Jx.assign rfl rfl (J.nil (N.seq (W.block ?_)))))))))))
 (refine id ?_; rotate_left))
    refine W.loop (α := Unit) (fun x => [(5, bool false)]) (fun _ => []) (fun x => True) (fun x => 0) () trivial rfl ⟨⟨_, rfl, Sub.of_eq (by simp; omega)⟩, trivial⟩ ?_
    rintro _ _
    focus (
 (refine W.seq (W.seq (W.region (Jx.move rfl rfl (Jx.move rfl rfl (J.gN rfl rfl rfl rfl ?_))))))
 (refine J.gN rfl rfl rfl rfl ?_)
 (refine J.gN rfl rfl rfl rfl ?_)
 (refine J.gN rfl rfl rfl rfl ?_)
 (refine Jx.pF rfl rfl rfl ?_)
 (refine J.nil (N.seq (W.cF rfl ?_)))
 (refine W.exit (N.seq (W.seq (W.region (Jx.move rfl rfl (Jx.assign rfl rfl (J.nil (N.seq (W.ret ?_)))))))))
 (refine id ?_; rotate_left))
    exact N.ret (rs := [.tmp 4]) rfl (.tmp rfl .nil) ⟨by rw [decide_eq_false hne]; rfl, rfl⟩
end Go.Proofs.YtbdkenlkimiddaaDoor
namespace Go.Proofs.YtbdkenlkimiddaaDoor
open Go Go.Sse
set_option linter.unusedVariables false
set_option linter.unusedSimpArgs false
set_option maxRecDepth 10000
end Go.Proofs.YtbdkenlkimiddaaDoor
namespace Go.Proofs.YtbdkenlkimiddaaDoor
open Go Go.Sse
set_option linter.unusedVariables false
set_option linter.unusedSimpArgs false
set_option maxRecDepth 10000
abbrev PSt := Option (List UInt8)
def numP : PSt → Nat × PSt
  | none => (0, none)
  | some l => if (readN l).2.2 = 0 then ((readN l).1, some (l.drop (readN l).2.1)) else (0, none)
def bytesP (n : Nat) : PSt → List UInt8 × PSt
  | none => ([], none)
  | some l => if n ≤ l.length then (l.take n, some (l.drop n)) else ([], none)
def textP (m : Int) (st : PSt) : List UInt8 × PSt :=
  match numP st with
  | (n, some r) => if (n : Int) ≤ m then bytesP n (some r) else ([], none)
  | (_, none) => ([], none)
def textsP (e : Int) : Nat → PSt → List (List UInt8) × PSt
  | 0, st => ([], st)
  | n + 1, st => match textP e st with
    | (t, some r) => (match textsP e n (some r) with
      | (ts, some q) => (t :: ts, some q)
      | (_, none) => ([], none))
    | (_, none) => ([], none)
def listP (m e : Int) (st : PSt) : List (List UInt8) × PSt :=
  match numP st with
  | (n, some r) => if (n : Int) ≤ m then textsP e n (some r) else ([], none)
  | (_, none) => ([], none)
theorem numP_good {st : PSt} {n : Nat} {r : List UInt8} (h : numP st = (n, some r)) : st = some (numB n ++ r) ∧ n < 9223372036854775808 := by
  cases st with
  | none => simp [numP] at h
  | some l =>
    simp only [numP] at h
    by_cases he : (readN l).2.2 = 0
    · rw [if_pos he] at h
      obtain ⟨g1, g2, g3⟩ := readN_good he
      simp only [Prod.mk.injEq, Option.some.injEq] at h
      obtain ⟨rfl, rfl⟩ := h
      exact ⟨by rw [← g1, List.take_append_drop], g3⟩
    · rw [if_neg he] at h; simp at h
theorem numP_back (n : Nat) (hn : n < 9223372036854775808) (r : List UInt8) : numP (some (numB n ++ r)) = (n, some r) := by
  simp only [numP, readN_num n hn r, if_pos, List.drop_append_of_le_length (Nat.le_refl _), List.drop_length, List.nil_append]
theorem bytesP_good {st : PSt} {n : Nat} {t r : List UInt8} (h : bytesP n st = (t, some r)) : st = some (t ++ r) ∧ t.length = n := by
  cases st with
  | none => simp [bytesP] at h
  | some l =>
    simp only [bytesP] at h
    by_cases he : n ≤ l.length
    · rw [if_pos he] at h
      simp only [Prod.mk.injEq, Option.some.injEq] at h
      obtain ⟨rfl, rfl⟩ := h
      exact ⟨by rw [List.take_append_drop], by rw [List.length_take]; omega⟩
    · rw [if_neg he] at h; simp at h
theorem bytesP_back (t r : List UInt8) : bytesP t.length (some (t ++ r)) = (t, some r) := by
  simp [bytesP]
theorem textP_good {m : Int} {st : PSt} {t r : List UInt8} (h : textP m st = (t, some r)) : st = some (textB t ++ r) ∧ (t.length : Int) ≤ m ∧ t.length < 9223372036854775808 := by
  unfold textP at h
  split at h
  · rename_i n q hq
    obtain ⟨g1, g2⟩ := numP_good hq
    split at h
    · rename_i hm
      obtain ⟨g3, g4⟩ := bytesP_good h
      subst g4
      simp only [Option.some.injEq] at g3
      subst g3
      exact ⟨by rw [g1, textB, List.append_assoc], hm, g2⟩
    · simp at h
  · simp at h
theorem textP_back {m : Int} (t r : List UInt8) (h : (t.length : Int) ≤ m) (h2 : t.length < 9223372036854775808) : textP m (some (textB t ++ r)) = (t, some r) := by
  unfold textP
  rw [textB, List.append_assoc, numP_back _ h2]
  simp only [h, if_true]
  exact bytesP_back t r
theorem textsP_good {e : Int} : ∀ {n : Nat} {st : PSt} {l : List (List UInt8)} {r : List UInt8}, textsP e n st = (l, some r) → st = some ((l.map textB).flatten ++ r) ∧ l.length = n ∧ (∀ t ∈ l, (t.length : Int) ≤ e ∧ t.length < 9223372036854775808)
  | 0, st, l, r, h => by
    simp only [textsP, Prod.mk.injEq] at h
    obtain ⟨rfl, rfl⟩ := h
    exact ⟨rfl, rfl, by simp⟩
  | n + 1, st, l, r, h => by
    simp only [textsP] at h
    split at h
    · rename_i t q hq
      split at h
      · rename_i ts q2 hq2
        simp only [Prod.mk.injEq, Option.some.injEq] at h
        obtain ⟨rfl, rfl⟩ := h
        obtain ⟨g1, g2, g3⟩ := textP_good hq
        obtain ⟨g4, g5, g6⟩ := textsP_good hq2
        simp only [Option.some.injEq] at g4
        subst g4
        refine ⟨by rw [g1]; simp only [List.map_cons, List.flatten_cons, List.append_assoc], by simp [g5], ?_⟩
        intro u hu
        rcases List.mem_cons.1 hu with rfl | hu
        · exact ⟨g2, g3⟩
        · exact g6 u hu
      · simp at h
    · simp at h
theorem textsP_back {e : Int} : ∀ (l : List (List UInt8)) (r : List UInt8), (∀ t ∈ l, (t.length : Int) ≤ e ∧ t.length < 9223372036854775808) → textsP e l.length (some ((l.map textB).flatten ++ r)) = (l, some r)
  | [], r, _ => rfl
  | t :: l, r, h => by
    simp only [List.map_cons, List.flatten_cons, List.append_assoc, List.length_cons, textsP]
    have h0 := h t (List.mem_cons_self ..)
    rw [textP_back t _ h0.1 h0.2]
    simp only
    rw [textsP_back l r fun u hu => h u (List.mem_cons_of_mem _ hu)]
theorem textsP_short {e : Int} : ∀ {n : Nat} {st : PSt} {l : List (List UInt8)}, textsP e n st = (l, none) → l = []
  | 0, st, l, h => by simp only [textsP, Prod.mk.injEq] at h; exact h.1.symm
  | n + 1, st, l, h => by
    simp only [textsP] at h
    split at h
    · split at h
      · simp at h
      · simp only [Prod.mk.injEq] at h; exact h.1.symm
    · simp only [Prod.mk.injEq] at h; exact h.1.symm
theorem listP_good {m e : Int} {st : PSt} {l : List (List UInt8)} {r : List UInt8} (h : listP m e st = (l, some r)) : st = some (listB l ++ r) ∧ (l.length : Int) ≤ m ∧ l.length < 9223372036854775808 ∧ (∀ t ∈ l, (t.length : Int) ≤ e ∧ t.length < 9223372036854775808) := by
  unfold listP at h
  split at h
  · rename_i n q hq
    obtain ⟨g1, g2⟩ := numP_good hq
    split at h
    · rename_i hm
      obtain ⟨g3, g4, g5⟩ := textsP_good h
      subst g4
      simp only [Option.some.injEq] at g3
      subst g3
      exact ⟨by rw [g1, listB, List.append_assoc], hm, g2, g5⟩
    · simp at h
  · simp at h
theorem listP_back {m e : Int} (l : List (List UInt8)) (r : List UInt8) (hm : (l.length : Int) ≤ m) (h2 : l.length < 9223372036854775808) (h : ∀ t ∈ l, (t.length : Int) ≤ e ∧ t.length < 9223372036854775808) : listP m e (some (listB l ++ r)) = (l, some r) := by
  unfold listP
  rw [listB, List.append_assoc, numP_back _ h2]
  simp only [hm, if_true]
  exact textsP_back l r h
theorem bytesP_none (n : Nat) : bytesP n none = ([], none) := rfl
end Go.Proofs.YtbdkenlkimiddaaDoor
namespace Go.Proofs.YtbdkenlkimiddaaDoor
open Go Go.Sse
set_option linter.unusedVariables false
set_option linter.unusedSimpArgs false
set_option maxRecDepth 10000
abbrev Bt := List (List UInt8)
def okB (b : Bt) : Bool := decide (b.length ≤ 1024) && (b.all (fun s => decide (s.length ≤ 65536)) && decide ((listB b).length ≤ 524288))
theorem okB_iff (b : Bt) : okB b = true ↔ b.length ≤ 1024 ∧ (∀ s ∈ b, s.length ≤ 65536) ∧ (listB b).length ≤ 524288 := by
  unfold okB; simp only [Bool.and_eq_true, decide_eq_true_eq, List.all_eq_true]
def bodB (b : Bt) : List UInt8 := textB (listB b)
def sum4 (l : List UInt8) : List UInt8 := (Sha.shaS l).take 4
theorem sum4_len (l : List UInt8) : (sum4 l).length = 4 := by rw [sum4, List.length_take, Sha.shaS_len]; rfl
def recB (b : Bt) : List UInt8 := bodB b ++ sum4 (bodB b)
theorem recB_len (b : Bt) : (recB b).length = (bodB b).length + 4 := by rw [recB, List.length_append, sum4_len]
def recR (b : Bt) : List UInt8 × Int := if okB b = true then (recB b, 0) else ([], 2)
theorem bod_len {b : Bt} (h : okB b = true) : (bodB b).length ≤ 524297 ∧ 0 < (bodB b).length := by
  have h1 := ((okB_iff b).1 h).2.2
  have := numB_len (n := (listB b).length) (by omega)
  rw [bodB, textB, List.length_append]; omega
theorem rec_len {b : Bt} (h : okB b = true) : (recB b).length ≤ 524301 ∧ 4 < (recB b).length := by
  have := bod_len h; rw [recB_len]; omega
def nextP (s : List UInt8) : Option (Bt × Nat) :=
  match textP 524288 (some s) with
  | (_, none) => none
  | (list, some r) => if r.length < 4 then none else if sum4 (textB list) = r.take 4 then
      (match listP 1024 65536 (some list) with
      | (b, some []) => some (b, (textB list).length + 4)
      | _ => none) else none
theorem nextP_some {s : List UInt8} {b : Bt} {n : Nat} (h : nextP s = some (b, n)) : okB b = true ∧ n = (recB b).length ∧ ∃ r, s = recB b ++ r := by
  unfold nextP at h
  split at h
  · cases h
  · rename_i list r ht
    obtain ⟨g1, g2, g3⟩ := textP_good ht
    split at h
    · cases h
    · rename_i h4
      split at h
      · rename_i hs
        split at h
        · rename_i b' hl
          simp only [Option.some.injEq, Prod.mk.injEq] at h
          obtain ⟨rfl, rfl⟩ := h
          obtain ⟨e1, e2, e3, e4⟩ := listP_good hl
          simp only [Option.some.injEq, List.append_nil] at e1 g1
          subst e1
          refine ⟨(okB_iff _).2 ⟨by omega, fun s hs => by have := (e4 s hs).1; omega, by omega⟩, by rw [recB_len]; rfl, r.drop 4, ?_⟩
          rw [g1, recB, bodB, hs, List.append_assoc, List.take_append_drop]
        · cases h
      · cases h
theorem nextP_rec {b : Bt} (h : okB b = true) (r : List UInt8) : nextP (recB b ++ r) = some (b, (recB b).length) := by
  obtain ⟨h1, h2, h3⟩ := (okB_iff b).1 h
  have e : recB b ++ r = textB (listB b) ++ (sum4 (bodB b) ++ r) := by rw [recB, bodB, List.append_assoc]
  have ht := textP_back (m := 524288) (listB b) (sum4 (bodB b) ++ r) (by omega) (by omega)
  have hl := listP_back (m := 1024) (e := 65536) b [] (by omega) (by omega) (fun t ht => by have := h2 t ht; omega)
  rw [List.append_nil] at hl
  have h4 : ¬ (sum4 (bodB b) ++ r).length < 4 := by rw [List.length_append, sum4_len]; omega
  have h5 : sum4 (textB (listB b)) = (sum4 (bodB b) ++ r).take 4 := by
    rw [List.take_append_of_le_length (by rw [sum4_len]; omega), List.take_of_length_le (by rw [sum4_len]; omega), bodB]
  unfold nextP
  rw [e, ht]
  simp only
  rw [if_neg h4, if_pos h5, hl]
  simp only
  rw [recB_len, bodB]
theorem rec_same {b c : Bt} (hb : okB b = true) (hc : okB c = true) {r q : List UInt8} (h : recB b ++ r = recB c ++ q) : b = c ∧ r = q := by
  have h1 := nextP_rec hb r
  rw [h, nextP_rec hc q] at h1
  simp only [Option.some.injEq, Prod.mk.injEq] at h1
  obtain ⟨rfl, _⟩ := h1
  exact ⟨rfl, List.append_cancel_left h⟩
theorem nextP_cut {b : Bt} (hb : okB b = true) (r : List UInt8) {k : Nat} (hk : k < (recB b).length) : nextP ((recB b ++ r).take k) = none := by
  cases hn : nextP ((recB b ++ r).take k) with
  | none => rfl
  | some p =>
    obtain ⟨c, n⟩ := p
    obtain ⟨h1, h2, q, h3⟩ := nextP_some hn
    have e : recB b ++ r = recB c ++ (q ++ (recB b ++ r).drop k) := by rw [← List.append_assoc, ← h3, List.take_append_drop]
    obtain ⟨rfl, _⟩ := rec_same hb h1 e
    have := congrArg List.length h3
    simp only [List.length_take, List.length_append] at this
    omega
def scanF : Nat → List UInt8 → List Bt × Nat
  | 0, _ => ([], 0)
  | f + 1, s => match nextP s with
    | none => ([], 0)
    | some (b, n) => (b :: (scanF f (s.drop n)).1, n + (scanF f (s.drop n)).2)
def scanP (s : List UInt8) : List Bt × Nat := scanF (s.length + 1) s
theorem nextP_le {s : List UInt8} {b : Bt} {n : Nat} (h : nextP s = some (b, n)) : 4 < n ∧ n ≤ s.length := by
  obtain ⟨h1, h2, r, h3⟩ := nextP_some h
  have := rec_len h1
  have h4 := congrArg List.length h3
  simp only [List.length_append] at h4
  omega
theorem scanF_more : ∀ (f g : Nat) (s : List UInt8), s.length < f → s.length < g → scanF f s = scanF g s
  | 0, _, s, h, _ => by omega
  | _ + 1, 0, s, _, h => by omega
  | f + 1, g + 1, s, h1, h2 => by
    unfold scanF
    cases hn : nextP s with
    | none => rfl
    | some p =>
      obtain ⟨b, n⟩ := p
      have := nextP_le hn
      simp only
      rw [scanF_more f g (s.drop n) (by simp; omega) (by simp; omega)]
theorem scanP_none {s : List UInt8} (h : nextP s = none) : scanP s = ([], 0) := by
  unfold scanP scanF; rw [h]
theorem scanP_some {s : List UInt8} {b : Bt} {n : Nat} (h : nextP s = some (b, n)) : scanP s = (b :: (scanP (s.drop n)).1, n + (scanP (s.drop n)).2) := by
  have := nextP_le h
  have e := scanF_more s.length ((s.drop n).length + 1) (s.drop n) (by simp; omega) (by simp)
  unfold scanP
  rw [scanF, h]
  simp only
  rw [e]
def recsB (l : List Bt) : List UInt8 := (l.map recB).flatten
theorem recsB_cons (b : Bt) (l : List Bt) : recsB (b :: l) = recB b ++ recsB l := by simp [recsB]
theorem recsB_append (l m : List Bt) : recsB (l ++ m) = recsB l ++ recsB m := by simp [recsB]
theorem scanP_recs : ∀ (l : List Bt), (∀ b ∈ l, okB b = true) → ∀ r, scanP (recsB l ++ r) = (l ++ (scanP r).1, (recsB l).length + (scanP r).2)
  | [], _, r => by simp [recsB]
  | b :: l, h, r => by
    have hb := h b (List.mem_cons_self ..)
    have ih := scanP_recs l (fun c hc => h c (List.mem_cons_of_mem _ hc)) r
    have hn := nextP_rec hb (recsB l ++ r)
    rw [recsB_cons, List.append_assoc, scanP_some hn, List.drop_append_of_le_length (by omega), List.drop_length, List.nil_append, ih]
    simp only [List.cons_append, List.length_append]
    rw [Nat.add_assoc]
theorem scanP_spec (s : List UInt8) : ∃ r, s = recsB (scanP s).1 ++ r ∧ (scanP s).2 = (recsB (scanP s).1).length ∧ (∀ b ∈ (scanP s).1, okB b = true) ∧ nextP r = none := by
  suffices H : ∀ (n : Nat) (s : List UInt8), s.length ≤ n → ∃ r, s = recsB (scanP s).1 ++ r ∧ (scanP s).2 = (recsB (scanP s).1).length ∧ (∀ b ∈ (scanP s).1, okB b = true) ∧ nextP r = none from H s.length s (Nat.le_refl _)
  intro n
  induction n with
  | zero =>
    intro s hs
    cases hn : nextP s with
    | none => rw [scanP_none hn]; exact ⟨s, rfl, rfl, fun b hb => by simp at hb, hn⟩
    | some p => obtain ⟨b, m⟩ := p; have := nextP_le hn; omega
  | succ n ih =>
    intro s hs
    cases hn : nextP s with
    | none => rw [scanP_none hn]; exact ⟨s, rfl, rfl, fun b hb => by simp at hb, hn⟩
    | some p =>
      obtain ⟨b, m⟩ := p
      have hm := nextP_le hn
      obtain ⟨h1, h2, q, h3⟩ := nextP_some hn
      obtain ⟨r, e1, e2, e3, e4⟩ := ih (s.drop m) (by simp; omega)
      rw [scanP_some hn]
      have hd : s.drop m = q := by rw [h3, h2, List.drop_append_of_le_length (by omega), List.drop_length, List.nil_append]
      refine ⟨r, ?_, ?_, fun c hc => ?_, e4⟩
      · simp only
        rw [recsB_cons, List.append_assoc, ← e1, hd]; exact h3
      · simp only
        rw [recsB_cons, List.length_append, e2, h2]
      · rcases List.mem_cons.1 hc with rfl | hc
        · exact h1
        · exact e3 c hc
theorem nextP_nil : nextP [] = none := by
  cases h : nextP [] with
  | none => rfl
  | some p => obtain ⟨b, n⟩ := p; have := nextP_le h; simp at this; omega
theorem scanP_nil : scanP [] = ([], 0) := scanP_none nextP_nil
theorem scanP_all {l : List Bt} (h : ∀ b ∈ l, okB b = true) : scanP (recsB l) = (l, (recsB l).length) := by
  have := scanP_recs l h []
  rw [List.append_nil, scanP_nil] at this
  simpa using this
theorem scanP_part {l : List Bt} (h : ∀ b ∈ l, okB b = true) {r : List UInt8} (hr : nextP r = none) : scanP (recsB l ++ r) = (l, (recsB l).length) := by
  rw [scanP_recs l h, scanP_none hr]; simp
theorem whole_le (s : List UInt8) : (scanP s).2 ≤ s.length := by
  obtain ⟨r, h1, h2, _⟩ := scanP_spec s
  have := congrArg List.length h1
  simp only [List.length_append] at this
  omega
end Go.Proofs.YtbdkenlkimiddaaDoor
namespace Go.Proofs.YtbdkenlkimiddaaDoor
open Go Go.Sse
set_option linter.unusedVariables false
set_option linter.unusedSimpArgs false
set_option maxRecDepth 10000
theorem getD_memB {b : Bt} {i : Nat} (h : i < b.length) : b.getD i [] ∈ b := by rw [List.getD_eq_getElem?_getD, List.getElem?_eq_getElem h]; exact List.getElem_mem _
theorem recR_no {b : Bt} (h : ¬ okB b = true) : recR b = ([], 2) := by rw [recR, if_neg h]
theorem recR_yes {b : Bt} (h : okB b = true) : recR b = (recB b, 0) := by rw [recR, if_pos h]
set_option maxHeartbeats 4000000 in
theorem Record_ok (b : Bt) : FnC Tryd.prog 29 [ssl b] [] (fun r L => r = .tup [str (recR b).1, int (recR b).2] ∧ L = []) := by
  by_cases h1 : 1024 < (b.length : Int)
  · rw [recR_no (fun h => by have := ((okB_iff b).1 h).1; omega)]
    refine FnC.intro Tryd.func29 rfl Tryd.ntmps29 rfl fun Z w0 hG => ?_
    focus (
 (refine W.seq (W.region (Jx.assign rfl rfl (Jx.assign rfl rfl (J.nil (N.seq (W.seq (W.seq (W.region (Jx.move rfl rfl (Jx.lenSl rfl rfl ?_)))))))))))
 (refine Jx.gtrI rfl rfl rfl (J.nil (N.seq (W.cT rfl ?_))))
 (refine W.seq (W.region (Jx.assign rfl rfl (Jx.assign rfl rfl (J.nil (N.seq (W.ret (N.noGotoRet ?_))))))))
 (refine id ?_; rotate_left))
    exact N.ret (rs := [.tmp 2, .tmp 3]) rfl (.tmp rfl (.tmp rfl .nil)) ⟨rfl, rfl⟩
  · refine FnC.intro Tryd.func29 rfl Tryd.ntmps29 rfl fun Z w0 hG => ?_
    focus (
 (refine W.seq (W.region (Jx.assign rfl rfl (Jx.assign rfl rfl (J.nil (N.seq (W.seq (W.seq (W.region (Jx.move rfl rfl (Jx.lenSl rfl rfl ?_)))))))))))
 (refine Jx.gtrI rfl rfl rfl (J.nil (N.seq (W.cF rfl ?_))))
 (refine W.skip (N.seq (W.seq (W.seq (W.region (Jx.move rfl rfl (Jx.lenSl rfl rfl ?_)))))))
 (refine Jx.move rfl rfl (J.nil (N.seq (W.block ?_))))
 (refine id ?_; rotate_left))
    refine W.loop (α := Nat) (fun i => [(13, int (i : Int)), (12, int (b.length : Int)), (11, ssl b), (0, ssl b)]) (fun _ => []) (fun i => i ≤ b.length ∧ ∀ s ∈ b.take i, s.length ≤ 65536) (fun i => b.length - i) 0 ⟨by simp, by simp⟩ rfl ⟨ref0 rfl, ref0 rfl, ref0 rfl, ref0 rfl, trivial⟩ ?_
    rintro i ⟨hi, hs⟩
    by_cases h2 : i < b.length
    · by_cases h3 : 65536 < ((b.getD i []).length : Int)
      · rw [recR_no (fun h => by have := ((okB_iff b).1 h).2.1 _ (getD_memB h2); omega)]
        focus (
 (refine W.seq (W.region (Jx.lssI rfl rfl rfl (J.nil (N.seq (W.seq (W.cT rfl ?_)))))))
 (refine W.skip (N.seq (W.seq (W.block (W.seq (W.region (Jx.indexEl rfl rfl (by assumption) rfl rfl ?_)))))))
 (refine Jx.loadPP rfl rfl ?_)
 (refine Jx.assign rfl rfl (J.nil (N.seq (W.seq (W.region (Jx.move rfl rfl (Jx.lenS rfl rfl ?_)))))))
 (refine Jx.gtrI rfl rfl rfl (J.nil (N.seq (W.cT rfl ?_))))
 (refine W.seq (W.region (Jx.assign rfl rfl (Jx.assign rfl rfl (J.nil (N.seq (W.ret (N.noGotoRet (N.noGotoRet (N.noGotoRet (N.noGotoRet (N.noGotoRet ?_))))))))))))
 (refine id ?_; rotate_left))
        exact N.ret (rs := [.tmp 2, .tmp 3]) rfl (.tmp rfl (.tmp rfl .nil)) ⟨rfl, rfl⟩
      · focus (
 (refine W.seq (W.region (Jx.lssI rfl rfl rfl (J.nil (N.seq (W.seq (W.cT rfl ?_)))))))
 (refine W.skip (N.seq (W.seq (W.block (W.seq (W.region (Jx.indexEl rfl rfl (by assumption) rfl rfl ?_)))))))
 (refine Jx.loadPP rfl rfl ?_)
 (refine Jx.assign rfl rfl (J.nil (N.seq (W.seq (W.region (Jx.move rfl rfl (Jx.lenS rfl rfl ?_)))))))
 (refine Jx.gtrI rfl rfl rfl (J.nil (N.seq (W.cF rfl ?_))))
 (refine W.skip (N.seq (W.region (Jx.add64 rfl rfl (by omega) rfl ?_))))
 (refine Jx.move rfl rfl (J.nil ?_))
 (refine id ?_; rotate_left))
        exact N.round (i + 1) ⟨h2, fun s hm => by
          rw [List.take_add_one, List.getElem?_eq_getElem h2] at hm
          rcases List.mem_append.1 hm with hm | hm
          · exact hs s hm
          · simp only [Option.toList_some, List.mem_singleton] at hm
            have : b.getD i [] = b[i] := by rw [List.getD_eq_getElem?_getD, List.getElem?_eq_getElem h2]; rfl
            rw [hm, ← this]; omega⟩ (by omega) rfl ⟨ref0 rfl, ref0 rfl, ref0 rfl, ref0 rfl, trivial⟩
    · obtain rfl : i = b.length := by omega
      rw [List.take_of_length_le (Nat.le_refl _)] at hs
      have c1 := list_ok b (by omega) (fun s hm => by have := hs s hm; omega)
      by_cases h4 : 524288 < ((listB b).length : Int)
      · rw [recR_no (fun h => by have := ((okB_iff b).1 h).2.2; omega)]
        focus (
 (refine W.seq (W.region (Jx.lssI rfl rfl rfl (J.nil (N.seq (W.seq (W.cF rfl ?_)))))))
 (refine W.exit (N.seq (W.seq (W.region (Jx.move rfl rfl ?_)))))
 (refine J.call (c1) rfl (evs_args rfl) rfl ?_; rintro _ _ ⟨rfl, rfl⟩; simp only [la1, la2, la3])
 (refine Jx.assign rfl rfl (J.nil (N.seq (W.seq (W.seq (W.region (Jx.move rfl rfl (Jx.lenS rfl rfl ?_))))))))
 (refine Jx.gtrI rfl rfl rfl (J.nil (N.seq (W.cT rfl ?_))))
 (refine W.seq (W.region (Jx.assign rfl rfl (Jx.assign rfl rfl (J.nil (N.seq (W.ret (N.noGotoRet ?_))))))))
 (refine id ?_; rotate_left))
        exact N.ret (rs := [.tmp 2, .tmp 3]) rfl (.tmp rfl (.tmp rfl .nil)) ⟨rfl, rfl⟩
      · have hok : okB b = true := (okB_iff b).2 ⟨by omega, hs, by omega⟩
        have c2 := text_ok (listB b) (by omega)
        have hbl := bod_len hok
        rw [show textB (listB b) = bodB b from rfl] at c2
        have c3 := Sha.hsum_ok (bodB b) (by omega)
        have h32 := Sha.shaS_len (bodB b)
        rw [recR_yes hok]
        have e : recB b = bodB b ++ (Sha.shaS (bodB b)).take (4 : Int).toNat := rfl
        rw [e]
        have h4l : ((Sha.shaS (bodB b)).take (4 : Int).toNat).length ≤ 4 := by rw [List.length_take]; omega
        generalize Sha.shaS (bodB b) = sh at *
        focus (
 (refine W.seq (W.region (Jx.lssI rfl rfl rfl (J.nil (N.seq (W.seq (W.cF rfl ?_)))))))
 (refine W.exit (N.seq (W.seq (W.region (Jx.move rfl rfl ?_)))))
 (refine J.call (c1) rfl (evs_args rfl) rfl ?_; rintro _ _ ⟨rfl, rfl⟩; simp only [la1, la2, la3])
 (refine Jx.assign rfl rfl (J.nil (N.seq (W.seq (W.seq (W.region (Jx.move rfl rfl (Jx.lenS rfl rfl ?_))))))))
 (refine Jx.gtrI rfl rfl rfl (J.nil (N.seq (W.cF rfl ?_))))
 (refine W.skip (N.seq (W.seq (W.region (Jx.move rfl rfl ?_)))))
 (refine J.call (c2) rfl (evs_args rfl) rfl ?_; rintro _ _ ⟨rfl, rfl⟩; simp only [la1, la2, la3])
 (refine Jx.assign rfl rfl (J.nil (N.seq (W.seq (W.region (Jx.move rfl rfl (Jx.move rfl rfl ?_)))))))
 (refine J.call (c3) rfl (evs_args rfl) rfl ?_; rintro _ _ ⟨rfl, rfl⟩; simp only [la1, la2, la3])
 (refine Jx.sliceSh rfl rfl (by decide) (by rw [h32]; decide) rfl ?_)
 (refine Jx.cat rfl rfl (by first | omega | (simp only [List.length_append, List.length_cons, List.length_nil]; omega)) rfl ?_)
 (refine Jx.assign rfl rfl (Jx.assign rfl rfl (J.nil (N.seq (W.ret ?_)))))
 (refine id ?_; rotate_left))
        exact N.ret (rs := [.tmp 2, .tmp 3]) rfl (.tmp rfl (.tmp rfl .nil)) ⟨rfl, rfl⟩
end Go.Proofs.YtbdkenlkimiddaaDoor
namespace Go.Proofs.YtbdkenlkimiddaaDoor
open Go Go.Sse
set_option linter.unusedVariables false
set_option linter.unusedSimpArgs false
set_option maxRecDepth 10000
def lf (s : List UInt8) (a : Nat) (c : Int) : PSt := if c = 0 then some (s.drop a) else none
theorem lf_ok {s : List UInt8} {a : Nat} : lf s a 0 = some (s.drop a) := rfl
theorem lf_no {s : List UInt8} {a : Nat} {c : Int} (h : c ≠ 0) : lf s a c = none := if_neg h
theorem lf_none {s : List UInt8} {a : Nat} {c : Int} (h : lf s a c = none) : c ≠ 0 := fun e => by subst e; simp [lf] at h
theorem rd_number (b : Nat) (s : List UInt8) (a : Nat) (c : Int) (h1 : a ≤ s.length) (h2 : s.length ≤ 1099511627776) :
    FnC Tryd.prog 67 [ptr b] [rdO b ⟨s, a, c⟩] (fun v L => ∃ (n : Nat) (e : Int) (a' : Nat), v = .tup [int (n : Int), int e] ∧ L = [rdO b ⟨s, a', c⟩] ∧ n < 9223372036854775808 ∧
      (e = 0 → c = 0 ∧ a' ≤ s.length ∧ numP (lf s a c) = (n, some (s.drop a'))) ∧ (e ≠ 0 → numP (lf s a c) = (0, none)) ∧ (c ≠ 0 → a' ≤ s.length)) := by
  by_cases hc : c = 0
  · subst hc
    by_cases he : (readN (s.drop a)).2.2 = 0
    · refine (number_good b ⟨s, a, 0⟩ ⟨h1, h2⟩ rfl he).mono ?_
      rintro v L ⟨⟨s', a', c'⟩, ⟨rfl, hs', hc', ha'⟩, rfl⟩
      simp only at hs' hc' ha'
      obtain ⟨g1, g2, g3⟩ := readN_good he
      have hx := ha' he
      subst hs' hc' hx
      rw [List.length_drop] at g2
      refine ⟨_, _, _, rfl, rfl, g3, fun _ => ⟨rfl, by omega, ?_⟩, fun h => absurd he h, fun h => absurd rfl h⟩
      simp only [numP, lf, if_true, if_pos he, List.drop_drop]
    · refine (number_bad b ⟨s, a, 0⟩ ⟨h1, h2⟩ rfl he).mono ?_
      rintro v L ⟨⟨s', a', c'⟩, ⟨rfl, hs', hc', ha'⟩, rfl⟩
      simp only at hs' hc' ha'
      subst hs' hc'
      have hn : (readN (s'.drop a)).1 = 0 := by
        have : ∀ l, (readN l).2.2 ≠ 0 → (readN l).1 = 0 := fun l hl => by
          cases l with
          | nil => rfl
          | cons x t =>
            simp only [readN] at hl ⊢
            split
            · rfl
            · split
              · rfl
              · split
                · rfl
                · rename_i q1 q2 q3; rw [if_neg q1, if_neg q2, if_neg q3] at hl; exact absurd rfl hl
        exact this _ he
      refine ⟨_, _, _, rfl, rfl, by simp only [hn]; omega, fun h => absurd h he, fun _ => ?_, fun h => absurd rfl h⟩
      simp only [numP, lf, if_true, if_neg he]
  · refine (number_code b ⟨s, a, c⟩ hc).mono ?_
    rintro v L ⟨rfl, rfl⟩
    exact ⟨0, c, a, rfl, rfl, by omega, fun h => absurd h hc, fun _ => by rw [lf_no hc]; rfl, fun _ => h1⟩
theorem rd_refuse (b : Nat) (s : List UInt8) (a : Nat) (c : Int) (n : Nat) (e : Int) (h1 : n ≤ s.length) (he : e ≠ 0) (ha : c ≠ 0 → a ≤ s.length) :
    FnC Tryd.prog 65 [ptr b, int (n : Int), int e] [rdO b ⟨s, a, c⟩] (fun v L => ∃ (a' : Nat) (c' : Int), L = [rdO b ⟨s, a', c'⟩] ∧ a' ≤ s.length ∧ c' ≠ 0) := by
  refine (refused_ok b ⟨s, a, c⟩ n e).mono ?_
  rintro v L rfl
  by_cases hc : c = 0
  · subst hc
    exact ⟨n, e, rfl, h1, he⟩
  · exact ⟨a, c, by simp only [Rdr.refuse, if_neg hc], ha hc, hc⟩
theorem rd_Bytes (b : Nat) (s : List UInt8) (a : Nat) (c : Int) (n : Nat) (h1 : a ≤ s.length) (h2 : s.length ≤ 1099511627776) :
    FnC Tryd.prog 51 [ptr b, int (n : Int)] [rdO b ⟨s, a, c⟩] (fun v L => ∃ (t : List UInt8) (a' : Nat) (c' : Int), v = str t ∧ L = [rdO b ⟨s, a', c'⟩] ∧ a' ≤ s.length ∧ bytesP n (lf s a c) = (t, lf s a' c')) := by
  by_cases hc : c = 0
  · subst hc
    by_cases hn : a + n ≤ s.length
    · refine (bytes_back b s a n ⟨h1, h2⟩ hn).mono ?_
      rintro v L ⟨rfl, rfl⟩
      exact ⟨_, _, _, rfl, rfl, hn, by simp only [bytesP, lf, if_true, List.length_drop, List.drop_drop]; rw [if_pos (by omega)]⟩
    · have c1 := take_no b ⟨s, a, 0⟩ n ⟨h1, h2⟩ (by simp only; omega)
      have c2 := rd_refuse b s a 0 a 20 h1 (by decide) (by intro h; exact absurd rfl h)
      refine FnC.intro Tryd.func51 rfl Tryd.ntmps51 rfl fun Z w0 hG => ?_
      focus (
 (refine W.seq (W.region (Jx.assign rfl rfl (J.nil (N.seq (W.seq (W.seq (W.region (Jx.move rfl rfl (Jx.nilCheck rfl rfl ?_))))))))))
 (refine Jx.fieldAddr rfl rfl ?_)
 (refine Jx.load rfl 0 rfl rfl rfl ?_)
 (refine Jx.neqI rfl rfl rfl (J.nil (N.seq (W.cF rfl ?_))))
 (refine W.skip (N.seq (W.seq (W.seq (W.region (Jx.move rfl rfl (Jx.lssI rfl rfl rfl (J.nil (N.seq (W.cF rfl ?_))))))))))
 (refine W.skip (N.seq (W.seq (W.region (Jx.move rfl rfl (Jx.move rfl rfl ?_))))))
 (refine J.call (c1) rfl (evs_args rfl) rfl ?_; rintro _ _ ⟨rfl, rfl⟩; simp only [la1, la2, la3])
 (refine Jx.move rfl rfl (Jx.extract rfl rfl rfl ?_))
 (refine Jx.extract rfl rfl rfl ?_)
 (refine Jx.assign rfl rfl (Jx.assign rfl rfl (J.nil (N.seq (W.seq (W.seq (W.region (Jx.move rfl rfl (Jx.not rfl rfl (J.nil (N.seq (W.cT rfl ?_))))))))))))
 (refine W.region (Jx.move rfl rfl (Jx.move rfl rfl (Jx.nilCheck rfl rfl ?_))))
 (refine Jx.fieldAddr rfl rfl ?_)
 (refine Jx.load rfl 0 rfl rfl rfl ?_)
 (refine J.call (c2) rfl (evs_args rfl) rfl ?_; rintro _ _ ⟨a', c', rfl, ha', hc'⟩; simp only [la1, la2, la3])
 (refine J.nil (N.seq (W.seq (W.region (Jx.move rfl rfl (Jx.assign rfl rfl (J.nil (N.seq (W.ret ?_)))))))))
 (refine id ?_; rotate_left))
      exact N.ret (rs := [.tmp 4]) rfl (.tmp rfl .nil) ⟨[], a', c', rfl, rfl, ha', by rw [lf_no hc']; simp only [bytesP, lf, if_true, List.length_drop]; rw [if_neg (by omega)]⟩
  · refine FnC.intro Tryd.func51 rfl Tryd.ntmps51 rfl fun Z w0 hG => ?_
    focus (
 (refine W.seq (W.region (Jx.assign rfl rfl (J.nil (N.seq (W.seq (W.seq (W.region (Jx.move rfl rfl (Jx.nilCheck rfl rfl ?_))))))))))
 (refine Jx.fieldAddr rfl rfl ?_)
 (refine Jx.load rfl 0 rfl rfl rfl ?_)
 (refine Jx.neqI rfl rfl rfl (J.nil (N.seq (W.cT rfl ?_))))
 (refine W.seq (W.region (Jx.assign rfl rfl (J.nil (N.seq (W.ret (N.seqRet ?_)))))))
 (refine id ?_; rotate_left))
    exact N.ret (rs := [.tmp 4]) rfl (.tmp rfl .nil) ⟨[], a, c, rfl, rfl, h1, by rw [lf_no hc]; rfl⟩
theorem rd_text (b : Nat) (s : List UInt8) (a : Nat) (c : Int) (m : Int) (h1 : a ≤ s.length) (h2 : s.length ≤ 1099511627776) :
    FnC Tryd.prog 64 [ptr b, int m] [rdO b ⟨s, a, c⟩] (fun v L => ∃ (t : List UInt8) (e : Int) (a' : Nat), v = .tup [str t, int e] ∧ L = [rdO b ⟨s, a', c⟩] ∧
      (e = 0 → c = 0 ∧ a' ≤ s.length ∧ textP m (lf s a c) = (t, some (s.drop a'))) ∧ (e ≠ 0 → textP m (lf s a c) = ([], none))) := by
  have c1 := rd_number b s a c h1 h2
  refine FnC.intro Tryd.func64 rfl Tryd.ntmps64 rfl fun Z w0 hG => ?_
  focus (
 (refine W.seq (W.region (Jx.assign rfl rfl (Jx.assign rfl rfl (J.nil (N.seq (W.seq (W.region (Jx.move rfl rfl ?_)))))))))
 (refine J.call (c1) rfl (evs_args rfl) rfl ?_; rintro _ _ ⟨n, e, a', rfl, rfl, hn, hy, hz, hw⟩; simp only [la1, la2, la3])
 (refine Jx.move rfl rfl (Jx.extract rfl rfl rfl ?_))
 (refine Jx.extract rfl rfl rfl ?_)
 (refine Jx.assign rfl rfl (Jx.assign rfl rfl (J.nil (N.seq (W.seq (W.seq (W.region (Jx.move rfl rfl (Jx.neqI rfl rfl rfl (J.nil (N.seq ?_)))))))))))
 (refine id ?_; rotate_left))
  by_cases he : e = 0
  · obtain ⟨rfl, h3, h4⟩ := hy he
    by_cases hm : m < (n : Int)
    · focus (
 (refine W.cF rfl ?_)
 (refine W.skip (N.seq (W.seq (W.seq (W.region (Jx.move rfl rfl (Jx.move rfl rfl (Jx.gtrI rfl rfl rfl (J.nil (N.seq (W.cT rfl ?_)))))))))))
 (refine W.seq (W.region (Jx.assign rfl rfl (Jx.assign rfl rfl (J.nil (N.seq (W.ret (N.seqRet ?_))))))))
 (refine id ?_; rotate_left))
      refine N.ret (rs := [.tmp 4, .tmp 5]) rfl (.tmp rfl (.tmp rfl .nil)) ⟨[], 2, a', rfl, rfl, by intro h; exact absurd h (by decide), fun _ => ?_⟩
      simp only [textP, h4]
      rw [if_neg (by omega)]
    · by_cases hl : a' + n ≤ s.length
      · have c2 := take_yes b ⟨s, a', 0⟩ n ⟨h3, h2⟩ hl
        simp only at c2
        generalize ht : (s.drop a').take n = t at *
        focus (
 (refine W.cF rfl ?_)
 (refine W.skip (N.seq (W.seq (W.seq (W.region (Jx.move rfl rfl (Jx.move rfl rfl (Jx.gtrI rfl rfl rfl (J.nil (N.seq (W.cF rfl ?_)))))))))))
 (refine W.skip (N.seq (W.seq (W.region (Jx.move rfl rfl (Jx.move rfl rfl ?_))))))
 (refine J.call (c2) rfl (evs_args rfl) rfl ?_; rintro _ _ ⟨rfl, rfl⟩; simp only [la1, la2, la3])
 (refine Jx.move rfl rfl (Jx.extract rfl rfl rfl ?_))
 (refine Jx.extract rfl rfl rfl ?_)
 (refine Jx.assign rfl rfl (Jx.assign rfl rfl (J.nil (N.seq (W.seq (W.seq (W.region (Jx.move rfl rfl (Jx.not rfl rfl (J.nil (N.seq (W.cF rfl ?_))))))))))))
 (refine W.skip (N.seq (W.seq (W.region (Jx.move rfl rfl (Jx.assign rfl rfl (Jx.assign rfl rfl (J.nil (N.seq (W.ret ?_))))))))))
 (refine id ?_; rotate_left))
        refine N.ret (rs := [.tmp 4, .tmp 5]) rfl (.tmp rfl (.tmp rfl .nil)) ⟨t, 0, a' + n, rfl, rfl, fun _ => ⟨by trivial, hl, ?_⟩, by intro h; exact absurd rfl h⟩
        simp only [textP, h4]
        rw [if_pos (by omega)]
        simp only [bytesP, List.length_drop, List.drop_drop, ht]
        rw [if_pos (by omega)]
      · have c2 := take_no b ⟨s, a', 0⟩ n ⟨h3, h2⟩ (by simp only; omega)
        focus (
 (refine W.cF rfl ?_)
 (refine W.skip (N.seq (W.seq (W.seq (W.region (Jx.move rfl rfl (Jx.move rfl rfl (Jx.gtrI rfl rfl rfl (J.nil (N.seq (W.cF rfl ?_)))))))))))
 (refine W.skip (N.seq (W.seq (W.region (Jx.move rfl rfl (Jx.move rfl rfl ?_))))))
 (refine J.call (c2) rfl (evs_args rfl) rfl ?_; rintro _ _ ⟨rfl, rfl⟩; simp only [la1, la2, la3])
 (refine Jx.move rfl rfl (Jx.extract rfl rfl rfl ?_))
 (refine Jx.extract rfl rfl rfl ?_)
 (refine Jx.assign rfl rfl (Jx.assign rfl rfl (J.nil (N.seq (W.seq (W.seq (W.region (Jx.move rfl rfl (Jx.not rfl rfl (J.nil (N.seq (W.cT rfl ?_))))))))))))
 (refine W.seq (W.region (Jx.assign rfl rfl (Jx.assign rfl rfl (J.nil (N.seq (W.ret (N.seqRet ?_))))))))
 (refine id ?_; rotate_left))
        refine N.ret (rs := [.tmp 4, .tmp 5]) rfl (.tmp rfl (.tmp rfl .nil)) ⟨[], 20, a', rfl, rfl, by intro h; exact absurd h (by decide), fun _ => ?_⟩
        simp only [textP, h4]
        rw [if_pos (by omega)]
        simp only [bytesP, List.length_drop]
        rw [if_neg (by omega)]
  · have h4 := hz he
    focus (
 (refine W.cT rfl ?_)
 (refine W.seq (W.region (Jx.move rfl rfl (Jx.assign rfl rfl (Jx.assign rfl rfl (J.nil (N.seq (W.ret (N.seqRet ?_)))))))))
 (refine id ?_; rotate_left))
    refine N.ret (rs := [.tmp 4, .tmp 5]) rfl (.tmp rfl (.tmp rfl .nil)) ⟨[], e, a', rfl, rfl, fun h => absurd h he, fun _ => ?_⟩
    simp only [textP, h4]
theorem rd_Text (b : Nat) (s : List UInt8) (a : Nat) (c : Int) (m : Int) (h1 : a ≤ s.length) (h2 : s.length ≤ 1099511627776) :
    FnC Tryd.prog 49 [ptr b, int m] [rdO b ⟨s, a, c⟩] (fun v L => ∃ (t : List UInt8) (a' : Nat) (c' : Int), v = str t ∧ L = [rdO b ⟨s, a', c'⟩] ∧ a' ≤ s.length ∧ textP m (lf s a c) = (t, lf s a' c')) := by
  by_cases hc : c = 0
  · subst hc
    have c1 := rd_text b s a 0 m h1 h2
    refine FnC.intro Tryd.func49 rfl Tryd.ntmps49 rfl fun Z w0 hG => ?_
    focus (
 (refine W.seq (W.region (Jx.assign rfl rfl (J.nil (N.seq (W.seq (W.region (Jx.move rfl rfl (Jx.nilCheck rfl rfl ?_)))))))))
 (refine Jx.fieldAddr rfl rfl ?_)
 (refine Jx.load rfl 0 rfl rfl rfl ?_)
 (refine Jx.assign rfl rfl (J.nil (N.seq (W.seq (W.region (Jx.move rfl rfl (Jx.move rfl rfl ?_)))))))
 (refine J.call (c1) rfl (evs_args rfl) rfl ?_; rintro _ _ ⟨t, e, a', rfl, rfl, hy, hz⟩; simp only [la1, la2, la3])
 (refine Jx.move rfl rfl (Jx.extract rfl rfl rfl ?_))
 (refine Jx.extract rfl rfl rfl ?_)
 (refine Jx.assign rfl rfl (Jx.assign rfl rfl (J.nil (N.seq (W.seq (W.seq (W.region (Jx.move rfl rfl (Jx.neqI rfl rfl rfl (J.nil (N.seq ?_)))))))))))
 (refine id ?_; rotate_left))
    by_cases he : e = 0
    · obtain ⟨_, h3, h4⟩ := hy he
      focus (
 (refine W.cF rfl ?_)
 (refine W.skip (N.seq (W.seq (W.region (Jx.move rfl rfl (Jx.assign rfl rfl (J.nil (N.seq (W.ret ?_)))))))))
 (refine id ?_; rotate_left))
      exact N.ret (rs := [.tmp 4]) rfl (.tmp rfl .nil) ⟨t, a', 0, rfl, rfl, h3, h4⟩
    · have h4 := hz he
      have c2 := rd_refuse b s a' 0 a e h1 he (by intro h; exact absurd rfl h)
      focus (
 (refine W.cT rfl ?_)
 (refine W.seq (W.region (Jx.move rfl rfl (Jx.move rfl rfl (Jx.move rfl rfl ?_)))))
 (refine J.call (c2) rfl (evs_args rfl) rfl ?_; rintro _ _ ⟨a2, c', rfl, ha', hc'⟩; simp only [la1, la2, la3])
 (refine J.nil (N.seq (W.seq (W.region (Jx.assign rfl rfl (J.nil (N.seq (W.ret (N.seqRet ?_)))))))))
 (refine id ?_; rotate_left))
      exact N.ret (rs := [.tmp 4]) rfl (.tmp rfl .nil) ⟨[], a2, c', rfl, rfl, ha', by rw [lf_no hc', h4]⟩
  · have c1 : FnC Tryd.prog 64 [ptr b, int m] [rdO b ⟨s, a, c⟩] (fun v L => v = .tup [str [], int c] ∧ L = [rdO b ⟨s, a, c⟩]) := by
      have c0 := number_code b ⟨s, a, c⟩ hc
      refine FnC.intro Tryd.func64 rfl Tryd.ntmps64 rfl fun Z w0 hG => ?_
      focus (
 (refine W.seq (W.region (Jx.assign rfl rfl (Jx.assign rfl rfl (J.nil (N.seq (W.seq (W.region (Jx.move rfl rfl ?_)))))))))
 (refine J.call (c0) rfl (evs_args rfl) rfl ?_; rintro _ _ ⟨rfl, rfl⟩; simp only [la1, la2, la3])
 (refine Jx.move rfl rfl (Jx.extract rfl rfl rfl ?_))
 (refine Jx.extract rfl rfl rfl ?_)
 (refine Jx.assign rfl rfl (Jx.assign rfl rfl (J.nil (N.seq (W.seq (W.seq (W.region (Jx.move rfl rfl (Jx.neqI rfl rfl rfl (J.nil (N.seq (W.cT rfl ?_))))))))))))
 (refine W.seq (W.region (Jx.move rfl rfl (Jx.assign rfl rfl (Jx.assign rfl rfl (J.nil (N.seq (W.ret (N.seqRet ?_)))))))))
 (refine id ?_; rotate_left))
      exact N.ret (rs := [.tmp 4, .tmp 5]) rfl (.tmp rfl (.tmp rfl .nil)) ⟨rfl, rfl⟩
    have c2 := rd_refuse b s a c a c h1 hc (fun _ => h1)
    refine FnC.intro Tryd.func49 rfl Tryd.ntmps49 rfl fun Z w0 hG => ?_
    focus (
 (refine W.seq (W.region (Jx.assign rfl rfl (J.nil (N.seq (W.seq (W.region (Jx.move rfl rfl (Jx.nilCheck rfl rfl ?_)))))))))
 (refine Jx.fieldAddr rfl rfl ?_)
 (refine Jx.load rfl 0 rfl rfl rfl ?_)
 (refine Jx.assign rfl rfl (J.nil (N.seq (W.seq (W.region (Jx.move rfl rfl (Jx.move rfl rfl ?_)))))))
 (refine J.call (c1) rfl (evs_args rfl) rfl ?_; rintro _ _ ⟨rfl, rfl⟩; simp only [la1, la2, la3])
 (refine Jx.move rfl rfl (Jx.extract rfl rfl rfl ?_))
 (refine Jx.extract rfl rfl rfl ?_)
 (refine Jx.assign rfl rfl (Jx.assign rfl rfl (J.nil (N.seq (W.seq (W.seq (W.region (Jx.move rfl rfl (Jx.neqI rfl rfl rfl (J.nil (N.seq (W.cT rfl ?_))))))))))))
 (refine W.seq (W.region (Jx.move rfl rfl (Jx.move rfl rfl (Jx.move rfl rfl ?_)))))
 (refine J.call (c2) rfl (evs_args rfl) rfl ?_; rintro _ _ ⟨a2, c', rfl, ha', hc'⟩; simp only [la1, la2, la3])
 (refine J.nil (N.seq (W.seq (W.region (Jx.assign rfl rfl (J.nil (N.seq (W.ret (N.seqRet ?_)))))))))
 (refine id ?_; rotate_left))
    exact N.ret (rs := [.tmp 4]) rfl (.tmp rfl .nil) ⟨[], a2, c', rfl, rfl, ha', by rw [lf_no hc', lf_no hc]; rfl⟩
theorem rd_End (b : Nat) (s : List UInt8) (a : Nat) (c : Int) (h1 : a ≤ s.length) (h2 : s.length ≤ 1099511627776) :
    FnC Tryd.prog 54 [ptr b] [rdO b ⟨s, a, c⟩] (fun v L => ∃ (e : Int) (a' : Nat) (c' : Int), v = int e ∧ L = [rdO b ⟨s, a', c'⟩] ∧ (e = 0 ↔ lf s a c = some [])) := by
  have c1 := left_ok b ⟨s, a, c⟩ ⟨h1, h2⟩
  simp only at c1
  refine FnC.intro Tryd.func54 rfl Tryd.ntmps54 rfl fun Z w0 hG => ?_
  by_cases hl : a < s.length
  · have c2 := rd_refuse b s a c a 3 h1 (by decide) (fun _ => h1)
    focus (
 (refine W.seq (W.region (Jx.assign rfl rfl (J.nil (N.seq (W.seq (W.seq (W.region (Jx.move rfl rfl ?_)))))))))
 (refine J.call (c1) rfl (evs_args rfl) rfl ?_; rintro _ _ ⟨rfl, rfl⟩; simp only [la1, la2, la3])
 (refine Jx.gtrI rfl rfl rfl (J.nil (N.seq (W.cT rfl ?_))))
 (refine W.region (Jx.move rfl rfl (Jx.move rfl rfl (Jx.nilCheck rfl rfl ?_))))
 (refine Jx.fieldAddr rfl rfl ?_)
 (refine Jx.load rfl 0 rfl rfl rfl ?_)
 (refine J.call (c2) rfl (evs_args rfl) rfl ?_; rintro _ _ ⟨a2, c2', rfl, ha2, hc2⟩; simp only [la1, la2, la3])
 (refine J.nil (N.seq (W.seq (W.region (Jx.move rfl rfl (Jx.nilCheck rfl rfl ?_))))))
 (refine Jx.fieldAddr rfl rfl ?_)
 (refine Jx.load rfl 0 rfl rfl rfl ?_)
 (refine Jx.assign rfl rfl (J.nil (N.seq (W.ret ?_))))
 (refine id ?_; rotate_left))
    refine N.ret (rs := [.tmp 2]) rfl (.tmp rfl .nil) ⟨c2', a2, c2', rfl, rfl, fun h => absurd h hc2, fun h => ?_⟩
    unfold lf at h
    split at h
    · simp only [Option.some.injEq] at h
      have := congrArg List.length h
      rw [List.length_drop] at this
      simp only [List.length_nil] at this
      omega
    · cases h
  · focus (
 (refine W.seq (W.region (Jx.assign rfl rfl (J.nil (N.seq (W.seq (W.seq (W.region (Jx.move rfl rfl ?_)))))))))
 (refine J.call (c1) rfl (evs_args rfl) rfl ?_; rintro _ _ ⟨rfl, rfl⟩; simp only [la1, la2, la3])
 (refine Jx.gtrI rfl rfl rfl (J.nil (N.seq (W.cF rfl ?_))))
 (refine W.skip (N.seq (W.seq (W.region (Jx.move rfl rfl (Jx.nilCheck rfl rfl ?_))))))
 (refine Jx.fieldAddr rfl rfl ?_)
 (refine Jx.load rfl 0 rfl rfl rfl ?_)
 (refine Jx.assign rfl rfl (J.nil (N.seq (W.ret ?_))))
 (refine id ?_; rotate_left))
    refine N.ret (rs := [.tmp 2]) rfl (.tmp rfl .nil) ⟨c, a, c, rfl, rfl, fun h => ?_, fun h => ?_⟩
    · subst h
      simp only [lf, if_true, Option.some.injEq]
      exact List.drop_eq_nil_of_le (by omega)
    · exact Classical.byContradiction fun hc => by rw [lf_no hc] at h; cases h
def preP (acc : List (List UInt8)) : List (List UInt8) × PSt → List (List UInt8) × PSt
  | (ts, some q) => (acc ++ ts, some q)
  | (_, none) => ([], none)
theorem preP_step {ec : Int} {k : Nat} {r q : List UInt8} {t : List UInt8} {acc : List (List UInt8)} (h : textP ec (some r) = (t, some q)) : preP acc (textsP ec (k + 1) (some r)) = preP (acc ++ [t]) (textsP ec k (some q)) := by
  simp only [textsP, h]
  cases hq : textsP ec k (some q) with
  | mk ts o => cases o <;> simp [preP]
theorem preP_bad {ec : Int} {k : Nat} {r : List UInt8} {acc : List (List UInt8)} (h : textP ec (some r) = ([], none)) : preP acc (textsP ec (k + 1) (some r)) = ([], none) := by
  simp only [textsP, h, preP]
theorem preP_nil {ec : Int} {n : Nat} {st : PSt} : preP [] (textsP ec n st) = textsP ec n st := by
  cases h : textsP ec n st with
  | mk ts o =>
    cases o with
    | none => rw [textsP_short h]; rfl
    | some q => rfl
set_option maxHeartbeats 2000000 in
theorem rd_List (b : Nat) (s : List UInt8) (a : Nat) (c : Int) (m ec : Int) (h1 : a ≤ s.length) (h2 : s.length ≤ 1099511627776) (hm : m ≤ 1048576) :
    FnC Tryd.prog 53 [ptr b, int m, int ec] [rdO b ⟨s, a, c⟩] (fun v L => ∃ (l : List (List UInt8)) (a' : Nat) (c' : Int), v = ssl l ∧ L = [rdO b ⟨s, a', c'⟩] ∧ a' ≤ s.length ∧ listP m ec (lf s a c) = (l, lf s a' c')) := by
  have c1 := rd_number b s a c h1 h2
  refine FnC.intro Tryd.func53 rfl Tryd.ntmps53 rfl fun Z w0 hG => ?_
  focus (
 (refine W.seq (W.region (Jx.assign rfl rfl (J.nil (N.seq (W.seq (W.region (Jx.move rfl rfl (Jx.nilCheck rfl rfl ?_)))))))))
 (refine Jx.fieldAddr rfl rfl ?_)
 (refine Jx.load rfl 0 rfl rfl rfl ?_)
 (refine Jx.assign rfl rfl (J.nil (N.seq (W.seq (W.region (Jx.move rfl rfl ?_))))))
 (refine J.call c1 rfl (evs_args rfl) rfl ?_; rintro _ _ ⟨n, e, a', rfl, rfl, hn, hy, hz, hw⟩; simp only [la1, la2, la3]; by_cases he : e = 0)
 (refine Jx.move rfl rfl (Jx.extract rfl rfl rfl ?_))
 (refine Jx.extract rfl rfl rfl ?_)
 (refine Jx.assign rfl rfl (Jx.assign rfl rfl (J.nil (N.seq (W.seq (W.seq (W.region (Jx.move rfl rfl (Jx.eqlI rfl rfl rfl (Jx.move rfl rfl (J.gY rfl rfl rfl ?_)))))))))))
 (refine Jx.move rfl rfl (J.gY rfl rfl rfl ?_))
 (refine Jx.move rfl rfl (J.gY rfl rfl rfl ?_))
 (refine Jx.gtrI rfl rfl rfl (Jx.pT rfl rfl rfl ?_))
 (refine J.nil (N.seq ?_))
 (refine id ?_; rotate_left)
 (refine Jx.move rfl rfl (Jx.extract rfl rfl rfl ?_))
 (refine Jx.extract rfl rfl rfl ?_)
 (refine Jx.assign rfl rfl (Jx.assign rfl rfl (J.nil (N.seq (W.seq (W.seq (W.region (Jx.move rfl rfl (Jx.eqlI rfl rfl rfl (Jx.move rfl rfl (J.gN rfl rfl rfl rfl ?_)))))))))))
 (refine J.gN rfl rfl rfl rfl ?_)
 (refine J.gN rfl rfl rfl rfl ?_)
 (refine Jx.pF rfl rfl rfl ?_)
 (refine J.nil (N.seq (W.cF rfl ?_)))
 (refine W.skip (N.seq (W.seq (W.region (Jx.move rfl rfl ?_)))))
 (refine J.pv (Pv.makeFunc (us := [.pointer (some ⟨b, 0, none⟩)]) (vs := []) (evs_args rfl) (evs_args rfl) (fun _ => rfl)) rfl ?_)
 (refine Jx.assign rfl rfl (J.nil (N.seq (W.seq (W.region (Jx.assign rfl rfl (J.nil (N.seq (W.seq (W.seq (W.region (Jx.assign rfl rfl (J.nil (N.seq ?_))))))))))))))
 (refine W.block ?_)
 (refine id ?_; rotate_left))
  · obtain ⟨rfl, h3, h4⟩ := hy he
    subst he
    by_cases hnm : m < (n : Int)
    · focus (
 (refine W.cT rfl ?_)
 (refine W.region (Jx.assign rfl rfl (J.nil (N.seq (W.seq (W.region (Jx.move rfl rfl ?_)))))))
 (refine J.pv (Pv.makeFunc (us := [.pointer (some ⟨b, 0, none⟩)]) (vs := []) (evs_args rfl) (evs_args rfl) (fun _ => rfl)) rfl ?_)
 (refine Jx.assign rfl rfl (J.nil (N.seq (W.seq (W.region (Jx.assign rfl rfl (J.nil (N.seq (W.seq (W.seq (W.region (Jx.assign rfl rfl (J.nil (N.seq ?_))))))))))))))
 (refine W.block ?_)
 (refine id ?_; rotate_left))
      have c2 := rd_refuse b s a' 0 a 2 h1 (by decide) (fun _ => h3)
      refine W.loop (α := Unit) (fun x => [(12, int 0), (9, int 2), (8, int (n : Int)), (7, int (a : Int)), (0, ptr b)]) (fun x => [rdO b ⟨s, a', 0⟩]) (fun x => True) (fun x => 0) () trivial rfl ⟨ref0 rfl, ref0 rfl, ref0 rfl, ref0 rfl, ref0 rfl, trivial⟩ ?_
      intro _ _
      by_cases h0 : 0 < n
      · focus (
 (refine W.seq (W.seq (W.region (Jx.move rfl rfl (Jx.move rfl rfl (Jx.lssI rfl rfl rfl (Jx.move rfl rfl (J.gY rfl rfl rfl ?_))))))))
 (refine Jx.move rfl rfl (J.gY rfl rfl rfl ?_))
 (refine Jx.eqlI rfl rfl rfl (Jx.pT rfl rfl rfl ?_))
 (refine J.nil (N.seq (W.cF rfl ?_)))
 (refine W.exit (N.seq (W.seq (W.seq (W.region (Jx.move rfl rfl (Jx.neqI rfl rfl rfl (J.nil (N.seq (W.cT rfl ?_))))))))))
 (refine W.seq (W.region (Jx.move rfl rfl (Jx.move rfl rfl (Jx.move rfl rfl ?_)))))
 (refine J.call (c2) rfl (evs_args rfl) rfl ?_; rintro _ _ ⟨a2, c2', rfl, ha2, hc2⟩; simp only [la1, la2, la3])
 (refine J.nil (N.seq (W.seq (W.region (Jx.assign rfl rfl (J.nil (N.seq (W.ret (N.seqRet ?_)))))))))
 (refine id ?_; rotate_left))
        refine N.told (G := [(6, ssl [])]) ⟨⟨_, rfl, Sub.nil 1 _⟩, trivial⟩ ?_
        exact N.ret (rs := [.tmp 6]) rfl (.tmp rfl .nil) ⟨[], a2, c2', rfl, rfl, ha2, by rw [lf_no hc2]; simp only [listP, h4]; rw [if_neg (by omega)]⟩
      · focus (
 (refine W.seq (W.seq (W.region (Jx.move rfl rfl (Jx.move rfl rfl (Jx.lssI rfl rfl rfl (Jx.move rfl rfl (J.gN rfl rfl rfl rfl ?_))))))))
 (refine J.gN rfl rfl rfl rfl ?_)
 (refine Jx.pF rfl rfl rfl ?_)
 (refine J.nil (N.seq (W.cF rfl ?_)))
 (refine W.exit (N.seq (W.seq (W.seq (W.region (Jx.move rfl rfl (Jx.neqI rfl rfl rfl (J.nil (N.seq (W.cT rfl ?_))))))))))
 (refine W.seq (W.region (Jx.move rfl rfl (Jx.move rfl rfl (Jx.move rfl rfl ?_)))))
 (refine J.call (c2) rfl (evs_args rfl) rfl ?_; rintro _ _ ⟨a2, c2', rfl, ha2, hc2⟩; simp only [la1, la2, la3])
 (refine J.nil (N.seq (W.seq (W.region (Jx.assign rfl rfl (J.nil (N.seq (W.ret (N.seqRet ?_)))))))))
 (refine id ?_; rotate_left))
        refine N.told (G := [(6, ssl [])]) ⟨⟨_, rfl, Sub.nil 1 _⟩, trivial⟩ ?_
        exact N.ret (rs := [.tmp 6]) rfl (.tmp rfl .nil) ⟨[], a2, c2', rfl, rfl, ha2, by rw [lf_no hc2]; simp only [listP, h4]; rw [if_neg (by omega)]⟩
    · focus (
 (refine W.cF rfl ?_)
 (refine W.skip (N.seq (W.seq (W.region (Jx.move rfl rfl ?_)))))
 (refine J.pv (Pv.makeFunc (us := [.pointer (some ⟨b, 0, none⟩)]) (vs := []) (evs_args rfl) (evs_args rfl) (fun _ => rfl)) rfl ?_)
 (refine Jx.assign rfl rfl (J.nil (N.seq (W.seq (W.region (Jx.assign rfl rfl (J.nil (N.seq (W.seq (W.seq (W.region (Jx.assign rfl rfl (J.nil (N.seq ?_))))))))))))))
 (refine W.block ?_)
 (refine id ?_; rotate_left))
      refine W.rowNil 9 1 (elOf (fun a => [str a]) [] []) ?_
      refine W.perm (List.Perm.swap _ _ _) ?_
      refine W.loop (α := Nat × Value × List (List UInt8) × Nat × Int) (fun x => [(12, int (x.1 : Int)), (11, .val x.2.1), (10, .val (.func (.func 64) #[.pointer (some ⟨b, 0, none⟩)] #[])), (9, int x.2.2.2.2), (8, int (n : Int)), (7, int (a : Int)), (2, int ec), (0, ptr b)]) (fun x => [rdO b ⟨s, x.2.2.2.1, 0⟩, .row x.2.1 9 1 x.2.2.1.length (elOf (fun a => [str a]) [] x.2.2.1)])
        (fun x => x.1 ≤ n ∧ x.2.2.1.length ≤ x.1 ∧ (x.2.2.2.2 = 0 → x.2.2.1.length = x.1 ∧ x.2.2.2.1 ≤ s.length ∧ textsP ec n (some (s.drop a')) = preP x.2.2.1 (textsP ec (n - x.1) (some (s.drop x.2.2.2.1)))) ∧ (x.2.2.2.2 ≠ 0 → textsP ec n (some (s.drop a')) = ([], none))) (fun x => n - x.1) (0, .slice none 0 0, [], a', 0)
        ⟨by simp, by simp, fun _ => ⟨rfl, h3, by simp only [Nat.sub_zero, preP_nil]⟩, fun h => absurd rfl h⟩ rfl ⟨ref0 rfl, ref0 rfl, ref0 rfl, ref0 rfl, ref0 rfl, ref0 rfl, ref0 rfl, ref0 rfl, trivial⟩ ?_
      rintro ⟨i, u, acc, pos, e⟩ ⟨hi, hai, hg, hb⟩
      simp only at hi hai hg hb ⊢
      have hmx0 : acc.length ≤ maxLen := by simp only [maxLen]; omega
      by_cases hin : i < n
      · by_cases he : e = 0
        · subst he
          obtain ⟨g1, g2, g3⟩ := hg rfl
          have c3 := rd_text b s pos 0 ec g2 h2
          have hstep : n - i = (n - (i + 1)) + 1 := by omega
          focus (
 (refine W.seq (W.seq (W.region (Jx.move rfl rfl (Jx.move rfl rfl (Jx.lssI rfl rfl rfl (Jx.move rfl rfl (J.gY rfl rfl rfl ?_))))))))
 (refine Jx.move rfl rfl (J.gY rfl rfl rfl ?_))
 (refine Jx.eqlI rfl rfl rfl (Jx.pT rfl rfl rfl ?_))
 (refine J.nil (N.seq (W.cT rfl ?_)))
 (refine W.skip (N.seq (W.seq (W.block (W.seq (W.region (Jx.assign rfl rfl (J.nil (N.seq (W.seq (W.region (Jx.move rfl rfl (Jx.move rfl rfl ?_)))))))))))))
 (refine J.callV (args := [int ec]) (Lc := [rdO b ⟨s, pos, 0⟩]) rfl c3 rfl (evs_args rfl) rfl ?_; rintro _ _ ⟨t, e', pos', rfl, rfl, ty, tz⟩; simp only [la1, la2, la3])
 (refine Jx.move rfl rfl (Jx.extract rfl rfl rfl ?_))
 (refine Jx.extract rfl rfl rfl ?_)
 (refine Jx.assign rfl rfl (Jx.assign rfl rfl (J.nil (N.seq (W.seq (W.region (Jx.move rfl rfl (Jx.eqlI rfl rfl rfl (J.nil (N.seq ?_))))))))))
 (refine id ?_; rotate_left))
          by_cases he' : e' = 0
          · subst he'
            obtain ⟨_, g4, g5⟩ := ty rfl
            have hmx : acc.length + [t].length ≤ maxLen ∧ (acc.length + [t].length) * 16 ≤ 140737488355328 := by simp only [maxLen, List.length_cons, List.length_nil]; omega
            focus (
 (refine W.cT rfl ?_)
 (refine W.region (Jx.move rfl rfl (Jx.move rfl rfl ?_)))
 (refine J.qs (Qs.buildTexts [t] rfl rfl rfl (by decide) (by decide)) rfl ?_)
 (refine J.appendAt (l := acc) (l2 := [t]) 1 rfl rfl (SrcOK.sl rfl) rfl rfl hmx rfl ?_; intro v2 hv2)
 (refine Jx.assign rfl rfl (J.nil (N.seq (W.region (Jx.move rfl rfl (Jx.add64 rfl rfl (by omega) rfl ?_))))))
 (refine Jx.assign rfl rfl (J.nil ?_))
 (refine id ?_; rotate_left))
            exact N.round (i + 1, v2, acc ++ [t], pos', 0) ⟨by simp only; omega, by simp only [List.length_append, List.length_cons, List.length_nil]; omega, fun _ => ⟨by simp only [List.length_append, List.length_cons, List.length_nil]; omega, g4, by rw [g3, hstep]; exact preP_step g5⟩, fun h => absurd rfl h⟩ (by simp only; omega) rfl ⟨ref0 rfl, ref0 rfl, ref0 rfl, ref0 rfl, ref0 rfl, ref0 rfl, ref0 rfl, ref0 rfl, trivial⟩
          · have g5 := tz he'
            focus (
 (refine W.cF rfl ?_)
 (refine W.skip (N.seq (W.region (Jx.move rfl rfl (Jx.add64 rfl rfl (by omega) rfl ?_)))))
 (refine Jx.assign rfl rfl (J.nil ?_))
 (refine id ?_; rotate_left))
            exact N.round (i + 1, u, acc, pos', e') ⟨by simp only; omega, by simp only; omega, fun h => absurd h he', fun _ => by rw [g3, hstep]; exact preP_bad g5⟩ (by simp only; omega) rfl ⟨ref0 rfl, ref0 rfl, ref0 rfl, ref0 rfl, ref0 rfl, ref0 rfl, ref0 rfl, ref0 rfl, trivial⟩
        · have hb := hb he
          have c2 := rd_refuse b s pos 0 a e h1 he (fun h => absurd rfl h)
          focus (
 (refine W.seq (W.seq (W.region (Jx.move rfl rfl (Jx.move rfl rfl (Jx.lssI rfl rfl rfl (Jx.move rfl rfl (J.gY rfl rfl rfl ?_))))))))
 (refine Jx.move rfl rfl (J.gY rfl rfl rfl ?_))
 (refine Jx.eqlI rfl rfl rfl (Jx.pT rfl rfl rfl ?_))
 (refine J.nil (N.seq (W.cF rfl ?_)))
 (refine W.exit (N.seq (W.seq (W.seq (W.region (Jx.move rfl rfl (Jx.neqI rfl rfl rfl (J.nil (N.seq (W.cT rfl ?_))))))))))
 (refine W.seq (W.region (Jx.move rfl rfl (Jx.move rfl rfl (Jx.move rfl rfl ?_)))))
 (refine J.call (c2) rfl (evs_args rfl) rfl ?_; rintro _ _ ⟨a2, c2', rfl, ha2, hc2⟩; simp only [la1, la2, la3])
 (refine J.nil (N.seq (W.seq (W.region (Jx.assign rfl rfl (J.nil (N.seq (W.ret (N.seqRet ?_)))))))))
 (refine id ?_; rotate_left))
          refine N.told (G := [(6, ssl [])]) ⟨⟨_, rfl, Sub.nil 1 _⟩, trivial⟩ ?_
          exact N.retD (rs := [.tmp 6]) (L1 := [rdO b ⟨s, a2, c2'⟩]) rfl (.tmp rfl .nil) (by simp) ⟨[], a2, c2', rfl, rfl, ha2, by rw [lf_no hc2]; simp only [listP, h4]; rw [if_pos (by omega)]; exact hb⟩
      · by_cases he : e = 0
        · subst he
          obtain ⟨g1, g2, g3⟩ := hg rfl
          refine W.freezeAt 1 11 rfl rfl hmx0 ?_
          focus (
 (refine W.seq (W.seq (W.region (Jx.move rfl rfl (Jx.move rfl rfl (Jx.lssI rfl rfl rfl (Jx.move rfl rfl (J.gN rfl rfl rfl rfl ?_))))))))
 (refine J.gN rfl rfl rfl rfl ?_)
 (refine Jx.pF rfl rfl rfl ?_)
 (refine J.nil (N.seq (W.cF rfl ?_)))
 (refine W.exit (N.seq (W.seq (W.seq (W.region (Jx.move rfl rfl (Jx.neqI rfl rfl rfl (J.nil (N.seq (W.cF rfl ?_))))))))))
 (refine W.skip (N.seq (W.seq (W.region (Jx.move rfl rfl (Jx.assign rfl rfl (J.nil (N.seq (W.ret ?_)))))))))
 (refine id ?_; rotate_left))
          refine N.ret (rs := [.tmp 6]) rfl (.tmp rfl .nil) ⟨acc, pos, 0, rfl, rfl, g2, ?_⟩
          simp only [listP, h4]
          rw [if_pos (by omega), g3, show n - i = 0 by omega]
          simp only [textsP, preP, List.append_nil, lf, if_true]
        · have hb := hb he
          have c2 := rd_refuse b s pos 0 a e h1 he (fun h => absurd rfl h)
          focus (
 (refine W.seq (W.seq (W.region (Jx.move rfl rfl (Jx.move rfl rfl (Jx.lssI rfl rfl rfl (Jx.move rfl rfl (J.gN rfl rfl rfl rfl ?_))))))))
 (refine J.gN rfl rfl rfl rfl ?_)
 (refine Jx.pF rfl rfl rfl ?_)
 (refine J.nil (N.seq (W.cF rfl ?_)))
 (refine W.exit (N.seq (W.seq (W.seq (W.region (Jx.move rfl rfl (Jx.neqI rfl rfl rfl (J.nil (N.seq (W.cT rfl ?_))))))))))
 (refine W.seq (W.region (Jx.move rfl rfl (Jx.move rfl rfl (Jx.move rfl rfl ?_)))))
 (refine J.call (c2) rfl (evs_args rfl) rfl ?_; rintro _ _ ⟨a2, c2', rfl, ha2, hc2⟩; simp only [la1, la2, la3])
 (refine J.nil (N.seq (W.seq (W.region (Jx.assign rfl rfl (J.nil (N.seq (W.ret (N.seqRet ?_)))))))))
 (refine id ?_; rotate_left))
          refine N.told (G := [(6, ssl [])]) ⟨⟨_, rfl, Sub.nil 1 _⟩, trivial⟩ ?_
          exact N.retD (rs := [.tmp 6]) (L1 := [rdO b ⟨s, a2, c2'⟩]) rfl (.tmp rfl .nil) (by simp) ⟨[], a2, c2', rfl, rfl, ha2, by rw [lf_no hc2]; simp only [listP, h4]; rw [if_pos (by omega)]; exact hb⟩
  · have h4 := hz he
    refine W.loop (α := Unit) (fun x => [(12, int 0), (9, int e), (8, int (n : Int)), (7, int (a : Int)), (0, ptr b)]) (fun x => [rdO b ⟨s, a', c⟩]) (fun x => True) (fun x => 0) () trivial rfl ⟨ref0 rfl, ref0 rfl, ref0 rfl, ref0 rfl, ref0 rfl, trivial⟩ ?_
    intro _ _
    have c2 := rd_refuse b s a' c a e h1 he hw
    by_cases h0 : 0 < n
    · focus (
 (refine W.seq (W.seq (W.region (Jx.move rfl rfl (Jx.move rfl rfl (Jx.lssI rfl rfl rfl (Jx.move rfl rfl (J.gY rfl rfl rfl ?_))))))))
 (refine Jx.move rfl rfl (J.gY rfl rfl rfl ?_))
 (refine Jx.eqlI rfl rfl rfl (Jx.pT rfl rfl rfl ?_))
 (refine J.nil (N.seq (W.cF rfl ?_)))
 (refine W.exit (N.seq (W.seq (W.seq (W.region (Jx.move rfl rfl (Jx.neqI rfl rfl rfl (J.nil (N.seq (W.cT rfl ?_))))))))))
 (refine W.seq (W.region (Jx.move rfl rfl (Jx.move rfl rfl (Jx.move rfl rfl ?_)))))
 (refine J.call (c2) rfl (evs_args rfl) rfl ?_; rintro _ _ ⟨a2, c2', rfl, ha2, hc2⟩; simp only [la1, la2, la3])
 (refine J.nil (N.seq (W.seq (W.region (Jx.assign rfl rfl (J.nil (N.seq (W.ret (N.seqRet ?_)))))))))
 (refine id ?_; rotate_left))
      refine N.told (G := [(6, ssl [])]) ⟨⟨_, rfl, Sub.nil 1 _⟩, trivial⟩ ?_
      exact N.ret (rs := [.tmp 6]) rfl (.tmp rfl .nil) ⟨[], a2, c2', rfl, rfl, ha2, by rw [lf_no hc2]; simp only [listP, h4]⟩
    · focus (
 (refine W.seq (W.seq (W.region (Jx.move rfl rfl (Jx.move rfl rfl (Jx.lssI rfl rfl rfl (Jx.move rfl rfl (J.gN rfl rfl rfl rfl ?_))))))))
 (refine J.gN rfl rfl rfl rfl ?_)
 (refine Jx.pF rfl rfl rfl ?_)
 (refine J.nil (N.seq (W.cF rfl ?_)))
 (refine W.exit (N.seq (W.seq (W.seq (W.region (Jx.move rfl rfl (Jx.neqI rfl rfl rfl (J.nil (N.seq (W.cT rfl ?_))))))))))
 (refine W.seq (W.region (Jx.move rfl rfl (Jx.move rfl rfl (Jx.move rfl rfl ?_)))))
 (refine J.call (c2) rfl (evs_args rfl) rfl ?_; rintro _ _ ⟨a2, c2', rfl, ha2, hc2⟩; simp only [la1, la2, la3])
 (refine J.nil (N.seq (W.seq (W.region (Jx.assign rfl rfl (J.nil (N.seq (W.ret (N.seqRet ?_)))))))))
 (refine id ?_; rotate_left))
      refine N.told (G := [(6, ssl [])]) ⟨⟨_, rfl, Sub.nil 1 _⟩, trivial⟩ ?_
      exact N.ret (rs := [.tmp 6]) rfl (.tmp rfl .nil) ⟨[], a2, c2', rfl, rfl, ha2, by rw [lf_no hc2]; simp only [listP, h4]⟩
end Go.Proofs.YtbdkenlkimiddaaDoor
namespace Go.Proofs.YtbdkenlkimiddaaDoor
open Go Go.Sse
set_option linter.unusedVariables false
set_option linter.unusedSimpArgs false
set_option maxRecDepth 10000
def nextV (s : List UInt8) : Bt × Nat × Bool := match nextP s with | some (b, n) => (b, n, true) | none => ([], 0, false)
theorem lf_some {s r : List UInt8} {a : Nat} {c : Int} (h : lf s a c = some r) : c = 0 ∧ s.drop a = r := by
  unfold lf at h
  split at h
  · rename_i h0; exact ⟨h0, Option.some.inj h⟩
  · cases h
theorem next_bad {s : List UInt8} (h : nextP s = none) : nextV s = ([], 0, false) := by unfold nextV; rw [h]
theorem next_good {s : List UInt8} {b : Bt} {n : Nat} (h : nextP s = some (b, n)) : nextV s = (b, n, true) := by unfold nextV; rw [h]
set_option maxHeartbeats 8000000 in
theorem next_ok (s : List UInt8) (hs : s.length ≤ 1099511627776) : FnC Tryd.prog 33 [str s] [] (fun r L => r = .tup [ssl (nextV s).1, int ((nextV s).2.1 : Int), bool (nextV s).2.2] ∧ L = []) := by
  have cr := read_ok s
  have ct := fun b => rd_Text b s 0 0 524288 (by omega) hs
  have cleft := fun b a c (h : a ≤ s.length) => left_ok b ⟨s, a, c⟩ ⟨h, hs⟩
  simp only at cleft
  have cby := fun b a c (h : a ≤ s.length) => rd_Bytes b s a c 4 h hs
  have cco := fun b a c => code_ok b ⟨s, a, c⟩
  simp only at cco
  have hl0 : lf s 0 0 = some s := by simp [lf]
  rw [hl0] at ct
  cases ht : textP 524288 (some s) with
  | mk list st =>
  cases st with
  | none =>
    rw [next_bad (by unfold nextP; rw [ht])]
    have ct' := fun b => (ct b).mono (R' := fun v L => ∃ (a1 : Nat) (c1 : Int), v = str list ∧ L = [rdO b ⟨s, a1, c1⟩] ∧ a1 ≤ s.length ∧ c1 ≠ 0) (by
      rintro v L ⟨t, a1, c1, rfl, rfl, h1, h2⟩
      rw [ht] at h2
      simp only [Prod.mk.injEq] at h2
      exact ⟨a1, c1, by rw [h2.1], rfl, h1, lf_none h2.2.symm⟩)
    have cby' := fun b a c (h : a ≤ s.length) (hc : c ≠ 0) => (cby b a c h).mono (R' := fun v L => ∃ (t : List UInt8) (a2 : Nat) (c2 : Int), v = str t ∧ L = [rdO b ⟨s, a2, c2⟩] ∧ c2 ≠ 0) (by
      rintro v L ⟨t, a2, c2, rfl, rfl, h1, h2⟩
      rw [lf_no hc, bytesP_none] at h2
      simp only [Prod.mk.injEq] at h2
      exact ⟨t, a2, c2, rfl, rfl, lf_none h2.2.symm⟩)
    refine FnC.intro Tryd.func33 rfl Tryd.ntmps33 rfl fun Z w0 hG => ?_
    focus (
 (refine W.seq (W.region (Jx.assign rfl rfl (Jx.assign rfl rfl (Jx.assign rfl rfl (J.nil (N.seq (W.seq (W.region (Jx.move rfl rfl ?_))))))))))
 (refine J.call (cr) rfl (evs_args rfl) rfl ?_; rintro _ _ ⟨b, rfl, rfl⟩; simp only [la1, la2, la3])
 (refine Jx.assign rfl rfl (J.nil (N.seq (W.seq (W.region (Jx.move rfl rfl ?_))))))
 (refine J.call ((ct' b)) rfl (evs_args rfl) rfl ?_; rintro _ _ ⟨a1, c1, rfl, rfl, ha1, hc1⟩; simp only [la1, la2, la3])
 (refine Jx.assign rfl rfl (J.nil (N.seq (W.seq (W.region (Jx.move rfl rfl (Jx.lenS rfl rfl ?_)))))))
 (refine Jx.move rfl rfl ?_)
 (refine J.call ((cleft b a1 c1 ha1)) rfl (evs_args rfl) rfl ?_; rintro _ _ ⟨rfl, rfl⟩; simp only [la1, la2, la3])
 (refine Jx.sub64 rfl rfl (by omega) rfl ?_)
 (refine Jx.assign rfl rfl (J.nil (N.seq (W.seq (W.region (Jx.move rfl rfl ?_))))))
 (refine J.call ((cby' b a1 c1 ha1 hc1)) rfl (evs_args rfl) rfl ?_; rintro _ _ ⟨t, a2, c2, rfl, rfl, hc2⟩; simp only [la1, la2, la3])
 (refine Jx.assign rfl rfl (J.nil (N.seq (W.seq (W.seq (W.region (Jx.move rfl rfl ?_)))))))
 (refine J.call ((cco b a2 c2)) rfl (evs_args rfl) rfl ?_; rintro _ _ ⟨rfl, rfl⟩; simp only [la1, la2, la3])
 (refine Jx.neqI rfl rfl rfl (Jx.move rfl rfl (J.gN rfl rfl rfl rfl ?_)))
 (refine J.gN rfl rfl rfl rfl ?_)
 (refine J.gN rfl rfl rfl rfl ?_)
 (refine J.gN rfl rfl rfl rfl ?_)
 (refine J.gN rfl rfl rfl rfl ?_)
 (refine J.gN rfl rfl rfl rfl ?_)
 (refine J.gN rfl rfl rfl rfl ?_)
 (refine Jx.pT rfl rfl rfl ?_)
 (refine J.nil (N.seq (W.cT rfl ?_)))
 (refine W.seq (W.region (Jx.assign rfl rfl (Jx.assign rfl rfl (Jx.assign rfl rfl (J.nil (N.seq (W.ret (N.noGotoRet ?_)))))))))
 (refine id ?_; rotate_left))
    refine N.rowNil 9 1 (elOf encS [] []) ?_
    refine N.freeze 2 rfl (by decide) ?_
    exact N.retD (rs := [.tmp 2, .tmp 3, .tmp 4]) (L1 := []) rfl (.tmp rfl (.tmp rfl (.tmp rfl .nil))) (List.nil_sublist _) ⟨rfl, rfl⟩
  | some r =>
    obtain ⟨g1, g2, g3⟩ := textP_good ht
    simp only [Option.some.injEq] at g1
    have htk : s.take (textB list).length = textB list := by rw [g1, List.take_append_of_le_length (Nat.le_refl _), List.take_length]
    have hdr : s.drop (textB list).length = r := by rw [g1, List.drop_append_of_le_length (Nat.le_refl _), List.drop_length, List.nil_append]
    have hle : (textB list).length ≤ s.length := by rw [g1, List.length_append]; omega
    have ct' := fun b => (ct b).mono (R' := fun v L => v = str list ∧ L = [rdO b ⟨s, (textB list).length, 0⟩]) (by
      rintro v L ⟨t, a1, c1, rfl, rfl, h1, h2⟩
      rw [ht] at h2
      simp only [Prod.mk.injEq] at h2
      obtain ⟨h3, h4⟩ := lf_some h2.2.symm
      subst h3
      have h5 := congrArg List.length g1
      have h6 := congrArg List.length h4
      simp only [List.length_append, List.length_drop] at h5 h6
      have h7 : a1 = (textB list).length := by omega
      rw [h7, h2.1]; exact ⟨rfl, rfl⟩)
    have cl' := fun b => cleft b (textB list).length 0 hle
    have e0 : (s.length : Int) - ((s.length : Int) - ((textB list).length : Int)) = ((textB list).length : Int) := by omega
    have etn : ((textB list).length : Int).toNat = (textB list).length := Int.toNat_natCast _
    have cby1 := fun b => cby b (textB list).length 0 hle
    have hlf : lf s (textB list).length 0 = some r := by rw [lf_ok, hdr]
    rw [hlf] at cby1
    by_cases h4 : r.length < 4
    · rw [next_bad (by unfold nextP; rw [ht]; simp only; rw [if_pos h4])]
      have cby' := fun b => (cby1 b).mono (R' := fun v L => ∃ (t : List UInt8) (a2 : Nat) (c2 : Int), v = str t ∧ L = [rdO b ⟨s, a2, c2⟩] ∧ c2 ≠ 0) (by
        rintro v L ⟨t, a2, c2, rfl, rfl, h1, h2⟩
        simp only [bytesP, if_neg (show ¬ 4 ≤ r.length by omega), Prod.mk.injEq] at h2
        exact ⟨t, a2, c2, rfl, rfl, lf_none h2.2.symm⟩)
      refine FnC.intro Tryd.func33 rfl Tryd.ntmps33 rfl fun Z w0 hG => ?_
      focus (
 (refine W.seq (W.region (Jx.assign rfl rfl (Jx.assign rfl rfl (Jx.assign rfl rfl (J.nil (N.seq (W.seq (W.region (Jx.move rfl rfl ?_))))))))))
 (refine J.call (cr) rfl (evs_args rfl) rfl ?_; rintro _ _ ⟨b, rfl, rfl⟩; simp only [la1, la2, la3])
 (refine Jx.assign rfl rfl (J.nil (N.seq (W.seq (W.region (Jx.move rfl rfl ?_))))))
 (refine J.call ((ct' b)) rfl (evs_args rfl) rfl ?_; rintro _ _ ⟨rfl, rfl⟩; simp only [la1, la2, la3])
 (refine Jx.assign rfl rfl (J.nil (N.seq (W.seq (W.region (Jx.move rfl rfl (Jx.lenS rfl rfl ?_)))))))
 (refine Jx.move rfl rfl ?_)
 (refine J.call ((cl' b)) rfl (evs_args rfl) rfl ?_; rintro _ _ ⟨rfl, rfl⟩; simp only [la1, la2, la3])
 (refine Jx.sub64 rfl rfl (by omega) rfl ?_)
 (refine Jx.assign rfl rfl (J.nil (N.seq (W.seq (W.region (Jx.move rfl rfl ?_))))))
 (refine J.call ((cby' b)) rfl (evs_args rfl) rfl ?_; rintro _ _ ⟨t, a2, c2, rfl, rfl, hc2⟩; simp only [la1, la2, la3])
 (refine Jx.assign rfl rfl (J.nil (N.seq (W.seq (W.seq (W.region (Jx.move rfl rfl ?_)))))))
 (refine J.call ((cco b a2 c2)) rfl (evs_args rfl) rfl ?_; rintro _ _ ⟨rfl, rfl⟩; simp only [la1, la2, la3])
 (refine Jx.neqI rfl rfl rfl (Jx.move rfl rfl (J.gN rfl rfl rfl rfl ?_)))
 (refine J.gN rfl rfl rfl rfl ?_)
 (refine J.gN rfl rfl rfl rfl ?_)
 (refine J.gN rfl rfl rfl rfl ?_)
 (refine J.gN rfl rfl rfl rfl ?_)
 (refine J.gN rfl rfl rfl rfl ?_)
 (refine J.gN rfl rfl rfl rfl ?_)
 (refine Jx.pT rfl rfl rfl ?_)
 (refine J.nil (N.seq (W.cT rfl ?_)))
 (refine W.seq (W.region (Jx.assign rfl rfl (Jx.assign rfl rfl (Jx.assign rfl rfl (J.nil (N.seq (W.ret (N.noGotoRet ?_)))))))))
 (refine id ?_; rotate_left))
      refine N.rowNil 9 1 (elOf encS [] []) ?_
      refine N.freeze 2 rfl (by decide) ?_
      exact N.retD (rs := [.tmp 2, .tmp 3, .tmp 4]) (L1 := []) rfl (.tmp rfl (.tmp rfl (.tmp rfl .nil))) (List.nil_sublist _) ⟨rfl, rfl⟩
    · have cby' := fun b => (cby1 b).mono (R' := fun v L => ∃ (a2 : Nat), v = str (r.take 4) ∧ L = [rdO b ⟨s, a2, 0⟩]) (by
        rintro v L ⟨t, a2, c2, rfl, rfl, h1, h2⟩
        simp only [bytesP, if_pos (show 4 ≤ r.length by omega), Prod.mk.injEq] at h2
        obtain ⟨h3, h5⟩ := lf_some h2.2.symm
        subst h3
        exact ⟨a2, by rw [h2.1], rfl⟩)
      have csh := Sha.hsum_ok (textB list) (by
        have := numB_len (n := list.length) (by omega)
        rw [textB, List.length_append]; omega)
      have h32 := Sha.shaS_len (textB list)
      have h432 : (4 : Int) ≤ ((Sha.shaS (textB list)).length : Int) := by rw [h32]; decide
      by_cases h5 : (Sha.shaS (textB list)).take (4 : Int).toNat = r.take 4
      · have h5' : sum4 (textB list) = r.take 4 := h5
        have h5n : ¬ ((Sha.shaS (textB list)).take (4 : Int).toNat ≠ r.take 4) := fun h => h h5
        have cr2 := read_ok list
        have hll : list.length ≤ 524288 := by omega
        have cli := fun b => rd_List b list 0 0 1024 65536 (by omega) (by omega) (by decide)
        have hl1 : lf list 0 0 = some list := by simp [lf]
        rw [hl1] at cli
        cases hp : listP 1024 65536 (some list) with
        | mk bt q =>
        have cli' := fun b => (cli b).mono (R' := fun v L => ∃ (a3 : Nat) (c3 : Int), v = ssl bt ∧ L = [rdO b ⟨list, a3, c3⟩] ∧ a3 ≤ list.length ∧ lf list a3 c3 = q) (by
          rintro v L ⟨l, a3, c3, rfl, rfl, h1, h2⟩
          rw [hp] at h2
          simp only [Prod.mk.injEq] at h2
          exact ⟨a3, c3, by rw [h2.1], rfl, h1, h2.2.symm⟩)
        have cen := fun b a3 c3 (h : a3 ≤ list.length) => rd_End b list a3 c3 h (by omega)
        by_cases hq : q = some []
        · have cen' := fun b a3 c3 (h : a3 ≤ list.length) (h6 : lf list a3 c3 = q) => (cen b a3 c3 h).mono (R' := fun v L => ∃ (a4 : Nat) (c4 : Int), v = int 0 ∧ L = [rdO b ⟨list, a4, c4⟩]) (by
            rintro v L ⟨e, a4, c4, rfl, rfl, h7⟩
            have : e = 0 := h7.2 (h6.trans hq)
            subst this
            exact ⟨a4, c4, rfl, rfl⟩)
          have hno : nextP s = some (bt, (textB list).length + 4) := by
            unfold nextP; rw [ht]; simp only; rw [if_neg h4, if_pos h5', hp, hq]
          rw [next_good hno]
          have e4 : ((textB list).length : Int) + 4 = (((textB list).length + 4 : Nat) : Int) := by omega
          generalize Sha.shaS (textB list) = sh at *
          refine FnC.intro Tryd.func33 rfl Tryd.ntmps33 rfl fun Z w0 hG => ?_
          focus (
 (refine W.seq (W.region (Jx.assign rfl rfl (Jx.assign rfl rfl (Jx.assign rfl rfl (J.nil (N.seq (W.seq (W.region (Jx.move rfl rfl ?_))))))))))
 (refine J.call (cr) rfl (evs_args rfl) rfl ?_; rintro _ _ ⟨b, rfl, rfl⟩; simp only [la1, la2, la3])
 (refine Jx.assign rfl rfl (J.nil (N.seq (W.seq (W.region (Jx.move rfl rfl ?_))))))
 (refine J.call ((ct' b)) rfl (evs_args rfl) rfl ?_; rintro _ _ ⟨rfl, rfl⟩; simp only [la1, la2, la3])
 (refine Jx.assign rfl rfl (J.nil (N.seq (W.seq (W.region (Jx.move rfl rfl (Jx.lenS rfl rfl ?_)))))))
 (refine Jx.move rfl rfl ?_)
 (refine J.call ((cl' b)) rfl (evs_args rfl) rfl ?_; rintro _ _ ⟨rfl, rfl⟩; simp only [la1, la2, la3])
 (refine Jx.sub64 rfl rfl (by omega) rfl ?_; rw [e0])
 (refine Jx.assign rfl rfl (J.nil (N.seq (W.seq (W.region (Jx.move rfl rfl ?_))))))
 (refine J.call ((cby' b)) rfl (evs_args rfl) rfl ?_; rintro _ _ ⟨a2, rfl, rfl⟩; simp only [la1, la2, la3])
 (refine Jx.assign rfl rfl (J.nil (N.seq (W.seq (W.seq (W.region (Jx.move rfl rfl ?_)))))))
 (refine J.call ((cco b a2 0)) rfl (evs_args rfl) rfl ?_; rintro _ _ ⟨rfl, rfl⟩; simp only [la1, la2, la3])
 (refine Jx.neqI rfl rfl rfl (Jx.move rfl rfl (J.gY rfl rfl rfl ?_)))
 (refine Jx.move rfl rfl (J.gY rfl rfl rfl ?_))
 (refine Jx.move rfl rfl (J.gY rfl rfl rfl ?_))
 (refine Jx.sliceSh (n := ((textB list).length : Int)) rfl rfl (by omega) (by omega) rfl ?_; rw [etn, htk])
 (refine J.gY rfl rfl rfl ?_)
 (refine J.call (csh) rfl (evs_args rfl) rfl ?_; rintro _ _ ⟨rfl, rfl⟩; simp only [la1, la2, la3])
 (refine J.gY rfl rfl rfl ?_)
 (refine Jx.sliceSh (n := 4) rfl rfl (by decide) h432 rfl ?_)
 (refine J.gY rfl rfl rfl ?_)
 (refine Jx.move rfl rfl (J.gY rfl rfl rfl ?_))
 (refine Jx.neqS rfl rfl rfl (Jx.pF rfl rfl rfl ?_))
 (refine J.nil (N.seq (W.cF rfl ?_)))
 (refine W.skip (N.seq (W.seq (W.region (Jx.move rfl rfl ?_)))))
 (refine J.call (cr2) rfl (evs_args rfl) rfl ?_; rintro _ _ ⟨b2, rfl, rfl⟩; simp only [la1, la2, la3])
 (refine Jx.assign rfl rfl (J.nil (N.seq (W.seq (W.region (Jx.move rfl rfl ?_))))))
 (refine J.call ((cli' b2)) rfl (evs_args rfl) rfl ?_; rintro _ _ ⟨a3, c3, rfl, rfl, h31, h32'⟩; simp only [la1, la2, la3])
 (refine Jx.assign rfl rfl (J.nil (N.seq (W.seq (W.seq (W.region (Jx.move rfl rfl ?_)))))))
 (refine J.call ((cen' b2 a3 c3 h31 h32')) rfl (evs_args rfl) rfl ?_; rintro _ _ ⟨a4, c4, rfl, rfl⟩; simp only [la1, la2, la3])
 (refine Jx.neqI rfl rfl rfl (J.nil (N.seq (W.cF rfl ?_))))
 (refine W.skip (N.seq (W.seq (W.region (Jx.move rfl rfl (Jx.move rfl rfl ?_))))))
 (refine Jx.add64 rfl rfl (by omega) rfl ?_; rw [e4])
 (refine Jx.assign rfl rfl (Jx.assign rfl rfl (Jx.assign rfl rfl (J.nil (N.seq (W.ret ?_))))))
 (refine id ?_; rotate_left))
          exact N.retD (rs := [.tmp 2, .tmp 3, .tmp 4]) (L1 := []) rfl (.tmp rfl (.tmp rfl (.tmp rfl .nil))) (List.nil_sublist _) ⟨rfl, rfl⟩
        · have cen' := fun b a3 c3 (h : a3 ≤ list.length) (h6 : lf list a3 c3 = q) => (cen b a3 c3 h).mono (R' := fun v L => ∃ (e : Int) (a4 : Nat) (c4 : Int), v = int e ∧ L = [rdO b ⟨list, a4, c4⟩] ∧ ¬ e = 0) (by
            rintro v L ⟨e, a4, c4, rfl, rfl, h7⟩
            exact ⟨e, a4, c4, rfl, rfl, fun h8 => hq (h6.symm.trans (h7.1 h8))⟩)
          have hno : nextP s = none := by
            unfold nextP; rw [ht]; simp only; rw [if_neg h4, if_pos h5', hp]
            cases q with
            | none => rfl
            | some x => cases x with
              | nil => exact absurd rfl hq
              | cons _ _ => rfl
          rw [next_bad hno]
          generalize Sha.shaS (textB list) = sh at *
          refine FnC.intro Tryd.func33 rfl Tryd.ntmps33 rfl fun Z w0 hG => ?_
          focus (
 (refine W.seq (W.region (Jx.assign rfl rfl (Jx.assign rfl rfl (Jx.assign rfl rfl (J.nil (N.seq (W.seq (W.region (Jx.move rfl rfl ?_))))))))))
 (refine J.call (cr) rfl (evs_args rfl) rfl ?_; rintro _ _ ⟨b, rfl, rfl⟩; simp only [la1, la2, la3])
 (refine Jx.assign rfl rfl (J.nil (N.seq (W.seq (W.region (Jx.move rfl rfl ?_))))))
 (refine J.call ((ct' b)) rfl (evs_args rfl) rfl ?_; rintro _ _ ⟨rfl, rfl⟩; simp only [la1, la2, la3])
 (refine Jx.assign rfl rfl (J.nil (N.seq (W.seq (W.region (Jx.move rfl rfl (Jx.lenS rfl rfl ?_)))))))
 (refine Jx.move rfl rfl ?_)
 (refine J.call ((cl' b)) rfl (evs_args rfl) rfl ?_; rintro _ _ ⟨rfl, rfl⟩; simp only [la1, la2, la3])
 (refine Jx.sub64 rfl rfl (by omega) rfl ?_; rw [e0])
 (refine Jx.assign rfl rfl (J.nil (N.seq (W.seq (W.region (Jx.move rfl rfl ?_))))))
 (refine J.call ((cby' b)) rfl (evs_args rfl) rfl ?_; rintro _ _ ⟨a2, rfl, rfl⟩; simp only [la1, la2, la3])
 (refine Jx.assign rfl rfl (J.nil (N.seq (W.seq (W.seq (W.region (Jx.move rfl rfl ?_)))))))
 (refine J.call ((cco b a2 0)) rfl (evs_args rfl) rfl ?_; rintro _ _ ⟨rfl, rfl⟩; simp only [la1, la2, la3])
 (refine Jx.neqI rfl rfl rfl (Jx.move rfl rfl (J.gY rfl rfl rfl ?_)))
 (refine Jx.move rfl rfl (J.gY rfl rfl rfl ?_))
 (refine Jx.move rfl rfl (J.gY rfl rfl rfl ?_))
 (refine Jx.sliceSh (n := ((textB list).length : Int)) rfl rfl (by omega) (by omega) rfl ?_; rw [etn, htk])
 (refine J.gY rfl rfl rfl ?_)
 (refine J.call (csh) rfl (evs_args rfl) rfl ?_; rintro _ _ ⟨rfl, rfl⟩; simp only [la1, la2, la3])
 (refine J.gY rfl rfl rfl ?_)
 (refine Jx.sliceSh (n := 4) rfl rfl (by decide) h432 rfl ?_)
 (refine J.gY rfl rfl rfl ?_)
 (refine Jx.move rfl rfl (J.gY rfl rfl rfl ?_))
 (refine Jx.neqS rfl rfl rfl (Jx.pF rfl rfl rfl ?_))
 (refine J.nil (N.seq (W.cF rfl ?_)))
 (refine W.skip (N.seq (W.seq (W.region (Jx.move rfl rfl ?_)))))
 (refine J.call (cr2) rfl (evs_args rfl) rfl ?_; rintro _ _ ⟨b2, rfl, rfl⟩; simp only [la1, la2, la3])
 (refine Jx.assign rfl rfl (J.nil (N.seq (W.seq (W.region (Jx.move rfl rfl ?_))))))
 (refine J.call ((cli' b2)) rfl (evs_args rfl) rfl ?_; rintro _ _ ⟨a3, c3, rfl, rfl, h31, h32'⟩; simp only [la1, la2, la3])
 (refine Jx.assign rfl rfl (J.nil (N.seq (W.seq (W.seq (W.region (Jx.move rfl rfl ?_)))))))
 (refine J.call ((cen' b2 a3 c3 h31 h32')) rfl (evs_args rfl) rfl ?_; rintro _ _ ⟨e, a4, c4, rfl, rfl, he⟩; simp only [la1, la2, la3])
 (refine Jx.neqI rfl rfl rfl (J.nil (N.seq (W.cT rfl ?_))))
 (refine W.seq (W.region (Jx.assign rfl rfl (Jx.assign rfl rfl (Jx.assign rfl rfl (J.nil (N.seq (W.ret (N.noGotoRet ?_)))))))))
 (refine id ?_; rotate_left))
          refine N.rowNil 9 1 (elOf encS [] []) ?_
          refine N.freeze 2 rfl (by decide) ?_
          exact N.retD (rs := [.tmp 2, .tmp 3, .tmp 4]) (L1 := []) rfl (.tmp rfl (.tmp rfl (.tmp rfl .nil))) (List.nil_sublist _) ⟨rfl, rfl⟩
      · have h5' : ¬ sum4 (textB list) = r.take 4 := h5
        rw [next_bad (by unfold nextP; rw [ht]; simp only; rw [if_neg h4, if_neg h5'])]
        generalize Sha.shaS (textB list) = sh at *
        refine FnC.intro Tryd.func33 rfl Tryd.ntmps33 rfl fun Z w0 hG => ?_
        focus (
 (refine W.seq (W.region (Jx.assign rfl rfl (Jx.assign rfl rfl (Jx.assign rfl rfl (J.nil (N.seq (W.seq (W.region (Jx.move rfl rfl ?_))))))))))
 (refine J.call (cr) rfl (evs_args rfl) rfl ?_; rintro _ _ ⟨b, rfl, rfl⟩; simp only [la1, la2, la3])
 (refine Jx.assign rfl rfl (J.nil (N.seq (W.seq (W.region (Jx.move rfl rfl ?_))))))
 (refine J.call ((ct' b)) rfl (evs_args rfl) rfl ?_; rintro _ _ ⟨rfl, rfl⟩; simp only [la1, la2, la3])
 (refine Jx.assign rfl rfl (J.nil (N.seq (W.seq (W.region (Jx.move rfl rfl (Jx.lenS rfl rfl ?_)))))))
 (refine Jx.move rfl rfl ?_)
 (refine J.call ((cl' b)) rfl (evs_args rfl) rfl ?_; rintro _ _ ⟨rfl, rfl⟩; simp only [la1, la2, la3])
 (refine Jx.sub64 rfl rfl (by omega) rfl ?_; rw [e0])
 (refine Jx.assign rfl rfl (J.nil (N.seq (W.seq (W.region (Jx.move rfl rfl ?_))))))
 (refine J.call ((cby' b)) rfl (evs_args rfl) rfl ?_; rintro _ _ ⟨a2, rfl, rfl⟩; simp only [la1, la2, la3])
 (refine Jx.assign rfl rfl (J.nil (N.seq (W.seq (W.seq (W.region (Jx.move rfl rfl ?_)))))))
 (refine J.call ((cco b a2 0)) rfl (evs_args rfl) rfl ?_; rintro _ _ ⟨rfl, rfl⟩; simp only [la1, la2, la3])
 (refine Jx.neqI rfl rfl rfl (Jx.move rfl rfl (J.gY rfl rfl rfl ?_)))
 (refine Jx.move rfl rfl (J.gY rfl rfl rfl ?_))
 (refine Jx.move rfl rfl (J.gY rfl rfl rfl ?_))
 (refine Jx.sliceSh (n := ((textB list).length : Int)) rfl rfl (by omega) (by omega) rfl ?_; rw [etn, htk])
 (refine J.gY rfl rfl rfl ?_)
 (refine J.call (csh) rfl (evs_args rfl) rfl ?_; rintro _ _ ⟨rfl, rfl⟩; simp only [la1, la2, la3])
 (refine J.gY rfl rfl rfl ?_)
 (refine Jx.sliceSh (n := 4) rfl rfl (by decide) h432 rfl ?_)
 (refine J.gY rfl rfl rfl ?_)
 (refine Jx.move rfl rfl (J.gY rfl rfl rfl ?_))
 (refine Jx.neqS rfl rfl rfl (Jx.pF rfl rfl rfl ?_))
 (refine J.nil (N.seq (W.cT rfl ?_)))
 (refine W.seq (W.region (Jx.assign rfl rfl (Jx.assign rfl rfl (Jx.assign rfl rfl (J.nil (N.seq (W.ret (N.noGotoRet ?_)))))))))
 (refine id ?_; rotate_left))
        refine N.rowNil 9 1 (elOf encS [] []) ?_
        refine N.freeze 2 rfl (by decide) ?_
        exact N.retD (rs := [.tmp 2, .tmp 3, .tmp 4]) (L1 := []) rfl (.tmp rfl (.tmp rfl (.tmp rfl .nil))) (List.nil_sublist _) ⟨rfl, rfl⟩
end Go.Proofs.YtbdkenlkimiddaaDoor
namespace Go.Proofs.YtbdkenlkimiddaaDoor
open Go Go.Sse
set_option linter.unusedVariables false
set_option linter.unusedSimpArgs false
set_option maxRecDepth 10000
abbrev tBt : Nat := 43
def encBt (b : Bt) : List SV := [ssl b]
abbrev btL (l : List Bt) : SV := .sl 1 l.length (elOf encBt [] l)
theorem scan_step {s : List UInt8} {w : Nat} {out : List Bt} {b : Bt} {n : Nat} (h : scanP s = (out ++ (scanP (s.drop w)).1, w + (scanP (s.drop w)).2)) (hn : nextP (s.drop w) = some (b, n)) :
    scanP s = ((out ++ [b]) ++ (scanP (s.drop (w + n))).1, w + n + (scanP (s.drop (w + n))).2) := by
  rw [h, scanP_some hn, List.drop_drop]
  simp only [List.append_assoc, List.cons_append, List.nil_append, Nat.add_assoc]
set_option maxHeartbeats 4000000 in
theorem Scan_ok (s : List UInt8) (hs : s.length ≤ 2097152) : FnC Tryd.prog 9 [str s] [] (fun r L => r = .tup [btL (scanP s).1, int ((scanP s).2 : Int)] ∧ L = []) := by
  refine FnC.intro Tryd.func9 rfl Tryd.ntmps9 rfl fun Z w0 hG => ?_
  focus (
 (refine W.seq (W.region (Jx.assign rfl rfl (Jx.assign rfl rfl (J.nil (N.seq (W.scopeS ?_)))))))
 (refine W.seq (W.label (N.seq (W.seq (W.block ?_)))))
 (refine id ?_; rotate_left))
  refine W.rowNil tBt 1 (elOf encBt [] []) ?_
  refine W.loop (α := List Bt × Nat × Value) (fun x => [(3, int (x.2.1 : Int)), (2, .val x.2.2), (0, str s)]) (fun x => [.row x.2.2 tBt 1 x.1.length (elOf encBt [] x.1)]) (fun x => x.2.1 ≤ s.length ∧ x.1.length ≤ x.2.1 ∧ scanP s = (x.1 ++ (scanP (s.drop x.2.1)).1, x.2.1 + (scanP (s.drop x.2.1)).2)) (fun x => s.length - x.2.1) ([], 0, .slice none 0 0) ⟨by simp, by simp, by simp⟩ rfl ⟨ref0 rfl, ref0 rfl, ref0 rfl, trivial⟩ ?_
  rintro ⟨out, w, v⟩ ⟨hw, hol, hsc⟩
  simp only at hw hol hsc ⊢
  by_cases h1 : w < s.length
  · have hdl : (s.drop w).length ≤ 1099511627776 := by rw [List.length_drop]; omega
    have cn := next_ok (s.drop w) hdl
    cases hn : nextP (s.drop w) with
    | none =>
      rw [next_bad hn] at cn
      have he : scanP s = (out, w) := by rw [hsc, scanP_none hn]; simp
      rw [he]
      focus (
 (refine W.seq (W.seq (W.region (Jx.move rfl rfl (Jx.move rfl rfl (Jx.lenS rfl rfl ?_))))))
 (refine Jx.lssI rfl rfl rfl (J.nil (N.seq (W.cT rfl ?_))))
 (refine W.skip (N.seq (W.block (W.seq (W.region (Jx.move rfl rfl (Jx.move rfl rfl ?_)))))))
 (refine Jx.sliceSl rfl rfl (by omega) (by omega) rfl ?_; rw [Int.toNat_natCast])
 (refine J.call (cn) rfl (evs_args rfl) rfl ?_; rintro _ _ ⟨rfl, rfl⟩; simp only [la1, la2, la3])
 (refine Jx.move rfl rfl (Jx.extract rfl rfl rfl ?_))
 (refine Jx.extract rfl rfl rfl ?_)
 (refine Jx.extract rfl rfl rfl ?_)
 (refine Jx.assign rfl rfl (Jx.assign rfl rfl (Jx.assign rfl rfl (J.nil (N.seq (W.seq (W.seq (W.region (Jx.move rfl rfl (Jx.not rfl rfl (J.nil (N.seq (W.cT rfl ?_)))))))))))))
 (refine W.exit (N.seq (W.seq (W.region (Jx.move rfl rfl (Jx.move rfl rfl (Jx.assign rfl rfl (Jx.assign rfl rfl (J.nil (N.seq (W.ret (N.noGotoRet ?_))))))))))))
 (refine id ?_; rotate_left))
      refine N.freeze 2 rfl (by simp only [maxLen]; omega) ?_
      exact N.retD (rs := [.tmp 2, .tmp 3]) (L1 := []) rfl (.tmp rfl (.tmp rfl .nil)) (List.nil_sublist _) ⟨rfl, rfl⟩
    | some p =>
      obtain ⟨b, n⟩ := p
      rw [next_good hn] at cn
      have hst := scan_step hsc hn
      have hle := nextP_le hn
      rw [List.length_drop] at hle
      have e1 : (w : Int) + (n : Int) = ((w + n : Nat) : Int) := by omega
      have hm : out.length + [b].length ≤ maxLen ∧ (out.length + [b].length) * 24 ≤ 140737488355328 := by simp only [maxLen, List.length_cons, List.length_nil]; omega
      focus (
 (refine W.seq (W.seq (W.region (Jx.move rfl rfl (Jx.move rfl rfl (Jx.lenS rfl rfl ?_))))))
 (refine Jx.lssI rfl rfl rfl (J.nil (N.seq (W.cT rfl ?_))))
 (refine W.skip (N.seq (W.block (W.seq (W.region (Jx.move rfl rfl (Jx.move rfl rfl ?_)))))))
 (refine Jx.sliceSl rfl rfl (by omega) (by omega) rfl ?_; rw [Int.toNat_natCast])
 (refine J.call (cn) rfl (evs_args rfl) rfl ?_; rintro _ _ ⟨rfl, rfl⟩; simp only [la1, la2, la3])
 (refine Jx.move rfl rfl (Jx.extract rfl rfl rfl ?_))
 (refine Jx.extract rfl rfl rfl ?_)
 (refine Jx.extract rfl rfl rfl ?_)
 (refine Jx.assign rfl rfl (Jx.assign rfl rfl (Jx.assign rfl rfl (J.nil (N.seq (W.seq (W.seq (W.region (Jx.move rfl rfl (Jx.not rfl rfl (J.nil (N.seq (W.cF rfl ?_)))))))))))))
 (refine W.skip (N.seq (W.seq (W.region (Jx.move rfl rfl (Jx.move rfl rfl ?_))))))
 (refine J.qs (Qs.buildL (fun b => ssl b) [] [b] (fun _ => One.sl) rfl rfl rfl (by decide) (by decide) rfl) rfl ?_)
 (refine J.appendAt (enc := encBt) (l := out) (l2 := [b]) 0 rfl rfl (SrcOK.sl rfl) rfl rfl hm rfl ?_; intro v2 hv2)
 (refine Jx.assign rfl rfl (J.nil (N.seq (W.region (Jx.move rfl rfl (Jx.move rfl rfl ?_))))))
 (refine Jx.add64 rfl rfl (by omega) rfl ?_; rw [e1])
 (refine Jx.assign rfl rfl (J.nil (N.noGotoNormal ?_)))
 (refine id ?_; rotate_left))
      exact N.round (out ++ [b], w + n, v2) ⟨by simp only; omega, by simp only [List.length_append, List.length_cons, List.length_nil]; omega, hst⟩ (by simp only; omega) rfl ⟨ref0 rfl, ref0 rfl, ref0 rfl, trivial⟩
  · have he : scanP s = (out, w) := by
      rw [hsc, show s.drop w = [] from List.drop_of_length_le (by omega), scanP_nil]; simp
    rw [he]
    focus (
 (refine W.seq (W.seq (W.region (Jx.move rfl rfl (Jx.move rfl rfl (Jx.lenS rfl rfl ?_))))))
 (refine Jx.lssI rfl rfl rfl (J.nil (N.seq (W.cF rfl ?_))))
 (refine W.exit (N.seq (W.seq (W.region (Jx.move rfl rfl (Jx.move rfl rfl (Jx.assign rfl rfl (Jx.assign rfl rfl (J.nil (N.seq (W.ret (N.noGotoRet ?_))))))))))))
 (refine id ?_; rotate_left))
    refine N.freeze 2 rfl (by simp only [maxLen]; omega) ?_
    exact N.retD (rs := [.tmp 2, .tmp 3]) (L1 := []) rfl (.tmp rfl (.tmp rfl .nil)) (List.nil_sublist _) ⟨rfl, rfl⟩
set_option maxHeartbeats 2000000 in
theorem same2_ok (l m : List Bt) (hb : ∀ b ∈ l, b.length ≤ 1048576) (hl : l.length ≤ 4194304) : FnC Tryd.prog 10 [btL l, btL m] [] (fun v L => v = bool (decide (l = m)) ∧ L = []) := by
  by_cases h0 : l.length = m.length
  · have h0' : (l.length : Int) = (m.length : Int) := by omega
    have h0'' : ¬ ((l.length : Int) ≠ (m.length : Int)) := fun h => h h0'
    refine FnC.intro Tryd.func10 rfl Tryd.ntmps10 rfl fun Z w0 hG => ?_
    focus (
 (refine W.seq (W.region (Jx.assign rfl rfl (J.nil (N.seq (W.seq (W.seq (W.region (Jx.move rfl rfl (Jx.lenSl rfl rfl ?_))))))))))
 (refine Jx.move rfl rfl (Jx.lenSl rfl rfl ?_))
 (refine Jx.neqI rfl rfl rfl (J.nil (N.seq (W.cF rfl ?_))))
 (refine W.skip (N.seq (W.seq (W.seq (W.region (Jx.assign rfl rfl (J.nil (N.seq (W.block ?_)))))))))
 (refine id ?_; rotate_left))
    refine W.loop (α := Nat) (fun i => [(5, int (i : Int)), (0, btL l), (1, btL m)]) (fun _ => []) (fun i => i ≤ l.length ∧ l.take i = m.take i) (fun i => l.length - i) 0 ⟨by simp, by simp⟩ rfl ⟨ref0 rfl, ref0 rfl, ref0 rfl, trivial⟩ ?_
    rintro i ⟨hi, ht⟩
    by_cases h1 : i < l.length
    · have h2 : i < m.length := by omega
      have e1 : l.take (i + 1) = l.take i ++ [l.getD i []] := by rw [List.take_add_one, List.getElem?_eq_getElem h1, List.getD_eq_getElem?_getD, List.getElem?_eq_getElem h1]; rfl
      have e2 : m.take (i + 1) = m.take i ++ [m.getD i []] := by rw [List.take_add_one, List.getElem?_eq_getElem h2, List.getD_eq_getElem?_getD, List.getElem?_eq_getElem h2]; rfl
      have hmem : l.getD i [] ∈ l := by rw [List.getD_eq_getElem?_getD, List.getElem?_eq_getElem h1]; exact List.getElem_mem _
      have cs := same_ok (l.getD i []) (m.getD i []) (hb _ hmem)
      by_cases h3 : l.getD i [] = m.getD i []
      · rw [decide_eq_true h3] at cs
        focus (
 (refine W.seq (W.seq (W.region (Jx.move rfl rfl (Jx.move rfl rfl (Jx.lenSl rfl rfl ?_))))))
 (refine Jx.lssI rfl rfl rfl (J.nil (N.seq (W.cT rfl ?_))))
 (refine W.skip (N.seq (W.seq (W.block (W.seq ?_)))))
 (refine W.draw follows ?_)
 (refine JD.calm rfl (by decide +kernel) ?_)
 (refine Cx.move rfl rfl ?_)
 (refine Cx.move rfl rfl ?_)
 (refine Cx.indexEl rfl rfl (by assumption) rfl rfl ?_)
 (refine Cx.loadPP rfl rfl ?_)
 (refine Cx.move rfl rfl ?_)
 (refine Cx.move rfl rfl ?_)
 (refine Cx.indexEl rfl rfl (by assumption) rfl rfl ?_)
 (refine Cx.loadPP rfl rfl ?_)
 (refine SegC.q (Qs.call (Lc := []) (cs) (fun s L' h => h) (List.Perm.refl _) (evs_args rfl)) rfl ?_)
 (refine Cx.not rfl rfl ?_)
 (refine SegC.nil ?_)
 (refine N.seq (W.cF rfl ?_))
 (refine W.skip (N.seq (W.region (Jx.move rfl rfl (Jx.add64 rfl rfl (by omega) rfl ?_)))))
 (refine Jx.assign rfl rfl (J.nil ?_))
 (refine id ?_; rotate_left))
        exact N.round (i + 1) ⟨h1, by rw [e1, e2, ht, h3]⟩ (by omega) rfl ⟨ref0 rfl, ref0 rfl, ref0 rfl, trivial⟩
      · rw [decide_eq_false h3] at cs
        rw [decide_eq_false (fun e : l = m => h3 (by rw [e]))]
        focus (
 (refine W.seq (W.seq (W.region (Jx.move rfl rfl (Jx.move rfl rfl (Jx.lenSl rfl rfl ?_))))))
 (refine Jx.lssI rfl rfl rfl (J.nil (N.seq (W.cT rfl ?_))))
 (refine W.skip (N.seq (W.seq (W.block (W.seq ?_)))))
 (refine W.draw follows ?_)
 (refine JD.calm rfl (by decide +kernel) ?_)
 (refine Cx.move rfl rfl ?_)
 (refine Cx.move rfl rfl ?_)
 (refine Cx.indexEl rfl rfl (by assumption) rfl rfl ?_)
 (refine Cx.loadPP rfl rfl ?_)
 (refine Cx.move rfl rfl ?_)
 (refine Cx.move rfl rfl ?_)
 (refine Cx.indexEl rfl rfl (by assumption) rfl rfl ?_)
 (refine Cx.loadPP rfl rfl ?_)
 (refine SegC.q (Qs.call (Lc := []) (cs) (fun s L' h => h) (List.Perm.refl _) (evs_args rfl)) rfl ?_)
 (refine Cx.not rfl rfl ?_)
 (refine SegC.nil ?_)
 (refine N.seq (W.cT rfl ?_))
 (refine W.seq (W.region (Jx.assign rfl rfl (J.nil (N.seq (W.ret (N.noGotoRet (N.noGotoRet (N.noGotoRet (N.noGotoRet (N.noGotoRet ?_)))))))))))
 (refine id ?_; rotate_left))
        exact N.ret (rs := [.tmp 4]) rfl (.tmp rfl .nil) ⟨rfl, rfl⟩
    · rw [List.take_of_length_le (by omega), List.take_of_length_le (by omega)] at ht
      rw [decide_eq_true ht]
      focus (
 (refine W.seq (W.seq (W.region (Jx.move rfl rfl (Jx.move rfl rfl (Jx.lenSl rfl rfl ?_))))))
 (refine Jx.lssI rfl rfl rfl (J.nil (N.seq (W.cF rfl ?_))))
 (refine W.exit (N.seq (W.seq (W.region (Jx.assign rfl rfl (J.nil (N.seq (W.ret ?_))))))))
 (refine id ?_; rotate_left))
      exact N.ret (rs := [.tmp 4]) rfl (.tmp rfl .nil) ⟨rfl, rfl⟩
  · have h0' : ¬ (l.length : Int) = (m.length : Int) := by omega
    rw [decide_eq_false (fun e : l = m => h0 (by rw [e]))]
    refine FnC.intro Tryd.func10 rfl Tryd.ntmps10 rfl fun Z w0 hG => ?_
    focus (
 (refine W.seq (W.region (Jx.assign rfl rfl (J.nil (N.seq (W.seq (W.seq (W.region (Jx.move rfl rfl (Jx.lenSl rfl rfl ?_))))))))))
 (refine Jx.move rfl rfl (Jx.lenSl rfl rfl ?_))
 (refine Jx.neqI rfl rfl rfl (J.nil (N.seq (W.cT rfl ?_))))
 (refine W.seq (W.region (Jx.assign rfl rfl (J.nil (N.seq (W.ret (N.noGotoRet ?_)))))))
 (refine id ?_; rotate_left))
    exact N.ret (rs := [.tmp 4]) rfl (.tmp rfl .nil) ⟨rfl, rfl⟩
end Go.Proofs.YtbdkenlkimiddaaDoor
namespace Go.Proofs.YtbdkenlkimiddaaDoor
open Go Go.Sse Go.ChangeShapes Go.WideShapes Go.ChangeAt Go.RowKit
set_option linter.unusedVariables false
set_option linter.unusedSimpArgs false
set_option maxRecDepth 100000
noncomputable def rdBts : Rd Tryd.prog 22 (List Bt) := Rd.slice (by kernel_rfl) (by kernel_rfl) rdStrs rfl
noncomputable def rdTwo : Rd Tryd.prog 34 { l : List Int // l.length = 2 } := Rd.array (E := 3) (by kernel_rfl) (by kernel_rfl) rdInt (fun n => int n) (fun _ => rfl) rfl
end Go.Proofs.YtbdkenlkimiddaaDoor
namespace Go.Proofs.YtbdkenlkimiddaaDoor
open Go Go.Sse
set_option linter.unusedVariables false
set_option linter.unusedSimpArgs false
set_option maxRecDepth 10000
end Go.Proofs.YtbdkenlkimiddaaDoor
namespace Go.Proofs.YtbdkenlkimiddaaDoor
open Go Go.Sse
set_option linter.unusedVariables false
set_option linter.unusedSimpArgs false
set_option maxRecDepth 10000
end Go.Proofs.YtbdkenlkimiddaaDoor
namespace Go.Proofs.YtbdkenlkimiddaaDoor
open Go Go.Sse
set_option linter.unusedVariables false
set_option linter.unusedSimpArgs false
set_option maxRecDepth 10000
end Go.Proofs.YtbdkenlkimiddaaDoor
namespace Go.Proofs.YtbdkenlkimiddaaDoor
open Go Go.Sse
set_option linter.unusedVariables false
set_option linter.unusedSimpArgs false
set_option maxRecDepth 10000
theorem ab_ok : okB [[97, 98]] = true := by decide +kernel
theorem ab_list : listB [[97, 98]] = [1, 1, 1, 2, 97, 98] := by decide +kernel
theorem x_none : nextP [120] = none := by decide +kernel
set_option maxHeartbeats 4000000 in
theorem works_ok : FnC Tryd.prog 7 [] [] (fun r L => r = bool true ∧ L = []) := by
  have c1 := Record_ok [[97, 98]]
  rw [recR_yes ab_ok] at c1
  have c2 := text_ok [1, 1, 1, 2, 97, 98] (by decide)
  have hb : textB [1, 1, 1, 2, 97, 98] = bodB [[97, 98]] := by rw [bodB, ab_list]
  rw [hb] at c2
  have hbl := bod_len ab_ok
  have hrl := rec_len ab_ok
  have c3 := Sha.hsum_ok (bodB [[97, 98]]) (by omega)
  have h32 := Sha.shaS_len (bodB [[97, 98]])
  have hrec : recB [[97, 98]] = bodB [[97, 98]] ++ (Sha.shaS (bodB [[97, 98]])).take (4 : Int).toNat := rfl
  have c4 := Scan_ok (recB [[97, 98]] ++ [120]) (by simp only [List.length_append, List.length_cons, List.length_nil]; omega)
  have hsc : scanP (recB [[97, 98]] ++ [120]) = ([[[97, 98]]], (recB [[97, 98]]).length) := by
    have := scanP_part (l := [[[97, 98]]]) (fun b hb => by rw [List.mem_singleton.1 hb]; exact ab_ok) x_none
    have e : recsB [[[97, 98]]] = recB [[97, 98]] := by simp [recsB]
    rw [e] at this; exact this
  rw [hsc] at c4
  simp only at c4
  generalize hR : recB [[97, 98]] = rr at *
  generalize hB : bodB [[97, 98]] = bb at *
  generalize hS : Sha.shaS bb = sh at *
  have h32' : (sh.length : Int) = 32 := by omega
  have h4 : (4 : Int) ≤ (sh.length : Int) := by omega
  refine FnC.intro Tryd.func7 rfl Tryd.ntmps7 rfl fun Z w0 hG => ?_
  focus (
 (refine W.seq (W.region (Jx.assign rfl rfl (J.nil (N.seq (W.seq (W.region ?_)))))))
 (refine J.qs (Qs.buildTexts [[97, 98]] rfl rfl rfl (by decide) (by decide)) rfl ?_)
 (refine J.call (c1) rfl (evs_args rfl) rfl ?_; rintro _ _ ⟨rfl, rfl⟩; simp only [la1, la2, la3])
 (refine Jx.move rfl rfl (Jx.extract rfl rfl rfl ?_))
 (refine Jx.extract rfl rfl rfl ?_)
 (refine Jx.assign rfl rfl (Jx.assign rfl rfl (J.nil (N.seq (W.seq (W.region ?_))))))
 (refine J.call (c2) rfl (evs_args rfl) rfl ?_; rintro _ _ ⟨rfl, rfl⟩; simp only [la1, la2, la3])
 (refine Jx.assign rfl rfl (J.nil (N.seq (W.seq (W.region (Jx.move rfl rfl ?_))))))
 (refine J.call (c3) rfl (evs_args rfl) rfl ?_; rintro _ _ ⟨rfl, rfl⟩; simp only [la1, la2, la3])
 (refine Jx.assign rfl rfl (J.nil (N.seq (W.seq (W.region (Jx.move rfl rfl (Jx.cat rfl rfl (by simp only [maxLen, List.length_cons, List.length_nil, List.length_take]; omega) rfl ?_)))))))
 (refine J.call (c4) rfl (evs_args rfl) rfl ?_; rintro _ _ ⟨rfl, rfl⟩; simp only [la1, la2, la3])
 (refine Jx.move rfl rfl (Jx.extract rfl rfl rfl ?_))
 (refine Jx.extract rfl rfl rfl ?_)
 (refine Jx.assign rfl rfl (Jx.assign rfl rfl (J.nil (N.seq (W.seq (W.region (Jx.move rfl rfl (Jx.lenS rfl rfl ?_))))))))
 (refine Jx.eqlI rfl rfl rfl (Jx.move rfl rfl (J.gY rfl rfl rfl ?_)))
 (refine Jx.move rfl rfl (J.gY rfl rfl rfl ?_))
 (refine Jx.move rfl rfl (J.gY rfl rfl rfl ?_))
 (refine Jx.move rfl rfl (J.gY rfl rfl rfl ?_))
 (refine Jx.sliceSh rfl rfl (by decide) h4 rfl ?_)
 (refine J.gY rfl rfl rfl ?_)
 (refine Jx.cat rfl rfl (by simp only [maxLen, List.length_cons, List.length_nil, List.length_take]; omega) rfl ?_)
 (refine J.gY rfl rfl rfl ?_)
 (refine Jx.eqlS rfl rfl rfl (Jx.pT rfl rfl rfl ?_))
 (refine Jx.move rfl rfl (J.gY rfl rfl rfl ?_))
 (refine Jx.move rfl rfl (J.gY rfl rfl rfl ?_))
 (refine Jx.eqlI rfl rfl rfl (Jx.pT rfl rfl rfl ?_))
 (refine Jx.move rfl rfl (J.gY rfl rfl rfl ?_))
 (refine Jx.move rfl rfl (J.gY rfl rfl rfl ?_))
 (refine Jx.lenSl rfl rfl ?_)
 (refine J.gY rfl rfl rfl ?_)
 (refine Jx.eqlI rfl rfl rfl (Jx.pT rfl rfl rfl ?_))
 (refine Jx.move rfl rfl (J.gY rfl rfl rfl ?_))
 (refine Jx.move rfl rfl (J.gY rfl rfl rfl ?_))
 (refine Jx.indexEl (j := 0) rfl rfl (by decide) rfl rfl ?_)
 (refine J.gY rfl rfl rfl ?_)
 (refine Jx.loadPP rfl rfl ?_)
 (refine J.gY rfl rfl rfl ?_)
 (refine Jx.lenSl rfl rfl ?_)
 (refine J.gY rfl rfl rfl ?_)
 (refine Jx.eqlI rfl rfl rfl (Jx.pT rfl rfl rfl ?_))
 (refine Jx.move rfl rfl (J.gY rfl rfl rfl ?_))
 (refine Jx.move rfl rfl (J.gY rfl rfl rfl ?_))
 (refine Jx.indexEl (j := 0) rfl rfl (by decide) rfl rfl ?_)
 (refine J.gY rfl rfl rfl ?_)
 (refine Jx.loadPP rfl rfl ?_)
 (refine J.gY rfl rfl rfl ?_)
 (refine Jx.indexEl (j := 0) rfl rfl (by decide) rfl rfl ?_)
 (refine J.gY rfl rfl rfl ?_)
 (refine Jx.loadPP rfl rfl ?_)
 (refine J.gY rfl rfl rfl ?_)
 (refine Jx.eqlS rfl rfl rfl (Jx.pT rfl rfl rfl ?_))
 (refine Jx.move rfl rfl (J.gY rfl rfl rfl ?_))
 (refine Jx.move rfl rfl (J.gY rfl rfl rfl ?_))
 (refine Jx.move rfl rfl (J.gY rfl rfl rfl ?_))
 (refine Jx.lenS rfl rfl ?_)
 (refine J.gY rfl rfl rfl ?_)
 (refine Jx.eqlI rfl rfl rfl (Jx.pT rfl rfl rfl ?_))
 (refine Jx.assign rfl rfl (J.nil (N.seq (W.ret ?_))))
 (refine id ?_; rotate_left))
  exact N.ret (rs := [.tmp 0]) rfl (.tmp rfl .nil) ⟨by simp [oneOr], rfl⟩
abbrev isl (l : List Int) : SV := .sl 1 l.length (elOf (fun n => [int n]) 0 l)
def wrB (l : List Bt) : Bool := decide (l.length ≤ 10) && l.all (fun b => fewB b 10 200)
theorem wrB_spec {l : List Bt} (h : wrB l = true) : l.length ≤ 10 ∧ ∀ b ∈ l, fewB b 10 200 = true := by
  simp only [wrB, Bool.and_eq_true, decide_eq_true_eq, List.all_eq_true] at h
  exact h
theorem texts_small : ∀ {b : Bt}, (∀ s ∈ b, s.length ≤ 200) → ((b.map textB).flatten).length ≤ 209 * b.length
  | [], _ => by simp
  | s :: b, h => by
    have h1 := texts_small (b := b) (fun t ht => h t (List.mem_cons_of_mem _ ht))
    have h2 := h s (List.mem_cons_self ..)
    have h3 := (numB_len (n := s.length) (by omega)).2
    simp only [List.map_cons, List.flatten_cons, List.length_append, List.length_cons, textB]
    omega
theorem few_rec {b : Bt} (h : fewB b 10 200 = true) : okB b = true ∧ (recB b).length ≤ 2200 := by
  obtain ⟨h1, h2⟩ := few_spec (n := 10) (e := 200) h
  have h3 := texts_small h2
  have h4 := (numB_len (n := b.length) (by omega)).2
  have h5 : (listB b).length ≤ 2099 := by simp only [listB, List.length_append]; omega
  have h6 := (numB_len (n := (listB b).length) (by omega)).2
  refine ⟨(okB_iff _).2 ⟨by omega, fun s hs => by have := h2 s hs; omega, by omega⟩, ?_⟩
  rw [recB_len, bodB, textB, List.length_append]; omega
theorem recs_len : ∀ {l : List Bt}, (∀ b ∈ l, fewB b 10 200 = true) → (recsB l).length ≤ 2200 * l.length
  | [], _ => by simp [recsB]
  | b :: l, h => by
    have h1 := recs_len (l := l) (fun t ht => h t (List.mem_cons_of_mem _ ht))
    have h2 := (few_rec (h b (List.mem_cons_self ..))).2
    rw [recsB_cons, List.length_append, List.length_cons]; omega
theorem take_up {α : Type} (l : List α) (d : α) {i : Nat} (h : i < l.length) : l.take (i + 1) = l.take i ++ [l.getD i d] := by
  rw [List.take_add_one, List.getElem?_eq_getElem h, List.getD_eq_getElem?_getD, List.getElem?_eq_getElem h]; rfl
theorem mem_getD {α : Type} (l : List α) (d : α) {i : Nat} (h : i < l.length) : l.getD i d ∈ l := by
  rw [List.getD_eq_getElem?_getD, List.getElem?_eq_getElem h]; exact List.getElem_mem _
theorem recs_up (l : List Bt) {i : Nat} (h : i < l.length) : recsB (l.take (i + 1)) = recsB (l.take i) ++ recB (l.getD i []) := by
  rw [take_up l [] h, recsB_append, recsB_cons]; simp [recsB]
def endsP (l : List Bt) (k : Nat) : List Int := (List.range k).map (fun i => (((recsB (l.take (i + 1))).length : Nat) : Int))
theorem endsP_len (l : List Bt) (k : Nat) : (endsP l k).length = k := by simp [endsP]
theorem endsP_up (l : List Bt) (k : Nat) : endsP l (k + 1) = endsP l k ++ [(((recsB (l.take (k + 1))).length : Nat) : Int)] := by
  simp [endsP, List.range_succ]
set_option maxHeartbeats 4000000 in
theorem written_no (l : List Bt) (hw : wrB l = false) : FnC Tryd.prog 8 [btL l] [] (fun r L => r = .tup [str [], isl [], bool false] ∧ L = []) := by
  refine FnC.intro Tryd.func8 rfl Tryd.ntmps8 rfl fun Z w0 hG => ?_
  by_cases h0 : (10 : Int) < (l.length : Int)
  · focus (
 (refine W.seq (W.region (Jx.assign rfl rfl (Jx.assign rfl rfl (Jx.assign rfl rfl (J.nil (N.seq (W.seq (W.region (Jx.assign rfl rfl (J.nil (N.seq (W.seq (W.region ?_))))))))))))))
 (refine Jx.assign rfl rfl (J.nil (N.seq (W.seq (W.seq (W.region (Jx.move rfl rfl (Jx.lenSl rfl rfl ?_))))))))
 (refine Jx.gtrI rfl rfl rfl (J.nil (N.seq (W.cT rfl ?_))))
 (refine W.seq (W.region (Jx.assign rfl rfl (Jx.assign rfl rfl (Jx.assign rfl rfl (J.nil (N.seq (W.ret (N.noGotoRet ?_)))))))))
 (refine id ?_; rotate_left))
    refine N.told (G := [(2, str []), (3, isl []), (4, bool false)]) ⟨ref0 rfl, ⟨_, rfl, Sub.nil 1 _⟩, ref0 rfl, trivial⟩ ?_
    exact N.ret (rs := [.tmp 2, .tmp 3, .tmp 4]) rfl (.tmp rfl (.tmp rfl (.tmp rfl .nil))) ⟨rfl, rfl⟩
  · focus (
 (refine W.seq (W.region (Jx.assign rfl rfl (Jx.assign rfl rfl (Jx.assign rfl rfl (J.nil (N.seq (W.seq (W.region (Jx.assign rfl rfl (J.nil (N.seq (W.seq (W.region ?_))))))))))))))
 (refine Jx.assign rfl rfl (J.nil (N.seq (W.seq (W.seq (W.region (Jx.move rfl rfl (Jx.lenSl rfl rfl ?_))))))))
 (refine Jx.gtrI rfl rfl rfl (J.nil (N.seq (W.cF rfl ?_))))
 (refine W.skip (N.seq (W.seq (W.seq (W.region (Jx.move rfl rfl (Jx.lenSl rfl rfl ?_)))))))
 (refine Jx.move rfl rfl (J.nil (N.seq (W.block ?_))))
 (refine id ?_; rotate_left))
    refine W.rowNil 3 1 (elOf (fun n => [int n]) 0 []) ?_
    refine W.loop (α := Nat × Value) (fun x => [(16, int (x.1 : Int)), (15, int (l.length : Int)), (14, btL l), (5, str (recsB (l.take x.1))), (6, .val x.2)]) (fun x => [.row x.2 3 1 (endsP l x.1).length (elOf (fun n => [int n]) 0 (endsP l x.1))]) (fun x => x.1 ≤ l.length ∧ (∀ b ∈ l.take x.1, fewB b 10 200 = true)) (fun x => l.length - x.1) (0, .slice none 0 0) ⟨by simp, by simp⟩ rfl ⟨ref0 rfl, ref0 rfl, ref0 rfl, ref0 rfl, ref0 rfl, trivial⟩ ?_
    rintro ⟨i, v⟩ ⟨hi, hall⟩
    simp only at hi hall ⊢
    by_cases h1 : i < l.length
    · have hm := mem_getD l [] h1
      have cf := few_ok (l.getD i []) 10 200 (by decide)
      have cr := Record_ok (l.getD i [])
      cases hf : fewB (l.getD i []) 10 200 with
      | false =>
        rw [hf] at cf
        focus (
 (refine W.seq (W.region (Jx.lssI rfl rfl rfl (J.nil (N.seq (W.seq (W.cT rfl ?_)))))))
 (refine W.skip (N.seq (W.seq (W.block (W.seq (W.region (Jx.indexEl rfl rfl (by assumption) rfl rfl ?_)))))))
 (refine Jx.loadPP rfl rfl ?_)
 (refine Jx.assign rfl rfl (J.nil (N.seq (W.seq (W.region (Jx.move rfl rfl ?_))))))
 (refine J.call (cr) rfl (evs_args rfl) rfl ?_; rintro _ _ ⟨rfl, rfl⟩; simp only [la1, la2, la3])
 (refine Jx.move rfl rfl (Jx.extract rfl rfl rfl ?_))
 (refine Jx.extract rfl rfl rfl ?_)
 (refine Jx.assign rfl rfl (Jx.assign rfl rfl (J.nil (N.seq (W.seq (W.seq (W.region (Jx.move rfl rfl ?_))))))))
 (refine J.call (cf) rfl (evs_args rfl) rfl ?_; rintro _ _ ⟨rfl, rfl⟩; simp only [la1, la2, la3])
 (refine Jx.not rfl rfl (Jx.move rfl rfl (J.gN rfl rfl rfl rfl ?_)))
 (refine J.gN rfl rfl rfl rfl ?_)
 (refine Jx.pT rfl rfl rfl ?_)
 (refine J.nil (N.seq (W.cT rfl ?_)))
 (refine W.seq (W.region (Jx.assign rfl rfl (Jx.assign rfl rfl (Jx.assign rfl rfl (J.nil (N.seq (W.ret (N.noGotoRet (N.noGotoRet (N.noGotoRet (N.noGotoRet (N.noGotoRet (N.noGotoRet ?_))))))))))))))
 (refine id ?_; rotate_left))
        refine N.told (G := [(2, str []), (3, isl []), (4, bool false)]) ⟨ref0 rfl, ⟨_, rfl, Sub.nil 1 _⟩, ref0 rfl, trivial⟩ ?_
        exact N.retD (rs := [.tmp 2, .tmp 3, .tmp 4]) (L1 := []) rfl (.tmp rfl (.tmp rfl (.tmp rfl .nil))) (List.nil_sublist _) ⟨rfl, rfl⟩
      | true =>
        rw [hf] at cf
        obtain ⟨hok, hr⟩ := few_rec hf
        rw [recR_yes hok] at cr
        have hl1 := recs_len hall
        rw [List.length_take] at hl1
        have hup := recs_up l h1
        have hcat : (recsB (l.take i)).length + (recB (l.getD i [])).length ≤ 9223372036854775807 := by omega
        have hal := endsP_len l i
        have hmx : (endsP l i).length + [(((recsB (l.take i) ++ recB (l.getD i [])).length : Nat) : Int)].length ≤ maxLen ∧ ((endsP l i).length + [(((recsB (l.take i) ++ recB (l.getD i [])).length : Nat) : Int)].length) * 8 ≤ 140737488355328 := by simp only [maxLen, List.length_cons, List.length_nil]; omega
        focus (
 (refine W.seq (W.region (Jx.lssI rfl rfl rfl (J.nil (N.seq (W.seq (W.cT rfl ?_)))))))
 (refine W.skip (N.seq (W.seq (W.block (W.seq (W.region (Jx.indexEl rfl rfl (by assumption) rfl rfl ?_)))))))
 (refine Jx.loadPP rfl rfl ?_)
 (refine Jx.assign rfl rfl (J.nil (N.seq (W.seq (W.region (Jx.move rfl rfl ?_))))))
 (refine J.call (cr) rfl (evs_args rfl) rfl ?_; rintro _ _ ⟨rfl, rfl⟩; simp only [la1, la2, la3])
 (refine Jx.move rfl rfl (Jx.extract rfl rfl rfl ?_))
 (refine Jx.extract rfl rfl rfl ?_)
 (refine Jx.assign rfl rfl (Jx.assign rfl rfl (J.nil (N.seq (W.seq (W.seq (W.region (Jx.move rfl rfl ?_))))))))
 (refine J.call (cf) rfl (evs_args rfl) rfl ?_; rintro _ _ ⟨rfl, rfl⟩; simp only [la1, la2, la3])
 (refine Jx.not rfl rfl (Jx.move rfl rfl (J.gY rfl rfl rfl ?_)))
 (refine Jx.move rfl rfl (J.gY rfl rfl rfl ?_))
 (refine Jx.neqI rfl rfl rfl (Jx.pF rfl rfl rfl ?_))
 (refine J.nil (N.seq (W.cF rfl ?_)))
 (refine W.skip (N.seq (W.seq (W.region (Jx.move rfl rfl (Jx.move rfl rfl ?_))))))
 (refine Jx.cat rfl rfl hcat rfl ?_)
 (refine Jx.assign rfl rfl (J.nil (N.seq (W.region (Jx.move rfl rfl (Jx.move rfl rfl (Jx.lenS rfl rfl ?_)))))))
 (refine J.qs (Qs.buildL (fun n : Int => int n) 0 [(((recsB (l.take i) ++ recB (l.getD i [])).length : Nat) : Int)] (fun _ => .val rfl) rfl rfl rfl (by decide) (by decide) rfl) rfl ?_)
 (refine J.appendAt (l := endsP l i) (l2 := [(((recsB (l.take i) ++ recB (l.getD i [])).length : Nat) : Int)]) 0 rfl rfl (SrcOK.sl rfl) rfl rfl hmx rfl ?_; intro v2 hv2)
 (refine Jx.assign rfl rfl (J.nil (N.seq (W.region (Jx.add64 rfl rfl (by omega) rfl ?_)))))
 (refine Jx.move rfl rfl (J.nil ?_))
 (refine id ?_; rotate_left))
        exact N.round (i + 1, v2) ⟨h1, fun b hb => by
          simp only at hb
          rw [take_up l [] h1] at hb
          rcases List.mem_append.1 hb with hb | hb
          · exact hall b hb
          · rw [List.mem_singleton.1 hb]; exact hf⟩ (by simp only; omega) (by simp only; rw [endsP_up, hup]; rfl) ⟨ref0 rfl, ref0 rfl, ref0 rfl, ⟨_, rfl, Sub.of_eq (by simp only; rw [hup])⟩, ref0 rfl, trivial⟩
    · have hil : i = l.length := by omega
      rw [hil, List.take_length] at hall
      have : wrB l = true := by simp only [wrB, Bool.and_eq_true, decide_eq_true_eq, List.all_eq_true]; exact ⟨by omega, hall⟩
      rw [hw] at this; cases this
set_option maxHeartbeats 4000000 in
theorem written_yes (l : List Bt) (hw : wrB l = true) : FnC Tryd.prog 8 [btL l] [] (fun r L => r = .tup [str (recsB l), isl (endsP l l.length), bool true] ∧ L = []) := by
  obtain ⟨w1, w2⟩ := wrB_spec hw
  refine FnC.intro Tryd.func8 rfl Tryd.ntmps8 rfl fun Z w0 hG => ?_
  have h0 : ¬ (10 : Int) < (l.length : Int) := by omega
  focus (
 (refine W.seq (W.region (Jx.assign rfl rfl (Jx.assign rfl rfl (Jx.assign rfl rfl (J.nil (N.seq (W.seq (W.region (Jx.assign rfl rfl (J.nil (N.seq (W.seq (W.region ?_))))))))))))))
 (refine Jx.assign rfl rfl (J.nil (N.seq (W.seq (W.seq (W.region (Jx.move rfl rfl (Jx.lenSl rfl rfl ?_))))))))
 (refine Jx.gtrI rfl rfl rfl (J.nil (N.seq (W.cF rfl ?_))))
 (refine W.skip (N.seq (W.seq (W.seq (W.region (Jx.move rfl rfl (Jx.lenSl rfl rfl ?_)))))))
 (refine Jx.move rfl rfl (J.nil (N.seq (W.block ?_))))
 (refine id ?_; rotate_left))
  refine W.rowNil 3 1 (elOf (fun n => [int n]) 0 []) ?_
  refine W.loop (α := Nat × Value) (fun x => [(16, int (x.1 : Int)), (15, int (l.length : Int)), (14, btL l), (5, str (recsB (l.take x.1))), (6, .val x.2)]) (fun x => [.row x.2 3 1 (endsP l x.1).length (elOf (fun n => [int n]) 0 (endsP l x.1))]) (fun x => x.1 ≤ l.length) (fun x => l.length - x.1) (0, .slice none 0 0) (by simp) rfl ⟨ref0 rfl, ref0 rfl, ref0 rfl, ref0 rfl, ref0 rfl, trivial⟩ ?_
  rintro ⟨i, v⟩ hi
  simp only at hi ⊢
  by_cases h1 : i < l.length
  · have hf := w2 _ (mem_getD l [] h1)
    have cf := few_ok (l.getD i []) 10 200 (by decide)
    have cr := Record_ok (l.getD i [])
    rw [hf] at cf
    obtain ⟨hok, hr⟩ := few_rec hf
    rw [recR_yes hok] at cr
    have hl1 := recs_len (l := l.take i) (fun b hb => w2 b (List.mem_of_mem_take hb))
    rw [List.length_take] at hl1
    have hup := recs_up l h1
    have hcat : (recsB (l.take i)).length + (recB (l.getD i [])).length ≤ 9223372036854775807 := by omega
    have hal := endsP_len l i
    have hmx : (endsP l i).length + [(((recsB (l.take i) ++ recB (l.getD i [])).length : Nat) : Int)].length ≤ maxLen ∧ ((endsP l i).length + [(((recsB (l.take i) ++ recB (l.getD i [])).length : Nat) : Int)].length) * 8 ≤ 140737488355328 := by simp only [maxLen, List.length_cons, List.length_nil]; omega
    focus (
 (refine W.seq (W.region (Jx.lssI rfl rfl rfl (J.nil (N.seq (W.seq (W.cT rfl ?_)))))))
 (refine W.skip (N.seq (W.seq (W.block (W.seq (W.region (Jx.indexEl rfl rfl (by assumption) rfl rfl ?_)))))))
 (refine Jx.loadPP rfl rfl ?_)
 (refine Jx.assign rfl rfl (J.nil (N.seq (W.seq (W.region (Jx.move rfl rfl ?_))))))
 (refine J.call (cr) rfl (evs_args rfl) rfl ?_; rintro _ _ ⟨rfl, rfl⟩; simp only [la1, la2, la3])
 (refine Jx.move rfl rfl (Jx.extract rfl rfl rfl ?_))
 (refine Jx.extract rfl rfl rfl ?_)
 (refine Jx.assign rfl rfl (Jx.assign rfl rfl (J.nil (N.seq (W.seq (W.seq (W.region (Jx.move rfl rfl ?_))))))))
 (refine J.call (cf) rfl (evs_args rfl) rfl ?_; rintro _ _ ⟨rfl, rfl⟩; simp only [la1, la2, la3])
 (refine Jx.not rfl rfl (Jx.move rfl rfl (J.gY rfl rfl rfl ?_)))
 (refine Jx.move rfl rfl (J.gY rfl rfl rfl ?_))
 (refine Jx.neqI rfl rfl rfl (Jx.pF rfl rfl rfl ?_))
 (refine J.nil (N.seq (W.cF rfl ?_)))
 (refine W.skip (N.seq (W.seq (W.region (Jx.move rfl rfl (Jx.move rfl rfl ?_))))))
 (refine Jx.cat rfl rfl hcat rfl ?_)
 (refine Jx.assign rfl rfl (J.nil (N.seq (W.region (Jx.move rfl rfl (Jx.move rfl rfl (Jx.lenS rfl rfl ?_)))))))
 (refine J.qs (Qs.buildL (fun n : Int => int n) 0 [(((recsB (l.take i) ++ recB (l.getD i [])).length : Nat) : Int)] (fun _ => .val rfl) rfl rfl rfl (by decide) (by decide) rfl) rfl ?_)
 (refine J.appendAt (l := endsP l i) (l2 := [(((recsB (l.take i) ++ recB (l.getD i [])).length : Nat) : Int)]) 0 rfl rfl (SrcOK.sl rfl) rfl rfl hmx rfl ?_; intro v2 hv2)
 (refine Jx.assign rfl rfl (J.nil (N.seq (W.region (Jx.add64 rfl rfl (by omega) rfl ?_)))))
 (refine Jx.move rfl rfl (J.nil ?_))
 (refine id ?_; rotate_left))
    exact N.round (i + 1, v2) h1 (by simp only; omega) (by simp only; rw [endsP_up, hup]; rfl) ⟨ref0 rfl, ref0 rfl, ref0 rfl, ⟨_, rfl, Sub.of_eq (by simp only; rw [hup])⟩, ref0 rfl, trivial⟩
  · have hil : i = l.length := by omega
    subst hil
    rw [List.take_length]
    have hmx : (endsP l l.length).length ≤ maxLen := by rw [endsP_len]; simp only [maxLen]; omega
    focus (
 (refine W.seq (W.region (Jx.lssI rfl rfl rfl (J.nil (N.seq (W.seq (W.cF rfl ?_)))))))
 (refine W.exit (N.seq (W.seq (W.region (Jx.move rfl rfl (Jx.move rfl rfl (Jx.assign rfl rfl (Jx.assign rfl rfl (Jx.assign rfl rfl (J.nil (N.seq (W.ret ?_))))))))))))
 (refine id ?_; rotate_left))
    refine N.freeze 3 rfl hmx ?_
    exact N.retD (rs := [.tmp 2, .tmp 3, .tmp 4]) (L1 := []) rfl (.tmp rfl (.tmp rfl (.tmp rfl .nil))) (List.nil_sublist _) ⟨rfl, rfl⟩
end Go.Proofs.YtbdkenlkimiddaaDoor
namespace Go.Proofs.YtbdkenlkimiddaaDoor
open Go Go.Sse
set_option linter.unusedVariables false
set_option linter.unusedSimpArgs false
set_option maxRecDepth 10000
def below (x : Int) (n : Nat) : Int := (x.tmod n + n) % n
theorem below_le (x : Int) (n : Nat) (h : 0 < n) : 0 ≤ below x n ∧ below x n < n := ⟨Int.emod_nonneg _ (by omega), Int.emod_lt_of_pos _ (by omega)⟩
theorem below_ok (x : Int) (n : Nat) (h : 0 < n) (hn : n ≤ 1048576) : FnC Tryd.prog 11 [int x, int (n : Int)] [] (fun s L => s = int (below x n) ∧ L = []) := by
  have h1 : -(n : Int) < x.tmod n ∧ x.tmod n < n := ⟨by have := Int.lt_tmod_of_pos x (show (0 : Int) < n by omega); omega, Int.tmod_lt_of_pos x (by omega)⟩
  have hb : below x n = (x.tmod n + n) % n := rfl
  refine FnC.intro Tryd.func11 rfl Tryd.ntmps11 rfl fun Z w0 hG => ?_
  focus (
 (refine W.seq (W.region (Jx.assign rfl rfl (J.nil (N.seq (W.seq (W.region (Jx.move rfl rfl (Jx.move rfl rfl (Jx.rem rfl rfl (by omega) rfl ?_))))))))))
 (refine Jx.move rfl rfl (Jx.add64 rfl rfl (by omega) rfl ?_))
 (refine Jx.move rfl rfl (Jx.rem64 rfl rfl (by omega) (by omega) rfl ?_))
 (refine Jx.assign rfl rfl (J.nil (N.seq (W.ret ?_))))
 (refine id ?_; rotate_left))
  exact N.ret (rs := [.tmp 4]) rfl (.tmp rfl .nil) ⟨by rw [hb]; rfl, rfl⟩
end Go.Proofs.YtbdkenlkimiddaaDoor
namespace Go.Proofs.YtbdkenlkimiddaaDoor
open Go Go.Sse
set_option linter.unusedVariables false
set_option linter.unusedSimpArgs false
set_option maxRecDepth 10000
theorem recs_mono (l : List Bt) {i j : Nat} (h : i ≤ j) : (recsB (l.take i)).length ≤ (recsB (l.take j)).length := by
  have : l.take j = l.take i ++ (l.take j).drop i := by
    have := (List.take_append_drop i (l.take j)).symm
    rwa [List.take_take, Nat.min_eq_left h] at this
  rw [this, recsB_append, List.length_append]; omega
theorem recs_split (l : List Bt) (i : Nat) : recsB l = recsB (l.take i) ++ recsB (l.drop i) := by
  rw [← recsB_append, List.take_append_drop]
theorem drop_up {α : Type} (l : List α) (d : α) {i : Nat} (h : i < l.length) : l.drop i = l.getD i d :: l.drop (i + 1) := by
  rw [List.drop_eq_getElem_cons h, List.getD_eq_getElem?_getD, List.getElem?_eq_getElem h]; rfl
theorem scan_cut {l : List Bt} (hok : ∀ b ∈ l, okB b = true) {m k : Nat} (hm : m ≤ l.length) (h1 : (recsB (l.take m)).length ≤ k) (h2 : m < l.length → k < (recsB (l.take (m + 1))).length) :
    scanP ((recsB l).take k) = (l.take m, (recsB (l.take m)).length) := by
  have e : (recsB l).take k = recsB (l.take m) ++ (recsB (l.drop m)).take (k - (recsB (l.take m)).length) := by
    rw [recs_split l m, List.take_append, List.take_of_length_le h1]
  rw [e]
  refine scanP_part (fun b hb => hok b (List.mem_of_mem_take hb)) ?_
  rcases Nat.lt_or_ge m l.length with h3 | h3
  · rw [drop_up l [] h3, recsB_cons]
    have h4 := h2 h3
    rw [recs_up l h3, List.length_append] at h4
    exact nextP_cut (hok _ (mem_getD l [] h3)) _ (by omega)
  · rw [List.drop_of_length_le h3]
    simpa [recsB] using nextP_nil
end Go.Proofs.YtbdkenlkimiddaaDoor
namespace Go.Proofs.YtbdkenlkimiddaaDoor.Dsk
open Go Go.Sse
set_option linter.unusedVariables false
set_option linter.unusedSimpArgs false
set_option maxRecDepth 10000
structure Dk where
  bytes : List UInt8
  safe : Int
  room : Int
  fuse : Int
  down : Bool
abbrev tDk : Nat := 71
abbrev dk (b : Nat) (d : Dk) : Own := .obj b tDk [bsl d.bytes, int d.safe, int d.room, int d.fuse, bool d.down]
def Dk.burn (d : Dk) : Dk := { d with fuse := if 0 < d.fuse then d.fuse - 1 else d.fuse }
def Dk.dead (d : Dk) : Dk := { d with down := true }
theorem change_dead (b : Nat) (d : Dk) (h0 : d.fuse = 0) : FnC Tryd.prog 41 [ptr b] [dk b d] (fun s L => s = int 311 ∧ L = [dk b d.dead]) := by
  refine FnC.intro Tryd.func41 rfl Tryd.ntmps41 rfl fun Z w0 hG => ?_
  focus (
 (refine W.seq (W.region (Jx.assign rfl rfl (J.nil (N.seq (W.seq (W.seq (W.region (Jx.move rfl rfl (Jx.nilCheck rfl rfl ?_))))))))))
 (refine Jx.fieldAddr rfl rfl ?_)
 (refine Jx.load rfl 0 rfl rfl rfl ?_)
 (refine Jx.eqlI rfl rfl rfl (J.nil (N.seq (W.cT rfl ?_))))
 (refine W.seq (W.region (Jx.move rfl rfl (Jx.nilCheck rfl rfl ?_))))
 (refine Jx.fieldAddr rfl rfl ?_)
 (refine J.st 0 rfl rfl rfl rfl rfl rfl ?_)
 (refine J.nil (N.seq (W.seq (W.region (Jx.assign rfl rfl (J.nil (N.seq (W.ret (N.noGotoRet ?_)))))))))
 (refine id ?_; rotate_left))
  exact N.ret (rs := [.tmp 2]) rfl (.tmp rfl .nil) ⟨rfl, rfl⟩
theorem change_live (b : Nat) (d : Dk) (h : d.fuse ≤ 9223372036854775807) (h0 : ¬ d.fuse = 0) : FnC Tryd.prog 41 [ptr b] [dk b d] (fun s L => s = int 0 ∧ L = [dk b d.burn]) := by
  refine FnC.intro Tryd.func41 rfl Tryd.ntmps41 rfl fun Z w0 hG => ?_
  by_cases h1 : 0 < d.fuse
  · focus (
 (refine W.seq (W.region (Jx.assign rfl rfl (J.nil (N.seq (W.seq (W.seq (W.region (Jx.move rfl rfl (Jx.nilCheck rfl rfl ?_))))))))))
 (refine Jx.fieldAddr rfl rfl ?_)
 (refine Jx.load rfl 0 rfl rfl rfl ?_)
 (refine Jx.eqlI rfl rfl rfl (J.nil (N.seq (W.cF rfl ?_))))
 (refine W.skip (N.seq (W.seq (W.seq (W.region (Jx.move rfl rfl (Jx.nilCheck rfl rfl ?_)))))))
 (refine Jx.fieldAddr rfl rfl ?_)
 (refine Jx.load rfl 0 rfl rfl rfl ?_)
 (refine Jx.gtrI rfl rfl rfl (J.nil (N.seq (W.cT rfl ?_))))
 (refine W.region (Jx.move rfl rfl (Jx.nilCheck rfl rfl ?_)))
 (refine Jx.fieldAddr rfl rfl ?_)
 (refine Jx.load rfl 0 rfl rfl rfl ?_)
 (refine Jx.sub64 rfl rfl (by omega) rfl ?_)
 (refine Jx.nilCheck rfl rfl ?_)
 (refine Jx.fieldAddr rfl rfl ?_)
 (refine J.st 0 rfl rfl rfl rfl rfl rfl ?_)
 (refine J.nil (N.seq (W.seq (W.region (Jx.assign rfl rfl (J.nil (N.seq (W.ret ?_))))))))
 (refine id ?_; rotate_left))
    refine N.ret (rs := [.tmp 2]) rfl (.tmp rfl .nil) ⟨rfl, ?_⟩
    simp [Dk.burn, h1]
  · focus (
 (refine W.seq (W.region (Jx.assign rfl rfl (J.nil (N.seq (W.seq (W.seq (W.region (Jx.move rfl rfl (Jx.nilCheck rfl rfl ?_))))))))))
 (refine Jx.fieldAddr rfl rfl ?_)
 (refine Jx.load rfl 0 rfl rfl rfl ?_)
 (refine Jx.eqlI rfl rfl rfl (J.nil (N.seq (W.cF rfl ?_))))
 (refine W.skip (N.seq (W.seq (W.seq (W.region (Jx.move rfl rfl (Jx.nilCheck rfl rfl ?_)))))))
 (refine Jx.fieldAddr rfl rfl ?_)
 (refine Jx.load rfl 0 rfl rfl rfl ?_)
 (refine Jx.gtrI rfl rfl rfl (J.nil (N.seq (W.cF rfl ?_))))
 (refine W.skip (N.seq (W.seq (W.region (Jx.assign rfl rfl (J.nil (N.seq (W.ret ?_))))))))
 (refine id ?_; rotate_left))
    refine N.ret (rs := [.tmp 2]) rfl (.tmp rfl .nil) ⟨rfl, ?_⟩
    simp [Dk.burn, h1]
theorem read_ok (b : Nat) (d : Dk) : FnC Tryd.prog 27 [ptr b] [dk b d] (fun s L => s = str d.bytes ∧ L = [dk b d]) := by
  refine FnC.intro Tryd.func27 rfl Tryd.ntmps27 rfl fun Z w0 hG => ?_
  focus (
 (refine W.seq (W.region (Jx.assign rfl rfl (J.nil (N.seq (W.seq (W.region (Jx.move rfl rfl (Jx.nilCheck rfl rfl ?_)))))))))
 (refine Jx.fieldAddr rfl rfl ?_)
 (refine Jx.load rfl 0 rfl rfl rfl ?_)
 (refine Jx.bytesStr rfl rfl ?_)
 (refine Jx.assign rfl rfl (J.nil (N.seq (W.ret ?_))))
 (refine id ?_; rotate_left))
  exact N.ret (rs := [.tmp 2]) rfl (.tmp rfl .nil) ⟨rfl, rfl⟩
theorem fuse_ok (b : Nat) (d : Dk) (n : Int) : FnC Tryd.prog 14 [ptr b, int n] [dk b d] (fun s L => L = [dk b { d with fuse := if -1 > n then -1 else n }]) := by
  refine FnC.intro Tryd.func14 rfl Tryd.ntmps14 rfl fun Z w0 hG => ?_
  focus (
 (refine W.region (Jx.move rfl rfl (Jx.move rfl rfl (Jx.max rfl rfl rfl ?_))))
 (refine Jx.nilCheck rfl rfl ?_)
 (refine Jx.fieldAddr rfl rfl ?_)
 (refine J.store rfl rfl (by first | exact One.val rfl | exact One.sl | exact One.pp) 0 rfl rfl rfl rfl ?_)
 (refine J.nil ?_)
 (refine id ?_; rotate_left))
  exact N.fin (rs := []) rfl .nil rfl
end Go.Proofs.YtbdkenlkimiddaaDoor.Dsk
namespace Go.Proofs.YtbdkenlkimiddaaDoor.Dsk
open Go Go.Sse
set_option linter.unusedVariables false
set_option linter.unusedSimpArgs false
set_option maxRecDepth 10000
def Dk.sync (d : Dk) : Int × Dk := if d.down = true then (311, d) else if d.fuse = 0 then (311, d.dead) else (0, { d.burn with safe := d.bytes.length })
theorem sync_ok (b : Nat) (d : Dk) (h : d.fuse ≤ 9223372036854775807) : FnC Tryd.prog 36 [ptr b] [dk b d] (fun s L => s = int d.sync.1 ∧ L = [dk b d.sync.2]) := by
  refine FnC.intro Tryd.func36 rfl Tryd.ntmps36 rfl fun Z w0 hG => ?_
  by_cases hd : d.down = true
  · focus (
 (refine W.seq (W.region (Jx.assign rfl rfl (J.nil (N.seq (W.seq (W.seq (W.region (Jx.move rfl rfl (Jx.nilCheck rfl rfl ?_))))))))))
 (refine Jx.fieldAddr rfl rfl ?_)
 (refine Jx.load rfl 0 rfl rfl rfl ?_)
 (refine J.nil (N.seq (W.cT rfl ?_)))
 (refine W.seq (W.region (Jx.assign rfl rfl (J.nil (N.seq (W.ret (N.noGotoRet ?_)))))))
 (refine id ?_; rotate_left))
    refine N.ret (rs := [.tmp 2]) rfl (.tmp rfl .nil) ?_
    simp [oneOr, Dk.sync, hd]
  · have hd : d.down = false := by simpa using hd
    by_cases h0 : d.fuse = 0
    · focus (
 (refine W.seq (W.region (Jx.assign rfl rfl (J.nil (N.seq (W.seq (W.seq (W.region (Jx.move rfl rfl (Jx.nilCheck rfl rfl ?_))))))))))
 (refine Jx.fieldAddr rfl rfl ?_)
 (refine Jx.load rfl 0 rfl rfl rfl ?_)
 (refine J.nil (N.seq (W.cF rfl ?_)))
 (refine W.skip (N.seq (W.seq (W.seq (W.region (Jx.move rfl rfl ?_))))))
 (refine J.call (change_dead b d h0) rfl (.cons rfl .nil) rfl ?_; rintro _ _ ⟨rfl, rfl⟩; simp only [la1, la2, la3])
 (refine Jx.assign rfl rfl (J.nil (N.seq (W.seq (W.region (Jx.move rfl rfl (Jx.neqI rfl rfl rfl (J.nil (N.seq (W.cT rfl ?_))))))))))
 (refine W.seq (W.region (Jx.move rfl rfl (Jx.assign rfl rfl (J.nil (N.seq (W.ret (N.noGotoRet ?_))))))))
 (refine id ?_; rotate_left))
      refine N.ret (rs := [.tmp 2]) rfl (.tmp rfl .nil) ?_
      simp [oneOr, Dk.sync, hd, h0]
    · focus (
 (refine W.seq (W.region (Jx.assign rfl rfl (J.nil (N.seq (W.seq (W.seq (W.region (Jx.move rfl rfl (Jx.nilCheck rfl rfl ?_))))))))))
 (refine Jx.fieldAddr rfl rfl ?_)
 (refine Jx.load rfl 0 rfl rfl rfl ?_)
 (refine J.nil (N.seq (W.cF rfl ?_)))
 (refine W.skip (N.seq (W.seq (W.seq (W.region (Jx.move rfl rfl ?_))))))
 (refine J.call (change_live b d h h0) rfl (.cons rfl .nil) rfl ?_; rintro _ _ ⟨rfl, rfl⟩; simp only [la1, la2, la3])
 (refine Jx.assign rfl rfl (J.nil (N.seq (W.seq (W.region (Jx.move rfl rfl (Jx.neqI rfl rfl rfl (J.nil (N.seq (W.cF rfl ?_))))))))))
 (refine W.skip (N.seq (W.seq (W.region (Jx.move rfl rfl (Jx.move rfl rfl (Jx.nilCheck rfl rfl ?_)))))))
 (refine Jx.fieldAddr rfl rfl ?_)
 (refine Jx.load rfl 0 rfl rfl rfl ?_)
 (refine Jx.lenSl rfl rfl ?_)
 (refine Jx.nilCheck rfl rfl ?_)
 (refine Jx.fieldAddr rfl rfl ?_)
 (refine J.st 0 rfl rfl rfl rfl rfl rfl ?_)
 (refine J.nil (N.seq (W.seq (W.region (Jx.assign rfl rfl (J.nil (N.seq (W.ret ?_))))))))
 (refine id ?_; rotate_left))
      refine N.ret (rs := [.tmp 2]) rfl (.tmp rfl .nil) ?_
      simp [oneOr, Dk.sync, hd, h0, Dk.burn]
def Dk.cut (d : Dk) (n : Int) : Int × Dk :=
  if d.down = true then (311, d) else if n < 0 ∨ (d.bytes.length : Int) < n then (1, d) else if d.fuse = 0 then (311, d.dead) else
  (0, { d.burn with bytes := d.bytes.take n.toNat, safe := if n < d.safe then n else d.safe })
theorem slc_take (l : List UInt8) (n : Nat) (h : n ≤ l.length) : Sub (.slc 1 n (elOf encB 0 l)) (bsl (l.take n)) := by
  refine Sub.slc.trans ?_
  have : (l.take n).length = n := by simp; omega
  unfold bsl
  rw [this]
  refine Sub.sl fun i hi => ?_
  simp only [elOf, List.getD_eq_getElem?_getD, List.getElem?_take, hi, if_true]
set_option maxHeartbeats 4000000 in
theorem cut_ok (b : Nat) (d : Dk) (n : Int) (h : d.fuse ≤ 9223372036854775807) : FnC Tryd.prog 35 [ptr b, int n] [dk b d] (fun s L => s = int (d.cut n).1 ∧ L = [dk b (d.cut n).2]) := by
  refine FnC.intro Tryd.func35 rfl Tryd.ntmps35 rfl fun Z w0 hG => ?_
  by_cases hd : d.down = true
  · focus (
 (refine W.seq (W.region (Jx.assign rfl rfl (J.nil (N.seq (W.seq (W.block (W.seq (W.region (Jx.move rfl rfl (Jx.nilCheck rfl rfl ?_)))))))))))
 (refine Jx.fieldAddr rfl rfl ?_)
 (refine Jx.load rfl 0 rfl rfl rfl ?_)
 (refine Jx.assign rfl rfl (J.nil (N.seq (W.cT rfl ?_))))
 (refine W.seq (W.region (Jx.assign rfl rfl (J.nil (N.seq (W.ret (N.noGotoRet (N.noGotoRet ?_))))))))
 (refine id ?_; rotate_left))
    refine N.ret (rs := [.tmp 4]) rfl (.tmp rfl .nil) ?_
    simp [oneOr, Dk.cut, hd]
  · have hd : d.down = false := by simpa using hd
    by_cases h1 : n < 0
    · focus (
 (refine W.seq (W.region (Jx.assign rfl rfl (J.nil (N.seq (W.seq (W.block (W.seq (W.region (Jx.move rfl rfl (Jx.nilCheck rfl rfl ?_)))))))))))
 (refine Jx.fieldAddr rfl rfl ?_)
 (refine Jx.load rfl 0 rfl rfl rfl ?_)
 (refine Jx.assign rfl rfl (J.nil (N.seq (W.cF rfl ?_))))
 (refine W.seq (W.region (Jx.move rfl rfl (Jx.lssI rfl rfl rfl (Jx.move rfl rfl (J.gN rfl rfl rfl rfl ?_))))))
 (refine J.gN rfl rfl rfl rfl ?_)
 (refine J.gN rfl rfl rfl rfl ?_)
 (refine J.gN rfl rfl rfl rfl ?_)
 (refine J.gN rfl rfl rfl rfl ?_)
 (refine J.gN rfl rfl rfl rfl ?_)
 (refine J.gN rfl rfl rfl rfl ?_)
 (refine Jx.pT rfl rfl rfl ?_)
 (refine Jx.assign rfl rfl (J.nil (N.seq (W.cT rfl ?_))))
 (refine W.seq (W.region (Jx.assign rfl rfl (J.nil (N.seq (W.ret (N.noGotoRet (N.noGotoRet ?_))))))))
 (refine id ?_; rotate_left))
      refine N.ret (rs := [.tmp 4]) rfl (.tmp rfl .nil) ?_
      simp [oneOr, Dk.cut, hd, h1]
    · by_cases h2 : (d.bytes.length : Int) < n
      · focus (
 (refine W.seq (W.region (Jx.assign rfl rfl (J.nil (N.seq (W.seq (W.block (W.seq (W.region (Jx.move rfl rfl (Jx.nilCheck rfl rfl ?_)))))))))))
 (refine Jx.fieldAddr rfl rfl ?_)
 (refine Jx.load rfl 0 rfl rfl rfl ?_)
 (refine Jx.assign rfl rfl (J.nil (N.seq (W.cF rfl ?_))))
 (refine W.seq (W.region (Jx.move rfl rfl (Jx.lssI rfl rfl rfl (Jx.move rfl rfl (J.gY rfl rfl rfl ?_))))))
 (refine Jx.move rfl rfl (J.gY rfl rfl rfl ?_))
 (refine Jx.move rfl rfl (J.gY rfl rfl rfl ?_))
 (refine Jx.nilCheck rfl rfl ?_)
 (refine J.gY rfl rfl rfl ?_)
 (refine Jx.fieldAddr rfl rfl ?_)
 (refine J.gY rfl rfl rfl ?_)
 (refine Jx.load rfl 0 rfl rfl rfl ?_)
 (refine J.gY rfl rfl rfl ?_)
 (refine Jx.lenSl rfl rfl ?_)
 (refine J.gY rfl rfl rfl ?_)
 (refine Jx.gtrI rfl rfl rfl (Jx.pF rfl rfl rfl ?_))
 (refine Jx.assign rfl rfl (J.nil (N.seq (W.cT rfl ?_))))
 (refine W.seq (W.region (Jx.assign rfl rfl (J.nil (N.seq (W.ret (N.noGotoRet (N.noGotoRet ?_))))))))
 (refine id ?_; rotate_left))
        refine N.ret (rs := [.tmp 4]) rfl (.tmp rfl .nil) ?_
        simp [oneOr, Dk.cut, hd, h1, h2]
      · have h3 : ¬ (n < 0 ∨ (d.bytes.length : Int) < n) := by omega
        by_cases h0 : d.fuse = 0
        · focus (
 (refine W.seq (W.region (Jx.assign rfl rfl (J.nil (N.seq (W.seq (W.block (W.seq (W.region (Jx.move rfl rfl (Jx.nilCheck rfl rfl ?_)))))))))))
 (refine Jx.fieldAddr rfl rfl ?_)
 (refine Jx.load rfl 0 rfl rfl rfl ?_)
 (refine Jx.assign rfl rfl (J.nil (N.seq (W.cF rfl ?_))))
 (refine W.seq (W.region (Jx.move rfl rfl (Jx.lssI rfl rfl rfl (Jx.move rfl rfl (J.gY rfl rfl rfl ?_))))))
 (refine Jx.move rfl rfl (J.gY rfl rfl rfl ?_))
 (refine Jx.move rfl rfl (J.gY rfl rfl rfl ?_))
 (refine Jx.nilCheck rfl rfl ?_)
 (refine J.gY rfl rfl rfl ?_)
 (refine Jx.fieldAddr rfl rfl ?_)
 (refine J.gY rfl rfl rfl ?_)
 (refine Jx.load rfl 0 rfl rfl rfl ?_)
 (refine J.gY rfl rfl rfl ?_)
 (refine Jx.lenSl rfl rfl ?_)
 (refine J.gY rfl rfl rfl ?_)
 (refine Jx.gtrI rfl rfl rfl (Jx.pF rfl rfl rfl ?_))
 (refine Jx.assign rfl rfl (J.nil (N.seq (W.cF rfl ?_))))
 (refine W.skip (N.seq (W.seq (W.seq (W.region (Jx.move rfl rfl ?_))))))
 (refine J.call (change_dead b d h0) rfl (.cons rfl .nil) rfl ?_; rintro _ _ ⟨rfl, rfl⟩; simp only [la1, la2, la3])
 (refine Jx.assign rfl rfl (J.nil (N.seq (W.seq (W.region (Jx.move rfl rfl (Jx.neqI rfl rfl rfl (J.nil (N.seq (W.cT rfl ?_))))))))))
 (refine W.seq (W.region (Jx.move rfl rfl (Jx.assign rfl rfl (J.nil (N.seq (W.ret (N.noGotoRet ?_))))))))
 (refine id ?_; rotate_left))
          refine N.ret (rs := [.tmp 4]) rfl (.tmp rfl .nil) ?_
          simp [oneOr, Dk.cut, hd, h0, h3]
        · focus (
 (refine W.seq (W.region (Jx.assign rfl rfl (J.nil (N.seq (W.seq (W.block (W.seq (W.region (Jx.move rfl rfl (Jx.nilCheck rfl rfl ?_)))))))))))
 (refine Jx.fieldAddr rfl rfl ?_)
 (refine Jx.load rfl 0 rfl rfl rfl ?_)
 (refine Jx.assign rfl rfl (J.nil (N.seq (W.cF rfl ?_))))
 (refine W.seq (W.region (Jx.move rfl rfl (Jx.lssI rfl rfl rfl (Jx.move rfl rfl (J.gY rfl rfl rfl ?_))))))
 (refine Jx.move rfl rfl (J.gY rfl rfl rfl ?_))
 (refine Jx.move rfl rfl (J.gY rfl rfl rfl ?_))
 (refine Jx.nilCheck rfl rfl ?_)
 (refine J.gY rfl rfl rfl ?_)
 (refine Jx.fieldAddr rfl rfl ?_)
 (refine J.gY rfl rfl rfl ?_)
 (refine Jx.load rfl 0 rfl rfl rfl ?_)
 (refine J.gY rfl rfl rfl ?_)
 (refine Jx.lenSl rfl rfl ?_)
 (refine J.gY rfl rfl rfl ?_)
 (refine Jx.gtrI rfl rfl rfl (Jx.pF rfl rfl rfl ?_))
 (refine Jx.assign rfl rfl (J.nil (N.seq (W.cF rfl ?_))))
 (refine W.skip (N.seq (W.seq (W.seq (W.region (Jx.move rfl rfl ?_))))))
 (refine J.call (change_live b d h h0) rfl (.cons rfl .nil) rfl ?_; rintro _ _ ⟨rfl, rfl⟩; simp only [la1, la2, la3])
 (refine Jx.assign rfl rfl (J.nil (N.seq (W.seq (W.region (Jx.move rfl rfl (Jx.neqI rfl rfl rfl (J.nil (N.seq (W.cF rfl ?_))))))))))
 (refine W.skip (N.seq (W.seq (W.region (Jx.move rfl rfl (Jx.move rfl rfl (Jx.nilCheck rfl rfl ?_)))))))
 (refine Jx.fieldAddr rfl rfl ?_)
 (refine Jx.load rfl 0 rfl rfl rfl ?_)
 (refine Jx.move rfl rfl (Jx.move rfl rfl (Jx.clip rfl rfl rfl (by omega) (by simp only [Dk.burn]; omega) rfl ?_)))
 (refine Jx.nilCheck rfl rfl ?_)
 (refine Jx.fieldAddr rfl rfl ?_)
 (refine J.store rfl rfl One.slc 0 rfl rfl rfl rfl ?_)
 (refine J.nil (N.seq (W.seq (W.region (Jx.move rfl rfl (Jx.move rfl rfl (Jx.nilCheck rfl rfl ?_)))))))
 (refine Jx.fieldAddr rfl rfl ?_)
 (refine Jx.load rfl 0 rfl rfl rfl ?_)
 (refine Jx.move rfl rfl (Jx.min rfl rfl rfl ?_))
 (refine Jx.nilCheck rfl rfl ?_)
 (refine Jx.fieldAddr rfl rfl ?_)
 (refine J.st 0 rfl rfl rfl rfl rfl rfl ?_)
 (refine J.nil (N.seq (W.seq (W.region (Jx.assign rfl rfl (J.nil (N.seq (W.ret ?_))))))))
 (refine id ?_; rotate_left))
          refine N.objSub 0 _ rfl (.cons (slc_take d.bytes n.toNat (by omega)) (.cons (Sub.refl _) (.cons (Sub.refl _) (.cons (Sub.refl _) (.cons (Sub.refl _) .nil))))) rfl ?_
          refine N.ret (rs := [.tmp 4]) rfl (.tmp rfl .nil) ?_
          simp [oneOr, Dk.cut, hd, h0, h3, Dk.burn]
def Dk.append (d : Dk) (s : List UInt8) : Int × Dk :=
  if d.down = true then (311, d) else if d.room - d.bytes.length < s.length then (310, d) else if d.fuse = 0 then (311, d.dead) else (0, { d.burn with bytes := d.bytes ++ s })
set_option maxHeartbeats 4000000 in
theorem append_ok (b : Nat) (d : Dk) (s : List UInt8) (h : d.fuse ≤ 9223372036854775807) (hr : 0 ≤ d.room ∧ d.room ≤ 1048576) (hb : d.bytes.length ≤ 1048576) (hs : s.length ≤ 1048576) :
    FnC Tryd.prog 25 [ptr b, str s] [dk b d] (fun r L => r = int (d.append s).1 ∧ L = [dk b (d.append s).2]) := by
  refine FnC.intro Tryd.func25 rfl Tryd.ntmps25 rfl fun Z w0 hG => ?_
  by_cases hd : d.down = true
  · focus (
 (refine W.seq (W.region (Jx.assign rfl rfl (J.nil (N.seq (W.seq (W.seq (W.region (Jx.move rfl rfl (Jx.nilCheck rfl rfl ?_))))))))))
 (refine Jx.fieldAddr rfl rfl ?_)
 (refine Jx.load rfl 0 rfl rfl rfl ?_)
 (refine J.nil (N.seq (W.cT rfl ?_)))
 (refine W.seq (W.region (Jx.assign rfl rfl (J.nil (N.seq (W.ret (N.noGotoRet ?_)))))))
 (refine id ?_; rotate_left))
    refine N.ret (rs := [.tmp 4]) rfl (.tmp rfl .nil) ?_
    simp [oneOr, Dk.append, hd]
  · have hd : d.down = false := by simpa using hd
    by_cases h1 : d.room - d.bytes.length < s.length
    · focus (
 (refine W.seq (W.region (Jx.assign rfl rfl (J.nil (N.seq (W.seq (W.seq (W.region (Jx.move rfl rfl (Jx.nilCheck rfl rfl ?_))))))))))
 (refine Jx.fieldAddr rfl rfl ?_)
 (refine Jx.load rfl 0 rfl rfl rfl ?_)
 (refine J.nil (N.seq (W.cF rfl ?_)))
 (refine W.skip (N.seq (W.seq (W.seq ?_))))
 (refine W.draw follows ?_)
 (refine JD.calm rfl (by decide +kernel) ?_)
 (refine Cx.move rfl rfl ?_)
 (refine Cx.lenS rfl rfl ?_)
 (refine Cx.move rfl rfl ?_)
 (refine Cx.nilCheck rfl rfl ?_)
 (refine Cx.fieldAddr rfl rfl ?_)
 (refine Cx.load rfl 0 rfl rfl rfl ?_)
 (refine Cx.move rfl rfl ?_)
 (refine Cx.nilCheck rfl rfl ?_)
 (refine Cx.fieldAddr rfl rfl ?_)
 (refine Cx.load rfl 0 rfl rfl rfl ?_)
 (refine Cx.lenSl rfl rfl ?_)
 (refine Cx.sub64 rfl rfl (by omega) rfl ?_)
 (refine Cx.gtrI rfl rfl rfl ?_)
 (refine SegC.nil ?_)
 (refine N.seq (W.cT rfl ?_))
 (refine W.seq (W.region (Jx.assign rfl rfl (J.nil (N.seq (W.ret (N.noGotoRet ?_)))))))
 (refine id ?_; rotate_left))
      refine N.ret (rs := [.tmp 4]) rfl (.tmp rfl .nil) ?_
      simp [oneOr, Dk.append, hd, h1]
    · by_cases h0 : d.fuse = 0
      · focus (
 (refine W.seq (W.region (Jx.assign rfl rfl (J.nil (N.seq (W.seq (W.seq (W.region (Jx.move rfl rfl (Jx.nilCheck rfl rfl ?_))))))))))
 (refine Jx.fieldAddr rfl rfl ?_)
 (refine Jx.load rfl 0 rfl rfl rfl ?_)
 (refine J.nil (N.seq (W.cF rfl ?_)))
 (refine W.skip (N.seq (W.seq (W.seq ?_))))
 (refine W.draw follows ?_)
 (refine JD.calm rfl (by decide +kernel) ?_)
 (refine Cx.move rfl rfl ?_)
 (refine Cx.lenS rfl rfl ?_)
 (refine Cx.move rfl rfl ?_)
 (refine Cx.nilCheck rfl rfl ?_)
 (refine Cx.fieldAddr rfl rfl ?_)
 (refine Cx.load rfl 0 rfl rfl rfl ?_)
 (refine Cx.move rfl rfl ?_)
 (refine Cx.nilCheck rfl rfl ?_)
 (refine Cx.fieldAddr rfl rfl ?_)
 (refine Cx.load rfl 0 rfl rfl rfl ?_)
 (refine Cx.lenSl rfl rfl ?_)
 (refine Cx.sub64 rfl rfl (by omega) rfl ?_)
 (refine Cx.gtrI rfl rfl rfl ?_)
 (refine SegC.nil ?_)
 (refine N.seq (W.cF rfl ?_))
 (refine W.skip (N.seq (W.seq (W.seq (W.region (Jx.move rfl rfl ?_))))))
 (refine J.call (change_dead b d h0) rfl (.cons rfl .nil) rfl ?_; rintro _ _ ⟨rfl, rfl⟩; simp only [la1, la2, la3])
 (refine Jx.assign rfl rfl (J.nil (N.seq (W.seq (W.region (Jx.move rfl rfl (Jx.neqI rfl rfl rfl (J.nil (N.seq (W.cT rfl ?_))))))))))
 (refine W.seq (W.region (Jx.move rfl rfl (Jx.assign rfl rfl (J.nil (N.seq (W.ret (N.noGotoRet ?_))))))))
 (refine id ?_; rotate_left))
        refine N.ret (rs := [.tmp 4]) rfl (.tmp rfl .nil) ?_
        simp [oneOr, Dk.append, hd, h0, h1]
      · focus (
 (refine W.seq (W.region (Jx.assign rfl rfl (J.nil (N.seq (W.seq (W.seq (W.region (Jx.move rfl rfl (Jx.nilCheck rfl rfl ?_))))))))))
 (refine Jx.fieldAddr rfl rfl ?_)
 (refine Jx.load rfl 0 rfl rfl rfl ?_)
 (refine J.nil (N.seq (W.cF rfl ?_)))
 (refine W.skip (N.seq (W.seq (W.seq ?_))))
 (refine W.draw follows ?_)
 (refine JD.calm rfl (by decide +kernel) ?_)
 (refine Cx.move rfl rfl ?_)
 (refine Cx.lenS rfl rfl ?_)
 (refine Cx.move rfl rfl ?_)
 (refine Cx.nilCheck rfl rfl ?_)
 (refine Cx.fieldAddr rfl rfl ?_)
 (refine Cx.load rfl 0 rfl rfl rfl ?_)
 (refine Cx.move rfl rfl ?_)
 (refine Cx.nilCheck rfl rfl ?_)
 (refine Cx.fieldAddr rfl rfl ?_)
 (refine Cx.load rfl 0 rfl rfl rfl ?_)
 (refine Cx.lenSl rfl rfl ?_)
 (refine Cx.sub64 rfl rfl (by omega) rfl ?_)
 (refine Cx.gtrI rfl rfl rfl ?_)
 (refine SegC.nil ?_)
 (refine N.seq (W.cF rfl ?_))
 (refine W.skip (N.seq (W.seq (W.seq (W.region (Jx.move rfl rfl ?_))))))
 (refine J.call (change_live b d h h0) rfl (.cons rfl .nil) rfl ?_; rintro _ _ ⟨rfl, rfl⟩; simp only [la1, la2, la3])
 (refine Jx.assign rfl rfl (J.nil (N.seq (W.seq (W.region (Jx.move rfl rfl (Jx.neqI rfl rfl rfl (J.nil (N.seq (W.cF rfl ?_))))))))))
 (refine W.skip (N.seq (W.seq (W.region (Jx.move rfl rfl (Jx.nilCheck rfl rfl ?_))))))
 (refine Jx.fieldAddr rfl rfl ?_)
 (refine Jx.load rfl 0 rfl rfl rfl ?_)
 (refine Jx.lenSl rfl rfl ?_)
 (refine Jx.assign rfl rfl (J.nil (N.seq (W.seq (W.region (Jx.move rfl rfl (Jx.move rfl rfl (Jx.nilCheck rfl rfl ?_))))))))
 (refine Jx.fieldAddr rfl rfl ?_)
 (refine Jx.load rfl 0 rfl rfl rfl ?_)
 (refine Jx.move rfl rfl (Jx.move rfl rfl (Jx.clip rfl rfl rfl (by omega) (by simp only [Dk.burn]; omega) rfl ?_)))
 (refine Jx.move rfl rfl ?_)
 (refine J.qs (Qs.appendClip (elOf encB 0 (d.bytes ++ s)) (d.bytes ++ s).length rfl (SrcOK.str rfl) rfl rfl (by decide) (by simp only [maxLen, Dk.burn]; omega) (by simp only [Dk.burn]; omega) (by simp [Dk.burn]) (fun i hi => elOf_append_left _ _ _ _ _ (by simpa [Dk.burn] using hi)) (fun i hi => elOf_append_right _ _ _ _ _)) rfl ?_)
 (refine Jx.nilCheck rfl rfl ?_)
 (refine Jx.fieldAddr rfl rfl ?_)
 (refine J.st 0 rfl rfl rfl rfl rfl rfl ?_)
 (refine J.nil (N.seq (W.seq (W.region (Jx.assign rfl rfl (J.nil (N.seq (W.ret ?_))))))))
 (refine id ?_; rotate_left))
        refine N.ret (rs := [.tmp 4]) rfl (.tmp rfl .nil) ?_
        simp [oneOr, Dk.append, hd, h0, h1, Dk.burn]
end Go.Proofs.YtbdkenlkimiddaaDoor.Dsk
namespace Go.Proofs.YtbdkenlkimiddaaDoor.Dsk
open Go Go.Sse
set_option linter.unusedVariables false
set_option linter.unusedSimpArgs false
set_option maxRecDepth 10000
def Dk.fresh (room : Int) : Dk := ⟨[], 0, room, -1, false⟩
theorem nil_bsl : Sub (.val (.slice none 0 0)) (bsl []) := Sub.nil 1 _
theorem new_ok (room : Int) (h : 0 ≤ room ∧ room ≤ 1048576) : FnC Tryd.prog 12 [int room] [] (fun s L => ∃ b, s = .tup [ptr b, int 0] ∧ L = [dk b (Dk.fresh room)]) := by
  refine FnC.intro Tryd.func12 rfl Tryd.ntmps12 rfl fun Z w0 hG => ?_
  obtain ⟨h0, h1⟩ := h
  focus (
 (refine W.seq (W.region (Jx.assign rfl rfl (Jx.assign rfl rfl (J.nil (N.seq (W.seq (W.seq (W.region (Jx.move rfl rfl (Jx.lssI rfl rfl rfl (Jx.move rfl rfl (J.gY rfl rfl rfl ?_)))))))))))))
 (refine Jx.move rfl rfl (J.gY rfl rfl rfl ?_))
 (refine Jx.gtrI rfl rfl rfl (Jx.pF rfl rfl rfl ?_))
 (refine J.nil (N.seq (W.cF rfl ?_)))
 (refine W.skip (N.seq (W.seq (W.region (Jx.move rfl rfl (Jx.buildB rfl rfl rfl rfl rfl ?_))))))
 (refine J.boxAg rfl rfl ?_; intro b')
 (refine Jx.assign rfl rfl (Jx.assign rfl rfl (J.nil (N.seq (W.ret ?_)))))
 (refine id ?_; rotate_left))
  refine N.objSub 0 _ rfl (.cons nil_bsl (.cons (Sub.refl _) (.cons (Sub.refl _) (.cons (Sub.refl _) (.cons (Sub.refl _) .nil))))) rfl ?_
  exact N.ret (rs := [.tmp 2, .tmp 3]) rfl (.tmp rfl (.tmp rfl .nil)) ⟨_, rfl, rfl⟩
structure Dk.ok (d : Dk) : Prop where
  s0 : 0 ≤ d.safe
  s1 : d.safe ≤ d.bytes.length
  r : 0 ≤ d.room ∧ d.room ≤ 1048576
  b : (d.bytes.length : Int) ≤ d.room
  f : -1 ≤ d.fuse ∧ d.fuse ≤ 9223372036854775807
def Dk.left (d : Dk) (keep : Int) : Int := d.safe + (if (d.bytes.length - d.safe : Int) < (if (0 : Int) > keep then 0 else keep) then (d.bytes.length - d.safe : Int) else (if (0 : Int) > keep then 0 else keep))
def Dk.crash (d : Dk) (keep : Int) : Dk := ⟨d.bytes.take (d.left keep).toNat, d.left keep, d.room, -1, false⟩
theorem Dk.left_bd {d : Dk} (h : d.ok) (keep : Int) : d.safe ≤ d.left keep ∧ d.left keep ≤ d.bytes.length := by
  have h0 := h.s0; have h1 := h.s1
  unfold Dk.left
  split <;> split <;> omega
set_option maxHeartbeats 4000000 in
theorem crash_ok (b : Nat) (d : Dk) (h : d.ok) (keep : Int) : FnC Tryd.prog 16 [ptr b, int keep] [dk b d] (fun s L => L = [dk b (d.crash keep)]) := by
  refine FnC.intro Tryd.func16 rfl Tryd.ntmps16 rfl fun Z w0 hG => ?_
  obtain ⟨hl0, hl1⟩ := Dk.left_bd h keep
  have h0 := h.s0; have h1 := h.s1; have hr := h.r; have hb := h.b
  focus (
 (refine W.seq ?_)
 (refine W.draw follows ?_)
 (refine JD.calm rfl (by decide +kernel) ?_)
 (refine Cx.move rfl rfl ?_)
 (refine Cx.nilCheck rfl rfl ?_)
 (refine Cx.fieldAddr rfl rfl ?_)
 (refine Cx.load rfl 0 rfl rfl rfl ?_)
 (refine Cx.lenSl rfl rfl ?_)
 (refine Cx.move rfl rfl ?_)
 (refine Cx.nilCheck rfl rfl ?_)
 (refine Cx.fieldAddr rfl rfl ?_)
 (refine Cx.load rfl 0 rfl rfl rfl ?_)
 (refine Cx.sub64 rfl rfl (by omega) rfl ?_)
 (refine Cx.assign rfl rfl ?_)
 (refine SegC.nil ?_)
 (refine N.seq (W.seq (W.region (Jx.move rfl rfl (Jx.nilCheck rfl rfl ?_)))))
 (refine Jx.fieldAddr rfl rfl ?_)
 (refine Jx.load rfl 0 rfl rfl rfl ?_)
 (refine Jx.move rfl rfl (Jx.max rfl rfl rfl ?_))
 (refine Jx.move rfl rfl (Jx.min rfl rfl rfl ?_))
 (refine Jx.add64 rfl rfl (by constructor <;> (unfold Dk.left at hl0 hl1; omega)) rfl ?_)
 (refine Jx.assign rfl rfl (J.nil (N.seq (W.seq (W.region (Jx.move rfl rfl (Jx.move rfl rfl (Jx.nilCheck rfl rfl ?_))))))))
 (refine Jx.fieldAddr rfl rfl ?_)
 (refine Jx.load rfl 0 rfl rfl rfl ?_)
 (refine Jx.move rfl rfl (Jx.move rfl rfl (Jx.clip rfl rfl rfl (show 0 ≤ d.left keep by omega) (show d.left keep ≤ _ from hl1) rfl ?_)))
 (refine Jx.nilCheck rfl rfl ?_)
 (refine Jx.fieldAddr rfl rfl ?_)
 (refine J.st 0 rfl rfl rfl rfl rfl rfl ?_)
 (refine J.nil (N.seq (W.region (Jx.move rfl rfl (Jx.move rfl rfl (Jx.move rfl rfl (Jx.move rfl rfl (Jx.nilCheck rfl rfl ?_))))))))
 (refine Jx.fieldAddr rfl rfl ?_)
 (refine J.st 0 rfl rfl rfl rfl rfl rfl ?_)
 (refine Jx.nilCheck rfl rfl ?_)
 (refine Jx.fieldAddr rfl rfl ?_)
 (refine J.st 0 rfl rfl rfl rfl rfl rfl ?_)
 (refine Jx.nilCheck rfl rfl ?_)
 (refine Jx.fieldAddr rfl rfl ?_)
 (refine J.st 0 rfl rfl rfl rfl rfl rfl ?_)
 (refine J.nil ?_)
 (refine id ?_; rotate_left))
  refine N.objSub 0 _ rfl (.cons (slc_take d.bytes (d.left keep).toNat (by omega)) (.cons (Sub.refl _) (.cons (Sub.refl _) (.cons (Sub.refl _) (.cons (Sub.refl _) .nil))))) rfl ?_
  exact N.fin (rs := []) rfl .nil rfl
theorem below_ok (x n : Int) (hx : -9223372036854775808 ≤ x ∧ x ≤ 9223372036854775807) (hn : 0 < n ∧ n ≤ 1000000) : FnC Tryd.prog 11 [int x, int n] [] (fun s L => s = int (x % n) ∧ L = []) := by
  refine FnC.intro Tryd.func11 rfl Tryd.ntmps11 rfl fun Z w0 hG => ?_
  have h1 := Int.emod_nonneg (x.tmod n + n) (show n ≠ 0 by omega)
  have h2 : -n < x.tmod n ∧ x.tmod n < n := by
    have a := Int.tmod_lt_of_pos x hn.1
    have c := Int.lt_tmod_of_pos x hn.1
    omega
  have h3 : (x.tmod n + n) % n = x % n := by
    rw [Int.tmod_eq_emod]
    split
    · simp
    · rw [show (n.natAbs : Int) = n by omega, Int.sub_add_cancel, Int.emod_emod_of_dvd _ (Int.dvd_refl n)]
  focus (
 (refine W.seq (W.region (Jx.assign rfl rfl (J.nil (N.seq (W.seq (W.region (Jx.move rfl rfl (Jx.move rfl rfl (Jx.rem rfl rfl (by omega) rfl ?_))))))))))
 (refine Jx.move rfl rfl (Jx.add64 rfl rfl (by omega) rfl ?_))
 (refine Jx.move rfl rfl (Jx.rem rfl rfl (by omega) rfl ?_))
 (refine Jx.assign rfl rfl (J.nil (N.seq (W.ret ?_))))
 (refine id ?_; rotate_left))
  refine N.ret (rs := [.tmp 4]) rfl (.tmp rfl .nil) ⟨?_, rfl⟩
  rw [oneOr, Int.tmod_eq_emod_of_nonneg (by omega), h3]
end Go.Proofs.YtbdkenlkimiddaaDoor.Dsk
namespace Go.Proofs.YtbdkenlkimiddaaDoor.Dsk
open Go Go.Sse
set_option linter.unusedVariables false
set_option linter.unusedSimpArgs false
set_option maxRecDepth 10000
theorem ref0 {F : List (Nat × SV)} {i : Nat} {s : SV} (h : Sse.look F i = some s) : ∃ t, Sse.look F i = some t ∧ Sub t s := ⟨s, h, .refl _⟩
structure Act where
  k : Int
  n : Int
  s : List UInt8
def Dk.fused (d : Dk) (n : Int) : Dk := { d with fuse := if -1 > n then -1 else n }
theorem Dk.ok.burn {d : Dk} (h : d.ok) : d.burn.ok := by
  obtain ⟨s0, s1, r, b, f⟩ := h
  refine ⟨s0, s1, r, b, ?_⟩
  simp only [Dk.burn]; split <;> omega
theorem Dk.ok.append {d : Dk} (h : d.ok) (s : List UInt8) : (d.append s).2.ok := by
  have hb := h.burn
  unfold Dk.append
  split
  · exact h
  split
  · exact h
  split
  · exact ⟨h.s0, h.s1, h.r, h.b, h.f⟩
  · have := h.s1; have := h.b
    refine ⟨h.s0, ?_, h.r, ?_, hb.f⟩
    · simp only [List.length_append, Dk.burn]; omega
    · simp only [List.length_append, Dk.burn]; omega
theorem Dk.ok.sync {d : Dk} (h : d.ok) : d.sync.2.ok := by
  have hb := h.burn
  unfold Dk.sync
  split
  · exact h
  split
  · exact ⟨h.s0, h.s1, h.r, h.b, h.f⟩
  · exact ⟨by simp [Dk.burn], by simp [Dk.burn], h.r, h.b, hb.f⟩
theorem Dk.ok.cut {d : Dk} (h : d.ok) (n : Int) : (d.cut n).2.ok := by
  have hb := h.burn; have := h.s0; have := h.s1; have := h.b
  unfold Dk.cut
  split
  · exact h
  split
  · exact h
  split
  · exact ⟨h.s0, h.s1, h.r, h.b, h.f⟩
  · refine ⟨?_, ?_, h.r, ?_, hb.f⟩
    · simp only [Dk.burn]; split <;> omega
    · simp only [Dk.burn, List.length_take]; split <;> omega
    · simp only [Dk.burn, List.length_take]; omega
theorem Dk.ok.fused {d : Dk} (h : d.ok) {n : Int} (hn : n ≤ 9223372036854775807) : (d.fused n).ok := by
  refine ⟨h.s0, h.s1, h.r, h.b, ?_⟩
  simp only [Dk.fused]; split <;> omega
theorem Dk.fresh_ok {n : Int} (h : 0 ≤ n ∧ n ≤ 1048576) : (Dk.fresh n).ok := ⟨by simp [Dk.fresh], by simp [Dk.fresh], h, by simp [Dk.fresh, h.1], by simp [Dk.fresh]⟩
abbrev d0 : Dk := Dk.fresh 5000
end Go.Proofs.YtbdkenlkimiddaaDoor.Dsk
namespace Go.Proofs.YtbdkenlkimiddaaDoor.Dsk
open Go Go.Sse
set_option linter.unusedVariables false
set_option linter.unusedSimpArgs false
set_option maxRecDepth 10000
end Go.Proofs.YtbdkenlkimiddaaDoor.Dsk
namespace Go.Proofs.YtbdkenlkimiddaaDoor
open Go Go.Sse
set_option linter.unusedVariables false
set_option linter.unusedSimpArgs false
set_option maxRecDepth 10000
abbrev tJn : Nat := 75
abbrev jn (jb b : Nat) (br : Bool) : Own := .obj jb tJn [ptr b, bool br]
def openP (d : Dsk.Dk) : Int × Dsk.Dk :=
  if (scanP d.bytes).2 < d.bytes.length then (if (d.cut ((scanP d.bytes).2 : Int)).1 = 0 then (d.cut ((scanP d.bytes).2 : Int)).2.sync else d.cut ((scanP d.bytes).2 : Int)) else d.sync
def brk (e : Int) : Bool := decide (e ≠ 0) && decide (e ≠ 310)
def writeP (d : Dsk.Dk) (br : Bool) (b : Bt) : Int × Dsk.Dk × Bool :=
  if br = true then (320, d, true) else if okB b = true then
    (if (d.append (recB b)).1 = 0 then ((d.append (recB b)).2.sync.1, (d.append (recB b)).2.sync.2, brk (d.append (recB b)).2.sync.1)
      else ((d.append (recB b)).1, (d.append (recB b)).2, brk (d.append (recB b)).1)) else (2, d, false)
theorem Dsk.Dk.ok.opened {d : Dsk.Dk} (h : d.ok) : (openP d).2.ok := by
  unfold openP
  split
  · split
    · exact (h.cut _).sync
    · exact h.cut _
  · exact h.sync
theorem Dsk.Dk.ok.written {d : Dsk.Dk} (h : d.ok) (br : Bool) (b : Bt) : (writeP d br b).2.1.ok := by
  unfold writeP
  split
  · exact h
  · split
    · split
      · exact (h.append _).sync
      · exact h.append _
    · exact h
theorem ok_len {d : Dsk.Dk} (h : d.ok) : d.bytes.length ≤ 1048576 := by have := h.r; have := h.b; omega
set_option maxHeartbeats 4000000 in
theorem Open_good (b : Nat) (d : Dsk.Dk) (h : d.ok) (h0 : (openP d).1 = 0) : FnC Tryd.prog 13 [ptr b] [Dsk.dk b d] (fun s L => ∃ jb, s = .tup [ptr jb, btL (scanP d.bytes).1, int 0] ∧ L = [jn jb b false, Dsk.dk b (openP d).2]) := by
  have hl := ok_len h
  have c1 := Dsk.read_ok b d
  have c2 := Scan_ok d.bytes (by omega)
  have hw := whole_le d.bytes
  by_cases h1 : (scanP d.bytes).2 < d.bytes.length
  · have c3 := Dsk.cut_ok b d ((scanP d.bytes).2 : Int) h.f.2
    have hc := h.cut ((scanP d.bytes).2 : Int)
    have c4 := Dsk.sync_ok b (d.cut ((scanP d.bytes).2 : Int)).2 hc.f.2
    unfold openP at h0 ⊢
    rw [if_pos h1] at h0 ⊢
    by_cases h2 : (d.cut ((scanP d.bytes).2 : Int)).1 = 0
    · rw [if_pos h2] at h0 ⊢
      rw [h2] at c3
      rw [h0] at c4
      have h1' : ((scanP d.bytes).2 : Int) < (d.bytes.length : Int) := by omega
      refine FnC.intro Tryd.func13 rfl Tryd.ntmps13 rfl fun Z w0 hG => ?_
      focus (
 (refine W.seq (W.region (Jx.assign rfl rfl (Jx.assign rfl rfl (Jx.assign rfl rfl (J.nil (N.seq (W.seq (W.region (Jx.move rfl rfl ?_))))))))))
 (refine J.call (c1) rfl (evs_args rfl) rfl ?_; rintro _ _ ⟨rfl, rfl⟩; simp only [la1, la2, la3])
 (refine Jx.assign rfl rfl (J.nil (N.seq (W.seq (W.region (Jx.move rfl rfl ?_))))))
 (refine J.call (c2) rfl (evs_args rfl) rfl ?_; rintro _ _ ⟨rfl, rfl⟩; simp only [la1, la2, la3])
 (refine Jx.move rfl rfl (Jx.extract rfl rfl rfl ?_))
 (refine Jx.extract rfl rfl rfl ?_)
 (refine Jx.assign rfl rfl (Jx.assign rfl rfl (J.nil (N.seq (W.seq (W.seq (W.region (Jx.move rfl rfl (Jx.move rfl rfl (Jx.lenS rfl rfl ?_))))))))))
 (refine Jx.lssI rfl rfl rfl (J.nil (N.seq (W.cT rfl ?_))))
 (refine W.seq (W.region (Jx.move rfl rfl (Jx.move rfl rfl ?_))))
 (refine J.call (c3) rfl (evs_args rfl) rfl ?_; rintro _ _ ⟨rfl, rfl⟩; simp only [la1, la2, la3])
 (refine Jx.assign rfl rfl (J.nil (N.seq (W.seq (W.region (Jx.move rfl rfl (Jx.neqI rfl rfl rfl (J.nil (N.seq (W.cF rfl ?_))))))))))
 (refine W.skip (N.seq (W.seq (W.seq (W.region (Jx.move rfl rfl ?_))))))
 (refine J.call (c4) rfl (evs_args rfl) rfl ?_; rintro _ _ ⟨rfl, rfl⟩; simp only [la1, la2, la3])
 (refine Jx.assign rfl rfl (J.nil (N.seq (W.seq (W.region (Jx.move rfl rfl (Jx.neqI rfl rfl rfl (J.nil (N.seq (W.cF rfl ?_))))))))))
 (refine W.skip (N.seq (W.seq (W.region (Jx.move rfl rfl (Jx.buildB rfl rfl rfl rfl rfl ?_))))))
 (refine J.boxAg rfl rfl ?_; intro b')
 (refine Jx.move rfl rfl (Jx.assign rfl rfl (Jx.assign rfl rfl (Jx.assign rfl rfl (J.nil (N.seq (W.ret ?_)))))))
 (refine id ?_; rotate_left))
      exact N.ret (rs := [.tmp 2, .tmp 3, .tmp 4]) rfl (.tmp rfl (.tmp rfl (.tmp rfl .nil))) ⟨_, rfl, rfl⟩
    · rw [if_neg h2] at h0
      exact absurd h0 h2
  · have c4 := Dsk.sync_ok b d h.f.2
    unfold openP at h0 ⊢
    rw [if_neg h1] at h0 ⊢
    rw [h0] at c4
    have h1' : ¬ ((scanP d.bytes).2 : Int) < (d.bytes.length : Int) := by omega
    refine FnC.intro Tryd.func13 rfl Tryd.ntmps13 rfl fun Z w0 hG => ?_
    focus (
 (refine W.seq (W.region (Jx.assign rfl rfl (Jx.assign rfl rfl (Jx.assign rfl rfl (J.nil (N.seq (W.seq (W.region (Jx.move rfl rfl ?_))))))))))
 (refine J.call (c1) rfl (evs_args rfl) rfl ?_; rintro _ _ ⟨rfl, rfl⟩; simp only [la1, la2, la3])
 (refine Jx.assign rfl rfl (J.nil (N.seq (W.seq (W.region (Jx.move rfl rfl ?_))))))
 (refine J.call (c2) rfl (evs_args rfl) rfl ?_; rintro _ _ ⟨rfl, rfl⟩; simp only [la1, la2, la3])
 (refine Jx.move rfl rfl (Jx.extract rfl rfl rfl ?_))
 (refine Jx.extract rfl rfl rfl ?_)
 (refine Jx.assign rfl rfl (Jx.assign rfl rfl (J.nil (N.seq (W.seq (W.seq (W.region (Jx.move rfl rfl (Jx.move rfl rfl (Jx.lenS rfl rfl ?_))))))))))
 (refine Jx.lssI rfl rfl rfl (J.nil (N.seq (W.cF rfl ?_))))
 (refine W.skip (N.seq (W.seq (W.seq (W.region (Jx.move rfl rfl ?_))))))
 (refine J.call (c4) rfl (evs_args rfl) rfl ?_; rintro _ _ ⟨rfl, rfl⟩; simp only [la1, la2, la3])
 (refine Jx.assign rfl rfl (J.nil (N.seq (W.seq (W.region (Jx.move rfl rfl (Jx.neqI rfl rfl rfl (J.nil (N.seq (W.cF rfl ?_))))))))))
 (refine W.skip (N.seq (W.seq (W.region (Jx.move rfl rfl (Jx.buildB rfl rfl rfl rfl rfl ?_))))))
 (refine J.boxAg rfl rfl ?_; intro b')
 (refine Jx.move rfl rfl (Jx.assign rfl rfl (Jx.assign rfl rfl (Jx.assign rfl rfl (J.nil (N.seq (W.ret ?_)))))))
 (refine id ?_; rotate_left))
    exact N.ret (rs := [.tmp 2, .tmp 3, .tmp 4]) rfl (.tmp rfl (.tmp rfl (.tmp rfl .nil))) ⟨_, rfl, rfl⟩
set_option maxHeartbeats 4000000 in
theorem Open_bad (b : Nat) (d : Dsk.Dk) (h : d.ok) (h0 : (openP d).1 ≠ 0) : FnC Tryd.prog 13 [ptr b] [Dsk.dk b d] (fun s L => s = .tup [.val (.pointer none), btL [], int (openP d).1] ∧ L = [Dsk.dk b (openP d).2]) := by
  have hl := ok_len h
  have c1 := Dsk.read_ok b d
  have c2 := Scan_ok d.bytes (by omega)
  have hw := whole_le d.bytes
  by_cases h1 : (scanP d.bytes).2 < d.bytes.length
  · have c3 := Dsk.cut_ok b d ((scanP d.bytes).2 : Int) h.f.2
    have hc := h.cut ((scanP d.bytes).2 : Int)
    have c4 := Dsk.sync_ok b (d.cut ((scanP d.bytes).2 : Int)).2 hc.f.2
    unfold openP at h0 ⊢
    rw [if_pos h1] at h0 ⊢
    have h1' : ((scanP d.bytes).2 : Int) < (d.bytes.length : Int) := by omega
    by_cases h2 : (d.cut ((scanP d.bytes).2 : Int)).1 = 0
    · rw [if_pos h2] at h0 ⊢
      rw [h2] at c3
      refine FnC.intro Tryd.func13 rfl Tryd.ntmps13 rfl fun Z w0 hG => ?_
      focus (
 (refine W.seq (W.region (Jx.assign rfl rfl (Jx.assign rfl rfl (Jx.assign rfl rfl (J.nil (N.seq (W.seq (W.region (Jx.move rfl rfl ?_))))))))))
 (refine J.call (c1) rfl (evs_args rfl) rfl ?_; rintro _ _ ⟨rfl, rfl⟩; simp only [la1, la2, la3])
 (refine Jx.assign rfl rfl (J.nil (N.seq (W.seq (W.region (Jx.move rfl rfl ?_))))))
 (refine J.call (c2) rfl (evs_args rfl) rfl ?_; rintro _ _ ⟨rfl, rfl⟩; simp only [la1, la2, la3])
 (refine Jx.move rfl rfl (Jx.extract rfl rfl rfl ?_))
 (refine Jx.extract rfl rfl rfl ?_)
 (refine Jx.assign rfl rfl (Jx.assign rfl rfl (J.nil (N.seq (W.seq (W.seq (W.region (Jx.move rfl rfl (Jx.move rfl rfl (Jx.lenS rfl rfl ?_))))))))))
 (refine Jx.lssI rfl rfl rfl (J.nil (N.seq (W.cT rfl ?_))))
 (refine W.seq (W.region (Jx.move rfl rfl (Jx.move rfl rfl ?_))))
 (refine J.call (c3) rfl (evs_args rfl) rfl ?_; rintro _ _ ⟨rfl, rfl⟩; simp only [la1, la2, la3])
 (refine Jx.assign rfl rfl (J.nil (N.seq (W.seq (W.region (Jx.move rfl rfl (Jx.neqI rfl rfl rfl (J.nil (N.seq (W.cF rfl ?_))))))))))
 (refine W.skip (N.seq (W.seq (W.seq (W.region (Jx.move rfl rfl ?_))))))
 (refine J.call (c4) rfl (evs_args rfl) rfl ?_; rintro _ _ ⟨rfl, rfl⟩; simp only [la1, la2, la3])
 (refine Jx.assign rfl rfl (J.nil (N.seq (W.seq (W.region (Jx.move rfl rfl (Jx.neqI rfl rfl rfl (J.nil (N.seq (W.cT rfl ?_))))))))))
 (refine W.seq (W.region (Jx.move rfl rfl (Jx.assign rfl rfl (Jx.assign rfl rfl (Jx.assign rfl rfl (J.nil (N.seq (W.ret (N.noGotoRet ?_))))))))))
 (refine id ?_; rotate_left))
      refine N.told (G := [(2, .val (.pointer none)), (3, btL []), (4, int (d.cut ((scanP d.bytes).2 : Int)).2.sync.1)]) ⟨ref0 rfl, ⟨_, rfl, Sub.nil 1 _⟩, ref0 rfl, trivial⟩ ?_
      exact N.ret (rs := [.tmp 2, .tmp 3, .tmp 4]) rfl (.tmp rfl (.tmp rfl (.tmp rfl .nil))) ⟨rfl, rfl⟩
    · rw [if_neg h2] at h0 ⊢
      refine FnC.intro Tryd.func13 rfl Tryd.ntmps13 rfl fun Z w0 hG => ?_
      focus (
 (refine W.seq (W.region (Jx.assign rfl rfl (Jx.assign rfl rfl (Jx.assign rfl rfl (J.nil (N.seq (W.seq (W.region (Jx.move rfl rfl ?_))))))))))
 (refine J.call (c1) rfl (evs_args rfl) rfl ?_; rintro _ _ ⟨rfl, rfl⟩; simp only [la1, la2, la3])
 (refine Jx.assign rfl rfl (J.nil (N.seq (W.seq (W.region (Jx.move rfl rfl ?_))))))
 (refine J.call (c2) rfl (evs_args rfl) rfl ?_; rintro _ _ ⟨rfl, rfl⟩; simp only [la1, la2, la3])
 (refine Jx.move rfl rfl (Jx.extract rfl rfl rfl ?_))
 (refine Jx.extract rfl rfl rfl ?_)
 (refine Jx.assign rfl rfl (Jx.assign rfl rfl (J.nil (N.seq (W.seq (W.seq (W.region (Jx.move rfl rfl (Jx.move rfl rfl (Jx.lenS rfl rfl ?_))))))))))
 (refine Jx.lssI rfl rfl rfl (J.nil (N.seq (W.cT rfl ?_))))
 (refine W.seq (W.region (Jx.move rfl rfl (Jx.move rfl rfl ?_))))
 (refine J.call (c3) rfl (evs_args rfl) rfl ?_; rintro _ _ ⟨rfl, rfl⟩; simp only [la1, la2, la3])
 (refine Jx.assign rfl rfl (J.nil (N.seq (W.seq (W.region (Jx.move rfl rfl (Jx.neqI rfl rfl rfl (J.nil (N.seq (W.cT rfl ?_))))))))))
 (refine W.seq (W.region (Jx.move rfl rfl (Jx.assign rfl rfl (Jx.assign rfl rfl (Jx.assign rfl rfl (J.nil (N.seq (W.ret (N.noGotoRet ?_))))))))))
 (refine id ?_; rotate_left))
      refine N.told (G := [(2, .val (.pointer none)), (3, btL []), (4, int (d.cut ((scanP d.bytes).2 : Int)).1)]) ⟨ref0 rfl, ⟨_, rfl, Sub.nil 1 _⟩, ref0 rfl, trivial⟩ ?_
      exact N.ret (rs := [.tmp 2, .tmp 3, .tmp 4]) rfl (.tmp rfl (.tmp rfl (.tmp rfl .nil))) ⟨rfl, rfl⟩
  · have c4 := Dsk.sync_ok b d h.f.2
    unfold openP at h0 ⊢
    rw [if_neg h1] at h0 ⊢
    have h1' : ¬ ((scanP d.bytes).2 : Int) < (d.bytes.length : Int) := by omega
    refine FnC.intro Tryd.func13 rfl Tryd.ntmps13 rfl fun Z w0 hG => ?_
    focus (
 (refine W.seq (W.region (Jx.assign rfl rfl (Jx.assign rfl rfl (Jx.assign rfl rfl (J.nil (N.seq (W.seq (W.region (Jx.move rfl rfl ?_))))))))))
 (refine J.call (c1) rfl (evs_args rfl) rfl ?_; rintro _ _ ⟨rfl, rfl⟩; simp only [la1, la2, la3])
 (refine Jx.assign rfl rfl (J.nil (N.seq (W.seq (W.region (Jx.move rfl rfl ?_))))))
 (refine J.call (c2) rfl (evs_args rfl) rfl ?_; rintro _ _ ⟨rfl, rfl⟩; simp only [la1, la2, la3])
 (refine Jx.move rfl rfl (Jx.extract rfl rfl rfl ?_))
 (refine Jx.extract rfl rfl rfl ?_)
 (refine Jx.assign rfl rfl (Jx.assign rfl rfl (J.nil (N.seq (W.seq (W.seq (W.region (Jx.move rfl rfl (Jx.move rfl rfl (Jx.lenS rfl rfl ?_))))))))))
 (refine Jx.lssI rfl rfl rfl (J.nil (N.seq (W.cF rfl ?_))))
 (refine W.skip (N.seq (W.seq (W.seq (W.region (Jx.move rfl rfl ?_))))))
 (refine J.call (c4) rfl (evs_args rfl) rfl ?_; rintro _ _ ⟨rfl, rfl⟩; simp only [la1, la2, la3])
 (refine Jx.assign rfl rfl (J.nil (N.seq (W.seq (W.region (Jx.move rfl rfl (Jx.neqI rfl rfl rfl (J.nil (N.seq (W.cT rfl ?_))))))))))
 (refine W.seq (W.region (Jx.move rfl rfl (Jx.assign rfl rfl (Jx.assign rfl rfl (Jx.assign rfl rfl (J.nil (N.seq (W.ret (N.noGotoRet ?_))))))))))
 (refine id ?_; rotate_left))
    refine N.told (G := [(2, .val (.pointer none)), (3, btL []), (4, int d.sync.1)]) ⟨ref0 rfl, ⟨_, rfl, Sub.nil 1 _⟩, ref0 rfl, trivial⟩ ?_
    exact N.ret (rs := [.tmp 2, .tmp 3, .tmp 4]) rfl (.tmp rfl (.tmp rfl (.tmp rfl .nil))) ⟨rfl, rfl⟩
theorem brk_yes {e : Int} (h : ¬ e = 0) (h2 : ¬ e = 310) : brk e = true := by simp [brk, h, h2]
set_option maxHeartbeats 4000000 in
theorem Write_ok (jb b : Nat) (br : Bool) (d : Dsk.Dk) (h : d.ok) (bt : Bt) : FnC Tryd.prog 15 [ptr jb, ssl bt] [jn jb b br, Dsk.dk b d] (fun s L => s = int (writeP d br bt).1 ∧ L = [jn jb b (writeP d br bt).2.2, Dsk.dk b (writeP d br bt).2.1]) := by
  refine FnC.intro Tryd.func15 rfl Tryd.ntmps15 rfl fun Z w0 hG => ?_
  cases br with
  | true =>
    focus (
 (refine W.seq (W.region (Jx.assign rfl rfl (J.nil (N.seq (W.seq (W.seq (W.region (Jx.move rfl rfl (Jx.nilCheck rfl rfl ?_))))))))))
 (refine Jx.fieldAddr rfl rfl ?_)
 (refine Jx.load rfl 0 rfl rfl rfl ?_)
 (refine J.nil (N.seq (W.cT rfl ?_)))
 (refine W.seq (W.region (Jx.assign rfl rfl (J.nil (N.seq (W.ret (N.noGotoRet ?_)))))))
 (refine id ?_; rotate_left))
    exact N.ret (rs := [.tmp 4]) rfl (.tmp rfl .nil) ⟨rfl, rfl⟩
  | false =>
    have c1 := Record_ok bt
    by_cases hok : okB bt = true
    · rw [recR_yes hok] at c1
      have hrl := rec_len hok
      have hl := ok_len h
      have c2 := Dsk.append_ok b d (recB bt) h.f.2 h.r hl (by omega)
      have ha := h.append (recB bt)
      have c3 := Dsk.sync_ok b (d.append (recB bt)).2 ha.f.2
      have hw : writeP d false bt = if (d.append (recB bt)).1 = 0 then ((d.append (recB bt)).2.sync.1, (d.append (recB bt)).2.sync.2, brk (d.append (recB bt)).2.sync.1) else ((d.append (recB bt)).1, (d.append (recB bt)).2, brk (d.append (recB bt)).1) := by
        unfold writeP; rw [if_neg (by decide), if_pos hok]
      rw [hw]
      by_cases h2 : (d.append (recB bt)).1 = 0
      · rw [if_pos h2]
        rw [h2] at c2
        generalize (d.append (recB bt)).2 = d2 at *
        by_cases h3 : d2.sync.1 = 0
        · rw [h3] at c3 ⊢
          focus (
 (refine W.seq (W.region (Jx.assign rfl rfl (J.nil (N.seq (W.seq (W.seq (W.region (Jx.move rfl rfl (Jx.nilCheck rfl rfl ?_))))))))))
 (refine Jx.fieldAddr rfl rfl ?_)
 (refine Jx.load rfl 0 rfl rfl rfl ?_)
 (refine J.nil (N.seq (W.cF rfl ?_)))
 (refine W.skip (N.seq (W.seq (W.region (Jx.move rfl rfl ?_)))))
 (refine J.call (c1) rfl (evs_args rfl) rfl ?_; rintro _ _ ⟨rfl, rfl⟩; simp only [la1, la2, la3])
 (refine Jx.move rfl rfl (Jx.extract rfl rfl rfl ?_))
 (refine Jx.extract rfl rfl rfl ?_)
 (refine Jx.assign rfl rfl (Jx.assign rfl rfl (J.nil (N.seq (W.seq (W.seq (W.region (Jx.move rfl rfl (Jx.neqI rfl rfl rfl (J.nil (N.seq (W.cF rfl ?_))))))))))))
 (refine W.skip (N.seq (W.seq (W.seq (W.region (Jx.move rfl rfl (Jx.nilCheck rfl rfl ?_)))))))
 (refine Jx.fieldAddr rfl rfl ?_)
 (refine Jx.load rfl 0 rfl rfl rfl ?_)
 (refine Jx.move rfl rfl ?_)
 (refine J.call1 1 (c2) rfl (evs_args rfl) rfl (by rintro _ _ ⟨rfl, rfl⟩; exact ⟨_, rfl⟩) ?_; rintro _ _ ⟨rfl, ⟨⟩⟩; simp only [la4, la5])
 (refine Jx.assign rfl rfl (J.nil (N.seq (W.seq (W.region (Jx.move rfl rfl (Jx.eqlI rfl rfl rfl (J.nil (N.seq (W.cT rfl ?_))))))))))
 (refine W.region (Jx.move rfl rfl (Jx.nilCheck rfl rfl ?_)))
 (refine Jx.fieldAddr rfl rfl ?_)
 (refine Jx.load rfl 0 rfl rfl rfl ?_)
 (refine J.call1 1 (c3) rfl (evs_args rfl) rfl (by rintro _ _ ⟨rfl, rfl⟩; exact ⟨_, rfl⟩) ?_; rintro _ _ ⟨rfl, ⟨⟩⟩; simp only [la4, la5])
 (refine Jx.assign rfl rfl (J.nil (N.seq (W.seq (W.region (Jx.move rfl rfl (Jx.move rfl rfl (Jx.neqI rfl rfl rfl (Jx.move rfl rfl (J.gN rfl rfl rfl rfl ?_))))))))))
 (refine J.gN rfl rfl rfl rfl ?_)
 (refine Jx.pF rfl rfl rfl ?_)
 (refine Jx.nilCheck rfl rfl ?_)
 (refine Jx.fieldAddr rfl rfl ?_)
 (refine J.st 0 rfl rfl rfl rfl rfl rfl ?_)
 (refine J.nil (N.seq (W.seq (W.region (Jx.move rfl rfl (Jx.assign rfl rfl (J.nil (N.seq (W.ret ?_)))))))))
 (refine id ?_; rotate_left))
          exact N.ret (rs := [.tmp 4]) rfl (.tmp rfl .nil) ⟨rfl, rfl⟩
        · by_cases h4 : d2.sync.1 = 310
          · rw [h4] at c3 ⊢
            focus (
 (refine W.seq (W.region (Jx.assign rfl rfl (J.nil (N.seq (W.seq (W.seq (W.region (Jx.move rfl rfl (Jx.nilCheck rfl rfl ?_))))))))))
 (refine Jx.fieldAddr rfl rfl ?_)
 (refine Jx.load rfl 0 rfl rfl rfl ?_)
 (refine J.nil (N.seq (W.cF rfl ?_)))
 (refine W.skip (N.seq (W.seq (W.region (Jx.move rfl rfl ?_)))))
 (refine J.call (c1) rfl (evs_args rfl) rfl ?_; rintro _ _ ⟨rfl, rfl⟩; simp only [la1, la2, la3])
 (refine Jx.move rfl rfl (Jx.extract rfl rfl rfl ?_))
 (refine Jx.extract rfl rfl rfl ?_)
 (refine Jx.assign rfl rfl (Jx.assign rfl rfl (J.nil (N.seq (W.seq (W.seq (W.region (Jx.move rfl rfl (Jx.neqI rfl rfl rfl (J.nil (N.seq (W.cF rfl ?_))))))))))))
 (refine W.skip (N.seq (W.seq (W.seq (W.region (Jx.move rfl rfl (Jx.nilCheck rfl rfl ?_)))))))
 (refine Jx.fieldAddr rfl rfl ?_)
 (refine Jx.load rfl 0 rfl rfl rfl ?_)
 (refine Jx.move rfl rfl ?_)
 (refine J.call1 1 (c2) rfl (evs_args rfl) rfl (by rintro _ _ ⟨rfl, rfl⟩; exact ⟨_, rfl⟩) ?_; rintro _ _ ⟨rfl, ⟨⟩⟩; simp only [la4, la5])
 (refine Jx.assign rfl rfl (J.nil (N.seq (W.seq (W.region (Jx.move rfl rfl (Jx.eqlI rfl rfl rfl (J.nil (N.seq (W.cT rfl ?_))))))))))
 (refine W.region (Jx.move rfl rfl (Jx.nilCheck rfl rfl ?_)))
 (refine Jx.fieldAddr rfl rfl ?_)
 (refine Jx.load rfl 0 rfl rfl rfl ?_)
 (refine J.call1 1 (c3) rfl (evs_args rfl) rfl (by rintro _ _ ⟨rfl, rfl⟩; exact ⟨_, rfl⟩) ?_; rintro _ _ ⟨rfl, ⟨⟩⟩; simp only [la4, la5])
 (refine Jx.assign rfl rfl (J.nil (N.seq (W.seq (W.region (Jx.move rfl rfl (Jx.move rfl rfl (Jx.neqI rfl rfl rfl (Jx.move rfl rfl (J.gY rfl rfl rfl ?_))))))))))
 (refine Jx.move rfl rfl (J.gY rfl rfl rfl ?_))
 (refine Jx.neqI rfl rfl rfl (Jx.pT rfl rfl rfl ?_))
 (refine Jx.nilCheck rfl rfl ?_)
 (refine Jx.fieldAddr rfl rfl ?_)
 (refine J.st 0 rfl rfl rfl rfl rfl rfl ?_)
 (refine J.nil (N.seq (W.seq (W.region (Jx.move rfl rfl (Jx.assign rfl rfl (J.nil (N.seq (W.ret ?_)))))))))
 (refine id ?_; rotate_left))
            exact N.ret (rs := [.tmp 4]) rfl (.tmp rfl .nil) ⟨rfl, rfl⟩
          · rw [brk_yes h3 h4]
            generalize d2.sync.1 = e at *
            focus (
 (refine W.seq (W.region (Jx.assign rfl rfl (J.nil (N.seq (W.seq (W.seq (W.region (Jx.move rfl rfl (Jx.nilCheck rfl rfl ?_))))))))))
 (refine Jx.fieldAddr rfl rfl ?_)
 (refine Jx.load rfl 0 rfl rfl rfl ?_)
 (refine J.nil (N.seq (W.cF rfl ?_)))
 (refine W.skip (N.seq (W.seq (W.region (Jx.move rfl rfl ?_)))))
 (refine J.call (c1) rfl (evs_args rfl) rfl ?_; rintro _ _ ⟨rfl, rfl⟩; simp only [la1, la2, la3])
 (refine Jx.move rfl rfl (Jx.extract rfl rfl rfl ?_))
 (refine Jx.extract rfl rfl rfl ?_)
 (refine Jx.assign rfl rfl (Jx.assign rfl rfl (J.nil (N.seq (W.seq (W.seq (W.region (Jx.move rfl rfl (Jx.neqI rfl rfl rfl (J.nil (N.seq (W.cF rfl ?_))))))))))))
 (refine W.skip (N.seq (W.seq (W.seq (W.region (Jx.move rfl rfl (Jx.nilCheck rfl rfl ?_)))))))
 (refine Jx.fieldAddr rfl rfl ?_)
 (refine Jx.load rfl 0 rfl rfl rfl ?_)
 (refine Jx.move rfl rfl ?_)
 (refine J.call1 1 (c2) rfl (evs_args rfl) rfl (by rintro _ _ ⟨rfl, rfl⟩; exact ⟨_, rfl⟩) ?_; rintro _ _ ⟨rfl, ⟨⟩⟩; simp only [la4, la5])
 (refine Jx.assign rfl rfl (J.nil (N.seq (W.seq (W.region (Jx.move rfl rfl (Jx.eqlI rfl rfl rfl (J.nil (N.seq (W.cT rfl ?_))))))))))
 (refine W.region (Jx.move rfl rfl (Jx.nilCheck rfl rfl ?_)))
 (refine Jx.fieldAddr rfl rfl ?_)
 (refine Jx.load rfl 0 rfl rfl rfl ?_)
 (refine J.call1 1 (c3) rfl (evs_args rfl) rfl (by rintro _ _ ⟨rfl, rfl⟩; exact ⟨_, rfl⟩) ?_; rintro _ _ ⟨rfl, ⟨⟩⟩; simp only [la4, la5])
 (refine Jx.assign rfl rfl (J.nil (N.seq (W.seq (W.region (Jx.move rfl rfl (Jx.move rfl rfl (Jx.neqI rfl rfl rfl (Jx.move rfl rfl (J.gY rfl rfl rfl ?_))))))))))
 (refine Jx.move rfl rfl (J.gY rfl rfl rfl ?_))
 (refine Jx.neqI rfl rfl rfl (Jx.pT rfl rfl rfl ?_))
 (refine Jx.nilCheck rfl rfl ?_)
 (refine Jx.fieldAddr rfl rfl ?_)
 (refine J.st 0 rfl rfl rfl rfl rfl rfl ?_)
 (refine J.nil (N.seq (W.seq (W.region (Jx.move rfl rfl (Jx.assign rfl rfl (J.nil (N.seq (W.ret ?_)))))))))
 (refine id ?_; rotate_left))
            refine N.ret (rs := [.tmp 4]) rfl (.tmp rfl .nil) ⟨rfl, ?_⟩
            simp [h4]
      · rw [if_neg h2]
        by_cases h4 : (d.append (recB bt)).1 = 310
        · rw [h4] at c2 ⊢
          focus (
 (refine W.seq (W.region (Jx.assign rfl rfl (J.nil (N.seq (W.seq (W.seq (W.region (Jx.move rfl rfl (Jx.nilCheck rfl rfl ?_))))))))))
 (refine Jx.fieldAddr rfl rfl ?_)
 (refine Jx.load rfl 0 rfl rfl rfl ?_)
 (refine J.nil (N.seq (W.cF rfl ?_)))
 (refine W.skip (N.seq (W.seq (W.region (Jx.move rfl rfl ?_)))))
 (refine J.call (c1) rfl (evs_args rfl) rfl ?_; rintro _ _ ⟨rfl, rfl⟩; simp only [la1, la2, la3])
 (refine Jx.move rfl rfl (Jx.extract rfl rfl rfl ?_))
 (refine Jx.extract rfl rfl rfl ?_)
 (refine Jx.assign rfl rfl (Jx.assign rfl rfl (J.nil (N.seq (W.seq (W.seq (W.region (Jx.move rfl rfl (Jx.neqI rfl rfl rfl (J.nil (N.seq (W.cF rfl ?_))))))))))))
 (refine W.skip (N.seq (W.seq (W.seq (W.region (Jx.move rfl rfl (Jx.nilCheck rfl rfl ?_)))))))
 (refine Jx.fieldAddr rfl rfl ?_)
 (refine Jx.load rfl 0 rfl rfl rfl ?_)
 (refine Jx.move rfl rfl ?_)
 (refine J.call1 1 (c2) rfl (evs_args rfl) rfl (by rintro _ _ ⟨rfl, rfl⟩; exact ⟨_, rfl⟩) ?_; rintro _ _ ⟨rfl, ⟨⟩⟩; simp only [la4, la5])
 (refine Jx.assign rfl rfl (J.nil (N.seq (W.seq (W.region (Jx.move rfl rfl (Jx.eqlI rfl rfl rfl (J.nil (N.seq (W.cF rfl ?_))))))))))
 (refine W.skip (N.seq (W.seq (W.region (Jx.move rfl rfl (Jx.move rfl rfl (Jx.neqI rfl rfl rfl (Jx.move rfl rfl (J.gY rfl rfl rfl ?_)))))))))
 (refine Jx.move rfl rfl (J.gY rfl rfl rfl ?_))
 (refine Jx.neqI rfl rfl rfl (Jx.pT rfl rfl rfl ?_))
 (refine Jx.nilCheck rfl rfl ?_)
 (refine Jx.fieldAddr rfl rfl ?_)
 (refine J.st 0 rfl rfl rfl rfl rfl rfl ?_)
 (refine J.nil (N.seq (W.seq (W.region (Jx.move rfl rfl (Jx.assign rfl rfl (J.nil (N.seq (W.ret ?_)))))))))
 (refine id ?_; rotate_left))
          exact N.ret (rs := [.tmp 4]) rfl (.tmp rfl .nil) ⟨rfl, rfl⟩
        · rw [brk_yes h2 h4]
          generalize (d.append (recB bt)).1 = e at *
          focus (
 (refine W.seq (W.region (Jx.assign rfl rfl (J.nil (N.seq (W.seq (W.seq (W.region (Jx.move rfl rfl (Jx.nilCheck rfl rfl ?_))))))))))
 (refine Jx.fieldAddr rfl rfl ?_)
 (refine Jx.load rfl 0 rfl rfl rfl ?_)
 (refine J.nil (N.seq (W.cF rfl ?_)))
 (refine W.skip (N.seq (W.seq (W.region (Jx.move rfl rfl ?_)))))
 (refine J.call (c1) rfl (evs_args rfl) rfl ?_; rintro _ _ ⟨rfl, rfl⟩; simp only [la1, la2, la3])
 (refine Jx.move rfl rfl (Jx.extract rfl rfl rfl ?_))
 (refine Jx.extract rfl rfl rfl ?_)
 (refine Jx.assign rfl rfl (Jx.assign rfl rfl (J.nil (N.seq (W.seq (W.seq (W.region (Jx.move rfl rfl (Jx.neqI rfl rfl rfl (J.nil (N.seq (W.cF rfl ?_))))))))))))
 (refine W.skip (N.seq (W.seq (W.seq (W.region (Jx.move rfl rfl (Jx.nilCheck rfl rfl ?_)))))))
 (refine Jx.fieldAddr rfl rfl ?_)
 (refine Jx.load rfl 0 rfl rfl rfl ?_)
 (refine Jx.move rfl rfl ?_)
 (refine J.call1 1 (c2) rfl (evs_args rfl) rfl (by rintro _ _ ⟨rfl, rfl⟩; exact ⟨_, rfl⟩) ?_; rintro _ _ ⟨rfl, ⟨⟩⟩; simp only [la4, la5])
 (refine Jx.assign rfl rfl (J.nil (N.seq (W.seq (W.region (Jx.move rfl rfl (Jx.eqlI rfl rfl rfl (J.nil (N.seq (W.cF rfl ?_))))))))))
 (refine W.skip (N.seq (W.seq (W.region (Jx.move rfl rfl (Jx.move rfl rfl (Jx.neqI rfl rfl rfl (Jx.move rfl rfl (J.gY rfl rfl rfl ?_)))))))))
 (refine Jx.move rfl rfl (J.gY rfl rfl rfl ?_))
 (refine Jx.neqI rfl rfl rfl (Jx.pT rfl rfl rfl ?_))
 (refine Jx.nilCheck rfl rfl ?_)
 (refine Jx.fieldAddr rfl rfl ?_)
 (refine J.st 0 rfl rfl rfl rfl rfl rfl ?_)
 (refine J.nil (N.seq (W.seq (W.region (Jx.move rfl rfl (Jx.assign rfl rfl (J.nil (N.seq (W.ret ?_)))))))))
 (refine id ?_; rotate_left))
          refine N.ret (rs := [.tmp 4]) rfl (.tmp rfl .nil) ⟨rfl, ?_⟩
          simp [h4]
    · rw [recR_no hok] at c1
      have hw : writeP d false bt = (2, d, false) := by
        unfold writeP; rw [if_neg (by decide), if_neg hok]
      rw [hw]
      focus (
 (refine W.seq (W.region (Jx.assign rfl rfl (J.nil (N.seq (W.seq (W.seq (W.region (Jx.move rfl rfl (Jx.nilCheck rfl rfl ?_))))))))))
 (refine Jx.fieldAddr rfl rfl ?_)
 (refine Jx.load rfl 0 rfl rfl rfl ?_)
 (refine J.nil (N.seq (W.cF rfl ?_)))
 (refine W.skip (N.seq (W.seq (W.region (Jx.move rfl rfl ?_)))))
 (refine J.call (c1) rfl (evs_args rfl) rfl ?_; rintro _ _ ⟨rfl, rfl⟩; simp only [la1, la2, la3])
 (refine Jx.move rfl rfl (Jx.extract rfl rfl rfl ?_))
 (refine Jx.extract rfl rfl rfl ?_)
 (refine Jx.assign rfl rfl (Jx.assign rfl rfl (J.nil (N.seq (W.seq (W.seq (W.region (Jx.move rfl rfl (Jx.neqI rfl rfl rfl (J.nil (N.seq (W.cT rfl ?_))))))))))))
 (refine W.seq (W.region (Jx.move rfl rfl (Jx.assign rfl rfl (J.nil (N.seq (W.ret (N.noGotoRet ?_))))))))
 (refine id ?_; rotate_left))
      exact N.ret (rs := [.tmp 4]) rfl (.tmp rfl .nil) ⟨rfl, rfl⟩
end Go.Proofs.YtbdkenlkimiddaaDoor
namespace Go.Proofs.YtbdkenlkimiddaaDoor
open Go Go.Sse
set_option linter.unusedVariables false
set_option linter.unusedSimpArgs false
set_option maxRecDepth 10000
end Go.Proofs.YtbdkenlkimiddaaDoor
namespace Go.Proofs.YtbdkenlkimiddaaDoor
open Go Go.Sse
set_option linter.unusedVariables false
set_option linter.unusedSimpArgs false
set_option maxRecDepth 10000
structure Whole (l : List Bt) (i : Nat) (d : Dsk.Dk) : Prop where
  ok : d.ok
  rm : d.room = 1048576
  up : d.down = false
  by_ : d.bytes = recsB (l.take i)
  sf : d.safe = ((recsB (l.take i)).length : Int)
structure Torn (l : List Bt) (i : Nat) (d : Dsk.Dk) : Prop where
  ok : d.ok
  rm : d.room = 1048576
  by_ : ∃ m, i ≤ m ∧ m ≤ i + 1 ∧ m ≤ l.length ∧ d.bytes = recsB (l.take m)
  sf : d.safe = ((recsB (l.take i)).length : Int)
structure Tells (l : List Bt) (m : Nat) (d : Dsk.Dk) : Prop where
  ok : d.ok
  rm : d.room = 1048576
  sc : scanP d.bytes = (l.take m, (recsB (l.take m)).length)
  sf : d.safe = (d.bytes.length : Int)
theorem Whole.torn {l : List Bt} {i : Nat} {d : Dsk.Dk} (h : Whole l i d) (hi : i ≤ l.length) : Torn l i d := ⟨h.ok, h.rm, ⟨i, by omega, by omega, hi, h.by_⟩, h.sf⟩
theorem append_eq {d : Dsk.Dk} (h1 : d.down = false) {s : List UInt8} (h2 : (d.bytes.length : Int) + s.length ≤ d.room) : d.append s = if d.fuse = 0 then (311, d.dead) else (0, { d.burn with bytes := d.bytes ++ s }) := by
  unfold Dsk.Dk.append
  rw [if_neg (by rw [h1]; decide), if_neg (by omega)]
theorem sync_eq {d : Dsk.Dk} (h1 : d.down = false) : d.sync = if d.fuse = 0 then (311, d.dead) else (0, { d.burn with safe := d.bytes.length }) := by
  unfold Dsk.Dk.sync
  rw [if_neg (by rw [h1]; decide)]
theorem cut_eq {d : Dsk.Dk} (h1 : d.down = false) {n : Nat} (h2 : n ≤ d.bytes.length) : d.cut (n : Int) = if d.fuse = 0 then (311, d.dead) else (0, { d.burn with bytes := d.bytes.take n, safe := if (n : Int) < d.safe then (n : Int) else d.safe }) := by
  unfold Dsk.Dk.cut
  rw [if_neg (by rw [h1]; decide), if_neg (by omega), Int.toNat_natCast]
theorem write_eq (d : Dsk.Dk) {b : Bt} (h : okB b = true) : writeP d false b = if (d.append (recB b)).1 = 0 then ((d.append (recB b)).2.sync.1, (d.append (recB b)).2.sync.2, brk (d.append (recB b)).2.sync.1) else ((d.append (recB b)).1, (d.append (recB b)).2, brk (d.append (recB b)).1) := by
  unfold writeP; rw [if_neg (by decide), if_pos h]
theorem write_step {l : List Bt} (hw : wrB l = true) {i : Nat} (hi : i < l.length) {d : Dsk.Dk} (h : Whole l i d) :
    ((writeP d false (l.getD i [])).1 = 0 → Whole l (i + 1) (writeP d false (l.getD i [])).2.1 ∧ (writeP d false (l.getD i [])).2.2 = false) ∧ ((writeP d false (l.getD i [])).1 ≠ 0 → Torn l i (writeP d false (l.getD i [])).2.1) := by
  obtain ⟨w1, w2⟩ := wrB_spec hw
  have hok := (few_rec (w2 _ (mem_getD l [] hi))).1
  have hok2 := h.ok.written false (l.getD i [])
  have hl1 := recs_len (l := l.take (i + 1)) (fun b hb => w2 b (List.mem_of_mem_take hb))
  rw [List.length_take] at hl1
  have hup := recs_up l hi
  have hul := congrArg List.length hup
  rw [List.length_append] at hul
  have ha := append_eq h.up (s := recB (l.getD i [])) (by rw [h.by_, h.rm]; omega)
  have hby := h.by_
  have hsf := h.sf
  have hrm := h.rm
  have hup' := h.up
  rw [write_eq d hok] at hok2 ⊢
  by_cases f0 : d.fuse = 0
  · rw [if_pos f0] at ha
    rw [ha] at hok2 ⊢
    simp only [show ¬ (311 : Int) = 0 by decide, if_false] at hok2 ⊢
    exact ⟨fun h => False.elim h, fun _ => ⟨hok2, hrm, ⟨i, by omega, by omega, by omega, hby⟩, hsf⟩⟩
  · rw [if_neg f0] at ha
    rw [ha] at hok2 ⊢
    simp only [if_true] at hok2 ⊢
    have hs := sync_eq (d := { d.burn with bytes := d.bytes ++ recB (l.getD i []) }) hup'
    by_cases f1 : d.burn.fuse = 0
    · rw [if_pos f1] at hs
      rw [hs] at hok2 ⊢
      exact ⟨fun h => absurd (show (311 : Int) = 0 from h) (by decide), fun _ => ⟨hok2, hrm, ⟨i + 1, by omega, by omega, by omega, by rw [hup, ← hby]; rfl⟩, hsf⟩⟩
    · rw [if_neg f1] at hs
      rw [hs] at hok2 ⊢
      refine ⟨fun _ => ⟨⟨hok2, hrm, hup', ?_, ?_⟩, rfl⟩, fun h => absurd rfl h⟩
      · show d.bytes ++ recB (l.getD i []) = _
        rw [hup, hby]
      · show (((d.bytes ++ recB (l.getD i [])).length : Nat) : Int) = _
        rw [hup, hby]
theorem crash_tells {l : List Bt} (hw : wrB l = true) {i : Nat} {d : Dsk.Dk} (h : Torn l i d) (k : Int) : ∃ m, i ≤ m ∧ m ≤ i + 1 ∧ m ≤ l.length ∧ Tells l m (d.crash k) ∧ (d.crash k).down = false := by
  obtain ⟨w1, w2⟩ := wrB_spec hw
  have hok : ∀ b ∈ l, okB b = true := fun b hb => (few_rec (w2 b hb)).1
  obtain ⟨m, h1, h2, h3, h4⟩ := h.by_
  obtain ⟨e1, e2⟩ := Dsk.Dk.left_bd h.ok k
  have h5 := h.sf
  have hbl : (recsB (l.take m)).length = d.bytes.length := by rw [h4]
  have hmono := recs_mono l h1
  obtain ⟨n, hn⟩ : ∃ n : Nat, d.left k = (n : Int) := ⟨(d.left k).toNat, by omega⟩
  have hcok : (d.crash k).ok := by
    refine ⟨?_, ?_, h.ok.r, ?_, ?_⟩
    · show 0 ≤ d.left k; omega
    · show d.left k ≤ (((d.bytes.take (d.left k).toNat).length : Nat) : Int); rw [List.length_take]; omega
    · show (((d.bytes.take (d.left k).toNat).length : Nat) : Int) ≤ d.room
      rw [List.length_take]; have := h.ok.b; omega
    · exact ⟨by show (-1 : Int) ≤ -1; omega, by show (-1 : Int) ≤ _; omega⟩
  have hsf : (d.crash k).safe = (((d.crash k).bytes.length : Nat) : Int) := by
    show d.left k = (((d.bytes.take (d.left k).toNat).length : Nat) : Int)
    rw [List.length_take]; omega
  have hby : (d.crash k).bytes = (recsB (l.take m)).take n := by
    show d.bytes.take (d.left k).toNat = _
    rw [hn, Int.toNat_natCast, h4]
  have hokm : ∀ b ∈ l.take m, okB b = true := fun b hb => hok b (List.mem_of_mem_take hb)
  by_cases hfull : n = (recsB (l.take m)).length
  · refine ⟨m, h1, h2, h3, ⟨hcok, h.rm, ?_, hsf⟩, rfl⟩
    rw [hby, hfull, List.take_length, scanP_all hokm]
  · have hm : m = i + 1 := by
      rcases Nat.lt_or_ge i m with h6 | h6
      · omega
      · have : m = i := by omega
        subst this; omega
    subst hm
    refine ⟨i, Nat.le_refl _, by omega, by omega, ⟨hcok, h.rm, ?_, hsf⟩, rfl⟩
    have := scan_cut (l := l.take (i + 1)) hokm (m := i) (k := n) (by rw [List.length_take]; omega) (by rw [List.take_take, Nat.min_eq_left (by omega)]; omega) (fun _ => by rw [List.take_take, Nat.min_self]; omega)
    rw [hby, this, List.take_take, Nat.min_eq_left (by omega)]
theorem tells_crash {l : List Bt} {m : Nat} {d : Dsk.Dk} (h : Tells l m d) (k : Int) : Tells l m (d.crash k) ∧ (d.crash k).down = false := by
  obtain ⟨e1, e2⟩ := Dsk.Dk.left_bd h.ok k
  have h5 := h.sf
  have hn : d.left k = (d.bytes.length : Int) := by omega
  have hby : (d.crash k).bytes = d.bytes := by
    show d.bytes.take (d.left k).toNat = _
    rw [hn, Int.toNat_natCast, List.take_length]
  refine ⟨⟨⟨?_, ?_, h.ok.r, ?_, ?_⟩, h.rm, by rw [hby]; exact h.sc, by rw [hby]; exact hn⟩, rfl⟩
  · show 0 ≤ d.left k; omega
  · rw [hby]; show d.left k ≤ _; omega
  · rw [hby]; exact h.ok.b
  · exact ⟨by show (-1 : Int) ≤ -1; omega, by show (-1 : Int) ≤ _; omega⟩
theorem tells_fused {l : List Bt} {m : Nat} {d : Dsk.Dk} (h : Tells l m d) {n : Int} (hn : n ≤ 9223372036854775807) : Tells l m (d.fused n) ∧ (d.fused n).down = d.down := ⟨⟨h.ok.fused hn, h.rm, h.sc, h.sf⟩, rfl⟩
theorem take_scan {l : List Bt} (hok : ∀ b ∈ l, okB b = true) {m : Nat} {s : List UInt8} (h : scanP s = (l.take m, (recsB (l.take m)).length)) : s.take (recsB (l.take m)).length = recsB (l.take m) ∧ (recsB (l.take m)).length ≤ s.length := by
  obtain ⟨r, h1, _, _, _⟩ := scanP_spec s
  rw [h] at h1
  simp only at h1
  exact ⟨by rw [h1]; simp, by have := congrArg List.length h1; rw [List.length_append] at this; omega⟩
theorem tells_open {l : List Bt} (hok : ∀ b ∈ l, okB b = true) {m : Nat} {d : Dsk.Dk} (h : Tells l m d) (hd : d.down = false) :
    Tells l m (openP d).2 ∧ ((openP d).1 = 0 → (openP d).2.down = false) := by
  have ho := h.ok.opened
  obtain ⟨g1, g2⟩ := take_scan hok h.sc
  have hsf := h.sf
  have hrm := h.rm
  have hsc := h.sc
  have hs := sync_eq hd
  unfold openP at ho ⊢
  rw [hsc] at ho ⊢
  simp only at ho ⊢
  by_cases h1 : (recsB (l.take m)).length < d.bytes.length
  · rw [if_pos h1] at ho ⊢
    have hc := cut_eq hd (n := (recsB (l.take m)).length) g2
    by_cases f0 : d.fuse = 0
    · rw [if_pos f0] at hc
      rw [hc] at ho ⊢
      simp only [show ¬ (311 : Int) = 0 by decide, if_false] at ho ⊢
      exact ⟨⟨ho, hrm, hsc, hsf⟩, fun h => False.elim h⟩
    · rw [if_neg f0] at hc
      rw [hc] at ho ⊢
      simp only [if_true] at ho ⊢
      have hs2 := sync_eq (d := { d.burn with bytes := d.bytes.take (recsB (l.take m)).length, safe := if ((recsB (l.take m)).length : Int) < d.safe then ((recsB (l.take m)).length : Int) else d.safe }) hd
      have hsc2 : scanP (d.bytes.take (recsB (l.take m)).length) = (l.take m, (recsB (l.take m)).length) := by
        rw [g1, scanP_all (fun b hb => hok b (List.mem_of_mem_take hb))]
      by_cases f1 : d.burn.fuse = 0
      · rw [if_pos f1] at hs2
        rw [hs2] at ho ⊢
        refine ⟨⟨ho, hrm, hsc2, ?_⟩, fun h => absurd (show (311 : Int) = 0 from h) (by decide)⟩
        show (if ((recsB (l.take m)).length : Int) < d.safe then ((recsB (l.take m)).length : Int) else d.safe) = (((d.bytes.take (recsB (l.take m)).length).length : Nat) : Int)
        rw [if_pos (by omega), List.length_take]; omega
      · rw [if_neg f1] at hs2
        rw [hs2] at ho ⊢
        exact ⟨⟨ho, hrm, hsc2, rfl⟩, fun _ => hd⟩
  · rw [if_neg h1] at ho ⊢
    by_cases f0 : d.fuse = 0
    · rw [if_pos f0] at hs
      rw [hs] at ho ⊢
      exact ⟨⟨ho, hrm, hsc, hsf⟩, fun h => absurd (show (311 : Int) = 0 from h) (by decide)⟩
    · rw [if_neg f0] at hs
      rw [hs] at ho ⊢
      exact ⟨⟨ho, hrm, hsc, rfl⟩, fun _ => hd⟩
theorem open_free {l : List Bt} (hok : ∀ b ∈ l, okB b = true) {m : Nat} (hm : m ≤ l.length) {d : Dsk.Dk} (h : Tells l m d) (hd : d.down = false) (hf : d.fuse = -1) :
    (openP d).1 = 0 ∧ Whole l m (openP d).2 ∧ (openP d).2.fuse = -1 := by
  have ho := h.ok.opened
  obtain ⟨g1, g2⟩ := take_scan hok h.sc
  have hrm := h.rm
  have hsc := h.sc
  have hs := sync_eq hd
  have hb : d.burn.fuse = -1 := by simp only [Dsk.Dk.burn, hf]; decide
  rw [if_neg (by omega)] at hs
  unfold openP at ho ⊢
  rw [hsc] at ho ⊢
  simp only at ho ⊢
  by_cases h1 : (recsB (l.take m)).length < d.bytes.length
  · rw [if_pos h1] at ho ⊢
    have hc := cut_eq hd (n := (recsB (l.take m)).length) g2
    rw [if_neg (by omega)] at hc
    rw [hc] at ho ⊢
    simp only [if_true] at ho ⊢
    have hs2 := sync_eq (d := { d.burn with bytes := d.bytes.take (recsB (l.take m)).length, safe := if ((recsB (l.take m)).length : Int) < d.safe then ((recsB (l.take m)).length : Int) else d.safe }) hd
    replace hs2 := hs2.trans (if_neg (show ¬ d.burn.fuse = 0 by omega))
    rw [hs2] at ho ⊢
    refine ⟨rfl, ⟨ho, hrm, hd, g1, ?_⟩, ?_⟩
    · show (((d.bytes.take (recsB (l.take m)).length).length : Nat) : Int) = _
      rw [g1]
    · simp only [Dsk.Dk.burn, hf]; decide
  · rw [if_neg h1] at ho ⊢
    have he : d.bytes = recsB (l.take m) := by rw [← g1, List.take_of_length_le (by omega)]
    rw [hs] at ho ⊢
    refine ⟨rfl, ⟨ho, hrm, hd, he, ?_⟩, hb⟩
    show ((d.bytes.length : Nat) : Int) = _
    rw [he]
theorem write_free {l : List Bt} (hw : wrB l = true) {m : Nat} {d : Dsk.Dk} (h : Whole l m d) (hf : d.fuse = -1) {b : Bt} (hb : fewB b 10 200 = true) :
    (writeP d false b).1 = 0 ∧ (writeP d false b).2.1.bytes = recsB (l.take m) ++ recB b ∧ (writeP d false b).2.1.safe = ((recsB (l.take m) ++ recB b).length : Int) ∧ (writeP d false b).2.1.down = false ∧ (writeP d false b).2.1.fuse = -1 := by
  obtain ⟨w1, w2⟩ := wrB_spec hw
  obtain ⟨hok, hrl⟩ := few_rec hb
  have hl1 := recs_len (l := l.take m) (fun b hb => w2 b (List.mem_of_mem_take hb))
  rw [List.length_take] at hl1
  have ha := append_eq h.up (s := recB b) (by rw [h.by_, h.rm]; omega)
  have hby := h.by_
  have hup' := h.up
  have hbf : d.burn.fuse = -1 := by simp only [Dsk.Dk.burn, hf]; decide
  rw [if_neg (by omega)] at ha
  rw [write_eq d hok, ha]
  simp only [if_true]
  have hs := sync_eq (d := { d.burn with bytes := d.bytes ++ recB b }) hup'
  rw [if_neg (by show ¬ d.burn.fuse = 0; omega)] at hs
  rw [hs]
  refine ⟨rfl, ?_, ?_, hup', ?_⟩
  · show d.bytes ++ recB b = _
    rw [hby]
  · show (((d.bytes ++ recB b).length : Nat) : Int) = _
    rw [hby]
  · simp only [Dsk.Dk.burn, hf]; decide
theorem fresh_open : (openP (Dsk.Dk.fresh 1048576)).1 = 0 ∧ (scanP (Dsk.Dk.fresh 1048576).bytes).1 = [] ∧ ∀ l, Whole l 0 (openP (Dsk.Dk.fresh 1048576)).2 := by
  have e : (Dsk.Dk.fresh 1048576).bytes = [] := rfl
  have e2 : openP (Dsk.Dk.fresh 1048576) = (0, Dsk.Dk.fresh 1048576) := by
    unfold openP
    rw [e, scanP_nil]
    rfl
  rw [e, scanP_nil, e2]
  exact ⟨rfl, rfl, fun l => ⟨Dsk.Dk.fresh_ok (by decide), rfl, rfl, by simp [Dsk.Dk.fresh, recsB], by simp [Dsk.Dk.fresh, recsB]⟩⟩
abbrev mo : Bt := [[109, 111, 114, 101]]
theorem mo_few : fewB mo 10 200 = true := by decide
theorem more_open {l : List Bt} (hw : wrB l = true) {m : Nat} {d : Dsk.Dk} (h : Whole l m d) (hf : d.fuse = -1) :
    (writeP d false mo).1 = 0 ∧ (openP (writeP d false mo).2.1).1 = 0 ∧ (scanP (writeP d false mo).2.1.bytes).1 = l.take m ++ [mo] := by
  obtain ⟨w1, w2⟩ := wrB_spec hw
  obtain ⟨a1, a2, a3, a4, a5⟩ := write_free hw h hf mo_few
  have hok2 : ∀ b ∈ l.take m ++ [mo], okB b = true := fun b hb => by
    rcases List.mem_append.1 hb with hb | hb
    · exact (few_rec (w2 b (List.mem_of_mem_take hb))).1
    · rw [List.mem_singleton.1 hb]; exact (few_rec mo_few).1
  have e : recsB (l.take m ++ [mo]) = recsB (l.take m) ++ recB mo := by rw [recsB_append, recsB_cons]; simp [recsB]
  have hsc := scanP_all hok2
  have hT : Tells (l.take m ++ [mo]) (l.take m ++ [mo]).length (writeP d false mo).2.1 := by
    refine ⟨h.ok.written false mo, ?_, ?_, ?_⟩
    · have hr := h.rm
      have ho := h.ok
      unfold writeP Dsk.Dk.append Dsk.Dk.sync
      repeat' split
      all_goals first | exact hr
    · rw [a2, ← e, hsc, List.take_length]
    · rw [a2, a3]
  refine ⟨a1, (open_free hok2 (Nat.le_refl _) hT a4 a5).1, ?_⟩
  rw [a2, ← e, hsc]
end Go.Proofs.YtbdkenlkimiddaaDoor
namespace Go.Proofs.YtbdkenlkimiddaaDoor
open Go Go.Sse
set_option linter.unusedVariables false
set_option linter.unusedSimpArgs false
set_option maxRecDepth 10000
def JnX {α : Type} (Γ : Ctx) (id : Nat) (F' : α → List (Nat × SV)) (L' : α → List Own) (I : α → Prop) : Exit → Act → World → Prop := fun e a w => e = .exit id ∧ ∃ x, I x ∧ St Γ (F' x) (L' x) a w
theorem W.joinX {P : Program} {Γ : Ctx} {Q : Exit → Act → World → Prop} {F : List (Nat × SV)} {L : List Own} {α : Type} {c : Code} (id : Nat) (F' : α → List (Nat × SV)) (L' : α → List Own) (I : α → Prop) (h : W P Γ (JnX Γ id F' L' I) F L c) (k : ∀ x, I x → N Γ (Q (.exit id)) (F' x) (L' x)) : W P Γ Q F L c :=
  ⟨fun a w hst => wp_mono (h.go a w hst) (by rintro e a w ⟨rfl, x, hx, hs⟩; exact (k x hx).go a w hs)⟩
theorem N.joinX {Γ : Ctx} {F : List (Nat × SV)} {L : List Own} {α : Type} {id : Nat} {F' : α → List (Nat × SV)} {L' : α → List Own} {I : α → Prop} (x : α) (hx : I x) (hL : L = L' x) (hF : Sse.Told F (F' x)) : N Γ (JnX Γ id F' L' I (.exit id)) F L :=
  ⟨fun a w hst => by subst hL; exact ⟨rfl, x, hx, hst.told hF⟩⟩
set_option maxHeartbeats 4000000 in
theorem jsafe_no (l : List Bt) (x y : List SV) (hx : x.length = 2) (hy : y.length = 2) (hw : wrB l = false) : FnC Tryd.prog 5 [btL l, .agg x, .agg y] [] (fun r L => r = bool true ∧ L = []) := by
  have c2 := written_no l hw
  refine FnC.intro Tryd.func5 rfl Tryd.ntmps5 rfl fun Z w0 hG => ?_
  focus (
 (refine W.seq (W.region ?_))
 (refine J.boxAg rfl rfl ?_; intro b')
 (refine J.boxAg rfl rfl ?_; intro b')
 (refine Jx.assign rfl rfl (J.nil (N.seq (W.seq (W.seq (W.region ?_))))))
 (refine J.call (works_ok) rfl (evs_args rfl) rfl ?_; rintro _ _ ⟨rfl, rfl⟩; simp only [la1, la2, la3])
 (refine Jx.not rfl rfl (J.nil (N.seq (W.cF rfl ?_))))
 (refine W.skip (N.seq (W.seq (W.seq (W.region (Jx.move rfl rfl ?_))))))
 (refine J.call (c2) rfl (evs_args rfl) rfl ?_; rintro _ _ ⟨rfl, rfl⟩; simp only [la1, la2, la3])
 (refine Jx.move rfl rfl (Jx.extract rfl rfl rfl ?_))
 (refine Jx.extract rfl rfl rfl ?_)
 (refine Jx.extract rfl rfl rfl ?_)
 (refine Jx.assign rfl rfl (Jx.assign rfl rfl (Jx.assign rfl rfl (J.nil (N.seq (W.seq (W.region (Jx.move rfl rfl (Jx.not rfl rfl (J.nil (N.seq (W.cT rfl ?_))))))))))))
 (refine W.seq (W.region (Jx.assign rfl rfl (J.nil (N.seq (W.ret (N.noGotoRet ?_)))))))
 (refine id ?_; rotate_left))
  exact N.retD (rs := [.tmp 6]) (L1 := []) rfl (.tmp rfl .nil) (List.nil_sublist _) ⟨rfl, rfl⟩
set_option maxHeartbeats 16000000 in
theorem jsafe_ok (l : List Bt) (f0 f1 k0 k1 : Int) (hw : wrB l = true) : FnC Tryd.prog 5 [btL l, .agg [int f0, int f1], .agg [int k0, int k1]] [] (fun r L => r = bool true ∧ L = []) := by
  obtain ⟨w1, w2⟩ := wrB_spec hw
  have hok : ∀ b ∈ l, okB b = true := fun b hb => (few_rec (w2 b hb)).1
  have hbl : ∀ b ∈ l, b.length ≤ 1048576 := fun b hb => by have := ((okB_iff b).1 (hok b hb)).1; omega
  have c2 := written_yes l hw
  have c3 := Dsk.new_ok 1048576 (by decide)
  obtain ⟨e1, e2, e3⟩ := fresh_open
  have c4 := fun b => Open_good b (Dsk.Dk.fresh 1048576) (Dsk.Dk.fresh_ok (by decide)) e1
  have e4 := e3 l
  generalize (openP (Dsk.Dk.fresh 1048576)).2 = d1 at *
  have c5 := below_ok f0 25 (by decide) (by decide)
  have c6 := below_ok f1 4 (by decide) (by decide)
  rw [show ((25 : Nat) : Int) = 25 from rfl] at c5
  rw [show ((4 : Nat) : Int) = 4 from rfl] at c6
  obtain ⟨b0, b1⟩ := below_le f0 25 (by decide)
  obtain ⟨b2, b3⟩ := below_le f1 4 (by decide)
  generalize below f0 25 = p0 at *
  generalize below f1 4 = p1 at *
  have c7 := fun b => Dsk.fuse_ok b d1 p0
  have e5 : Whole l 0 (d1.fused p0) := ⟨e4.ok.fused (by omega), e4.rm, e4.up, e4.by_, e4.sf⟩
  have c7' := fun b => (c7 b).mono (R' := fun s L => L = [Dsk.dk b (d1.fused p0)]) (fun s L h => h)
  clear c7
  generalize d1.fused p0 = d2 at *
  have hd2 : d2.ok := e5.ok
  refine FnC.intro Tryd.func5 rfl Tryd.ntmps5 rfl fun Z w0 hG => ?_
  focus (
 (refine W.seq (W.region ?_))
 (refine J.boxAg rfl rfl ?_; intro b')
 (refine J.boxAg rfl rfl ?_; intro b')
 (refine Jx.assign rfl rfl (J.nil (N.seq (W.seq (W.seq (W.region ?_))))))
 (refine J.call (works_ok) rfl (evs_args rfl) rfl ?_; rintro _ _ ⟨rfl, rfl⟩; simp only [la1, la2, la3])
 (refine Jx.not rfl rfl (J.nil (N.seq (W.cF rfl ?_))))
 (refine W.skip (N.seq (W.seq (W.seq (W.region (Jx.move rfl rfl ?_))))))
 (refine J.call (c2) rfl (evs_args rfl) rfl ?_; rintro _ _ ⟨rfl, rfl⟩; simp only [la1, la2, la3])
 (refine Jx.move rfl rfl (Jx.extract rfl rfl rfl ?_))
 (refine Jx.extract rfl rfl rfl ?_)
 (refine Jx.extract rfl rfl rfl ?_)
 (refine Jx.assign rfl rfl (Jx.assign rfl rfl (Jx.assign rfl rfl (J.nil (N.seq (W.seq (W.region (Jx.move rfl rfl (Jx.not rfl rfl (J.nil (N.seq (W.cF rfl ?_))))))))))))
 (refine W.skip (N.seq (W.seq (W.region ?_))))
 (refine J.call (c3) rfl (evs_args rfl) rfl ?_; rintro _ _ ⟨b, rfl, rfl⟩; simp only [la1, la2, la3])
 (refine Jx.move rfl rfl (Jx.extract rfl rfl rfl ?_))
 (refine Jx.extract rfl rfl rfl ?_)
 (refine Jx.assign rfl rfl (Jx.assign rfl rfl (J.nil (N.seq (W.seq (W.region (Jx.move rfl rfl ?_)))))))
 (refine J.call ((c4 _)) rfl (evs_args rfl) rfl ?_; rintro _ _ ⟨jb, rfl, rfl⟩; simp only [la1, la2, la3])
 (refine Jx.move rfl rfl (Jx.extract rfl rfl rfl ?_))
 (refine Jx.extract rfl rfl rfl ?_)
 (refine Jx.extract rfl rfl rfl ?_)
 (refine Jx.assign rfl rfl (Jx.assign rfl rfl (Jx.assign rfl rfl (J.nil (N.seq (W.seq (W.seq (W.region (Jx.move rfl rfl (Jx.neqI rfl rfl rfl (J.nil (N.seq (W.cF rfl ?_)))))))))))))
 (refine W.skip (N.seq (W.seq (W.region (Jx.move rfl rfl (Jx.indexArr rfl rfl (by decide) (by decide) rfl ?_))))))
 (refine Jx.load rfl 3 rfl rfl rfl ?_)
 (refine J.call (c5) rfl (evs_args rfl) rfl ?_; rintro _ _ ⟨rfl, rfl⟩; simp only [la1, la2, la3])
 (refine J.call1 1 (c7' _) rfl (evs_args rfl) rfl (by rintro _ _ rfl; exact ⟨_, rfl⟩) ?_; rintro _ _ ⟨⟩; simp only [la4, la5])
 (refine J.nil (N.seq (W.seq (W.region (Jx.assign rfl rfl (J.nil (N.seq (W.seq (W.seq (W.region (Jx.move rfl rfl (Jx.lenSl rfl rfl ?_))))))))))))
 (refine Jx.move rfl rfl (J.nil (N.seq (W.block ?_))))
 (refine id ?_; rotate_left))
  rename_i p4 sv
  refine W.joinX (α := Nat × Dsk.Dk × Bool) 0 (fun y => [(15, int (y.1 : Int)), (10, ptr b), (5, ptr b'), (4, ptr p4), (0, btL l)]) (fun y => [jn jb b y.2.2, Dsk.dk b y.2.1, .obj b' 34 [int k0, int k1], .obj p4 34 [int f0, int f1]]) (fun y => y.1 ≤ l.length ∧ Torn l y.1 y.2.1) ?_ ?_
  · refine W.loop (α := Nat × Dsk.Dk) (fun x => [(51, int (x.1 : Int)), (50, int (l.length : Int)), (49, btL l), (15, int (x.1 : Int)), (12, ptr jb), (10, ptr b), (5, ptr b'), (4, ptr p4), (0, btL l)]) (fun x => [jn jb b false, Dsk.dk b x.2, .obj b' 34 [int k0, int k1], .obj p4 34 [int f0, int f1]]) (fun x => x.1 ≤ l.length ∧ Whole l x.1 x.2) (fun x => l.length - x.1) (0, d2) ⟨by simp, e5⟩ rfl ⟨ref0 rfl, ref0 rfl, ref0 rfl, ref0 rfl, ref0 rfl, ref0 rfl, ref0 rfl, ref0 rfl, ref0 rfl, trivial⟩ ?_
    rintro ⟨i, d⟩ ⟨hi, hW⟩
    simp only at hi hW ⊢
    by_cases h1 : i < l.length
    · have cw := Write_ok jb b false d hW.ok (l.getD i [])
      obtain ⟨s1, s2⟩ := write_step hw h1 hW
      have e6 : (i : Int) + 1 = ((i + 1 : Nat) : Int) := by omega
      by_cases h2 : (writeP d false (l.getD i [])).1 = 0
      · obtain ⟨g1, g2⟩ := s1 h2
        rw [h2, g2] at cw
        focus (
 (refine W.seq (W.region (Jx.lssI rfl rfl rfl (J.nil (N.seq (W.seq (W.cT rfl ?_)))))))
 (refine W.skip (N.seq (W.seq (W.block (W.seq (W.region (Jx.indexEl rfl rfl (by assumption) rfl rfl ?_)))))))
 (refine Jx.loadPP rfl rfl ?_)
 (refine Jx.assign rfl rfl (J.nil (N.seq (W.seq (W.seq (W.region (Jx.move rfl rfl (Jx.move rfl rfl ?_))))))))
 (refine J.call (cw) rfl (evs_args rfl) rfl ?_; rintro _ _ ⟨rfl, rfl⟩; simp only [la1, la2, la3])
 (refine Jx.neqI rfl rfl rfl (J.nil (N.seq (W.cF rfl ?_))))
 (refine W.skip (N.seq (W.region (Jx.move rfl rfl ?_))))
 (refine Jx.add64 rfl rfl (by omega) rfl ?_; rw [e6])
 (refine Jx.assign rfl rfl (J.nil (N.seq (W.region ?_))))
 (refine Jx.add64 rfl rfl (by omega) rfl ?_; rw [e6])
 (refine Jx.move rfl rfl (J.nil ?_))
 (refine id ?_; rotate_left))
        exact N.round (i + 1, (writeP d false (l.getD i [])).2.1) ⟨by simp only; omega, g1⟩ (by simp only; omega) rfl ⟨ref0 rfl, ref0 rfl, ref0 rfl, ref0 rfl, ref0 rfl, ref0 rfl, ref0 rfl, ref0 rfl, ref0 rfl, trivial⟩
      · have g1 := s2 h2
        focus (
 (refine W.seq (W.region (Jx.lssI rfl rfl rfl (J.nil (N.seq (W.seq (W.cT rfl ?_)))))))
 (refine W.skip (N.seq (W.seq (W.block (W.seq (W.region (Jx.indexEl rfl rfl (by assumption) rfl rfl ?_)))))))
 (refine Jx.loadPP rfl rfl ?_)
 (refine Jx.assign rfl rfl (J.nil (N.seq (W.seq (W.seq (W.region (Jx.move rfl rfl (Jx.move rfl rfl ?_))))))))
 (refine J.call (cw) rfl (evs_args rfl) rfl ?_; rintro _ _ ⟨rfl, rfl⟩; simp only [la1, la2, la3])
 (refine Jx.neqI rfl rfl rfl (J.nil (N.seq (W.cT rfl ?_))))
 (refine W.exit (N.seqExit (N.blockOther rfl ?_)))
 (refine N.seqExit (N.seqExit ?_))
 (refine id ?_; rotate_left))
        refine N.joinX (i, (writeP d false (l.getD i [])).2.1, (writeP d false (l.getD i [])).2.2) ?_ ?_ ?_
        · exact ⟨by simp only; omega, g1⟩
        · rfl
        · exact ⟨ref0 rfl, ref0 rfl, ref0 rfl, ref0 rfl, ref0 rfl, trivial⟩
    · have hil : i = l.length := by omega
      subst hil
      focus (
 (refine W.seq (W.region (Jx.lssI rfl rfl rfl (J.nil (N.seq (W.seq (W.cF rfl ?_)))))))
 (refine W.exit (N.seqExit (N.seqExit ?_)))
 (refine id ?_; rotate_left))
      refine N.joinX (l.length, d, false) ?_ ?_ ?_
      · exact ⟨Nat.le_refl _, hW.torn (Nat.le_refl _)⟩
      · rfl
      · exact ⟨ref0 rfl, ref0 rfl, ref0 rfl, ref0 rfl, ref0 rfl, trivial⟩
  · rintro ⟨n, d, br⟩ ⟨hn, hT⟩
    simp only at hn hT ⊢
    refine N.drop (List.sublist_cons_self _ _) ?_
    obtain ⟨m, m1, m2, m3, hT3, hd3⟩ := crash_tells hw hT k0
    have c8 := Dsk.crash_ok b d hT.ok k0
    generalize d.crash k0 = d3 at *
    have c9 := Dsk.fuse_ok b d3 p1
    obtain ⟨hT4, hd4⟩ := tells_fused hT3 (n := p1) (by omega)
    have c9' := c9.mono (R' := fun s L => L = [Dsk.dk b (d3.fused p1)]) (fun s L h => h)
    clear c9
    rw [hd3] at hd4
    generalize d3.fused p1 = d4 at *
    focus (
 (refine N.seq (W.seq (W.region (Jx.move rfl rfl (Jx.indexArr rfl rfl (by decide) (by decide) rfl ?_)))))
 (refine Jx.load rfl 1 rfl rfl rfl ?_)
 (refine J.call c8 rfl (evs_args rfl) rfl ?_; rintro _ _ rfl; simp only [la1, la2, la3])
 (refine J.nil (N.seq (W.seq (W.region (Jx.move rfl rfl (Jx.indexArr rfl rfl (by decide) (by decide) rfl ?_))))))
 (refine Jx.load rfl 2 rfl rfl rfl ?_)
 (refine J.call (c6) rfl (evs_args rfl) rfl ?_; rintro _ _ ⟨rfl, rfl⟩; simp only [la1, la2, la3])
 (refine id ?_; rotate_left))
    refine J.call c9' rfl (evs_args rfl) rfl ?_
    rintro _ _ rfl
    simp only [la1, la2, la3]
    refine J.nil ?_
    refine N.seq ?_
    refine W.seq ?_
    refine W.joinE (α := Dsk.Dk) (fun d => [(15, int (n : Int)), (10, ptr b), (5, ptr b'), (4, ptr p4), (0, btL l)]) (fun d => [Dsk.dk b d, .obj b' 34 [int k0, int k1], .obj p4 34 [int f0, int f1]]) (fun d => Tells l m d ∧ d.down = false) ?_ ?_
    · obtain ⟨hT5, hd5⟩ := tells_open hok hT4 hd4
      by_cases h0 : (openP d4).1 = 0
      · have co := Open_good b d4 hT4.ok h0
        focus (
 (refine W.seq (W.region (Jx.move rfl rfl ?_)))
 (refine J.call (co) rfl (evs_args rfl) rfl ?_; rintro _ _ ⟨j2, rfl, rfl⟩; simp only [la1, la2, la3])
 (refine Jx.move rfl rfl (Jx.extract rfl rfl rfl ?_))
 (refine Jx.extract rfl rfl rfl ?_)
 (refine Jx.extract rfl rfl rfl ?_)
 (refine Jx.assign rfl rfl (J.nil (N.seq (W.seq (W.region (Jx.move rfl rfl (Jx.neqI rfl rfl rfl (J.nil (N.seq (W.cF rfl ?_))))))))))
 (refine W.skip ?_)
 (refine id ?_; rotate_left))
        refine N.drop (List.sublist_cons_self _ _) ?_
        exact N.joinE (openP d4).2 ⟨hT5, hd5 h0⟩ rfl ⟨ref0 rfl, ref0 rfl, ref0 rfl, ref0 rfl, ref0 rfl, trivial⟩
      · have co := Open_bad b d4 hT4.ok h0
        obtain ⟨hT6, hd6⟩ := tells_crash hT5 k1
        have cc := Dsk.crash_ok b (openP d4).2 hT5.ok k1
        focus (
 (refine W.seq (W.region (Jx.move rfl rfl ?_)))
 (refine J.call (co) rfl (evs_args rfl) rfl ?_; rintro _ _ ⟨rfl, rfl⟩; simp only [la1, la2, la3])
 (refine Jx.move rfl rfl (Jx.extract rfl rfl rfl ?_))
 (refine Jx.extract rfl rfl rfl ?_)
 (refine Jx.extract rfl rfl rfl ?_)
 (refine Jx.assign rfl rfl (J.nil (N.seq (W.seq (W.region (Jx.move rfl rfl (Jx.neqI rfl rfl rfl (J.nil (N.seq (W.cT rfl ?_))))))))))
 (refine W.region (Jx.move rfl rfl (Jx.indexArr rfl rfl (by decide) (by decide) rfl ?_)))
 (refine Jx.load rfl 1 rfl rfl rfl ?_)
 (refine J.call cc rfl (evs_args rfl) rfl ?_; rintro _ _ rfl; simp only [la1, la2, la3])
 (refine J.nil ?_)
 (refine id ?_; rotate_left))
        exact N.joinE ((openP d4).2.crash k1) ⟨hT6, hd6⟩ rfl ⟨ref0 rfl, ref0 rfl, ref0 rfl, ref0 rfl, ref0 rfl, trivial⟩
    · rintro d ⟨hT5, hd5⟩
      obtain ⟨hT6, hd6⟩ := tells_fused hT5 (n := -1) (by omega)
      have c9 := Dsk.fuse_ok b d (-1)
      have c9'' := c9.mono (R' := fun s L => L = [Dsk.dk b (d.fused (-1))]) (fun s L h => h)
      clear c9
      rw [hd5] at hd6
      have hf6 : (d.fused (-1)).fuse = -1 := by simp [Dsk.Dk.fused]
      generalize d.fused (-1) = d6 at *
      obtain ⟨o1, o2, o3⟩ := open_free hok m3 hT6 hd6 hf6
      have co := Open_good b d6 hT6.ok o1
      rw [hT6.sc] at co
      simp only at co
      generalize (openP d6).2 = d7 at *
      obtain ⟨q1, q2, q3⟩ := more_open hw o2 o3
      have cw := fun j => Write_ok j b false d7 o2.ok mo
      rw [q1] at cw
      have hok8 := o2.ok.written false mo
      have co2 := Open_good b (writeP d7 false mo).2.1 hok8 q2
      rw [q3] at co2
      generalize (writeP d7 false mo).2.2 = br8 at *
      generalize (writeP d7 false mo).2.1 = d8 at *
      have hlm : (l.take m).length = m := by rw [List.length_take]; omega
      have hlm2 : (l.take m ++ [mo]).length = m + 1 := by rw [List.length_append, hlm]; rfl
      have htk : (l.take m ++ [mo]).take m = l.take m := by rw [List.take_append_of_le_length (by omega), List.take_of_length_le (by omega)]
      have cs := same2_ok (l.take m) (l.take m) (fun b hb => hbl b (List.mem_of_mem_take hb)) (by omega)
      rw [decide_eq_true (rfl : l.take m = l.take m)] at cs
      focus (
 (refine N.seq (W.seq (W.region (Jx.move rfl rfl ?_))))
 (refine J.call c9'' rfl (evs_args rfl) rfl ?_; rintro _ _ rfl; simp only [la1, la2, la3])
 (refine J.nil (N.seq (W.seq (W.region (Jx.move rfl rfl ?_)))))
 (refine J.call (co) rfl (evs_args rfl) rfl ?_; rintro _ _ ⟨j3, rfl, rfl⟩; simp only [la1, la2, la3])
 (refine Jx.move rfl rfl (Jx.extract rfl rfl rfl ?_))
 (refine Jx.extract rfl rfl rfl ?_)
 (refine Jx.extract rfl rfl rfl ?_)
 (refine Jx.assign rfl rfl (Jx.assign rfl rfl (Jx.assign rfl rfl (J.nil (N.seq (W.seq (W.seq (W.region (Jx.move rfl rfl (Jx.neqI rfl rfl rfl (Jx.move rfl rfl (J.gY rfl rfl rfl ?_))))))))))))
 (refine Jx.move rfl rfl (J.gY rfl rfl rfl ?_))
 (refine Jx.lenSl rfl rfl ?_)
 (refine J.gY rfl rfl rfl ?_)
 (refine Jx.move rfl rfl (J.gY rfl rfl rfl ?_))
 (refine Jx.lssI rfl rfl rfl (Jx.pF rfl rfl rfl ?_))
 (refine Jx.move rfl rfl (J.gY rfl rfl rfl ?_))
 (refine Jx.move rfl rfl (J.gY rfl rfl rfl ?_))
 (refine Jx.lenSl rfl rfl ?_)
 (refine J.gY rfl rfl rfl ?_)
 (refine Jx.move rfl rfl (J.gY rfl rfl rfl ?_))
 (refine Jx.add64 rfl rfl (by omega) rfl ?_)
 (refine J.gY rfl rfl rfl ?_)
 (refine Jx.move rfl rfl (J.gY rfl rfl rfl ?_))
 (refine Jx.lenSl rfl rfl ?_)
 (refine J.gY rfl rfl rfl ?_)
 (refine Jx.min rfl rfl rfl ?_)
 (refine J.gY rfl rfl rfl ?_)
 (refine Jx.gtrI rfl rfl rfl (Jx.pF rfl rfl rfl ?_))
 (refine Jx.move rfl rfl (J.gY rfl rfl rfl ?_))
 (refine Jx.move rfl rfl (J.gY rfl rfl rfl ?_))
 (refine Jx.move rfl rfl (J.gY rfl rfl rfl ?_))
 (refine Jx.move rfl rfl (J.gY rfl rfl rfl ?_))
 (refine Jx.lenSl rfl rfl ?_)
 (refine J.gY rfl rfl rfl ?_)
 (refine Jx.takeL m rfl rfl (by rw [hlm]) (by omega) rfl ?_)
 (refine J.gY rfl rfl rfl ?_)
 (refine J.call (cs) rfl (evs_args rfl) rfl ?_; rintro _ _ ⟨rfl, rfl⟩; simp only [la1, la2, la3])
 (refine J.gY rfl rfl rfl ?_)
 (refine Jx.not rfl rfl (Jx.pF rfl rfl rfl ?_))
 (refine J.nil (N.seq (W.cF rfl ?_)))
 (refine W.skip (N.seq (W.seq (W.seq (W.region (Jx.move rfl rfl ?_))))))
 (refine J.qs (Qs.buildTexts [[109, 111, 114, 101]] rfl rfl rfl (by decide) (by decide)) rfl ?_)
 (refine J.call ((cw _)) rfl (evs_args rfl) rfl ?_; rintro _ _ ⟨rfl, rfl⟩; simp only [la1, la2, la3])
 (refine Jx.neqI rfl rfl rfl (J.nil (N.seq (W.cF rfl ?_))))
 (refine W.skip (N.seq (W.seq (W.region (Jx.move rfl rfl ?_)))))
 (refine J.drop (List.sublist_cons_self _ _) ?_; refine J.call co2 rfl (evs_args rfl) rfl ?_; rintro _ _ ⟨j4, rfl, rfl⟩; simp only [la1, la2, la3])
 (refine Jx.move rfl rfl (Jx.extract rfl rfl rfl ?_))
 (refine Jx.extract rfl rfl rfl ?_)
 (refine Jx.extract rfl rfl rfl ?_)
 (refine Jx.assign rfl rfl (Jx.assign rfl rfl (Jx.assign rfl rfl (J.nil (N.seq (W.seq (W.region (Jx.move rfl rfl (Jx.eqlI rfl rfl rfl (Jx.move rfl rfl (J.gY rfl rfl rfl ?_)))))))))))
 (refine Jx.move rfl rfl (J.gY rfl rfl rfl ?_))
 (refine Jx.lenSl rfl rfl ?_)
 (refine J.gY rfl rfl rfl ?_)
 (refine Jx.move rfl rfl (J.gY rfl rfl rfl ?_))
 (refine Jx.lenSl rfl rfl ?_)
 (refine J.gY rfl rfl rfl ?_)
 (refine Jx.add64 rfl rfl (by omega) rfl ?_)
 (refine J.gY rfl rfl rfl ?_)
 (refine Jx.eqlI rfl rfl rfl (Jx.pT rfl rfl rfl ?_))
 (refine Jx.move rfl rfl (J.gY rfl rfl rfl ?_))
 (refine Jx.move rfl rfl (J.gY rfl rfl rfl ?_))
 (refine Jx.move rfl rfl (J.gY rfl rfl rfl ?_))
 (refine Jx.lenSl rfl rfl ?_)
 (refine J.gY rfl rfl rfl ?_)
 (refine Jx.takeL m rfl rfl (by rw [hlm]) (by omega) rfl ?_; rw [htk])
 (refine J.gY rfl rfl rfl ?_)
 (refine Jx.move rfl rfl (J.gY rfl rfl rfl ?_))
 (refine J.call (cs) rfl (evs_args rfl) rfl ?_; rintro _ _ ⟨rfl, rfl⟩; simp only [la1, la2, la3])
 (refine Jx.pT rfl rfl rfl ?_)
 (refine Jx.assign rfl rfl (J.nil (N.seq (W.ret ?_))))
 (refine id ?_; rotate_left))
      exact N.retD (rs := [.tmp 6]) (L1 := []) rfl (.tmp rfl .nil) (List.nil_sublist _) ⟨rfl, rfl⟩
end Go.Proofs.YtbdkenlkimiddaaDoor
