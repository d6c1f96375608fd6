/-
  Lemmas for the claim, part 3.
-/
import Derived.Test.YtlfdhkahiaammaaGreatDoorBlockCodesPb
namespace Go.Proofs.YtlfdhkahiaammaaGreatDoor
open Go Go.Sse
set_option linter.unusedVariables false
set_option linter.unusedSimpArgs false
set_option maxRecDepth 10000
def numOut (r : Rdr) (s : SV) (r' : Rdr) : Prop :=
  s = .tup [int ((readN (r.s.drop r.at_)).1 : Int), int (readN (r.s.drop r.at_)).2.2] ∧ r'.s = r.s ∧ r'.code = r.code ∧ ((readN (r.s.drop r.at_)).2.2 = 0 → r'.at_ = r.at_ + (readN (r.s.drop r.at_)).2.1)
set_option maxHeartbeats 2000000 in
theorem number_bad (b : Nat) (r : Rdr) (h : r.ok) (hc : r.code = 0) (hb : (readN (r.s.drop r.at_)).2.2 ≠ 0) : FnC Tryz.prog 103 [ptr b] [rdO b r] (fun s L => ∃ r', numOut r s r' ∧ L = [rdO b r']) := by
  have h1 := h.le; have h2 := h.mx
  obtain ⟨s, a, c⟩ := r
  simp only at h1 h2 hc hb
  subst hc
  unfold numOut
  simp only
  cases hd : s.drop a with
  | nil =>
    have hlen : s.length ≤ a := by
      have := congrArg List.length hd
      rw [List.length_drop] at this; simp at this; omega
    have c0 := take_no b ⟨s, a, 0⟩ 1 h (by simp only; omega)
    refine FnC.intro Tryz.func103 rfl Tryz.ntmps103 rfl fun Z w0 hG => ?_
    focus (
 (refine W.seq (W.region (Jx.assign rfl rfl (Jx.assign rfl rfl (J.nil (N.seq (W.seq (W.seq (W.region (Jx.move rfl rfl (Jx.nilCheck rfl rfl ?_)))))))))))
 (refine Jx.fieldAddr rfl rfl ?_)
 (refine Jx.load rfl 0 rfl rfl rfl ?_)
 (refine Jx.neqI rfl rfl rfl (J.nil (N.seq (W.cF rfl ?_))))
 (refine W.skip (N.seq (W.seq (W.region (Jx.move rfl rfl ?_)))))
 (refine J.call (c0) rfl (evs_args rfl) rfl ?_; rintro _ _ ⟨rfl, rfl⟩; simp only [la1, la2, la3])
 (refine Jx.move rfl rfl (Jx.extract rfl rfl rfl ?_))
 (refine Jx.extract rfl rfl rfl ?_)
 (refine Jx.assign rfl rfl (Jx.assign rfl rfl (J.nil (N.seq (W.seq (W.seq (W.region (Jx.move rfl rfl (Jx.not rfl rfl (J.nil (N.seq (W.cT rfl ?_))))))))))))
 (refine W.seq (W.region (Jx.assign rfl rfl (Jx.assign rfl rfl (J.nil (N.seq (W.ret (N.seqRet ?_))))))))
 (refine id ?_; rotate_left))
    exact N.ret (rs := [.tmp 2, .tmp 3]) rfl (.tmp rfl (.tmp rfl .nil)) ⟨⟨s, a, 0⟩, ⟨rfl, rfl, rfl, by simp [readN]⟩, rfl⟩
  | cons x t =>
    have hlen : s.length = a + 1 + t.length := by
      have := congrArg List.length hd
      rw [List.length_drop] at this; simp at this; omega
    have c0 := take_yes b ⟨s, a, 0⟩ 1 h (by simp only; omega)
    simp only [hd, List.take_succ_cons, List.take_zero] at c0
    rw [hd] at hb
    have hx := x.toNat_lt
    by_cases h8 : 8 < x.toNat
    · refine FnC.intro Tryz.func103 rfl Tryz.ntmps103 rfl fun Z w0 hG => ?_
      focus (
 (refine W.seq (W.region (Jx.assign rfl rfl (Jx.assign rfl rfl (J.nil (N.seq (W.seq (W.seq (W.region (Jx.move rfl rfl (Jx.nilCheck rfl rfl ?_)))))))))))
 (refine Jx.fieldAddr rfl rfl ?_)
 (refine Jx.load rfl 0 rfl rfl rfl ?_)
 (refine Jx.neqI rfl rfl rfl (J.nil (N.seq (W.cF rfl ?_))))
 (refine W.skip (N.seq (W.seq (W.region (Jx.move rfl rfl ?_)))))
 (refine J.call (c0) rfl (evs_args rfl) rfl ?_; rintro _ _ ⟨rfl, rfl⟩; simp only [la1, la2, la3])
 (refine Jx.move rfl rfl (Jx.extract rfl rfl rfl ?_))
 (refine Jx.extract rfl rfl rfl ?_)
 (refine Jx.assign rfl rfl (Jx.assign rfl rfl (J.nil (N.seq (W.seq (W.seq (W.region (Jx.move rfl rfl (Jx.not rfl rfl (J.nil (N.seq (W.cF rfl ?_))))))))))))
 (refine W.skip (N.seq (W.seq (W.seq (W.region (Jx.move rfl rfl (Jx.indexS rfl rfl (by decide) (by first | (simp; done) | omega) rfl ?_)))))))
 (refine Jx.gtrI rfl rfl rfl (J.nil (N.seq (W.cT rfl ?_))))
 (refine W.seq (W.region (Jx.assign rfl rfl (Jx.assign rfl rfl (J.nil (N.seq (W.ret (N.seqRet ?_))))))))
 (refine id ?_; rotate_left))
      exact N.ret (rs := [.tmp 2, .tmp 3]) rfl (.tmp rfl (.tmp rfl .nil)) ⟨⟨s, a + 1, 0⟩, ⟨by simp [readN, h8, oneOr], rfl, rfl, by simp [readN, h8]⟩, rfl⟩
    · have hok2 : Rdr.ok ⟨s, a + 1, 0⟩ := ⟨by simp only; omega, h2⟩
      have hdt : s.drop (a + 1) = t := by rw [← List.drop_drop, hd]; rfl
      by_cases hs : t.length < x.toNat
      · have c1 := take_no b ⟨s, a + 1, 0⟩ x.toNat hok2 (by simp only; omega)
        refine FnC.intro Tryz.func103 rfl Tryz.ntmps103 rfl fun Z w0 hG => ?_
        focus (
 (refine W.seq (W.region (Jx.assign rfl rfl (Jx.assign rfl rfl (J.nil (N.seq (W.seq (W.seq (W.region (Jx.move rfl rfl (Jx.nilCheck rfl rfl ?_)))))))))))
 (refine Jx.fieldAddr rfl rfl ?_)
 (refine Jx.load rfl 0 rfl rfl rfl ?_)
 (refine Jx.neqI rfl rfl rfl (J.nil (N.seq (W.cF rfl ?_))))
 (refine W.skip (N.seq (W.seq (W.region (Jx.move rfl rfl ?_)))))
 (refine J.call (c0) rfl (evs_args rfl) rfl ?_; rintro _ _ ⟨rfl, rfl⟩; simp only [la1, la2, la3])
 (refine Jx.move rfl rfl (Jx.extract rfl rfl rfl ?_))
 (refine Jx.extract rfl rfl rfl ?_)
 (refine Jx.assign rfl rfl (Jx.assign rfl rfl (J.nil (N.seq (W.seq (W.seq (W.region (Jx.move rfl rfl (Jx.not rfl rfl (J.nil (N.seq (W.cF rfl ?_))))))))))))
 (refine W.skip (N.seq (W.seq (W.seq (W.region (Jx.move rfl rfl (Jx.indexS rfl rfl (by decide) (by first | (simp; done) | omega) rfl ?_)))))))
 (refine Jx.gtrI rfl rfl rfl (J.nil (N.seq (W.cF rfl ?_))))
 (refine W.skip (N.seq (W.seq (W.region (Jx.move rfl rfl (Jx.move rfl rfl (Jx.indexS rfl rfl (by decide) (by first | (simp; done) | omega) rfl ?_)))))))
 (refine Jx.byteNum rfl rfl rfl ?_)
 (refine J.call (c1) rfl (evs_args rfl) rfl ?_; rintro _ _ ⟨rfl, rfl⟩; simp only [la1, la2, la3])
 (refine Jx.move rfl rfl (Jx.extract rfl rfl rfl ?_))
 (refine Jx.extract rfl rfl rfl ?_)
 (refine Jx.assign rfl rfl (Jx.assign rfl rfl (J.nil (N.seq (W.seq (W.seq (W.region (Jx.move rfl rfl (Jx.not rfl rfl (J.nil (N.seq (W.cT rfl ?_))))))))))))
 (refine W.seq (W.region (Jx.assign rfl rfl (Jx.assign rfl rfl (J.nil (N.seq (W.ret (N.seqRet ?_))))))))
 (refine id ?_; rotate_left))
        exact N.ret (rs := [.tmp 2, .tmp 3]) rfl (.tmp rfl (.tmp rfl .nil)) ⟨⟨s, a + 1, 0⟩, ⟨by simp [readN, h8, hs, oneOr], rfl, rfl, by simp [readN, h8, hs]⟩, rfl⟩
      · have c1 := take_yes b ⟨s, a + 1, 0⟩ x.toNat hok2 (by simp only; omega)
        simp only [hdt] at c1
        have hl : (t.take x.toNat).length = x.toNat := by rw [List.length_take]; omega
        have hbad : (0 < x.toNat ∧ (t.getD 0 0).toNat = 0) ∨ (x.toNat = 8 ∧ 128 ≤ (t.getD 0 0).toNat) := Classical.byContradiction fun hn => hb (by simp only [readN, if_neg h8, if_neg hs, if_neg hn])
        have hr : readN (x :: t) = (0, 0, 3) := by simp only [readN, if_neg h8, if_neg hs, if_pos hbad]
        rw [hr]
        have h0 : 0 < x.toNat := by omega
        have hg : ((t.take x.toNat).getD (Int.toNat 0) 0).toNat = (t.getD 0 0).toNat := by rw [show Int.toNat 0 = 0 from rfl, getD_take0 t _ h0]
        generalize t.take x.toNat = bs at *
        generalize (t.getD 0 0).toNat = y at *
        by_cases hy : y = 0
        · refine FnC.intro Tryz.func103 rfl Tryz.ntmps103 rfl fun Z w0 hG => ?_
          focus (
 (refine W.seq (W.region (Jx.assign rfl rfl (Jx.assign rfl rfl (J.nil (N.seq (W.seq (W.seq (W.region (Jx.move rfl rfl (Jx.nilCheck rfl rfl ?_)))))))))))
 (refine Jx.fieldAddr rfl rfl ?_)
 (refine Jx.load rfl 0 rfl rfl rfl ?_)
 (refine Jx.neqI rfl rfl rfl (J.nil (N.seq (W.cF rfl ?_))))
 (refine W.skip (N.seq (W.seq (W.region (Jx.move rfl rfl ?_)))))
 (refine J.call (c0) rfl (evs_args rfl) rfl ?_; rintro _ _ ⟨rfl, rfl⟩; simp only [la1, la2, la3])
 (refine Jx.move rfl rfl (Jx.extract rfl rfl rfl ?_))
 (refine Jx.extract rfl rfl rfl ?_)
 (refine Jx.assign rfl rfl (Jx.assign rfl rfl (J.nil (N.seq (W.seq (W.seq (W.region (Jx.move rfl rfl (Jx.not rfl rfl (J.nil (N.seq (W.cF rfl ?_))))))))))))
 (refine W.skip (N.seq (W.seq (W.seq (W.region (Jx.move rfl rfl (Jx.indexS rfl rfl (by decide) (by first | omega | (simp; done)) rfl ?_)))))))
 (refine Jx.gtrI rfl rfl rfl (J.nil (N.seq (W.cF rfl ?_))))
 (refine W.skip (N.seq (W.seq (W.region (Jx.move rfl rfl (Jx.move rfl rfl (Jx.indexS rfl rfl (by decide) (by first | omega | (simp; done)) rfl ?_)))))))
 (refine Jx.byteNum rfl rfl rfl ?_)
 (refine J.call (c1) rfl (evs_args rfl) rfl ?_; rintro _ _ ⟨rfl, rfl⟩; simp only [la1, la2, la3])
 (refine Jx.move rfl rfl (Jx.extract rfl rfl rfl ?_))
 (refine Jx.extract rfl rfl rfl ?_)
 (refine Jx.assign rfl rfl (Jx.assign rfl rfl (J.nil (N.seq (W.seq (W.seq (W.region (Jx.move rfl rfl (Jx.not rfl rfl (J.nil (N.seq (W.cF rfl ?_))))))))))))
 (refine W.skip (N.seq (W.seq (W.seq (W.region (Jx.move rfl rfl (Jx.lenS rfl rfl ?_)))))))
 (refine Jx.gtrI rfl rfl rfl (Jx.move rfl rfl (J.gY rfl rfl rfl ?_)))
 (refine Jx.move rfl rfl (J.gY rfl rfl rfl ?_))
 (refine Jx.indexS rfl rfl (by decide) (by first | omega | (simp; done)) rfl ?_)
 (refine J.gY rfl rfl rfl ?_)
 (refine Jx.eqlI rfl rfl rfl (Jx.pT rfl rfl rfl ?_))
 (refine Jx.move rfl rfl (J.gN rfl rfl rfl rfl ?_))
 (refine J.gN rfl rfl rfl rfl ?_)
 (refine J.gN rfl rfl rfl rfl ?_)
 (refine J.gN rfl rfl rfl rfl ?_)
 (refine J.guardSkip rfl rfl rfl rfl ?_)
 (refine J.guardSkip rfl rfl rfl rfl ?_)
 (refine J.guardSkip rfl rfl rfl rfl ?_)
 (refine J.gN rfl rfl rfl rfl ?_)
 (refine Jx.pT rfl rfl rfl ?_)
 (refine J.nil (N.seq (W.cT rfl ?_)))
 (refine W.seq (W.region (Jx.assign rfl rfl (Jx.assign rfl rfl (J.nil (N.seq (W.ret (N.seqRet ?_))))))))
 (refine id ?_; rotate_left))
          exact N.ret (rs := [.tmp 2, .tmp 3]) rfl (.tmp rfl (.tmp rfl .nil)) ⟨⟨s, a + 1 + x.toNat, 0⟩, ⟨rfl, rfl, rfl, by simp⟩, rfl⟩
        · have hx8 : x.toNat = 8 := by omega
          refine FnC.intro Tryz.func103 rfl Tryz.ntmps103 rfl fun Z w0 hG => ?_
          focus (
 (refine W.seq (W.region (Jx.assign rfl rfl (Jx.assign rfl rfl (J.nil (N.seq (W.seq (W.seq (W.region (Jx.move rfl rfl (Jx.nilCheck rfl rfl ?_)))))))))))
 (refine Jx.fieldAddr rfl rfl ?_)
 (refine Jx.load rfl 0 rfl rfl rfl ?_)
 (refine Jx.neqI rfl rfl rfl (J.nil (N.seq (W.cF rfl ?_))))
 (refine W.skip (N.seq (W.seq (W.region (Jx.move rfl rfl ?_)))))
 (refine J.call (c0) rfl (evs_args rfl) rfl ?_; rintro _ _ ⟨rfl, rfl⟩; simp only [la1, la2, la3])
 (refine Jx.move rfl rfl (Jx.extract rfl rfl rfl ?_))
 (refine Jx.extract rfl rfl rfl ?_)
 (refine Jx.assign rfl rfl (Jx.assign rfl rfl (J.nil (N.seq (W.seq (W.seq (W.region (Jx.move rfl rfl (Jx.not rfl rfl (J.nil (N.seq (W.cF rfl ?_))))))))))))
 (refine W.skip (N.seq (W.seq (W.seq (W.region (Jx.move rfl rfl (Jx.indexS rfl rfl (by decide) (by first | omega | (simp; done)) rfl ?_)))))))
 (refine Jx.gtrI rfl rfl rfl (J.nil (N.seq (W.cF rfl ?_))))
 (refine W.skip (N.seq (W.seq (W.region (Jx.move rfl rfl (Jx.move rfl rfl (Jx.indexS rfl rfl (by decide) (by first | omega | (simp; done)) rfl ?_)))))))
 (refine Jx.byteNum rfl rfl rfl ?_)
 (refine J.call (c1) rfl (evs_args rfl) rfl ?_; rintro _ _ ⟨rfl, rfl⟩; simp only [la1, la2, la3])
 (refine Jx.move rfl rfl (Jx.extract rfl rfl rfl ?_))
 (refine Jx.extract rfl rfl rfl ?_)
 (refine Jx.assign rfl rfl (Jx.assign rfl rfl (J.nil (N.seq (W.seq (W.seq (W.region (Jx.move rfl rfl (Jx.not rfl rfl (J.nil (N.seq (W.cF rfl ?_))))))))))))
 (refine W.skip (N.seq (W.seq (W.seq (W.region (Jx.move rfl rfl (Jx.lenS rfl rfl ?_)))))))
 (refine Jx.gtrI rfl rfl rfl (Jx.move rfl rfl (J.gY rfl rfl rfl ?_)))
 (refine Jx.move rfl rfl (J.gY rfl rfl rfl ?_))
 (refine Jx.indexS rfl rfl (by decide) (by first | omega | (simp; done)) rfl ?_)
 (refine J.gY rfl rfl rfl ?_)
 (refine Jx.eqlI rfl rfl rfl (Jx.pT rfl rfl rfl ?_))
 (refine Jx.move rfl rfl (J.gY rfl rfl rfl ?_))
 (refine Jx.move rfl rfl (J.gY rfl rfl rfl ?_))
 (refine Jx.lenS rfl rfl ?_)
 (refine J.gY rfl rfl rfl ?_)
 (refine Jx.eqlI rfl rfl rfl (J.gY rfl rfl rfl ?_))
 (refine Jx.move rfl rfl (J.gY rfl rfl rfl ?_))
 (refine Jx.move rfl rfl (J.gY rfl rfl rfl ?_))
 (refine Jx.indexS rfl rfl (by decide) (by first | omega | (simp; done)) rfl ?_)
 (refine J.gY rfl rfl rfl ?_)
 (refine Jx.geqI rfl rfl rfl (J.gY rfl rfl rfl ?_))
 (refine Jx.pT rfl rfl rfl ?_)
 (refine Jx.pF rfl rfl rfl ?_)
 (refine J.nil (N.seq (W.cT rfl ?_)))
 (refine W.seq (W.region (Jx.assign rfl rfl (Jx.assign rfl rfl (J.nil (N.seq (W.ret (N.seqRet ?_))))))))
 (refine id ?_; rotate_left))
          exact N.ret (rs := [.tmp 2, .tmp 3]) rfl (.tmp rfl (.tmp rfl .nil)) ⟨⟨s, a + 1 + x.toNat, 0⟩, ⟨rfl, rfl, rfl, by simp⟩, rfl⟩
set_option maxHeartbeats 2000000 in
theorem number_good (b : Nat) (r : Rdr) (h : r.ok) (hc : r.code = 0) (hb : (readN (r.s.drop r.at_)).2.2 = 0) : FnC Tryz.prog 103 [ptr b] [rdO b r] (fun s L => ∃ r', numOut r s r' ∧ L = [rdO b r']) := by
  have h1 := h.le; have h2 := h.mx
  obtain ⟨s, a, c⟩ := r
  simp only at h1 h2 hc hb
  subst hc
  unfold numOut
  simp only
  cases hd : s.drop a with
  | nil => rw [hd] at hb; simp [readN] at hb
  | cons x t =>
    have hlen : s.length = a + 1 + t.length := by
      have := congrArg List.length hd
      rw [List.length_drop] at this; simp at this; omega
    have c0 := take_yes b ⟨s, a, 0⟩ 1 h (by simp only; omega)
    simp only [hd, List.take_succ_cons, List.take_zero] at c0
    rw [hd] at hb
    have hx := x.toNat_lt
    have h8 : ¬ 8 < x.toNat := fun h => by simp [readN, h] at hb
    have hs : ¬ t.length < x.toNat := fun h => by simp [readN, h8, h] at hb
    have hgood : ¬ ((0 < x.toNat ∧ (t.getD 0 0).toNat = 0) ∨ (x.toNat = 8 ∧ 128 ≤ (t.getD 0 0).toNat)) := fun h => by
      simp only [readN, if_neg h8, if_neg hs, if_pos h] at hb; cases hb
    have hok2 : Rdr.ok ⟨s, a + 1, 0⟩ := ⟨by simp only; omega, h2⟩
    have hdt : s.drop (a + 1) = t := by rw [← List.drop_drop, hd]; rfl
    have c1 := take_yes b ⟨s, a + 1, 0⟩ x.toNat hok2 (by simp only; omega)
    simp only [hdt] at c1
    have hl : (t.take x.toNat).length = x.toNat := by rw [List.length_take]; omega
    have hr : readN (x :: t) = (valB (t.take x.toNat), 1 + x.toNat, 0) := by simp only [readN, if_neg h8, if_neg hs, if_neg hgood]
    rw [hr]
    have hvb := val_bound t x.toNat (by omega) (by omega) (fun h => hgood (.inr h))
    have hg : 0 < x.toNat → ((t.take x.toNat).getD (Int.toNat 0) 0).toNat = (t.getD 0 0).toNat := fun h0 => by rw [show Int.toNat 0 = 0 from rfl, getD_take0 t _ h0]
    generalize t.take x.toNat = bs at *
    by_cases h0 : x.toNat = 0
    · have hbs : bs = [] := List.eq_nil_of_length_eq_zero (by omega)
      subst hbs
      refine FnC.intro Tryz.func103 rfl Tryz.ntmps103 rfl fun Z w0 hG => ?_
      focus (
 (refine W.seq (W.region (Jx.assign rfl rfl (Jx.assign rfl rfl (J.nil (N.seq (W.seq (W.seq (W.region (Jx.move rfl rfl (Jx.nilCheck rfl rfl ?_)))))))))))
 (refine Jx.fieldAddr rfl rfl ?_)
 (refine Jx.load rfl 0 rfl rfl rfl ?_)
 (refine Jx.neqI rfl rfl rfl (J.nil (N.seq (W.cF rfl ?_))))
 (refine W.skip (N.seq (W.seq (W.region (Jx.move rfl rfl ?_)))))
 (refine J.call (c0) rfl (evs_args rfl) rfl ?_; rintro _ _ ⟨rfl, rfl⟩; simp only [la1, la2, la3])
 (refine Jx.move rfl rfl (Jx.extract rfl rfl rfl ?_))
 (refine Jx.extract rfl rfl rfl ?_)
 (refine Jx.assign rfl rfl (Jx.assign rfl rfl (J.nil (N.seq (W.seq (W.seq (W.region (Jx.move rfl rfl (Jx.not rfl rfl (J.nil (N.seq (W.cF rfl ?_))))))))))))
 (refine W.skip (N.seq (W.seq (W.seq (W.region (Jx.move rfl rfl (Jx.indexS rfl rfl (by decide) (by first | omega | (simp; done)) rfl ?_)))))))
 (refine Jx.gtrI rfl rfl rfl (J.nil (N.seq (W.cF rfl ?_))))
 (refine W.skip (N.seq (W.seq (W.region (Jx.move rfl rfl (Jx.move rfl rfl (Jx.indexS rfl rfl (by decide) (by first | omega | (simp; done)) rfl ?_)))))))
 (refine Jx.byteNum rfl rfl rfl ?_)
 (refine J.call (c1) rfl (evs_args rfl) rfl ?_; rintro _ _ ⟨rfl, rfl⟩; simp only [la1, la2, la3])
 (refine Jx.move rfl rfl (Jx.extract rfl rfl rfl ?_))
 (refine Jx.extract rfl rfl rfl ?_)
 (refine Jx.assign rfl rfl (Jx.assign rfl rfl (J.nil (N.seq (W.seq (W.seq (W.region (Jx.move rfl rfl (Jx.not rfl rfl (J.nil (N.seq (W.cF rfl ?_))))))))))))
 (refine W.skip (N.seq (W.seq (W.seq (W.region (Jx.move rfl rfl (Jx.lenS rfl rfl ?_)))))))
 (refine Jx.gtrI rfl rfl rfl (Jx.move rfl rfl ?_))
 (refine J.guardNo rfl rfl rfl (by first | rfl | assumption | (exact decide_eq_true (by first | assumption | omega | rfl)) | (exact decide_eq_false (by first | assumption | omega | rfl)) | (simp; done) | (simp; omega)) rfl ?_)
 (refine J.guardNo rfl rfl rfl (by first | rfl | assumption | (exact decide_eq_true (by first | assumption | omega | rfl)) | (exact decide_eq_false (by first | assumption | omega | rfl)) | (simp; done) | (simp; omega)) rfl ?_)
 (refine J.guardNo rfl rfl rfl (by first | rfl | assumption | (exact decide_eq_true (by first | assumption | omega | rfl)) | (exact decide_eq_false (by first | assumption | omega | rfl)) | (simp; done) | (simp; omega)) rfl ?_)
 (refine Jx.pF rfl rfl rfl ?_)
 (refine Jx.move rfl rfl (J.gY rfl rfl rfl ?_))
 (refine Jx.move rfl rfl (J.gY rfl rfl rfl ?_))
 (refine Jx.lenS rfl rfl ?_)
 (refine J.gY rfl rfl rfl ?_)
 (refine Jx.eqlI rfl rfl rfl (J.gY rfl rfl rfl ?_))
 (refine Jx.move rfl rfl ?_)
 (refine J.guardNo rfl rfl rfl (by first | rfl | assumption | (exact decide_eq_true (by first | assumption | omega | rfl)) | (exact decide_eq_false (by first | assumption | omega | rfl)) | (simp; done) | (simp; omega)) rfl ?_)
 (refine J.guardNo rfl rfl rfl (by first | rfl | assumption | (exact decide_eq_true (by first | assumption | omega | rfl)) | (exact decide_eq_false (by first | assumption | omega | rfl)) | (simp; done) | (simp; omega)) rfl ?_)
 (refine J.guardNo rfl rfl rfl (by first | rfl | assumption | (exact decide_eq_true (by first | assumption | omega | rfl)) | (exact decide_eq_false (by first | assumption | omega | rfl)) | (simp; done) | (simp; omega)) rfl ?_)
 (refine J.gY rfl rfl rfl ?_)
 (refine Jx.pF rfl rfl rfl ?_)
 (refine Jx.pF rfl rfl rfl ?_)
 (refine J.nil (N.seq (W.cF rfl ?_)))
 (refine W.skip (N.seq (W.seq (W.region (Jx.assign rfl rfl (J.nil (N.seq (W.seq (W.seq (W.region (Jx.move rfl rfl (Jx.lenS rfl rfl ?_))))))))))))
 (refine Jx.move rfl rfl (J.nil (N.seq (W.block ?_))))
 (refine id ?_; rotate_left))
      refine W.loop (α := Unit) (fun _ => [(58, int 0), (57, int 0), (7, int 0)]) (fun _ => [rdO b ⟨s, a + 1 + x.toNat, 0⟩]) (fun _ => True) (fun _ => 0) () trivial rfl ⟨ref0 rfl, ref0 rfl, ref0 rfl, trivial⟩ ?_
      intro _ _
      focus (
 (refine W.seq (W.region (Jx.lssI rfl rfl rfl (J.nil (N.seq (W.seq (W.cF rfl ?_)))))))
 (refine W.exit (N.seq (W.seq (W.region (Jx.move rfl rfl (Jx.assign rfl rfl (Jx.assign rfl rfl (J.nil (N.seq (W.ret ?_))))))))))
 (refine id ?_; rotate_left))
      exact N.ret (rs := [.tmp 2, .tmp 3]) rfl (.tmp rfl (.tmp rfl .nil)) ⟨⟨s, a + 1 + x.toNat, 0⟩, ⟨rfl, rfl, rfl, fun _ => by simp only; omega⟩, rfl⟩
    · have hg' := hg (by omega)
      generalize (t.getD 0 0).toNat = y at *
      by_cases hx8 : x.toNat = 8
      · refine FnC.intro Tryz.func103 rfl Tryz.ntmps103 rfl fun Z w0 hG => ?_
        focus (
 (refine W.seq (W.region (Jx.assign rfl rfl (Jx.assign rfl rfl (J.nil (N.seq (W.seq (W.seq (W.region (Jx.move rfl rfl (Jx.nilCheck rfl rfl ?_)))))))))))
 (refine Jx.fieldAddr rfl rfl ?_)
 (refine Jx.load rfl 0 rfl rfl rfl ?_)
 (refine Jx.neqI rfl rfl rfl (J.nil (N.seq (W.cF rfl ?_))))
 (refine W.skip (N.seq (W.seq (W.region (Jx.move rfl rfl ?_)))))
 (refine J.call (c0) rfl (evs_args rfl) rfl ?_; rintro _ _ ⟨rfl, rfl⟩; simp only [la1, la2, la3])
 (refine Jx.move rfl rfl (Jx.extract rfl rfl rfl ?_))
 (refine Jx.extract rfl rfl rfl ?_)
 (refine Jx.assign rfl rfl (Jx.assign rfl rfl (J.nil (N.seq (W.seq (W.seq (W.region (Jx.move rfl rfl (Jx.not rfl rfl (J.nil (N.seq (W.cF rfl ?_))))))))))))
 (refine W.skip (N.seq (W.seq (W.seq (W.region (Jx.move rfl rfl (Jx.indexS rfl rfl (by decide) (by first | omega | (simp; done)) rfl ?_)))))))
 (refine Jx.gtrI rfl rfl rfl (J.nil (N.seq (W.cF rfl ?_))))
 (refine W.skip (N.seq (W.seq (W.region (Jx.move rfl rfl (Jx.move rfl rfl (Jx.indexS rfl rfl (by decide) (by first | omega | (simp; done)) rfl ?_)))))))
 (refine Jx.byteNum rfl rfl rfl ?_)
 (refine J.call (c1) rfl (evs_args rfl) rfl ?_; rintro _ _ ⟨rfl, rfl⟩; simp only [la1, la2, la3])
 (refine Jx.move rfl rfl (Jx.extract rfl rfl rfl ?_))
 (refine Jx.extract rfl rfl rfl ?_)
 (refine Jx.assign rfl rfl (Jx.assign rfl rfl (J.nil (N.seq (W.seq (W.seq (W.region (Jx.move rfl rfl (Jx.not rfl rfl (J.nil (N.seq (W.cF rfl ?_))))))))))))
 (refine W.skip (N.seq (W.seq (W.seq (W.region (Jx.move rfl rfl (Jx.lenS rfl rfl ?_)))))))
 (refine Jx.gtrI rfl rfl rfl (Jx.move rfl rfl (J.gY rfl rfl rfl ?_)))
 (refine Jx.move rfl rfl (J.gY rfl rfl rfl ?_))
 (refine Jx.indexS rfl rfl (by decide) (by first | omega | (simp; done)) rfl ?_)
 (refine J.gY rfl rfl rfl ?_)
 (refine Jx.eqlI rfl rfl rfl (Jx.pT rfl rfl rfl ?_))
 (refine Jx.move rfl rfl (J.gY rfl rfl rfl ?_))
 (refine Jx.move rfl rfl (J.gY rfl rfl rfl ?_))
 (refine Jx.lenS rfl rfl ?_)
 (refine J.gY rfl rfl rfl ?_)
 (refine Jx.eqlI rfl rfl rfl (J.gY rfl rfl rfl ?_))
 (refine Jx.move rfl rfl (J.gY rfl rfl rfl ?_))
 (refine Jx.move rfl rfl (J.gY rfl rfl rfl ?_))
 (refine Jx.indexS rfl rfl (by decide) (by first | omega | (simp; done)) rfl ?_)
 (refine J.gY rfl rfl rfl ?_)
 (refine Jx.geqI rfl rfl rfl (J.gY rfl rfl rfl ?_))
 (refine Jx.pT rfl rfl rfl ?_)
 (refine Jx.pF rfl rfl rfl ?_)
 (refine J.nil (N.seq (W.cF rfl ?_)))
 (refine W.skip (N.seq (W.seq (W.region (Jx.assign rfl rfl (J.nil (N.seq (W.seq (W.seq (W.region (Jx.move rfl rfl (Jx.lenS rfl rfl ?_))))))))))))
 (refine Jx.move rfl rfl (J.nil (N.seq (W.block ?_))))
 (refine id ?_; rotate_left))
        refine W.loop (α := Nat) (fun i => [(58, int i), (57, int bs.length), (7, int (valB (bs.take i) : Int)), (6, str bs)]) (fun _ => [rdO b ⟨s, a + 1 + x.toNat, 0⟩]) (fun i => i ≤ bs.length) (fun i => bs.length - i) 0 (by omega) rfl ⟨ref0 rfl, ref0 rfl, ref0 rfl, ref0 rfl, trivial⟩ ?_
        intro i hi
        by_cases hi1 : i < bs.length
        · have hst := valB_take bs i hi1
          have hmo := valB_mono bs (bs.length - (i + 1)) (i + 1) (by omega)
          have hbb := (bs.getD i 0).toNat_lt
          focus (
 (refine W.seq (W.region (Jx.lssI rfl rfl rfl (J.nil (N.seq (W.seq (W.cT rfl ?_)))))))
 (refine W.skip (N.seq (W.seq (W.block (W.seq (W.region (Jx.move rfl rfl (Jx.assign rfl rfl (J.nil (N.seq (W.region (Jx.move rfl rfl (Jx.shl8 rfl rfl (by omega) rfl ?_)))))))))))))
 (refine Jx.move rfl rfl (Jx.move rfl rfl (Jx.indexS rfl rfl (by omega) (by omega) rfl ?_)))
 (refine Jx.byteNum rfl rfl rfl ?_)
 (refine Jx.orByte (b := (bs.getD i 0).toNat) rfl rfl hbb (by omega) rfl ?_)
 (refine Jx.assign rfl rfl (J.nil (N.seq (W.region (Jx.add64 rfl rfl (by omega) rfl ?_)))))
 (refine Jx.move rfl rfl (J.nil ?_))
 (refine id ?_; rotate_left))
          exact N.round (i + 1) hi1 (by omega) rfl ⟨ref0 rfl, ref0 rfl, ⟨_, rfl, Sub.of_eq (by rw [hst])⟩, ref0 rfl, trivial⟩
        · have hie : bs.take i = bs := List.take_of_length_le (by omega)
          focus (
 (refine W.seq (W.region (Jx.lssI rfl rfl rfl (J.nil (N.seq (W.seq (W.cF rfl ?_)))))))
 (refine W.exit (N.seq (W.seq (W.region (Jx.move rfl rfl (Jx.assign rfl rfl (Jx.assign rfl rfl (J.nil (N.seq (W.ret ?_))))))))))
 (refine id ?_; rotate_left))
          exact N.ret (rs := [.tmp 2, .tmp 3]) rfl (.tmp rfl (.tmp rfl .nil)) ⟨⟨s, a + 1 + x.toNat, 0⟩, ⟨by rw [hie]; rfl, rfl, rfl, fun _ => by simp only; omega⟩, rfl⟩
      · refine FnC.intro Tryz.func103 rfl Tryz.ntmps103 rfl fun Z w0 hG => ?_
        focus (
 (refine W.seq (W.region (Jx.assign rfl rfl (Jx.assign rfl rfl (J.nil (N.seq (W.seq (W.seq (W.region (Jx.move rfl rfl (Jx.nilCheck rfl rfl ?_)))))))))))
 (refine Jx.fieldAddr rfl rfl ?_)
 (refine Jx.load rfl 0 rfl rfl rfl ?_)
 (refine Jx.neqI rfl rfl rfl (J.nil (N.seq (W.cF rfl ?_))))
 (refine W.skip (N.seq (W.seq (W.region (Jx.move rfl rfl ?_)))))
 (refine J.call (c0) rfl (evs_args rfl) rfl ?_; rintro _ _ ⟨rfl, rfl⟩; simp only [la1, la2, la3])
 (refine Jx.move rfl rfl (Jx.extract rfl rfl rfl ?_))
 (refine Jx.extract rfl rfl rfl ?_)
 (refine Jx.assign rfl rfl (Jx.assign rfl rfl (J.nil (N.seq (W.seq (W.seq (W.region (Jx.move rfl rfl (Jx.not rfl rfl (J.nil (N.seq (W.cF rfl ?_))))))))))))
 (refine W.skip (N.seq (W.seq (W.seq (W.region (Jx.move rfl rfl (Jx.indexS rfl rfl (by decide) (by first | omega | (simp; done)) rfl ?_)))))))
 (refine Jx.gtrI rfl rfl rfl (J.nil (N.seq (W.cF rfl ?_))))
 (refine W.skip (N.seq (W.seq (W.region (Jx.move rfl rfl (Jx.move rfl rfl (Jx.indexS rfl rfl (by decide) (by first | omega | (simp; done)) rfl ?_)))))))
 (refine Jx.byteNum rfl rfl rfl ?_)
 (refine J.call (c1) rfl (evs_args rfl) rfl ?_; rintro _ _ ⟨rfl, rfl⟩; simp only [la1, la2, la3])
 (refine Jx.move rfl rfl (Jx.extract rfl rfl rfl ?_))
 (refine Jx.extract rfl rfl rfl ?_)
 (refine Jx.assign rfl rfl (Jx.assign rfl rfl (J.nil (N.seq (W.seq (W.seq (W.region (Jx.move rfl rfl (Jx.not rfl rfl (J.nil (N.seq (W.cF rfl ?_))))))))))))
 (refine W.skip (N.seq (W.seq (W.seq (W.region (Jx.move rfl rfl (Jx.lenS rfl rfl ?_)))))))
 (refine Jx.gtrI rfl rfl rfl (Jx.move rfl rfl (J.gY rfl rfl rfl ?_)))
 (refine Jx.move rfl rfl (J.gY rfl rfl rfl ?_))
 (refine Jx.indexS rfl rfl (by decide) (by first | omega | (simp; done)) rfl ?_)
 (refine J.gY rfl rfl rfl ?_)
 (refine Jx.eqlI rfl rfl rfl (Jx.pT rfl rfl rfl ?_))
 (refine Jx.move rfl rfl (J.gY rfl rfl rfl ?_))
 (refine Jx.move rfl rfl (J.gY rfl rfl rfl ?_))
 (refine Jx.lenS rfl rfl ?_)
 (refine J.gY rfl rfl rfl ?_)
 (refine Jx.eqlI rfl rfl rfl (J.gY rfl rfl rfl ?_))
 (refine Jx.move rfl rfl ?_)
 (refine J.guardNo rfl rfl rfl (by first | rfl | assumption | (exact decide_eq_true (by first | assumption | omega | rfl)) | (exact decide_eq_false (by first | assumption | omega | rfl)) | (simp; done) | (simp; omega)) rfl ?_)
 (refine J.guardNo rfl rfl rfl (by first | rfl | assumption | (exact decide_eq_true (by first | assumption | omega | rfl)) | (exact decide_eq_false (by first | assumption | omega | rfl)) | (simp; done) | (simp; omega)) rfl ?_)
 (refine J.guardNo rfl rfl rfl (by first | rfl | assumption | (exact decide_eq_true (by first | assumption | omega | rfl)) | (exact decide_eq_false (by first | assumption | omega | rfl)) | (simp; done) | (simp; omega)) rfl ?_)
 (refine J.gY rfl rfl rfl ?_)
 (refine Jx.pF rfl rfl rfl ?_)
 (refine Jx.pF rfl rfl rfl ?_)
 (refine J.nil (N.seq (W.cF rfl ?_)))
 (refine W.skip (N.seq (W.seq (W.region (Jx.assign rfl rfl (J.nil (N.seq (W.seq (W.seq (W.region (Jx.move rfl rfl (Jx.lenS rfl rfl ?_))))))))))))
 (refine Jx.move rfl rfl (J.nil (N.seq (W.block ?_))))
 (refine id ?_; rotate_left))
        refine W.loop (α := Nat) (fun i => [(58, int i), (57, int bs.length), (7, int (valB (bs.take i) : Int)), (6, str bs)]) (fun _ => [rdO b ⟨s, a + 1 + x.toNat, 0⟩]) (fun i => i ≤ bs.length) (fun i => bs.length - i) 0 (by omega) rfl ⟨ref0 rfl, ref0 rfl, ref0 rfl, ref0 rfl, trivial⟩ ?_
        intro i hi
        by_cases hi1 : i < bs.length
        · have hst := valB_take bs i hi1
          have hmo := valB_mono bs (bs.length - (i + 1)) (i + 1) (by omega)
          have hbb := (bs.getD i 0).toNat_lt
          focus (
 (refine W.seq (W.region (Jx.lssI rfl rfl rfl (J.nil (N.seq (W.seq (W.cT rfl ?_)))))))
 (refine W.skip (N.seq (W.seq (W.block (W.seq (W.region (Jx.move rfl rfl (Jx.assign rfl rfl (J.nil (N.seq (W.region (Jx.move rfl rfl (Jx.shl8 rfl rfl (by omega) rfl ?_)))))))))))))
 (refine Jx.move rfl rfl (Jx.move rfl rfl (Jx.indexS rfl rfl (by omega) (by omega) rfl ?_)))
 (refine Jx.byteNum rfl rfl rfl ?_)
 (refine Jx.orByte (b := (bs.getD i 0).toNat) rfl rfl hbb (by omega) rfl ?_)
 (refine Jx.assign rfl rfl (J.nil (N.seq (W.region (Jx.add64 rfl rfl (by omega) rfl ?_)))))
 (refine Jx.move rfl rfl (J.nil ?_))
 (refine id ?_; rotate_left))
          exact N.round (i + 1) hi1 (by omega) rfl ⟨ref0 rfl, ref0 rfl, ⟨_, rfl, Sub.of_eq (by rw [hst])⟩, ref0 rfl, trivial⟩
        · have hie : bs.take i = bs := List.take_of_length_le (by omega)
          focus (
 (refine W.seq (W.region (Jx.lssI rfl rfl rfl (J.nil (N.seq (W.seq (W.cF rfl ?_)))))))
 (refine W.exit (N.seq (W.seq (W.region (Jx.move rfl rfl (Jx.assign rfl rfl (Jx.assign rfl rfl (J.nil (N.seq (W.ret ?_))))))))))
 (refine id ?_; rotate_left))
          exact N.ret (rs := [.tmp 2, .tmp 3]) rfl (.tmp rfl (.tmp rfl .nil)) ⟨⟨s, a + 1 + x.toNat, 0⟩, ⟨by rw [hie]; rfl, rfl, rfl, fun _ => by simp only; omega⟩, rfl⟩
end Go.Proofs.YtlfdhkahiaammaaGreatDoor
namespace Go.Proofs.YtlfdhkahiaammaaGreatDoor
open Go Go.Sse
set_option linter.unusedVariables false
set_option linter.unusedSimpArgs false
set_option maxRecDepth 10000
theorem number_code (b : Nat) (r : Rdr) (hc : r.code ≠ 0) : FnC Tryz.prog 103 [ptr b] [rdO b r] (fun s L => s = .tup [int 0, int r.code] ∧ L = [rdO b r]) := by
  refine FnC.intro Tryz.func103 rfl Tryz.ntmps103 rfl fun Z w0 hG => ?_
  focus (
 (refine W.seq (W.region (Jx.assign rfl rfl (Jx.assign rfl rfl (J.nil (N.seq (W.seq (W.seq (W.region (Jx.move rfl rfl (Jx.nilCheck rfl rfl ?_)))))))))))
 (refine Jx.fieldAddr rfl rfl ?_)
 (refine Jx.load rfl 0 rfl rfl rfl ?_)
 (refine Jx.neqI rfl rfl rfl (J.nil (N.seq (W.cT rfl ?_))))
 (refine W.seq ?_)
 (refine W.draw follows ?_)
 (refine JD.calm rfl (by decide +kernel) ?_)
 (refine Cx.move rfl rfl ?_)
 (refine Cx.nilCheck rfl rfl ?_)
 (refine Cx.fieldAddr rfl rfl ?_)
 (refine Cx.load rfl 0 rfl rfl rfl ?_)
 (refine Cx.assign rfl rfl ?_)
 (refine Cx.assign rfl rfl ?_)
 (refine SegC.nil ?_)
 (refine N.seq (W.ret (N.seqRet ?_)))
 (refine id ?_; rotate_left))
  exact N.ret (rs := [.tmp 2, .tmp 3]) rfl (.tmp rfl (.tmp rfl .nil)) ⟨rfl, rfl⟩
def Rdr.num (r : Rdr) : Nat × Rdr :=
  if r.code ≠ 0 then (0, r) else if (readN (r.s.drop r.at_)).2.2 = 0 then ((readN (r.s.drop r.at_)).1, { r with at_ := r.at_ + (readN (r.s.drop r.at_)).2.1 }) else (0, { r with code := (readN (r.s.drop r.at_)).2.2 })
theorem rnum_ok (b : Nat) (r : Rdr) (h : r.ok) : FnC Tryz.prog 61 [ptr b] [rdO b r] (fun s L => s = int (r.num.1 : Int) ∧ L = [rdO b r.num.2]) := by
  by_cases hc : r.code = 0
  · by_cases he : (readN (r.s.drop r.at_)).2.2 = 0
    · have c := number_good b r h hc he
      have e : r.num = ((readN (r.s.drop r.at_)).1, { r with at_ := r.at_ + (readN (r.s.drop r.at_)).2.1 }) := by simp [Rdr.num, hc, he]
      rw [e]
      unfold numOut at c
      rw [he] at c
      generalize (readN (r.s.drop r.at_)) = q at *
      refine FnC.intro Tryz.func61 rfl Tryz.ntmps61 rfl fun Z w0 hG => ?_
      focus (
 (refine W.seq (W.region (Jx.assign rfl rfl (J.nil (N.seq (W.seq (W.region (Jx.move rfl rfl (Jx.nilCheck rfl rfl ?_)))))))))
 (refine Jx.fieldAddr rfl rfl ?_)
 (refine Jx.load rfl 0 rfl rfl rfl ?_)
 (refine Jx.assign rfl rfl (J.nil (N.seq (W.seq (W.region (Jx.move rfl rfl ?_))))))
 (refine J.call c rfl (evs_args rfl) rfl ?_; rintro _ _ ⟨⟨s', a', c'⟩, ⟨rfl, hs', hc', ha'⟩, rfl⟩; simp only [la1, la2, la3])
 (refine Jx.move rfl rfl (Jx.extract rfl rfl rfl ?_))
 (refine Jx.extract rfl rfl rfl ?_)
 (refine Jx.assign rfl rfl (Jx.assign rfl rfl (J.nil (N.seq (W.seq (W.seq (W.region (Jx.move rfl rfl (Jx.neqI rfl rfl rfl (J.nil (N.seq (W.cF rfl ?_))))))))))))
 (refine W.skip (N.seq (W.seq (W.region (Jx.move rfl rfl (Jx.assign rfl rfl (J.nil (N.seq (W.ret ?_)))))))))
 (refine id ?_; rotate_left))
      refine N.ret (rs := [.tmp 2]) rfl (.tmp rfl .nil) ⟨rfl, ?_⟩
      simp only at hs' hc' ha'
      rw [hs', hc', ha' trivial]
    · have c := number_bad b r h hc he
      have e : r.num = (0, { r with code := (readN (r.s.drop r.at_)).2.2 }) := by simp [Rdr.num, hc, he]
      rw [e]
      unfold numOut at c
      generalize (readN (r.s.drop r.at_)) = q at *
      refine FnC.intro Tryz.func61 rfl Tryz.ntmps61 rfl fun Z w0 hG => ?_
      focus (
 (refine W.seq (W.region (Jx.assign rfl rfl (J.nil (N.seq (W.seq (W.region (Jx.move rfl rfl (Jx.nilCheck rfl rfl ?_)))))))))
 (refine Jx.fieldAddr rfl rfl ?_)
 (refine Jx.load rfl 0 rfl rfl rfl ?_)
 (refine Jx.assign rfl rfl (J.nil (N.seq (W.seq (W.region (Jx.move rfl rfl ?_))))))
 (refine J.call c rfl (evs_args rfl) rfl ?_; rintro _ _ ⟨⟨s', a', c'⟩, ⟨rfl, hs', hc', ha'⟩, rfl⟩; simp only [la1, la2, la3])
 (refine Jx.move rfl rfl (Jx.extract rfl rfl rfl ?_))
 (refine Jx.extract rfl rfl rfl ?_)
 (refine Jx.assign rfl rfl (Jx.assign rfl rfl (J.nil (N.seq (W.seq (W.seq (W.region (Jx.move rfl rfl (Jx.neqI rfl rfl rfl (J.nil (N.seq (W.cT rfl ?_))))))))))))
 (refine W.seq (W.region (Jx.move rfl rfl (Jx.move rfl rfl (Jx.move rfl rfl ?_)))))
 (refine J.call (refused_ok b _ r.at_ q.2.2) rfl (evs_args rfl) rfl ?_; rintro _ _ rfl; simp only [la1, la2, la3])
 (refine J.nil (N.seq (W.seq (W.region (Jx.assign rfl rfl (J.nil (N.seq (W.ret (N.seqRet ?_)))))))))
 (refine id ?_; rotate_left))
      refine N.ret (rs := [.tmp 2]) rfl (.tmp rfl .nil) ⟨rfl, ?_⟩
      simp only at hs' hc' ha'
      simp only [Rdr.refuse]
      rw [hs', hc', if_pos hc]
  · have c := number_code b r hc
    have e : r.num = (0, r) := by simp [Rdr.num, hc]
    have e2 : r.refuse r.at_ r.code = r := by simp [Rdr.refuse, hc]
    rw [e]
    refine FnC.intro Tryz.func61 rfl Tryz.ntmps61 rfl fun Z w0 hG => ?_
    focus (
 (refine W.seq (W.region (Jx.assign rfl rfl (J.nil (N.seq (W.seq (W.region (Jx.move rfl rfl (Jx.nilCheck rfl rfl ?_)))))))))
 (refine Jx.fieldAddr rfl rfl ?_)
 (refine Jx.load rfl 0 rfl rfl rfl ?_)
 (refine Jx.assign rfl rfl (J.nil (N.seq (W.seq (W.region (Jx.move rfl rfl ?_))))))
 (refine J.call (c) rfl (evs_args rfl) rfl ?_; rintro _ _ ⟨rfl, rfl⟩; simp only [la1, la2, la3])
 (refine Jx.move rfl rfl (Jx.extract rfl rfl rfl ?_))
 (refine Jx.extract rfl rfl rfl ?_)
 (refine Jx.assign rfl rfl (Jx.assign rfl rfl (J.nil (N.seq (W.seq (W.seq (W.region (Jx.move rfl rfl (Jx.neqI rfl rfl rfl (J.nil (N.seq (W.cT rfl ?_))))))))))))
 (refine W.seq (W.region (Jx.move rfl rfl (Jx.move rfl rfl (Jx.move rfl rfl ?_)))))
 (refine J.call (refused_ok b r r.at_ r.code) rfl (evs_args rfl) rfl ?_; rintro _ _ rfl; simp only [la1, la2, la3])
 (refine J.nil (N.seq (W.seq (W.region (Jx.assign rfl rfl (J.nil (N.seq (W.ret (N.seqRet ?_)))))))))
 (refine id ?_; rotate_left))
    exact N.ret (rs := [.tmp 2]) rfl (.tmp rfl .nil) ⟨rfl, by rw [e2]⟩
end Go.Proofs.YtlfdhkahiaammaaGreatDoor
namespace Go.Proofs.YtlfdhkahiaammaaGreatDoor
open Go Go.Sse
set_option linter.unusedVariables false
set_option linter.unusedSimpArgs false
set_option maxRecDepth 10000
theorem valB_be : ∀ (n : Nat), valB (be n) = n := by
  intro n
  induction n using Nat.strongRecOn with
  | _ n ih =>
    by_cases h : n = 0
    · subst h; rw [be_zero]; rfl
    · rw [be_pos (by omega), valB_snoc, ih (n / 256) (by omega)]
      simp only [UInt8.toNat_ofNat']
      omega
theorem valB_pos : ∀ (k : Nat) (l : List UInt8), l.length = k → 0 < (l.getD 0 0).toNat → 0 < valB l
  | k, [], _, h => by simp at h
  | k, b :: l, _, h => by
    rw [valB_cons l.length b l rfl]
    simp only [List.getD_cons_zero] at h
    have : 0 < b.toNat * 256 ^ l.length := Nat.mul_pos h (Nat.pow_pos (by omega))
    omega
theorem be_valB : ∀ (k : Nat) (l : List UInt8), l.length = k → (0 < k → 0 < (l.getD 0 0).toNat) → be (valB l) = l
  | 0, l, h, _ => by rw [List.eq_nil_of_length_eq_zero h]; simp only [valB, List.foldl_nil]; exact be_zero
  | k + 1, l, h, hp => by
    obtain ⟨m, c, rfl⟩ : ∃ m c, l = m ++ [c] := ⟨l.dropLast, l.getLast (by intro e; subst e; simp at h), (List.dropLast_concat_getLast _).symm⟩
    have hml : m.length = k := by simpa using h
    have hpos := valB_pos (k + 1) (m ++ [c]) h (hp (by omega))
    have hc := c.toNat_lt
    have ih := be_valB k m hml (fun hk => by
      have := hp (by omega)
      rw [List.getD_eq_getElem?_getD, List.getElem?_append_left (by omega)] at this
      rw [List.getD_eq_getElem?_getD]; exact this)
    rw [be_pos hpos, valB_snoc]
    have e1 : (valB m * 256 + c.toNat) / 256 = valB m := by omega
    have e2 : (valB m * 256 + c.toNat) % 256 = c.toNat := by omega
    rw [e1, e2, ih]
    congr 2
    apply UInt8.toNat_inj.1
    simp
theorem readN_good {s : List UInt8} (h : (readN s).2.2 = 0) : s.take (readN s).2.1 = numB (readN s).1 ∧ (readN s).2.1 ≤ s.length ∧ (readN s).1 < 9223372036854775808 := by
  cases s with
  | nil => simp [readN] at h
  | cons x t =>
    have h8 : ¬ 8 < x.toNat := fun h' => by simp [readN, h'] at h
    have hs : ¬ t.length < x.toNat := fun h' => by simp [readN, h8, h'] at h
    have hgood : ¬ ((0 < x.toNat ∧ (t.getD 0 0).toNat = 0) ∨ (x.toNat = 8 ∧ 128 ≤ (t.getD 0 0).toNat)) := fun h' => by
      simp only [readN, if_neg h8, if_neg hs, if_pos h'] at h; cases h
    have hr : readN (x :: t) = (valB (t.take x.toNat), 1 + x.toNat, 0) := by simp only [readN, if_neg h8, if_neg hs, if_neg hgood]
    rw [hr]
    have hl : (t.take x.toNat).length = x.toNat := by rw [List.length_take]; omega
    have hbe := be_valB x.toNat (t.take x.toNat) hl (fun h0 => by rw [getD_take0 t _ h0]; omega)
    refine ⟨?_, by simp only [List.length_cons]; omega, val_bound t x.toNat (by omega) (by omega) (fun h' => hgood (.inr h'))⟩
    simp only [numB, hbe, hl]
    rw [Nat.add_comm 1, List.take_succ_cons]
    congr 1
    apply UInt8.toNat_inj.1
    simp
theorem readN_num (n : Nat) (hn : n < 9223372036854775808) (r : List UInt8) : readN (numB n ++ r) = (n, (numB n).length, 0) := by
  have h8 := be_len8 (n := n) (by omega)
  have hx : (UInt8.ofNat (be n).length).toNat = (be n).length := by simp only [UInt8.toNat_ofNat']; omega
  have htk : (be n ++ r).take (be n).length = be n := by rw [List.take_append_of_le_length (Nat.le_refl _), List.take_length]
  simp only [numB, List.cons_append, readN, hx, List.length_append, htk, valB_be, List.length_cons]
  rw [if_neg (by omega), if_neg (by omega), if_neg]
  · rw [Nat.add_comm]
  · by_cases h0 : n = 0
    · subst h0; rw [be_zero]; simp
    · have hpos : 0 < (be n).length := by rw [be_pos (by omega), List.length_append]; simp
      have hg : (be n ++ r).getD 0 0 = (be n).getD 0 0 := by
        rw [List.getD_eq_getElem?_getD, List.getElem?_append_left hpos, List.getD_eq_getElem?_getD]
      rw [hg]
      have hv := valB_be n
      cases hb : be n with
      | nil => rw [hb] at hpos; simp at hpos
      | cons x t =>
        rw [hb] at hv
        rw [valB_cons t.length x t rfl] at hv
        have ht := valB_lt t.length t rfl
        simp only [List.getD_cons_zero, List.length_cons]
        rintro (⟨_, hx0⟩ | ⟨h88, hx1⟩)
        · rw [hx0, Nat.zero_mul, Nat.zero_add] at hv
          have h9 : (be n).length ≤ t.length := be_len t.length n (by omega)
          rw [hb, List.length_cons] at h9; omega
        · have : t.length = 7 := by omega
          rw [this] at hv
          have : 128 * 256 ^ 7 ≤ x.toNat * 256 ^ 7 := Nat.mul_le_mul_right _ hx1
          omega
end Go.Proofs.YtlfdhkahiaammaaGreatDoor
namespace Go.Proofs.YtlfdhkahiaammaaGreatDoor
open Go Go.Sse
set_option linter.unusedVariables false
set_option linter.unusedSimpArgs false
set_option maxRecDepth 10000
theorem bytes_back (b : Nat) (s : List UInt8) (a n : Nat) (h : Rdr.ok ⟨s, a, 0⟩) (hn : a + n ≤ s.length) :
    FnC Tryz.prog 60 [ptr b, int n] [rdO b ⟨s, a, 0⟩] (fun v L => v = str ((s.drop a).take n) ∧ L = [rdO b ⟨s, a + n, 0⟩]) := by
  have c := take_yes b ⟨s, a, 0⟩ n h hn
  simp only at c
  generalize (s.drop a).take n = t at *
  refine FnC.intro Tryz.func60 rfl Tryz.ntmps60 rfl fun Z w0 hG => ?_
  focus (
 (refine W.seq (W.region (Jx.assign rfl rfl (J.nil (N.seq (W.seq (W.seq (W.region (Jx.move rfl rfl (Jx.nilCheck rfl rfl ?_))))))))))
 (refine Jx.fieldAddr rfl rfl ?_)
 (refine Jx.load rfl 0 rfl rfl rfl ?_)
 (refine Jx.neqI rfl rfl rfl (J.nil (N.seq (W.cF rfl ?_))))
 (refine W.skip (N.seq (W.seq (W.seq (W.region (Jx.move rfl rfl (Jx.lssI rfl rfl rfl (J.nil (N.seq (W.cF rfl ?_))))))))))
 (refine W.skip (N.seq (W.seq (W.region (Jx.move rfl rfl (Jx.move rfl rfl ?_))))))
 (refine J.call (c) rfl (evs_args rfl) rfl ?_; rintro _ _ ⟨rfl, rfl⟩; simp only [la1, la2, la3])
 (refine Jx.move rfl rfl (Jx.extract rfl rfl rfl ?_))
 (refine Jx.extract rfl rfl rfl ?_)
 (refine Jx.assign rfl rfl (Jx.assign rfl rfl (J.nil (N.seq (W.seq (W.seq (W.region (Jx.move rfl rfl (Jx.not rfl rfl (J.nil (N.seq (W.cF rfl ?_))))))))))))
 (refine W.skip (N.seq (W.seq (W.region (Jx.move rfl rfl (Jx.assign rfl rfl (J.nil (N.seq (W.ret ?_)))))))))
 (refine id ?_; rotate_left))
  exact N.ret (rs := [.tmp 4]) rfl (.tmp rfl .nil) ⟨rfl, rfl⟩
theorem same_ok (l m : List (List UInt8)) (hb : l.length ≤ 1048576) : FnC Tryz.prog 90 [ssl l, ssl m] [] (fun v L => v = bool (decide (l = m)) ∧ L = []) := by
  by_cases hl : l.length = m.length
  · refine FnC.intro Tryz.func90 rfl Tryz.ntmps90 rfl fun Z w0 hG => ?_
    focus (
 (refine W.seq (W.region (Jx.assign rfl rfl (J.nil (N.seq (W.seq (W.region (Jx.move rfl rfl (Jx.lenSl rfl rfl ?_)))))))))
 (refine Jx.move rfl rfl (Jx.lenSl rfl rfl ?_))
 (refine Jx.eqlI rfl rfl rfl (Jx.assign rfl rfl (J.nil (N.seq (W.seq (W.seq (W.region (Jx.assign rfl rfl (J.nil (N.seq (W.block ?_)))))))))))
 (refine id ?_; rotate_left))
    refine W.loop (α := Nat × Bool) (fun x => [(6, int (x.1 : Int)), (5, bool x.2), (0, ssl l), (1, ssl m)]) (fun _ => []) (fun x => x.1 ≤ l.length ∧ (x.2 = true → l.take x.1 = m.take x.1) ∧ (x.2 = false → l ≠ m)) (fun x => l.length - x.1) (0, true) ⟨by omega, by simp, by simp⟩ rfl ⟨ref0 rfl, ⟨_, rfl, Sub.of_eq (by simp [hl])⟩, ref0 rfl, ref0 rfl, trivial⟩ ?_
    rintro ⟨i, q⟩ ⟨hi, h1, h2⟩
    simp only at hi h1 h2
    cases q with
    | false =>
      focus (
 (refine W.seq (W.seq (W.region (Jx.move rfl rfl (Jx.move rfl rfl (J.gN rfl rfl rfl rfl ?_))))))
 (refine J.gN rfl rfl rfl rfl ?_)
 (refine J.gN rfl rfl rfl rfl ?_)
 (refine J.gN rfl rfl rfl rfl ?_)
 (refine Jx.pF rfl rfl rfl ?_)
 (refine J.nil (N.seq (W.cF rfl ?_)))
 (refine W.exit (N.seq (W.seq (W.region (Jx.move rfl rfl (Jx.assign rfl rfl (J.nil (N.seq (W.ret ?_)))))))))
 (refine id ?_; rotate_left))
      exact N.ret (rs := [.tmp 4]) rfl (.tmp rfl .nil) ⟨by rw [decide_eq_false (h2 rfl)]; rfl, rfl⟩
    | true =>
      by_cases h3 : i < l.length
      · have h4 : i < m.length := by omega
        have e1 : l.take (i + 1) = l.take i ++ [l.getD i []] := by rw [List.take_add_one, List.getElem?_eq_getElem h3, List.getD_eq_getElem?_getD, List.getElem?_eq_getElem h3]; rfl
        have e2 : m.take (i + 1) = m.take i ++ [m.getD i []] := by rw [List.take_add_one, List.getElem?_eq_getElem h4, List.getD_eq_getElem?_getD, List.getElem?_eq_getElem h4]; rfl
        by_cases h5 : l.getD i [] = m.getD i []
        · focus (
 (refine W.seq (W.seq (W.region (Jx.move rfl rfl (Jx.move rfl rfl (J.gY rfl rfl rfl ?_))))))
 (refine Jx.move rfl rfl (J.gY rfl rfl rfl ?_))
 (refine Jx.move rfl rfl (J.gY rfl rfl rfl ?_))
 (refine Jx.lenSl rfl rfl ?_)
 (refine J.gY rfl rfl rfl ?_)
 (refine Jx.lssI rfl rfl rfl (Jx.pT rfl rfl rfl ?_))
 (refine J.nil (N.seq (W.cT rfl ?_)))
 (refine W.skip (N.seq (W.seq (W.block ?_))))
 (refine W.draw follows ?_)
 (refine JD.calm rfl (by decide +kernel) ?_)
 (refine Cx.move rfl rfl ?_)
 (refine Cx.move rfl rfl ?_)
 (refine Cx.indexEl rfl rfl (by assumption) rfl rfl ?_)
 (refine Cx.loadPP rfl rfl ?_)
 (refine Cx.move rfl rfl ?_)
 (refine Cx.move rfl rfl ?_)
 (refine Cx.indexEl rfl rfl (by assumption) rfl rfl ?_)
 (refine Cx.loadPP rfl rfl ?_)
 (refine Cx.eqlS rfl rfl rfl ?_)
 (refine Cx.assign rfl rfl ?_)
 (refine SegC.nil ?_)
 (refine N.seq (W.region (Jx.move rfl rfl (Jx.add64 rfl rfl (by omega) rfl ?_))))
 (refine Jx.assign rfl rfl (J.nil ?_))
 (refine id ?_; rotate_left))
          exact N.round (i + 1, true) ⟨h3, fun _ => by rw [e1, e2, h1 rfl, h5], by simp⟩ (by simp only; omega) rfl ⟨ref0 rfl, ⟨_, rfl, Sub.of_eq (by simp; simpa [List.getD_eq_getElem?_getD] using h5)⟩, ref0 rfl, ref0 rfl, trivial⟩
        · focus (
 (refine W.seq (W.seq (W.region (Jx.move rfl rfl (Jx.move rfl rfl (J.gY rfl rfl rfl ?_))))))
 (refine Jx.move rfl rfl (J.gY rfl rfl rfl ?_))
 (refine Jx.move rfl rfl (J.gY rfl rfl rfl ?_))
 (refine Jx.lenSl rfl rfl ?_)
 (refine J.gY rfl rfl rfl ?_)
 (refine Jx.lssI rfl rfl rfl (Jx.pT rfl rfl rfl ?_))
 (refine J.nil (N.seq (W.cT rfl ?_)))
 (refine W.skip (N.seq (W.seq (W.block ?_))))
 (refine W.draw follows ?_)
 (refine JD.calm rfl (by decide +kernel) ?_)
 (refine Cx.move rfl rfl ?_)
 (refine Cx.move rfl rfl ?_)
 (refine Cx.indexEl rfl rfl (by assumption) rfl rfl ?_)
 (refine Cx.loadPP rfl rfl ?_)
 (refine Cx.move rfl rfl ?_)
 (refine Cx.move rfl rfl ?_)
 (refine Cx.indexEl rfl rfl (by assumption) rfl rfl ?_)
 (refine Cx.loadPP rfl rfl ?_)
 (refine Cx.eqlS rfl rfl rfl ?_)
 (refine Cx.assign rfl rfl ?_)
 (refine SegC.nil ?_)
 (refine N.seq (W.region (Jx.move rfl rfl (Jx.add64 rfl rfl (by omega) rfl ?_))))
 (refine Jx.assign rfl rfl (J.nil ?_))
 (refine id ?_; rotate_left))
          exact N.round (i + 1, false) ⟨h3, by simp, fun _ e => h5 (by rw [e])⟩ (by simp only; omega) rfl ⟨ref0 rfl, ⟨_, rfl, Sub.of_eq (by simp; simpa [List.getD_eq_getElem?_getD] using h5)⟩, ref0 rfl, ref0 rfl, trivial⟩
      · have e := h1 rfl
        rw [List.take_of_length_le (by omega), List.take_of_length_le (by omega)] at e
        focus (
 (refine W.seq (W.seq (W.region (Jx.move rfl rfl (Jx.move rfl rfl (J.gY rfl rfl rfl ?_))))))
 (refine Jx.move rfl rfl (J.gY rfl rfl rfl ?_))
 (refine Jx.move rfl rfl (J.gY rfl rfl rfl ?_))
 (refine Jx.lenSl rfl rfl ?_)
 (refine J.gY rfl rfl rfl ?_)
 (refine Jx.lssI rfl rfl rfl (Jx.pT rfl rfl rfl ?_))
 (refine J.nil (N.seq (W.cF rfl ?_)))
 (refine W.exit (N.seq (W.seq (W.region (Jx.move rfl rfl (Jx.assign rfl rfl (J.nil (N.seq (W.ret ?_)))))))))
 (refine id ?_; rotate_left))
        exact N.ret (rs := [.tmp 4]) rfl (.tmp rfl .nil) ⟨by rw [decide_eq_true e]; rfl, rfl⟩
  · have hne : l ≠ m := fun e => hl (by rw [e])
    refine FnC.intro Tryz.func90 rfl Tryz.ntmps90 rfl fun Z w0 hG => ?_
    focus (
 (refine W.seq (W.region (Jx.assign rfl rfl (J.nil (N.seq (W.seq (W.region (Jx.move rfl rfl (Jx.lenSl rfl rfl ?_)))))))))
 (refine Jx.move rfl rfl (Jx.lenSl rfl rfl ?_))
 (refine Jx.eqlI rfl rfl rfl (Jx.assign rfl rfl (J.nil (N.seq (W.seq (W.seq (W.region (Jx.assign rfl rfl (J.nil (N.seq (W.block ?_)))))))))))
 (refine id ?_; rotate_left))
    refine W.loop (α := Unit) (fun x => [(5, bool false)]) (fun _ => []) (fun x => True) (fun x => 0) () trivial rfl ⟨⟨_, rfl, Sub.of_eq (by simp; omega)⟩, trivial⟩ ?_
    rintro _ _
    focus (
 (refine W.seq (W.seq (W.region (Jx.move rfl rfl (Jx.move rfl rfl (J.gN rfl rfl rfl rfl ?_))))))
 (refine J.gN rfl rfl rfl rfl ?_)
 (refine J.gN rfl rfl rfl rfl ?_)
 (refine J.gN rfl rfl rfl rfl ?_)
 (refine Jx.pF rfl rfl rfl ?_)
 (refine J.nil (N.seq (W.cF rfl ?_)))
 (refine W.exit (N.seq (W.seq (W.region (Jx.move rfl rfl (Jx.assign rfl rfl (J.nil (N.seq (W.ret ?_)))))))))
 (refine id ?_; rotate_left))
    exact N.ret (rs := [.tmp 4]) rfl (.tmp rfl .nil) ⟨by rw [decide_eq_false hne]; rfl, rfl⟩
end Go.Proofs.YtlfdhkahiaammaaGreatDoor
namespace Go.Proofs.YtlfdhkahiaammaaGreatDoor
open Go Go.Sse
set_option linter.unusedVariables false
set_option linter.unusedSimpArgs false
set_option maxRecDepth 10000
end Go.Proofs.YtlfdhkahiaammaaGreatDoor
namespace Go.Proofs.YtlfdhkahiaammaaGreatDoor
open Go Go.Sse
set_option linter.unusedVariables false
set_option linter.unusedSimpArgs false
set_option maxRecDepth 10000
abbrev PSt := Option (List UInt8)
def numP : PSt → Nat × PSt
  | none => (0, none)
  | some l => if (readN l).2.2 = 0 then ((readN l).1, some (l.drop (readN l).2.1)) else (0, none)
def bytesP (n : Nat) : PSt → List UInt8 × PSt
  | none => ([], none)
  | some l => if n ≤ l.length then (l.take n, some (l.drop n)) else ([], none)
def textP (m : Int) (st : PSt) : List UInt8 × PSt :=
  match numP st with
  | (n, some r) => if (n : Int) ≤ m then bytesP n (some r) else ([], none)
  | (_, none) => ([], none)
def textsP (e : Int) : Nat → PSt → List (List UInt8) × PSt
  | 0, st => ([], st)
  | n + 1, st => match textP e st with
    | (t, some r) => (match textsP e n (some r) with
      | (ts, some q) => (t :: ts, some q)
      | (_, none) => ([], none))
    | (_, none) => ([], none)
def listP (m e : Int) (st : PSt) : List (List UInt8) × PSt :=
  match numP st with
  | (n, some r) => if (n : Int) ≤ m then textsP e n (some r) else ([], none)
  | (_, none) => ([], none)
def flagP : PSt → Bool × PSt
  | some (b :: l) => if 1 < b.toNat then (false, none) else (decide (b.toNat = 1), some l)
  | _ => (false, none)
theorem numP_good {st : PSt} {n : Nat} {r : List UInt8} (h : numP st = (n, some r)) : st = some (numB n ++ r) ∧ n < 9223372036854775808 := by
  cases st with
  | none => simp [numP] at h
  | some l =>
    simp only [numP] at h
    by_cases he : (readN l).2.2 = 0
    · rw [if_pos he] at h
      obtain ⟨g1, g2, g3⟩ := readN_good he
      simp only [Prod.mk.injEq, Option.some.injEq] at h
      obtain ⟨rfl, rfl⟩ := h
      exact ⟨by rw [← g1, List.take_append_drop], g3⟩
    · rw [if_neg he] at h; simp at h
theorem numP_back (n : Nat) (hn : n < 9223372036854775808) (r : List UInt8) : numP (some (numB n ++ r)) = (n, some r) := by
  simp only [numP, readN_num n hn r, if_pos, List.drop_append_of_le_length (Nat.le_refl _), List.drop_length, List.nil_append]
theorem bytesP_good {st : PSt} {n : Nat} {t r : List UInt8} (h : bytesP n st = (t, some r)) : st = some (t ++ r) ∧ t.length = n := by
  cases st with
  | none => simp [bytesP] at h
  | some l =>
    simp only [bytesP] at h
    by_cases he : n ≤ l.length
    · rw [if_pos he] at h
      simp only [Prod.mk.injEq, Option.some.injEq] at h
      obtain ⟨rfl, rfl⟩ := h
      exact ⟨by rw [List.take_append_drop], by rw [List.length_take]; omega⟩
    · rw [if_neg he] at h; simp at h
theorem bytesP_back (t r : List UInt8) : bytesP t.length (some (t ++ r)) = (t, some r) := by
  simp [bytesP]
theorem bytesP_back' {n : Nat} (t r : List UInt8) (h : t.length = n) : bytesP n (some (t ++ r)) = (t, some r) := by subst h; exact bytesP_back t r
theorem textP_good {m : Int} {st : PSt} {t r : List UInt8} (h : textP m st = (t, some r)) : st = some (textB t ++ r) ∧ (t.length : Int) ≤ m ∧ t.length < 9223372036854775808 := by
  unfold textP at h
  split at h
  · rename_i n q hq
    obtain ⟨g1, g2⟩ := numP_good hq
    split at h
    · rename_i hm
      obtain ⟨g3, g4⟩ := bytesP_good h
      subst g4
      simp only [Option.some.injEq] at g3
      subst g3
      exact ⟨by rw [g1, textB, List.append_assoc], hm, g2⟩
    · simp at h
  · simp at h
theorem textP_back {m : Int} (t r : List UInt8) (h : (t.length : Int) ≤ m) (h2 : t.length < 9223372036854775808) : textP m (some (textB t ++ r)) = (t, some r) := by
  unfold textP
  rw [textB, List.append_assoc, numP_back _ h2]
  simp only [h, if_true]
  exact bytesP_back t r
theorem textsP_good {e : Int} : ∀ {n : Nat} {st : PSt} {l : List (List UInt8)} {r : List UInt8}, textsP e n st = (l, some r) → st = some ((l.map textB).flatten ++ r) ∧ l.length = n ∧ (∀ t ∈ l, (t.length : Int) ≤ e ∧ t.length < 9223372036854775808)
  | 0, st, l, r, h => by
    simp only [textsP, Prod.mk.injEq] at h
    obtain ⟨rfl, rfl⟩ := h
    exact ⟨rfl, rfl, by simp⟩
  | n + 1, st, l, r, h => by
    simp only [textsP] at h
    split at h
    · rename_i t q hq
      split at h
      · rename_i ts q2 hq2
        simp only [Prod.mk.injEq, Option.some.injEq] at h
        obtain ⟨rfl, rfl⟩ := h
        obtain ⟨g1, g2, g3⟩ := textP_good hq
        obtain ⟨g4, g5, g6⟩ := textsP_good hq2
        simp only [Option.some.injEq] at g4
        subst g4
        refine ⟨by rw [g1]; simp only [List.map_cons, List.flatten_cons, List.append_assoc], by simp [g5], ?_⟩
        intro u hu
        rcases List.mem_cons.1 hu with rfl | hu
        · exact ⟨g2, g3⟩
        · exact g6 u hu
      · simp at h
    · simp at h
theorem textsP_back {e : Int} : ∀ (l : List (List UInt8)) (r : List UInt8), (∀ t ∈ l, (t.length : Int) ≤ e ∧ t.length < 9223372036854775808) → textsP e l.length (some ((l.map textB).flatten ++ r)) = (l, some r)
  | [], r, _ => rfl
  | t :: l, r, h => by
    simp only [List.map_cons, List.flatten_cons, List.append_assoc, List.length_cons, textsP]
    have h0 := h t (List.mem_cons_self ..)
    rw [textP_back t _ h0.1 h0.2]
    simp only
    rw [textsP_back l r fun u hu => h u (List.mem_cons_of_mem _ hu)]
theorem textsP_short {e : Int} : ∀ {n : Nat} {st : PSt} {l : List (List UInt8)}, textsP e n st = (l, none) → l = []
  | 0, st, l, h => by simp only [textsP, Prod.mk.injEq] at h; exact h.1.symm
  | n + 1, st, l, h => by
    simp only [textsP] at h
    split at h
    · split at h
      · simp at h
      · simp only [Prod.mk.injEq] at h; exact h.1.symm
    · simp only [Prod.mk.injEq] at h; exact h.1.symm
theorem listP_good {m e : Int} {st : PSt} {l : List (List UInt8)} {r : List UInt8} (h : listP m e st = (l, some r)) : st = some (listB l ++ r) ∧ (l.length : Int) ≤ m ∧ l.length < 9223372036854775808 ∧ (∀ t ∈ l, (t.length : Int) ≤ e ∧ t.length < 9223372036854775808) := by
  unfold listP at h
  split at h
  · rename_i n q hq
    obtain ⟨g1, g2⟩ := numP_good hq
    split at h
    · rename_i hm
      obtain ⟨g3, g4, g5⟩ := textsP_good h
      subst g4
      simp only [Option.some.injEq] at g3
      subst g3
      exact ⟨by rw [g1, listB, List.append_assoc], hm, g2, g5⟩
    · simp at h
  · simp at h
theorem listP_back {m e : Int} (l : List (List UInt8)) (r : List UInt8) (hm : (l.length : Int) ≤ m) (h2 : l.length < 9223372036854775808) (h : ∀ t ∈ l, (t.length : Int) ≤ e ∧ t.length < 9223372036854775808) : listP m e (some (listB l ++ r)) = (l, some r) := by
  unfold listP
  rw [listB, List.append_assoc, numP_back _ h2]
  simp only [hm, if_true]
  exact textsP_back l r h
theorem flagP_good {st : PSt} {f : Bool} {r : List UInt8} (h : flagP st = (f, some r)) : st = some (flagB f ++ r) := by
  match st, h with
  | none, h => simp [flagP] at h
  | some [], h => simp [flagP] at h
  | some (b :: l), h =>
    simp only [flagP] at h
    split at h
    · simp at h
    · rename_i hb
      simp only [Prod.mk.injEq, Option.some.injEq] at h
      obtain ⟨rfl, rfl⟩ := h
      by_cases h1 : b.toNat = 1
      · have : b = 1 := UInt8.toNat_inj.1 (by rw [h1]; rfl)
        subst this; rfl
      · have : b = 0 := UInt8.toNat_inj.1 (by show b.toNat = 0; omega)
        subst this; rfl
theorem flagP_back (f : Bool) (r : List UInt8) : flagP (some (flagB f ++ r)) = (f, some r) := by cases f <;> rfl
theorem bytesP_short {n : Nat} {st : PSt} {t : List UInt8} (h : bytesP n st = (t, none)) : t = [] := by
  cases st with
  | none => simp only [bytesP, Prod.mk.injEq] at h; exact h.1.symm
  | some l => simp only [bytesP] at h; split at h <;> simp at h; exact h
theorem textP_short {m : Int} {st : PSt} {t : List UInt8} (h : textP m st = (t, none)) : t = [] := by
  unfold textP at h
  split at h
  · split at h
    · exact bytesP_short h
    · simp only [Prod.mk.injEq] at h; exact h.1.symm
  · simp only [Prod.mk.injEq] at h; exact h.1.symm
theorem listP_short {m e : Int} {st : PSt} {l : List (List UInt8)} (h : listP m e st = (l, none)) : l = [] := by
  unfold listP at h
  split at h
  · split at h
    · exact textsP_short h
    · simp only [Prod.mk.injEq] at h; exact h.1.symm
  · simp only [Prod.mk.injEq] at h; exact h.1.symm
end Go.Proofs.YtlfdhkahiaammaaGreatDoor
namespace Go.Proofs.YtlfdhkahiaammaaGreatDoor
open Go Go.Sse
set_option linter.unusedVariables false
set_option linter.unusedSimpArgs false
set_option maxRecDepth 10000
def lf (s : List UInt8) (a : Nat) (c : Int) : PSt := if c = 0 then some (s.drop a) else none
theorem lf_no {s : List UInt8} {a : Nat} {c : Int} (h : c ≠ 0) : lf s a c = none := if_neg h
theorem rd_number (b : Nat) (s : List UInt8) (a : Nat) (c : Int) (h1 : a ≤ s.length) (h2 : s.length ≤ 1099511627776) :
    FnC Tryz.prog 103 [ptr b] [rdO b ⟨s, a, c⟩] (fun v L => ∃ (n : Nat) (e : Int) (a' : Nat), v = .tup [int (n : Int), int e] ∧ L = [rdO b ⟨s, a', c⟩] ∧ n < 9223372036854775808 ∧
      (e = 0 → c = 0 ∧ a' ≤ s.length ∧ numP (lf s a c) = (n, some (s.drop a'))) ∧ (e ≠ 0 → numP (lf s a c) = (0, none)) ∧ (c ≠ 0 → a' ≤ s.length)) := by
  by_cases hc : c = 0
  · subst hc
    by_cases he : (readN (s.drop a)).2.2 = 0
    · refine (number_good b ⟨s, a, 0⟩ ⟨h1, h2⟩ rfl he).mono ?_
      rintro v L ⟨⟨s', a', c'⟩, ⟨rfl, hs', hc', ha'⟩, rfl⟩
      simp only at hs' hc' ha'
      obtain ⟨g1, g2, g3⟩ := readN_good he
      have hx := ha' he
      subst hs' hc' hx
      rw [List.length_drop] at g2
      refine ⟨_, _, _, rfl, rfl, g3, fun _ => ⟨rfl, by omega, ?_⟩, fun h => absurd he h, fun h => absurd rfl h⟩
      simp only [numP, lf, if_true, if_pos he, List.drop_drop]
    · refine (number_bad b ⟨s, a, 0⟩ ⟨h1, h2⟩ rfl he).mono ?_
      rintro v L ⟨⟨s', a', c'⟩, ⟨rfl, hs', hc', ha'⟩, rfl⟩
      simp only at hs' hc' ha'
      subst hs' hc'
      have hn : (readN (s'.drop a)).1 = 0 := by
        have : ∀ l, (readN l).2.2 ≠ 0 → (readN l).1 = 0 := fun l hl => by
          cases l with
          | nil => rfl
          | cons x t =>
            simp only [readN] at hl ⊢
            split
            · rfl
            · split
              · rfl
              · split
                · rfl
                · rename_i q1 q2 q3; rw [if_neg q1, if_neg q2, if_neg q3] at hl; exact absurd rfl hl
        exact this _ he
      refine ⟨_, _, _, rfl, rfl, by simp only [hn]; omega, fun h => absurd h he, fun _ => ?_, fun h => absurd rfl h⟩
      simp only [numP, lf, if_true, if_neg he]
  · refine (number_code b ⟨s, a, c⟩ hc).mono ?_
    rintro v L ⟨rfl, rfl⟩
    exact ⟨0, c, a, rfl, rfl, by omega, fun h => absurd h hc, fun _ => by rw [lf_no hc]; rfl, fun _ => h1⟩
theorem rd_refuse (b : Nat) (s : List UInt8) (a : Nat) (c : Int) (n : Nat) (e : Int) (h1 : n ≤ s.length) (he : e ≠ 0) (ha : c ≠ 0 → a ≤ s.length) :
    FnC Tryz.prog 84 [ptr b, int (n : Int), int e] [rdO b ⟨s, a, c⟩] (fun v L => ∃ (a' : Nat) (c' : Int), L = [rdO b ⟨s, a', c'⟩] ∧ a' ≤ s.length ∧ c' ≠ 0) := by
  refine (refused_ok b ⟨s, a, c⟩ n e).mono ?_
  rintro v L rfl
  by_cases hc : c = 0
  · subst hc
    exact ⟨n, e, rfl, h1, he⟩
  · exact ⟨a, c, by simp only [Rdr.refuse, if_neg hc], ha hc, hc⟩
theorem rd_Num (b : Nat) (s : List UInt8) (a : Nat) (c : Int) (h1 : a ≤ s.length) (h2 : s.length ≤ 1099511627776) :
    FnC Tryz.prog 61 [ptr b] [rdO b ⟨s, a, c⟩] (fun v L => ∃ (n a' : Nat) (c' : Int), v = int (n : Int) ∧ L = [rdO b ⟨s, a', c'⟩] ∧ a' ≤ s.length ∧ n < 9223372036854775808 ∧ numP (lf s a c) = (n, lf s a' c')) := by
  refine (rnum_ok b ⟨s, a, c⟩ ⟨h1, h2⟩).mono ?_
  rintro v L ⟨rfl, rfl⟩
  by_cases hc : c = 0
  · subst hc
    by_cases he : (readN (s.drop a)).2.2 = 0
    · obtain ⟨g1, g2, g3⟩ := readN_good he
      rw [List.length_drop] at g2
      refine ⟨(readN (s.drop a)).1, a + (readN (s.drop a)).2.1, 0, by simp [Rdr.num, he], by simp [Rdr.num, he], by omega, g3, ?_⟩
      simp only [numP, lf, if_true, if_pos he, List.drop_drop]
    · refine ⟨0, a, (readN (s.drop a)).2.2, by simp [Rdr.num, he], by simp [Rdr.num, he], h1, by omega, ?_⟩
      rw [lf_no he]
      simp only [numP, lf, if_true, if_neg he]
  · exact ⟨0, a, c, by simp [Rdr.num, hc], by simp [Rdr.num, hc], h1, by omega, by rw [lf_no hc]; rfl⟩
theorem rd_Bytes (b : Nat) (s : List UInt8) (a : Nat) (c : Int) (n : Nat) (h1 : a ≤ s.length) (h2 : s.length ≤ 1099511627776) :
    FnC Tryz.prog 60 [ptr b, int (n : Int)] [rdO b ⟨s, a, c⟩] (fun v L => ∃ (t : List UInt8) (a' : Nat) (c' : Int), v = str t ∧ L = [rdO b ⟨s, a', c'⟩] ∧ a' ≤ s.length ∧ bytesP n (lf s a c) = (t, lf s a' c')) := by
  by_cases hc : c = 0
  · subst hc
    by_cases hn : a + n ≤ s.length
    · refine (bytes_back b s a n ⟨h1, h2⟩ hn).mono ?_
      rintro v L ⟨rfl, rfl⟩
      exact ⟨_, _, _, rfl, rfl, hn, by simp only [bytesP, lf, if_true, List.length_drop, List.drop_drop]; rw [if_pos (by omega)]⟩
    · have c1 := take_no b ⟨s, a, 0⟩ n ⟨h1, h2⟩ (by simp only; omega)
      have c2 := rd_refuse b s a 0 a 20 h1 (by decide) (by intro h; exact absurd rfl h)
      refine FnC.intro Tryz.func60 rfl Tryz.ntmps60 rfl fun Z w0 hG => ?_
      focus (
 (refine W.seq (W.region (Jx.assign rfl rfl (J.nil (N.seq (W.seq (W.seq (W.region (Jx.move rfl rfl (Jx.nilCheck rfl rfl ?_))))))))))
 (refine Jx.fieldAddr rfl rfl ?_)
 (refine Jx.load rfl 0 rfl rfl rfl ?_)
 (refine Jx.neqI rfl rfl rfl (J.nil (N.seq (W.cF rfl ?_))))
 (refine W.skip (N.seq (W.seq (W.seq (W.region (Jx.move rfl rfl (Jx.lssI rfl rfl rfl (J.nil (N.seq (W.cF rfl ?_))))))))))
 (refine W.skip (N.seq (W.seq (W.region (Jx.move rfl rfl (Jx.move rfl rfl ?_))))))
 (refine J.call (c1) rfl (evs_args rfl) rfl ?_; rintro _ _ ⟨rfl, rfl⟩; simp only [la1, la2, la3])
 (refine Jx.move rfl rfl (Jx.extract rfl rfl rfl ?_))
 (refine Jx.extract rfl rfl rfl ?_)
 (refine Jx.assign rfl rfl (Jx.assign rfl rfl (J.nil (N.seq (W.seq (W.seq (W.region (Jx.move rfl rfl (Jx.not rfl rfl (J.nil (N.seq (W.cT rfl ?_))))))))))))
 (refine W.region (Jx.move rfl rfl (Jx.move rfl rfl (Jx.nilCheck rfl rfl ?_))))
 (refine Jx.fieldAddr rfl rfl ?_)
 (refine Jx.load rfl 0 rfl rfl rfl ?_)
 (refine J.call (c2) rfl (evs_args rfl) rfl ?_; rintro _ _ ⟨a', c', rfl, ha', hc'⟩; simp only [la1, la2, la3])
 (refine J.nil (N.seq (W.seq (W.region (Jx.move rfl rfl (Jx.assign rfl rfl (J.nil (N.seq (W.ret ?_)))))))))
 (refine id ?_; rotate_left))
      exact N.ret (rs := [.tmp 4]) rfl (.tmp rfl .nil) ⟨[], a', c', rfl, rfl, ha', by rw [lf_no hc']; simp only [bytesP, lf, if_true, List.length_drop]; rw [if_neg (by omega)]⟩
  · refine FnC.intro Tryz.func60 rfl Tryz.ntmps60 rfl fun Z w0 hG => ?_
    focus (
 (refine W.seq (W.region (Jx.assign rfl rfl (J.nil (N.seq (W.seq (W.seq (W.region (Jx.move rfl rfl (Jx.nilCheck rfl rfl ?_))))))))))
 (refine Jx.fieldAddr rfl rfl ?_)
 (refine Jx.load rfl 0 rfl rfl rfl ?_)
 (refine Jx.neqI rfl rfl rfl (J.nil (N.seq (W.cT rfl ?_))))
 (refine W.seq (W.region (Jx.assign rfl rfl (J.nil (N.seq (W.ret (N.seqRet ?_)))))))
 (refine id ?_; rotate_left))
    exact N.ret (rs := [.tmp 4]) rfl (.tmp rfl .nil) ⟨[], a, c, rfl, rfl, h1, by rw [lf_no hc]; rfl⟩
theorem rd_text (b : Nat) (s : List UInt8) (a : Nat) (c : Int) (m : Int) (h1 : a ≤ s.length) (h2 : s.length ≤ 1099511627776) :
    FnC Tryz.prog 83 [ptr b, int m] [rdO b ⟨s, a, c⟩] (fun v L => ∃ (t : List UInt8) (e : Int) (a' : Nat), v = .tup [str t, int e] ∧ L = [rdO b ⟨s, a', c⟩] ∧
      (e = 0 → c = 0 ∧ a' ≤ s.length ∧ textP m (lf s a c) = (t, some (s.drop a'))) ∧ (e ≠ 0 → textP m (lf s a c) = ([], none))) := by
  have c1 := rd_number b s a c h1 h2
  refine FnC.intro Tryz.func83 rfl Tryz.ntmps83 rfl fun Z w0 hG => ?_
  focus (
 (refine W.seq (W.region (Jx.assign rfl rfl (Jx.assign rfl rfl (J.nil (N.seq (W.seq (W.region (Jx.move rfl rfl ?_)))))))))
 (refine J.call (c1) rfl (evs_args rfl) rfl ?_; rintro _ _ ⟨n, e, a', rfl, rfl, hn, hy, hz, hw⟩; simp only [la1, la2, la3])
 (refine Jx.move rfl rfl (Jx.extract rfl rfl rfl ?_))
 (refine Jx.extract rfl rfl rfl ?_)
 (refine Jx.assign rfl rfl (Jx.assign rfl rfl (J.nil (N.seq (W.seq (W.seq (W.region (Jx.move rfl rfl (Jx.neqI rfl rfl rfl (J.nil (N.seq ?_)))))))))))
 (refine id ?_; rotate_left))
  by_cases he : e = 0
  · obtain ⟨rfl, h3, h4⟩ := hy he
    by_cases hm : m < (n : Int)
    · focus (
 (refine W.cF rfl ?_)
 (refine W.skip (N.seq (W.seq (W.seq (W.region (Jx.move rfl rfl (Jx.move rfl rfl (Jx.gtrI rfl rfl rfl (J.nil (N.seq (W.cT rfl ?_)))))))))))
 (refine W.seq (W.region (Jx.assign rfl rfl (Jx.assign rfl rfl (J.nil (N.seq (W.ret (N.seqRet ?_))))))))
 (refine id ?_; rotate_left))
      refine N.ret (rs := [.tmp 4, .tmp 5]) rfl (.tmp rfl (.tmp rfl .nil)) ⟨[], 2, a', rfl, rfl, by intro h; exact absurd h (by decide), fun _ => ?_⟩
      simp only [textP, h4]
      rw [if_neg (by omega)]
    · by_cases hl : a' + n ≤ s.length
      · have c2 := take_yes b ⟨s, a', 0⟩ n ⟨h3, h2⟩ hl
        simp only at c2
        generalize ht : (s.drop a').take n = t at *
        focus (
 (refine W.cF rfl ?_)
 (refine W.skip (N.seq (W.seq (W.seq (W.region (Jx.move rfl rfl (Jx.move rfl rfl (Jx.gtrI rfl rfl rfl (J.nil (N.seq (W.cF rfl ?_)))))))))))
 (refine W.skip (N.seq (W.seq (W.region (Jx.move rfl rfl (Jx.move rfl rfl ?_))))))
 (refine J.call (c2) rfl (evs_args rfl) rfl ?_; rintro _ _ ⟨rfl, rfl⟩; simp only [la1, la2, la3])
 (refine Jx.move rfl rfl (Jx.extract rfl rfl rfl ?_))
 (refine Jx.extract rfl rfl rfl ?_)
 (refine Jx.assign rfl rfl (Jx.assign rfl rfl (J.nil (N.seq (W.seq (W.seq (W.region (Jx.move rfl rfl (Jx.not rfl rfl (J.nil (N.seq (W.cF rfl ?_))))))))))))
 (refine W.skip (N.seq (W.seq (W.region (Jx.move rfl rfl (Jx.assign rfl rfl (Jx.assign rfl rfl (J.nil (N.seq (W.ret ?_))))))))))
 (refine id ?_; rotate_left))
        refine N.ret (rs := [.tmp 4, .tmp 5]) rfl (.tmp rfl (.tmp rfl .nil)) ⟨t, 0, a' + n, rfl, rfl, fun _ => ⟨by trivial, hl, ?_⟩, by intro h; exact absurd rfl h⟩
        simp only [textP, h4]
        rw [if_pos (by omega)]
        simp only [bytesP, List.length_drop, List.drop_drop, ht]
        rw [if_pos (by omega)]
      · have c2 := take_no b ⟨s, a', 0⟩ n ⟨h3, h2⟩ (by simp only; omega)
        focus (
 (refine W.cF rfl ?_)
 (refine W.skip (N.seq (W.seq (W.seq (W.region (Jx.move rfl rfl (Jx.move rfl rfl (Jx.gtrI rfl rfl rfl (J.nil (N.seq (W.cF rfl ?_)))))))))))
 (refine W.skip (N.seq (W.seq (W.region (Jx.move rfl rfl (Jx.move rfl rfl ?_))))))
 (refine J.call (c2) rfl (evs_args rfl) rfl ?_; rintro _ _ ⟨rfl, rfl⟩; simp only [la1, la2, la3])
 (refine Jx.move rfl rfl (Jx.extract rfl rfl rfl ?_))
 (refine Jx.extract rfl rfl rfl ?_)
 (refine Jx.assign rfl rfl (Jx.assign rfl rfl (J.nil (N.seq (W.seq (W.seq (W.region (Jx.move rfl rfl (Jx.not rfl rfl (J.nil (N.seq (W.cT rfl ?_))))))))))))
 (refine W.seq (W.region (Jx.assign rfl rfl (Jx.assign rfl rfl (J.nil (N.seq (W.ret (N.seqRet ?_))))))))
 (refine id ?_; rotate_left))
        refine N.ret (rs := [.tmp 4, .tmp 5]) rfl (.tmp rfl (.tmp rfl .nil)) ⟨[], 20, a', rfl, rfl, by intro h; exact absurd h (by decide), fun _ => ?_⟩
        simp only [textP, h4]
        rw [if_pos (by omega)]
        simp only [bytesP, List.length_drop]
        rw [if_neg (by omega)]
  · have h4 := hz he
    focus (
 (refine W.cT rfl ?_)
 (refine W.seq (W.region (Jx.move rfl rfl (Jx.assign rfl rfl (Jx.assign rfl rfl (J.nil (N.seq (W.ret (N.seqRet ?_)))))))))
 (refine id ?_; rotate_left))
    refine N.ret (rs := [.tmp 4, .tmp 5]) rfl (.tmp rfl (.tmp rfl .nil)) ⟨[], e, a', rfl, rfl, fun h => absurd h he, fun _ => ?_⟩
    simp only [textP, h4]
theorem rd_Text (b : Nat) (s : List UInt8) (a : Nat) (c : Int) (m : Int) (h1 : a ≤ s.length) (h2 : s.length ≤ 1099511627776) :
    FnC Tryz.prog 40 [ptr b, int m] [rdO b ⟨s, a, c⟩] (fun v L => ∃ (t : List UInt8) (a' : Nat) (c' : Int), v = str t ∧ L = [rdO b ⟨s, a', c'⟩] ∧ a' ≤ s.length ∧ textP m (lf s a c) = (t, lf s a' c')) := by
  by_cases hc : c = 0
  · subst hc
    have c1 := rd_text b s a 0 m h1 h2
    refine FnC.intro Tryz.func40 rfl Tryz.ntmps40 rfl fun Z w0 hG => ?_
    focus (
 (refine W.seq (W.region (Jx.assign rfl rfl (J.nil (N.seq (W.seq (W.region (Jx.move rfl rfl (Jx.nilCheck rfl rfl ?_)))))))))
 (refine Jx.fieldAddr rfl rfl ?_)
 (refine Jx.load rfl 0 rfl rfl rfl ?_)
 (refine Jx.assign rfl rfl (J.nil (N.seq (W.seq (W.region (Jx.move rfl rfl (Jx.move rfl rfl ?_)))))))
 (refine J.call (c1) rfl (evs_args rfl) rfl ?_; rintro _ _ ⟨t, e, a', rfl, rfl, hy, hz⟩; simp only [la1, la2, la3])
 (refine Jx.move rfl rfl (Jx.extract rfl rfl rfl ?_))
 (refine Jx.extract rfl rfl rfl ?_)
 (refine Jx.assign rfl rfl (Jx.assign rfl rfl (J.nil (N.seq (W.seq (W.seq (W.region (Jx.move rfl rfl (Jx.neqI rfl rfl rfl (J.nil (N.seq ?_)))))))))))
 (refine id ?_; rotate_left))
    by_cases he : e = 0
    · obtain ⟨_, h3, h4⟩ := hy he
      focus (
 (refine W.cF rfl ?_)
 (refine W.skip (N.seq (W.seq (W.region (Jx.move rfl rfl (Jx.assign rfl rfl (J.nil (N.seq (W.ret ?_)))))))))
 (refine id ?_; rotate_left))
      exact N.ret (rs := [.tmp 4]) rfl (.tmp rfl .nil) ⟨t, a', 0, rfl, rfl, h3, h4⟩
    · have h4 := hz he
      have c2 := rd_refuse b s a' 0 a e h1 he (by intro h; exact absurd rfl h)
      focus (
 (refine W.cT rfl ?_)
 (refine W.seq (W.region (Jx.move rfl rfl (Jx.move rfl rfl (Jx.move rfl rfl ?_)))))
 (refine J.call (c2) rfl (evs_args rfl) rfl ?_; rintro _ _ ⟨a2, c', rfl, ha', hc'⟩; simp only [la1, la2, la3])
 (refine J.nil (N.seq (W.seq (W.region (Jx.assign rfl rfl (J.nil (N.seq (W.ret (N.seqRet ?_)))))))))
 (refine id ?_; rotate_left))
      exact N.ret (rs := [.tmp 4]) rfl (.tmp rfl .nil) ⟨[], a2, c', rfl, rfl, ha', by rw [lf_no hc', h4]⟩
  · have c1 : FnC Tryz.prog 83 [ptr b, int m] [rdO b ⟨s, a, c⟩] (fun v L => v = .tup [str [], int c] ∧ L = [rdO b ⟨s, a, c⟩]) := by
      have c0 := number_code b ⟨s, a, c⟩ hc
      refine FnC.intro Tryz.func83 rfl Tryz.ntmps83 rfl fun Z w0 hG => ?_
      focus (
 (refine W.seq (W.region (Jx.assign rfl rfl (Jx.assign rfl rfl (J.nil (N.seq (W.seq (W.region (Jx.move rfl rfl ?_)))))))))
 (refine J.call (c0) rfl (evs_args rfl) rfl ?_; rintro _ _ ⟨rfl, rfl⟩; simp only [la1, la2, la3])
 (refine Jx.move rfl rfl (Jx.extract rfl rfl rfl ?_))
 (refine Jx.extract rfl rfl rfl ?_)
 (refine Jx.assign rfl rfl (Jx.assign rfl rfl (J.nil (N.seq (W.seq (W.seq (W.region (Jx.move rfl rfl (Jx.neqI rfl rfl rfl (J.nil (N.seq (W.cT rfl ?_))))))))))))
 (refine W.seq (W.region (Jx.move rfl rfl (Jx.assign rfl rfl (Jx.assign rfl rfl (J.nil (N.seq (W.ret (N.seqRet ?_)))))))))
 (refine id ?_; rotate_left))
      exact N.ret (rs := [.tmp 4, .tmp 5]) rfl (.tmp rfl (.tmp rfl .nil)) ⟨rfl, rfl⟩
    have c2 := rd_refuse b s a c a c h1 hc (fun _ => h1)
    refine FnC.intro Tryz.func40 rfl Tryz.ntmps40 rfl fun Z w0 hG => ?_
    focus (
 (refine W.seq (W.region (Jx.assign rfl rfl (J.nil (N.seq (W.seq (W.region (Jx.move rfl rfl (Jx.nilCheck rfl rfl ?_)))))))))
 (refine Jx.fieldAddr rfl rfl ?_)
 (refine Jx.load rfl 0 rfl rfl rfl ?_)
 (refine Jx.assign rfl rfl (J.nil (N.seq (W.seq (W.region (Jx.move rfl rfl (Jx.move rfl rfl ?_)))))))
 (refine J.call (c1) rfl (evs_args rfl) rfl ?_; rintro _ _ ⟨rfl, rfl⟩; simp only [la1, la2, la3])
 (refine Jx.move rfl rfl (Jx.extract rfl rfl rfl ?_))
 (refine Jx.extract rfl rfl rfl ?_)
 (refine Jx.assign rfl rfl (Jx.assign rfl rfl (J.nil (N.seq (W.seq (W.seq (W.region (Jx.move rfl rfl (Jx.neqI rfl rfl rfl (J.nil (N.seq (W.cT rfl ?_))))))))))))
 (refine W.seq (W.region (Jx.move rfl rfl (Jx.move rfl rfl (Jx.move rfl rfl ?_)))))
 (refine J.call (c2) rfl (evs_args rfl) rfl ?_; rintro _ _ ⟨a2, c', rfl, ha', hc'⟩; simp only [la1, la2, la3])
 (refine J.nil (N.seq (W.seq (W.region (Jx.assign rfl rfl (J.nil (N.seq (W.ret (N.seqRet ?_)))))))))
 (refine id ?_; rotate_left))
    exact N.ret (rs := [.tmp 4]) rfl (.tmp rfl .nil) ⟨[], a2, c', rfl, rfl, ha', by rw [lf_no hc', lf_no hc]; rfl⟩
theorem rd_Flag (b : Nat) (s : List UInt8) (a : Nat) (c : Int) (h1 : a ≤ s.length) (h2 : s.length ≤ 1099511627776) :
    FnC Tryz.prog 41 [ptr b] [rdO b ⟨s, a, c⟩] (fun v L => ∃ (f : Bool) (a' : Nat) (c' : Int), v = bool f ∧ L = [rdO b ⟨s, a', c'⟩] ∧ a' ≤ s.length ∧ flagP (lf s a c) = (f, lf s a' c')) := by
  have c1 := rd_Bytes b s a c 1 h1 h2
  refine FnC.intro Tryz.func41 rfl Tryz.ntmps41 rfl fun Z w0 hG => ?_
  focus (
 (refine W.seq (W.region (Jx.assign rfl rfl (J.nil (N.seq (W.seq (W.region (Jx.move rfl rfl (Jx.nilCheck rfl rfl ?_)))))))))
 (refine Jx.fieldAddr rfl rfl ?_)
 (refine Jx.load rfl 0 rfl rfl rfl ?_)
 (refine Jx.assign rfl rfl (J.nil (N.seq (W.seq (W.region (Jx.move rfl rfl ?_))))))
 (refine J.call (c1) rfl (evs_args rfl) rfl ?_; rintro _ _ ⟨t, a', c', rfl, rfl, ha', he⟩; simp only [la1, la2, la3])
 (refine Jx.assign rfl rfl (J.nil (N.seq (W.seq (W.seq (W.region (Jx.move rfl rfl (Jx.nilCheck rfl rfl ?_))))))))
 (refine Jx.fieldAddr rfl rfl ?_)
 (refine Jx.load rfl 0 rfl rfl rfl ?_)
 (refine Jx.neqI rfl rfl rfl (J.nil (N.seq ?_)))
 (refine id ?_; rotate_left))
  by_cases hc' : c' = 0
  · subst hc'
    obtain ⟨g1, g2⟩ := bytesP_good he
    obtain ⟨x, rfl⟩ : ∃ x, t = [x] := by
      match t, g2 with
      | [x], _ => exact ⟨x, rfl⟩
    rw [g1]
    by_cases hx : 1 < x.toNat
    · have c2 := rd_refuse b s a' 0 a 3 h1 (by decide) (by intro h; exact absurd rfl h)
      focus (
 (refine W.cF rfl ?_)
 (refine W.skip (N.seq (W.seq (W.seq (W.region (Jx.move rfl rfl (Jx.indexS rfl rfl (by decide) (by first | omega | (simp; done)) rfl ?_)))))))
 (refine Jx.gtrI rfl rfl rfl (J.nil (N.seq (W.cT rfl ?_))))
 (refine W.seq (W.region (Jx.move rfl rfl (Jx.move rfl rfl ?_))))
 (refine J.call (c2) rfl (evs_args rfl) rfl ?_; rintro _ _ ⟨a2, c2', rfl, ha2, hc2⟩; simp only [la1, la2, la3])
 (refine J.nil (N.seq (W.seq (W.region (Jx.assign rfl rfl (J.nil (N.seq (W.ret (N.seqRet ?_)))))))))
 (refine id ?_; rotate_left))
      exact N.ret (rs := [.tmp 2]) rfl (.tmp rfl .nil) ⟨false, a2, c2', rfl, rfl, ha2, by rw [lf_no hc2]; simp only [List.cons_append, List.nil_append, flagP, if_pos hx]⟩
    · focus (
 (refine W.cF rfl ?_)
 (refine W.skip (N.seq (W.seq (W.seq (W.region (Jx.move rfl rfl (Jx.indexS rfl rfl (by decide) (by first | omega | (simp; done)) rfl ?_)))))))
 (refine Jx.gtrI rfl rfl rfl (J.nil (N.seq (W.cF rfl ?_))))
 (refine W.skip (N.seq (W.seq (W.region (Jx.move rfl rfl (Jx.indexS rfl rfl (by decide) (by first | omega | (simp; done)) rfl ?_))))))
 (refine Jx.eqlI rfl rfl rfl (Jx.assign rfl rfl (J.nil (N.seq (W.ret ?_)))))
 (refine id ?_; rotate_left))
      refine N.ret (rs := [.tmp 2]) rfl (.tmp rfl .nil) ⟨decide (x.toNat = 1), a', 0, ?_, rfl, ha', by simp only [List.cons_append, List.nil_append, flagP, if_neg hx, lf, if_true]⟩
      simp only [oneOr, List.getD_cons_zero, Int.toNat_zero]
      have : (decide (((x.toNat : Nat) : Int) = 1)) = decide (x.toNat = 1) := by
        by_cases h : x.toNat = 1
        · rw [decide_eq_true h, decide_eq_true (by omega)]
        · rw [decide_eq_false h, decide_eq_false (by omega)]
      exact congrArg bool this
  · rw [lf_no hc'] at he
    have hfl : flagP (lf s a c) = (false, none) := by
      cases hl : lf s a c with
      | none => rfl
      | some l =>
        rw [hl] at he
        cases l with
        | nil => rfl
        | cons x l => simp [bytesP] at he
    focus (
 (refine W.cT rfl ?_)
 (refine W.seq (W.region (Jx.assign rfl rfl (J.nil (N.seq (W.ret (N.seqRet ?_)))))))
 (refine id ?_; rotate_left))
    exact N.ret (rs := [.tmp 2]) rfl (.tmp rfl .nil) ⟨false, a', c', rfl, rfl, ha', by rw [lf_no hc', hfl]⟩
theorem rd_End (b : Nat) (s : List UInt8) (a : Nat) (c : Int) (h1 : a ≤ s.length) (h2 : s.length ≤ 1099511627776) :
    FnC Tryz.prog 43 [ptr b] [rdO b ⟨s, a, c⟩] (fun v L => ∃ (e : Int) (a' : Nat) (c' : Int), v = int e ∧ L = [rdO b ⟨s, a', c'⟩] ∧ (e = 0 ↔ lf s a c = some [])) := by
  have c1 := left_ok b ⟨s, a, c⟩ ⟨h1, h2⟩
  simp only at c1
  refine FnC.intro Tryz.func43 rfl Tryz.ntmps43 rfl fun Z w0 hG => ?_
  by_cases hl : a < s.length
  · have c2 := rd_refuse b s a c a 3 h1 (by decide) (fun _ => h1)
    focus (
 (refine W.seq (W.region (Jx.assign rfl rfl (J.nil (N.seq (W.seq (W.seq (W.region (Jx.move rfl rfl ?_)))))))))
 (refine J.call (c1) rfl (evs_args rfl) rfl ?_; rintro _ _ ⟨rfl, rfl⟩; simp only [la1, la2, la3])
 (refine Jx.gtrI rfl rfl rfl (J.nil (N.seq (W.cT rfl ?_))))
 (refine W.region (Jx.move rfl rfl (Jx.move rfl rfl (Jx.nilCheck rfl rfl ?_))))
 (refine Jx.fieldAddr rfl rfl ?_)
 (refine Jx.load rfl 0 rfl rfl rfl ?_)
 (refine J.call (c2) rfl (evs_args rfl) rfl ?_; rintro _ _ ⟨a2, c2', rfl, ha2, hc2⟩; simp only [la1, la2, la3])
 (refine J.nil (N.seq (W.seq (W.region (Jx.move rfl rfl (Jx.nilCheck rfl rfl ?_))))))
 (refine Jx.fieldAddr rfl rfl ?_)
 (refine Jx.load rfl 0 rfl rfl rfl ?_)
 (refine Jx.assign rfl rfl (J.nil (N.seq (W.ret ?_))))
 (refine id ?_; rotate_left))
    refine N.ret (rs := [.tmp 2]) rfl (.tmp rfl .nil) ⟨c2', a2, c2', rfl, rfl, fun h => absurd h hc2, fun h => ?_⟩
    unfold lf at h
    split at h
    · simp only [Option.some.injEq] at h
      have := congrArg List.length h
      rw [List.length_drop] at this
      simp only [List.length_nil] at this
      omega
    · cases h
  · focus (
 (refine W.seq (W.region (Jx.assign rfl rfl (J.nil (N.seq (W.seq (W.seq (W.region (Jx.move rfl rfl ?_)))))))))
 (refine J.call (c1) rfl (evs_args rfl) rfl ?_; rintro _ _ ⟨rfl, rfl⟩; simp only [la1, la2, la3])
 (refine Jx.gtrI rfl rfl rfl (J.nil (N.seq (W.cF rfl ?_))))
 (refine W.skip (N.seq (W.seq (W.region (Jx.move rfl rfl (Jx.nilCheck rfl rfl ?_))))))
 (refine Jx.fieldAddr rfl rfl ?_)
 (refine Jx.load rfl 0 rfl rfl rfl ?_)
 (refine Jx.assign rfl rfl (J.nil (N.seq (W.ret ?_))))
 (refine id ?_; rotate_left))
    refine N.ret (rs := [.tmp 2]) rfl (.tmp rfl .nil) ⟨c, a, c, rfl, rfl, fun h => ?_, fun h => ?_⟩
    · subst h
      simp only [lf, if_true, Option.some.injEq]
      exact List.drop_eq_nil_of_le (by omega)
    · exact Classical.byContradiction fun hc => by rw [lf_no hc] at h; cases h
def preP (acc : List (List UInt8)) : List (List UInt8) × PSt → List (List UInt8) × PSt
  | (ts, some q) => (acc ++ ts, some q)
  | (_, none) => ([], none)
theorem preP_step {ec : Int} {k : Nat} {r q : List UInt8} {t : List UInt8} {acc : List (List UInt8)} (h : textP ec (some r) = (t, some q)) : preP acc (textsP ec (k + 1) (some r)) = preP (acc ++ [t]) (textsP ec k (some q)) := by
  simp only [textsP, h]
  cases hq : textsP ec k (some q) with
  | mk ts o => cases o <;> simp [preP]
theorem preP_bad {ec : Int} {k : Nat} {r : List UInt8} {acc : List (List UInt8)} (h : textP ec (some r) = ([], none)) : preP acc (textsP ec (k + 1) (some r)) = ([], none) := by
  simp only [textsP, h, preP]
theorem preP_nil {ec : Int} {n : Nat} {st : PSt} : preP [] (textsP ec n st) = textsP ec n st := by
  cases h : textsP ec n st with
  | mk ts o =>
    cases o with
    | none => rw [textsP_short h]; rfl
    | some q => rfl
set_option maxHeartbeats 2000000 in
theorem rd_List (b : Nat) (s : List UInt8) (a : Nat) (c : Int) (m ec : Int) (h1 : a ≤ s.length) (h2 : s.length ≤ 1099511627776) (hm : m ≤ 1048576) :
    FnC Tryz.prog 104 [ptr b, int m, int ec] [rdO b ⟨s, a, c⟩] (fun v L => ∃ (l : List (List UInt8)) (a' : Nat) (c' : Int), v = ssl l ∧ L = [rdO b ⟨s, a', c'⟩] ∧ a' ≤ s.length ∧ listP m ec (lf s a c) = (l, lf s a' c')) := by
  have c1 := rd_number b s a c h1 h2
  refine FnC.intro Tryz.func104 rfl Tryz.ntmps104 rfl fun Z w0 hG => ?_
  focus (
 (refine W.seq (W.region (Jx.assign rfl rfl (J.nil (N.seq (W.seq (W.region (Jx.move rfl rfl (Jx.nilCheck rfl rfl ?_)))))))))
 (refine Jx.fieldAddr rfl rfl ?_)
 (refine Jx.load rfl 0 rfl rfl rfl ?_)
 (refine Jx.assign rfl rfl (J.nil (N.seq (W.seq (W.region (Jx.move rfl rfl ?_))))))
 (refine J.call c1 rfl (evs_args rfl) rfl ?_; rintro _ _ ⟨n, e, a', rfl, rfl, hn, hy, hz, hw⟩; simp only [la1, la2, la3]; by_cases he : e = 0)
 (refine Jx.move rfl rfl (Jx.extract rfl rfl rfl ?_))
 (refine Jx.extract rfl rfl rfl ?_)
 (refine Jx.assign rfl rfl (Jx.assign rfl rfl (J.nil (N.seq (W.seq (W.seq (W.region (Jx.move rfl rfl (Jx.eqlI rfl rfl rfl (Jx.move rfl rfl (J.gY rfl rfl rfl ?_)))))))))))
 (refine Jx.move rfl rfl (J.gY rfl rfl rfl ?_))
 (refine Jx.move rfl rfl (J.gY rfl rfl rfl ?_))
 (refine Jx.gtrI rfl rfl rfl (Jx.pT rfl rfl rfl ?_))
 (refine J.nil (N.seq ?_))
 (refine id ?_; rotate_left)
 (refine Jx.move rfl rfl (Jx.extract rfl rfl rfl ?_))
 (refine Jx.extract rfl rfl rfl ?_)
 (refine Jx.assign rfl rfl (Jx.assign rfl rfl (J.nil (N.seq (W.seq (W.seq (W.region (Jx.move rfl rfl (Jx.eqlI rfl rfl rfl (Jx.move rfl rfl (J.gN rfl rfl rfl rfl ?_)))))))))))
 (refine J.gN rfl rfl rfl rfl ?_)
 (refine J.gN rfl rfl rfl rfl ?_)
 (refine Jx.pF rfl rfl rfl ?_)
 (refine J.nil (N.seq (W.cF rfl ?_)))
 (refine W.skip (N.seq (W.seq (W.region (Jx.move rfl rfl ?_)))))
 (refine J.pv (Pv.makeFunc (us := [.pointer (some ⟨b, 0, none⟩)]) (vs := []) (evs_args rfl) (evs_args rfl) (fun _ => rfl)) rfl ?_)
 (refine Jx.assign rfl rfl (J.nil (N.seq (W.seq (W.region (Jx.assign rfl rfl (J.nil (N.seq (W.seq (W.seq (W.region (Jx.assign rfl rfl (J.nil (N.seq ?_))))))))))))))
 (refine W.block ?_)
 (refine id ?_; rotate_left))
  · obtain ⟨rfl, h3, h4⟩ := hy he
    subst he
    by_cases hnm : m < (n : Int)
    · focus (
 (refine W.cT rfl ?_)
 (refine W.region (Jx.assign rfl rfl (J.nil (N.seq (W.seq (W.region (Jx.move rfl rfl ?_)))))))
 (refine J.pv (Pv.makeFunc (us := [.pointer (some ⟨b, 0, none⟩)]) (vs := []) (evs_args rfl) (evs_args rfl) (fun _ => rfl)) rfl ?_)
 (refine Jx.assign rfl rfl (J.nil (N.seq (W.seq (W.region (Jx.assign rfl rfl (J.nil (N.seq (W.seq (W.seq (W.region (Jx.assign rfl rfl (J.nil (N.seq ?_))))))))))))))
 (refine W.block ?_)
 (refine id ?_; rotate_left))
      have c2 := rd_refuse b s a' 0 a 2 h1 (by decide) (fun _ => h3)
      refine W.loop (α := Unit) (fun x => [(12, int 0), (9, int 2), (8, int (n : Int)), (7, int (a : Int)), (0, ptr b)]) (fun x => [rdO b ⟨s, a', 0⟩]) (fun x => True) (fun x => 0) () trivial rfl ⟨ref0 rfl, ref0 rfl, ref0 rfl, ref0 rfl, ref0 rfl, trivial⟩ ?_
      intro _ _
      by_cases h0 : 0 < n
      · focus (
 (refine W.seq (W.seq (W.region (Jx.move rfl rfl (Jx.move rfl rfl (Jx.lssI rfl rfl rfl (Jx.move rfl rfl (J.gY rfl rfl rfl ?_))))))))
 (refine Jx.move rfl rfl (J.gY rfl rfl rfl ?_))
 (refine Jx.eqlI rfl rfl rfl (Jx.pT rfl rfl rfl ?_))
 (refine J.nil (N.seq (W.cF rfl ?_)))
 (refine W.exit (N.seq (W.seq (W.seq (W.region (Jx.move rfl rfl (Jx.neqI rfl rfl rfl (J.nil (N.seq (W.cT rfl ?_))))))))))
 (refine W.seq (W.region (Jx.move rfl rfl (Jx.move rfl rfl (Jx.move rfl rfl ?_)))))
 (refine J.call (c2) rfl (evs_args rfl) rfl ?_; rintro _ _ ⟨a2, c2', rfl, ha2, hc2⟩; simp only [la1, la2, la3])
 (refine J.nil (N.seq (W.seq (W.region (Jx.assign rfl rfl (J.nil (N.seq (W.ret (N.seqRet ?_)))))))))
 (refine id ?_; rotate_left))
        refine N.told (G := [(6, ssl [])]) ⟨⟨_, rfl, Sub.nil 1 _⟩, trivial⟩ ?_
        exact N.ret (rs := [.tmp 6]) rfl (.tmp rfl .nil) ⟨[], a2, c2', rfl, rfl, ha2, by rw [lf_no hc2]; simp only [listP, h4]; rw [if_neg (by omega)]⟩
      · focus (
 (refine W.seq (W.seq (W.region (Jx.move rfl rfl (Jx.move rfl rfl (Jx.lssI rfl rfl rfl (Jx.move rfl rfl (J.gN rfl rfl rfl rfl ?_))))))))
 (refine J.gN rfl rfl rfl rfl ?_)
 (refine Jx.pF rfl rfl rfl ?_)
 (refine J.nil (N.seq (W.cF rfl ?_)))
 (refine W.exit (N.seq (W.seq (W.seq (W.region (Jx.move rfl rfl (Jx.neqI rfl rfl rfl (J.nil (N.seq (W.cT rfl ?_))))))))))
 (refine W.seq (W.region (Jx.move rfl rfl (Jx.move rfl rfl (Jx.move rfl rfl ?_)))))
 (refine J.call (c2) rfl (evs_args rfl) rfl ?_; rintro _ _ ⟨a2, c2', rfl, ha2, hc2⟩; simp only [la1, la2, la3])
 (refine J.nil (N.seq (W.seq (W.region (Jx.assign rfl rfl (J.nil (N.seq (W.ret (N.seqRet ?_)))))))))
 (refine id ?_; rotate_left))
        refine N.told (G := [(6, ssl [])]) ⟨⟨_, rfl, Sub.nil 1 _⟩, trivial⟩ ?_
        exact N.ret (rs := [.tmp 6]) rfl (.tmp rfl .nil) ⟨[], a2, c2', rfl, rfl, ha2, by rw [lf_no hc2]; simp only [listP, h4]; rw [if_neg (by omega)]⟩
    · focus (
 (refine W.cF rfl ?_)
 (refine W.skip (N.seq (W.seq (W.region (Jx.move rfl rfl ?_)))))
 (refine J.pv (Pv.makeFunc (us := [.pointer (some ⟨b, 0, none⟩)]) (vs := []) (evs_args rfl) (evs_args rfl) (fun _ => rfl)) rfl ?_)
 (refine Jx.assign rfl rfl (J.nil (N.seq (W.seq (W.region (Jx.assign rfl rfl (J.nil (N.seq (W.seq (W.seq (W.region (Jx.assign rfl rfl (J.nil (N.seq ?_))))))))))))))
 (refine W.block ?_)
 (refine id ?_; rotate_left))
      refine W.rowNil 9 1 (elOf (fun a => [str a]) [] []) ?_
      refine W.perm (List.Perm.swap _ _ _) ?_
      refine W.loop (α := Nat × Value × List (List UInt8) × Nat × Int) (fun x => [(12, int (x.1 : Int)), (11, .val x.2.1), (10, .val (.func (.func 83) #[.pointer (some ⟨b, 0, none⟩)] #[])), (9, int x.2.2.2.2), (8, int (n : Int)), (7, int (a : Int)), (2, int ec), (0, ptr b)]) (fun x => [rdO b ⟨s, x.2.2.2.1, 0⟩, .row x.2.1 9 1 x.2.2.1.length (elOf (fun a => [str a]) [] x.2.2.1)])
        (fun x => x.1 ≤ n ∧ x.2.2.1.length ≤ x.1 ∧ (x.2.2.2.2 = 0 → x.2.2.1.length = x.1 ∧ x.2.2.2.1 ≤ s.length ∧ textsP ec n (some (s.drop a')) = preP x.2.2.1 (textsP ec (n - x.1) (some (s.drop x.2.2.2.1)))) ∧ (x.2.2.2.2 ≠ 0 → textsP ec n (some (s.drop a')) = ([], none))) (fun x => n - x.1) (0, .slice none 0 0, [], a', 0)
        ⟨by simp, by simp, fun _ => ⟨rfl, h3, by simp only [Nat.sub_zero, preP_nil]⟩, fun h => absurd rfl h⟩ rfl ⟨ref0 rfl, ref0 rfl, ref0 rfl, ref0 rfl, ref0 rfl, ref0 rfl, ref0 rfl, ref0 rfl, trivial⟩ ?_
      rintro ⟨i, u, acc, pos, e⟩ ⟨hi, hai, hg, hb⟩
      simp only at hi hai hg hb ⊢
      have hmx0 : acc.length ≤ maxLen := by simp only [maxLen]; omega
      by_cases hin : i < n
      · by_cases he : e = 0
        · subst he
          obtain ⟨g1, g2, g3⟩ := hg rfl
          have c3 := rd_text b s pos 0 ec g2 h2
          have hstep : n - i = (n - (i + 1)) + 1 := by omega
          focus (
 (refine W.seq (W.seq (W.region (Jx.move rfl rfl (Jx.move rfl rfl (Jx.lssI rfl rfl rfl (Jx.move rfl rfl (J.gY rfl rfl rfl ?_))))))))
 (refine Jx.move rfl rfl (J.gY rfl rfl rfl ?_))
 (refine Jx.eqlI rfl rfl rfl (Jx.pT rfl rfl rfl ?_))
 (refine J.nil (N.seq (W.cT rfl ?_)))
 (refine W.skip (N.seq (W.seq (W.block (W.seq (W.region (Jx.assign rfl rfl (J.nil (N.seq (W.seq (W.region (Jx.move rfl rfl (Jx.move rfl rfl ?_)))))))))))))
 (refine J.callV (args := [int ec]) (Lc := [rdO b ⟨s, pos, 0⟩]) rfl c3 rfl (evs_args rfl) rfl ?_; rintro _ _ ⟨t, e', pos', rfl, rfl, ty, tz⟩; simp only [la1, la2, la3])
 (refine Jx.move rfl rfl (Jx.extract rfl rfl rfl ?_))
 (refine Jx.extract rfl rfl rfl ?_)
 (refine Jx.assign rfl rfl (Jx.assign rfl rfl (J.nil (N.seq (W.seq (W.region (Jx.move rfl rfl (Jx.eqlI rfl rfl rfl (J.nil (N.seq ?_))))))))))
 (refine id ?_; rotate_left))
          by_cases he' : e' = 0
          · subst he'
            obtain ⟨_, g4, g5⟩ := ty rfl
            have hmx : acc.length + [t].length ≤ maxLen ∧ (acc.length + [t].length) * 16 ≤ 140737488355328 := by simp only [maxLen, List.length_cons, List.length_nil]; omega
            focus (
 (refine W.cT rfl ?_)
 (refine W.region (Jx.move rfl rfl (Jx.move rfl rfl ?_)))
 (refine J.qs (Qs.buildTexts [t] rfl rfl rfl (by decide) (by decide)) rfl ?_)
 (refine J.appendAt (l := acc) (l2 := [t]) 1 rfl rfl (SrcOK.sl rfl) rfl rfl hmx rfl ?_; intro v2 hv2)
 (refine Jx.assign rfl rfl (J.nil (N.seq (W.region (Jx.move rfl rfl (Jx.add64 rfl rfl (by omega) rfl ?_))))))
 (refine Jx.assign rfl rfl (J.nil ?_))
 (refine id ?_; rotate_left))
            exact N.round (i + 1, v2, acc ++ [t], pos', 0) ⟨by simp only; omega, by simp only [List.length_append, List.length_cons, List.length_nil]; omega, fun _ => ⟨by simp only [List.length_append, List.length_cons, List.length_nil]; omega, g4, by rw [g3, hstep]; exact preP_step g5⟩, fun h => absurd rfl h⟩ (by simp only; omega) rfl ⟨ref0 rfl, ref0 rfl, ref0 rfl, ref0 rfl, ref0 rfl, ref0 rfl, ref0 rfl, ref0 rfl, trivial⟩
          · have g5 := tz he'
            focus (
 (refine W.cF rfl ?_)
 (refine W.skip (N.seq (W.region (Jx.move rfl rfl (Jx.add64 rfl rfl (by omega) rfl ?_)))))
 (refine Jx.assign rfl rfl (J.nil ?_))
 (refine id ?_; rotate_left))
            exact N.round (i + 1, u, acc, pos', e') ⟨by simp only; omega, by simp only; omega, fun h => absurd h he', fun _ => by rw [g3, hstep]; exact preP_bad g5⟩ (by simp only; omega) rfl ⟨ref0 rfl, ref0 rfl, ref0 rfl, ref0 rfl, ref0 rfl, ref0 rfl, ref0 rfl, ref0 rfl, trivial⟩
        · have hb := hb he
          have c2 := rd_refuse b s pos 0 a e h1 he (fun h => absurd rfl h)
          focus (
 (refine W.seq (W.seq (W.region (Jx.move rfl rfl (Jx.move rfl rfl (Jx.lssI rfl rfl rfl (Jx.move rfl rfl (J.gY rfl rfl rfl ?_))))))))
 (refine Jx.move rfl rfl (J.gY rfl rfl rfl ?_))
 (refine Jx.eqlI rfl rfl rfl (Jx.pT rfl rfl rfl ?_))
 (refine J.nil (N.seq (W.cF rfl ?_)))
 (refine W.exit (N.seq (W.seq (W.seq (W.region (Jx.move rfl rfl (Jx.neqI rfl rfl rfl (J.nil (N.seq (W.cT rfl ?_))))))))))
 (refine W.seq (W.region (Jx.move rfl rfl (Jx.move rfl rfl (Jx.move rfl rfl ?_)))))
 (refine J.call (c2) rfl (evs_args rfl) rfl ?_; rintro _ _ ⟨a2, c2', rfl, ha2, hc2⟩; simp only [la1, la2, la3])
 (refine J.nil (N.seq (W.seq (W.region (Jx.assign rfl rfl (J.nil (N.seq (W.ret (N.seqRet ?_)))))))))
 (refine id ?_; rotate_left))
          refine N.told (G := [(6, ssl [])]) ⟨⟨_, rfl, Sub.nil 1 _⟩, trivial⟩ ?_
          exact N.retD (rs := [.tmp 6]) (L1 := [rdO b ⟨s, a2, c2'⟩]) rfl (.tmp rfl .nil) (by simp) ⟨[], a2, c2', rfl, rfl, ha2, by rw [lf_no hc2]; simp only [listP, h4]; rw [if_pos (by omega)]; exact hb⟩
      · by_cases he : e = 0
        · subst he
          obtain ⟨g1, g2, g3⟩ := hg rfl
          refine W.freezeAt 1 11 rfl rfl hmx0 ?_
          focus (
 (refine W.seq (W.seq (W.region (Jx.move rfl rfl (Jx.move rfl rfl (Jx.lssI rfl rfl rfl (Jx.move rfl rfl (J.gN rfl rfl rfl rfl ?_))))))))
 (refine J.gN rfl rfl rfl rfl ?_)
 (refine Jx.pF rfl rfl rfl ?_)
 (refine J.nil (N.seq (W.cF rfl ?_)))
 (refine W.exit (N.seq (W.seq (W.seq (W.region (Jx.move rfl rfl (Jx.neqI rfl rfl rfl (J.nil (N.seq (W.cF rfl ?_))))))))))
 (refine W.skip (N.seq (W.seq (W.region (Jx.move rfl rfl (Jx.assign rfl rfl (J.nil (N.seq (W.ret ?_)))))))))
 (refine id ?_; rotate_left))
          refine N.ret (rs := [.tmp 6]) rfl (.tmp rfl .nil) ⟨acc, pos, 0, rfl, rfl, g2, ?_⟩
          simp only [listP, h4]
          rw [if_pos (by omega), g3, show n - i = 0 by omega]
          simp only [textsP, preP, List.append_nil, lf, if_true]
        · have hb := hb he
          have c2 := rd_refuse b s pos 0 a e h1 he (fun h => absurd rfl h)
          focus (
 (refine W.seq (W.seq (W.region (Jx.move rfl rfl (Jx.move rfl rfl (Jx.lssI rfl rfl rfl (Jx.move rfl rfl (J.gN rfl rfl rfl rfl ?_))))))))
 (refine J.gN rfl rfl rfl rfl ?_)
 (refine Jx.pF rfl rfl rfl ?_)
 (refine J.nil (N.seq (W.cF rfl ?_)))
 (refine W.exit (N.seq (W.seq (W.seq (W.region (Jx.move rfl rfl (Jx.neqI rfl rfl rfl (J.nil (N.seq (W.cT rfl ?_))))))))))
 (refine W.seq (W.region (Jx.move rfl rfl (Jx.move rfl rfl (Jx.move rfl rfl ?_)))))
 (refine J.call (c2) rfl (evs_args rfl) rfl ?_; rintro _ _ ⟨a2, c2', rfl, ha2, hc2⟩; simp only [la1, la2, la3])
 (refine J.nil (N.seq (W.seq (W.region (Jx.assign rfl rfl (J.nil (N.seq (W.ret (N.seqRet ?_)))))))))
 (refine id ?_; rotate_left))
          refine N.told (G := [(6, ssl [])]) ⟨⟨_, rfl, Sub.nil 1 _⟩, trivial⟩ ?_
          exact N.retD (rs := [.tmp 6]) (L1 := [rdO b ⟨s, a2, c2'⟩]) rfl (.tmp rfl .nil) (by simp) ⟨[], a2, c2', rfl, rfl, ha2, by rw [lf_no hc2]; simp only [listP, h4]; rw [if_pos (by omega)]; exact hb⟩
  · have h4 := hz he
    refine W.loop (α := Unit) (fun x => [(12, int 0), (9, int e), (8, int (n : Int)), (7, int (a : Int)), (0, ptr b)]) (fun x => [rdO b ⟨s, a', c⟩]) (fun x => True) (fun x => 0) () trivial rfl ⟨ref0 rfl, ref0 rfl, ref0 rfl, ref0 rfl, ref0 rfl, trivial⟩ ?_
    intro _ _
    have c2 := rd_refuse b s a' c a e h1 he hw
    by_cases h0 : 0 < n
    · focus (
 (refine W.seq (W.seq (W.region (Jx.move rfl rfl (Jx.move rfl rfl (Jx.lssI rfl rfl rfl (Jx.move rfl rfl (J.gY rfl rfl rfl ?_))))))))
 (refine Jx.move rfl rfl (J.gY rfl rfl rfl ?_))
 (refine Jx.eqlI rfl rfl rfl (Jx.pT rfl rfl rfl ?_))
 (refine J.nil (N.seq (W.cF rfl ?_)))
 (refine W.exit (N.seq (W.seq (W.seq (W.region (Jx.move rfl rfl (Jx.neqI rfl rfl rfl (J.nil (N.seq (W.cT rfl ?_))))))))))
 (refine W.seq (W.region (Jx.move rfl rfl (Jx.move rfl rfl (Jx.move rfl rfl ?_)))))
 (refine J.call (c2) rfl (evs_args rfl) rfl ?_; rintro _ _ ⟨a2, c2', rfl, ha2, hc2⟩; simp only [la1, la2, la3])
 (refine J.nil (N.seq (W.seq (W.region (Jx.assign rfl rfl (J.nil (N.seq (W.ret (N.seqRet ?_)))))))))
 (refine id ?_; rotate_left))
      refine N.told (G := [(6, ssl [])]) ⟨⟨_, rfl, Sub.nil 1 _⟩, trivial⟩ ?_
      exact N.ret (rs := [.tmp 6]) rfl (.tmp rfl .nil) ⟨[], a2, c2', rfl, rfl, ha2, by rw [lf_no hc2]; simp only [listP, h4]⟩
    · focus (
 (refine W.seq (W.seq (W.region (Jx.move rfl rfl (Jx.move rfl rfl (Jx.lssI rfl rfl rfl (Jx.move rfl rfl (J.gN rfl rfl rfl rfl ?_))))))))
 (refine J.gN rfl rfl rfl rfl ?_)
 (refine Jx.pF rfl rfl rfl ?_)
 (refine J.nil (N.seq (W.cF rfl ?_)))
 (refine W.exit (N.seq (W.seq (W.seq (W.region (Jx.move rfl rfl (Jx.neqI rfl rfl rfl (J.nil (N.seq (W.cT rfl ?_))))))))))
 (refine W.seq (W.region (Jx.move rfl rfl (Jx.move rfl rfl (Jx.move rfl rfl ?_)))))
 (refine J.call (c2) rfl (evs_args rfl) rfl ?_; rintro _ _ ⟨a2, c2', rfl, ha2, hc2⟩; simp only [la1, la2, la3])
 (refine J.nil (N.seq (W.seq (W.region (Jx.assign rfl rfl (J.nil (N.seq (W.ret (N.seqRet ?_)))))))))
 (refine id ?_; rotate_left))
      refine N.told (G := [(6, ssl [])]) ⟨⟨_, rfl, Sub.nil 1 _⟩, trivial⟩ ?_
      exact N.ret (rs := [.tmp 6]) rfl (.tmp rfl .nil) ⟨[], a2, c2', rfl, rfl, ha2, by rw [lf_no hc2]; simp only [listP, h4]⟩
end Go.Proofs.YtlfdhkahiaammaaGreatDoor
namespace Go.Proofs.YtlfdhkahiaammaaGreatDoor
open Go Go.Sse
set_option linter.unusedVariables false
set_option linter.unusedSimpArgs false
set_option maxRecDepth 10000
set_option maxHeartbeats 2000000 in
theorem r_take (s : List UInt8) (hs : s.length ≤ 1099511627776) : FnC Tryz.prog 105 [str s] [] (fun v L => (∃ (n : Nat) (r : List UInt8) (e : Int), v = .tup [int (n : Int), str r, int e] ∧ (e = 0 → numP (some s) = (n, some r)) ∧ (e ≠ 0 → numP (some s) = (0, none) ∧ n = 0 ∧ r = [])) ∧ L = []) := by
  match s, hs with
  | [], _ =>
    refine FnC.intro Tryz.func105 rfl Tryz.ntmps105 rfl fun Z w0 hG => ?_
    focus (
 (refine W.seq (W.region (Jx.assign rfl rfl (Jx.assign rfl rfl (Jx.assign rfl rfl (J.nil (N.seq (W.seq (W.seq (W.region (Jx.move rfl rfl (Jx.eqlS rfl rfl rfl (J.nil (N.seq ?_))))))))))))))
 (refine W.cT rfl ?_)
 (refine W.seq (W.region (Jx.assign rfl rfl (Jx.assign rfl rfl (Jx.assign rfl rfl (J.nil (N.seq (W.ret (N.seqRet ?_)))))))))
 (refine id ?_; rotate_left))
    exact N.ret (rs := [.tmp 2, .tmp 3, .tmp 4]) rfl (.tmp rfl (.tmp rfl (.tmp rfl .nil))) ⟨⟨0, [], 20, rfl, by intro h; exact absurd h (by decide), fun _ => ⟨rfl, rfl, rfl⟩⟩, rfl⟩
  | x :: t, hs =>
    have hx := x.toNat_lt
    have hl0 : (0 : Int) < ((x :: t).length : Int) := by simp only [List.length_cons]; omega
    have hg0 : (x :: t).getD (Int.toNat 0) 0 = x := rfl
    have hg1 : (x :: t).getD (Int.toNat 1) 0 = t.getD 0 0 := rfl
    have hne : ¬ (x :: t) = [] := by simp
    have hlen : (x :: t).length = t.length + 1 := rfl
    by_cases h8 : 8 < x.toNat
    · have hr : readN (x :: t) = (0, 0, 3) := by simp only [readN, if_pos h8]
      have hn : numP (some (x :: t)) = (0, none) := by simp only [numP, hr]; rfl
      generalize hst : x :: t = st at *
      refine FnC.intro Tryz.func105 rfl Tryz.ntmps105 rfl fun Z w0 hG => ?_
      focus (
 (refine W.seq (W.region (Jx.assign rfl rfl (Jx.assign rfl rfl (Jx.assign rfl rfl (J.nil (N.seq (W.seq (W.seq (W.region (Jx.move rfl rfl (Jx.eqlS rfl rfl rfl (J.nil (N.seq ?_))))))))))))))
 (refine W.cF rfl ?_)
 (refine W.skip (N.seq (W.seq (W.region (Jx.move rfl rfl ?_)))))
 (refine Jx.indexS (m := 0) rfl rfl (by decide) hl0 rfl ?_; rw [hg0])
 (refine Jx.convI (by kernel_rfl) rfl rfl ?_; rw [wrap_i64 (by omega)])
 (refine Jx.assign rfl rfl (J.nil (N.seq (W.seq (W.seq (W.region (Jx.move rfl rfl (Jx.gtrI rfl rfl rfl (J.nil (N.seq (W.cT rfl ?_)))))))))))
 (refine W.seq (W.region (Jx.assign rfl rfl (Jx.assign rfl rfl (Jx.assign rfl rfl (J.nil (N.seq (W.ret (N.seqRet ?_)))))))))
 (refine id ?_; rotate_left))
      exact N.ret (rs := [.tmp 2, .tmp 3, .tmp 4]) rfl (.tmp rfl (.tmp rfl (.tmp rfl .nil))) ⟨⟨0, [], 3, rfl, by intro h; exact absurd h (by decide), fun _ => ⟨hn, rfl, rfl⟩⟩, rfl⟩
    · by_cases hsh : t.length < x.toNat
      · have hr : readN (x :: t) = (0, 0, 20) := by simp only [readN, if_neg h8, if_pos hsh]
        have hn : numP (some (x :: t)) = (0, none) := by simp only [numP, hr]; rfl
        generalize hst : x :: t = st at *
        refine FnC.intro Tryz.func105 rfl Tryz.ntmps105 rfl fun Z w0 hG => ?_
        focus (
 (refine W.seq (W.region (Jx.assign rfl rfl (Jx.assign rfl rfl (Jx.assign rfl rfl (J.nil (N.seq (W.seq (W.seq (W.region (Jx.move rfl rfl (Jx.eqlS rfl rfl rfl (J.nil (N.seq ?_))))))))))))))
 (refine W.cF rfl ?_)
 (refine W.skip (N.seq (W.seq (W.region (Jx.move rfl rfl ?_)))))
 (refine Jx.indexS (m := 0) rfl rfl (by decide) hl0 rfl ?_; rw [hg0])
 (refine Jx.convI (by kernel_rfl) rfl rfl ?_; rw [wrap_i64 (by omega)])
 (refine Jx.assign rfl rfl (J.nil (N.seq (W.seq (W.seq (W.region (Jx.move rfl rfl (Jx.gtrI rfl rfl rfl (J.nil (N.seq (W.cF rfl ?_)))))))))))
 (refine W.skip (N.seq (W.seq (W.seq (W.region (Jx.move rfl rfl (Jx.lenS rfl rfl ?_)))))))
 (refine Jx.move rfl rfl (Jx.add64 rfl rfl (by omega) rfl ?_))
 (refine Jx.lssI rfl rfl rfl (J.nil (N.seq (W.cT rfl ?_))))
 (refine W.seq (W.region (Jx.assign rfl rfl (Jx.assign rfl rfl (Jx.assign rfl rfl (J.nil (N.seq (W.ret (N.seqRet ?_)))))))))
 (refine id ?_; rotate_left))
        exact N.ret (rs := [.tmp 2, .tmp 3, .tmp 4]) rfl (.tmp rfl (.tmp rfl (.tmp rfl .nil))) ⟨⟨0, [], 20, rfl, by intro h; exact absurd h (by decide), fun _ => ⟨hn, rfl, rfl⟩⟩, rfl⟩
      · by_cases hbad : (0 < x.toNat ∧ (t.getD 0 0).toNat = 0) ∨ (x.toNat = 8 ∧ 128 ≤ (t.getD 0 0).toNat)
        · have hr : readN (x :: t) = (0, 0, 3) := by simp only [readN, if_neg h8, if_neg hsh, if_pos hbad]
          have hn : numP (some (x :: t)) = (0, none) := by simp only [numP, hr]; rfl
          have hl1 : (1 : Int) < ((x :: t).length : Int) := by simp only [List.length_cons]; omega
          generalize t.getD 0 0 = y0 at *
          generalize hst : x :: t = st at *
          by_cases hy : y0.toNat = 0
          · refine FnC.intro Tryz.func105 rfl Tryz.ntmps105 rfl fun Z w0 hG => ?_
            focus (
 (refine W.seq (W.region (Jx.assign rfl rfl (Jx.assign rfl rfl (Jx.assign rfl rfl (J.nil (N.seq (W.seq (W.seq (W.region (Jx.move rfl rfl (Jx.eqlS rfl rfl rfl (J.nil (N.seq ?_))))))))))))))
 (refine W.cF rfl ?_)
 (refine W.skip (N.seq (W.seq (W.region (Jx.move rfl rfl ?_)))))
 (refine Jx.indexS (m := 0) rfl rfl (by decide) hl0 rfl ?_; rw [hg0])
 (refine Jx.convI (by kernel_rfl) rfl rfl ?_; rw [wrap_i64 (by omega)])
 (refine Jx.assign rfl rfl (J.nil (N.seq (W.seq (W.seq (W.region (Jx.move rfl rfl (Jx.gtrI rfl rfl rfl (J.nil (N.seq (W.cF rfl ?_)))))))))))
 (refine W.skip (N.seq (W.seq (W.seq (W.region (Jx.move rfl rfl (Jx.lenS rfl rfl ?_)))))))
 (refine Jx.move rfl rfl (Jx.add64 rfl rfl (by omega) rfl ?_))
 (refine Jx.lssI rfl rfl rfl (J.nil (N.seq (W.cF rfl ?_))))
 (refine W.skip (N.seq (W.seq (W.seq (W.region (Jx.move rfl rfl (Jx.gtrI rfl rfl rfl (Jx.move rfl rfl (J.gY rfl rfl rfl ?_)))))))))
 (refine Jx.move rfl rfl (J.gY rfl rfl rfl ?_))
 (refine Jx.indexS (m := 1) rfl rfl (by decide) hl1 rfl ?_; rw [hg1])
 (refine J.gY rfl rfl rfl ?_)
 (refine Jx.eqlI rfl rfl rfl (Jx.pT rfl rfl rfl ?_))
 (refine Jx.move rfl rfl (J.gN rfl rfl rfl rfl ?_))
 (refine J.gN rfl rfl rfl rfl ?_)
 (refine J.gN rfl rfl rfl rfl ?_)
 (refine J.guardSkip rfl rfl rfl rfl ?_)
 (refine J.guardSkip rfl rfl rfl rfl ?_)
 (refine J.guardSkip rfl rfl rfl rfl ?_)
 (refine J.gN rfl rfl rfl rfl ?_)
 (refine Jx.pT rfl rfl rfl ?_)
 (refine J.nil (N.seq (W.cT rfl ?_)))
 (refine W.seq (W.region (Jx.assign rfl rfl (Jx.assign rfl rfl (Jx.assign rfl rfl (J.nil (N.seq (W.ret (N.seqRet ?_)))))))))
 (refine id ?_; rotate_left))
            exact N.ret (rs := [.tmp 2, .tmp 3, .tmp 4]) rfl (.tmp rfl (.tmp rfl (.tmp rfl .nil))) ⟨⟨0, [], 3, rfl, by intro h; exact absurd h (by decide), fun _ => ⟨hn, rfl, rfl⟩⟩, rfl⟩
          · have hx8 : x.toNat = 8 := by omega
            refine FnC.intro Tryz.func105 rfl Tryz.ntmps105 rfl fun Z w0 hG => ?_
            focus (
 (refine W.seq (W.region (Jx.assign rfl rfl (Jx.assign rfl rfl (Jx.assign rfl rfl (J.nil (N.seq (W.seq (W.seq (W.region (Jx.move rfl rfl (Jx.eqlS rfl rfl rfl (J.nil (N.seq ?_))))))))))))))
 (refine W.cF rfl ?_)
 (refine W.skip (N.seq (W.seq (W.region (Jx.move rfl rfl ?_)))))
 (refine Jx.indexS (m := 0) rfl rfl (by decide) hl0 rfl ?_; rw [hg0])
 (refine Jx.convI (by kernel_rfl) rfl rfl ?_; rw [wrap_i64 (by omega)])
 (refine Jx.assign rfl rfl (J.nil (N.seq (W.seq (W.seq (W.region (Jx.move rfl rfl (Jx.gtrI rfl rfl rfl (J.nil (N.seq (W.cF rfl ?_)))))))))))
 (refine W.skip (N.seq (W.seq (W.seq (W.region (Jx.move rfl rfl (Jx.lenS rfl rfl ?_)))))))
 (refine Jx.move rfl rfl (Jx.add64 rfl rfl (by omega) rfl ?_))
 (refine Jx.lssI rfl rfl rfl (J.nil (N.seq (W.cF rfl ?_))))
 (refine W.skip (N.seq (W.seq (W.seq (W.region (Jx.move rfl rfl (Jx.gtrI rfl rfl rfl (Jx.move rfl rfl (J.gY rfl rfl rfl ?_)))))))))
 (refine Jx.move rfl rfl (J.gY rfl rfl rfl ?_))
 (refine Jx.indexS (m := 1) rfl rfl (by decide) hl1 rfl ?_; rw [hg1])
 (refine J.gY rfl rfl rfl ?_)
 (refine Jx.eqlI rfl rfl rfl (Jx.pT rfl rfl rfl ?_))
 (refine Jx.move rfl rfl (J.gY rfl rfl rfl ?_))
 (refine Jx.move rfl rfl (J.gY rfl rfl rfl ?_))
 (refine Jx.eqlI rfl rfl rfl (J.gY rfl rfl rfl ?_))
 (refine Jx.move rfl rfl (J.gY rfl rfl rfl ?_))
 (refine Jx.move rfl rfl (J.gY rfl rfl rfl ?_))
 (refine Jx.indexS (m := 1) rfl rfl (by decide) hl1 rfl ?_; rw [hg1])
 (refine J.gY rfl rfl rfl ?_)
 (refine Jx.gtrI rfl rfl rfl (J.gY rfl rfl rfl ?_))
 (refine Jx.pT rfl rfl rfl ?_)
 (refine Jx.pF rfl rfl rfl ?_)
 (refine J.nil (N.seq (W.cT rfl ?_)))
 (refine W.seq (W.region (Jx.assign rfl rfl (Jx.assign rfl rfl (Jx.assign rfl rfl (J.nil (N.seq (W.ret (N.seqRet ?_)))))))))
 (refine id ?_; rotate_left))
            exact N.ret (rs := [.tmp 2, .tmp 3, .tmp 4]) rfl (.tmp rfl (.tmp rfl (.tmp rfl .nil))) ⟨⟨0, [], 3, rfl, by intro h; exact absurd h (by decide), fun _ => ⟨hn, rfl, rfl⟩⟩, rfl⟩
        · have hr : readN (x :: t) = (valB (t.take x.toNat), 1 + x.toNat, 0) := by simp only [readN, if_neg h8, if_neg hsh, if_neg hbad]
          have hn : numP (some (x :: t)) = (valB (t.take x.toNat), some ((x :: t).drop (1 + x.toNat))) := by simp only [numP, hr, if_true]
          have hvb := val_bound t x.toNat (by omega) (by omega) (fun h => hbad (.inr h))
          have hmo : ∀ i, i ≤ x.toNat → valB (t.take i) ≤ valB (t.take x.toNat) := fun i hi => by
            have := valB_mono (t.take x.toNat) (x.toNat - i) i (by rw [List.length_take]; omega)
            rwa [List.take_take, show min i x.toNat = i by omega] at this
          have hst1 : ∀ i, 1 ≤ i → i ≤ x.toNat → valB (t.take (i - 1)) * 256 + ((x :: t).getD ((i : Int)).toNat 0).toNat = valB (t.take i) := fun i h1 h2 => by
            obtain ⟨k, rfl⟩ : ∃ k, i = k + 1 := ⟨i - 1, by omega⟩
            simp only [Nat.add_sub_cancel, Int.toNat_natCast, List.getD_cons_succ]
            exact (valB_take t k (by omega)).symm
          have hdr : (x :: t).drop ((x.toNat : Int) + 1).toNat = (x :: t).drop (1 + x.toNat) := by congr 1; omega
          generalize hw : (x :: t).drop (1 + x.toNat) = rest at *
          by_cases h0 : x.toNat = 0
          · generalize hst : x :: t = st at *
            refine FnC.intro Tryz.func105 rfl Tryz.ntmps105 rfl fun Z w0 hG => ?_
            focus (
 (refine W.seq (W.region (Jx.assign rfl rfl (Jx.assign rfl rfl (Jx.assign rfl rfl (J.nil (N.seq (W.seq (W.seq (W.region (Jx.move rfl rfl (Jx.eqlS rfl rfl rfl (J.nil (N.seq ?_))))))))))))))
 (refine W.cF rfl ?_)
 (refine W.skip (N.seq (W.seq (W.region (Jx.move rfl rfl ?_)))))
 (refine Jx.indexS (m := 0) rfl rfl (by decide) hl0 rfl ?_; rw [hg0])
 (refine Jx.convI (by kernel_rfl) rfl rfl ?_; rw [wrap_i64 (by omega)])
 (refine Jx.assign rfl rfl (J.nil (N.seq (W.seq (W.seq (W.region (Jx.move rfl rfl (Jx.gtrI rfl rfl rfl (J.nil (N.seq (W.cF rfl ?_)))))))))))
 (refine W.skip (N.seq (W.seq (W.seq (W.region (Jx.move rfl rfl (Jx.lenS rfl rfl ?_)))))))
 (refine Jx.move rfl rfl (Jx.add64 rfl rfl (by omega) rfl ?_))
 (refine Jx.lssI rfl rfl rfl (J.nil (N.seq (W.cF rfl ?_))))
 (refine W.skip (N.seq (W.seq (W.seq (W.region (Jx.move rfl rfl (Jx.gtrI rfl rfl rfl (Jx.move rfl rfl (J.gN rfl rfl rfl rfl ?_)))))))))
 (refine J.gN rfl rfl rfl rfl ?_)
 (refine J.gN rfl rfl rfl rfl ?_)
 (refine Jx.pF rfl rfl rfl ?_)
 (refine Jx.move rfl rfl (J.gY rfl rfl rfl ?_))
 (refine Jx.move rfl rfl (J.gY rfl rfl rfl ?_))
 (refine Jx.eqlI rfl rfl rfl (J.gY rfl rfl rfl ?_))
 (refine Jx.move rfl rfl (J.gN rfl rfl rfl rfl ?_))
 (refine J.gN rfl rfl rfl rfl ?_)
 (refine J.gN rfl rfl rfl rfl ?_)
 (refine J.gY rfl rfl rfl ?_)
 (refine Jx.pF rfl rfl rfl ?_)
 (refine Jx.pF rfl rfl rfl ?_)
 (refine J.nil (N.seq (W.cF rfl ?_)))
 (refine W.skip (N.seq (W.seq (W.region (Jx.assign rfl rfl (J.nil (N.seq (W.seq (W.seq (W.region (Jx.assign rfl rfl (J.nil (N.seq (W.block ?_))))))))))))))
 (refine id ?_; rotate_left))
            refine W.loop (α := Unit) (fun _ => [(7, int 1), (6, int 0), (5, int x.toNat), (0, str st)]) (fun _ => []) (fun _ => True) (fun _ => 0) () trivial rfl ⟨ref0 rfl, ref0 rfl, ref0 rfl, ref0 rfl, trivial⟩ ?_
            intro _ _
            focus (
 (refine W.seq (W.seq (W.region (Jx.move rfl rfl (Jx.move rfl rfl (Jx.leqI rfl rfl rfl (J.nil (N.seq (W.cF rfl ?_)))))))))
 (refine W.exit (N.seq (W.seq ?_)))
 (refine W.draw follows ?_)
 (refine JD.calm rfl (by decide +kernel) ?_)
 (refine Cx.move rfl rfl ?_)
 (refine Cx.move rfl rfl ?_)
 (refine Cx.move rfl rfl ?_)
 (refine Cx.add64 rfl rfl (by omega) rfl ?_)
 (refine Cx.sliceSl rfl rfl (by omega) (by omega) rfl ?_)
 (refine Cx.assign rfl rfl ?_)
 (refine Cx.assign rfl rfl ?_)
 (refine Cx.assign rfl rfl ?_)
 (refine SegC.nil ?_)
 (refine N.seq (W.ret ?_))
 (refine id ?_; rotate_left))
            refine N.ret (rs := [.tmp 2, .tmp 3, .tmp 4]) rfl (.tmp rfl (.tmp rfl (.tmp rfl .nil))) ⟨⟨0, rest, 0, by rw [← hdr]; rfl, fun _ => ?_, fun h => absurd rfl h⟩, rfl⟩
            rw [hn, h0]; rfl
          · have hl1 : (1 : Int) < ((x :: t).length : Int) := by simp only [List.length_cons]; omega
            generalize hy1 : t.getD 0 0 = y0 at *
            generalize hst : x :: t = st at *
            by_cases hx8 : x.toNat = 8
            · refine FnC.intro Tryz.func105 rfl Tryz.ntmps105 rfl fun Z w0 hG => ?_
              focus (
 (refine W.seq (W.region (Jx.assign rfl rfl (Jx.assign rfl rfl (Jx.assign rfl rfl (J.nil (N.seq (W.seq (W.seq (W.region (Jx.move rfl rfl (Jx.eqlS rfl rfl rfl (J.nil (N.seq ?_))))))))))))))
 (refine W.cF rfl ?_)
 (refine W.skip (N.seq (W.seq (W.region (Jx.move rfl rfl ?_)))))
 (refine Jx.indexS (m := 0) rfl rfl (by decide) hl0 rfl ?_; rw [hg0])
 (refine Jx.convI (by kernel_rfl) rfl rfl ?_; rw [wrap_i64 (by omega)])
 (refine Jx.assign rfl rfl (J.nil (N.seq (W.seq (W.seq (W.region (Jx.move rfl rfl (Jx.gtrI rfl rfl rfl (J.nil (N.seq (W.cF rfl ?_)))))))))))
 (refine W.skip (N.seq (W.seq (W.seq (W.region (Jx.move rfl rfl (Jx.lenS rfl rfl ?_)))))))
 (refine Jx.move rfl rfl (Jx.add64 rfl rfl (by omega) rfl ?_))
 (refine Jx.lssI rfl rfl rfl (J.nil (N.seq (W.cF rfl ?_))))
 (refine W.skip (N.seq (W.seq (W.seq (W.region (Jx.move rfl rfl (Jx.gtrI rfl rfl rfl (Jx.move rfl rfl (J.gY rfl rfl rfl ?_)))))))))
 (refine Jx.move rfl rfl (J.gY rfl rfl rfl ?_))
 (refine Jx.indexS (m := 1) rfl rfl (by decide) hl1 rfl ?_; rw [hg1])
 (refine J.gY rfl rfl rfl ?_)
 (refine Jx.eqlI rfl rfl rfl (Jx.pT rfl rfl rfl ?_))
 (refine Jx.move rfl rfl (J.gY rfl rfl rfl ?_))
 (refine Jx.move rfl rfl (J.gY rfl rfl rfl ?_))
 (refine Jx.eqlI rfl rfl rfl (J.gY rfl rfl rfl ?_))
 (refine Jx.move rfl rfl (J.gY rfl rfl rfl ?_))
 (refine Jx.move rfl rfl (J.gY rfl rfl rfl ?_))
 (refine Jx.indexS (m := 1) rfl rfl (by decide) hl1 rfl ?_; rw [hg1])
 (refine J.gY rfl rfl rfl ?_)
 (refine Jx.gtrI rfl rfl rfl (J.gY rfl rfl rfl ?_))
 (refine Jx.pT rfl rfl rfl ?_)
 (refine Jx.pF rfl rfl rfl ?_)
 (refine J.nil (N.seq (W.cF rfl ?_)))
 (refine W.skip (N.seq (W.seq (W.region (Jx.assign rfl rfl (J.nil (N.seq (W.seq (W.seq (W.region (Jx.assign rfl rfl (J.nil (N.seq (W.block ?_))))))))))))))
 (refine id ?_; rotate_left))
              refine W.loop (α := Nat) (fun i => [(7, int (i : Int)), (6, int (valB (t.take (i - 1)) : Int)), (5, int x.toNat), (0, str st)]) (fun _ => []) (fun i => 1 ≤ i ∧ i ≤ x.toNat + 1) (fun i => x.toNat + 1 - i) 1 (by omega) rfl ⟨ref0 rfl, ref0 rfl, ref0 rfl, ref0 rfl, trivial⟩ ?_
              rintro i ⟨hi1, hi2⟩
              by_cases hi : i ≤ x.toNat
              · have hb1 := hst1 i hi1 hi
                have hb2 := hmo i hi
                focus (
 (refine W.seq (W.seq (W.region (Jx.move rfl rfl (Jx.move rfl rfl (Jx.leqI rfl rfl rfl (J.nil (N.seq (W.cT rfl ?_)))))))))
 (refine W.skip (N.seq (W.seq (W.block (W.region (Jx.move rfl rfl (Jx.mul64 rfl rfl (by omega) rfl ?_)))))))
 (refine Jx.move rfl rfl (Jx.move rfl rfl (Jx.indexS rfl rfl (by omega) (by omega) rfl ?_)))
 (refine Jx.convI (by kernel_rfl) rfl rfl ?_; rw [wrap_i64 (by omega)])
 (refine Jx.add64 rfl rfl (by omega) rfl ?_)
 (refine Jx.assign rfl rfl (J.nil (N.seq (W.region (Jx.move rfl rfl (Jx.add64 rfl rfl (by omega) rfl ?_))))))
 (refine Jx.assign rfl rfl (J.nil ?_))
 (refine id ?_; rotate_left))
                exact N.round (i + 1) (by omega) (by omega) rfl ⟨ref0 rfl, ⟨_, rfl, Sub.of_eq (by simp only [Nat.add_sub_cancel, ← hb1]; congr 2)⟩, ref0 rfl, ref0 rfl, trivial⟩
              · have hix : i = x.toNat + 1 := by omega
                focus (
 (refine W.seq (W.seq (W.region (Jx.move rfl rfl (Jx.move rfl rfl (Jx.leqI rfl rfl rfl (J.nil (N.seq (W.cF rfl ?_)))))))))
 (refine W.exit (N.seq (W.seq ?_)))
 (refine W.draw follows ?_)
 (refine JD.calm rfl (by decide +kernel) ?_)
 (refine Cx.move rfl rfl ?_)
 (refine Cx.move rfl rfl ?_)
 (refine Cx.move rfl rfl ?_)
 (refine Cx.add64 rfl rfl (by omega) rfl ?_)
 (refine Cx.sliceSl rfl rfl (by omega) (by omega) rfl ?_)
 (refine Cx.assign rfl rfl ?_)
 (refine Cx.assign rfl rfl ?_)
 (refine Cx.assign rfl rfl ?_)
 (refine SegC.nil ?_)
 (refine N.seq (W.ret ?_))
 (refine id ?_; rotate_left))
                refine N.ret (rs := [.tmp 2, .tmp 3, .tmp 4]) rfl (.tmp rfl (.tmp rfl (.tmp rfl .nil))) ⟨⟨valB (t.take x.toNat), rest, 0, by rw [hix, Nat.add_sub_cancel, ← hdr]; rfl, fun _ => hn, fun h => absurd rfl h⟩, rfl⟩
            · refine FnC.intro Tryz.func105 rfl Tryz.ntmps105 rfl fun Z w0 hG => ?_
              focus (
 (refine W.seq (W.region (Jx.assign rfl rfl (Jx.assign rfl rfl (Jx.assign rfl rfl (J.nil (N.seq (W.seq (W.seq (W.region (Jx.move rfl rfl (Jx.eqlS rfl rfl rfl (J.nil (N.seq ?_))))))))))))))
 (refine W.cF rfl ?_)
 (refine W.skip (N.seq (W.seq (W.region (Jx.move rfl rfl ?_)))))
 (refine Jx.indexS (m := 0) rfl rfl (by decide) hl0 rfl ?_; rw [hg0])
 (refine Jx.convI (by kernel_rfl) rfl rfl ?_; rw [wrap_i64 (by omega)])
 (refine Jx.assign rfl rfl (J.nil (N.seq (W.seq (W.seq (W.region (Jx.move rfl rfl (Jx.gtrI rfl rfl rfl (J.nil (N.seq (W.cF rfl ?_)))))))))))
 (refine W.skip (N.seq (W.seq (W.seq (W.region (Jx.move rfl rfl (Jx.lenS rfl rfl ?_)))))))
 (refine Jx.move rfl rfl (Jx.add64 rfl rfl (by omega) rfl ?_))
 (refine Jx.lssI rfl rfl rfl (J.nil (N.seq (W.cF rfl ?_))))
 (refine W.skip (N.seq (W.seq (W.seq (W.region (Jx.move rfl rfl (Jx.gtrI rfl rfl rfl (Jx.move rfl rfl (J.gY rfl rfl rfl ?_)))))))))
 (refine Jx.move rfl rfl (J.gY rfl rfl rfl ?_))
 (refine Jx.indexS (m := 1) rfl rfl (by decide) hl1 rfl ?_; rw [hg1])
 (refine J.gY rfl rfl rfl ?_)
 (refine Jx.eqlI rfl rfl rfl (Jx.pT rfl rfl rfl ?_))
 (refine Jx.move rfl rfl (J.gY rfl rfl rfl ?_))
 (refine Jx.move rfl rfl (J.gY rfl rfl rfl ?_))
 (refine Jx.eqlI rfl rfl rfl (J.gY rfl rfl rfl ?_))
 (refine Jx.move rfl rfl (J.gN rfl rfl rfl rfl ?_))
 (refine J.gN rfl rfl rfl rfl ?_)
 (refine J.gN rfl rfl rfl rfl ?_)
 (refine J.gY rfl rfl rfl ?_)
 (refine Jx.pF rfl rfl rfl ?_)
 (refine Jx.pF rfl rfl rfl ?_)
 (refine J.nil (N.seq (W.cF rfl ?_)))
 (refine W.skip (N.seq (W.seq (W.region (Jx.assign rfl rfl (J.nil (N.seq (W.seq (W.seq (W.region (Jx.assign rfl rfl (J.nil (N.seq (W.block ?_))))))))))))))
 (refine id ?_; rotate_left))
              refine W.loop (α := Nat) (fun i => [(7, int (i : Int)), (6, int (valB (t.take (i - 1)) : Int)), (5, int x.toNat), (0, str st)]) (fun _ => []) (fun i => 1 ≤ i ∧ i ≤ x.toNat + 1) (fun i => x.toNat + 1 - i) 1 (by omega) rfl ⟨ref0 rfl, ref0 rfl, ref0 rfl, ref0 rfl, trivial⟩ ?_
              rintro i ⟨hi1, hi2⟩
              by_cases hi : i ≤ x.toNat
              · have hb1 := hst1 i hi1 hi
                have hb2 := hmo i hi
                focus (
 (refine W.seq (W.seq (W.region (Jx.move rfl rfl (Jx.move rfl rfl (Jx.leqI rfl rfl rfl (J.nil (N.seq (W.cT rfl ?_)))))))))
 (refine W.skip (N.seq (W.seq (W.block (W.region (Jx.move rfl rfl (Jx.mul64 rfl rfl (by omega) rfl ?_)))))))
 (refine Jx.move rfl rfl (Jx.move rfl rfl (Jx.indexS rfl rfl (by omega) (by omega) rfl ?_)))
 (refine Jx.convI (by kernel_rfl) rfl rfl ?_; rw [wrap_i64 (by omega)])
 (refine Jx.add64 rfl rfl (by omega) rfl ?_)
 (refine Jx.assign rfl rfl (J.nil (N.seq (W.region (Jx.move rfl rfl (Jx.add64 rfl rfl (by omega) rfl ?_))))))
 (refine Jx.assign rfl rfl (J.nil ?_))
 (refine id ?_; rotate_left))
                exact N.round (i + 1) (by omega) (by omega) rfl ⟨ref0 rfl, ⟨_, rfl, Sub.of_eq (by simp only [Nat.add_sub_cancel, ← hb1]; congr 2)⟩, ref0 rfl, ref0 rfl, trivial⟩
              · have hix : i = x.toNat + 1 := by omega
                focus (
 (refine W.seq (W.seq (W.region (Jx.move rfl rfl (Jx.move rfl rfl (Jx.leqI rfl rfl rfl (J.nil (N.seq (W.cF rfl ?_)))))))))
 (refine W.exit (N.seq (W.seq ?_)))
 (refine W.draw follows ?_)
 (refine JD.calm rfl (by decide +kernel) ?_)
 (refine Cx.move rfl rfl ?_)
 (refine Cx.move rfl rfl ?_)
 (refine Cx.move rfl rfl ?_)
 (refine Cx.add64 rfl rfl (by omega) rfl ?_)
 (refine Cx.sliceSl rfl rfl (by omega) (by omega) rfl ?_)
 (refine Cx.assign rfl rfl ?_)
 (refine Cx.assign rfl rfl ?_)
 (refine Cx.assign rfl rfl ?_)
 (refine SegC.nil ?_)
 (refine N.seq (W.ret ?_))
 (refine id ?_; rotate_left))
                refine N.ret (rs := [.tmp 2, .tmp 3, .tmp 4]) rfl (.tmp rfl (.tmp rfl (.tmp rfl .nil))) ⟨⟨valB (t.take x.toNat), rest, 0, by rw [hix, Nat.add_sub_cancel, ← hdr]; rfl, fun _ => hn, fun h => absurd rfl h⟩, rfl⟩
end Go.Proofs.YtlfdhkahiaammaaGreatDoor
namespace Go.Proofs.YtlfdhkahiaammaaGreatDoor
open Go Go.Sse
set_option linter.unusedVariables false
set_option linter.unusedSimpArgs false
set_option maxRecDepth 10000
abbrev tRr : Nat := 73
abbrev rrO (b : Nat) (s : List UInt8) (e : Int) : Own := .obj b tRr [str s, int e]
def rf (s : List UInt8) (e : Int) : PSt := if e = 0 then some s else none
theorem rf_no {s : List UInt8} {e : Int} (h : e ≠ 0) : rf s e = none := if_neg h
theorem numP_len {s r : List UInt8} {n : Nat} (h : numP (some s) = (n, some r)) : r.length ≤ s.length := by
  have := (numP_good h).1
  simp only [Option.some.injEq] at this
  rw [this, List.length_append]; omega
theorem textP_len {m : Int} {s r t : List UInt8} (h : textP m (some s) = (t, some r)) : r.length ≤ s.length := by
  have := (textP_good h).1
  simp only [Option.some.injEq] at this
  rw [this, List.length_append]; omega
theorem r_text (s : List UInt8) (m : Int) (hs : s.length ≤ 1099511627776) : FnC Tryz.prog 87 [str s, int m] [] (fun v L => (∃ (t r : List UInt8) (e : Int), v = .tup [str t, str r, int e] ∧ (e = 0 → textP m (some s) = (t, some r)) ∧ (e ≠ 0 → textP m (some s) = ([], none) ∧ t = [] ∧ r = [])) ∧ L = []) := by
  have c1 := r_take s hs
  refine FnC.intro Tryz.func87 rfl Tryz.ntmps87 rfl fun Z w0 hG => ?_
  focus (
 (refine W.seq (W.region (Jx.assign rfl rfl (Jx.assign rfl rfl (Jx.assign rfl rfl (J.nil (N.seq (W.seq (W.region (Jx.move rfl rfl ?_))))))))))
 (refine J.call (c1) rfl (evs_args rfl) rfl ?_; rintro _ _ ⟨⟨n, r, e, rfl, hy, hz⟩, rfl⟩; simp only [la1, la2, la3])
 (refine Jx.move rfl rfl (Jx.extract rfl rfl rfl ?_))
 (refine Jx.extract rfl rfl rfl ?_)
 (refine Jx.extract rfl rfl rfl ?_)
 (refine Jx.assign rfl rfl (Jx.assign rfl rfl (Jx.assign rfl rfl (J.nil (N.seq (W.seq (W.seq (W.region (Jx.move rfl rfl (Jx.neqI rfl rfl rfl (J.nil (N.seq ?_))))))))))))
 (refine id ?_; rotate_left))
  by_cases he : e = 0
  · have h1 := hy he
    have h2 := numP_len h1
    by_cases hm : m < (n : Int)
    · focus (
 (refine W.cF rfl ?_)
 (refine W.skip (N.seq (W.seq (W.seq (W.region (Jx.move rfl rfl (Jx.move rfl rfl (Jx.gtrI rfl rfl rfl (J.nil (N.seq (W.cT rfl ?_)))))))))))
 (refine W.seq (W.region (Jx.assign rfl rfl (Jx.assign rfl rfl (Jx.assign rfl rfl (J.nil (N.seq (W.ret (N.seqRet ?_)))))))))
 (refine id ?_; rotate_left))
      refine N.ret (rs := [.tmp 4, .tmp 5, .tmp 6]) rfl (.tmp rfl (.tmp rfl (.tmp rfl .nil))) ⟨⟨[], [], 2, rfl, by intro h; exact absurd h (by decide), fun _ => ⟨?_, rfl, rfl⟩⟩, rfl⟩
      simp only [textP, h1]
      rw [if_neg (by omega)]
    · by_cases hl : (r.length : Int) < (n : Int)
      · focus (
 (refine W.cF rfl ?_)
 (refine W.skip (N.seq (W.seq (W.seq (W.region (Jx.move rfl rfl (Jx.move rfl rfl (Jx.gtrI rfl rfl rfl (J.nil (N.seq (W.cF rfl ?_)))))))))))
 (refine W.skip (N.seq (W.seq (W.seq (W.region (Jx.move rfl rfl (Jx.move rfl rfl (Jx.lenS rfl rfl ?_))))))))
 (refine Jx.gtrI rfl rfl rfl (J.nil (N.seq (W.cT rfl ?_))))
 (refine W.seq (W.region (Jx.assign rfl rfl (Jx.assign rfl rfl (Jx.assign rfl rfl (J.nil (N.seq (W.ret (N.seqRet ?_)))))))))
 (refine id ?_; rotate_left))
        refine N.ret (rs := [.tmp 4, .tmp 5, .tmp 6]) rfl (.tmp rfl (.tmp rfl (.tmp rfl .nil))) ⟨⟨[], [], 20, rfl, by intro h; exact absurd h (by decide), fun _ => ⟨?_, rfl, rfl⟩⟩, rfl⟩
        simp only [textP, h1]
        rw [if_pos (by omega)]
        simp only [bytesP]
        rw [if_neg (by omega)]
      · focus (
 (refine W.cF rfl ?_)
 (refine W.skip (N.seq (W.seq (W.seq (W.region (Jx.move rfl rfl (Jx.move rfl rfl (Jx.gtrI rfl rfl rfl (J.nil (N.seq (W.cF rfl ?_)))))))))))
 (refine W.skip (N.seq (W.seq (W.seq (W.region (Jx.move rfl rfl (Jx.move rfl rfl (Jx.lenS rfl rfl ?_))))))))
 (refine Jx.gtrI rfl rfl rfl (J.nil (N.seq (W.cF rfl ?_))))
 (refine W.skip (N.seq (W.seq ?_)))
 (refine W.draw follows ?_)
 (refine JD.calm rfl (by decide +kernel) ?_)
 (refine Cx.move rfl rfl ?_)
 (refine Cx.move rfl rfl ?_)
 (refine Cx.sliceSh rfl rfl (by omega) (by omega) rfl ?_)
 (refine Cx.move rfl rfl ?_)
 (refine Cx.move rfl rfl ?_)
 (refine Cx.sliceSl rfl rfl (by omega) (by omega) rfl ?_)
 (refine Cx.assign rfl rfl ?_)
 (refine Cx.assign rfl rfl ?_)
 (refine Cx.assign rfl rfl ?_)
 (refine SegC.nil ?_)
 (refine N.seq (W.ret ?_))
 (refine id ?_; rotate_left))
        refine N.ret (rs := [.tmp 4, .tmp 5, .tmp 6]) rfl (.tmp rfl (.tmp rfl (.tmp rfl .nil))) ⟨⟨r.take n, r.drop n, 0, rfl, fun _ => ?_, fun h => absurd rfl h⟩, rfl⟩
        simp only [textP, h1]
        rw [if_pos (by omega)]
        simp only [bytesP]
        rw [if_pos (by omega)]
  · obtain ⟨h1, rfl, rfl⟩ := hz he
    focus (
 (refine W.cT rfl ?_)
 (refine W.seq (W.region (Jx.move rfl rfl (Jx.assign rfl rfl (Jx.assign rfl rfl (Jx.assign rfl rfl (J.nil (N.seq (W.ret (N.seqRet ?_))))))))))
 (refine id ?_; rotate_left))
    refine N.ret (rs := [.tmp 4, .tmp 5, .tmp 6]) rfl (.tmp rfl (.tmp rfl (.tmp rfl .nil))) ⟨⟨[], [], e, rfl, fun h => absurd h he, fun _ => ⟨?_, rfl, rfl⟩⟩, rfl⟩
    simp only [textP, h1]
theorem r_Num (b : Nat) (s : List UInt8) (c : Int) (hs : s.length ≤ 1099511627776) :
    FnC Tryz.prog 63 [ptr b] [rrO b s c] (fun v L => ∃ (n : Nat) (s' : List UInt8) (c' : Int), v = int (n : Int) ∧ L = [rrO b s' c'] ∧ s'.length ≤ s.length ∧ numP (rf s c) = (n, rf s' c')) := by
  by_cases hc : c = 0
  · subst hc
    have c1 := r_take s hs
    refine FnC.intro Tryz.func63 rfl Tryz.ntmps63 rfl fun Z w0 hG => ?_
    focus (
 (refine W.seq (W.region (Jx.assign rfl rfl (J.nil (N.seq (W.seq (W.seq (W.region (Jx.move rfl rfl (Jx.nilCheck rfl rfl ?_))))))))))
 (refine Jx.fieldAddr rfl rfl ?_)
 (refine Jx.load rfl 0 rfl rfl rfl ?_)
 (refine Jx.neqI rfl rfl rfl (J.nil (N.seq (W.cF rfl ?_))))
 (refine W.skip (N.seq (W.seq (W.region (Jx.move rfl rfl (Jx.nilCheck rfl rfl ?_))))))
 (refine Jx.fieldAddr rfl rfl ?_)
 (refine Jx.load rfl 0 rfl rfl rfl ?_)
 (refine J.call (c1) rfl (evs_args rfl) rfl ?_; rintro _ _ ⟨⟨n, r, e, rfl, hy, hz⟩, rfl⟩; simp only [la1, la2, la3])
 (refine Jx.move rfl rfl (Jx.extract rfl rfl rfl ?_))
 (refine Jx.extract rfl rfl rfl ?_)
 (refine Jx.extract rfl rfl rfl ?_)
 (refine Jx.assign rfl rfl (Jx.assign rfl rfl (Jx.assign rfl rfl (J.nil (N.seq (W.seq (W.region (Jx.move rfl rfl (Jx.move rfl rfl (Jx.nilCheck rfl rfl ?_))))))))))
 (refine Jx.fieldAddr rfl rfl ?_)
 (refine J.store rfl rfl (by first | exact One.val rfl | exact One.sl | exact One.pp | exact One.slc) 0 rfl rfl rfl rfl ?_)
 (refine J.nil (N.seq (W.seq (W.seq (W.region (Jx.move rfl rfl (Jx.neqI rfl rfl rfl (J.nil (N.seq ?_)))))))))
 (refine id ?_; rotate_left))
    by_cases he : e = 0
    · have h1 := hy he
      have h2 := numP_len h1
      focus (
 (refine W.cF rfl ?_)
 (refine W.skip (N.seq (W.seq (W.region (Jx.move rfl rfl (Jx.move rfl rfl (Jx.nilCheck rfl rfl ?_)))))))
 (refine Jx.fieldAddr rfl rfl ?_)
 (refine J.store rfl rfl (by first | exact One.val rfl | exact One.sl | exact One.pp | exact One.slc) 0 rfl rfl rfl rfl ?_)
 (refine J.nil (N.seq (W.seq (W.region (Jx.move rfl rfl (Jx.assign rfl rfl (J.nil (N.seq (W.ret ?_)))))))))
 (refine id ?_; rotate_left))
      exact N.ret (rs := [.tmp 2]) rfl (.tmp rfl .nil) ⟨n, r, e, rfl, rfl, h2, by rw [he]; exact h1⟩
    · obtain ⟨h1, rfl, rfl⟩ := hz he
      focus (
 (refine W.cT rfl ?_)
 (refine W.seq (W.region (Jx.assign rfl rfl (J.nil (N.seq (W.ret (N.seqRet ?_)))))))
 (refine id ?_; rotate_left))
      exact N.ret (rs := [.tmp 2]) rfl (.tmp rfl .nil) ⟨0, s, e, rfl, rfl, Nat.le_refl _, by rw [rf_no he]; exact h1⟩
  · refine FnC.intro Tryz.func63 rfl Tryz.ntmps63 rfl fun Z w0 hG => ?_
    focus (
 (refine W.seq (W.region (Jx.assign rfl rfl (J.nil (N.seq (W.seq (W.seq (W.region (Jx.move rfl rfl (Jx.nilCheck rfl rfl ?_))))))))))
 (refine Jx.fieldAddr rfl rfl ?_)
 (refine Jx.load rfl 0 rfl rfl rfl ?_)
 (refine Jx.neqI rfl rfl rfl (J.nil (N.seq (W.cT rfl ?_))))
 (refine W.seq (W.region (Jx.assign rfl rfl (J.nil (N.seq (W.ret (N.seqRet ?_)))))))
 (refine id ?_; rotate_left))
    exact N.ret (rs := [.tmp 2]) rfl (.tmp rfl .nil) ⟨0, s, c, rfl, rfl, Nat.le_refl _, by rw [rf_no hc]; rfl⟩
theorem r_Bytes (b : Nat) (s : List UInt8) (c : Int) (n : Nat) (hs : s.length ≤ 1099511627776) :
    FnC Tryz.prog 64 [ptr b, int (n : Int)] [rrO b s c] (fun v L => ∃ (t s' : List UInt8) (c' : Int), v = str t ∧ L = [rrO b s' c'] ∧ s'.length ≤ s.length ∧ bytesP n (rf s c) = (t, rf s' c')) := by
  by_cases hc : c = 0
  · subst hc
    refine FnC.intro Tryz.func64 rfl Tryz.ntmps64 rfl fun Z w0 hG => ?_
    by_cases hl : (s.length : Int) < (n : Int)
    · focus (
 (refine W.seq (W.region (Jx.assign rfl rfl (J.nil (N.seq (W.seq (W.seq (W.region (Jx.move rfl rfl (Jx.nilCheck rfl rfl ?_))))))))))
 (refine Jx.fieldAddr rfl rfl ?_)
 (refine Jx.load rfl 0 rfl rfl rfl ?_)
 (refine Jx.neqI rfl rfl rfl (J.nil (N.seq (W.cF rfl ?_))))
 (refine W.skip (N.seq (W.seq (W.seq (W.region (Jx.move rfl rfl (Jx.lssI rfl rfl rfl (J.nil (N.seq (W.cF rfl ?_))))))))))
 (refine W.skip (N.seq (W.seq (W.seq (W.region (Jx.move rfl rfl (Jx.move rfl rfl (Jx.nilCheck rfl rfl ?_))))))))
 (refine Jx.fieldAddr rfl rfl ?_)
 (refine Jx.load rfl 0 rfl rfl rfl ?_)
 (refine Jx.lenS rfl rfl ?_)
 (refine Jx.gtrI rfl rfl rfl (J.nil (N.seq (W.cT rfl ?_))))
 (refine W.seq (W.region (Jx.move rfl rfl (Jx.nilCheck rfl rfl ?_))))
 (refine Jx.fieldAddr rfl rfl ?_)
 (refine J.store rfl rfl (by first | exact One.val rfl | exact One.sl | exact One.pp | exact One.slc) 0 rfl rfl rfl rfl ?_)
 (refine J.nil (N.seq (W.seq (W.region (Jx.assign rfl rfl (J.nil (N.seq (W.ret (N.seqRet ?_)))))))))
 (refine id ?_; rotate_left))
      exact N.ret (rs := [.tmp 4]) rfl (.tmp rfl .nil) ⟨[], s, 20, rfl, rfl, Nat.le_refl _, by simp only [rf, if_true, bytesP]; rw [if_neg (by omega)]; rfl⟩
    · focus (
 (refine W.seq (W.region (Jx.assign rfl rfl (J.nil (N.seq (W.seq (W.seq (W.region (Jx.move rfl rfl (Jx.nilCheck rfl rfl ?_))))))))))
 (refine Jx.fieldAddr rfl rfl ?_)
 (refine Jx.load rfl 0 rfl rfl rfl ?_)
 (refine Jx.neqI rfl rfl rfl (J.nil (N.seq (W.cF rfl ?_))))
 (refine W.skip (N.seq (W.seq (W.seq (W.region (Jx.move rfl rfl (Jx.lssI rfl rfl rfl (J.nil (N.seq (W.cF rfl ?_))))))))))
 (refine W.skip (N.seq (W.seq (W.seq (W.region (Jx.move rfl rfl (Jx.move rfl rfl (Jx.nilCheck rfl rfl ?_))))))))
 (refine Jx.fieldAddr rfl rfl ?_)
 (refine Jx.load rfl 0 rfl rfl rfl ?_)
 (refine Jx.lenS rfl rfl ?_)
 (refine Jx.gtrI rfl rfl rfl (J.nil (N.seq (W.cF rfl ?_))))
 (refine W.skip (N.seq (W.seq (W.region (Jx.move rfl rfl (Jx.nilCheck rfl rfl ?_))))))
 (refine Jx.fieldAddr rfl rfl ?_)
 (refine Jx.load rfl 0 rfl rfl rfl ?_)
 (refine Jx.move rfl rfl (Jx.sliceSh rfl rfl (by omega) (by omega) rfl ?_))
 (refine Jx.assign rfl rfl (J.nil (N.seq (W.seq (W.region (Jx.move rfl rfl (Jx.move rfl rfl (Jx.nilCheck rfl rfl ?_))))))))
 (refine Jx.fieldAddr rfl rfl ?_)
 (refine Jx.load rfl 0 rfl rfl rfl ?_)
 (refine Jx.move rfl rfl (Jx.sliceSl rfl rfl (by omega) (by omega) rfl ?_))
 (refine Jx.nilCheck rfl rfl ?_)
 (refine Jx.fieldAddr rfl rfl ?_)
 (refine J.store rfl rfl (by first | exact One.val rfl | exact One.sl | exact One.pp | exact One.slc) 0 rfl rfl rfl rfl ?_)
 (refine J.nil (N.seq (W.seq (W.region (Jx.move rfl rfl (Jx.assign rfl rfl (J.nil (N.seq (W.ret ?_)))))))))
 (refine id ?_; rotate_left))
      exact N.ret (rs := [.tmp 4]) rfl (.tmp rfl .nil) ⟨s.take n, s.drop n, 0, rfl, rfl, by rw [List.length_drop]; omega, by simp only [rf, if_true, bytesP]; rw [if_pos (by omega)]⟩
  · refine FnC.intro Tryz.func64 rfl Tryz.ntmps64 rfl fun Z w0 hG => ?_
    focus (
 (refine W.seq (W.region (Jx.assign rfl rfl (J.nil (N.seq (W.seq (W.seq (W.region (Jx.move rfl rfl (Jx.nilCheck rfl rfl ?_))))))))))
 (refine Jx.fieldAddr rfl rfl ?_)
 (refine Jx.load rfl 0 rfl rfl rfl ?_)
 (refine Jx.neqI rfl rfl rfl (J.nil (N.seq (W.cT rfl ?_))))
 (refine W.seq (W.region (Jx.assign rfl rfl (J.nil (N.seq (W.ret (N.seqRet ?_)))))))
 (refine id ?_; rotate_left))
    exact N.ret (rs := [.tmp 4]) rfl (.tmp rfl .nil) ⟨[], s, c, rfl, rfl, Nat.le_refl _, by rw [rf_no hc]; rfl⟩
theorem r_Text (b : Nat) (s : List UInt8) (c : Int) (m : Int) (hs : s.length ≤ 1099511627776) :
    FnC Tryz.prog 45 [ptr b, int m] [rrO b s c] (fun v L => ∃ (t s' : List UInt8) (c' : Int), v = str t ∧ L = [rrO b s' c'] ∧ s'.length ≤ s.length ∧ textP m (rf s c) = (t, rf s' c')) := by
  by_cases hc : c = 0
  · subst hc
    have c1 := r_text s m hs
    refine FnC.intro Tryz.func45 rfl Tryz.ntmps45 rfl fun Z w0 hG => ?_
    focus (
 (refine W.seq (W.region (Jx.assign rfl rfl (J.nil (N.seq (W.seq (W.seq (W.region (Jx.move rfl rfl (Jx.nilCheck rfl rfl ?_))))))))))
 (refine Jx.fieldAddr rfl rfl ?_)
 (refine Jx.load rfl 0 rfl rfl rfl ?_)
 (refine Jx.neqI rfl rfl rfl (J.nil (N.seq (W.cF rfl ?_))))
 (refine W.skip (N.seq (W.seq (W.region (Jx.move rfl rfl (Jx.nilCheck rfl rfl ?_))))))
 (refine Jx.fieldAddr rfl rfl ?_)
 (refine Jx.load rfl 0 rfl rfl rfl ?_)
 (refine Jx.move rfl rfl ?_)
 (refine J.call (c1) rfl (evs_args rfl) rfl ?_; rintro _ _ ⟨⟨n, r, e, rfl, hy, hz⟩, rfl⟩; simp only [la1, la2, la3])
 (refine Jx.move rfl rfl (Jx.extract rfl rfl rfl ?_))
 (refine Jx.extract rfl rfl rfl ?_)
 (refine Jx.extract rfl rfl rfl ?_)
 (refine Jx.assign rfl rfl (Jx.assign rfl rfl (Jx.assign rfl rfl (J.nil (N.seq (W.seq (W.region (Jx.move rfl rfl (Jx.move rfl rfl (Jx.nilCheck rfl rfl ?_))))))))))
 (refine Jx.fieldAddr rfl rfl ?_)
 (refine J.store rfl rfl (by first | exact One.val rfl | exact One.sl | exact One.pp | exact One.slc) 0 rfl rfl rfl rfl ?_)
 (refine J.nil (N.seq (W.seq (W.seq (W.region (Jx.move rfl rfl (Jx.neqI rfl rfl rfl (J.nil (N.seq ?_)))))))))
 (refine id ?_; rotate_left))
    by_cases he : e = 0
    · have h1 := hy he
      have h2 := textP_len h1
      focus (
 (refine W.cF rfl ?_)
 (refine W.skip (N.seq (W.seq (W.region (Jx.move rfl rfl (Jx.move rfl rfl (Jx.nilCheck rfl rfl ?_)))))))
 (refine Jx.fieldAddr rfl rfl ?_)
 (refine J.store rfl rfl (by first | exact One.val rfl | exact One.sl | exact One.pp | exact One.slc) 0 rfl rfl rfl rfl ?_)
 (refine J.nil (N.seq (W.seq (W.region (Jx.move rfl rfl (Jx.assign rfl rfl (J.nil (N.seq (W.ret ?_)))))))))
 (refine id ?_; rotate_left))
      exact N.ret (rs := [.tmp 4]) rfl (.tmp rfl .nil) ⟨n, r, e, rfl, rfl, h2, by rw [he]; exact h1⟩
    · obtain ⟨h1, rfl, rfl⟩ := hz he
      focus (
 (refine W.cT rfl ?_)
 (refine W.seq (W.region (Jx.assign rfl rfl (J.nil (N.seq (W.ret (N.seqRet ?_)))))))
 (refine id ?_; rotate_left))
      exact N.ret (rs := [.tmp 4]) rfl (.tmp rfl .nil) ⟨[], s, e, rfl, rfl, Nat.le_refl _, by rw [rf_no he]; exact h1⟩
  · refine FnC.intro Tryz.func45 rfl Tryz.ntmps45 rfl fun Z w0 hG => ?_
    focus (
 (refine W.seq (W.region (Jx.assign rfl rfl (J.nil (N.seq (W.seq (W.seq (W.region (Jx.move rfl rfl (Jx.nilCheck rfl rfl ?_))))))))))
 (refine Jx.fieldAddr rfl rfl ?_)
 (refine Jx.load rfl 0 rfl rfl rfl ?_)
 (refine Jx.neqI rfl rfl rfl (J.nil (N.seq (W.cT rfl ?_))))
 (refine W.seq (W.region (Jx.assign rfl rfl (J.nil (N.seq (W.ret (N.seqRet ?_)))))))
 (refine id ?_; rotate_left))
    exact N.ret (rs := [.tmp 4]) rfl (.tmp rfl .nil) ⟨[], s, c, rfl, rfl, Nat.le_refl _, by rw [rf_no hc]; rfl⟩
theorem r_Flag (b : Nat) (s : List UInt8) (c : Int) (hs : s.length ≤ 1099511627776) :
    FnC Tryz.prog 47 [ptr b] [rrO b s c] (fun v L => ∃ (f : Bool) (s' : List UInt8) (c' : Int), v = bool f ∧ L = [rrO b s' c'] ∧ s'.length ≤ s.length ∧ flagP (rf s c) = (f, rf s' c')) := by
  by_cases hc : c = 0
  · subst hc
    refine FnC.intro Tryz.func47 rfl Tryz.ntmps47 rfl fun Z w0 hG => ?_
    match s, hs with
    | [], _ =>
      focus (
 (refine W.seq (W.region (Jx.assign rfl rfl (J.nil (N.seq (W.seq (W.seq (W.region (Jx.move rfl rfl (Jx.nilCheck rfl rfl ?_))))))))))
 (refine Jx.fieldAddr rfl rfl ?_)
 (refine Jx.load rfl 0 rfl rfl rfl ?_)
 (refine Jx.neqI rfl rfl rfl (J.nil (N.seq (W.cF rfl ?_))))
 (refine W.skip (N.seq (W.seq (W.seq (W.region (Jx.move rfl rfl (Jx.nilCheck rfl rfl ?_)))))))
 (refine Jx.fieldAddr rfl rfl ?_)
 (refine Jx.load rfl 0 rfl rfl rfl ?_)
 (refine Jx.eqlS rfl rfl rfl (J.nil (N.seq (W.cT rfl ?_))))
 (refine W.seq (W.region (Jx.move rfl rfl (Jx.nilCheck rfl rfl ?_))))
 (refine Jx.fieldAddr rfl rfl ?_)
 (refine J.store rfl rfl (by first | exact One.val rfl | exact One.sl | exact One.pp | exact One.slc) 0 rfl rfl rfl rfl ?_)
 (refine J.nil (N.seq (W.seq (W.region (Jx.assign rfl rfl (J.nil (N.seq (W.ret (N.seqRet ?_)))))))))
 (refine id ?_; rotate_left))
      exact N.ret (rs := [.tmp 2]) rfl (.tmp rfl .nil) ⟨false, [], 20, rfl, rfl, Nat.le_refl _, rfl⟩
    | x :: t, hs =>
      have hl0 : (0 : Int) < ((x :: t).length : Int) := by simp only [List.length_cons]; omega
      have hl1 : (1 : Int) ≤ ((x :: t).length : Int) := by simp only [List.length_cons]; omega
      have hg0 : (x :: t).getD (Int.toNat 0) 0 = x := rfl
      have hne : ¬ (x :: t) = [] := by simp
      have hd : (x :: t).drop (Int.toNat 1) = t := rfl
      by_cases hx : 1 < x.toNat
      · have hf : flagP (rf (x :: t) 0) = (false, none) := by simp only [rf, if_true, flagP, if_pos hx]
        generalize hst : x :: t = st at *
        focus (
 (refine W.seq (W.region (Jx.assign rfl rfl (J.nil (N.seq (W.seq (W.seq (W.region (Jx.move rfl rfl (Jx.nilCheck rfl rfl ?_))))))))))
 (refine Jx.fieldAddr rfl rfl ?_)
 (refine Jx.load rfl 0 rfl rfl rfl ?_)
 (refine Jx.neqI rfl rfl rfl (J.nil (N.seq (W.cF rfl ?_))))
 (refine W.skip (N.seq (W.seq (W.seq (W.region (Jx.move rfl rfl (Jx.nilCheck rfl rfl ?_)))))))
 (refine Jx.fieldAddr rfl rfl ?_)
 (refine Jx.load rfl 0 rfl rfl rfl ?_)
 (refine Jx.eqlS rfl rfl rfl (J.nil (N.seq (W.cF rfl ?_))))
 (refine W.skip (N.seq (W.seq (W.seq (W.region (Jx.move rfl rfl (Jx.nilCheck rfl rfl ?_)))))))
 (refine Jx.fieldAddr rfl rfl ?_)
 (refine Jx.load rfl 0 rfl rfl rfl ?_)
 (refine Jx.indexS (m := 0) rfl rfl (by decide) hl0 rfl ?_; rw [hg0])
 (refine Jx.gtrI rfl rfl rfl (J.nil (N.seq (W.cT rfl ?_))))
 (refine W.seq (W.region (Jx.move rfl rfl (Jx.nilCheck rfl rfl ?_))))
 (refine Jx.fieldAddr rfl rfl ?_)
 (refine J.store rfl rfl (by first | exact One.val rfl | exact One.sl | exact One.pp | exact One.slc) 0 rfl rfl rfl rfl ?_)
 (refine J.nil (N.seq (W.seq (W.region (Jx.assign rfl rfl (J.nil (N.seq (W.ret (N.seqRet ?_)))))))))
 (refine id ?_; rotate_left))
        exact N.ret (rs := [.tmp 2]) rfl (.tmp rfl .nil) ⟨false, st, 3, rfl, rfl, Nat.le_refl _, hf⟩
      · have hf : flagP (rf (x :: t) 0) = (decide (((x.toNat : Nat) : Int) = 1), some t) := by
          simp only [rf, if_true, flagP, if_neg hx]
          have : (decide (((x.toNat : Nat) : Int) = 1)) = decide (x.toNat = 1) := by
            by_cases h : x.toNat = 1
            · rw [decide_eq_true h, decide_eq_true (by omega)]
            · rw [decide_eq_false h, decide_eq_false (by omega)]
          rw [this]
        have hlt : t.length ≤ (x :: t).length := by simp
        generalize hst : x :: t = st at *
        focus (
 (refine W.seq (W.region (Jx.assign rfl rfl (J.nil (N.seq (W.seq (W.seq (W.region (Jx.move rfl rfl (Jx.nilCheck rfl rfl ?_))))))))))
 (refine Jx.fieldAddr rfl rfl ?_)
 (refine Jx.load rfl 0 rfl rfl rfl ?_)
 (refine Jx.neqI rfl rfl rfl (J.nil (N.seq (W.cF rfl ?_))))
 (refine W.skip (N.seq (W.seq (W.seq (W.region (Jx.move rfl rfl (Jx.nilCheck rfl rfl ?_)))))))
 (refine Jx.fieldAddr rfl rfl ?_)
 (refine Jx.load rfl 0 rfl rfl rfl ?_)
 (refine Jx.eqlS rfl rfl rfl (J.nil (N.seq (W.cF rfl ?_))))
 (refine W.skip (N.seq (W.seq (W.seq (W.region (Jx.move rfl rfl (Jx.nilCheck rfl rfl ?_)))))))
 (refine Jx.fieldAddr rfl rfl ?_)
 (refine Jx.load rfl 0 rfl rfl rfl ?_)
 (refine Jx.indexS (m := 0) rfl rfl (by decide) hl0 rfl ?_; rw [hg0])
 (refine Jx.gtrI rfl rfl rfl (J.nil (N.seq (W.cF rfl ?_))))
 (refine W.skip (N.seq (W.seq (W.region (Jx.move rfl rfl (Jx.nilCheck rfl rfl ?_))))))
 (refine Jx.fieldAddr rfl rfl ?_)
 (refine Jx.load rfl 0 rfl rfl rfl ?_)
 (refine Jx.indexS (m := 0) rfl rfl (by decide) hl0 rfl ?_; rw [hg0])
 (refine Jx.eqlI rfl rfl rfl (Jx.assign rfl rfl (J.nil (N.seq (W.seq (W.region (Jx.move rfl rfl (Jx.move rfl rfl (Jx.nilCheck rfl rfl ?_)))))))))
 (refine Jx.fieldAddr rfl rfl ?_)
 (refine Jx.load rfl 0 rfl rfl rfl ?_)
 (refine Jx.sliceSl rfl rfl (by decide) hl1 rfl ?_; rw [hd])
 (refine Jx.nilCheck rfl rfl ?_)
 (refine Jx.fieldAddr rfl rfl ?_)
 (refine J.store rfl rfl (by first | exact One.val rfl | exact One.sl | exact One.pp | exact One.slc) 0 rfl rfl rfl rfl ?_)
 (refine J.nil (N.seq (W.seq (W.region (Jx.move rfl rfl (Jx.assign rfl rfl (J.nil (N.seq (W.ret ?_)))))))))
 (refine id ?_; rotate_left))
        exact N.ret (rs := [.tmp 2]) rfl (.tmp rfl .nil) ⟨_, t, 0, rfl, rfl, hlt, hf⟩
  · refine FnC.intro Tryz.func47 rfl Tryz.ntmps47 rfl fun Z w0 hG => ?_
    focus (
 (refine W.seq (W.region (Jx.assign rfl rfl (J.nil (N.seq (W.seq (W.seq (W.region (Jx.move rfl rfl (Jx.nilCheck rfl rfl ?_))))))))))
 (refine Jx.fieldAddr rfl rfl ?_)
 (refine Jx.load rfl 0 rfl rfl rfl ?_)
 (refine Jx.neqI rfl rfl rfl (J.nil (N.seq (W.cT rfl ?_))))
 (refine W.seq (W.region (Jx.assign rfl rfl (J.nil (N.seq (W.ret (N.seqRet ?_)))))))
 (refine id ?_; rotate_left))
    exact N.ret (rs := [.tmp 2]) rfl (.tmp rfl .nil) ⟨false, s, c, rfl, rfl, Nat.le_refl _, by rw [rf_no hc]; rfl⟩
theorem r_End (b : Nat) (s : List UInt8) (c : Int) : FnC Tryz.prog 49 [ptr b] [rrO b s c] (fun v L => ∃ (e : Int) (s' : List UInt8) (c' : Int), v = int e ∧ L = [rrO b s' c'] ∧ (e = 0 ↔ rf s c = some [])) := by
  by_cases hc : c = 0
  · subst hc
    refine FnC.intro Tryz.func49 rfl Tryz.ntmps49 rfl fun Z w0 hG => ?_
    by_cases hs : s = []
    · subst hs
      focus (
 (refine W.seq (W.region (Jx.assign rfl rfl (J.nil (N.seq (W.seq (W.seq (W.region (Jx.move rfl rfl (Jx.nilCheck rfl rfl ?_))))))))))
 (refine Jx.fieldAddr rfl rfl ?_)
 (refine Jx.load rfl 0 rfl rfl rfl ?_)
 (refine Jx.eqlI rfl rfl rfl (Jx.move rfl rfl (J.gY rfl rfl rfl ?_)))
 (refine Jx.move rfl rfl (J.gY rfl rfl rfl ?_))
 (refine Jx.nilCheck rfl rfl ?_)
 (refine J.gY rfl rfl rfl ?_)
 (refine Jx.fieldAddr rfl rfl ?_)
 (refine J.gY rfl rfl rfl ?_)
 (refine Jx.load rfl 0 rfl rfl rfl ?_)
 (refine J.gY rfl rfl rfl ?_)
 (refine Jx.neqS rfl rfl rfl (Jx.pT rfl rfl rfl ?_))
 (refine J.nil (N.seq (W.cF rfl ?_)))
 (refine W.skip (N.seq (W.seq (W.region (Jx.move rfl rfl (Jx.nilCheck rfl rfl ?_))))))
 (refine Jx.fieldAddr rfl rfl ?_)
 (refine Jx.load rfl 0 rfl rfl rfl ?_)
 (refine Jx.assign rfl rfl (J.nil (N.seq (W.ret ?_))))
 (refine id ?_; rotate_left))
      exact N.ret (rs := [.tmp 2]) rfl (.tmp rfl .nil) ⟨0, [], 0, rfl, rfl, by simp [rf]⟩
    · focus (
 (refine W.seq (W.region (Jx.assign rfl rfl (J.nil (N.seq (W.seq (W.seq (W.region (Jx.move rfl rfl (Jx.nilCheck rfl rfl ?_))))))))))
 (refine Jx.fieldAddr rfl rfl ?_)
 (refine Jx.load rfl 0 rfl rfl rfl ?_)
 (refine Jx.eqlI rfl rfl rfl (Jx.move rfl rfl (J.gY rfl rfl rfl ?_)))
 (refine Jx.move rfl rfl (J.gY rfl rfl rfl ?_))
 (refine Jx.nilCheck rfl rfl ?_)
 (refine J.gY rfl rfl rfl ?_)
 (refine Jx.fieldAddr rfl rfl ?_)
 (refine J.gY rfl rfl rfl ?_)
 (refine Jx.load rfl 0 rfl rfl rfl ?_)
 (refine J.gY rfl rfl rfl ?_)
 (refine Jx.neqS rfl rfl rfl (Jx.pT rfl rfl rfl ?_))
 (refine J.nil (N.seq (W.cT rfl ?_)))
 (refine W.region (Jx.move rfl rfl (Jx.nilCheck rfl rfl ?_)))
 (refine Jx.fieldAddr rfl rfl ?_)
 (refine J.store rfl rfl (by first | exact One.val rfl | exact One.sl | exact One.pp | exact One.slc) 0 rfl rfl rfl rfl ?_)
 (refine J.nil (N.seq (W.seq (W.region (Jx.move rfl rfl (Jx.nilCheck rfl rfl ?_))))))
 (refine Jx.fieldAddr rfl rfl ?_)
 (refine Jx.load rfl 0 rfl rfl rfl ?_)
 (refine Jx.assign rfl rfl (J.nil (N.seq (W.ret ?_))))
 (refine id ?_; rotate_left))
      exact N.ret (rs := [.tmp 2]) rfl (.tmp rfl .nil) ⟨3, s, 3, rfl, rfl, by simp [rf, hs]⟩
  · refine FnC.intro Tryz.func49 rfl Tryz.ntmps49 rfl fun Z w0 hG => ?_
    focus (
 (refine W.seq (W.region (Jx.assign rfl rfl (J.nil (N.seq (W.seq (W.seq (W.region (Jx.move rfl rfl (Jx.nilCheck rfl rfl ?_))))))))))
 (refine Jx.fieldAddr rfl rfl ?_)
 (refine Jx.load rfl 0 rfl rfl rfl ?_)
 (refine Jx.eqlI rfl rfl rfl (Jx.move rfl rfl (J.gN rfl rfl rfl rfl ?_)))
 (refine J.gN rfl rfl rfl rfl ?_)
 (refine J.gN rfl rfl rfl rfl ?_)
 (refine J.gN rfl rfl rfl rfl ?_)
 (refine J.gN rfl rfl rfl rfl ?_)
 (refine Jx.pF rfl rfl rfl ?_)
 (refine J.nil (N.seq (W.cF rfl ?_)))
 (refine W.skip (N.seq (W.seq (W.region (Jx.move rfl rfl (Jx.nilCheck rfl rfl ?_))))))
 (refine Jx.fieldAddr rfl rfl ?_)
 (refine Jx.load rfl 0 rfl rfl rfl ?_)
 (refine Jx.assign rfl rfl (J.nil (N.seq (W.ret ?_))))
 (refine id ?_; rotate_left))
    exact N.ret (rs := [.tmp 2]) rfl (.tmp rfl .nil) ⟨c, s, c, rfl, rfl, by simp [rf, hc]⟩
set_option maxHeartbeats 2000000 in
theorem r_List (b : Nat) (s : List UInt8) (c : Int) (m ec : Int) (hs : s.length ≤ 1099511627776) (hm : m ≤ 1048576) :
    FnC Tryz.prog 88 [ptr b, int m, int ec] [rrO b s c] (fun v L => ∃ (l : List (List UInt8)) (s' : List UInt8) (c' : Int), v = ssl l ∧ L = [rrO b s' c'] ∧ s'.length ≤ s.length ∧ listP m ec (rf s c) = (l, rf s' c')) := by
  by_cases hc : c = 0
  · subst hc
    have c1 := r_take s hs
    refine FnC.intro Tryz.func88 rfl Tryz.ntmps88 rfl fun Z w0 hG => ?_
    focus (
 (refine W.seq (W.region (Jx.assign rfl rfl (J.nil (N.seq (W.seq (W.seq (W.region (Jx.move rfl rfl (Jx.nilCheck rfl rfl ?_))))))))))
 (refine Jx.fieldAddr rfl rfl ?_)
 (refine Jx.load rfl 0 rfl rfl rfl ?_)
 (refine Jx.neqI rfl rfl rfl (J.nil (N.seq (W.cF rfl ?_))))
 (refine W.skip (N.seq (W.seq (W.region (Jx.move rfl rfl (Jx.nilCheck rfl rfl ?_))))))
 (refine Jx.fieldAddr rfl rfl ?_)
 (refine Jx.load rfl 0 rfl rfl rfl ?_)
 (refine J.call c1 rfl (evs_args rfl) rfl ?_; rintro _ _ ⟨⟨n, r0, e, rfl, hy, hz⟩, rfl⟩; simp only [la1, la2, la3]; by_cases he : e = 0)
 (refine Jx.move rfl rfl (Jx.extract rfl rfl rfl ?_))
 (refine Jx.extract rfl rfl rfl ?_)
 (refine Jx.extract rfl rfl rfl ?_)
 (refine Jx.assign rfl rfl (Jx.assign rfl rfl (Jx.assign rfl rfl (J.nil (N.seq (W.seq (W.seq (W.region (Jx.move rfl rfl (Jx.eqlI rfl rfl rfl (Jx.move rfl rfl (J.gY rfl rfl rfl ?_))))))))))))
 (refine Jx.move rfl rfl (J.gY rfl rfl rfl ?_))
 (refine Jx.move rfl rfl (J.gY rfl rfl rfl ?_))
 (refine Jx.gtrI rfl rfl rfl (Jx.pT rfl rfl rfl ?_))
 (refine J.nil (N.seq ?_))
 (refine id ?_; rotate_left)
 (refine Jx.move rfl rfl (Jx.extract rfl rfl rfl ?_))
 (refine Jx.extract rfl rfl rfl ?_)
 (refine Jx.extract rfl rfl rfl ?_)
 (refine Jx.assign rfl rfl (Jx.assign rfl rfl (Jx.assign rfl rfl (J.nil (N.seq (W.seq (W.seq (W.region (Jx.move rfl rfl (Jx.eqlI rfl rfl rfl (Jx.move rfl rfl (J.gN rfl rfl rfl rfl ?_))))))))))))
 (refine J.gN rfl rfl rfl rfl ?_)
 (refine J.gN rfl rfl rfl rfl ?_)
 (refine Jx.pF rfl rfl rfl ?_)
 (refine J.nil (N.seq (W.cF rfl ?_)))
 (refine W.skip (N.seq (W.seq (W.region (Jx.assign rfl rfl (J.nil (N.seq (W.seq (W.seq (W.region (Jx.assign rfl rfl (J.nil (N.seq (W.block ?_))))))))))))))
 (refine id ?_; rotate_left))
    · have h4 := hy he
      have h5 := numP_len h4
      subst he
      by_cases hnm : m < (n : Int)
      · focus (
 (refine W.cT rfl ?_)
 (refine W.region (Jx.assign rfl rfl (J.nil (N.seq (W.seq (W.region (Jx.assign rfl rfl (J.nil (N.seq (W.seq (W.seq (W.region (Jx.assign rfl rfl (J.nil ?_))))))))))))))
 (refine N.seq (W.block ?_))
 (refine id ?_; rotate_left))
        refine W.loop (α := Unit) (fun x => [(9, int 2), (0, ptr b), (6, .val (.slice none 0 0))]) (fun x => [rrO b s 0]) (fun x => True) (fun x => 0) () trivial rfl ⟨ref0 rfl, ref0 rfl, ref0 rfl, trivial⟩ ?_
        intro _ _
        focus (
 (refine W.seq (W.seq (W.region (Jx.move rfl rfl (Jx.eqlI rfl rfl rfl (Jx.move rfl rfl (J.gN rfl rfl rfl rfl ?_)))))))
 (refine J.gN rfl rfl rfl rfl ?_)
 (refine J.gN rfl rfl rfl rfl ?_)
 (refine Jx.pF rfl rfl rfl ?_)
 (refine J.nil (N.seq (W.cF rfl ?_)))
 (refine W.exit (N.seq (W.seq (W.region (Jx.move rfl rfl (Jx.move rfl rfl (Jx.nilCheck rfl rfl ?_)))))))
 (refine Jx.fieldAddr rfl rfl ?_)
 (refine J.store rfl rfl (by first | exact One.val rfl | exact One.sl | exact One.pp | exact One.slc) 0 rfl rfl rfl rfl ?_)
 (refine J.nil (N.seq (W.seq (W.seq (W.region (Jx.move rfl rfl (Jx.neqI rfl rfl rfl (J.nil (N.seq (W.cT rfl ?_))))))))))
 (refine W.seq (W.region (Jx.assign rfl rfl (J.nil (N.seq (W.ret (N.seqRet ?_)))))))
 (refine id ?_; rotate_left))
        refine N.told (G := [(6, ssl [])]) ⟨⟨_, rfl, Sub.nil 1 _⟩, trivial⟩ ?_
        exact N.ret (rs := [.tmp 6]) rfl (.tmp rfl .nil) ⟨[], s, 2, rfl, rfl, Nat.le_refl _, by simp only [rf, if_true, listP, h4]; rw [if_neg (by omega)]; rfl⟩
      · focus (
 (refine W.cF rfl ?_)
 (refine W.skip (N.seq (W.seq (W.region (Jx.assign rfl rfl (J.nil (N.seq (W.seq (W.seq (W.region (Jx.assign rfl rfl (J.nil (N.seq (W.block ?_))))))))))))))
 (refine id ?_; rotate_left))
        refine W.rowNil 9 1 (elOf (fun a => [str a]) [] []) ?_
        refine W.perm (List.Perm.swap _ _ _) ?_
        refine W.loop (α := Nat × Value × List (List UInt8) × List UInt8 × Int) (fun x => [(11, int (x.1 : Int)), (10, .val x.2.1), (9, int x.2.2.2.2), (8, str x.2.2.2.1), (7, int (n : Int)), (2, int ec), (0, ptr b)]) (fun x => [rrO b s 0, .row x.2.1 9 1 x.2.2.1.length (elOf (fun a => [str a]) [] x.2.2.1)])
          (fun x => x.1 ≤ n ∧ x.2.2.1.length ≤ x.1 ∧ (x.2.2.2.2 = 0 → x.2.2.1.length = x.1 ∧ x.2.2.2.1.length ≤ s.length ∧ textsP ec n (some r0) = preP x.2.2.1 (textsP ec (n - x.1) (some x.2.2.2.1))) ∧ (x.2.2.2.2 ≠ 0 → textsP ec n (some r0) = ([], none))) (fun x => n - x.1) (0, .slice none 0 0, [], r0, 0)
          ⟨by simp, by simp, fun _ => ⟨rfl, h5, by simp only [Nat.sub_zero, preP_nil]⟩, fun h => absurd rfl h⟩ rfl ⟨ref0 rfl, ref0 rfl, ref0 rfl, ref0 rfl, ref0 rfl, ref0 rfl, ref0 rfl, trivial⟩ ?_
        rintro ⟨i, u, acc, rest, e⟩ ⟨hi, hai, hg, hb⟩
        simp only at hi hai hg hb ⊢
        have hmx0 : acc.length ≤ maxLen := by simp only [maxLen]; omega
        by_cases he : e = 0
        · subst he
          obtain ⟨g1, g2, g3⟩ := hg rfl
          by_cases hin : i < n
          · have c3 := r_text rest ec (by omega)
            have hstep : n - i = (n - (i + 1)) + 1 := by omega
            have hmx : ∀ t : List UInt8, acc.length + [t].length ≤ maxLen ∧ (acc.length + [t].length) * 16 ≤ 140737488355328 := fun t => by simp only [maxLen, List.length_cons, List.length_nil]; omega
            focus (
 (refine W.seq (W.seq (W.region (Jx.move rfl rfl (Jx.eqlI rfl rfl rfl (Jx.move rfl rfl (J.gY rfl rfl rfl ?_)))))))
 (refine Jx.move rfl rfl (J.gY rfl rfl rfl ?_))
 (refine Jx.move rfl rfl (J.gY rfl rfl rfl ?_))
 (refine Jx.lssI rfl rfl rfl (Jx.pT rfl rfl rfl ?_))
 (refine J.nil (N.seq (W.cT rfl ?_)))
 (refine W.skip (N.seq (W.seq (W.block (W.seq (W.region (Jx.move rfl rfl (Jx.move rfl rfl ?_))))))))
 (refine J.call (c3) rfl (evs_args rfl) rfl ?_; rintro _ _ ⟨⟨t, r', e', rfl, ty, tz⟩, rfl⟩; simp only [la1, la2, la3])
 (refine Jx.move rfl rfl (Jx.extract rfl rfl rfl ?_))
 (refine Jx.extract rfl rfl rfl ?_)
 (refine Jx.extract rfl rfl rfl ?_)
 (refine Jx.assign rfl rfl (Jx.assign rfl rfl (Jx.assign rfl rfl (J.nil (N.seq (W.seq (W.region (Jx.move rfl rfl (Jx.move rfl rfl ?_)))))))))
 (refine J.qs (Qs.buildTexts [t] rfl rfl rfl (by decide) (by decide)) rfl ?_)
 (refine J.appendAt (l := acc) (l2 := [t]) 1 rfl rfl (SrcOK.sl rfl) rfl rfl (hmx t) rfl ?_; intro v2 hv2)
 (refine Jx.assign rfl rfl (J.nil (N.seq (W.region (Jx.move rfl rfl (Jx.move rfl rfl (Jx.assign rfl rfl (Jx.assign rfl rfl (J.nil (N.seq (W.region (Jx.move rfl rfl (Jx.add64 rfl rfl (by omega) rfl ?_)))))))))))))
 (refine Jx.assign rfl rfl (J.nil ?_))
 (refine id ?_; rotate_left))
            by_cases he' : e' = 0
            · subst he'
              have g5 := ty rfl
              have g6 := textP_len g5
              exact N.round (i + 1, v2, acc ++ [t], r', 0) ⟨by simp only; omega, by simp only [List.length_append, List.length_cons, List.length_nil]; omega, fun _ => ⟨by simp only [List.length_append, List.length_cons, List.length_nil]; omega, by simp only; omega, by rw [g3, hstep]; exact preP_step g5⟩, fun h => absurd rfl h⟩ (by simp only; omega) rfl ⟨ref0 rfl, ref0 rfl, ref0 rfl, ref0 rfl, ref0 rfl, ref0 rfl, ref0 rfl, trivial⟩
            · obtain ⟨g5, rfl, rfl⟩ := tz he'
              exact N.round (i + 1, v2, acc ++ [[]], [], e') ⟨by simp only; omega, by simp only [List.length_append, List.length_cons, List.length_nil]; omega, fun h => absurd h he', fun _ => by rw [g3, hstep]; exact preP_bad g5⟩ (by simp only; omega) rfl ⟨ref0 rfl, ref0 rfl, ref0 rfl, ref0 rfl, ref0 rfl, ref0 rfl, ref0 rfl, trivial⟩
          · refine W.freezeAt 1 10 rfl rfl hmx0 ?_
            focus (
 (refine W.seq (W.seq (W.region (Jx.move rfl rfl (Jx.eqlI rfl rfl rfl (Jx.move rfl rfl (J.gY rfl rfl rfl ?_)))))))
 (refine Jx.move rfl rfl (J.gY rfl rfl rfl ?_))
 (refine Jx.move rfl rfl (J.gY rfl rfl rfl ?_))
 (refine Jx.lssI rfl rfl rfl (Jx.pT rfl rfl rfl ?_))
 (refine J.nil (N.seq (W.cF rfl ?_)))
 (refine W.exit (N.seq (W.seq (W.region (Jx.move rfl rfl (Jx.move rfl rfl (Jx.nilCheck rfl rfl ?_)))))))
 (refine Jx.fieldAddr rfl rfl ?_)
 (refine J.store rfl rfl (by first | exact One.val rfl | exact One.sl | exact One.pp | exact One.slc) 0 rfl rfl rfl rfl ?_)
 (refine J.nil (N.seq (W.seq (W.seq (W.region (Jx.move rfl rfl (Jx.neqI rfl rfl rfl (J.nil (N.seq (W.cF rfl ?_))))))))))
 (refine W.skip (N.seq (W.seq (W.region (Jx.move rfl rfl (Jx.move rfl rfl (Jx.nilCheck rfl rfl ?_)))))))
 (refine Jx.fieldAddr rfl rfl ?_)
 (refine J.store rfl rfl (by first | exact One.val rfl | exact One.sl | exact One.pp | exact One.slc) 0 rfl rfl rfl rfl ?_)
 (refine J.nil (N.seq (W.seq (W.region (Jx.move rfl rfl (Jx.assign rfl rfl (J.nil (N.seq (W.ret ?_)))))))))
 (refine id ?_; rotate_left))
            refine N.ret (rs := [.tmp 6]) rfl (.tmp rfl .nil) ⟨acc, rest, 0, rfl, rfl, g2, ?_⟩
            simp only [rf, if_true, listP, h4]
            rw [if_pos (by omega), g3, show n - i = 0 by omega]
            simp only [textsP, preP, List.append_nil]
        · have hb := hb he
          focus (
 (refine W.seq (W.seq (W.region (Jx.move rfl rfl (Jx.eqlI rfl rfl rfl (Jx.move rfl rfl (J.gN rfl rfl rfl rfl ?_)))))))
 (refine J.gN rfl rfl rfl rfl ?_)
 (refine J.gN rfl rfl rfl rfl ?_)
 (refine Jx.pF rfl rfl rfl ?_)
 (refine J.nil (N.seq (W.cF rfl ?_)))
 (refine W.exit (N.seq (W.seq (W.region (Jx.move rfl rfl (Jx.move rfl rfl (Jx.nilCheck rfl rfl ?_)))))))
 (refine Jx.fieldAddr rfl rfl ?_)
 (refine J.store rfl rfl (by first | exact One.val rfl | exact One.sl | exact One.pp | exact One.slc) 0 rfl rfl rfl rfl ?_)
 (refine J.nil (N.seq (W.seq (W.seq (W.region (Jx.move rfl rfl (Jx.neqI rfl rfl rfl (J.nil (N.seq (W.cT rfl ?_))))))))))
 (refine W.seq (W.region (Jx.assign rfl rfl (J.nil (N.seq (W.ret (N.seqRet ?_)))))))
 (refine id ?_; rotate_left))
          refine N.told (G := [(6, ssl [])]) ⟨⟨_, rfl, Sub.nil 1 _⟩, trivial⟩ ?_
          exact N.retD (rs := [.tmp 6]) (L1 := [rrO b s e]) rfl (.tmp rfl .nil) (by simp) ⟨[], s, e, rfl, rfl, Nat.le_refl _, by rw [rf_no he]; simp only [rf, if_true, listP, h4]; rw [if_pos (by omega)]; exact hb⟩
    · obtain ⟨h4, rfl, rfl⟩ := hz he
      refine W.loop (α := Unit) (fun x => [(9, int e), (0, ptr b), (6, .val (.slice none 0 0))]) (fun x => [rrO b s 0]) (fun x => True) (fun x => 0) () trivial rfl ⟨ref0 rfl, ref0 rfl, ref0 rfl, trivial⟩ ?_
      intro _ _
      focus (
 (refine W.seq (W.seq (W.region (Jx.move rfl rfl (Jx.eqlI rfl rfl rfl (Jx.move rfl rfl (J.gN rfl rfl rfl rfl ?_)))))))
 (refine J.gN rfl rfl rfl rfl ?_)
 (refine J.gN rfl rfl rfl rfl ?_)
 (refine Jx.pF rfl rfl rfl ?_)
 (refine J.nil (N.seq (W.cF rfl ?_)))
 (refine W.exit (N.seq (W.seq (W.region (Jx.move rfl rfl (Jx.move rfl rfl (Jx.nilCheck rfl rfl ?_)))))))
 (refine Jx.fieldAddr rfl rfl ?_)
 (refine J.store rfl rfl (by first | exact One.val rfl | exact One.sl | exact One.pp | exact One.slc) 0 rfl rfl rfl rfl ?_)
 (refine J.nil (N.seq (W.seq (W.seq (W.region (Jx.move rfl rfl (Jx.neqI rfl rfl rfl (J.nil (N.seq (W.cT rfl ?_))))))))))
 (refine W.seq (W.region (Jx.assign rfl rfl (J.nil (N.seq (W.ret (N.seqRet ?_)))))))
 (refine id ?_; rotate_left))
      refine N.told (G := [(6, ssl [])]) ⟨⟨_, rfl, Sub.nil 1 _⟩, trivial⟩ ?_
      exact N.ret (rs := [.tmp 6]) rfl (.tmp rfl .nil) ⟨[], s, e, rfl, rfl, Nat.le_refl _, by rw [rf_no he]; simp only [rf, if_true, listP, h4]⟩
  · refine FnC.intro Tryz.func88 rfl Tryz.ntmps88 rfl fun Z w0 hG => ?_
    focus (
 (refine W.seq (W.region (Jx.assign rfl rfl (J.nil (N.seq (W.seq (W.seq (W.region (Jx.move rfl rfl (Jx.nilCheck rfl rfl ?_))))))))))
 (refine Jx.fieldAddr rfl rfl ?_)
 (refine Jx.load rfl 0 rfl rfl rfl ?_)
 (refine Jx.neqI rfl rfl rfl (J.nil (N.seq (W.cT rfl ?_))))
 (refine W.seq (W.region (Jx.assign rfl rfl (J.nil (N.seq (W.ret (N.seqRet ?_)))))))
 (refine id ?_; rotate_left))
    refine N.told (G := [(6, ssl [])]) ⟨⟨_, rfl, Sub.nil 1 _⟩, trivial⟩ ?_
    exact N.ret (rs := [.tmp 6]) rfl (.tmp rfl .nil) ⟨[], s, c, rfl, rfl, Nat.le_refl _, by rw [rf_no hc]; rfl⟩
end Go.Proofs.YtlfdhkahiaammaaGreatDoor
namespace Go.Proofs.YtlfdhkahiaammaaGreatDoor
open Go Go.Sse
set_option linter.unusedVariables false
set_option linter.unusedSimpArgs false
set_option maxRecDepth 10000
structure Mb where
  name : List UInt8
  power : Int
instance : DecidableEq Mb := fun a b => decidable_of_iff (a.name = b.name ∧ a.power = b.power) ⟨fun h => by cases a; cases b; simp_all, fun h => by subst h; exact ⟨rfl, rfl⟩⟩
abbrev mbC (m : Mb) : List SV := [str m.name, int m.power]
def mb0 : Mb := ⟨[], 0⟩
abbrev msl (l : List Mb) : SV := .sl 2 l.length (elOf mbC mb0 l)
def leB (a b : List UInt8) : Bool := Op.bytesLess a b || decide (a = b)
theorem leB_nil (b : List UInt8) : leB [] b = true := by cases b <;> simp [leB, Op.bytesLess]
theorem leB_none {a : List UInt8} (h : a ≠ []) : leB a [] = false := by cases a <;> simp_all [leB, Op.bytesLess]
def okM (last : List UInt8) (m : Mb) : Bool := decide (m.name.length ≤ 6) && !leB m.name last && decide (1 ≤ m.power) && decide (m.power ≤ 1000)
def fineM : List UInt8 → List Mb → Bool
  | _, [] => true
  | last, m :: r => okM last m && fineM m.name r
def fineSet (l : List Mb) : Bool := decide (1 ≤ l.length) && decide (l.length ≤ 7) && fineM [] l
def lastN (l : List Mb) (i : Nat) : List UInt8 := if i = 0 then [] else (l.getD (i - 1) mb0).name
theorem fineM_step (l : List Mb) (i : Nat) (h : i < l.length) (last : List UInt8) : fineM last (l.drop i) = (okM last (l.getD i mb0) && fineM (l.getD i mb0).name (l.drop (i + 1))) := by
  rw [List.drop_eq_getElem_cons h, List.getD_eq_getElem?_getD, List.getElem?_eq_getElem h]; rfl
theorem lastN_succ (l : List Mb) (i : Nat) : lastN l (i + 1) = (l.getD i mb0).name := by simp [lastN]
theorem fineM_mem : ∀ {l : List Mb} {last : List UInt8}, fineM last l = true → ∀ m ∈ l, m.name.length ≤ 6 ∧ 1 ≤ m.power ∧ m.power ≤ 1000
  | [], _, _, m, hm => by simp at hm
  | x :: r, last, h, m, hm => by
    simp only [fineM, okM, Bool.and_eq_true, decide_eq_true_eq] at h
    rcases List.mem_cons.1 hm with rfl | hm
    · exact ⟨h.1.1.1.1, h.1.1.2, h.1.2⟩
    · exact fineM_mem h.2 m hm
theorem fineSet_spec {l : List Mb} (h : fineSet l = true) : 1 ≤ l.length ∧ l.length ≤ 7 ∧ ∀ m ∈ l, m.name.length ≤ 6 ∧ 1 ≤ m.power ∧ m.power ≤ 1000 := by
  simp only [fineSet, Bool.and_eq_true, decide_eq_true_eq] at h
  exact ⟨h.1.1, h.1.2, fineM_mem h.2⟩
theorem getD_mem {α : Type} {l : List α} {d : α} {i : Nat} (h : i < l.length) : l.getD i d ∈ l := by
  rw [List.getD_eq_getElem?_getD, List.getElem?_eq_getElem h]; exact List.getElem_mem _
abbrev codeB (b : Bool) (e : Int) : Int := if b then 0 else e
set_option maxHeartbeats 1000000 in
theorem pcheck_ok (l : List Mb) : FnC Tryz.prog 136 [msl l] [] (fun v L => v = int (codeB (fineSet l) 50) ∧ L = []) := by
  refine FnC.intro Tryz.func136 rfl Tryz.ntmps136 rfl fun Z w0 hG => ?_
  focus (
 (refine W.seq (W.region (Jx.assign rfl rfl (J.nil (N.seq (W.seq (W.seq (W.region (Jx.move rfl rfl (Jx.lenSl rfl rfl ?_))))))))))
 (refine Jx.eqlI rfl rfl rfl (Jx.move rfl rfl ?_))
 (refine' J.guardOr rfl rfl rfl rfl rfl rfl rfl rfl (fun _ => ?_) ?_; rotate_left)
 (refine J.gY rfl rfl rfl ?_)
 (refine Jx.move rfl rfl (J.gY rfl rfl rfl ?_))
 (refine Jx.lenSl rfl rfl ?_)
 (refine J.gY rfl rfl rfl ?_)
 (refine Jx.gtrI rfl rfl rfl (J.nil ?_))
 (refine N.joinedN rfl rfl rfl)
 (refine J.nil (N.seq ?_))
 (refine id ?_; rotate_left))
  refine W.cond rfl (fun hb => ?_) (fun hb => ?_)
  · have hf : fineSet l = false := by
      simp only [Bool.or_eq_true, decide_eq_true_eq] at hb
      simp only [fineSet, Bool.and_eq_false_iff, decide_eq_false_iff_not]
      omega
    rw [hf]
    focus (
 (refine W.seq (W.region (Jx.assign rfl rfl (J.nil (N.seq (W.ret (N.seqRet ?_)))))))
 (refine id ?_; rotate_left))
    exact N.ret (rs := [.tmp 2]) rfl (.tmp rfl .nil) ⟨rfl, rfl⟩
  · simp only [Bool.or_eq_false_iff, decide_eq_false_iff_not] at hb
    have hf : fineSet l = fineM [] l := by
      simp only [fineSet]
      rw [decide_eq_true (by omega), decide_eq_true (by omega)]
      rfl
    focus (
 (refine W.skip (N.seq (W.seq (W.region (Jx.assign rfl rfl (J.nil (N.seq (W.seq (W.seq (W.region (Jx.move rfl rfl (Jx.lenSl rfl rfl ?_))))))))))))
 (refine Jx.move rfl rfl (J.nil (N.seq (W.block ?_))))
 (refine id ?_; rotate_left))
    refine W.loop (α := Nat) (fun i => [(16, int (i : Int)), (15, int l.length), (14, msl l), (3, str (lastN l i))]) (fun _ => []) (fun i => i ≤ l.length ∧ fineSet l = fineM (lastN l i) (l.drop i)) (fun i => l.length - i) 0 ⟨by omega, hf⟩ rfl ⟨ref0 rfl, ref0 rfl, ref0 rfl, ref0 rfl, trivial⟩ ?_
    rintro i ⟨hi, hs⟩
    by_cases h1 : i < l.length
    · rw [fineM_step l i h1] at hs
      have hns := lastN_succ l i
      generalize lastN l i = last at *
      focus (
 (refine W.seq (W.region (Jx.lssI rfl rfl rfl (J.nil (N.seq (W.seq (W.cT rfl ?_)))))))
 (refine W.skip (N.seq (W.seq (W.block (W.seq (W.region (Jx.indexEl rfl rfl (by assumption) rfl rfl ?_)))))))
 (refine Jx.loadPPall rfl rfl rfl ?_)
 (refine J.alloc (by simp only [List.map_cons, List.map_nil]; rfl) rfl rfl ?_; intro b')
 (refine J.storeAll rfl rfl rfl 0 rfl rfl rfl ?_)
 (refine J.nil (N.seq (W.seq (W.seq (W.region (Jx.fieldAddr rfl rfl ?_))))))
 (refine Jx.load rfl 0 rfl rfl rfl ?_)
 (refine Jx.lenS rfl rfl ?_)
 (refine Jx.gtrI rfl rfl rfl (Jx.move rfl rfl ?_))
 (refine' J.guardOr rfl rfl rfl rfl rfl rfl rfl rfl (fun _ => ?_) ?_; rotate_left)
 (refine J.gY rfl rfl rfl ?_)
 (refine Jx.fieldAddr rfl rfl ?_)
 (refine J.gY rfl rfl rfl ?_)
 (refine Jx.load rfl 0 rfl rfl rfl ?_)
 (refine J.gY rfl rfl rfl ?_)
 (refine Jx.move rfl rfl (J.gY rfl rfl rfl ?_))
 (refine Jx.leqS rfl rfl rfl ?_)
 (refine J.nil ?_)
 (refine N.joinedN rfl rfl rfl)
 (refine Jx.move rfl rfl ?_)
 (refine' J.guardOr rfl rfl rfl rfl rfl rfl rfl rfl (fun _ => ?_) ?_; rotate_left)
 (refine J.gY rfl rfl rfl ?_)
 (refine Jx.fieldAddr rfl rfl ?_)
 (refine J.gY rfl rfl rfl ?_)
 (refine Jx.load rfl 0 rfl rfl rfl ?_)
 (refine J.gY rfl rfl rfl ?_)
 (refine Jx.lssI rfl rfl rfl (J.nil ?_))
 (refine N.joinedN rfl rfl rfl)
 (refine Jx.move rfl rfl ?_)
 (refine' J.guardOr rfl rfl rfl rfl rfl rfl rfl rfl (fun _ => ?_) ?_; rotate_left)
 (refine J.gY rfl rfl rfl ?_)
 (refine Jx.fieldAddr rfl rfl ?_)
 (refine J.gY rfl rfl rfl ?_)
 (refine Jx.load rfl 0 rfl rfl rfl ?_)
 (refine J.gY rfl rfl rfl ?_)
 (refine Jx.gtrI rfl rfl rfl (J.nil ?_))
 (refine N.joinedN rfl rfl rfl)
 (refine J.nil (N.seq ?_))
 (refine id ?_; rotate_left))
      refine W.cond rfl (fun hb => ?_) (fun hb => ?_)
      · have hf : fineSet l = false := by
          rw [hs]
          cases hk : okM last (l.getD i mb0) with
          | false => rfl
          | true =>
            simp only [okM, leB, Bool.and_eq_true, decide_eq_true_eq, Bool.not_eq_true', Bool.or_eq_false_iff, decide_eq_false_iff_not] at hk
            obtain ⟨⟨⟨k1, k2, k3⟩, k4⟩, k5⟩ := hk
            simp only [Bool.or_eq_true, decide_eq_true_eq] at hb
            rcases hb with ((h | h | h) | h) | h
            · omega
            · rw [k2] at h; cases h
            · exact absurd h k3
            · omega
            · omega
        rw [hf]
        focus (
 (refine W.seq (W.region (Jx.assign rfl rfl (J.nil (N.seq (W.ret (N.seqRet (N.blockRet (N.seqRet (N.seqRet (N.blockRet (N.seqRet ?_))))))))))))
 (refine id ?_; rotate_left))
        exact N.retD (rs := [.tmp 2]) (L1 := []) rfl (.tmp rfl .nil) (List.nil_sublist _) ⟨rfl, rfl⟩
      · focus (
 (refine W.skip (N.seq (W.region (Jx.fieldAddr rfl rfl ?_))))
 (refine Jx.load rfl 0 rfl rfl rfl ?_)
 (refine Jx.assign rfl rfl (J.nil (N.seq (W.region (Jx.add64 rfl rfl (by omega) rfl ?_)))))
 (refine Jx.move rfl rfl (J.nil ?_))
 (refine id ?_; rotate_left))
        refine N.drop (List.sublist_cons_self _ _) ?_
        refine N.round (i + 1) ⟨h1, ?_⟩ (by omega) rfl ⟨ref0 rfl, ref0 rfl, ref0 rfl, ⟨_, rfl, Sub.of_eq (by rw [hns])⟩, trivial⟩
        have : okM last (l.getD i mb0) = true := by
          simp only [Bool.or_eq_false_iff, decide_eq_false_iff_not] at hb
          simp only [okM, leB, Bool.and_eq_true, decide_eq_true_eq, Bool.not_eq_true', Bool.or_eq_false_iff, decide_eq_false_iff_not]
          exact ⟨⟨⟨by omega, hb.1.1.2⟩, by omega⟩, by omega⟩
        rw [hs, this, hns, Bool.true_and]
    · have hil : i = l.length := by omega
      subst hil
      rw [List.drop_length] at hs
      rw [hs]
      focus (
 (refine W.seq (W.region (Jx.lssI rfl rfl rfl (J.nil (N.seq (W.seq (W.cF rfl ?_)))))))
 (refine W.exit (N.seq (W.seq (W.region (Jx.assign rfl rfl (J.nil (N.seq (W.ret ?_))))))))
 (refine id ?_; rotate_left))
      exact N.ret (rs := [.tmp 2]) rfl (.tmp rfl .nil) ⟨rfl, rfl⟩
end Go.Proofs.YtlfdhkahiaammaaGreatDoor
namespace Go.Proofs.YtlfdhkahiaammaaGreatDoor
open Go Go.Sse
set_option linter.unusedVariables false
set_option linter.unusedSimpArgs false
set_option maxRecDepth 10000
def flT {α : Type} (f : α → List UInt8) (l : List α) : List UInt8 := (l.map f).flatten
theorem flT_nil {α : Type} (f : α → List UInt8) : flT f [] = [] := rfl
theorem flT_cons {α : Type} (f : α → List UInt8) (x : α) (l : List α) : flT f (x :: l) = f x ++ flT f l := rfl
theorem flT_app {α : Type} (f : α → List UInt8) (l m : List α) : flT f (l ++ m) = flT f l ++ flT f m := by simp [flT]
theorem flT_take {α : Type} (f : α → List UInt8) (d : α) (l : List α) (i : Nat) (h : i < l.length) : flT f (l.take i) ++ f (l.getD i d) = flT f (l.take (i + 1)) := by
  rw [List.take_add_one, List.getElem?_eq_getElem h, List.getD_eq_getElem?_getD, List.getElem?_eq_getElem h]
  simp only [flT, Option.toList_some, Option.getD_some, List.map_append, List.map_cons, List.map_nil, List.flatten_append, List.flatten_cons, List.flatten_nil, List.append_nil]
theorem flT_drop {α : Type} (f : α → List UInt8) (d : α) (l : List α) (i : Nat) (h : i < l.length) : flT f (l.drop i) = f (l.getD i d) ++ flT f (l.drop (i + 1)) := by
  rw [List.drop_eq_getElem_cons h, List.getD_eq_getElem?_getD, List.getElem?_eq_getElem h]; rfl
theorem flT_len {α : Type} {f : α → List UInt8} {k : Nat} : ∀ {l : List α}, (∀ x ∈ l, (f x).length ≤ k) → (flT f l).length ≤ k * l.length
  | [], _ => by simp [flT]
  | x :: l, h => by
    rw [flT_cons, List.length_append, List.length_cons, Nat.mul_add]
    have h1 := h x (List.mem_cons_self ..)
    have h2 := flT_len (l := l) fun y hy => h y (List.mem_cons_of_mem _ hy)
    omega
def mbB (m : Mb) : List UInt8 := textB m.name ++ numB m.power.toNat
def encSet (l : List Mb) : List UInt8 := numB l.length ++ flT mbB l
theorem mbB_len {m : Mb} (h1 : m.name.length ≤ 6) (h2 : m.power ≤ 1000) : (textB m.name).length ≤ 15 ∧ (numB m.power.toNat).length ≤ 9 := by
  have a := (numB_len (n := m.name.length) (by omega)).2
  have b := (numB_len (n := m.power.toNat) (by omega)).2
  exact ⟨by rw [textB, List.length_append]; omega, b⟩
theorem encSet_len {l : List Mb} (h : fineSet l = true) : (encSet l).length ≤ 177 := by
  obtain ⟨h1, h2, h3⟩ := fineSet_spec h
  have a := (numB_len (n := l.length) (by omega)).2
  have b := flT_len (f := mbB) (k := 24) (l := l) fun m hm => by
    obtain ⟨p, _, q⟩ := h3 m hm
    have := mbB_len p q
    rw [mbB, List.length_append]; omega
  rw [encSet, List.length_append]; omega
set_option maxHeartbeats 1000000 in
theorem rpcheck_ok (l : List Mb) : FnC Tryz.prog 137 [msl l] [] (fun v L => v = int (codeB (fineSet l) 50) ∧ L = []) := by
  refine FnC.intro Tryz.func137 rfl Tryz.ntmps137 rfl fun Z w0 hG => ?_
  focus (
 (refine W.seq (W.region (Jx.assign rfl rfl (J.nil (N.seq (W.seq (W.seq (W.region (Jx.move rfl rfl (Jx.lenSl rfl rfl ?_))))))))))
 (refine Jx.lssI rfl rfl rfl (Jx.move rfl rfl ?_))
 (refine' J.guardOr rfl rfl rfl rfl rfl rfl rfl rfl (fun _ => ?_) ?_; rotate_left)
 (refine J.gY rfl rfl rfl ?_)
 (refine Jx.move rfl rfl (J.gY rfl rfl rfl ?_))
 (refine Jx.lenSl rfl rfl ?_)
 (refine J.gY rfl rfl rfl ?_)
 (refine Jx.gtrI rfl rfl rfl (J.nil ?_))
 (refine N.joinedN rfl rfl rfl)
 (refine J.nil (N.seq ?_))
 (refine id ?_; rotate_left))
  refine W.cond rfl (fun hb => ?_) (fun hb => ?_)
  · have hf : fineSet l = false := by
      simp only [Bool.or_eq_true, decide_eq_true_eq] at hb
      simp only [fineSet, Bool.and_eq_false_iff, decide_eq_false_iff_not]
      omega
    rw [hf]
    focus (
 (refine W.seq (W.region (Jx.assign rfl rfl (J.nil (N.seq (W.ret (N.seqRet ?_)))))))
 (refine id ?_; rotate_left))
    exact N.ret (rs := [.tmp 2]) rfl (.tmp rfl .nil) ⟨rfl, rfl⟩
  · simp only [Bool.or_eq_false_iff, decide_eq_false_iff_not] at hb
    have hf : fineSet l = fineM [] l := by
      simp only [fineSet]
      rw [decide_eq_true (by omega), decide_eq_true (by omega)]
      rfl
    focus (
 (refine W.skip (N.seq (W.seq (W.seq (W.region (Jx.assign rfl rfl (J.nil (N.seq (W.block ?_)))))))))
 (refine id ?_; rotate_left))
    refine W.loop (α := Nat) (fun i => [(3, int (i : Int)), (0, msl l)]) (fun _ => []) (fun i => i ≤ l.length ∧ fineSet l = fineM (lastN l i) (l.drop i)) (fun i => l.length - i) 0 ⟨by omega, hf⟩ rfl ⟨ref0 rfl, ref0 rfl, trivial⟩ ?_
    rintro i ⟨hi, hs⟩
    by_cases h1 : i < l.length
    · rw [fineM_step l i h1] at hs
      have hns := lastN_succ l i
      focus (
 (refine W.seq (W.seq (W.region (Jx.move rfl rfl (Jx.move rfl rfl (Jx.lenSl rfl rfl ?_))))))
 (refine Jx.lssI rfl rfl rfl (J.nil (N.seq (W.cT rfl ?_))))
 (refine W.skip (N.seq (W.seq (W.block (W.seq (W.seq (W.region (Jx.move rfl rfl (Jx.move rfl rfl (Jx.indexEl rfl rfl (by assumption) rfl rfl ?_))))))))))
 (refine Jx.fieldEl rfl rfl rfl ?_)
 (refine Jx.loadPP rfl rfl ?_)
 (refine Jx.lenS rfl rfl ?_)
 (refine Jx.lssI rfl rfl rfl (Jx.move rfl rfl ?_))
 (refine' J.guardOr rfl rfl rfl rfl rfl rfl rfl rfl (fun _ => ?_) ?_; rotate_left)
 (refine J.gY rfl rfl rfl ?_)
 (refine Jx.move rfl rfl (J.gY rfl rfl rfl ?_))
 (refine Jx.move rfl rfl (J.gY rfl rfl rfl ?_))
 (refine Jx.indexEl rfl rfl (by assumption) rfl rfl ?_)
 (refine J.gY rfl rfl rfl ?_)
 (refine Jx.fieldEl rfl rfl rfl ?_)
 (refine J.gY rfl rfl rfl ?_)
 (refine Jx.loadPP rfl rfl ?_)
 (refine J.gY rfl rfl rfl ?_)
 (refine Jx.lenS rfl rfl ?_)
 (refine J.gY rfl rfl rfl ?_)
 (refine Jx.gtrI rfl rfl rfl (J.nil ?_))
 (refine N.joinedN rfl rfl rfl)
 (refine Jx.move rfl rfl ?_)
 (refine' J.guardOr rfl rfl rfl rfl rfl rfl rfl rfl (fun _ => ?_) ?_; rotate_left)
 (refine J.gY rfl rfl rfl ?_)
 (refine Jx.move rfl rfl (J.gY rfl rfl rfl ?_))
 (refine Jx.move rfl rfl (J.gY rfl rfl rfl ?_))
 (refine Jx.indexEl rfl rfl (by assumption) rfl rfl ?_)
 (refine J.gY rfl rfl rfl ?_)
 (refine Jx.fieldEl rfl rfl rfl ?_)
 (refine J.gY rfl rfl rfl ?_)
 (refine Jx.loadPP rfl rfl ?_)
 (refine J.gY rfl rfl rfl ?_)
 (refine Jx.lssI rfl rfl rfl (J.nil ?_))
 (refine N.joinedN rfl rfl rfl)
 (refine Jx.move rfl rfl ?_)
 (refine' J.guardOr rfl rfl rfl rfl rfl rfl rfl rfl (fun _ => ?_) ?_; rotate_left)
 (refine J.gY rfl rfl rfl ?_)
 (refine Jx.move rfl rfl (J.gY rfl rfl rfl ?_))
 (refine Jx.move rfl rfl (J.gY rfl rfl rfl ?_))
 (refine Jx.indexEl rfl rfl (by assumption) rfl rfl ?_)
 (refine J.gY rfl rfl rfl ?_)
 (refine Jx.fieldEl rfl rfl rfl ?_)
 (refine J.gY rfl rfl rfl ?_)
 (refine Jx.loadPP rfl rfl ?_)
 (refine J.gY rfl rfl rfl ?_)
 (refine Jx.gtrI rfl rfl rfl (J.nil ?_))
 (refine N.joinedN rfl rfl rfl)
 (refine J.nil (N.seq ?_))
 (refine id ?_; rotate_left))
      refine W.cond rfl (fun hb => ?_) (fun hb => ?_)
      · have hf : fineSet l = false := by
          rw [hs]
          cases hk : okM (lastN l i) (l.getD i mb0) with
          | false => rfl
          | true =>
            simp only [okM, Bool.and_eq_true, decide_eq_true_eq, Bool.not_eq_true'] at hk
            obtain ⟨⟨⟨k1, k2⟩, k4⟩, k5⟩ := hk
            simp only [Bool.or_eq_true, decide_eq_true_eq] at hb
            rcases hb with ((h | h) | h) | h
            · have : (l.getD i mb0).name = [] := List.eq_nil_of_length_eq_zero (by omega)
              rw [this, leB_nil] at k2; cases k2
            · omega
            · omega
            · omega
        rw [hf]
        focus (
 (refine W.seq (W.region (Jx.assign rfl rfl (J.nil (N.seq (W.ret (N.seqRet (N.blockRet (N.seqRet (N.seqRet (N.blockRet (N.seqRet ?_))))))))))))
 (refine id ?_; rotate_left))
        exact N.ret (rs := [.tmp 2]) rfl (.tmp rfl .nil) ⟨rfl, rfl⟩
      · simp only [Bool.or_eq_false_iff, decide_eq_false_iff_not] at hb
        have hne : (l.getD i mb0).name ≠ [] := fun h => by rw [h] at hb; simp at hb
        by_cases h0 : i = 0
        · have hle : leB (l.getD i mb0).name (lastN l i) = false := by rw [h0] at hne ⊢; exact leB_none hne
          focus (
 (refine W.skip (N.seq (W.seq ?_)))
 (refine W.draw follows ?_)
 (refine JD.calm rfl (by decide +kernel) ?_)
 (refine Cx.move rfl rfl ?_)
 (refine Cx.gtrI rfl rfl rfl ?_)
 (refine Cx.move rfl rfl ?_)
 (refine SegC.gN rfl rfl rfl rfl ?_)
 (refine SegC.gN rfl rfl rfl rfl ?_)
 (refine SegC.gN rfl rfl rfl rfl ?_)
 (refine SegC.gN rfl rfl rfl rfl ?_)
 (refine SegC.gN rfl rfl rfl rfl ?_)
 (refine SegC.gN rfl rfl rfl rfl ?_)
 (refine SegC.gN rfl rfl rfl rfl ?_)
 (refine SegC.gN rfl rfl rfl rfl ?_)
 (refine SegC.gN rfl rfl rfl rfl ?_)
 (refine SegC.gN rfl rfl rfl rfl ?_)
 (refine SegC.gN rfl rfl rfl rfl ?_)
 (refine SegC.gN rfl rfl rfl rfl ?_)
 (refine Cx.pickF rfl (by first | rfl | assumption | (exact decide_eq_true (by first | assumption | omega | rfl)) | (exact decide_eq_false (by first | assumption | omega | rfl)) | (simp; done) | (simp; omega)) rfl rfl ?_)
 (refine SegC.nil ?_)
 (refine N.seq (W.cF rfl ?_))
 (refine W.skip (N.seq (W.region (Jx.move rfl rfl (Jx.add64 rfl rfl (by omega) rfl ?_)))))
 (refine Jx.assign rfl rfl (J.nil ?_))
 (refine id ?_; rotate_left))
          refine N.round (i + 1) ⟨h1, ?_⟩ (by omega) rfl ⟨ref0 rfl, ref0 rfl, trivial⟩
          have : okM (lastN l i) (l.getD i mb0) = true := by
            simp only [okM, hle, Bool.and_eq_true, decide_eq_true_eq, Bool.not_false]
            exact ⟨⟨⟨by omega, trivial⟩, by omega⟩, by omega⟩
          rw [hs, this, hns, Bool.true_and]
        · have hsub : (i : Int) - 1 = ((i - 1 : Nat) : Int) := by omega
          have hl1 : i - 1 < l.length := by omega
          have hla : lastN l i = (l.getD (i - 1) mb0).name := by simp [lastN, h0]
          focus (
 (refine W.skip (N.seq (W.seq ?_)))
 (refine W.draw follows ?_)
 (refine JD.calm rfl (by decide +kernel) ?_)
 (refine Cx.move rfl rfl ?_)
 (refine Cx.gtrI rfl rfl rfl ?_)
 (refine Cx.move rfl rfl ?_)
 (refine SegC.gY rfl rfl rfl ?_)
 (refine Cx.move rfl rfl ?_)
 (refine SegC.gY rfl rfl rfl ?_)
 (refine Cx.move rfl rfl ?_)
 (refine SegC.gY rfl rfl rfl ?_)
 (refine Cx.indexEl rfl rfl (by assumption) rfl rfl ?_)
 (refine SegC.gY rfl rfl rfl ?_)
 (refine Cx.fieldEl rfl rfl rfl ?_)
 (refine SegC.gY rfl rfl rfl ?_)
 (refine Cx.loadPP rfl rfl ?_)
 (refine SegC.gY rfl rfl rfl ?_)
 (refine Cx.move rfl rfl ?_)
 (refine SegC.gY rfl rfl rfl ?_)
 (refine Cx.move rfl rfl ?_)
 (refine SegC.gY rfl rfl rfl ?_)
 (refine Cx.sub64 rfl rfl (by omega) rfl ?_)
 (refine SegC.gY rfl rfl rfl ?_)
 (refine Cx.indexEl (j := i - 1) rfl (by rw [← hsub]; rfl) hl1 rfl rfl ?_)
 (refine SegC.gY rfl rfl rfl ?_)
 (refine Cx.fieldEl rfl rfl rfl ?_)
 (refine SegC.gY rfl rfl rfl ?_)
 (refine Cx.loadPP rfl rfl ?_)
 (refine SegC.gY rfl rfl rfl ?_)
 (refine Cx.leqS rfl rfl rfl ?_)
 (refine Cx.pickT rfl (by first | rfl | assumption | (exact decide_eq_true (by first | assumption | omega | rfl)) | (exact decide_eq_false (by first | assumption | omega | rfl)) | (simp; done) | (simp; omega)) rfl rfl ?_)
 (refine SegC.nil ?_)
 (refine N.seq ?_)
 (refine id ?_; rotate_left))
          refine W.cond rfl (fun hb2 => ?_) (fun hb2 => ?_)
          · have hf : fineSet l = false := by
              rw [hs, okM, hla, leB, hb2]; simp
            rw [hf]
            focus (
 (refine W.seq (W.region (Jx.assign rfl rfl (J.nil (N.seq (W.ret (N.blockRet (N.seqRet (N.seqRet (N.blockRet (N.seqRet ?_)))))))))))
 (refine id ?_; rotate_left))
            exact N.ret (rs := [.tmp 2]) rfl (.tmp rfl .nil) ⟨rfl, rfl⟩
          · focus (
 (refine W.skip (N.seq (W.region (Jx.move rfl rfl (Jx.add64 rfl rfl (by omega) rfl ?_)))))
 (refine Jx.assign rfl rfl (J.nil ?_))
 (refine id ?_; rotate_left))
            refine N.round (i + 1) ⟨h1, ?_⟩ (by omega) rfl ⟨ref0 rfl, ref0 rfl, trivial⟩
            have : okM (lastN l i) (l.getD i mb0) = true := by
              simp only [okM, hla, leB, hb2, Bool.and_eq_true, decide_eq_true_eq, Bool.not_false]
              exact ⟨⟨⟨by omega, trivial⟩, by omega⟩, by omega⟩
            rw [hs, this, hns, Bool.true_and]
    · have hil : i = l.length := by omega
      subst hil
      rw [List.drop_length] at hs
      rw [hs]
      focus (
 (refine W.seq (W.seq (W.region (Jx.move rfl rfl (Jx.move rfl rfl (Jx.lenSl rfl rfl ?_))))))
 (refine Jx.lssI rfl rfl rfl (J.nil (N.seq (W.cF rfl ?_))))
 (refine W.exit (N.seq (W.seq (W.region (Jx.assign rfl rfl (J.nil (N.seq (W.ret ?_))))))))
 (refine id ?_; rotate_left))
      exact N.ret (rs := [.tmp 2]) rfl (.tmp rfl .nil) ⟨rfl, rfl⟩
theorem numR_nat (n : Nat) : numR (n : Int) = (numB n, 0) := by simp only [numR]; rw [if_neg (by omega), Int.toNat_natCast]
theorem numR_pos {n : Int} (h : 0 ≤ n) : numR n = (numB n.toNat, 0) := by simp only [numR]; rw [if_neg (by omega)]
def encO {α : Type} (fine : α → Bool) (enc : α → List UInt8) (x : α) : List UInt8 := if fine x then enc x else []
set_option maxHeartbeats 1000000 in
theorem pencode_ok (l : List Mb) : FnC Tryz.prog 112 [msl l] [] (fun v L => v = .tup [str (encO fineSet encSet l), int (codeB (fineSet l) 50)] ∧ L = []) := by
  have c0 := pcheck_ok l
  refine FnC.intro Tryz.func112 rfl Tryz.ntmps112 rfl fun Z w0 hG => ?_
  unfold encO
  cases hf : fineSet l with
  | false =>
    rw [hf] at c0
    focus (
 (refine W.seq (W.region (Jx.assign rfl rfl (Jx.assign rfl rfl (J.nil (N.seq (W.seq (W.seq (W.region (Jx.move rfl rfl ?_))))))))))
 (refine J.call (c0) rfl (evs_args rfl) rfl ?_; rintro _ _ ⟨rfl, rfl⟩; simp only [la1, la2, la3])
 (refine Jx.assign rfl rfl (J.nil (N.seq (W.seq (W.region (Jx.move rfl rfl (Jx.neqI rfl rfl rfl (J.nil (N.seq (W.cT rfl ?_))))))))))
 (refine W.seq (W.region (Jx.move rfl rfl (Jx.assign rfl rfl (Jx.assign rfl rfl (J.nil (N.seq (W.ret (N.seqRet ?_)))))))))
 (refine id ?_; rotate_left))
    exact N.ret (rs := [.tmp 2, .tmp 3]) rfl (.tmp rfl (.tmp rfl .nil)) ⟨rfl, rfl⟩
  | true =>
    rw [hf] at c0
    obtain ⟨g1, g2, g3⟩ := fineSet_spec hf
    have c1 := Num_ok (l.length : Int) (by omega)
    rw [numR_nat] at c1
    have hnl := (numB_len (n := l.length) (by omega)).2
    focus (
 (refine W.seq (W.region (Jx.assign rfl rfl (Jx.assign rfl rfl (J.nil (N.seq (W.seq (W.seq (W.region (Jx.move rfl rfl ?_))))))))))
 (refine J.call (c0) rfl (evs_args rfl) rfl ?_; rintro _ _ ⟨rfl, rfl⟩; simp only [la1, la2, la3])
 (refine Jx.assign rfl rfl (J.nil (N.seq (W.seq (W.region (Jx.move rfl rfl (Jx.neqI rfl rfl rfl (J.nil (N.seq (W.cF rfl ?_))))))))))
 (refine W.skip (N.seq (W.seq (W.region (Jx.move rfl rfl (Jx.lenSl rfl rfl ?_))))))
 (refine J.call (c1) rfl (evs_args rfl) rfl ?_; rintro _ _ ⟨rfl, rfl⟩; simp only [la1, la2, la3])
 (refine Jx.move rfl rfl (Jx.extract rfl rfl rfl ?_))
 (refine Jx.extract rfl rfl rfl ?_)
 (refine Jx.assign rfl rfl (Jx.assign rfl rfl (J.nil (N.seq (W.seq (W.seq (W.region (Jx.move rfl rfl (Jx.lenSl rfl rfl ?_)))))))))
 (refine Jx.move rfl rfl (J.nil (N.seq (W.block ?_))))
 (refine id ?_; rotate_left))
    refine W.loop (α := Nat) (fun i => [(24, int (i : Int)), (23, int l.length), (22, msl l), (5, str (numB l.length ++ flT mbB (l.take i)))]) (fun _ => []) (fun i => i ≤ l.length) (fun i => l.length - i) 0 (by omega) rfl ⟨ref0 rfl, ref0 rfl, ref0 rfl, ⟨_, rfl, Sub.of_eq (by simp [flT])⟩, trivial⟩ ?_
    intro i hi
    have hal : (numB l.length ++ flT mbB (l.take i)).length ≤ 9 + 24 * 7 := by
      have := flT_len (f := mbB) (k := 24) (l := l.take i) fun m hm => by
        obtain ⟨p, _, q⟩ := g3 m (List.mem_of_mem_take hm)
        have := mbB_len p q
        rw [mbB, List.length_append]; omega
      rw [List.length_append]
      have h2 : (l.take i).length ≤ 7 := by rw [List.length_take]; omega
      omega
    by_cases h1 : i < l.length
    · obtain ⟨p, p2, q⟩ := g3 _ (getD_mem (d := mb0) h1)
      have hml := mbB_len p q
      have c2 := Num_ok (l.getD i mb0).power (by omega)
      rw [numR_pos (by omega)] at c2
      have c3 := text_ok (l.getD i mb0).name (by omega)
      have hst : numB l.length ++ flT mbB (l.take i) ++ (textB (l.getD i mb0).name ++ numB (l.getD i mb0).power.toNat) = numB l.length ++ flT mbB (l.take (i + 1)) := by rw [← flT_take mbB mb0 l i h1]; simp only [mbB, List.append_assoc]
      generalize numB l.length ++ flT mbB (l.take i) = acc at *
      generalize textB (l.getD i mb0).name = tx at *
      generalize numB (l.getD i mb0).power.toNat = nb at *
      focus (
 (refine W.seq (W.region (Jx.lssI rfl rfl rfl (J.nil (N.seq (W.seq (W.cT rfl ?_)))))))
 (refine W.skip (N.seq (W.seq (W.block (W.seq (W.region (Jx.indexEl rfl rfl (by assumption) rfl rfl ?_)))))))
 (refine Jx.loadPPall rfl rfl rfl ?_)
 (refine J.alloc (by simp only [List.map_cons, List.map_nil]; rfl) rfl rfl ?_; intro b')
 (refine J.storeAll rfl rfl rfl 0 rfl rfl rfl ?_)
 (refine J.nil (N.seq (W.seq (W.region (Jx.fieldAddr rfl rfl ?_)))))
 (refine Jx.load rfl 0 rfl rfl rfl ?_)
 (refine J.call (c2) rfl (evs_args rfl) rfl ?_; rintro _ _ ⟨rfl, rfl⟩; simp only [la1, la2, la3])
 (refine Jx.move rfl rfl (Jx.extract rfl rfl rfl ?_))
 (refine Jx.extract rfl rfl rfl ?_)
 (refine Jx.assign rfl rfl (Jx.assign rfl rfl (J.nil (N.seq (W.region (Jx.move rfl rfl (Jx.fieldAddr rfl rfl ?_)))))))
 (refine Jx.load rfl 0 rfl rfl rfl ?_)
 (refine J.call (c3) rfl (evs_args rfl) rfl ?_; rintro _ _ ⟨rfl, rfl⟩; simp only [la1, la2, la3])
 (refine Jx.move rfl rfl (Jx.cat rfl rfl (by first | omega | (rw [List.length_append]; omega)) rfl ?_))
 (refine Jx.cat rfl rfl (by first | omega | (rw [List.length_append]; omega)) rfl ?_)
 (refine Jx.assign rfl rfl (J.nil (N.seq (W.region (Jx.add64 rfl rfl (by omega) rfl ?_)))))
 (refine Jx.move rfl rfl (J.nil ?_))
 (refine id ?_; rotate_left))
      refine N.drop (List.sublist_cons_self _ _) ?_
      exact N.round (i + 1) h1 (by omega) rfl ⟨ref0 rfl, ref0 rfl, ref0 rfl, ⟨_, rfl, Sub.of_eq (by rw [hst])⟩, trivial⟩
    · have hil : i = l.length := by omega
      subst hil
      rw [List.take_length]
      focus (
 (refine W.seq (W.region (Jx.lssI rfl rfl rfl (J.nil (N.seq (W.seq (W.cF rfl ?_)))))))
 (refine W.exit (N.seq (W.seq (W.region (Jx.move rfl rfl (Jx.assign rfl rfl (Jx.assign rfl rfl (J.nil (N.seq (W.ret ?_))))))))))
 (refine id ?_; rotate_left))
      exact N.ret (rs := [.tmp 2, .tmp 3]) rfl (.tmp rfl (.tmp rfl .nil)) ⟨rfl, rfl⟩
set_option maxHeartbeats 1000000 in
theorem rpencode_ok (l : List Mb) : FnC Tryz.prog 138 [msl l] [] (fun v L => v = .tup [str (encO fineSet encSet l), int (codeB (fineSet l) 50)] ∧ L = []) := by
  have c0 := rpcheck_ok l
  refine FnC.intro Tryz.func138 rfl Tryz.ntmps138 rfl fun Z w0 hG => ?_
  unfold encO
  cases hf : fineSet l with
  | false =>
    rw [hf] at c0
    focus (
 (refine W.seq (W.region (Jx.assign rfl rfl (Jx.assign rfl rfl (J.nil (N.seq (W.seq (W.seq (W.region (Jx.move rfl rfl ?_))))))))))
 (refine J.call (c0) rfl (evs_args rfl) rfl ?_; rintro _ _ ⟨rfl, rfl⟩; simp only [la1, la2, la3])
 (refine Jx.neqI rfl rfl rfl (J.nil (N.seq (W.cT rfl ?_))))
 (refine W.seq (W.region (Jx.assign rfl rfl (Jx.assign rfl rfl (J.nil (N.seq (W.ret (N.seqRet ?_))))))))
 (refine id ?_; rotate_left))
    exact N.ret (rs := [.tmp 2, .tmp 3]) rfl (.tmp rfl (.tmp rfl .nil)) ⟨rfl, rfl⟩
  | true =>
    rw [hf] at c0
    obtain ⟨g1, g2, g3⟩ := fineSet_spec hf
    have c1 := number_ok l.length (by omega)
    have hnl := (numB_len (n := l.length) (by omega)).2
    focus (
 (refine W.seq (W.region (Jx.assign rfl rfl (Jx.assign rfl rfl (J.nil (N.seq (W.seq (W.seq (W.region (Jx.move rfl rfl ?_))))))))))
 (refine J.call (c0) rfl (evs_args rfl) rfl ?_; rintro _ _ ⟨rfl, rfl⟩; simp only [la1, la2, la3])
 (refine Jx.neqI rfl rfl rfl (J.nil (N.seq (W.cF rfl ?_))))
 (refine W.skip (N.seq (W.seq (W.region (Jx.move rfl rfl (Jx.lenSl rfl rfl ?_))))))
 (refine J.call (c1) rfl (evs_args rfl) rfl ?_; rintro _ _ ⟨rfl, rfl⟩; simp only [la1, la2, la3])
 (refine Jx.assign rfl rfl (J.nil (N.seq (W.seq (W.seq (W.region (Jx.assign rfl rfl (J.nil (N.seq (W.block ?_))))))))))
 (refine id ?_; rotate_left))
    refine W.loop (α := Nat) (fun i => [(5, int (i : Int)), (0, msl l), (4, str (numB l.length ++ flT mbB (l.take i)))]) (fun _ => []) (fun i => i ≤ l.length) (fun i => l.length - i) 0 (by omega) rfl ⟨ref0 rfl, ref0 rfl, ⟨_, rfl, Sub.of_eq (by simp [flT])⟩, trivial⟩ ?_
    intro i hi
    have hal : (numB l.length ++ flT mbB (l.take i)).length ≤ 9 + 24 * 7 := by
      have := flT_len (f := mbB) (k := 24) (l := l.take i) fun m hm => by
        obtain ⟨p, _, q⟩ := g3 m (List.mem_of_mem_take hm)
        have := mbB_len p q
        rw [mbB, List.length_append]; omega
      rw [List.length_append]
      have h2 : (l.take i).length ≤ 7 := by rw [List.length_take]; omega
      omega
    by_cases h1 : i < l.length
    · obtain ⟨p, p2, q⟩ := g3 _ (getD_mem (d := mb0) h1)
      have hml := mbB_len p q
      have hpw : (l.getD i mb0).power = (((l.getD i mb0).power.toNat : Nat) : Int) := by omega
      have c2 := number_ok (l.getD i mb0).power.toNat (by omega)
      rw [← hpw] at c2
      have c3 := rtext_ok (l.getD i mb0).name (by omega)
      have hst : numB l.length ++ flT mbB (l.take i) ++ textB (l.getD i mb0).name ++ numB (l.getD i mb0).power.toNat = numB l.length ++ flT mbB (l.take (i + 1)) := by rw [← flT_take mbB mb0 l i h1]; simp only [mbB, List.append_assoc]
      generalize numB l.length ++ flT mbB (l.take i) = acc at *
      generalize textB (l.getD i mb0).name = tx at *
      generalize numB (l.getD i mb0).power.toNat = nb at *
      focus (
 (refine W.seq (W.seq (W.region (Jx.move rfl rfl (Jx.move rfl rfl (Jx.lenSl rfl rfl ?_))))))
 (refine Jx.lssI rfl rfl rfl (J.nil (N.seq (W.cT rfl ?_))))
 (refine W.skip (N.seq (W.seq (W.block ?_))))
 (refine W.draw follows ?_)
 (refine JD.calm rfl (by decide +kernel) ?_)
 (refine Cx.move rfl rfl ?_)
 (refine Cx.move rfl rfl ?_)
 (refine Cx.move rfl rfl ?_)
 (refine Cx.indexEl rfl rfl (by assumption) rfl rfl ?_)
 (refine Cx.fieldEl rfl rfl rfl ?_)
 (refine Cx.loadPP rfl rfl ?_)
 (refine SegC.q (Qs.call (Lc := []) (c3) (fun s L' h => h) (List.Perm.refl _) (evs_args rfl)) rfl ?_)
 (refine Cx.cat rfl rfl (by first | omega | (rw [List.length_append]; omega)) rfl ?_)
 (refine Cx.move rfl rfl ?_)
 (refine Cx.move rfl rfl ?_)
 (refine Cx.indexEl rfl rfl (by assumption) rfl rfl ?_)
 (refine Cx.fieldEl rfl rfl rfl ?_)
 (refine Cx.loadPP rfl rfl ?_)
 (refine SegC.q (Qs.call (Lc := []) (c2) (fun s L' h => h) (List.Perm.refl _) (evs_args rfl)) rfl ?_)
 (refine Cx.cat rfl rfl (by first | omega | (rw [List.length_append]; omega)) rfl ?_)
 (refine Cx.assign rfl rfl ?_)
 (refine SegC.nil ?_)
 (refine N.seq (W.region (Jx.move rfl rfl (Jx.add64 rfl rfl (by omega) rfl ?_))))
 (refine Jx.assign rfl rfl (J.nil ?_))
 (refine id ?_; rotate_left))
      exact N.round (i + 1) h1 (by omega) rfl ⟨ref0 rfl, ref0 rfl, ⟨_, rfl, Sub.of_eq (by rw [hst])⟩, trivial⟩
    · have hil : i = l.length := by omega
      subst hil
      rw [List.take_length]
      focus (
 (refine W.seq (W.seq (W.region (Jx.move rfl rfl (Jx.move rfl rfl (Jx.lenSl rfl rfl ?_))))))
 (refine Jx.lssI rfl rfl rfl (J.nil (N.seq (W.cF rfl ?_))))
 (refine W.exit (N.seq (W.seq (W.region (Jx.move rfl rfl (Jx.assign rfl rfl (Jx.assign rfl rfl (J.nil (N.seq (W.ret ?_))))))))))
 (refine id ?_; rotate_left))
      exact N.ret (rs := [.tmp 2, .tmp 3]) rfl (.tmp rfl (.tmp rfl .nil)) ⟨rfl, rfl⟩
end Go.Proofs.YtlfdhkahiaammaaGreatDoor
namespace Go.Proofs.YtlfdhkahiaammaaGreatDoor
open Go Go.Sse
set_option linter.unusedVariables false
set_option linter.unusedSimpArgs false
set_option maxRecDepth 10000
def DecR {α : Type} (fine : α → Bool) (enc : α → List UInt8) (s : List UInt8) : Option α → Prop
  | some x => fine x = true ∧ enc x = s
  | none => ∀ x, fine x = true → enc x ≠ s
abbrev codeO {α : Type} (o : Option α) (e : Int) : Int := if o.isSome then 0 else e
structure RdM (s : List UInt8) (many : Nat) (acc : List Mb) (st : PSt) : Prop where
  sound : ∀ rest, st = some rest → s = numB many ++ (flT mbB acc ++ rest)
  whole : ∀ l, fineSet l = true → encSet l = s → many = l.length ∧ acc.length ≤ l.length ∧ acc = l.take acc.length ∧ st = some (flT mbB (l.drop acc.length))
theorem RdM.start {s : List UInt8} {many : Nat} {st : PSt} (h : numP (some s) = (many, st)) : RdM s many [] st := by
  refine ⟨fun rest hr => ?_, fun l h1 h2 => ?_⟩
  · subst hr
    have := (numP_good h).1
    simpa [flT] using this
  · have hl := (fineSet_spec h1).2.1
    rw [← h2, encSet, numP_back _ (by omega)] at h
    simp only [Prod.mk.injEq] at h
    exact ⟨h.1.symm, Nat.zero_le _, rfl, h.2.symm⟩
theorem RdM.step {s : List UInt8} {many : Nat} {acc : List Mb} {st st1 st2 : PSt} {t : List UInt8} {n : Nat} (h : RdM s many acc st) (hi : acc.length < many) (h1 : textP 6 st = (t, st1)) (h2 : numP st1 = (n, st2)) : RdM s many (acc ++ [⟨t, (n : Int)⟩]) st2 := by
  refine ⟨fun rest hr => ?_, fun l g1 g2 => ?_⟩
  · subst hr
    obtain ⟨e1, _⟩ := numP_good h2
    subst e1
    obtain ⟨e2, _⟩ := textP_good h1
    rw [h.sound _ e2, flT_app, flT_cons, flT_nil, mbB]
    simp only [List.append_assoc, List.append_nil, List.nil_append, Int.toNat_natCast]
  · obtain ⟨k1, k2, k3, k4⟩ := h.whole l g1 g2
    obtain ⟨f1, f2, f3⟩ := fineSet_spec g1
    have hlt : acc.length < l.length := by omega
    obtain ⟨p1, p2, p3⟩ := f3 _ (getD_mem (d := mb0) hlt)
    rw [k4, flT_drop mbB mb0 l _ hlt, mbB, List.append_assoc, textP_back _ _ (by omega) (by omega)] at h1
    simp only [Prod.mk.injEq] at h1
    obtain ⟨rfl, rfl⟩ := h1
    rw [numP_back _ (by omega)] at h2
    simp only [Prod.mk.injEq] at h2
    obtain ⟨rfl, rfl⟩ := h2
    have hx : (⟨(l.getD acc.length mb0).name, (((l.getD acc.length mb0).power.toNat : Nat) : Int)⟩ : Mb) = l.getD acc.length mb0 := by
      rw [Int.toNat_of_nonneg (by omega)]
    have ht : l.take (acc.length + 1) = l.take acc.length ++ [l.getD acc.length mb0] := by
      rw [List.take_add_one, List.getElem?_eq_getElem hlt, List.getD_eq_getElem?_getD, List.getElem?_eq_getElem hlt]; rfl
    rw [hx]
    simp only [List.length_append, List.length_cons, List.length_nil, Nat.zero_add]
    exact ⟨k1, hlt, by rw [ht, ← k3], by trivial⟩
theorem RdM.yes {s : List UInt8} {many : Nat} {acc : List Mb} {st : PSt} (h : RdM s many acc st) (h1 : st = some []) (h2 : acc.length = many) (h3 : fineSet acc = true) : DecR fineSet encSet s (some acc) :=
  ⟨h3, by rw [h.sound _ h1, List.append_nil, encSet, h2]⟩
theorem RdM.no {s : List UInt8} {many : Nat} {acc : List Mb} {st : PSt} (h : RdM s many acc st) (hstop : acc.length < many → acc.length ≤ 7 → st = none) (hbad : ¬ (st = some [] ∧ acc.length = many ∧ fineSet acc = true)) : DecR fineSet encSet s none := by
  intro l g1 g2
  obtain ⟨k1, k2, k3, k4⟩ := h.whole l g1 g2
  obtain ⟨f1, f2, f3⟩ := fineSet_spec g1
  have he : ¬ acc.length < many := fun hlt => by rw [hstop hlt (by omega)] at k4; cases k4
  have ha : acc.length = l.length := by omega
  rw [ha, List.take_length] at k3
  subst k3
  rw [List.drop_length] at k4
  exact hbad ⟨k4, by omega, g1⟩
set_option maxHeartbeats 2000000 in
theorem pdecode_ok (s : List UInt8) (hs : s.length ≤ 1099511627776) : FnC Tryz.prog 139 [str s] [] (fun v L => (∃ o, DecR fineSet encSet s o ∧ v = .tup [msl (o.getD []), int (codeO o 3)]) ∧ L = []) := by
  have c0 := read_ok s
  have c1 := fun b => rd_Num b s 0 0 (Nat.zero_le _) hs
  refine FnC.intro Tryz.func139 rfl Tryz.ntmps139 rfl fun Z w0 hG => ?_
  focus (
 (refine W.seq (W.region (Jx.assign rfl rfl (Jx.assign rfl rfl (J.nil (N.seq (W.seq (W.region (Jx.move rfl rfl ?_)))))))))
 (refine J.call c0 rfl (evs_args rfl) rfl ?_; rintro _ _ ⟨b, rfl, rfl⟩; simp only [la1, la2, la3])
 (refine Jx.assign rfl rfl (J.nil (N.seq (W.seq (W.region (Jx.assign rfl rfl (J.nil (N.seq (W.seq (W.region (Jx.move rfl rfl ?_)))))))))))
 (refine J.call ((c1 _)) rfl (evs_args rfl) rfl ?_; rintro _ _ ⟨many, a1, c1', rfl, rfl, ha1, hm, hn⟩; simp only [la1, la2, la3])
 (refine Jx.assign rfl rfl (J.nil (N.seq (W.seq (W.seq (W.region (Jx.assign rfl rfl (J.nil (N.seq (W.block ?_))))))))))
 (refine id ?_; rotate_left))
  have hst : RdM s many [] (lf s a1 c1') := RdM.start hn
  refine W.rowNil 148 2 (elOf mbC mb0 []) ?_
  refine W.perm (List.Perm.swap _ _ _) ?_
  refine W.loop (α := Value × List Mb × Nat × Int) (fun x => [(7, int (x.2.1.length : Int)), (6, int (many : Int)), (5, .val x.1), (4, ptr b)]) (fun x => [rdO b ⟨s, x.2.2.1, x.2.2.2⟩, .row x.1 148 2 x.2.1.length (elOf mbC mb0 x.2.1)])
    (fun x => x.2.2.1 ≤ s.length ∧ x.2.1.length ≤ 8 ∧ RdM s many x.2.1 (lf s x.2.2.1 x.2.2.2)) (fun x => 8 - x.2.1.length) (.slice none 0 0, [], a1, c1') ⟨ha1, by simp, hst⟩ rfl ⟨ref0 rfl, ref0 rfl, ref0 rfl, ref0 rfl, trivial⟩ ?_
  rintro ⟨u, acc, a, c⟩ ⟨ha, h8, hr⟩
  simp only at ha h8 hr ⊢
  have cc := code_ok b ⟨s, a, c⟩
  simp only at cc
  focus (
 (refine W.seq (W.seq (W.region (Jx.move rfl rfl (Jx.move rfl rfl (Jx.lssI rfl rfl rfl (Jx.move rfl rfl ?_)))))))
 (refine' J.guardAnd rfl rfl rfl rfl rfl rfl rfl rfl (fun _ => ?_) ?_; rotate_left)
 (refine J.gY rfl rfl rfl ?_)
 (refine Jx.move rfl rfl (J.gY rfl rfl rfl ?_))
 (refine Jx.leqI rfl rfl rfl (J.nil ?_))
 (refine N.joinedN rfl rfl rfl)
 (refine Jx.move rfl rfl ?_)
 (refine' J.guardAnd rfl rfl rfl rfl rfl rfl rfl rfl (fun _ => ?_) ?_; rotate_left)
 (refine J.gY rfl rfl rfl ?_)
 (refine Jx.move rfl rfl (J.gY rfl rfl rfl ?_))
 (refine J.call (cc) rfl (evs_args rfl) rfl ?_; rintro _ _ ⟨rfl, rfl⟩; simp only [la1, la2, la3])
 (refine J.gY rfl rfl rfl ?_)
 (refine Jx.eqlI rfl rfl rfl (J.nil ?_))
 (refine N.joinedN rfl rfl rfl)
 (refine J.nil (N.seq ?_))
 (refine id ?_; rotate_left))
  refine W.cond rfl (fun hb => ?_) (fun hb => ?_)
  · simp only [Bool.and_eq_true, decide_eq_true_eq] at hb
    have c2 := rd_Text b s a c 6 ha hs
    have hmx : ∀ x : Mb, acc.length + [x].length ≤ maxLen ∧ (acc.length + [x].length) * 24 ≤ 140737488355328 := fun x => by simp only [maxLen, List.length_cons, List.length_nil]; omega
    focus (
 (refine W.skip (N.seq (W.seq (W.block (W.region (Jx.move rfl rfl (Jx.move rfl rfl ?_)))))))
 (refine J.call (c2) rfl (evs_args rfl) rfl ?_; rintro _ _ ⟨t, a2, c2', rfl, rfl, ha2, hn2⟩; simp only [la1, la2, la3])
 (refine Jx.move rfl rfl ?_)
 (refine J.call (rd_Num b s a2 c2' ha2 hs) rfl (evs_args rfl) rfl ?_; rintro _ _ ⟨n, a3, c3', rfl, rfl, ha3, hn3l, hn3⟩; simp only [la1, la2, la3])
 (refine Jx.buildB rfl rfl rfl rfl rfl ?_)
 (refine J.qs (Qs.buildOne mbC mb0 ⟨t, (n : Int)⟩ rfl rfl rfl rfl rfl rfl rfl) rfl ?_)
 (refine J.appendAt (l := acc) (l2 := [⟨t, (n : Int)⟩]) 1 rfl rfl (SrcOK.sl rfl) rfl rfl (hmx _) rfl ?_; intro v2 hv2)
 (refine Jx.assign rfl rfl (J.nil (N.seq (W.region (Jx.move rfl rfl (Jx.add64 rfl rfl (by omega) rfl ?_))))))
 (refine Jx.assign rfl rfl (J.nil ?_))
 (refine id ?_; rotate_left))
    exact N.round (v2, acc ++ [⟨t, (n : Int)⟩], a3, c3') ⟨ha3, by simp only [List.length_append, List.length_cons, List.length_nil]; omega, hr.step (by omega) hn2 hn3⟩ (by simp only [List.length_append, List.length_cons, List.length_nil]; omega) rfl ⟨⟨_, rfl, Sub.of_eq (by simp)⟩, ref0 rfl, ref0 rfl, ref0 rfl, trivial⟩
  · refine W.freezeAt 1 5 rfl rfl (by simp only [maxLen]; omega) ?_
    have hstop : acc.length < many → acc.length ≤ 7 → lf s a c = none := fun h1 h2 => by
      rw [decide_eq_true (by omega : ((acc.length : Nat) : Int) < (many : Int)), decide_eq_true (by omega : ((acc.length : Nat) : Int) ≤ 7), Bool.true_and, Bool.true_and] at hb
      exact lf_no (by simpa using hb)
    have ce := rd_End b s a c ha hs
    have ck := pcheck_ok acc
    focus (
 (refine W.exit (N.seq (W.seq (W.seq (W.region (Jx.move rfl rfl ?_))))))
 (refine J.call (ce) rfl (evs_args rfl) rfl ?_; rintro _ _ ⟨e, a4, c4, rfl, rfl, he⟩; simp only [la1, la2, la3])
 (refine Jx.neqI rfl rfl rfl (Jx.move rfl rfl ?_))
 (refine' J.guardOr rfl rfl rfl rfl rfl rfl rfl rfl (fun _ => ?_) ?_; rotate_left)
 (refine J.gY rfl rfl rfl ?_)
 (refine Jx.move rfl rfl (J.gY rfl rfl rfl ?_))
 (refine Jx.lenSl rfl rfl ?_)
 (refine J.gY rfl rfl rfl ?_)
 (refine Jx.move rfl rfl (J.gY rfl rfl rfl ?_))
 (refine Jx.neqI rfl rfl rfl (J.nil ?_))
 (refine N.joinedN rfl rfl rfl)
 (refine Jx.move rfl rfl ?_)
 (refine' J.guardOr rfl rfl rfl rfl rfl rfl rfl rfl (fun _ => ?_) ?_; rotate_left)
 (refine J.gY rfl rfl rfl ?_)
 (refine Jx.move rfl rfl (J.gY rfl rfl rfl ?_))
 (refine J.call (ck) rfl (evs_args rfl) rfl ?_; rintro _ _ ⟨rfl, rfl⟩; simp only [la1, la2, la3])
 (refine J.gY rfl rfl rfl ?_)
 (refine Jx.neqI rfl rfl rfl (J.nil ?_))
 (refine N.joinedN rfl rfl rfl)
 (refine J.nil (N.seq ?_))
 (refine id ?_; rotate_left))
    refine W.cond rfl (fun hb2 => ?_) (fun hb2 => ?_)
    · focus (
 (refine W.seq (W.region (Jx.assign rfl rfl (Jx.assign rfl rfl (J.nil (N.seq (W.ret (N.seqRet ?_))))))))
 (refine id ?_; rotate_left))
      refine N.told (G := [(2, msl []), (3, int 3)]) ⟨⟨_, rfl, Sub.nil 2 _⟩, ref0 rfl, trivial⟩ ?_
      refine N.retD (rs := [.tmp 2, .tmp 3]) (L1 := []) rfl (.tmp rfl (.tmp rfl .nil)) (List.nil_sublist _) ⟨⟨none, hr.no hstop ?_, rfl⟩, rfl⟩
      rintro ⟨p1, p2, p3⟩
      rw [he.2 p1, p2, p3] at hb2
      simp at hb2
    · focus (
 (refine W.skip (N.seq (W.seq (W.region (Jx.move rfl rfl (Jx.assign rfl rfl (Jx.assign rfl rfl (J.nil (N.seq (W.ret ?_))))))))))
 (refine id ?_; rotate_left))
      refine N.retD (rs := [.tmp 2, .tmp 3]) (L1 := []) rfl (.tmp rfl (.tmp rfl .nil)) (List.nil_sublist _) ⟨⟨some acc, ?_, rfl⟩, rfl⟩
      simp only [Bool.or_eq_false_iff, decide_eq_false_iff_not] at hb2
      refine hr.yes (he.1 (by omega)) (by omega) ?_
      cases hf : fineSet acc with
      | true => rfl
      | false => rw [hf] at hb2; simp at hb2
set_option maxHeartbeats 2000000 in
theorem rpdecode_ok (s : List UInt8) (hs : s.length ≤ 1099511627776) : FnC Tryz.prog 118 [str s] [] (fun v L => (∃ o, DecR fineSet encSet s o ∧ v = .tup [msl (o.getD []), int (codeO o 3)]) ∧ L = []) := by
  have c1 := fun b => r_Num b s 0 hs
  refine FnC.intro Tryz.func118 rfl Tryz.ntmps118 rfl fun Z w0 hG => ?_
  focus (
 (refine W.seq (W.region (Jx.assign rfl rfl (Jx.assign rfl rfl (J.nil (N.seq (W.seq (W.region (Jx.move rfl rfl (Jx.buildB rfl rfl rfl rfl rfl ?_))))))))))
 (refine J.boxAg rfl rfl ?_; intro b')
 (refine Jx.assign rfl rfl (J.nil (N.seq (W.seq (W.region (Jx.move rfl rfl ?_))))))
 (refine J.call ((c1 _)) rfl (evs_args rfl) rfl ?_; rintro _ _ ⟨many, s1, c1', rfl, rfl, hs1, hn⟩; simp only [la1, la2, la3])
 (refine Jx.assign rfl rfl (J.nil (N.seq (W.seq (W.seq (W.region (Jx.move rfl rfl (Jx.nilCheck rfl rfl ?_))))))))
 (refine Jx.fieldAddr rfl rfl ?_)
 (refine Jx.load rfl 0 rfl rfl rfl ?_)
 (refine Jx.neqI rfl rfl rfl (Jx.move rfl rfl ?_))
 (refine' J.guardOr rfl rfl rfl rfl rfl rfl rfl rfl (fun _ => ?_) ?_; rotate_left)
 (refine J.gY rfl rfl rfl ?_)
 (refine Jx.move rfl rfl (J.gY rfl rfl rfl ?_))
 (refine Jx.gtrI rfl rfl rfl (J.nil ?_))
 (refine N.joinedN rfl rfl rfl)
 (refine J.nil (N.seq ?_))
 (refine id ?_; rotate_left))
  have hst : RdM s many [] (rf s1 c1') := RdM.start hn
  refine W.cond rfl (fun hb => ?_) (fun hb => ?_)
  · focus (
 (refine W.seq (W.region (Jx.assign rfl rfl (Jx.assign rfl rfl (J.nil (N.seq (W.ret (N.seqRet ?_))))))))
 (refine id ?_; rotate_left))
    refine N.told (G := [(2, msl []), (3, int 3)]) ⟨⟨_, rfl, Sub.nil 2 _⟩, ref0 rfl, trivial⟩ ?_
    refine N.retD (rs := [.tmp 2, .tmp 3]) (L1 := []) rfl (.tmp rfl (.tmp rfl .nil)) (List.nil_sublist _) ⟨⟨none, fun l g1 g2 => ?_, rfl⟩, rfl⟩
    obtain ⟨k1, k2, k3, k4⟩ := hst.whole l g1 g2
    have f2 := (fineSet_spec g1).2.1
    simp only [Bool.or_eq_true, decide_eq_true_eq] at hb
    rcases hb with hb | hb
    · rw [rf_no hb] at k4; cases k4
    · omega
  · simp only [Bool.or_eq_false_iff, decide_eq_false_iff_not] at hb
    focus (
 (refine W.skip (N.seq (W.seq (W.region (Jx.assign rfl rfl (J.nil (N.seq (W.seq (W.seq (W.region (Jx.assign rfl rfl (J.nil (N.seq (W.block ?_))))))))))))))
 (refine id ?_; rotate_left))
    refine W.rowNil 148 2 (elOf mbC mb0 []) ?_
    refine W.perm (List.Perm.swap _ _ _) ?_
    refine W.loop (α := Value × List Mb × List UInt8 × Int) (fun x => [(7, int (x.2.1.length : Int)), (5, int (many : Int)), (6, .val x.1), (4, ptr b'), (0, str s)]) (fun x => [rrO b' x.2.2.1 x.2.2.2, .row x.1 148 2 x.2.1.length (elOf mbC mb0 x.2.1)])
      (fun x => x.2.2.1.length ≤ s.length ∧ x.2.1.length ≤ many ∧ RdM s many x.2.1 (rf x.2.2.1 x.2.2.2)) (fun x => many - x.2.1.length) (.slice none 0 0, [], s1, c1') ⟨hs1, by simp, hst⟩ rfl ⟨ref0 rfl, ref0 rfl, ref0 rfl, ref0 rfl, ref0 rfl, trivial⟩ ?_
    rintro ⟨u, acc, s2, c2⟩ ⟨hs2, h8, hr⟩
    simp only at hs2 h8 hr ⊢
    by_cases h1 : acc.length < many
    · have c2 := r_Text b' s2 c2 6 (by omega)
      have hmx : ∀ x : Mb, acc.length + [x].length ≤ maxLen ∧ (acc.length + [x].length) * 24 ≤ 140737488355328 := fun x => by simp only [maxLen, List.length_cons, List.length_nil]; omega
      focus (
 (refine W.seq (W.seq (W.region (Jx.move rfl rfl (Jx.move rfl rfl (Jx.lssI rfl rfl rfl (J.nil (N.seq (W.cT rfl ?_)))))))))
 (refine W.skip (N.seq (W.seq (W.block (W.seq (W.region (Jx.move rfl rfl ?_)))))))
 (refine J.call (c2) rfl (evs_args rfl) rfl ?_; rintro _ _ ⟨t, s3, c3, rfl, rfl, hs3, hn2⟩; simp only [la1, la2, la3])
 (refine Jx.assign rfl rfl (J.nil (N.seq (W.seq (W.region (Jx.move rfl rfl ?_))))))
 (refine J.call (r_Num b' s3 c3 (by omega)) rfl (evs_args rfl) rfl ?_; rintro _ _ ⟨n, s4, c4, rfl, rfl, hs4, hn3⟩; simp only [la1, la2, la3])
 (refine Jx.assign rfl rfl (J.nil (N.seq (W.region (Jx.move rfl rfl (Jx.move rfl rfl (Jx.move rfl rfl (Jx.buildB rfl rfl rfl rfl rfl ?_))))))))
 (refine J.qs (Qs.buildOne mbC mb0 ⟨t, (n : Int)⟩ rfl rfl rfl rfl rfl rfl rfl) rfl ?_)
 (refine J.appendAt (l := acc) (l2 := [⟨t, (n : Int)⟩]) 1 rfl rfl (SrcOK.sl rfl) rfl rfl (hmx _) rfl ?_; intro v2 hv2)
 (refine Jx.assign rfl rfl (J.nil (N.seq (W.region (Jx.move rfl rfl (Jx.add64 rfl rfl (by omega) rfl ?_))))))
 (refine Jx.assign rfl rfl (J.nil ?_))
 (refine id ?_; rotate_left))
      exact N.round (v2, acc ++ [⟨t, (n : Int)⟩], s4, c4) ⟨by simp only; omega, by simp only [List.length_append, List.length_cons, List.length_nil]; omega, hr.step h1 hn2 hn3⟩ (by simp only [List.length_append, List.length_cons, List.length_nil]; omega) rfl ⟨⟨_, rfl, Sub.of_eq (by simp)⟩, ref0 rfl, ref0 rfl, ref0 rfl, ref0 rfl, trivial⟩
    · refine W.freezeAt 1 6 rfl rfl (by simp only [maxLen]; omega) ?_
      have ck := rpencode_ok acc
      generalize hX : encO fineSet encSet acc = X at *
      focus (
 (refine W.seq (W.seq (W.region (Jx.move rfl rfl (Jx.move rfl rfl (Jx.lssI rfl rfl rfl (J.nil (N.seq (W.cF rfl ?_)))))))))
 (refine W.exit (N.seq (W.seq (W.region (Jx.move rfl rfl ?_)))))
 (refine J.call (ck) rfl (evs_args rfl) rfl ?_; rintro _ _ ⟨rfl, rfl⟩; simp only [la1, la2, la3])
 (refine Jx.move rfl rfl (Jx.extract rfl rfl rfl ?_))
 (refine Jx.extract rfl rfl rfl ?_)
 (refine Jx.assign rfl rfl (Jx.assign rfl rfl (J.nil (N.seq (W.seq (W.seq (W.region (Jx.move rfl rfl (Jx.nilCheck rfl rfl ?_)))))))))
 (refine Jx.fieldAddr rfl rfl ?_)
 (refine Jx.load rfl 0 rfl rfl rfl ?_)
 (refine Jx.neqI rfl rfl rfl (Jx.move rfl rfl ?_))
 (refine' J.guardOr rfl rfl rfl rfl rfl rfl rfl rfl (fun _ => ?_) ?_; rotate_left)
 (refine J.gY rfl rfl rfl ?_)
 (refine Jx.move rfl rfl (J.gY rfl rfl rfl ?_))
 (refine Jx.neqI rfl rfl rfl (J.nil ?_))
 (refine N.joinedN rfl rfl rfl)
 (refine Jx.move rfl rfl ?_)
 (refine' J.guardOr rfl rfl rfl rfl rfl rfl rfl rfl (fun _ => ?_) ?_; rotate_left)
 (refine J.gY rfl rfl rfl ?_)
 (refine Jx.move rfl rfl (J.gY rfl rfl rfl ?_))
 (refine Jx.move rfl rfl (J.gY rfl rfl rfl ?_))
 (refine Jx.neqS rfl rfl rfl (J.nil ?_))
 (refine N.joinedN rfl rfl rfl)
 (refine J.nil (N.seq ?_))
 (refine id ?_; rotate_left))
      refine W.cond rfl (fun hb2 => ?_) (fun hb2 => ?_)
      · focus (
 (refine W.seq (W.region (Jx.assign rfl rfl (Jx.assign rfl rfl (J.nil (N.seq (W.ret (N.seqRet ?_))))))))
 (refine id ?_; rotate_left))
        refine N.told (G := [(2, msl []), (3, int 3)]) ⟨⟨_, rfl, Sub.nil 2 _⟩, ref0 rfl, trivial⟩ ?_
        refine N.retD (rs := [.tmp 2, .tmp 3]) (L1 := []) rfl (.tmp rfl (.tmp rfl .nil)) (List.nil_sublist _) ⟨⟨none, hr.no (fun h => absurd h h1) ?_, rfl⟩, rfl⟩
        rintro ⟨p1, p2, p3⟩
        have p4 := (hr.yes p1 p2 p3).2
        have hc2 : c2 = 0 := Classical.byContradiction fun h => by rw [rf_no h] at p1; cases p1
        rw [← hX, encO, p3, if_pos rfl, p4, hc2] at hb2
        simp at hb2
      · focus (
 (refine W.skip (N.seq (W.seq (W.region (Jx.move rfl rfl (Jx.assign rfl rfl (Jx.assign rfl rfl (J.nil (N.seq (W.ret ?_))))))))))
 (refine id ?_; rotate_left))
        refine N.retD (rs := [.tmp 2, .tmp 3]) (L1 := []) rfl (.tmp rfl (.tmp rfl .nil)) (List.nil_sublist _) ⟨⟨some acc, ?_, rfl⟩, rfl⟩
        simp only [Bool.or_eq_false_iff, decide_eq_false_iff_not, Classical.not_not] at hb2
        have hf : fineSet acc = true := by
          cases hf : fineSet acc with
          | true => rfl
          | false => rw [hf] at hb2; simp at hb2
        refine ⟨hf, ?_⟩
        rw [← hb2.2, ← hX, encO, if_pos hf]
theorem mb_eq (a b : Mb) : (decide (a = b) = true ↔ [sv a.name, Value.int .i64 a.power] = [sv b.name, Value.int .i64 b.power]) := by
  cases a; cases b; simp
set_option maxHeartbeats 1000000 in
theorem sameM_ok (l m : List Mb) (hb : l.length ≤ 1048576) : FnC Tryz.prog 119 [msl l, msl m] [] (fun v L => v = bool (decide (l = m)) ∧ L = []) := by
  refine FnC.intro Tryz.func119 rfl Tryz.ntmps119 rfl fun Z w0 hG => ?_
  by_cases hl : l.length = m.length
  · focus (
 (refine W.seq (W.region (Jx.assign rfl rfl (J.nil (N.seq (W.seq (W.region (Jx.move rfl rfl (Jx.lenSl rfl rfl ?_)))))))))
 (refine Jx.move rfl rfl (Jx.lenSl rfl rfl ?_))
 (refine Jx.eqlI rfl rfl rfl (Jx.assign rfl rfl (J.nil (N.seq (W.seq (W.seq (W.region (Jx.assign rfl rfl (J.nil (N.seq (W.block ?_)))))))))))
 (refine id ?_; rotate_left))
    refine W.loop (α := Nat × Bool) (fun x => [(6, int (x.1 : Int)), (5, bool x.2), (0, msl l), (1, msl m)]) (fun _ => []) (fun x => x.1 ≤ l.length ∧ (x.2 = true → l.take x.1 = m.take x.1) ∧ (x.2 = false → l ≠ m)) (fun x => l.length - x.1) (0, true) ⟨by omega, by simp, by simp⟩ rfl ⟨ref0 rfl, ⟨_, rfl, Sub.of_eq (by simp [hl])⟩, ref0 rfl, ref0 rfl, trivial⟩ ?_
    rintro ⟨i, q⟩ ⟨hi, h1, h2⟩
    simp only at hi h1 h2
    cases q with
    | false =>
      focus (
 (refine W.seq (W.seq (W.region (Jx.move rfl rfl (Jx.move rfl rfl (J.gN rfl rfl rfl rfl ?_))))))
 (refine J.gN rfl rfl rfl rfl ?_)
 (refine J.gN rfl rfl rfl rfl ?_)
 (refine J.gN rfl rfl rfl rfl ?_)
 (refine Jx.pF rfl rfl rfl ?_)
 (refine J.nil (N.seq (W.cF rfl ?_)))
 (refine W.exit (N.seq (W.seq (W.region (Jx.move rfl rfl (Jx.assign rfl rfl (J.nil (N.seq (W.ret ?_)))))))))
 (refine id ?_; rotate_left))
      exact N.ret (rs := [.tmp 4]) rfl (.tmp rfl .nil) ⟨by rw [decide_eq_false (h2 rfl)]; rfl, rfl⟩
    | true =>
      by_cases h3 : i < l.length
      · have h4 : i < m.length := by omega
        have e1 : l.take (i + 1) = l.take i ++ [l.getD i mb0] := by rw [List.take_add_one, List.getElem?_eq_getElem h3, List.getD_eq_getElem?_getD, List.getElem?_eq_getElem h3]; rfl
        have e2 : m.take (i + 1) = m.take i ++ [m.getD i mb0] := by rw [List.take_add_one, List.getElem?_eq_getElem h4, List.getD_eq_getElem?_getD, List.getElem?_eq_getElem h4]; rfl
        focus (
 (refine W.seq (W.seq (W.region (Jx.move rfl rfl (Jx.move rfl rfl (J.gY rfl rfl rfl ?_))))))
 (refine Jx.move rfl rfl (J.gY rfl rfl rfl ?_))
 (refine Jx.move rfl rfl (J.gY rfl rfl rfl ?_))
 (refine Jx.lenSl rfl rfl ?_)
 (refine J.gY rfl rfl rfl ?_)
 (refine Jx.lssI rfl rfl rfl (Jx.pT rfl rfl rfl ?_))
 (refine J.nil (N.seq (W.cT rfl ?_)))
 (refine W.skip (N.seq (W.seq (W.block ?_))))
 (refine W.draw follows ?_)
 (refine JD.calm rfl (by decide +kernel) ?_)
 (refine Cx.move rfl rfl ?_)
 (refine Cx.move rfl rfl ?_)
 (refine Cx.indexEl rfl rfl (by assumption) rfl rfl ?_)
 (refine Cx.loadPPall rfl rfl rfl ?_)
 (refine Cx.move rfl rfl ?_)
 (refine Cx.move rfl rfl ?_)
 (refine Cx.indexEl rfl rfl (by assumption) rfl rfl ?_)
 (refine Cx.loadPPall rfl rfl rfl ?_)
 (refine Cx.eqlAg (decide (l.getD i mb0 = m.getD i mb0)) rfl rfl rfl rfl rfl rfl (mb_eq _ _) rfl ?_)
 (refine Cx.assign rfl rfl ?_)
 (refine SegC.nil ?_)
 (refine N.seq (W.region (Jx.move rfl rfl (Jx.add64 rfl rfl (by omega) rfl ?_))))
 (refine Jx.assign rfl rfl (J.nil ?_))
 (refine id ?_; rotate_left))
        refine N.round (i + 1, decide (l.getD i mb0 = m.getD i mb0)) ⟨h3, fun h => ?_, fun h e => ?_⟩ (by simp only; omega) rfl ⟨ref0 rfl, ref0 rfl, ref0 rfl, ref0 rfl, trivial⟩
        · simp only [decide_eq_true_eq] at h
          rw [e1, e2, h1 rfl, h]
        · simp only [decide_eq_false_iff_not] at h
          exact h (by rw [e])
      · have e := h1 rfl
        rw [List.take_of_length_le (by omega), List.take_of_length_le (by omega)] at e
        focus (
 (refine W.seq (W.seq (W.region (Jx.move rfl rfl (Jx.move rfl rfl (J.gY rfl rfl rfl ?_))))))
 (refine Jx.move rfl rfl (J.gY rfl rfl rfl ?_))
 (refine Jx.move rfl rfl (J.gY rfl rfl rfl ?_))
 (refine Jx.lenSl rfl rfl ?_)
 (refine J.gY rfl rfl rfl ?_)
 (refine Jx.lssI rfl rfl rfl (Jx.pT rfl rfl rfl ?_))
 (refine J.nil (N.seq (W.cF rfl ?_)))
 (refine W.exit (N.seq (W.seq (W.region (Jx.move rfl rfl (Jx.assign rfl rfl (J.nil (N.seq (W.ret ?_)))))))))
 (refine id ?_; rotate_left))
        exact N.ret (rs := [.tmp 4]) rfl (.tmp rfl .nil) ⟨by rw [decide_eq_true e]; rfl, rfl⟩
  · have hne : l ≠ m := fun e => hl (by rw [e])
    focus (
 (refine W.seq (W.region (Jx.assign rfl rfl (J.nil (N.seq (W.seq (W.region (Jx.move rfl rfl (Jx.lenSl rfl rfl ?_)))))))))
 (refine Jx.move rfl rfl (Jx.lenSl rfl rfl ?_))
 (refine Jx.eqlI rfl rfl rfl (Jx.assign rfl rfl (J.nil (N.seq (W.seq (W.seq (W.region (Jx.assign rfl rfl (J.nil (N.seq (W.block ?_)))))))))))
 (refine id ?_; rotate_left))
    refine W.loop (α := Unit) (fun x => [(5, bool false)]) (fun _ => []) (fun x => True) (fun x => 0) () trivial rfl ⟨⟨_, rfl, Sub.of_eq (by simp; omega)⟩, trivial⟩ ?_
    rintro _ _
    focus (
 (refine W.seq (W.seq (W.region (Jx.move rfl rfl (Jx.move rfl rfl (J.gN rfl rfl rfl rfl ?_))))))
 (refine J.gN rfl rfl rfl rfl ?_)
 (refine J.gN rfl rfl rfl rfl ?_)
 (refine J.gN rfl rfl rfl rfl ?_)
 (refine Jx.pF rfl rfl rfl ?_)
 (refine J.nil (N.seq (W.cF rfl ?_)))
 (refine W.exit (N.seq (W.seq (W.region (Jx.move rfl rfl (Jx.assign rfl rfl (J.nil (N.seq (W.ret ?_)))))))))
 (refine id ?_; rotate_left))
    exact N.ret (rs := [.tmp 4]) rfl (.tmp rfl .nil) ⟨by rw [decide_eq_false hne]; rfl, rfl⟩
end Go.Proofs.YtlfdhkahiaammaaGreatDoor
namespace Go.Proofs.YtlfdhkahiaammaaGreatDoor
open Go Go.Sse
set_option linter.unusedVariables false
set_option linter.unusedSimpArgs false
set_option maxRecDepth 10000
theorem numB_ap {a b : Nat} {r q : List UInt8} (ha : a < 9223372036854775808) (hb : b < 9223372036854775808) (h : numB a ++ r = numB b ++ q) : a = b ∧ r = q := by
  have := numP_back a ha r
  rw [h, numP_back b hb q] at this
  simp only [Prod.mk.injEq, Option.some.injEq] at this
  exact ⟨this.1.symm, this.2.symm⟩
theorem textB_ap {a b : List UInt8} {r q : List UInt8} (ha : a.length < 9223372036854775808) (hb : b.length < 9223372036854775808) (h : textB a ++ r = textB b ++ q) : a = b ∧ r = q := by
  have := textP_back (m := 9223372036854775808) a r (by omega) ha
  rw [h, textP_back b q (by omega) hb] at this
  simp only [Prod.mk.injEq, Option.some.injEq] at this
  exact ⟨this.1.symm, this.2.symm⟩
theorem mbs_inj : ∀ {a b : List Mb}, a.length = b.length → (∀ m ∈ a, m.name.length ≤ 6 ∧ 1 ≤ m.power ∧ m.power ≤ 1000) → (∀ m ∈ b, m.name.length ≤ 6 ∧ 1 ≤ m.power ∧ m.power ≤ 1000) → flT mbB a = flT mbB b → a = b
  | [], [], _, _, _, _ => rfl
  | [], _ :: _, h, _, _, _ => by simp at h
  | _ :: _, [], h, _, _, _ => by simp at h
  | x :: a, y :: b, h, ha, hb, he => by
    rw [flT_cons, flT_cons, mbB, mbB, List.append_assoc, List.append_assoc] at he
    obtain ⟨p1, p2, p3⟩ := ha x (List.mem_cons_self ..)
    obtain ⟨q1, q2, q3⟩ := hb y (List.mem_cons_self ..)
    obtain ⟨e1, he⟩ := textB_ap (by omega) (by omega) he
    obtain ⟨e2, he⟩ := numB_ap (by omega) (by omega) he
    have := mbs_inj (by simpa using h) (fun m hm => ha m (List.mem_cons_of_mem _ hm)) (fun m hm => hb m (List.mem_cons_of_mem _ hm)) he
    have hxy : x = y := by
      cases x; cases y
      simp only at e1 e2 p2 q2
      simp only [Mb.mk.injEq]
      exact ⟨e1, by omega⟩
    rw [this, hxy]
theorem encSet_inj {a b : List Mb} (ha : fineSet a = true) (hb : fineSet b = true) (h : encSet a = encSet b) : a = b := by
  obtain ⟨p1, p2, p3⟩ := fineSet_spec ha
  obtain ⟨q1, q2, q3⟩ := fineSet_spec hb
  obtain ⟨e1, e2⟩ := numB_ap (by omega) (by omega) h
  exact mbs_inj e1 p3 q3 e2
structure Tx where
  kind : Int
  from_ : List UInt8
  seq : Int
  to_ : List UInt8
  amount : Int
  key : List UInt8
  value : List UInt8
  members : List Mb
theorem Tx.ext' {x y : Tx} (h1 : x.kind = y.kind) (h2 : x.from_ = y.from_) (h3 : x.seq = y.seq) (h4 : x.to_ = y.to_) (h5 : x.amount = y.amount) (h6 : x.key = y.key) (h7 : x.value = y.value) (h8 : x.members = y.members) : x = y := by
  cases x; cases y; simp_all
instance : DecidableEq Tx := fun x y => decidable_of_iff ((((((((x.kind = y.kind ∧ x.from_ = y.from_) ∧ x.seq = y.seq) ∧ x.to_ = y.to_) ∧ x.amount = y.amount) ∧ x.key = y.key) ∧ x.value = y.value)) ∧ x.members = y.members) ⟨fun h => by cases x; cases y; simp_all, fun h => by subst h; simp⟩
abbrev txC (x : Tx) : List SV := [int x.kind, str x.from_, int x.seq, str x.to_, int x.amount, str x.key, str x.value, msl x.members]
def tx0 : Tx := ⟨0, [], 0, [], 0, [], [], []⟩
abbrev txsl (l : List Tx) : SV := .sl 8 l.length (elOf txC tx0 l)
def nameB (s : List UInt8) : Bool := decide (s ≠ []) && decide ((s.length : Int) ≤ 6)
def noneTA (x : Tx) : Bool := decide (x.to_ = []) && decide (x.amount = 0)
def noneKV (x : Tx) : Bool := decide (x.key = []) && decide (x.value = [])
def noneM (x : Tx) : Bool := decide ((x.members.length : Int) = 0)
def bareTx (x : Tx) : Bool := if x.kind = 1 then noneKV x && noneM x else if x.kind = 2 then noneTA x && noneM x else if x.kind = 3 then (noneTA x && noneM x) && decide (x.value = []) else if x.kind = 4 then noneTA x && noneKV x else false
def badTx (x : Tx) : Bool := ((!bareTx x || !nameB x.from_) || decide (x.seq < 0)) || decide (1099511627776 < x.seq)
def keyB (b : Bool) (x : Tx) : Bool := (b && decide (x.key ≠ [])) && decide ((x.key.length : Int) ≤ 6)
def valB' (x : Tx) : Bool := decide (x.value ≠ []) && decide ((x.value.length : Int) ≤ 32)
def moveB (x : Tx) : Bool := (nameB x.to_ && decide (1 ≤ x.amount)) && decide (x.amount ≤ 1099511627776)
def kindTx (x : Tx) : Bool := if x.kind = 1 then moveB x else if x.kind = 2 then keyB (valB' x) x else if x.kind = 3 then keyB true x else fineSet x.members
def fineTx (x : Tx) : Bool := !badTx x && kindTx x
def bodyTx (x : Tx) : List UInt8 := if x.kind = 1 then textB x.to_ ++ numB x.amount.toNat else if x.kind = 2 then textB x.key ++ textB x.value else if x.kind = 3 then textB x.key else textB (encSet x.members)
def encTx (x : Tx) : List UInt8 := [UInt8.ofNat x.kind.toNat] ++ textB x.from_ ++ numB x.seq.toNat ++ bodyTx x
structure FineT (x : Tx) : Prop where
  kind : 1 ≤ x.kind ∧ x.kind ≤ 4
  from1 : x.from_ ≠ []
  from6 : x.from_.length ≤ 6
  seq0 : 0 ≤ x.seq
  seqM : x.seq ≤ 1099511627776
  k1 : x.kind = 1 → (x.to_ ≠ [] ∧ x.to_.length ≤ 6 ∧ 1 ≤ x.amount ∧ x.amount ≤ 1099511627776) ∧ x.key = [] ∧ x.value = [] ∧ x.members = []
  k2 : x.kind = 2 → (x.value ≠ [] ∧ x.value.length ≤ 32 ∧ x.key ≠ [] ∧ x.key.length ≤ 6) ∧ x.to_ = [] ∧ x.amount = 0 ∧ x.members = []
  k3 : x.kind = 3 → (x.key ≠ [] ∧ x.key.length ≤ 6) ∧ x.value = [] ∧ x.to_ = [] ∧ x.amount = 0 ∧ x.members = []
  k4 : x.kind = 4 → fineSet x.members = true ∧ x.to_ = [] ∧ x.amount = 0 ∧ x.key = [] ∧ x.value = []
theorem len0 {α : Type} {l : List α} (h : (l.length : Int) = 0) : l = [] := List.eq_nil_of_length_eq_zero (by omega)
theorem fineTx_iff (x : Tx) : fineTx x = true ↔ FineT x := by
  constructor
  · intro h
    simp only [fineTx, badTx, Bool.and_eq_true, Bool.not_eq_true', Bool.or_eq_false_iff, Bool.not_eq_false', decide_eq_false_iff_not, nameB, decide_eq_true_eq] at h
    obtain ⟨⟨⟨⟨hb, hn1, hn2⟩, hs1⟩, hs2⟩, hk⟩ := h
    by_cases e1 : x.kind = 1
    · simp only [bareTx, if_pos e1, noneKV, noneM, Bool.and_eq_true, decide_eq_true_eq] at hb
      simp only [kindTx, if_pos e1, moveB, nameB, Bool.and_eq_true, decide_eq_true_eq] at hk
      exact ⟨by omega, hn1, by omega, by omega, by omega, fun _ => ⟨⟨hk.1.1.1, by omega, by omega, by omega⟩, hb.1.1, hb.1.2, len0 hb.2⟩, fun h => by omega, fun h => by omega, fun h => by omega⟩
    · by_cases e2 : x.kind = 2
      · simp only [bareTx, if_neg e1, if_pos e2, noneTA, noneM, Bool.and_eq_true, decide_eq_true_eq] at hb
        simp only [kindTx, if_neg e1, if_pos e2, keyB, valB', Bool.and_eq_true, decide_eq_true_eq] at hk
        exact ⟨by omega, hn1, by omega, by omega, by omega, fun h => by omega, fun _ => ⟨⟨hk.1.1.1, by omega, hk.1.2, by omega⟩, hb.1.1, hb.1.2, len0 hb.2⟩, fun h => by omega, fun h => by omega⟩
      · by_cases e3 : x.kind = 3
        · simp only [bareTx, if_neg e1, if_neg e2, if_pos e3, noneTA, noneM, Bool.and_eq_true, decide_eq_true_eq] at hb
          simp only [kindTx, if_neg e1, if_neg e2, if_pos e3, keyB, Bool.and_eq_true, decide_eq_true_eq] at hk
          exact ⟨by omega, hn1, by omega, by omega, by omega, fun h => by omega, fun h => by omega, fun _ => ⟨⟨hk.1.2, by omega⟩, hb.2, hb.1.1.1, hb.1.1.2, len0 hb.1.2⟩, fun h => by omega⟩
        · by_cases e4 : x.kind = 4
          · simp only [bareTx, if_neg e1, if_neg e2, if_neg e3, if_pos e4, noneTA, noneKV, Bool.and_eq_true, decide_eq_true_eq] at hb
            simp only [kindTx, if_neg e1, if_neg e2, if_neg e3] at hk
            exact ⟨by omega, hn1, by omega, by omega, by omega, fun h => by omega, fun h => by omega, fun h => by omega, fun _ => ⟨hk, hb.1.1, hb.1.2, hb.2.1, hb.2.2⟩⟩
          · simp only [bareTx, if_neg e1, if_neg e2, if_neg e3, if_neg e4] at hb
            cases hb
  · intro h
    have hk := h.kind
    have f1 := h.from1; have f2 := h.from6; have f3 := h.seq0; have f4 := h.seqM
    simp only [fineTx, badTx, Bool.and_eq_true, Bool.not_eq_true', Bool.or_eq_false_iff, Bool.not_eq_false', decide_eq_false_iff_not, nameB, decide_eq_true_eq]
    have hh : bareTx x = true ∧ kindTx x = true := by
      by_cases e1 : x.kind = 1
      · obtain ⟨⟨a1, a2, a3, a4⟩, b1, b2, b3⟩ := h.k1 e1
        simp only [bareTx, kindTx, if_pos e1, noneKV, noneM, moveB, nameB, Bool.and_eq_true, decide_eq_true_eq, b1, b2, b3]
        exact ⟨⟨by simp, by simp⟩, ⟨⟨a1, by omega⟩, a3⟩, a4⟩
      · by_cases e2 : x.kind = 2
        · obtain ⟨⟨a1, a2, a3, a4⟩, b1, b2, b3⟩ := h.k2 e2
          simp only [bareTx, kindTx, if_neg e1, if_pos e2, noneTA, noneM, keyB, valB', Bool.and_eq_true, decide_eq_true_eq, b1, b2, b3]
          exact ⟨⟨by simp, by simp⟩, ⟨⟨a1, by omega⟩, a3⟩, by omega⟩
        · by_cases e3 : x.kind = 3
          · obtain ⟨⟨a1, a2⟩, b1, b2, b3, b4⟩ := h.k3 e3
            simp only [bareTx, kindTx, if_neg e1, if_neg e2, if_pos e3, noneTA, noneM, keyB, Bool.and_eq_true, decide_eq_true_eq, b1, b2, b3, b4]
            exact ⟨⟨by simp, trivial⟩, ⟨trivial, a1⟩, by omega⟩
          · have e4 : x.kind = 4 := by omega
            obtain ⟨a1, b1, b2, b3, b4⟩ := h.k4 e4
            simp only [bareTx, kindTx, if_neg e1, if_neg e2, if_neg e3, if_pos e4, noneTA, noneKV, Bool.and_eq_true, decide_eq_true_eq, b1, b2, b3, b4, a1]
            simp
    exact ⟨⟨⟨⟨hh.1, f1, by omega⟩, by omega⟩, by omega⟩, hh.2⟩
theorem textB_len {s : List UInt8} {k : Nat} (h : s.length ≤ k) (hk : k ≤ 1099511627776) : (textB s).length ≤ k + 9 := by
  have := (numB_len (n := s.length) (by omega)).2
  rw [textB, List.length_append]; omega
theorem numB9 {n : Int} (h : n ≤ 1099511627776) : (numB n.toNat).length ≤ 9 := (numB_len (n := n.toNat) (by omega)).2
theorem bodyTx_len {x : Tx} (h : FineT x) : (bodyTx x).length ≤ 186 := by
  have hk := h.kind
  unfold bodyTx
  by_cases e1 : x.kind = 1
  · obtain ⟨⟨a1, a2, a3, a4⟩, _⟩ := h.k1 e1
    have := textB_len a2 (by omega); have := numB9 a4
    rw [if_pos e1, List.length_append]; omega
  · by_cases e2 : x.kind = 2
    · obtain ⟨⟨a1, a2, a3, a4⟩, _⟩ := h.k2 e2
      have := textB_len a2 (by omega); have := textB_len a4 (by omega)
      rw [if_neg e1, if_pos e2, List.length_append]; omega
    · by_cases e3 : x.kind = 3
      · obtain ⟨⟨a1, a2⟩, _⟩ := h.k3 e3
        have := textB_len a2 (by omega)
        rw [if_neg e1, if_neg e2, if_pos e3]; omega
      · obtain ⟨a1, _⟩ := h.k4 (by omega)
        have := textB_len (encSet_len a1) (by omega)
        rw [if_neg e1, if_neg e2, if_neg e3]; omega
theorem encTx_len {x : Tx} (h : FineT x) : (encTx x).length ≤ 211 := by
  have := bodyTx_len h; have := textB_len h.from6 (by omega); have := numB9 h.seqM
  simp only [encTx, List.length_append, List.length_cons, List.length_nil]; omega
def TailR (m1 m2 m3 m4 : Int) (x : Tx) (st st' : PSt) : Prop :=
  if x.kind = 1 then (∃ (st1 : PSt) (n : Nat), textP m1 st = (x.to_, st1) ∧ numP st1 = (n, st') ∧ x.amount = (n : Int)) ∧ x.key = [] ∧ x.value = [] ∧ x.members = []
  else if x.kind = 2 then (∃ st1 : PSt, textP m2 st = (x.key, st1) ∧ textP m3 st1 = (x.value, st')) ∧ x.to_ = [] ∧ x.amount = 0 ∧ x.members = []
  else if x.kind = 3 then textP m2 st = (x.key, st') ∧ x.to_ = [] ∧ x.amount = 0 ∧ x.value = [] ∧ x.members = []
  else if x.kind = 4 then (∃ t o, textP m4 st = (t, st') ∧ DecR fineSet encSet t o ∧ x.members = o.getD []) ∧ x.to_ = [] ∧ x.amount = 0 ∧ x.key = [] ∧ x.value = []
  else True
structure ReadT (m0 m1 m2 m3 m4 : Int) (s : List UInt8) (x : Tx) (st : PSt) : Prop where
  go : ∃ (k : List UInt8) (st1 st2 st3 : PSt) (q : Nat), bytesP 1 (some s) = (k, st1) ∧ x.kind = (((k.getD 0 0).toNat : Nat) : Int) ∧ textP m0 st1 = (x.from_, st2) ∧ numP st2 = (q, st3) ∧ x.seq = (q : Int) ∧ TailR m1 m2 m3 m4 x st3 st
theorem ReadT.sound {m0 m1 m2 m3 m4 : Int} {s : List UInt8} {x : Tx} (h : ReadT m0 m1 m2 m3 m4 s x (some [])) (hf : fineTx x = true) : encTx x = s := by
  obtain ⟨k, st1, st2, st3, q, e1, ek, e2, e3, eq, e4⟩ := h.go
  have hF := (fineTx_iff x).1 hf
  have hk := hF.kind
  have h3 : st3 = some (bodyTx x) := by
    unfold TailR at e4
    unfold bodyTx
    by_cases c1 : x.kind = 1
    · rw [if_pos c1] at e4 ⊢
      obtain ⟨⟨s1, n, a1, a2, a3⟩, _⟩ := e4
      obtain ⟨rfl, _⟩ := numP_good a2
      rw [(textP_good a1).1, a3, List.append_nil, Int.toNat_natCast]
    · by_cases c2 : x.kind = 2
      · rw [if_neg c1, if_pos c2] at e4 ⊢
        obtain ⟨⟨s1, a1, a2⟩, _⟩ := e4
        obtain ⟨rfl, _⟩ := textP_good a2
        rw [(textP_good a1).1, List.append_nil]
      · by_cases c3 : x.kind = 3
        · rw [if_neg c1, if_neg c2, if_pos c3] at e4 ⊢
          rw [(textP_good e4.1).1, List.append_nil]
        · have c4 : x.kind = 4 := by omega
          rw [if_neg c1, if_neg c2, if_neg c3, if_pos c4] at e4
          rw [if_neg c1, if_neg c2, if_neg c3]
          obtain ⟨⟨t, o, a1, a2, a3⟩, _⟩ := e4
          have hm := (hF.k4 c4).1
          cases o with
          | none => rw [a3] at hm; cases hm
          | some l =>
            simp only [Option.getD_some] at a3
            rw [(textP_good a1).1, a3, a2.2, List.append_nil]
  subst h3
  obtain ⟨rfl, _⟩ := numP_good e3
  obtain ⟨rfl, _⟩ := textP_good e2
  obtain ⟨g1, g2⟩ := bytesP_good e1
  obtain ⟨b, rfl⟩ : ∃ b, k = [b] := by
    match k, g2 with
    | [b], _ => exact ⟨b, rfl⟩
  simp only [Option.some.injEq] at g1
  rw [g1, encTx, ek, eq]
  simp only [Int.toNat_natCast, List.getD_cons_zero, List.append_assoc]
  congr 2
  apply UInt8.toNat_inj.1
  simp
theorem ReadT.whole {m0 m1 m2 m3 m4 : Int} {s : List UInt8} {x y : Tx} {st : PSt} (h : ReadT m0 m1 m2 m3 m4 s x st) (h0 : 6 ≤ m0) (h1 : 6 ≤ m1) (h2 : 6 ≤ m2) (h3 : 32 ≤ m3) (h4 : 177 ≤ m4)
    (hf : fineTx y = true) (hs : encTx y = s) : x = y ∧ st = some [] := by
  obtain ⟨k, st1, st2, st3, q, e1, ek, e2, e3, eq, e4⟩ := h.go
  have hF := (fineTx_iff y).1 hf
  have hk := hF.kind
  have f6 := hF.from6
  have fs0 := hF.seq0
  have fsM := hF.seqM
  rw [← hs, encTx, List.append_assoc, List.append_assoc, bytesP_back' (n := 1) [UInt8.ofNat y.kind.toNat] _ rfl] at e1
  simp only [Prod.mk.injEq] at e1
  obtain ⟨rfl, rfl⟩ := e1
  rw [textP_back _ _ (by omega) (by omega)] at e2
  simp only [Prod.mk.injEq] at e2
  obtain ⟨p2, rfl⟩ := e2
  rw [numP_back _ (by omega)] at e3
  simp only [Prod.mk.injEq] at e3
  obtain ⟨rfl, rfl⟩ := e3
  have pk : x.kind = y.kind := by
    rw [ek]
    simp only [List.getD_cons_zero, UInt8.toNat_ofNat']
    omega
  have ps : x.seq = y.seq := by rw [eq]; omega
  unfold TailR at e4
  unfold bodyTx at e4
  by_cases c1 : y.kind = 1
  · rw [if_pos (by omega), if_pos c1] at e4
    obtain ⟨⟨a1, a2, a3, a4⟩, b1, b2, b3⟩ := hF.k1 c1
    obtain ⟨⟨s1, n, d1, d2, d3⟩, d4, d5, d6⟩ := e4
    rw [textP_back _ _ (by omega) (by omega)] at d1
    simp only [Prod.mk.injEq] at d1
    obtain ⟨d1, rfl⟩ := d1
    rw [← List.append_nil (numB y.amount.toNat), numP_back _ (by omega)] at d2
    simp only [Prod.mk.injEq] at d2
    obtain ⟨rfl, rfl⟩ := d2
    exact ⟨Tx.ext' pk p2.symm ps d1.symm (by omega) (by rw [d4, b1]) (by rw [d5, b2]) (by rw [d6, b3]), rfl⟩
  · by_cases c2 : y.kind = 2
    · rw [if_neg (by omega), if_pos (by omega), if_neg c1, if_pos c2] at e4
      obtain ⟨⟨a1, a2, a3, a4⟩, b1, b2, b3⟩ := hF.k2 c2
      obtain ⟨⟨s1, d1, d2⟩, d4, d5, d6⟩ := e4
      rw [textP_back _ _ (by omega) (by omega)] at d1
      simp only [Prod.mk.injEq] at d1
      obtain ⟨d1, rfl⟩ := d1
      rw [← List.append_nil (textB y.value), textP_back _ _ (by omega) (by omega)] at d2
      simp only [Prod.mk.injEq] at d2
      obtain ⟨d2, rfl⟩ := d2
      exact ⟨Tx.ext' pk p2.symm ps (by rw [d4, b1]) (by rw [d5, b2]) d1.symm d2.symm (by rw [d6, b3]), rfl⟩
    · by_cases c3 : y.kind = 3
      · rw [if_neg (by omega), if_neg (by omega), if_pos (by omega), if_neg c1, if_neg c2, if_pos c3] at e4
        obtain ⟨⟨a1, a2⟩, b1, b2, b3, b4⟩ := hF.k3 c3
        obtain ⟨d1, d2, d3, d4, d5⟩ := e4
        rw [← List.append_nil (textB y.key), textP_back _ _ (by omega) (by omega)] at d1
        simp only [Prod.mk.injEq] at d1
        obtain ⟨d1, rfl⟩ := d1
        exact ⟨Tx.ext' pk p2.symm ps (by rw [d2, b2]) (by rw [d3, b3]) d1.symm (by rw [d4, b1]) (by rw [d5, b4]), rfl⟩
      · have c4 : y.kind = 4 := by omega
        rw [if_neg (by omega), if_neg (by omega), if_neg (by omega), if_pos (by omega), if_neg c1, if_neg c2, if_neg c3] at e4
        obtain ⟨a1, b1, b2, b3, b4⟩ := hF.k4 c4
        have hl := encSet_len a1
        obtain ⟨⟨t, o, d1, d2, d3⟩, d4, d5, d6, d7⟩ := e4
        rw [← List.append_nil (textB (encSet y.members)), textP_back _ _ (by omega) (by omega)] at d1
        simp only [Prod.mk.injEq] at d1
        obtain ⟨d1, rfl⟩ := d1
        have hm : x.members = y.members := by
          cases o with
          | none => exact absurd d1 (d2 _ a1)
          | some l =>
            rw [d3]
            have e : encSet l = encSet y.members := by rw [d2.2, d1]
            have h7 := (fineSet_spec d2.1).2.1
            have h7' := (fineSet_spec a1).2.1
            exact encSet_inj d2.1 a1 e
        exact ⟨Tx.ext' pk p2.symm ps (by rw [d4, b1]) (by rw [d5, b2]) (by rw [d6, b3]) (by rw [d7, b4]) hm, rfl⟩
end Go.Proofs.YtlfdhkahiaammaaGreatDoor
namespace Go.Proofs.YtlfdhkahiaammaaGreatDoor.Sha
open Go Go.Sse
set_option maxRecDepth 10000
set_option linter.unusedVariables false
set_option linter.unusedSimpArgs false
abbrev Wd := BitVec 32
def rot (x : Wd) (n : Nat) : Wd := x >>> n ||| x <<< (32 - n)
def sig0 (x : Wd) : Wd := rot x 7 ^^^ rot x 18 ^^^ x >>> 3
def sig1 (x : Wd) : Wd := rot x 17 ^^^ rot x 19 ^^^ x >>> 10
def byteAt (b : List UInt8) (i : Nat) : Wd := BitVec.ofNat 32 (b.getD i 0).toNat
def word (b : List UInt8) (i : Nat) : Wd := byteAt b (4 * i) <<< 24 ||| byteAt b (4 * i + 1) <<< 16 ||| byteAt b (4 * i + 2) <<< 8 ||| byteAt b (4 * i + 3)
def nextW (l : List Wd) (n : Nat) : Wd := l.getD (n - 16) 0 + sig0 (l.getD (n - 15) 0) + l.getD (n - 7) 0 + sig1 (l.getD (n - 2) 0)
def sched (b : List UInt8) : Nat → List Wd
  | 0 => []
  | n + 1 => sched b n ++ [if n < 16 then word b n else nextW (sched b n) n]
def W (b : List UInt8) (n : Nat) : Wd := (sched b (n + 1)).getD n 0
theorem sched_len (b : List UInt8) : ∀ n, (sched b n).length = n
  | 0 => rfl
  | n + 1 => by simp [sched, sched_len b n]
theorem sched_get (b : List UInt8) : ∀ n i, i < n → (sched b n).getD i 0 = W b i
  | 0, i, h => by omega
  | n + 1, i, h => by
    by_cases hi : i = n
    · subst hi; rfl
    · have : i < n := by omega
      rw [← sched_get b n i this]
      simp only [sched, List.getD_eq_getElem?_getD]
      rw [List.getElem?_append_left (by rw [sched_len]; exact this)]
theorem W_low (b : List UInt8) (n : Nat) (h : n < 16) : W b n = word b n := by
  unfold W; simp only [sched, List.getD_eq_getElem?_getD, if_pos h]
  rw [List.getElem?_append_right (by rw [sched_len]; exact Nat.le_refl _), sched_len, Nat.sub_self]; rfl
theorem W_high (b : List UInt8) (n : Nat) (h : 16 ≤ n) : W b n = W b (n - 16) + sig0 (W b (n - 15)) + W b (n - 7) + sig1 (W b (n - 2)) := by
  have e : W b n = nextW (sched b n) n := by
    unfold W; simp only [sched, List.getD_eq_getElem?_getD, if_neg (show ¬ n < 16 by omega)]
    rw [List.getElem?_append_right (by rw [sched_len]; exact Nat.le_refl _), sched_len, Nat.sub_self]; rfl
  rw [e]; unfold nextW
  rw [sched_get b n _ (by omega), sched_get b n _ (by omega), sched_get b n _ (by omega), sched_get b n _ (by omega)]
structure S8 where
  a : Wd
  b : Wd
  c : Wd
  d : Wd
  e : Wd
  f : Wd
  g : Wd
  h : Wd
def S8.list (s : S8) : List Wd := [s.a, s.b, s.c, s.d, s.e, s.f, s.g, s.h]
abbrev S8.cells (s : S8) : List SV := [u32 s.a, u32 s.b, u32 s.c, u32 s.d, u32 s.e, u32 s.f, u32 s.g, u32 s.h]
def S8.one (s : S8) (k w : Wd) : Wd := s.h + (rot s.e 6 ^^^ rot s.e 11 ^^^ rot s.e 25) + (s.e &&& s.f ^^^ ~~~s.e &&& s.g) + k + w
def S8.two (s : S8) : Wd := (rot s.a 2 ^^^ rot s.a 13 ^^^ rot s.a 22) + (s.a &&& s.b ^^^ s.a &&& s.c ^^^ s.b &&& s.c)
def S8.round (s : S8) (k w : Wd) : S8 := ⟨s.one k w + s.two, s.a, s.b, s.c, s.d + s.one k w, s.e, s.f, s.g⟩
def kAt (i : Nat) : Wd := BitVec.ofNat 32 (shaK.getD i 0)
def rounds (s : S8) (b : List UInt8) : Nat → S8
  | 0 => s
  | n + 1 => (rounds s b n).round (kAt n) (W b n)
def S8.add (s t : S8) : S8 := ⟨s.a + t.a, s.b + t.b, s.c + t.c, s.d + t.d, s.e + t.e, s.f + t.f, s.g + t.g, s.h + t.h⟩
def blockS (s : S8) (b : List UInt8) : S8 := (rounds s b 64).add s
def first8 : S8 := ⟨0x6a09e667#32, 0xbb67ae85#32, 0x3c6ef372#32, 0xa54ff53a#32, 0x510e527f#32, 0x9b05688c#32, 0x1f83d9ab#32, 0x5be0cd19#32⟩
def wordB (w : Wd) : List UInt8 := [UInt8.ofNat (w >>> 24).toNat, UInt8.ofNat (w >>> 16).toNat, UInt8.ofNat (w >>> 8).toNat, UInt8.ofNat w.toNat]
def toldS (s : S8) : List UInt8 := s.list.flatMap wordB
theorem told_len (s : S8) : (toldS s).length = 32 := rfl
def blocksS (s : S8) (l : List UInt8) : S8 × List UInt8 :=
  if h : 64 ≤ l.length then blocksS (blockS s (l.take 64)) (l.drop 64) else (s, l)
termination_by l.length
decreasing_by simp only [List.length_drop]; omega
theorem blocksS_lt {s : S8} {l : List UInt8} (h : l.length < 64) : blocksS s l = (s, l) := by
  rw [blocksS, dif_neg (by omega)]
theorem blocksS_ge {s : S8} {l : List UInt8} (h : 64 ≤ l.length) : blocksS s l = blocksS (blockS s (l.take 64)) (l.drop 64) := by
  rw [blocksS, dif_pos h]
theorem blocksS_app : ∀ (n : Nat) (s : S8) (l t : List UInt8), l.length ≤ n → blocksS s (l ++ t) = blocksS (blocksS s l).1 ((blocksS s l).2 ++ t) := by
  intro n
  induction n with
  | zero => intro s l t h; have : l = [] := List.eq_nil_of_length_eq_zero (by omega); subst this; rw [blocksS_lt (s := s) (l := []) (by simp)]
  | succ n ih =>
    intro s l t h
    by_cases h64 : 64 ≤ l.length
    · rw [blocksS_ge (l := l) h64, blocksS_ge (l := l ++ t) (by simp; omega), List.take_append_of_le_length h64, List.drop_append_of_le_length h64]
      exact ih _ _ _ (by simp only [List.length_drop]; omega)
    · rw [blocksS_lt (l := l) (by omega)]
theorem blocksS_left : ∀ (n : Nat) (s : S8) (l : List UInt8), l.length ≤ n → (blocksS s l).2.length = l.length % 64 := by
  intro n
  induction n with
  | zero => intro s l h; rw [blocksS_lt (by omega)]; simp only; omega
  | succ n ih =>
    intro s l h
    by_cases h64 : 64 ≤ l.length
    · rw [blocksS_ge h64, ih _ _ (by simp only [List.length_drop]; omega), List.length_drop]; omega
    · rw [blocksS_lt (by omega)]; simp only; omega
def zerosOf (n : Nat) : Nat := (119 - n % 64) % 64
def lenB (n : Nat) : List UInt8 := (List.range 8).map fun i => UInt8.ofNat (n * 8 / 2 ^ (56 - 8 * i))
theorem lenB_len (n : Nat) : (lenB n).length = 8 := rfl
def padS (n : Nat) : List UInt8 := [128] ++ List.replicate (zerosOf n) 0 ++ lenB n
def shaS (l : List UInt8) : List UInt8 := toldS (blocksS first8 (l ++ padS l.length)).1
theorem shaS_len (l : List UInt8) : (shaS l).length = 32 := rfl
end Go.Proofs.YtlfdhkahiaammaaGreatDoor.Sha
namespace Go.Proofs.YtlfdhkahiaammaaGreatDoor.Sha
open Go Go.Sse
set_option maxRecDepth 10000
set_option linter.unusedVariables false
set_option linter.unusedSimpArgs false
theorem ref0 {F : List (Nat × SV)} {i : Nat} {s : SV} (h : Sse.look F i = some s) : ∃ t, Sse.look F i = some t ∧ Sub t s := ⟨s, h, .refl _⟩
theorem rot_ok (x : Wd) (n : Nat) (hn : n ≤ 32) : FnC Tryz.prog 154 [u32 x, u64 n] [] (fun s L => s = u32 (rot x n) ∧ L = []) := by
  refine FnC.intro Tryz.func154 rfl Tryz.ntmps154 rfl fun Z w0 hG => ?_
  focus (
 (refine W.seq (W.region (Jx.assign rfl rfl (J.nil (N.seq (W.seq (W.region (Jx.move rfl rfl (Jx.move rfl rfl ?_)))))))))
 (refine Jx.shrU rfl rfl hn rfl ?_)
 (refine Jx.move rfl rfl (Jx.move rfl rfl ?_))
 (refine Jx.subU64 (c := 32) rfl rfl hn (by decide) rfl ?_)
 (refine Jx.shlU rfl rfl (by omega) rfl ?_)
 (refine Jx.orU rfl rfl rfl ?_)
 (refine Jx.assign rfl rfl (J.nil (N.seq (W.ret ?_))))
 (refine id ?_; rotate_left))
  exact N.ret (rs := [.tmp 4]) rfl (.tmp rfl .nil) ⟨rfl, rfl⟩
theorem first_ok : FnC Tryz.prog 145 [] [] (fun s L => s = .agg first8.cells ∧ L = []) := by
  refine FnC.intro Tryz.func145 rfl Tryz.ntmps145 rfl fun Z w0 hG => ?_
  focus (
 (refine W.seq (W.region ?_))
 (refine J.alloc (by simp only [List.map_cons, List.map_nil]; rfl) rfl rfl ?_; intro b')
 (refine J.nil (N.seq (W.seq (W.region (Jx.buildA rfl rfl rfl rfl rfl ?_)))))
 (refine J.storeAll rfl rfl rfl 0 rfl rfl rfl ?_)
 (refine J.nil (N.seq (W.ret ?_)))
 (refine id ?_; rotate_left))
  exact N.retD (rs := [.cell 0 149]) (L1 := []) rfl (.cell rfl 0 rfl inferInstance .nil) (List.nil_sublist _) ⟨rfl, rfl⟩
end Go.Proofs.YtlfdhkahiaammaaGreatDoor.Sha
namespace Go.Proofs.YtlfdhkahiaammaaGreatDoor.Sha
open Go Go.Sse
set_option maxRecDepth 10000
set_option linter.unusedVariables false
set_option linter.unusedSimpArgs false
def tab (b : List UInt8) (i : Nat) : List Wd := sched b i ++ List.replicate (64 - i) 0
theorem tab_len (b : List UInt8) (i : Nat) (h : i ≤ 64) : (tab b i).length = 64 := by simp [tab, sched_len]; omega
theorem tab_get (b : List UInt8) (i j : Nat) (h : j < i) : (tab b i).getD j 0 = (sched b i).getD j 0 := by
  simp only [tab, List.getD_eq_getElem?_getD]; rw [List.getElem?_append_left (by rw [sched_len]; exact h)]
theorem tab_set (b : List UInt8) (i : Nat) (h : i < 64) (v : Wd) (hv : v = if i < 16 then word b i else nextW (sched b i) i) : (tab b i).set i v = tab b (i + 1) := by
  subst hv
  unfold tab
  rw [List.set_append_right _ _ (by rw [sched_len]; exact Nat.le_refl _), sched_len, Nat.sub_self, show 64 - i = (64 - (i + 1)) + 1 by omega, List.replicate_succ, List.set_cons_zero]
  simp [sched]
theorem tab_next (b : List UInt8) (i : Nat) (h : 16 ≤ i) : (tab b i).getD (i - 16) 0 + (rot ((tab b i).getD (i - 15) 0) 7 ^^^ rot ((tab b i).getD (i - 15) 0) 18 ^^^ (tab b i).getD (i - 15) 0 >>> 3) + (tab b i).getD (i - 7) 0 + (rot ((tab b i).getD (i - 2) 0) 17 ^^^ rot ((tab b i).getD (i - 2) 0) 19 ^^^ (tab b i).getD (i - 2) 0 >>> 10) = nextW (sched b i) i := by
  rw [tab_get _ _ _ (by omega), tab_get _ _ _ (by omega), tab_get _ _ _ (by omega), tab_get _ _ _ (by omega)]; rfl
abbrev tabO (p : Nat) (ws : List Wd) : Own := .obj p 166 (ws.map u32)
abbrev blkO (p : Nat) (bs : List UInt8) : Own := .obj p 151 (bs.map byte)
set_option maxHeartbeats 2000000 in
theorem spread_ok (bs : List UInt8) (hb : bs.length = 64) : FnC Tryz.prog 153 [.agg (bs.map byte)] [] (fun s L => s = .agg ((sched bs 64).map u32) ∧ L = []) := by
  refine FnC.intro Tryz.func153 rfl Tryz.ntmps153 rfl fun Z w0 hG => ?_
  focus (
 (refine W.seq (W.region ?_))
 (refine J.boxAg rfl rfl ?_; intro b')
 (refine J.alloc (by simp only [List.map_cons, List.map_nil]; rfl) rfl rfl ?_; intro b')
 (refine J.nil (N.seq (W.seq (W.region ?_))))
 (refine J.alloc (by simp only [List.map_cons, List.map_nil]; rfl) rfl rfl ?_; intro b')
 (refine J.nil (N.seq (W.seq (W.seq (W.region (Jx.move rfl rfl (J.nil (N.seq (W.block ?_)))))))))
 (refine id ?_; rotate_left))
  rename_i p1 p2
  refine W.loop (α := Nat × List Wd) (fun x => [(8, int x.1), (3, ptr b'), (2, ptr p2), (1, ptr p1)]) (fun x => [tabO b' x.2, tabO p2 (tab bs 0), blkO p1 bs]) (fun x => x.1 ≤ 16 ∧ x.2 = tab bs x.1) (fun x => 16 - x.1) (0, tab bs 0) ⟨by omega, rfl⟩ rfl ⟨ref0 rfl, ref0 rfl, ref0 rfl, ref0 rfl, trivial⟩ ?_
  have hz : (tab bs 0).length = 64 := tab_len bs 0 (by omega)
  generalize tab bs 0 = zs at *
  rintro ⟨i, ws⟩ ⟨hi, hw⟩
  simp only at hi hw ⊢
  have hl : ws.length = 64 := by rw [hw]; exact tab_len bs i (by omega)
  by_cases h : i < 16
  · focus (
 (refine W.seq (W.region (Jx.lssI rfl rfl rfl (J.nil (N.seq (W.seq (W.cT rfl ?_)))))))
 (refine W.skip (N.seq (W.seq (W.block (W.seq (W.region (Jx.move rfl rfl (Jx.assign rfl rfl (J.nil (N.seq ?_))))))))))
 (refine W.draw follows ?_)
 (refine JD.upto (n := 31) rfl (by decide +kernel) (by decide +kernel) rfl rfl ?_)
 (refine Cx.move rfl rfl ?_)
 (refine Cx.move rfl rfl ?_)
 (refine Cx.mul64 rfl rfl (by omega) rfl ?_)
 (refine Cx.index0 (4 * i) rfl rfl (by omega) (by omega) rfl ?_)
 (refine Cx.loadA byte 0 rfl 2 rfl (by omega) rfl ?_)
 (refine Cx.byteWord rfl rfl rfl ?_)
 (refine Cx.shlU rfl rfl (by decide) rfl ?_)
 (refine Cx.move rfl rfl ?_)
 (refine Cx.mul64 rfl rfl (by omega) rfl ?_)
 (refine Cx.add64 rfl rfl (by omega) rfl ?_)
 (refine Cx.index0 (4 * i + 1) rfl rfl (by omega) (by omega) rfl ?_)
 (refine Cx.loadA byte 0 rfl 2 rfl (by omega) rfl ?_)
 (refine Cx.byteWord rfl rfl rfl ?_)
 (refine Cx.shlU rfl rfl (by decide) rfl ?_)
 (refine Cx.orU rfl rfl rfl ?_)
 (refine Cx.move rfl rfl ?_)
 (refine Cx.mul64 rfl rfl (by omega) rfl ?_)
 (refine Cx.add64 rfl rfl (by omega) rfl ?_)
 (refine Cx.index0 (4 * i + 2) rfl rfl (by omega) (by omega) rfl ?_)
 (refine Cx.loadA byte 0 rfl 2 rfl (by omega) rfl ?_)
 (refine Cx.byteWord rfl rfl rfl ?_)
 (refine Cx.shlU rfl rfl (by decide) rfl ?_)
 (refine Cx.orU rfl rfl rfl ?_)
 (refine Cx.move rfl rfl ?_)
 (refine Cx.mul64 rfl rfl (by omega) rfl ?_)
 (refine Cx.add64 rfl rfl (by omega) rfl ?_)
 (refine Cx.index0 (4 * i + 3) rfl rfl (by omega) (by omega) rfl ?_)
 (refine Cx.loadA byte 0 rfl 2 rfl (by omega) rfl ?_)
 (refine Cx.byteWord rfl rfl rfl ?_)
 (refine Cx.orU rfl rfl rfl ?_)
 (refine Cx.index0 i rfl rfl (by omega) (by omega) rfl ?_)
 (refine SegC.nil ?_)
 (refine J.storeA u32 (word bs i) rfl rfl (One.val rfl) 0 rfl (by omega) rfl ?_)
 (refine J.nil (N.seq (W.region (Jx.add64 rfl rfl (by omega) rfl ?_))))
 (refine Jx.move rfl rfl (J.nil ?_))
 (refine id ?_; rotate_left))
    exact N.round (i + 1, ws.set i (word bs i)) ⟨by omega, by rw [hw]; exact tab_set bs i (by omega) (word bs i) (by rw [if_pos h])⟩ (by simp only; omega) rfl ⟨ref0 rfl, ref0 rfl, ref0 rfl, ref0 rfl, trivial⟩
  · have h16 : i = 16 := by omega
    focus (
 (refine W.seq (W.region (Jx.lssI rfl rfl rfl (J.nil (N.seq (W.seq (W.cF rfl ?_)))))))
 (refine W.exit (N.seq (W.seq (W.seq (W.region (Jx.assign rfl rfl (J.nil (N.seq (W.block ?_)))))))))
 (refine id ?_; rotate_left))
    refine W.loop (α := Nat × List Wd) (fun x => [(5, int x.1), (3, ptr b'), (2, ptr p2), (1, ptr p1)]) (fun x => [tabO b' x.2, tabO p2 zs, blkO p1 bs]) (fun x => 16 ≤ x.1 ∧ x.1 ≤ 64 ∧ x.2 = tab bs x.1) (fun x => 64 - x.1) (16, ws) ⟨by simp, by simp, by rw [hw, h16]⟩ rfl ⟨ref0 rfl, ref0 rfl, ref0 rfl, ref0 rfl, trivial⟩ ?_
    clear hi hw hl h h16
    rintro ⟨i, ws⟩ ⟨hi0, hi1, hw⟩
    simp only at hi0 hi1 hw ⊢
    have hl : ws.length = 64 := by rw [hw]; exact tab_len bs i (by omega)
    by_cases h : i < 64
    · focus (
 (refine W.seq (W.seq (W.region (Jx.move rfl rfl (Jx.lssI rfl rfl rfl (J.nil (N.seq (W.cT rfl ?_))))))))
 (refine W.skip (N.seq (W.seq (W.block (W.seq ?_)))))
 (refine W.draw follows ?_)
 (refine JD.calm rfl (by decide +kernel) ?_)
 (refine Cx.move rfl rfl ?_)
 (refine Cx.sub64 rfl rfl (by omega) rfl ?_)
 (refine Cx.index0 (i - 15) rfl rfl (by omega) (by omega) rfl ?_)
 (refine Cx.loadA u32 0 rfl 0 rfl (by omega) rfl ?_)
 (refine Cx.move rfl rfl ?_)
 (refine Cx.sub64 rfl rfl (by omega) rfl ?_)
 (refine Cx.index0 (i - 2) rfl rfl (by omega) (by omega) rfl ?_)
 (refine Cx.loadA u32 0 rfl 0 rfl (by omega) rfl ?_)
 (refine Cx.assign rfl rfl ?_)
 (refine Cx.assign rfl rfl ?_)
 (refine SegC.nil ?_)
 (refine N.seq ?_)
 (refine W.draw follows ?_)
 (refine JD.upto (n := 29) rfl (by decide +kernel) (by decide +kernel) rfl rfl ?_)
 (refine Cx.move rfl rfl ?_)
 (refine Cx.move rfl rfl ?_)
 (refine Cx.sub64 rfl rfl (by omega) rfl ?_)
 (refine Cx.index0 (i - 16) rfl rfl (by omega) (by omega) rfl ?_)
 (refine Cx.loadA u32 0 rfl 0 rfl (by omega) rfl ?_)
 (refine Cx.move rfl rfl ?_)
 (refine SegC.q (Qs.call (Lc := []) (rot_ok _ 7 (by decide)) (fun s L' h => h) (List.Perm.refl _) (evs_args rfl)) rfl ?_)
 (refine Cx.move rfl rfl ?_)
 (refine SegC.q (Qs.call (Lc := []) (rot_ok _ 18 (by decide)) (fun s L' h => h) (List.Perm.refl _) (evs_args rfl)) rfl ?_)
 (refine Cx.xorU rfl rfl rfl ?_)
 (refine Cx.move rfl rfl ?_)
 (refine Cx.shrU rfl rfl (by decide) rfl ?_)
 (refine Cx.xorU rfl rfl rfl ?_)
 (refine Cx.addU rfl rfl rfl ?_)
 (refine Cx.move rfl rfl ?_)
 (refine Cx.sub64 rfl rfl (by omega) rfl ?_)
 (refine Cx.index0 (i - 7) rfl rfl (by omega) (by omega) rfl ?_)
 (refine Cx.loadA u32 0 rfl 0 rfl (by omega) rfl ?_)
 (refine Cx.addU rfl rfl rfl ?_)
 (refine Cx.move rfl rfl ?_)
 (refine SegC.q (Qs.call (Lc := []) (rot_ok _ 17 (by decide)) (fun s L' h => h) (List.Perm.refl _) (evs_args rfl)) rfl ?_)
 (refine Cx.move rfl rfl ?_)
 (refine SegC.q (Qs.call (Lc := []) (rot_ok _ 19 (by decide)) (fun s L' h => h) (List.Perm.refl _) (evs_args rfl)) rfl ?_)
 (refine Cx.xorU rfl rfl rfl ?_)
 (refine Cx.move rfl rfl ?_)
 (refine Cx.shrU rfl rfl (by decide) rfl ?_)
 (refine Cx.xorU rfl rfl rfl ?_)
 (refine Cx.addU rfl rfl rfl ?_)
 (refine Cx.index0 i rfl rfl (by omega) (by omega) rfl ?_)
 (refine SegC.nil ?_)
 (refine J.storeA u32 (ws.getD (i - 16) 0 + sig0 (ws.getD (i - 15) 0) + ws.getD (i - 7) 0 + sig1 (ws.getD (i - 2) 0)) rfl rfl (One.val rfl) 0 rfl (by omega) rfl ?_)
 (refine J.nil (N.seq (W.region (Jx.move rfl rfl (Jx.add64 rfl rfl (by omega) rfl ?_)))))
 (refine Jx.assign rfl rfl (J.nil ?_))
 (refine id ?_; rotate_left))
      refine N.round (i + 1, ws.set i (ws.getD (i - 16) 0 + sig0 (ws.getD (i - 15) 0) + ws.getD (i - 7) 0 + sig1 (ws.getD (i - 2) 0))) ⟨by simp only; omega, by simp only; omega, ?_⟩ (by simp only; omega) rfl ⟨ref0 rfl, ref0 rfl, ref0 rfl, ref0 rfl, trivial⟩
      simp only
      rw [hw]
      exact tab_set bs i (by omega) _ (by rw [if_neg (by omega), ← tab_next bs i hi0]; rfl)
    · have h64 : i = 64 := by omega
      focus (
 (refine W.seq (W.seq (W.region (Jx.move rfl rfl (Jx.lssI rfl rfl rfl (J.nil (N.seq (W.cF rfl ?_))))))))
 (refine W.exit (N.seq (W.seq (W.region (Jx.loadArr (by rw [List.length_map]; exact hl) rfl 0 rfl rfl ?_)))))
 (refine J.storeArr (by rw [List.length_map]; exact hl) rfl rfl 1 rfl (by rw [List.length_map]; exact hz) rfl ?_)
 (refine J.nil (N.seq (W.ret ?_)))
 (refine id ?_; rotate_left))
      refine N.retD (rs := [.cell 2 166]) (L1 := []) rfl (.cell rfl 1 rfl (by rw [List.length_map, hl]; infer_instance) .nil) (List.nil_sublist _) ⟨?_, rfl⟩
      rw [hw, h64]; simp [oneOr, tab]
end Go.Proofs.YtlfdhkahiaammaaGreatDoor.Sha
namespace Go.Proofs.YtlfdhkahiaammaaGreatDoor.Sha
open Go Go.Sse
set_option maxRecDepth 10000
set_option linter.unusedVariables false
set_option linter.unusedSimpArgs false
theorem shaK_lt : shaK.all (fun n => decide (n < 4294967296)) = true := by decide
theorem kAt_nat (i : Nat) : (kAt i).toNat = shaK.getD i 0 := by
  unfold kAt
  rw [BitVec.toNat_ofNat]
  refine Nat.mod_eq_of_lt ?_
  rw [List.getD_eq_getElem?_getD]
  cases h : shaK[i]? with
  | none => simp
  | some v => simpa using (List.all_eq_true.1 shaK_lt) v (List.mem_of_getElem? h)
theorem k_get (i : Nat) (h : i < 64) : (shaK.map fun (n : Nat) => Value.int .u32 (n : Int))[i]? = some (.int .u32 ((kAt i).toNat : Int)) := by
  have hl : i < shaK.length := h
  rw [List.getElem?_map, List.getElem?_eq_getElem hl, kAt_nat]
  simp [List.getD_eq_getElem?_getD, List.getElem?_eq_getElem hl]
theorem list8 {ws : List Wd} (t : S8) (hl : ws.length = 8) (h : ∀ j, j < 8 → ws.getD j 0 = t.list.getD j 0) : ws = t.list := by
  refine List.ext_getElem (by rw [hl]; rfl) fun j h1 h2 => ?_
  have := h j (by omega)
  simpa [List.getD_eq_getElem?_getD, List.getElem?_eq_getElem h1, List.getElem?_eq_getElem h2] using this
theorem add_step (s h vs : List Wd) (j : Nat) (h8 : j < 8) (hl : vs.length = 8) (hv : ∀ m, m < 8 → vs.getD m 0 = if m < j then s.getD m 0 + h.getD m 0 else s.getD m 0) (m : Nat) (hm : m < 8) :
    (vs.set j (vs.getD j 0 + h.getD j 0)).getD m 0 = if m < j + 1 then s.getD m 0 + h.getD m 0 else s.getD m 0 := by
  have e1 : (vs.set j (vs.getD j 0 + h.getD j 0)).getD m 0 = if m = j then vs.getD j 0 + h.getD j 0 else vs.getD m 0 := by
    simp only [List.getD_eq_getElem?_getD, List.getElem?_set]
    by_cases e : j = m
    · subst e; simp [hl, hm]
    · rw [if_neg e, if_neg (fun h => e h.symm)]
  rw [e1]
  by_cases e : m = j
  · subst e; rw [if_pos rfl, hv m hm, if_neg (Nat.lt_irrefl m), if_pos (Nat.lt_succ_self m)]
  · rw [if_neg e, hv m hm]
    by_cases hlt : m < j
    · rw [if_pos hlt, if_pos (by omega)]
    · rw [if_neg hlt, if_neg (by omega)]
set_option maxHeartbeats 4000000 in
theorem block_ok (h : S8) (bs : List UInt8) (hb : bs.length = 64) : FnC Tryz.prog 152 [.agg h.cells, .agg (bs.map byte)] [] (fun s L => s = .agg (blockS h bs).cells ∧ L = []) := by
  have c1 := spread_ok bs hb
  have hs := sched_len bs 64
  have hW : ∀ i, i < 64 → (sched bs 64).getD i 0 = W bs i := fun i hi => sched_get bs 64 i hi
  generalize sched bs 64 = ws at *
  refine FnC.intro Tryz.func152 rfl Tryz.ntmps152 rfl fun Z w0 hG => ?_
  focus (
 (refine W.seq (W.region ?_))
 (refine J.boxAg rfl rfl ?_; intro b')
 (refine J.boxAg rfl rfl ?_; intro b')
 (refine J.alloc (by simp only [List.map_cons, List.map_nil]; rfl) rfl rfl ?_; intro b')
 (refine J.nil (N.seq (W.seq (W.region (Jx.loadArr (by rw [List.length_map]; exact hb) rfl 1 rfl rfl ?_)))))
 (refine J.call (c1) rfl (evs_args rfl) rfl ?_; rintro _ _ ⟨rfl, rfl⟩; simp only [la1, la2, la3])
 (refine J.alloc (by simp only [List.map_cons, List.map_nil]; rfl) rfl rfl ?_; intro b')
 (refine J.storeArr (by rw [List.length_map]; exact hs) rfl rfl 0 rfl rfl rfl ?_)
 (refine J.nil (N.seq (W.seq (W.region (Jx.loadAll rfl 3 rfl rfl rfl ?_)))))
 (refine J.alloc (by simp only [List.map_cons, List.map_nil]; rfl) rfl rfl ?_; intro b')
 (refine J.storeAll rfl rfl rfl 0 rfl rfl rfl ?_)
 (refine J.nil (N.seq (W.seq (W.seq (W.region (Jx.move rfl rfl (J.nil (N.seq (W.block ?_)))))))))
 (refine id ?_; rotate_left))
  rename_i p2 p3 p4 p5
  refine W.loop (α := Nat × S8) (fun x => [(16, int x.1), (6, ptr b'), (5, ptr p5), (4, ptr p4), (2, ptr p2)]) (fun x => [.obj b' 149 x.2.cells, tabO p5 ws, .obj p4 149 (S8.cells ⟨0, 0, 0, 0, 0, 0, 0, 0⟩), blkO p3 bs, .obj p2 149 h.cells]) (fun x => x.1 ≤ 64 ∧ x.2 = rounds h bs x.1) (fun x => 64 - x.1) (0, h) ⟨by simp, rfl⟩ rfl ⟨ref0 rfl, ref0 rfl, ref0 rfl, ref0 rfl, ref0 rfl, trivial⟩ ?_
  rintro ⟨i, s⟩ ⟨hi, hst⟩
  simp only at hi hst ⊢
  by_cases h1 : i < 64
  · have hk := k_get i h1
    focus (
 (refine W.seq (W.region (Jx.lssI rfl rfl rfl (J.nil (N.seq (W.seq (W.cT rfl ?_)))))))
 (refine W.skip (N.seq (W.seq (W.block (W.seq (W.region (Jx.move rfl rfl (Jx.assign rfl rfl (J.nil (N.seq (W.seq ?_)))))))))))
 (refine W.draw follows ?_)
 (refine JD.calm rfl (by decide +kernel) ?_)
 (refine Cx.indexArr rfl rfl (by decide) (by decide) rfl ?_)
 (refine Cx.load rfl 0 rfl rfl rfl ?_)
 (refine Cx.indexArr rfl rfl (by decide) (by decide) rfl ?_)
 (refine Cx.load rfl 0 rfl rfl rfl ?_)
 (refine Cx.assign rfl rfl ?_)
 (refine Cx.assign rfl rfl ?_)
 (refine SegC.nil ?_)
 (refine N.seq (W.seq ?_))
 (refine W.draw follows ?_)
 (refine JD.calm rfl (by decide +kernel) ?_)
 (refine Cx.indexArr rfl rfl (by decide) (by decide) rfl ?_)
 (refine Cx.load rfl 0 rfl rfl rfl ?_)
 (refine Cx.move rfl rfl ?_)
 (refine SegC.q (Qs.call (Lc := []) (rot_ok _ 6 (by decide)) (fun s L' h => h) (List.Perm.refl _) (evs_args rfl)) rfl ?_)
 (refine Cx.move rfl rfl ?_)
 (refine SegC.q (Qs.call (Lc := []) (rot_ok _ 11 (by decide)) (fun s L' h => h) (List.Perm.refl _) (evs_args rfl)) rfl ?_)
 (refine Cx.xorU rfl rfl rfl ?_)
 (refine Cx.move rfl rfl ?_)
 (refine SegC.q (Qs.call (Lc := []) (rot_ok _ 25 (by decide)) (fun s L' h => h) (List.Perm.refl _) (evs_args rfl)) rfl ?_)
 (refine Cx.xorU rfl rfl rfl ?_)
 (refine Cx.addU rfl rfl rfl ?_)
 (refine Cx.move rfl rfl ?_)
 (refine Cx.indexArr rfl rfl (by decide) (by decide) rfl ?_)
 (refine Cx.load rfl 0 rfl rfl rfl ?_)
 (refine Cx.andU rfl rfl rfl ?_)
 (refine Cx.move rfl rfl ?_)
 (refine Cx.notU rfl rfl ?_)
 (refine Cx.indexArr rfl rfl (by decide) (by decide) rfl ?_)
 (refine Cx.load rfl 0 rfl rfl rfl ?_)
 (refine Cx.andU rfl rfl rfl ?_)
 (refine Cx.xorU rfl rfl rfl ?_)
 (refine Cx.addU rfl rfl rfl ?_)
 (refine Cx.move rfl rfl ?_)
 (refine Cx.index0 i rfl rfl rfl (by omega) rfl ?_)
 (refine Cx.loadG rfl 0 rfl hk rfl ?_)
 (refine Cx.addU rfl rfl rfl ?_)
 (refine Cx.move rfl rfl ?_)
 (refine Cx.index0 i rfl rfl rfl (by omega) rfl ?_)
 (refine Cx.loadA u32 0 rfl 1 rfl (by omega) rfl ?_)
 (refine Cx.addU rfl rfl rfl ?_)
 (refine Cx.assign rfl rfl ?_)
 (refine SegC.nil ?_)
 (refine N.seq (W.seq ?_))
 (refine W.draw follows ?_)
 (refine JD.calm rfl (by decide +kernel) ?_)
 (refine Cx.move rfl rfl ?_)
 (refine SegC.q (Qs.call (Lc := []) (rot_ok _ 2 (by decide)) (fun s L' h => h) (List.Perm.refl _) (evs_args rfl)) rfl ?_)
 (refine Cx.move rfl rfl ?_)
 (refine SegC.q (Qs.call (Lc := []) (rot_ok _ 13 (by decide)) (fun s L' h => h) (List.Perm.refl _) (evs_args rfl)) rfl ?_)
 (refine Cx.xorU rfl rfl rfl ?_)
 (refine Cx.move rfl rfl ?_)
 (refine SegC.q (Qs.call (Lc := []) (rot_ok _ 22 (by decide)) (fun s L' h => h) (List.Perm.refl _) (evs_args rfl)) rfl ?_)
 (refine Cx.xorU rfl rfl rfl ?_)
 (refine Cx.move rfl rfl ?_)
 (refine Cx.indexArr rfl rfl (by decide) (by decide) rfl ?_)
 (refine Cx.load rfl 0 rfl rfl rfl ?_)
 (refine Cx.andU rfl rfl rfl ?_)
 (refine Cx.move rfl rfl ?_)
 (refine Cx.indexArr rfl rfl (by decide) (by decide) rfl ?_)
 (refine Cx.load rfl 0 rfl rfl rfl ?_)
 (refine Cx.andU rfl rfl rfl ?_)
 (refine Cx.xorU rfl rfl rfl ?_)
 (refine Cx.indexArr rfl rfl (by decide) (by decide) rfl ?_)
 (refine Cx.load rfl 0 rfl rfl rfl ?_)
 (refine Cx.indexArr rfl rfl (by decide) (by decide) rfl ?_)
 (refine Cx.load rfl 0 rfl rfl rfl ?_)
 (refine Cx.andU rfl rfl rfl ?_)
 (refine Cx.xorU rfl rfl rfl ?_)
 (refine Cx.addU rfl rfl rfl ?_)
 (refine Cx.assign rfl rfl ?_)
 (refine SegC.nil ?_)
 (refine N.seq (W.region (Jx.move rfl rfl (Jx.move rfl rfl (Jx.addU rfl rfl rfl ?_)))))
 (refine Jx.move rfl rfl (Jx.indexArr rfl rfl (by decide) (by decide) rfl ?_))
 (refine Jx.load rfl 0 rfl rfl rfl ?_)
 (refine Jx.indexArr rfl rfl (by decide) (by decide) rfl ?_)
 (refine Jx.load rfl 0 rfl rfl rfl ?_)
 (refine Jx.indexArr rfl rfl (by decide) (by decide) rfl ?_)
 (refine Jx.load rfl 0 rfl rfl rfl ?_)
 (refine Jx.move rfl rfl (Jx.addU rfl rfl rfl ?_))
 (refine Jx.move rfl rfl (Jx.indexArr rfl rfl (by decide) (by decide) rfl ?_))
 (refine Jx.load rfl 0 rfl rfl rfl ?_)
 (refine Jx.indexArr rfl rfl (by decide) (by decide) rfl ?_)
 (refine Jx.load rfl 0 rfl rfl rfl ?_)
 (refine Jx.buildA rfl rfl rfl rfl rfl ?_)
 (refine J.storeAll rfl rfl rfl 0 rfl rfl rfl ?_)
 (refine J.nil (N.seq (W.region (Jx.add64 rfl rfl (by omega) rfl ?_))))
 (refine Jx.move rfl rfl (J.nil ?_))
 (refine id ?_; rotate_left))
    exact N.round (i + 1, s.round (kAt i) (ws.getD i 0)) ⟨by simp only; omega, by simp only; rw [hst, hW i h1]; rfl⟩ (by simp only; omega) rfl ⟨ref0 rfl, ref0 rfl, ref0 rfl, ref0 rfl, ref0 rfl, trivial⟩
  · have h64 : i = 64 := by omega
    rw [h64] at hst
    focus (
 (refine W.seq (W.region (Jx.lssI rfl rfl rfl (J.nil (N.seq (W.seq (W.cF rfl ?_)))))))
 (refine W.exit (N.seq (W.seq (W.seq (W.region (Jx.move rfl rfl (J.nil (N.seq (W.block ?_)))))))))
 (refine id ?_; rotate_left))
    refine W.loop (α := Nat × List Wd) (fun x => [(96, int x.1), (6, ptr b'), (4, ptr p4), (2, ptr p2)]) (fun x => [.obj b' 149 (x.2.map u32), tabO p5 ws, .obj p4 149 (S8.cells ⟨0, 0, 0, 0, 0, 0, 0, 0⟩), blkO p3 bs, .obj p2 149 (h.list.map u32)])
      (fun x => x.1 ≤ 8 ∧ x.2.length = 8 ∧ ∀ j, j < 8 → x.2.getD j 0 = if j < x.1 then s.list.getD j 0 + h.list.getD j 0 else s.list.getD j 0) (fun x => 8 - x.1) (0, s.list) ⟨by simp, rfl, fun j hj => by simp⟩ rfl ⟨ref0 rfl, ref0 rfl, ref0 rfl, ref0 rfl, trivial⟩ ?_
    rintro ⟨j, vs⟩ ⟨hj, hl, hv⟩
    simp only at hj hl hv ⊢
    by_cases h8 : j < 8
    · focus (
 (refine W.seq (W.region (Jx.lssI rfl rfl rfl (J.nil (N.seq (W.seq (W.cT rfl ?_)))))))
 (refine W.skip (N.seq (W.seq (W.block (W.seq (W.region (Jx.move rfl rfl (Jx.assign rfl rfl (J.nil (N.seq ?_))))))))))
 (refine W.draw follows ?_)
 (refine JD.upto (n := 8) rfl (by decide +kernel) (by decide +kernel) rfl rfl ?_)
 (refine Cx.move rfl rfl ?_)
 (refine Cx.index0 j rfl rfl rfl (by omega) rfl ?_)
 (refine Cx.loadA u32 0 rfl 0 rfl (by omega) rfl ?_)
 (refine Cx.move rfl rfl ?_)
 (refine Cx.index0 j rfl rfl rfl (by omega) rfl ?_)
 (refine Cx.loadA u32 0 rfl 4 rfl h8 rfl ?_)
 (refine Cx.addU rfl rfl rfl ?_)
 (refine Cx.index0 j rfl rfl rfl (by omega) rfl ?_)
 (refine SegC.nil ?_)
 (refine J.storeA u32 (vs.getD j 0 + h.list.getD j 0) rfl rfl (One.val rfl) 0 rfl (by omega) rfl ?_)
 (refine J.nil (N.seq (W.region (Jx.add64 rfl rfl (by omega) rfl ?_))))
 (refine Jx.move rfl rfl (J.nil ?_))
 (refine id ?_; rotate_left))
      refine N.round (j + 1, vs.set j (vs.getD j 0 + h.list.getD j 0)) ⟨by simp only; omega, by simp only [List.length_set]; exact hl, fun m hm => ?_⟩ (by simp only; omega) rfl ⟨ref0 rfl, ref0 rfl, ref0 rfl, ref0 rfl, trivial⟩
      exact add_step s.list h.list vs j h8 hl hv m hm
    · have e : vs = ((rounds h bs 64).add h).list := by
        rw [← hst]
        refine list8 (s.add h) hl fun m hm => ?_
        rw [hv m hm, if_pos (by omega)]
        match m, hm with
        | 0, _ => rfl
        | 1, _ => rfl
        | 2, _ => rfl
        | 3, _ => rfl
        | 4, _ => rfl
        | 5, _ => rfl
        | 6, _ => rfl
        | 7, _ => rfl
      focus (
 (refine W.seq (W.region (Jx.lssI rfl rfl rfl (J.nil (N.seq (W.seq (W.cF rfl ?_)))))))
 (refine W.exit (N.seq (W.seq (W.region (Jx.loadArr (by rw [List.length_map]; exact hl) rfl 0 rfl rfl ?_)))))
 (refine J.storeArr (by rw [List.length_map]; exact hl) rfl rfl 2 rfl rfl rfl ?_)
 (refine J.nil (N.seq (W.ret ?_)))
 (refine id ?_; rotate_left))
      refine N.retD (rs := [.cell 4 149]) (L1 := []) rfl (.cell rfl 2 rfl (by rw [List.length_map, hl]; infer_instance) .nil) (List.nil_sublist _) ⟨?_, rfl⟩
      rw [e]
      unfold blockS
      generalize rounds h bs 64 = r
      rfl
end Go.Proofs.YtlfdhkahiaammaaGreatDoor.Sha
namespace Go.Proofs.YtlfdhkahiaammaaGreatDoor.Sha
open Go Go.Sse
set_option linter.unusedVariables false
set_option linter.unusedSimpArgs false
set_option maxRecDepth 10000
theorem turned_ok (x : Wd) (n : Nat) (hn : n ≤ 32) : FnC Tryz.prog 150 [u32 x, int n] [] (fun s L => s = u32 (rot x n) ∧ L = []) := by
  refine FnC.intro Tryz.func150 rfl Tryz.ntmps150 rfl fun Z w0 hG => ?_
  focus (
 (refine W.seq (W.region (Jx.assign rfl rfl (J.nil (N.seq (W.seq (W.region (Jx.move rfl rfl (Jx.move rfl rfl ?_)))))))))
 (refine Jx.convU64 n rfl rfl rfl (by omega) rfl ?_)
 (refine Jx.shrU rfl rfl hn rfl ?_)
 (refine Jx.move rfl rfl (Jx.move rfl rfl (Jx.sub64 rfl rfl (by omega) rfl ?_)))
 (refine Jx.convU64 (32 - n) rfl rfl (by omega) (by omega) rfl ?_)
 (refine Jx.shlU rfl rfl (by omega) rfl ?_)
 (refine Jx.orU rfl rfl rfl ?_)
 (refine Jx.assign rfl rfl (J.nil (N.seq (W.ret ?_))))
 (refine id ?_; rotate_left))
  exact N.ret (rs := [.tmp 4]) rfl (.tmp rfl .nil) ⟨rfl, rfl⟩
theorem rfirst_ok : FnC Tryz.prog 140 [] [] (fun s L => s = .agg first8.cells ∧ L = []) := by
  refine FnC.intro Tryz.func140 rfl Tryz.ntmps140 rfl fun Z w0 hG => ?_
  focus (
 (refine W.seq (W.region ?_))
 (refine J.alloc (by simp only [List.map_cons, List.map_nil]; rfl) rfl rfl ?_; intro b')
 (refine J.nil (N.seq (W.seq (W.region (Jx.buildA rfl rfl rfl rfl rfl ?_)))))
 (refine J.storeAll rfl rfl rfl 0 rfl rfl rfl ?_)
 (refine J.nil (N.seq (W.ret ?_)))
 (refine id ?_; rotate_left))
  exact N.retD (rs := [.cell 0 149]) (L1 := []) rfl (.cell rfl 0 rfl inferInstance .nil) (List.nil_sublist _) ⟨rfl, rfl⟩
theorem kC_get (i : Nat) (h : i < 64) : (shaK.map fun (n : Nat) => SV.val (.int .u32 (n : Int)))[i]? = some (u32 (kAt i)) := by
  have hl : i < shaK.length := h
  rw [List.getElem?_map, List.getElem?_eq_getElem hl]
  simp only [u32, kAt_nat]
  simp [List.getD_eq_getElem?_getD, List.getElem?_eq_getElem hl]
set_option maxHeartbeats 4000000 in
theorem const_ok (i : Nat) (h : i < 64) : FnC Tryz.prog 151 [int i] [] (fun s L => s = u32 (kAt i) ∧ L = []) := by
  have hk := kC_get i h
  refine FnC.intro Tryz.func151 rfl Tryz.ntmps151 rfl fun Z w0 hG => ?_
  focus (
 (refine W.seq (W.region (Jx.assign rfl rfl (J.nil (N.seq (W.seq (W.region (Jx.buildA rfl rfl rfl rfl rfl ?_))))))))
 (refine J.alloc (by simp only [List.map_cons, List.map_nil]; rfl) rfl rfl ?_; intro b')
 (refine J.storeAll rfl rfl rfl 0 rfl rfl rfl ?_)
 (refine J.nil (N.seq (W.seq (W.region (Jx.move rfl rfl ?_)))))
 (refine Jx.index0 i rfl rfl rfl (by omega) rfl ?_)
 (refine Jx.load rfl 0 rfl hk rfl ?_)
 (refine Jx.assign rfl rfl (J.nil (N.seq (W.ret ?_))))
 (refine id ?_; rotate_left))
  exact N.retD (rs := [.tmp 2]) (L1 := []) rfl (.tmp rfl .nil) (List.nil_sublist _) ⟨rfl, rfl⟩
def part (b : List UInt8) (j : Nat) : Nat → Wd
  | 0 => 0
  | n + 1 => part b j n * 256#32 + byteAt b (4 * j + n)
theorem part_word (b : List UInt8) (j : Nat) : part b j 4 = word b j := by
  have hb : ∀ i, (byteAt b i).toNat < 256 := fun i => by
    unfold byteAt
    rw [BitVec.toNat_ofNat]
    exact Nat.lt_of_le_of_lt (Nat.mod_le _ _) (UInt8.toNat_lt _)
  simp only [part, word, Nat.add_zero]
  generalize hx : byteAt b (4 * j) = x; generalize hy : byteAt b (4 * j + 1) = y; generalize hz : byteAt b (4 * j + 2) = z; generalize hw : byteAt b (4 * j + 3) = w
  have h1 := hb (4 * j); have h2 := hb (4 * j + 1); have h3 := hb (4 * j + 2); have h4 := hb (4 * j + 3)
  rw [hx] at h1; rw [hy] at h2; rw [hz] at h3; rw [hw] at h4
  apply BitVec.eq_of_toNat_eq
  have e1 : (x <<< 24 ||| y <<< 16).toNat = x.toNat * 16777216 + y.toNat * 65536 := by
    rw [BitVec.toNat_or, BitVec.toNat_shiftLeft, BitVec.toNat_shiftLeft, Nat.mod_eq_of_lt (by rw [Nat.shiftLeft_eq]; omega), Nat.mod_eq_of_lt (by rw [Nat.shiftLeft_eq]; omega), ← Nat.shiftLeft_add_eq_or_of_lt (by rw [Nat.shiftLeft_eq]; omega)]
    rw [Nat.shiftLeft_eq, Nat.shiftLeft_eq]
  have e2 : (x <<< 24 ||| y <<< 16 ||| z <<< 8).toNat = x.toNat * 16777216 + y.toNat * 65536 + z.toNat * 256 := by
    rw [BitVec.toNat_or, e1, BitVec.toNat_shiftLeft, Nat.mod_eq_of_lt (by rw [Nat.shiftLeft_eq]; omega)]
    have : x.toNat * 16777216 + y.toNat * 65536 = (x.toNat * 256 + y.toNat) <<< 16 := by rw [Nat.shiftLeft_eq]; omega
    rw [this, ← Nat.shiftLeft_add_eq_or_of_lt (by rw [Nat.shiftLeft_eq]; omega), Nat.shiftLeft_eq z.toNat]
  have e3 : (x <<< 24 ||| y <<< 16 ||| z <<< 8 ||| w).toNat = x.toNat * 16777216 + y.toNat * 65536 + z.toNat * 256 + w.toNat := by
    rw [BitVec.toNat_or, e2]
    have : x.toNat * 16777216 + y.toNat * 65536 + z.toNat * 256 = (x.toNat * 65536 + y.toNat * 256 + z.toNat) <<< 8 := by rw [Nat.shiftLeft_eq]; omega
    rw [this, ← Nat.shiftLeft_add_eq_or_of_lt (by omega)]
  rw [e3]
  simp only [BitVec.toNat_add, BitVec.toNat_mul, BitVec.toNat_ofNat]
  omega
theorem part_step (b : List UInt8) (ws : List Wd) (i : Nat) (hi : i < 64) (hl : ws.length = 16) (h : ∀ j, j < 16 → ws.getD j 0 = part b j (min 4 (i - 4 * j))) (j : Nat) (hj : j < 16) :
    (ws.set (i / 4) (ws.getD (i / 4) 0 * 256#32 + byteAt b i)).getD j 0 = part b j (min 4 (i + 1 - 4 * j)) := by
  have e1 : (ws.set (i / 4) (ws.getD (i / 4) 0 * 256#32 + byteAt b i)).getD j 0 = if j = i / 4 then ws.getD (i / 4) 0 * 256#32 + byteAt b i else ws.getD j 0 := by
    simp only [List.getD_eq_getElem?_getD, List.getElem?_set]
    by_cases e : i / 4 = j
    · subst e; simp [hl, hj]
    · rw [if_neg e, if_neg (fun h => e h.symm)]
  rw [e1]
  by_cases e : j = i / 4
  · rw [if_pos e, ← e, h j hj]
    have h1 : min 4 (i - 4 * j) = i - 4 * j := by omega
    have h2 : min 4 (i + 1 - 4 * j) = (i - 4 * j) + 1 := by omega
    rw [h1, h2]
    simp only [part]
    congr 2; omega
  · rw [if_neg e, h j hj]
    congr 1
    omega
def Win (b : List UInt8) (ws : List Wd) (i : Nat) : Prop := ws.length = 16 ∧ ∀ t, t < max i 16 → max i 16 ≤ t + 16 → ws.getD (t % 16) 0 = W b t
theorem win_step (b : List UInt8) (ws : List Wd) (i : Nat) (h16 : 16 ≤ i) (h : Win b ws i) :
    Win b (ws.set (i % 16) (ws.getD (i % 16) 0 + sig0 (ws.getD ((i + 1) % 16) 0) + ws.getD ((i + 9) % 16) 0 + sig1 (ws.getD ((i + 14) % 16) 0))) (i + 1) ∧
    (ws.set (i % 16) (ws.getD (i % 16) 0 + sig0 (ws.getD ((i + 1) % 16) 0) + ws.getD ((i + 9) % 16) 0 + sig1 (ws.getD ((i + 14) % 16) 0))).getD (i % 16) 0 = W b i := by
  obtain ⟨hl, hw⟩ := h
  have g0 := hw (i - 16) (by omega) (by omega)
  have g1 := hw (i - 15) (by omega) (by omega)
  have g2 := hw (i - 7) (by omega) (by omega)
  have g3 := hw (i - 2) (by omega) (by omega)
  rw [show (i - 16) % 16 = i % 16 by omega] at g0
  rw [show (i - 15) % 16 = (i + 1) % 16 by omega] at g1
  rw [show (i - 7) % 16 = (i + 9) % 16 by omega] at g2
  rw [show (i - 2) % 16 = (i + 14) % 16 by omega] at g3
  rw [g0, g1, g2, g3, ← W_high b i h16]
  have hi : i % 16 < ws.length := by omega
  have hs : (ws.set (i % 16) (W b i)).getD (i % 16) 0 = W b i := by
    simp [List.getD_eq_getElem?_getD, List.getElem?_set, hi]
  refine ⟨⟨by simpa using hl, fun t ht ht2 => ?_⟩, hs⟩
  by_cases e : t = i
  · subst e; exact hs
  · rw [← hw t (by omega) (by omega)]
    have hne : ¬ i % 16 = t % 16 := by omega
    simp only [List.getD_eq_getElem?_getD, List.getElem?_set, if_neg hne]
theorem add_comm8 (s h : S8) : h.add s = s.add h := by simp only [S8.add, BitVec.add_comm]
end Go.Proofs.YtlfdhkahiaammaaGreatDoor.Sha
namespace Go.Proofs.YtlfdhkahiaammaaGreatDoor.Sha
open Go Go.Sse
set_option maxRecDepth 10000
set_option linter.unusedVariables false
set_option linter.unusedSimpArgs false
abbrev winO (p : Nat) (ws : List Wd) : Own := .obj p 162 (ws.map u32)
theorem zeros_get (bs : List UInt8) (j : Nat) : (List.replicate 16 (0 : Wd)).getD j 0 = part bs j (min 4 (0 - 4 * j)) := by
  rw [List.getD_eq_getElem?_getD, List.getElem?_replicate, show min 4 (0 - 4 * j) = 0 by omega]
  split <;> rfl
set_option maxHeartbeats 4000000 in
theorem rblock_ok (h : S8) (bs : List UInt8) (hb : bs.length = 64) : FnC Tryz.prog 141 [.agg h.cells, .agg (bs.map byte)] [] (fun s L => s = .agg (blockS h bs).cells ∧ L = []) := by
  refine FnC.intro Tryz.func141 rfl Tryz.ntmps141 rfl fun Z w0 hG => ?_
  focus (
 (refine W.seq (W.region ?_))
 (refine J.boxAg rfl rfl ?_; intro b')
 (refine J.boxAg rfl rfl ?_; intro b')
 (refine J.alloc (by simp only [List.map_cons, List.map_nil]; rfl) rfl rfl ?_; intro b')
 (refine J.nil (N.seq (W.seq (W.region ?_))))
 (refine J.alloc (by simp only [List.map_cons, List.map_nil]; rfl) rfl rfl ?_; intro b')
 (refine J.nil (N.seq (W.seq (W.seq (W.region (Jx.assign rfl rfl (J.nil (N.seq (W.block ?_)))))))))
 (refine id ?_; rotate_left))
  rename_i p2 p3 p4
  refine W.loop (α := Nat × List Wd) (fun x => [(6, int x.1), (5, ptr b'), (4, ptr p4), (3, ptr p3), (2, ptr p2)]) (fun x => [winO b' x.2, .obj p4 149 (S8.cells ⟨0, 0, 0, 0, 0, 0, 0, 0⟩), blkO p3 bs, .obj p2 149 h.cells])
    (fun x => x.1 ≤ 64 ∧ x.2.length = 16 ∧ ∀ j, j < 16 → x.2.getD j 0 = part bs j (min 4 (x.1 - 4 * j))) (fun x => 64 - x.1) (0, List.replicate 16 0) ⟨by simp, rfl, fun j hj => zeros_get bs j⟩ rfl ⟨ref0 rfl, ref0 rfl, ref0 rfl, ref0 rfl, ref0 rfl, trivial⟩ ?_
  rintro ⟨i, ws⟩ ⟨hi, hl, hp⟩
  simp only at hi hl hp ⊢
  by_cases h1 : i < 64
  · focus (
 (refine W.seq (W.seq (W.region (Jx.move rfl rfl (Jx.lssI rfl rfl rfl (J.nil (N.seq (W.cT rfl ?_))))))))
 (refine W.skip (N.seq (W.seq (W.block ?_))))
 (refine W.draw follows ?_)
 (refine JD.upto (n := 13) rfl (by decide +kernel) (by decide +kernel) rfl rfl ?_)
 (refine Cx.move rfl rfl ?_)
 (refine Cx.quo64 rfl rfl (by omega) (by decide) rfl ?_)
 (refine Cx.move rfl rfl ?_)
 (refine Cx.quo64 rfl rfl (by omega) (by decide) rfl ?_)
 (refine Cx.index0 (i / 4) rfl rfl (by omega) (by omega) rfl ?_)
 (refine Cx.loadA u32 0 rfl 0 rfl (by omega) rfl ?_)
 (refine Cx.mulU 256 rfl rfl rfl ?_)
 (refine Cx.move rfl rfl ?_)
 (refine Cx.index0 i rfl rfl rfl (by omega) rfl ?_)
 (refine Cx.loadA byte 0 rfl 2 rfl (by omega) rfl ?_)
 (refine Cx.byteWord rfl rfl rfl ?_)
 (refine Cx.addU rfl rfl rfl ?_)
 (refine Cx.index0 (i / 4) rfl rfl (by omega) (by omega) rfl ?_)
 (refine SegC.nil ?_)
 (refine J.storeA u32 (ws.getD (i / 4) 0 * 256#32 + byteAt bs i) rfl rfl (One.val rfl) 0 rfl (by omega) rfl ?_)
 (refine J.nil (N.seq (W.region (Jx.move rfl rfl (Jx.add64 rfl rfl (by omega) rfl ?_)))))
 (refine Jx.assign rfl rfl (J.nil ?_))
 (refine id ?_; rotate_left))
    exact N.round (i + 1, ws.set (i / 4) (ws.getD (i / 4) 0 * 256#32 + byteAt bs i)) ⟨by simp only; omega, by simp only [List.length_set]; exact hl, fun j hj => part_step bs ws i h1 hl hp j hj⟩ (by simp only; omega) rfl ⟨ref0 rfl, ref0 rfl, ref0 rfl, ref0 rfl, ref0 rfl, trivial⟩
  · have h64 : i = 64 := by omega
    have hwin : Win bs ws 0 := ⟨hl, fun t ht _ => by
      have ht' : t < 16 := by omega
      rw [Nat.mod_eq_of_lt ht', hp t ht', show min 4 (i - 4 * t) = 4 by omega, part_word, W_low bs t ht']⟩
    clear hi hp
    focus (
 (refine W.seq (W.seq (W.region (Jx.move rfl rfl (Jx.lssI rfl rfl rfl (J.nil (N.seq (W.cF rfl ?_))))))))
 (refine W.exit (N.seq (W.seq ?_)))
 (refine W.draw follows ?_)
 (refine JD.calm rfl (by decide +kernel) ?_)
 (refine Cx.indexArr rfl rfl (by decide) (by decide) rfl ?_)
 (refine Cx.load rfl 3 rfl rfl rfl ?_)
 (refine Cx.indexArr rfl rfl (by decide) (by decide) rfl ?_)
 (refine Cx.load rfl 3 rfl rfl rfl ?_)
 (refine Cx.indexArr rfl rfl (by decide) (by decide) rfl ?_)
 (refine Cx.load rfl 3 rfl rfl rfl ?_)
 (refine Cx.indexArr rfl rfl (by decide) (by decide) rfl ?_)
 (refine Cx.load rfl 3 rfl rfl rfl ?_)
 (refine Cx.assign rfl rfl ?_)
 (refine Cx.assign rfl rfl ?_)
 (refine Cx.assign rfl rfl ?_)
 (refine Cx.assign rfl rfl ?_)
 (refine SegC.nil ?_)
 (refine N.seq (W.seq ?_))
 (refine W.draw follows ?_)
 (refine JD.calm rfl (by decide +kernel) ?_)
 (refine Cx.indexArr rfl rfl (by decide) (by decide) rfl ?_)
 (refine Cx.load rfl 3 rfl rfl rfl ?_)
 (refine Cx.indexArr rfl rfl (by decide) (by decide) rfl ?_)
 (refine Cx.load rfl 3 rfl rfl rfl ?_)
 (refine Cx.indexArr rfl rfl (by decide) (by decide) rfl ?_)
 (refine Cx.load rfl 3 rfl rfl rfl ?_)
 (refine Cx.indexArr rfl rfl (by decide) (by decide) rfl ?_)
 (refine Cx.load rfl 3 rfl rfl rfl ?_)
 (refine Cx.assign rfl rfl ?_)
 (refine Cx.assign rfl rfl ?_)
 (refine Cx.assign rfl rfl ?_)
 (refine Cx.assign rfl rfl ?_)
 (refine SegC.nil ?_)
 (refine N.seq (W.seq (W.seq (W.region (Jx.assign rfl rfl (J.nil (N.seq (W.block ?_))))))))
 (refine id ?_; rotate_left))
    refine W.loop (α := Nat × S8 × List Wd) (fun x => [(15, int x.1), (14, u32 x.2.1.h), (13, u32 x.2.1.g), (12, u32 x.2.1.f), (11, u32 x.2.1.e), (10, u32 x.2.1.d), (9, u32 x.2.1.c), (8, u32 x.2.1.b), (7, u32 x.2.1.a), (5, ptr b'), (4, ptr p4), (2, ptr p2)])
      (fun x => [winO b' x.2.2, .obj p4 149 (S8.cells ⟨0, 0, 0, 0, 0, 0, 0, 0⟩), blkO p3 bs, .obj p2 149 h.cells]) (fun x => x.1 ≤ 64 ∧ x.2.1 = rounds h bs x.1 ∧ Win bs x.2.2 x.1) (fun x => 64 - x.1) (0, h, ws) ⟨by simp, rfl, hwin⟩ rfl
      ⟨ref0 rfl, ref0 rfl, ref0 rfl, ref0 rfl, ref0 rfl, ref0 rfl, ref0 rfl, ref0 rfl, ref0 rfl, ref0 rfl, ref0 rfl, ref0 rfl, trivial⟩ ?_
    clear hwin hl h64 h1
    rintro ⟨i, s, ws⟩ ⟨hi, hst, hwin⟩
    simp only at hi hst hwin ⊢
    have hl := hwin.1
    by_cases h1 : i < 64
    · by_cases h16 : 16 ≤ i
      · obtain ⟨hn, hg⟩ := win_step bs ws i h16 hwin
        have hl2 : (ws.set (i % 16) (ws.getD (i % 16) 0 + sig0 (ws.getD ((i + 1) % 16) 0) + ws.getD ((i + 9) % 16) 0 + sig1 (ws.getD ((i + 14) % 16) 0))).length = 16 := by rw [List.length_set]; exact hl
        generalize hnew : ws.getD (i % 16) 0 + sig0 (ws.getD ((i + 1) % 16) 0) + ws.getD ((i + 9) % 16) 0 + sig1 (ws.getD ((i + 14) % 16) 0) = new at *
        have hst1 : ws.getD (i % 16) 0 + (rot (ws.getD ((i + 1) % 16) 0) 7 ^^^ rot (ws.getD ((i + 1) % 16) 0) 18 ^^^ ws.getD ((i + 1) % 16) 0 >>> 3) + ws.getD ((i + 9) % 16) 0 + (rot (ws.getD ((i + 14) % 16) 0) 17 ^^^ rot (ws.getD ((i + 14) % 16) 0) 19 ^^^ ws.getD ((i + 14) % 16) 0 >>> 10) = new := hnew
        generalize hws2 : ws.set (i % 16) new = ws2 at *
        focus (
 (refine W.seq (W.seq (W.region (Jx.move rfl rfl (Jx.lssI rfl rfl rfl (J.nil (N.seq (W.cT rfl ?_))))))))
 (refine W.skip (N.seq (W.seq (W.block (W.seq (W.seq (W.region (Jx.move rfl rfl (Jx.geqI rfl rfl rfl (J.nil (N.seq (W.cT rfl ?_))))))))))))
 (refine W.seq (W.region (Jx.move rfl rfl (Jx.add64 rfl rfl (by omega) rfl ?_))))
 (refine Jx.rem64 rfl rfl (by omega) (by decide) rfl ?_)
 (refine Jx.index0 ((i + 1) % 16) rfl rfl (by omega) (by omega) rfl ?_)
 (refine Jx.loadA u32 0 rfl 0 rfl (by omega) rfl ?_)
 (refine Jx.assign rfl rfl (J.nil (N.seq (W.seq (W.region (Jx.move rfl rfl (Jx.add64 rfl rfl (by omega) rfl ?_)))))))
 (refine Jx.rem64 rfl rfl (by omega) (by decide) rfl ?_)
 (refine Jx.index0 ((i + 14) % 16) rfl rfl (by omega) (by omega) rfl ?_)
 (refine Jx.loadA u32 0 rfl 0 rfl (by omega) rfl ?_)
 (refine Jx.assign rfl rfl (J.nil (N.seq (W.seq (W.region (Jx.move rfl rfl ?_))))))
 (refine J.call (turned_ok _ 7 (by decide)) rfl (evs_args rfl) rfl ?_; rintro _ _ ⟨rfl, rfl⟩; simp only [la1, la2, la3])
 (refine Jx.move rfl rfl ?_)
 (refine J.call (turned_ok _ 18 (by decide)) rfl (evs_args rfl) rfl ?_; rintro _ _ ⟨rfl, rfl⟩; simp only [la1, la2, la3])
 (refine Jx.xorU rfl rfl rfl ?_)
 (refine Jx.move rfl rfl (Jx.shrU rfl rfl (by decide) rfl ?_))
 (refine Jx.xorU rfl rfl rfl ?_)
 (refine Jx.assign rfl rfl (J.nil (N.seq (W.seq (W.region (Jx.move rfl rfl ?_))))))
 (refine J.call (turned_ok _ 17 (by decide)) rfl (evs_args rfl) rfl ?_; rintro _ _ ⟨rfl, rfl⟩; simp only [la1, la2, la3])
 (refine Jx.move rfl rfl ?_)
 (refine J.call (turned_ok _ 19 (by decide)) rfl (evs_args rfl) rfl ?_; rintro _ _ ⟨rfl, rfl⟩; simp only [la1, la2, la3])
 (refine Jx.xorU rfl rfl rfl ?_)
 (refine Jx.move rfl rfl (Jx.shrU rfl rfl (by decide) rfl ?_))
 (refine Jx.xorU rfl rfl rfl ?_)
 (refine Jx.assign rfl rfl (J.nil (N.seq ?_)))
 (refine W.draw follows ?_)
 (refine JD.upto (n := 17) rfl (by decide +kernel) (by decide +kernel) rfl rfl ?_)
 (refine Cx.move rfl rfl ?_)
 (refine Cx.rem64 rfl rfl (by omega) (by decide) rfl ?_)
 (refine Cx.move rfl rfl ?_)
 (refine Cx.rem64 rfl rfl (by omega) (by decide) rfl ?_)
 (refine Cx.index0 (i % 16) rfl rfl (by omega) (by omega) rfl ?_)
 (refine Cx.loadA u32 0 rfl 0 rfl (by omega) rfl ?_)
 (refine Cx.move rfl rfl ?_)
 (refine Cx.addU rfl rfl rfl ?_)
 (refine Cx.move rfl rfl ?_)
 (refine Cx.add64 rfl rfl (by omega) rfl ?_)
 (refine Cx.rem64 rfl rfl (by omega) (by decide) rfl ?_)
 (refine Cx.index0 ((i + 9) % 16) rfl rfl (by omega) (by omega) rfl ?_)
 (refine Cx.loadA u32 0 rfl 0 rfl (by omega) rfl ?_)
 (refine Cx.addU rfl rfl rfl ?_)
 (refine Cx.move rfl rfl ?_)
 (refine Cx.addU rfl rfl rfl ?_)
 (refine Cx.index0 (i % 16) rfl rfl (by omega) (by omega) rfl ?_)
 (refine SegC.nil ?_)
 (refine J.storeA u32 new rfl (by rw [← hst1]; rfl) (One.val rfl) 0 rfl (by omega) (by rw [List.set_cons_zero, hws2]) ?_)
 (refine J.nil (N.seq (W.seq ?_)))
 (refine W.draw follows ?_)
 (refine JD.calm rfl (by decide +kernel) ?_)
 (refine Cx.move rfl rfl ?_)
 (refine Cx.move rfl rfl ?_)
 (refine SegC.q (Qs.call (Lc := []) (turned_ok _ 6 (by decide)) (fun s L' h => h) (List.Perm.refl _) (evs_args rfl)) rfl ?_)
 (refine Cx.move rfl rfl ?_)
 (refine SegC.q (Qs.call (Lc := []) (turned_ok _ 11 (by decide)) (fun s L' h => h) (List.Perm.refl _) (evs_args rfl)) rfl ?_)
 (refine Cx.xorU rfl rfl rfl ?_)
 (refine Cx.move rfl rfl ?_)
 (refine SegC.q (Qs.call (Lc := []) (turned_ok _ 25 (by decide)) (fun s L' h => h) (List.Perm.refl _) (evs_args rfl)) rfl ?_)
 (refine Cx.xorU rfl rfl rfl ?_)
 (refine Cx.addU rfl rfl rfl ?_)
 (refine Cx.move rfl rfl ?_)
 (refine Cx.move rfl rfl ?_)
 (refine Cx.andU rfl rfl rfl ?_)
 (refine Cx.move rfl rfl ?_)
 (refine Cx.notU rfl rfl ?_)
 (refine Cx.move rfl rfl ?_)
 (refine Cx.andU rfl rfl rfl ?_)
 (refine Cx.xorU rfl rfl rfl ?_)
 (refine Cx.addU rfl rfl rfl ?_)
 (refine Cx.move rfl rfl ?_)
 (refine SegC.q (Qs.call (Lc := []) (const_ok i (by omega)) (fun s L' h => h) (List.Perm.refl _) (evs_args rfl)) rfl ?_)
 (refine Cx.addU rfl rfl rfl ?_)
 (refine Cx.move rfl rfl ?_)
 (refine Cx.rem64 rfl rfl (by omega) (by decide) rfl ?_)
 (refine Cx.index0 (i % 16) rfl rfl (by omega) (by omega) rfl ?_)
 (refine Cx.loadA u32 0 rfl 0 rfl (by omega) rfl ?_)
 (refine Cx.addU rfl rfl rfl ?_)
 (refine Cx.assign rfl rfl ?_)
 (refine SegC.nil ?_)
 (refine N.seq (W.seq (W.region (Jx.move rfl rfl ?_))))
 (refine J.call (turned_ok _ 2 (by decide)) rfl (evs_args rfl) rfl ?_; rintro _ _ ⟨rfl, rfl⟩; simp only [la1, la2, la3])
 (refine Jx.move rfl rfl ?_)
 (refine J.call (turned_ok _ 13 (by decide)) rfl (evs_args rfl) rfl ?_; rintro _ _ ⟨rfl, rfl⟩; simp only [la1, la2, la3])
 (refine Jx.xorU rfl rfl rfl ?_)
 (refine Jx.move rfl rfl ?_)
 (refine J.call (turned_ok _ 22 (by decide)) rfl (evs_args rfl) rfl ?_; rintro _ _ ⟨rfl, rfl⟩; simp only [la1, la2, la3])
 (refine Jx.xorU rfl rfl rfl ?_)
 (refine Jx.move rfl rfl (Jx.move rfl rfl (Jx.andU rfl rfl rfl ?_)))
 (refine Jx.move rfl rfl (Jx.move rfl rfl (Jx.andU rfl rfl rfl ?_)))
 (refine Jx.xorU rfl rfl rfl ?_)
 (refine Jx.move rfl rfl (Jx.move rfl rfl (Jx.andU rfl rfl rfl ?_)))
 (refine Jx.xorU rfl rfl rfl ?_)
 (refine Jx.addU rfl rfl rfl ?_)
 (refine Jx.assign rfl rfl (J.nil (N.seq (W.seq (W.region (Jx.move rfl rfl (Jx.move rfl rfl (Jx.move rfl rfl (Jx.assign rfl rfl (Jx.assign rfl rfl (Jx.assign rfl rfl (J.nil (N.seq (W.seq ?_))))))))))))))
 (refine W.region (Jx.move rfl rfl (Jx.move rfl rfl (Jx.addU rfl rfl rfl ?_))))
 (refine Jx.assign rfl rfl (J.nil (N.seq (W.seq (W.region (Jx.move rfl rfl (Jx.move rfl rfl (Jx.move rfl rfl (Jx.assign rfl rfl (Jx.assign rfl rfl (Jx.assign rfl rfl (J.nil (N.seq (W.region ?_))))))))))))))
 (refine Jx.move rfl rfl (Jx.move rfl rfl (Jx.addU rfl rfl rfl ?_)))
 (refine Jx.assign rfl rfl (J.nil (N.seq (W.region (Jx.move rfl rfl (Jx.add64 rfl rfl (by omega) rfl ?_))))))
 (refine Jx.assign rfl rfl (J.nil ?_))
 (refine id ?_; rotate_left))
        exact N.round (i + 1, s.round (kAt i) (ws2.getD (i % 16) 0), ws2) ⟨by simp only; omega, by simp only; rw [hst, hg]; rfl, hn⟩ (by simp only; omega) rfl ⟨ref0 rfl, ref0 rfl, ref0 rfl, ref0 rfl, ref0 rfl, ref0 rfl, ref0 rfl, ref0 rfl, ref0 rfl, ref0 rfl, ref0 rfl, ref0 rfl, trivial⟩
      · have hg : ws.getD (i % 16) 0 = W bs i := hwin.2 i (by omega) (by omega)
        have hn : Win bs ws (i + 1) := ⟨hl, fun t ht ht2 => hwin.2 t (by omega) (by omega)⟩
        focus (
 (refine W.seq (W.seq (W.region (Jx.move rfl rfl (Jx.lssI rfl rfl rfl (J.nil (N.seq (W.cT rfl ?_))))))))
 (refine W.skip (N.seq (W.seq (W.block (W.seq (W.seq (W.region (Jx.move rfl rfl (Jx.geqI rfl rfl rfl (J.nil (N.seq (W.cF rfl ?_))))))))))))
 (refine W.skip (N.seq (W.seq ?_)))
 (refine W.draw follows ?_)
 (refine JD.calm rfl (by decide +kernel) ?_)
 (refine Cx.move rfl rfl ?_)
 (refine Cx.move rfl rfl ?_)
 (refine SegC.q (Qs.call (Lc := []) (turned_ok _ 6 (by decide)) (fun s L' h => h) (List.Perm.refl _) (evs_args rfl)) rfl ?_)
 (refine Cx.move rfl rfl ?_)
 (refine SegC.q (Qs.call (Lc := []) (turned_ok _ 11 (by decide)) (fun s L' h => h) (List.Perm.refl _) (evs_args rfl)) rfl ?_)
 (refine Cx.xorU rfl rfl rfl ?_)
 (refine Cx.move rfl rfl ?_)
 (refine SegC.q (Qs.call (Lc := []) (turned_ok _ 25 (by decide)) (fun s L' h => h) (List.Perm.refl _) (evs_args rfl)) rfl ?_)
 (refine Cx.xorU rfl rfl rfl ?_)
 (refine Cx.addU rfl rfl rfl ?_)
 (refine Cx.move rfl rfl ?_)
 (refine Cx.move rfl rfl ?_)
 (refine Cx.andU rfl rfl rfl ?_)
 (refine Cx.move rfl rfl ?_)
 (refine Cx.notU rfl rfl ?_)
 (refine Cx.move rfl rfl ?_)
 (refine Cx.andU rfl rfl rfl ?_)
 (refine Cx.xorU rfl rfl rfl ?_)
 (refine Cx.addU rfl rfl rfl ?_)
 (refine Cx.move rfl rfl ?_)
 (refine SegC.q (Qs.call (Lc := []) (const_ok i (by omega)) (fun s L' h => h) (List.Perm.refl _) (evs_args rfl)) rfl ?_)
 (refine Cx.addU rfl rfl rfl ?_)
 (refine Cx.move rfl rfl ?_)
 (refine Cx.rem64 rfl rfl (by omega) (by decide) rfl ?_)
 (refine Cx.index0 (i % 16) rfl rfl (by omega) (by omega) rfl ?_)
 (refine Cx.loadA u32 0 rfl 0 rfl (by omega) rfl ?_)
 (refine Cx.addU rfl rfl rfl ?_)
 (refine Cx.assign rfl rfl ?_)
 (refine SegC.nil ?_)
 (refine N.seq (W.seq (W.region (Jx.move rfl rfl ?_))))
 (refine J.call (turned_ok _ 2 (by decide)) rfl (evs_args rfl) rfl ?_; rintro _ _ ⟨rfl, rfl⟩; simp only [la1, la2, la3])
 (refine Jx.move rfl rfl ?_)
 (refine J.call (turned_ok _ 13 (by decide)) rfl (evs_args rfl) rfl ?_; rintro _ _ ⟨rfl, rfl⟩; simp only [la1, la2, la3])
 (refine Jx.xorU rfl rfl rfl ?_)
 (refine Jx.move rfl rfl ?_)
 (refine J.call (turned_ok _ 22 (by decide)) rfl (evs_args rfl) rfl ?_; rintro _ _ ⟨rfl, rfl⟩; simp only [la1, la2, la3])
 (refine Jx.xorU rfl rfl rfl ?_)
 (refine Jx.move rfl rfl (Jx.move rfl rfl (Jx.andU rfl rfl rfl ?_)))
 (refine Jx.move rfl rfl (Jx.move rfl rfl (Jx.andU rfl rfl rfl ?_)))
 (refine Jx.xorU rfl rfl rfl ?_)
 (refine Jx.move rfl rfl (Jx.move rfl rfl (Jx.andU rfl rfl rfl ?_)))
 (refine Jx.xorU rfl rfl rfl ?_)
 (refine Jx.addU rfl rfl rfl ?_)
 (refine Jx.assign rfl rfl (J.nil (N.seq (W.seq (W.region (Jx.move rfl rfl (Jx.move rfl rfl (Jx.move rfl rfl (Jx.assign rfl rfl (Jx.assign rfl rfl (Jx.assign rfl rfl (J.nil (N.seq (W.seq ?_))))))))))))))
 (refine W.region (Jx.move rfl rfl (Jx.move rfl rfl (Jx.addU rfl rfl rfl ?_))))
 (refine Jx.assign rfl rfl (J.nil (N.seq (W.seq (W.region (Jx.move rfl rfl (Jx.move rfl rfl (Jx.move rfl rfl (Jx.assign rfl rfl (Jx.assign rfl rfl (Jx.assign rfl rfl (J.nil (N.seq (W.region ?_))))))))))))))
 (refine Jx.move rfl rfl (Jx.move rfl rfl (Jx.addU rfl rfl rfl ?_)))
 (refine Jx.assign rfl rfl (J.nil (N.seq (W.region (Jx.move rfl rfl (Jx.add64 rfl rfl (by omega) rfl ?_))))))
 (refine Jx.assign rfl rfl (J.nil ?_))
 (refine id ?_; rotate_left))
        exact N.round (i + 1, s.round (kAt i) (ws.getD (i % 16) 0), ws) ⟨by simp only; omega, by simp only; rw [hst, hg]; rfl, hn⟩ (by simp only; omega) rfl ⟨ref0 rfl, ref0 rfl, ref0 rfl, ref0 rfl, ref0 rfl, ref0 rfl, ref0 rfl, ref0 rfl, ref0 rfl, ref0 rfl, ref0 rfl, ref0 rfl, trivial⟩
    · have h64 : i = 64 := by omega
      rw [h64] at hst
      focus (
 (refine W.seq (W.seq (W.region (Jx.move rfl rfl (Jx.lssI rfl rfl rfl (J.nil (N.seq (W.cF rfl ?_))))))))
 (refine W.exit (N.seq (W.seq (W.region (Jx.indexArr rfl rfl (by decide) (by decide) rfl ?_)))))
 (refine Jx.load rfl 3 rfl rfl rfl ?_)
 (refine Jx.move rfl rfl (Jx.addU rfl rfl rfl ?_))
 (refine Jx.indexArr rfl rfl (by decide) (by decide) rfl ?_)
 (refine Jx.load rfl 3 rfl rfl rfl ?_)
 (refine Jx.move rfl rfl (Jx.addU rfl rfl rfl ?_))
 (refine Jx.indexArr rfl rfl (by decide) (by decide) rfl ?_)
 (refine Jx.load rfl 3 rfl rfl rfl ?_)
 (refine Jx.move rfl rfl (Jx.addU rfl rfl rfl ?_))
 (refine Jx.indexArr rfl rfl (by decide) (by decide) rfl ?_)
 (refine Jx.load rfl 3 rfl rfl rfl ?_)
 (refine Jx.move rfl rfl (Jx.addU rfl rfl rfl ?_))
 (refine Jx.indexArr rfl rfl (by decide) (by decide) rfl ?_)
 (refine Jx.load rfl 3 rfl rfl rfl ?_)
 (refine Jx.move rfl rfl (Jx.addU rfl rfl rfl ?_))
 (refine Jx.indexArr rfl rfl (by decide) (by decide) rfl ?_)
 (refine Jx.load rfl 3 rfl rfl rfl ?_)
 (refine Jx.move rfl rfl (Jx.addU rfl rfl rfl ?_))
 (refine Jx.indexArr rfl rfl (by decide) (by decide) rfl ?_)
 (refine Jx.load rfl 3 rfl rfl rfl ?_)
 (refine Jx.move rfl rfl (Jx.addU rfl rfl rfl ?_))
 (refine Jx.indexArr rfl rfl (by decide) (by decide) rfl ?_)
 (refine Jx.load rfl 3 rfl rfl rfl ?_)
 (refine Jx.move rfl rfl (Jx.addU rfl rfl rfl ?_))
 (refine Jx.buildA rfl rfl rfl rfl rfl ?_)
 (refine J.storeAll rfl rfl rfl 1 rfl rfl rfl ?_)
 (refine J.nil (N.seq (W.ret ?_)))
 (refine id ?_; rotate_left))
      refine N.retD (rs := [.cell 4 149]) (L1 := []) rfl (.cell rfl 1 rfl inferInstance .nil) (List.nil_sublist _) ⟨?_, rfl⟩
      have : blockS h bs = h.add s := by rw [add_comm8 s h, hst]; rfl
      rw [this]
      rfl
end Go.Proofs.YtlfdhkahiaammaaGreatDoor.Sha
