/-
  Lemmas for the claim, part 3.
-/
import Derived.Test.YtbdkenlkimiddaaDoorJournalTurnedPb
namespace Go.Proofs.YtbdkenlkimiddaaDoor
open Go Go.Sse
set_option linter.unusedVariables false
set_option linter.unusedSimpArgs false
set_option maxRecDepth 10000
abbrev tRd : Nat := 104
structure Rdr where
  s : List UInt8
  at_ : Nat
  code : Int
structure Rdr.ok (r : Rdr) : Prop where
  le : r.at_ ≤ r.s.length
  mx : r.s.length ≤ 1099511627776
abbrev rdO (b : Nat) (r : Rdr) : Own := .obj b tRd [str r.s, int (r.at_ : Int), int r.code]
theorem read_ok (s : List UInt8) : FnC Tryd.prog 48 [str s] [] (fun r L => ∃ b, r = ptr b ∧ L = [rdO b ⟨s, 0, 0⟩]) := by
  refine FnC.intro Tryd.func48 rfl Tryd.ntmps48 rfl fun Z w0 hG => ?_
  focus (
 (refine W.seq (W.region (Jx.assign rfl rfl (J.nil (N.seq (W.seq (W.region (Jx.move rfl rfl (Jx.buildB rfl rfl rfl rfl rfl ?_)))))))))
 (refine J.boxAg rfl rfl ?_; intro b')
 (refine Jx.assign rfl rfl (J.nil (N.seq (W.ret ?_))))
 (refine id ?_; rotate_left))
  exact N.ret (rs := [.tmp 2]) rfl (.tmp rfl .nil) ⟨b', rfl, rfl⟩
theorem code_ok (b : Nat) (r : Rdr) : FnC Tryd.prog 52 [ptr b] [rdO b r] (fun s L => s = int r.code ∧ L = [rdO b r]) := by
  refine FnC.intro Tryd.func52 rfl Tryd.ntmps52 rfl fun Z w0 hG => ?_
  focus (
 (refine W.seq (W.region (Jx.assign rfl rfl (J.nil (N.seq (W.seq (W.region (Jx.move rfl rfl (Jx.nilCheck rfl rfl ?_)))))))))
 (refine Jx.fieldAddr rfl rfl ?_)
 (refine Jx.load rfl 0 rfl rfl rfl ?_)
 (refine Jx.assign rfl rfl (J.nil (N.seq (W.ret ?_))))
 (refine id ?_; rotate_left))
  exact N.ret (rs := [.tmp 2]) rfl (.tmp rfl .nil) ⟨rfl, rfl⟩
theorem left_ok (b : Nat) (r : Rdr) (h : r.ok) : FnC Tryd.prog 50 [ptr b] [rdO b r] (fun s L => s = int ((r.s.length : Int) - r.at_) ∧ L = [rdO b r]) := by
  have h1 := h.le; have h2 := h.mx
  refine FnC.intro Tryd.func50 rfl Tryd.ntmps50 rfl fun Z w0 hG => ?_
  focus (
 (refine W.seq (W.region (Jx.assign rfl rfl (J.nil (N.seq (W.seq ?_))))))
 (refine W.draw follows ?_)
 (refine JD.calm rfl (by decide +kernel) ?_)
 (refine Cx.move rfl rfl ?_)
 (refine Cx.nilCheck rfl rfl ?_)
 (refine Cx.fieldAddr rfl rfl ?_)
 (refine Cx.load rfl 0 rfl rfl rfl ?_)
 (refine Cx.lenS rfl rfl ?_)
 (refine Cx.move rfl rfl ?_)
 (refine Cx.nilCheck rfl rfl ?_)
 (refine Cx.fieldAddr rfl rfl ?_)
 (refine Cx.load rfl 0 rfl rfl rfl ?_)
 (refine Cx.sub64 rfl rfl (by omega) rfl ?_)
 (refine Cx.assign rfl rfl ?_)
 (refine SegC.nil ?_)
 (refine N.seq (W.ret ?_))
 (refine id ?_; rotate_left))
  exact N.ret (rs := [.tmp 2]) rfl (.tmp rfl .nil) ⟨rfl, rfl⟩
def Rdr.refuse (r : Rdr) (from_ : Nat) (e : Int) : Rdr := if r.code = 0 then { r with at_ := from_, code := e } else r
theorem refused_ok (b : Nat) (r : Rdr) (n : Nat) (e : Int) : FnC Tryd.prog 65 [ptr b, int (n : Int), int e] [rdO b r] (fun s L => L = [rdO b (r.refuse n e)]) := by
  refine FnC.intro Tryd.func65 rfl Tryd.ntmps65 rfl fun Z w0 hG => ?_
  by_cases h : r.code = 0
  · focus (
 (refine W.seq (W.region (Jx.move rfl rfl (Jx.nilCheck rfl rfl ?_))))
 (refine Jx.fieldAddr rfl rfl ?_)
 (refine Jx.load rfl 0 rfl rfl rfl ?_)
 (refine Jx.eqlI rfl rfl rfl (J.nil (N.seq (W.cT rfl ?_))))
 (refine W.region (Jx.move rfl rfl (Jx.move rfl rfl (Jx.move rfl rfl (Jx.move rfl rfl (Jx.nilCheck rfl rfl ?_))))))
 (refine Jx.fieldAddr rfl rfl ?_)
 (refine J.store rfl rfl (by first | exact One.val rfl | exact One.sl | exact One.pp | exact One.slc) 0 rfl rfl rfl rfl ?_)
 (refine Jx.nilCheck rfl rfl ?_)
 (refine Jx.fieldAddr rfl rfl ?_)
 (refine J.store rfl rfl (by first | exact One.val rfl | exact One.sl | exact One.pp | exact One.slc) 0 rfl rfl rfl rfl ?_)
 (refine J.nil ?_)
 (refine id ?_; rotate_left))
    refine N.fin (rs := []) rfl .nil ?_
    simp [Rdr.refuse, h]
  · focus (
 (refine W.seq (W.region (Jx.move rfl rfl (Jx.nilCheck rfl rfl ?_))))
 (refine Jx.fieldAddr rfl rfl ?_)
 (refine Jx.load rfl 0 rfl rfl rfl ?_)
 (refine Jx.eqlI rfl rfl rfl (J.nil (N.seq (W.cF rfl ?_))))
 (refine W.skip ?_)
 (refine id ?_; rotate_left))
    refine N.fin (rs := []) rfl .nil ?_
    simp [Rdr.refuse, h]
theorem take_no (b : Nat) (r : Rdr) (n : Nat) (h : r.ok) (hn : r.s.length < r.at_ + n) : FnC Tryd.prog 66 [ptr b, int (n : Int)] [rdO b r] (fun s L => s = .tup [str [], bool false] ∧ L = [rdO b r]) := by
  have h1 := h.le; have h2 := h.mx
  refine FnC.intro Tryd.func66 rfl Tryd.ntmps66 rfl fun Z w0 hG => ?_
  focus (
 (refine W.seq (W.region (Jx.assign rfl rfl (Jx.assign rfl rfl (J.nil (N.seq (W.seq (W.seq ?_))))))))
 (refine W.draw follows ?_)
 (refine JD.calm rfl (by decide +kernel) ?_)
 (refine Cx.move rfl rfl ?_)
 (refine Cx.move rfl rfl ?_)
 (refine Cx.nilCheck rfl rfl ?_)
 (refine Cx.fieldAddr rfl rfl ?_)
 (refine Cx.load rfl 0 rfl rfl rfl ?_)
 (refine Cx.lenS rfl rfl ?_)
 (refine Cx.move rfl rfl ?_)
 (refine Cx.nilCheck rfl rfl ?_)
 (refine Cx.fieldAddr rfl rfl ?_)
 (refine Cx.load rfl 0 rfl rfl rfl ?_)
 (refine Cx.sub64 rfl rfl (by omega) rfl ?_)
 (refine Cx.gtrI rfl rfl rfl ?_)
 (refine SegC.nil ?_)
 (refine N.seq (W.cT rfl ?_))
 (refine W.seq (W.region (Jx.assign rfl rfl (Jx.assign rfl rfl (J.nil (N.seq (W.ret (N.seqRet ?_))))))))
 (refine id ?_; rotate_left))
  exact N.ret (rs := [.tmp 4, .tmp 5]) rfl (.tmp rfl (.tmp rfl .nil)) ⟨rfl, rfl⟩
theorem take_yes (b : Nat) (r : Rdr) (n : Nat) (h : r.ok) (hn : r.at_ + n ≤ r.s.length) : FnC Tryd.prog 66 [ptr b, int (n : Int)] [rdO b r] (fun s L => s = .tup [str ((r.s.drop r.at_).take n), bool true] ∧ L = [rdO b { r with at_ := r.at_ + n }]) := by
  have h1 := h.le; have h2 := h.mx
  have e : (r.s.take (((r.at_ : Int) + (n : Int))).toNat).drop ((r.at_ : Int)).toNat = (r.s.drop r.at_).take n := by
    rw [show ((r.at_ : Int) + (n : Int)).toNat = r.at_ + n by omega, Int.toNat_natCast, List.drop_take]; congr 1; omega
  refine FnC.intro Tryd.func66 rfl Tryd.ntmps66 rfl fun Z w0 hG => ?_
  focus (
 (refine W.seq (W.region (Jx.assign rfl rfl (Jx.assign rfl rfl (J.nil (N.seq (W.seq (W.seq ?_))))))))
 (refine W.draw follows ?_)
 (refine JD.calm rfl (by decide +kernel) ?_)
 (refine Cx.move rfl rfl ?_)
 (refine Cx.move rfl rfl ?_)
 (refine Cx.nilCheck rfl rfl ?_)
 (refine Cx.fieldAddr rfl rfl ?_)
 (refine Cx.load rfl 0 rfl rfl rfl ?_)
 (refine Cx.lenS rfl rfl ?_)
 (refine Cx.move rfl rfl ?_)
 (refine Cx.nilCheck rfl rfl ?_)
 (refine Cx.fieldAddr rfl rfl ?_)
 (refine Cx.load rfl 0 rfl rfl rfl ?_)
 (refine Cx.sub64 rfl rfl (by omega) rfl ?_)
 (refine Cx.gtrI rfl rfl rfl ?_)
 (refine SegC.nil ?_)
 (refine N.seq (W.cF rfl ?_))
 (refine W.skip (N.seq (W.seq ?_)))
 (refine W.draw follows ?_)
 (refine JD.calm rfl (by decide +kernel) ?_)
 (refine Cx.move rfl rfl ?_)
 (refine Cx.nilCheck rfl rfl ?_)
 (refine Cx.fieldAddr rfl rfl ?_)
 (refine Cx.load rfl 0 rfl rfl rfl ?_)
 (refine Cx.move rfl rfl ?_)
 (refine Cx.nilCheck rfl rfl ?_)
 (refine Cx.fieldAddr rfl rfl ?_)
 (refine Cx.load rfl 0 rfl rfl rfl ?_)
 (refine Cx.move rfl rfl ?_)
 (refine Cx.nilCheck rfl rfl ?_)
 (refine Cx.fieldAddr rfl rfl ?_)
 (refine Cx.load rfl 0 rfl rfl rfl ?_)
 (refine Cx.move rfl rfl ?_)
 (refine Cx.add64 rfl rfl (by omega) rfl ?_)
 (refine Cx.sliceSlh rfl rfl rfl (by omega) (by omega) (by omega) rfl ?_)
 (refine Cx.assign rfl rfl ?_)
 (refine SegC.nil ?_)
 (refine N.seq (W.seq (W.region (Jx.move rfl rfl (Jx.nilCheck rfl rfl ?_)))))
 (refine Jx.fieldAddr rfl rfl ?_)
 (refine Jx.load rfl 0 rfl rfl rfl ?_)
 (refine Jx.move rfl rfl (Jx.add64 rfl rfl (by omega) rfl ?_))
 (refine Jx.nilCheck rfl rfl ?_)
 (refine Jx.fieldAddr rfl rfl ?_)
 (refine J.store rfl rfl (by first | exact One.val rfl | exact One.sl | exact One.pp | exact One.slc) 0 rfl rfl rfl rfl ?_)
 (refine J.nil (N.seq (W.seq (W.region (Jx.move rfl rfl (Jx.assign rfl rfl (Jx.assign rfl rfl (J.nil (N.seq (W.ret ?_))))))))))
 (refine id ?_; rotate_left))
  exact N.ret (rs := [.tmp 4, .tmp 5]) rfl (.tmp rfl (.tmp rfl .nil)) ⟨by rw [e]; rfl, rfl⟩
def valB (l : List UInt8) : Nat := l.foldl (fun n b => n * 256 + b.toNat) 0
theorem valB_snoc (l : List UInt8) (b : UInt8) : valB (l ++ [b]) = valB l * 256 + b.toNat := by simp [valB]
theorem valB_lt : ∀ (k : Nat) (l : List UInt8), l.length = k → valB l < 256 ^ k
  | 0, l, h => by rw [List.eq_nil_of_length_eq_zero h]; simp [valB]
  | k + 1, l, h => by
    obtain ⟨m, b, rfl⟩ : ∃ m b, l = m ++ [b] := ⟨l.dropLast, l.getLast (by intro e; subst e; simp at h), (List.dropLast_concat_getLast _).symm⟩
    rw [valB_snoc, Nat.pow_succ]
    have := valB_lt k m (by simpa using h)
    have hb := b.toNat_lt
    omega
theorem valB_cons : ∀ (k : Nat) (b : UInt8) (l : List UInt8), l.length = k → valB (b :: l) = b.toNat * 256 ^ k + valB l
  | 0, b, l, h => by rw [List.eq_nil_of_length_eq_zero h]; simp [valB]
  | k + 1, b, l, h => by
    obtain ⟨m, c, rfl⟩ : ∃ m c, l = m ++ [c] := ⟨l.dropLast, l.getLast (by intro e; subst e; simp at h), (List.dropLast_concat_getLast _).symm⟩
    rw [← List.cons_append, valB_snoc, valB_snoc, valB_cons k b m (by simpa using h), Nat.pow_succ]
    rw [Nat.add_mul, Nat.mul_assoc]; omega
theorem valB_take (l : List UInt8) (i : Nat) (h : i < l.length) : valB (l.take (i + 1)) = valB (l.take i) * 256 + (l.getD i 0).toNat := by
  rw [List.take_add_one, List.getElem?_eq_getElem h, List.getD_eq_getElem?_getD, List.getElem?_eq_getElem h]
  exact valB_snoc _ _
theorem valB_mono (l : List UInt8) : ∀ (j i : Nat), i + j = l.length → valB (l.take i) ≤ valB l
  | 0, i, h => by rw [List.take_of_length_le (by omega)]; exact Nat.le_refl _
  | j + 1, i, h => by
    have := valB_mono l j (i + 1) (by omega)
    rw [valB_take l i (by omega)] at this
    omega
def readN : List UInt8 → Nat × Nat × Int
  | [] => (0, 0, 20)
  | h :: t =>
    if 8 < h.toNat then (0, 0, 3) else if t.length < h.toNat then (0, 0, 20) else
    if (0 < h.toNat ∧ (t.getD 0 0).toNat = 0) ∨ (h.toNat = 8 ∧ 128 ≤ (t.getD 0 0).toNat) then (0, 0, 3) else (valB (t.take h.toNat), 1 + h.toNat, 0)
theorem getD_take0 (t : List UInt8) (n : Nat) (h : 0 < n) : (t.take n).getD 0 0 = t.getD 0 0 := by
  simp [List.getD_eq_getElem?_getD, List.getElem?_take, h]
theorem val_bound (t : List UInt8) (n : Nat) (h8 : n ≤ 8) (hl : n ≤ t.length) (h : ¬ (n = 8 ∧ 128 ≤ (t.getD 0 0).toNat)) : valB (t.take n) < 9223372036854775808 := by
  have hlen : (t.take n).length = n := by rw [List.length_take]; omega
  by_cases h7 : n ≤ 7
  · have := valB_lt n (t.take n) hlen
    have : 256 ^ n ≤ 256 ^ 7 := Nat.pow_le_pow_right (by omega) h7
    omega
  · obtain rfl : n = 8 := by omega
    match ht : t with
    | [] => simp at hl
    | x :: r =>
      simp only [List.take_succ_cons] at hlen ⊢
      rw [valB_cons 7 x (r.take 7) (by simpa using hlen)]
      have h1 := valB_lt 7 (r.take 7) (by simpa using hlen)
      simp only [List.getD_cons_zero, true_and] at h
      omega
end Go.Proofs.YtbdkenlkimiddaaDoor
namespace Go.Proofs.YtbdkenlkimiddaaDoor
open Go Go.Sse
set_option linter.unusedVariables false
set_option linter.unusedSimpArgs false
set_option maxRecDepth 10000
def numOut (r : Rdr) (s : SV) (r' : Rdr) : Prop :=
  s = .tup [int ((readN (r.s.drop r.at_)).1 : Int), int (readN (r.s.drop r.at_)).2.2] ∧ r'.s = r.s ∧ r'.code = r.code ∧ ((readN (r.s.drop r.at_)).2.2 = 0 → r'.at_ = r.at_ + (readN (r.s.drop r.at_)).2.1)
set_option maxHeartbeats 2000000 in
theorem number_bad (b : Nat) (r : Rdr) (h : r.ok) (hc : r.code = 0) (hb : (readN (r.s.drop r.at_)).2.2 ≠ 0) : FnC Tryd.prog 67 [ptr b] [rdO b r] (fun s L => ∃ r', numOut r s r' ∧ L = [rdO b r']) := by
  have h1 := h.le; have h2 := h.mx
  obtain ⟨s, a, c⟩ := r
  simp only at h1 h2 hc hb
  subst hc
  unfold numOut
  simp only
  cases hd : s.drop a with
  | nil =>
    have hlen : s.length ≤ a := by
      have := congrArg List.length hd
      rw [List.length_drop] at this; simp at this; omega
    have c0 := take_no b ⟨s, a, 0⟩ 1 h (by simp only; omega)
    refine FnC.intro Tryd.func67 rfl Tryd.ntmps67 rfl fun Z w0 hG => ?_
    focus (
 (refine W.seq (W.region (Jx.assign rfl rfl (Jx.assign rfl rfl (J.nil (N.seq (W.seq (W.seq (W.region (Jx.move rfl rfl (Jx.nilCheck rfl rfl ?_)))))))))))
 (refine Jx.fieldAddr rfl rfl ?_)
 (refine Jx.load rfl 0 rfl rfl rfl ?_)
 (refine Jx.neqI rfl rfl rfl (J.nil (N.seq (W.cF rfl ?_))))
 (refine W.skip (N.seq (W.seq (W.region (Jx.move rfl rfl ?_)))))
 (refine J.call (c0) rfl (evs_args rfl) rfl ?_; rintro _ _ ⟨rfl, rfl⟩; simp only [la1, la2, la3])
 (refine Jx.move rfl rfl (Jx.extract rfl rfl rfl ?_))
 (refine Jx.extract rfl rfl rfl ?_)
 (refine Jx.assign rfl rfl (Jx.assign rfl rfl (J.nil (N.seq (W.seq (W.seq (W.region (Jx.move rfl rfl (Jx.not rfl rfl (J.nil (N.seq (W.cT rfl ?_))))))))))))
 (refine W.seq (W.region (Jx.assign rfl rfl (Jx.assign rfl rfl (J.nil (N.seq (W.ret (N.seqRet ?_))))))))
 (refine id ?_; rotate_left))
    exact N.ret (rs := [.tmp 2, .tmp 3]) rfl (.tmp rfl (.tmp rfl .nil)) ⟨⟨s, a, 0⟩, ⟨rfl, rfl, rfl, by simp [readN]⟩, rfl⟩
  | cons x t =>
    have hlen : s.length = a + 1 + t.length := by
      have := congrArg List.length hd
      rw [List.length_drop] at this; simp at this; omega
    have c0 := take_yes b ⟨s, a, 0⟩ 1 h (by simp only; omega)
    simp only [hd, List.take_succ_cons, List.take_zero] at c0
    rw [hd] at hb
    have hx := x.toNat_lt
    by_cases h8 : 8 < x.toNat
    · refine FnC.intro Tryd.func67 rfl Tryd.ntmps67 rfl fun Z w0 hG => ?_
      focus (
 (refine W.seq (W.region (Jx.assign rfl rfl (Jx.assign rfl rfl (J.nil (N.seq (W.seq (W.seq (W.region (Jx.move rfl rfl (Jx.nilCheck rfl rfl ?_)))))))))))
 (refine Jx.fieldAddr rfl rfl ?_)
 (refine Jx.load rfl 0 rfl rfl rfl ?_)
 (refine Jx.neqI rfl rfl rfl (J.nil (N.seq (W.cF rfl ?_))))
 (refine W.skip (N.seq (W.seq (W.region (Jx.move rfl rfl ?_)))))
 (refine J.call (c0) rfl (evs_args rfl) rfl ?_; rintro _ _ ⟨rfl, rfl⟩; simp only [la1, la2, la3])
 (refine Jx.move rfl rfl (Jx.extract rfl rfl rfl ?_))
 (refine Jx.extract rfl rfl rfl ?_)
 (refine Jx.assign rfl rfl (Jx.assign rfl rfl (J.nil (N.seq (W.seq (W.seq (W.region (Jx.move rfl rfl (Jx.not rfl rfl (J.nil (N.seq (W.cF rfl ?_))))))))))))
 (refine W.skip (N.seq (W.seq (W.seq (W.region (Jx.move rfl rfl (Jx.indexS rfl rfl (by decide) (by first | (simp; done) | omega) rfl ?_)))))))
 (refine Jx.gtrI rfl rfl rfl (J.nil (N.seq (W.cT rfl ?_))))
 (refine W.seq (W.region (Jx.assign rfl rfl (Jx.assign rfl rfl (J.nil (N.seq (W.ret (N.seqRet ?_))))))))
 (refine id ?_; rotate_left))
      exact N.ret (rs := [.tmp 2, .tmp 3]) rfl (.tmp rfl (.tmp rfl .nil)) ⟨⟨s, a + 1, 0⟩, ⟨by simp [readN, h8, oneOr], rfl, rfl, by simp [readN, h8]⟩, rfl⟩
    · have hok2 : Rdr.ok ⟨s, a + 1, 0⟩ := ⟨by simp only; omega, h2⟩
      have hdt : s.drop (a + 1) = t := by rw [← List.drop_drop, hd]; rfl
      by_cases hs : t.length < x.toNat
      · have c1 := take_no b ⟨s, a + 1, 0⟩ x.toNat hok2 (by simp only; omega)
        refine FnC.intro Tryd.func67 rfl Tryd.ntmps67 rfl fun Z w0 hG => ?_
        focus (
 (refine W.seq (W.region (Jx.assign rfl rfl (Jx.assign rfl rfl (J.nil (N.seq (W.seq (W.seq (W.region (Jx.move rfl rfl (Jx.nilCheck rfl rfl ?_)))))))))))
 (refine Jx.fieldAddr rfl rfl ?_)
 (refine Jx.load rfl 0 rfl rfl rfl ?_)
 (refine Jx.neqI rfl rfl rfl (J.nil (N.seq (W.cF rfl ?_))))
 (refine W.skip (N.seq (W.seq (W.region (Jx.move rfl rfl ?_)))))
 (refine J.call (c0) rfl (evs_args rfl) rfl ?_; rintro _ _ ⟨rfl, rfl⟩; simp only [la1, la2, la3])
 (refine Jx.move rfl rfl (Jx.extract rfl rfl rfl ?_))
 (refine Jx.extract rfl rfl rfl ?_)
 (refine Jx.assign rfl rfl (Jx.assign rfl rfl (J.nil (N.seq (W.seq (W.seq (W.region (Jx.move rfl rfl (Jx.not rfl rfl (J.nil (N.seq (W.cF rfl ?_))))))))))))
 (refine W.skip (N.seq (W.seq (W.seq (W.region (Jx.move rfl rfl (Jx.indexS rfl rfl (by decide) (by first | (simp; done) | omega) rfl ?_)))))))
 (refine Jx.gtrI rfl rfl rfl (J.nil (N.seq (W.cF rfl ?_))))
 (refine W.skip (N.seq (W.seq (W.region (Jx.move rfl rfl (Jx.move rfl rfl (Jx.indexS rfl rfl (by decide) (by first | (simp; done) | omega) rfl ?_)))))))
 (refine Jx.byteNum rfl rfl rfl ?_)
 (refine J.call (c1) rfl (evs_args rfl) rfl ?_; rintro _ _ ⟨rfl, rfl⟩; simp only [la1, la2, la3])
 (refine Jx.move rfl rfl (Jx.extract rfl rfl rfl ?_))
 (refine Jx.extract rfl rfl rfl ?_)
 (refine Jx.assign rfl rfl (Jx.assign rfl rfl (J.nil (N.seq (W.seq (W.seq (W.region (Jx.move rfl rfl (Jx.not rfl rfl (J.nil (N.seq (W.cT rfl ?_))))))))))))
 (refine W.seq (W.region (Jx.assign rfl rfl (Jx.assign rfl rfl (J.nil (N.seq (W.ret (N.seqRet ?_))))))))
 (refine id ?_; rotate_left))
        exact N.ret (rs := [.tmp 2, .tmp 3]) rfl (.tmp rfl (.tmp rfl .nil)) ⟨⟨s, a + 1, 0⟩, ⟨by simp [readN, h8, hs, oneOr], rfl, rfl, by simp [readN, h8, hs]⟩, rfl⟩
      · have c1 := take_yes b ⟨s, a + 1, 0⟩ x.toNat hok2 (by simp only; omega)
        simp only [hdt] at c1
        have hl : (t.take x.toNat).length = x.toNat := by rw [List.length_take]; omega
        have hbad : (0 < x.toNat ∧ (t.getD 0 0).toNat = 0) ∨ (x.toNat = 8 ∧ 128 ≤ (t.getD 0 0).toNat) := Classical.byContradiction fun hn => hb (by simp only [readN, if_neg h8, if_neg hs, if_neg hn])
        have hr : readN (x :: t) = (0, 0, 3) := by simp only [readN, if_neg h8, if_neg hs, if_pos hbad]
        rw [hr]
        have h0 : 0 < x.toNat := by omega
        have hg : ((t.take x.toNat).getD (Int.toNat 0) 0).toNat = (t.getD 0 0).toNat := by rw [show Int.toNat 0 = 0 from rfl, getD_take0 t _ h0]
        generalize t.take x.toNat = bs at *
        generalize (t.getD 0 0).toNat = y at *
        by_cases hy : y = 0
        · refine FnC.intro Tryd.func67 rfl Tryd.ntmps67 rfl fun Z w0 hG => ?_
          focus (
 (refine W.seq (W.region (Jx.assign rfl rfl (Jx.assign rfl rfl (J.nil (N.seq (W.seq (W.seq (W.region (Jx.move rfl rfl (Jx.nilCheck rfl rfl ?_)))))))))))
 (refine Jx.fieldAddr rfl rfl ?_)
 (refine Jx.load rfl 0 rfl rfl rfl ?_)
 (refine Jx.neqI rfl rfl rfl (J.nil (N.seq (W.cF rfl ?_))))
 (refine W.skip (N.seq (W.seq (W.region (Jx.move rfl rfl ?_)))))
 (refine J.call (c0) rfl (evs_args rfl) rfl ?_; rintro _ _ ⟨rfl, rfl⟩; simp only [la1, la2, la3])
 (refine Jx.move rfl rfl (Jx.extract rfl rfl rfl ?_))
 (refine Jx.extract rfl rfl rfl ?_)
 (refine Jx.assign rfl rfl (Jx.assign rfl rfl (J.nil (N.seq (W.seq (W.seq (W.region (Jx.move rfl rfl (Jx.not rfl rfl (J.nil (N.seq (W.cF rfl ?_))))))))))))
 (refine W.skip (N.seq (W.seq (W.seq (W.region (Jx.move rfl rfl (Jx.indexS rfl rfl (by decide) (by first | omega | (simp; done)) rfl ?_)))))))
 (refine Jx.gtrI rfl rfl rfl (J.nil (N.seq (W.cF rfl ?_))))
 (refine W.skip (N.seq (W.seq (W.region (Jx.move rfl rfl (Jx.move rfl rfl (Jx.indexS rfl rfl (by decide) (by first | omega | (simp; done)) rfl ?_)))))))
 (refine Jx.byteNum rfl rfl rfl ?_)
 (refine J.call (c1) rfl (evs_args rfl) rfl ?_; rintro _ _ ⟨rfl, rfl⟩; simp only [la1, la2, la3])
 (refine Jx.move rfl rfl (Jx.extract rfl rfl rfl ?_))
 (refine Jx.extract rfl rfl rfl ?_)
 (refine Jx.assign rfl rfl (Jx.assign rfl rfl (J.nil (N.seq (W.seq (W.seq (W.region (Jx.move rfl rfl (Jx.not rfl rfl (J.nil (N.seq (W.cF rfl ?_))))))))))))
 (refine W.skip (N.seq (W.seq (W.seq (W.region (Jx.move rfl rfl (Jx.lenS rfl rfl ?_)))))))
 (refine Jx.gtrI rfl rfl rfl (Jx.move rfl rfl (J.gY rfl rfl rfl ?_)))
 (refine Jx.move rfl rfl (J.gY rfl rfl rfl ?_))
 (refine Jx.indexS rfl rfl (by decide) (by first | omega | (simp; done)) rfl ?_)
 (refine J.gY rfl rfl rfl ?_)
 (refine Jx.eqlI rfl rfl rfl (Jx.pT rfl rfl rfl ?_))
 (refine Jx.move rfl rfl (J.gN rfl rfl rfl rfl ?_))
 (refine J.gN rfl rfl rfl rfl ?_)
 (refine J.gN rfl rfl rfl rfl ?_)
 (refine J.gN rfl rfl rfl rfl ?_)
 (refine J.guardSkip rfl rfl rfl rfl ?_)
 (refine J.guardSkip rfl rfl rfl rfl ?_)
 (refine J.guardSkip rfl rfl rfl rfl ?_)
 (refine J.gN rfl rfl rfl rfl ?_)
 (refine Jx.pT rfl rfl rfl ?_)
 (refine J.nil (N.seq (W.cT rfl ?_)))
 (refine W.seq (W.region (Jx.assign rfl rfl (Jx.assign rfl rfl (J.nil (N.seq (W.ret (N.seqRet ?_))))))))
 (refine id ?_; rotate_left))
          exact N.ret (rs := [.tmp 2, .tmp 3]) rfl (.tmp rfl (.tmp rfl .nil)) ⟨⟨s, a + 1 + x.toNat, 0⟩, ⟨rfl, rfl, rfl, by simp⟩, rfl⟩
        · have hx8 : x.toNat = 8 := by omega
          refine FnC.intro Tryd.func67 rfl Tryd.ntmps67 rfl fun Z w0 hG => ?_
          focus (
 (refine W.seq (W.region (Jx.assign rfl rfl (Jx.assign rfl rfl (J.nil (N.seq (W.seq (W.seq (W.region (Jx.move rfl rfl (Jx.nilCheck rfl rfl ?_)))))))))))
 (refine Jx.fieldAddr rfl rfl ?_)
 (refine Jx.load rfl 0 rfl rfl rfl ?_)
 (refine Jx.neqI rfl rfl rfl (J.nil (N.seq (W.cF rfl ?_))))
 (refine W.skip (N.seq (W.seq (W.region (Jx.move rfl rfl ?_)))))
 (refine J.call (c0) rfl (evs_args rfl) rfl ?_; rintro _ _ ⟨rfl, rfl⟩; simp only [la1, la2, la3])
 (refine Jx.move rfl rfl (Jx.extract rfl rfl rfl ?_))
 (refine Jx.extract rfl rfl rfl ?_)
 (refine Jx.assign rfl rfl (Jx.assign rfl rfl (J.nil (N.seq (W.seq (W.seq (W.region (Jx.move rfl rfl (Jx.not rfl rfl (J.nil (N.seq (W.cF rfl ?_))))))))))))
 (refine W.skip (N.seq (W.seq (W.seq (W.region (Jx.move rfl rfl (Jx.indexS rfl rfl (by decide) (by first | omega | (simp; done)) rfl ?_)))))))
 (refine Jx.gtrI rfl rfl rfl (J.nil (N.seq (W.cF rfl ?_))))
 (refine W.skip (N.seq (W.seq (W.region (Jx.move rfl rfl (Jx.move rfl rfl (Jx.indexS rfl rfl (by decide) (by first | omega | (simp; done)) rfl ?_)))))))
 (refine Jx.byteNum rfl rfl rfl ?_)
 (refine J.call (c1) rfl (evs_args rfl) rfl ?_; rintro _ _ ⟨rfl, rfl⟩; simp only [la1, la2, la3])
 (refine Jx.move rfl rfl (Jx.extract rfl rfl rfl ?_))
 (refine Jx.extract rfl rfl rfl ?_)
 (refine Jx.assign rfl rfl (Jx.assign rfl rfl (J.nil (N.seq (W.seq (W.seq (W.region (Jx.move rfl rfl (Jx.not rfl rfl (J.nil (N.seq (W.cF rfl ?_))))))))))))
 (refine W.skip (N.seq (W.seq (W.seq (W.region (Jx.move rfl rfl (Jx.lenS rfl rfl ?_)))))))
 (refine Jx.gtrI rfl rfl rfl (Jx.move rfl rfl (J.gY rfl rfl rfl ?_)))
 (refine Jx.move rfl rfl (J.gY rfl rfl rfl ?_))
 (refine Jx.indexS rfl rfl (by decide) (by first | omega | (simp; done)) rfl ?_)
 (refine J.gY rfl rfl rfl ?_)
 (refine Jx.eqlI rfl rfl rfl (Jx.pT rfl rfl rfl ?_))
 (refine Jx.move rfl rfl (J.gY rfl rfl rfl ?_))
 (refine Jx.move rfl rfl (J.gY rfl rfl rfl ?_))
 (refine Jx.lenS rfl rfl ?_)
 (refine J.gY rfl rfl rfl ?_)
 (refine Jx.eqlI rfl rfl rfl (J.gY rfl rfl rfl ?_))
 (refine Jx.move rfl rfl (J.gY rfl rfl rfl ?_))
 (refine Jx.move rfl rfl (J.gY rfl rfl rfl ?_))
 (refine Jx.indexS rfl rfl (by decide) (by first | omega | (simp; done)) rfl ?_)
 (refine J.gY rfl rfl rfl ?_)
 (refine Jx.geqI rfl rfl rfl (J.gY rfl rfl rfl ?_))
 (refine Jx.pT rfl rfl rfl ?_)
 (refine Jx.pF rfl rfl rfl ?_)
 (refine J.nil (N.seq (W.cT rfl ?_)))
 (refine W.seq (W.region (Jx.assign rfl rfl (Jx.assign rfl rfl (J.nil (N.seq (W.ret (N.seqRet ?_))))))))
 (refine id ?_; rotate_left))
          exact N.ret (rs := [.tmp 2, .tmp 3]) rfl (.tmp rfl (.tmp rfl .nil)) ⟨⟨s, a + 1 + x.toNat, 0⟩, ⟨rfl, rfl, rfl, by simp⟩, rfl⟩
set_option maxHeartbeats 2000000 in
theorem number_good (b : Nat) (r : Rdr) (h : r.ok) (hc : r.code = 0) (hb : (readN (r.s.drop r.at_)).2.2 = 0) : FnC Tryd.prog 67 [ptr b] [rdO b r] (fun s L => ∃ r', numOut r s r' ∧ L = [rdO b r']) := by
  have h1 := h.le; have h2 := h.mx
  obtain ⟨s, a, c⟩ := r
  simp only at h1 h2 hc hb
  subst hc
  unfold numOut
  simp only
  cases hd : s.drop a with
  | nil => rw [hd] at hb; simp [readN] at hb
  | cons x t =>
    have hlen : s.length = a + 1 + t.length := by
      have := congrArg List.length hd
      rw [List.length_drop] at this; simp at this; omega
    have c0 := take_yes b ⟨s, a, 0⟩ 1 h (by simp only; omega)
    simp only [hd, List.take_succ_cons, List.take_zero] at c0
    rw [hd] at hb
    have hx := x.toNat_lt
    have h8 : ¬ 8 < x.toNat := fun h => by simp [readN, h] at hb
    have hs : ¬ t.length < x.toNat := fun h => by simp [readN, h8, h] at hb
    have hgood : ¬ ((0 < x.toNat ∧ (t.getD 0 0).toNat = 0) ∨ (x.toNat = 8 ∧ 128 ≤ (t.getD 0 0).toNat)) := fun h => by
      simp only [readN, if_neg h8, if_neg hs, if_pos h] at hb; cases hb
    have hok2 : Rdr.ok ⟨s, a + 1, 0⟩ := ⟨by simp only; omega, h2⟩
    have hdt : s.drop (a + 1) = t := by rw [← List.drop_drop, hd]; rfl
    have c1 := take_yes b ⟨s, a + 1, 0⟩ x.toNat hok2 (by simp only; omega)
    simp only [hdt] at c1
    have hl : (t.take x.toNat).length = x.toNat := by rw [List.length_take]; omega
    have hr : readN (x :: t) = (valB (t.take x.toNat), 1 + x.toNat, 0) := by simp only [readN, if_neg h8, if_neg hs, if_neg hgood]
    rw [hr]
    have hvb := val_bound t x.toNat (by omega) (by omega) (fun h => hgood (.inr h))
    have hg : 0 < x.toNat → ((t.take x.toNat).getD (Int.toNat 0) 0).toNat = (t.getD 0 0).toNat := fun h0 => by rw [show Int.toNat 0 = 0 from rfl, getD_take0 t _ h0]
    generalize t.take x.toNat = bs at *
    by_cases h0 : x.toNat = 0
    · have hbs : bs = [] := List.eq_nil_of_length_eq_zero (by omega)
      subst hbs
      refine FnC.intro Tryd.func67 rfl Tryd.ntmps67 rfl fun Z w0 hG => ?_
      focus (
 (refine W.seq (W.region (Jx.assign rfl rfl (Jx.assign rfl rfl (J.nil (N.seq (W.seq (W.seq (W.region (Jx.move rfl rfl (Jx.nilCheck rfl rfl ?_)))))))))))
 (refine Jx.fieldAddr rfl rfl ?_)
 (refine Jx.load rfl 0 rfl rfl rfl ?_)
 (refine Jx.neqI rfl rfl rfl (J.nil (N.seq (W.cF rfl ?_))))
 (refine W.skip (N.seq (W.seq (W.region (Jx.move rfl rfl ?_)))))
 (refine J.call (c0) rfl (evs_args rfl) rfl ?_; rintro _ _ ⟨rfl, rfl⟩; simp only [la1, la2, la3])
 (refine Jx.move rfl rfl (Jx.extract rfl rfl rfl ?_))
 (refine Jx.extract rfl rfl rfl ?_)
 (refine Jx.assign rfl rfl (Jx.assign rfl rfl (J.nil (N.seq (W.seq (W.seq (W.region (Jx.move rfl rfl (Jx.not rfl rfl (J.nil (N.seq (W.cF rfl ?_))))))))))))
 (refine W.skip (N.seq (W.seq (W.seq (W.region (Jx.move rfl rfl (Jx.indexS rfl rfl (by decide) (by first | omega | (simp; done)) rfl ?_)))))))
 (refine Jx.gtrI rfl rfl rfl (J.nil (N.seq (W.cF rfl ?_))))
 (refine W.skip (N.seq (W.seq (W.region (Jx.move rfl rfl (Jx.move rfl rfl (Jx.indexS rfl rfl (by decide) (by first | omega | (simp; done)) rfl ?_)))))))
 (refine Jx.byteNum rfl rfl rfl ?_)
 (refine J.call (c1) rfl (evs_args rfl) rfl ?_; rintro _ _ ⟨rfl, rfl⟩; simp only [la1, la2, la3])
 (refine Jx.move rfl rfl (Jx.extract rfl rfl rfl ?_))
 (refine Jx.extract rfl rfl rfl ?_)
 (refine Jx.assign rfl rfl (Jx.assign rfl rfl (J.nil (N.seq (W.seq (W.seq (W.region (Jx.move rfl rfl (Jx.not rfl rfl (J.nil (N.seq (W.cF rfl ?_))))))))))))
 (refine W.skip (N.seq (W.seq (W.seq (W.region (Jx.move rfl rfl (Jx.lenS rfl rfl ?_)))))))
 (refine Jx.gtrI rfl rfl rfl (Jx.move rfl rfl ?_))
 (refine J.guardNo rfl rfl rfl (by first | rfl | assumption | (exact decide_eq_true (by first | assumption | omega | rfl)) | (exact decide_eq_false (by first | assumption | omega | rfl)) | (simp; done) | (simp; omega)) rfl ?_)
 (refine J.guardNo rfl rfl rfl (by first | rfl | assumption | (exact decide_eq_true (by first | assumption | omega | rfl)) | (exact decide_eq_false (by first | assumption | omega | rfl)) | (simp; done) | (simp; omega)) rfl ?_)
 (refine J.guardNo rfl rfl rfl (by first | rfl | assumption | (exact decide_eq_true (by first | assumption | omega | rfl)) | (exact decide_eq_false (by first | assumption | omega | rfl)) | (simp; done) | (simp; omega)) rfl ?_)
 (refine Jx.pF rfl rfl rfl ?_)
 (refine Jx.move rfl rfl (J.gY rfl rfl rfl ?_))
 (refine Jx.move rfl rfl (J.gY rfl rfl rfl ?_))
 (refine Jx.lenS rfl rfl ?_)
 (refine J.gY rfl rfl rfl ?_)
 (refine Jx.eqlI rfl rfl rfl (J.gY rfl rfl rfl ?_))
 (refine Jx.move rfl rfl ?_)
 (refine J.guardNo rfl rfl rfl (by first | rfl | assumption | (exact decide_eq_true (by first | assumption | omega | rfl)) | (exact decide_eq_false (by first | assumption | omega | rfl)) | (simp; done) | (simp; omega)) rfl ?_)
 (refine J.guardNo rfl rfl rfl (by first | rfl | assumption | (exact decide_eq_true (by first | assumption | omega | rfl)) | (exact decide_eq_false (by first | assumption | omega | rfl)) | (simp; done) | (simp; omega)) rfl ?_)
 (refine J.guardNo rfl rfl rfl (by first | rfl | assumption | (exact decide_eq_true (by first | assumption | omega | rfl)) | (exact decide_eq_false (by first | assumption | omega | rfl)) | (simp; done) | (simp; omega)) rfl ?_)
 (refine J.gY rfl rfl rfl ?_)
 (refine Jx.pF rfl rfl rfl ?_)
 (refine Jx.pF rfl rfl rfl ?_)
 (refine J.nil (N.seq (W.cF rfl ?_)))
 (refine W.skip (N.seq (W.seq (W.region (Jx.assign rfl rfl (J.nil (N.seq (W.seq (W.seq (W.region (Jx.move rfl rfl (Jx.lenS rfl rfl ?_))))))))))))
 (refine Jx.move rfl rfl (J.nil (N.seq (W.block ?_))))
 (refine id ?_; rotate_left))
      refine W.loop (α := Unit) (fun _ => [(58, int 0), (57, int 0), (7, int 0)]) (fun _ => [rdO b ⟨s, a + 1 + x.toNat, 0⟩]) (fun _ => True) (fun _ => 0) () trivial rfl ⟨ref0 rfl, ref0 rfl, ref0 rfl, trivial⟩ ?_
      intro _ _
      focus (
 (refine W.seq (W.region (Jx.lssI rfl rfl rfl (J.nil (N.seq (W.seq (W.cF rfl ?_)))))))
 (refine W.exit (N.seq (W.seq (W.region (Jx.move rfl rfl (Jx.assign rfl rfl (Jx.assign rfl rfl (J.nil (N.seq (W.ret ?_))))))))))
 (refine id ?_; rotate_left))
      exact N.ret (rs := [.tmp 2, .tmp 3]) rfl (.tmp rfl (.tmp rfl .nil)) ⟨⟨s, a + 1 + x.toNat, 0⟩, ⟨rfl, rfl, rfl, fun _ => by simp only; omega⟩, rfl⟩
    · have hg' := hg (by omega)
      generalize (t.getD 0 0).toNat = y at *
      by_cases hx8 : x.toNat = 8
      · refine FnC.intro Tryd.func67 rfl Tryd.ntmps67 rfl fun Z w0 hG => ?_
        focus (
 (refine W.seq (W.region (Jx.assign rfl rfl (Jx.assign rfl rfl (J.nil (N.seq (W.seq (W.seq (W.region (Jx.move rfl rfl (Jx.nilCheck rfl rfl ?_)))))))))))
 (refine Jx.fieldAddr rfl rfl ?_)
 (refine Jx.load rfl 0 rfl rfl rfl ?_)
 (refine Jx.neqI rfl rfl rfl (J.nil (N.seq (W.cF rfl ?_))))
 (refine W.skip (N.seq (W.seq (W.region (Jx.move rfl rfl ?_)))))
 (refine J.call (c0) rfl (evs_args rfl) rfl ?_; rintro _ _ ⟨rfl, rfl⟩; simp only [la1, la2, la3])
 (refine Jx.move rfl rfl (Jx.extract rfl rfl rfl ?_))
 (refine Jx.extract rfl rfl rfl ?_)
 (refine Jx.assign rfl rfl (Jx.assign rfl rfl (J.nil (N.seq (W.seq (W.seq (W.region (Jx.move rfl rfl (Jx.not rfl rfl (J.nil (N.seq (W.cF rfl ?_))))))))))))
 (refine W.skip (N.seq (W.seq (W.seq (W.region (Jx.move rfl rfl (Jx.indexS rfl rfl (by decide) (by first | omega | (simp; done)) rfl ?_)))))))
 (refine Jx.gtrI rfl rfl rfl (J.nil (N.seq (W.cF rfl ?_))))
 (refine W.skip (N.seq (W.seq (W.region (Jx.move rfl rfl (Jx.move rfl rfl (Jx.indexS rfl rfl (by decide) (by first | omega | (simp; done)) rfl ?_)))))))
 (refine Jx.byteNum rfl rfl rfl ?_)
 (refine J.call (c1) rfl (evs_args rfl) rfl ?_; rintro _ _ ⟨rfl, rfl⟩; simp only [la1, la2, la3])
 (refine Jx.move rfl rfl (Jx.extract rfl rfl rfl ?_))
 (refine Jx.extract rfl rfl rfl ?_)
 (refine Jx.assign rfl rfl (Jx.assign rfl rfl (J.nil (N.seq (W.seq (W.seq (W.region (Jx.move rfl rfl (Jx.not rfl rfl (J.nil (N.seq (W.cF rfl ?_))))))))))))
 (refine W.skip (N.seq (W.seq (W.seq (W.region (Jx.move rfl rfl (Jx.lenS rfl rfl ?_)))))))
 (refine Jx.gtrI rfl rfl rfl (Jx.move rfl rfl (J.gY rfl rfl rfl ?_)))
 (refine Jx.move rfl rfl (J.gY rfl rfl rfl ?_))
 (refine Jx.indexS rfl rfl (by decide) (by first | omega | (simp; done)) rfl ?_)
 (refine J.gY rfl rfl rfl ?_)
 (refine Jx.eqlI rfl rfl rfl (Jx.pT rfl rfl rfl ?_))
 (refine Jx.move rfl rfl (J.gY rfl rfl rfl ?_))
 (refine Jx.move rfl rfl (J.gY rfl rfl rfl ?_))
 (refine Jx.lenS rfl rfl ?_)
 (refine J.gY rfl rfl rfl ?_)
 (refine Jx.eqlI rfl rfl rfl (J.gY rfl rfl rfl ?_))
 (refine Jx.move rfl rfl (J.gY rfl rfl rfl ?_))
 (refine Jx.move rfl rfl (J.gY rfl rfl rfl ?_))
 (refine Jx.indexS rfl rfl (by decide) (by first | omega | (simp; done)) rfl ?_)
 (refine J.gY rfl rfl rfl ?_)
 (refine Jx.geqI rfl rfl rfl (J.gY rfl rfl rfl ?_))
 (refine Jx.pT rfl rfl rfl ?_)
 (refine Jx.pF rfl rfl rfl ?_)
 (refine J.nil (N.seq (W.cF rfl ?_)))
 (refine W.skip (N.seq (W.seq (W.region (Jx.assign rfl rfl (J.nil (N.seq (W.seq (W.seq (W.region (Jx.move rfl rfl (Jx.lenS rfl rfl ?_))))))))))))
 (refine Jx.move rfl rfl (J.nil (N.seq (W.block ?_))))
 (refine id ?_; rotate_left))
        refine W.loop (α := Nat) (fun i => [(58, int i), (57, int bs.length), (7, int (valB (bs.take i) : Int)), (6, str bs)]) (fun _ => [rdO b ⟨s, a + 1 + x.toNat, 0⟩]) (fun i => i ≤ bs.length) (fun i => bs.length - i) 0 (by omega) rfl ⟨ref0 rfl, ref0 rfl, ref0 rfl, ref0 rfl, trivial⟩ ?_
        intro i hi
        by_cases hi1 : i < bs.length
        · have hst := valB_take bs i hi1
          have hmo := valB_mono bs (bs.length - (i + 1)) (i + 1) (by omega)
          have hbb := (bs.getD i 0).toNat_lt
          focus (
 (refine W.seq (W.region (Jx.lssI rfl rfl rfl (J.nil (N.seq (W.seq (W.cT rfl ?_)))))))
 (refine W.skip (N.seq (W.seq (W.block (W.seq (W.region (Jx.move rfl rfl (Jx.assign rfl rfl (J.nil (N.seq (W.region (Jx.move rfl rfl (Jx.shl8 rfl rfl (by omega) rfl ?_)))))))))))))
 (refine Jx.move rfl rfl (Jx.move rfl rfl (Jx.indexS rfl rfl (by omega) (by omega) rfl ?_)))
 (refine Jx.byteNum rfl rfl rfl ?_)
 (refine Jx.orByte (b := (bs.getD i 0).toNat) rfl rfl hbb (by omega) rfl ?_)
 (refine Jx.assign rfl rfl (J.nil (N.seq (W.region (Jx.add64 rfl rfl (by omega) rfl ?_)))))
 (refine Jx.move rfl rfl (J.nil ?_))
 (refine id ?_; rotate_left))
          exact N.round (i + 1) hi1 (by omega) rfl ⟨ref0 rfl, ref0 rfl, ⟨_, rfl, Sub.of_eq (by rw [hst])⟩, ref0 rfl, trivial⟩
        · have hie : bs.take i = bs := List.take_of_length_le (by omega)
          focus (
 (refine W.seq (W.region (Jx.lssI rfl rfl rfl (J.nil (N.seq (W.seq (W.cF rfl ?_)))))))
 (refine W.exit (N.seq (W.seq (W.region (Jx.move rfl rfl (Jx.assign rfl rfl (Jx.assign rfl rfl (J.nil (N.seq (W.ret ?_))))))))))
 (refine id ?_; rotate_left))
          exact N.ret (rs := [.tmp 2, .tmp 3]) rfl (.tmp rfl (.tmp rfl .nil)) ⟨⟨s, a + 1 + x.toNat, 0⟩, ⟨by rw [hie]; rfl, rfl, rfl, fun _ => by simp only; omega⟩, rfl⟩
      · refine FnC.intro Tryd.func67 rfl Tryd.ntmps67 rfl fun Z w0 hG => ?_
        focus (
 (refine W.seq (W.region (Jx.assign rfl rfl (Jx.assign rfl rfl (J.nil (N.seq (W.seq (W.seq (W.region (Jx.move rfl rfl (Jx.nilCheck rfl rfl ?_)))))))))))
 (refine Jx.fieldAddr rfl rfl ?_)
 (refine Jx.load rfl 0 rfl rfl rfl ?_)
 (refine Jx.neqI rfl rfl rfl (J.nil (N.seq (W.cF rfl ?_))))
 (refine W.skip (N.seq (W.seq (W.region (Jx.move rfl rfl ?_)))))
 (refine J.call (c0) rfl (evs_args rfl) rfl ?_; rintro _ _ ⟨rfl, rfl⟩; simp only [la1, la2, la3])
 (refine Jx.move rfl rfl (Jx.extract rfl rfl rfl ?_))
 (refine Jx.extract rfl rfl rfl ?_)
 (refine Jx.assign rfl rfl (Jx.assign rfl rfl (J.nil (N.seq (W.seq (W.seq (W.region (Jx.move rfl rfl (Jx.not rfl rfl (J.nil (N.seq (W.cF rfl ?_))))))))))))
 (refine W.skip (N.seq (W.seq (W.seq (W.region (Jx.move rfl rfl (Jx.indexS rfl rfl (by decide) (by first | omega | (simp; done)) rfl ?_)))))))
 (refine Jx.gtrI rfl rfl rfl (J.nil (N.seq (W.cF rfl ?_))))
 (refine W.skip (N.seq (W.seq (W.region (Jx.move rfl rfl (Jx.move rfl rfl (Jx.indexS rfl rfl (by decide) (by first | omega | (simp; done)) rfl ?_)))))))
 (refine Jx.byteNum rfl rfl rfl ?_)
 (refine J.call (c1) rfl (evs_args rfl) rfl ?_; rintro _ _ ⟨rfl, rfl⟩; simp only [la1, la2, la3])
 (refine Jx.move rfl rfl (Jx.extract rfl rfl rfl ?_))
 (refine Jx.extract rfl rfl rfl ?_)
 (refine Jx.assign rfl rfl (Jx.assign rfl rfl (J.nil (N.seq (W.seq (W.seq (W.region (Jx.move rfl rfl (Jx.not rfl rfl (J.nil (N.seq (W.cF rfl ?_))))))))))))
 (refine W.skip (N.seq (W.seq (W.seq (W.region (Jx.move rfl rfl (Jx.lenS rfl rfl ?_)))))))
 (refine Jx.gtrI rfl rfl rfl (Jx.move rfl rfl (J.gY rfl rfl rfl ?_)))
 (refine Jx.move rfl rfl (J.gY rfl rfl rfl ?_))
 (refine Jx.indexS rfl rfl (by decide) (by first | omega | (simp; done)) rfl ?_)
 (refine J.gY rfl rfl rfl ?_)
 (refine Jx.eqlI rfl rfl rfl (Jx.pT rfl rfl rfl ?_))
 (refine Jx.move rfl rfl (J.gY rfl rfl rfl ?_))
 (refine Jx.move rfl rfl (J.gY rfl rfl rfl ?_))
 (refine Jx.lenS rfl rfl ?_)
 (refine J.gY rfl rfl rfl ?_)
 (refine Jx.eqlI rfl rfl rfl (J.gY rfl rfl rfl ?_))
 (refine Jx.move rfl rfl ?_)
 (refine J.guardNo rfl rfl rfl (by first | rfl | assumption | (exact decide_eq_true (by first | assumption | omega | rfl)) | (exact decide_eq_false (by first | assumption | omega | rfl)) | (simp; done) | (simp; omega)) rfl ?_)
 (refine J.guardNo rfl rfl rfl (by first | rfl | assumption | (exact decide_eq_true (by first | assumption | omega | rfl)) | (exact decide_eq_false (by first | assumption | omega | rfl)) | (simp; done) | (simp; omega)) rfl ?_)
 (refine J.guardNo rfl rfl rfl (by first | rfl | assumption | (exact decide_eq_true (by first | assumption | omega | rfl)) | (exact decide_eq_false (by first | assumption | omega | rfl)) | (simp; done) | (simp; omega)) rfl ?_)
 (refine J.gY rfl rfl rfl ?_)
 (refine Jx.pF rfl rfl rfl ?_)
 (refine Jx.pF rfl rfl rfl ?_)
 (refine J.nil (N.seq (W.cF rfl ?_)))
 (refine W.skip (N.seq (W.seq (W.region (Jx.assign rfl rfl (J.nil (N.seq (W.seq (W.seq (W.region (Jx.move rfl rfl (Jx.lenS rfl rfl ?_))))))))))))
 (refine Jx.move rfl rfl (J.nil (N.seq (W.block ?_))))
 (refine id ?_; rotate_left))
        refine W.loop (α := Nat) (fun i => [(58, int i), (57, int bs.length), (7, int (valB (bs.take i) : Int)), (6, str bs)]) (fun _ => [rdO b ⟨s, a + 1 + x.toNat, 0⟩]) (fun i => i ≤ bs.length) (fun i => bs.length - i) 0 (by omega) rfl ⟨ref0 rfl, ref0 rfl, ref0 rfl, ref0 rfl, trivial⟩ ?_
        intro i hi
        by_cases hi1 : i < bs.length
        · have hst := valB_take bs i hi1
          have hmo := valB_mono bs (bs.length - (i + 1)) (i + 1) (by omega)
          have hbb := (bs.getD i 0).toNat_lt
          focus (
 (refine W.seq (W.region (Jx.lssI rfl rfl rfl (J.nil (N.seq (W.seq (W.cT rfl ?_)))))))
 (refine W.skip (N.seq (W.seq (W.block (W.seq (W.region (Jx.move rfl rfl (Jx.assign rfl rfl (J.nil (N.seq (W.region (Jx.move rfl rfl (Jx.shl8 rfl rfl (by omega) rfl ?_)))))))))))))
 (refine Jx.move rfl rfl (Jx.move rfl rfl (Jx.indexS rfl rfl (by omega) (by omega) rfl ?_)))
 (refine Jx.byteNum rfl rfl rfl ?_)
 (refine Jx.orByte (b := (bs.getD i 0).toNat) rfl rfl hbb (by omega) rfl ?_)
 (refine Jx.assign rfl rfl (J.nil (N.seq (W.region (Jx.add64 rfl rfl (by omega) rfl ?_)))))
 (refine Jx.move rfl rfl (J.nil ?_))
 (refine id ?_; rotate_left))
          exact N.round (i + 1) hi1 (by omega) rfl ⟨ref0 rfl, ref0 rfl, ⟨_, rfl, Sub.of_eq (by rw [hst])⟩, ref0 rfl, trivial⟩
        · have hie : bs.take i = bs := List.take_of_length_le (by omega)
          focus (
 (refine W.seq (W.region (Jx.lssI rfl rfl rfl (J.nil (N.seq (W.seq (W.cF rfl ?_)))))))
 (refine W.exit (N.seq (W.seq (W.region (Jx.move rfl rfl (Jx.assign rfl rfl (Jx.assign rfl rfl (J.nil (N.seq (W.ret ?_))))))))))
 (refine id ?_; rotate_left))
          exact N.ret (rs := [.tmp 2, .tmp 3]) rfl (.tmp rfl (.tmp rfl .nil)) ⟨⟨s, a + 1 + x.toNat, 0⟩, ⟨by rw [hie]; rfl, rfl, rfl, fun _ => by simp only; omega⟩, rfl⟩
end Go.Proofs.YtbdkenlkimiddaaDoor
namespace Go.Proofs.YtbdkenlkimiddaaDoor
open Go Go.Sse
set_option linter.unusedVariables false
set_option linter.unusedSimpArgs false
set_option maxRecDepth 10000
theorem number_code (b : Nat) (r : Rdr) (hc : r.code ≠ 0) : FnC Tryd.prog 67 [ptr b] [rdO b r] (fun s L => s = .tup [int 0, int r.code] ∧ L = [rdO b r]) := by
  refine FnC.intro Tryd.func67 rfl Tryd.ntmps67 rfl fun Z w0 hG => ?_
  focus (
 (refine W.seq (W.region (Jx.assign rfl rfl (Jx.assign rfl rfl (J.nil (N.seq (W.seq (W.seq (W.region (Jx.move rfl rfl (Jx.nilCheck rfl rfl ?_)))))))))))
 (refine Jx.fieldAddr rfl rfl ?_)
 (refine Jx.load rfl 0 rfl rfl rfl ?_)
 (refine Jx.neqI rfl rfl rfl (J.nil (N.seq (W.cT rfl ?_))))
 (refine W.seq ?_)
 (refine W.draw follows ?_)
 (refine JD.calm rfl (by decide +kernel) ?_)
 (refine Cx.move rfl rfl ?_)
 (refine Cx.nilCheck rfl rfl ?_)
 (refine Cx.fieldAddr rfl rfl ?_)
 (refine Cx.load rfl 0 rfl rfl rfl ?_)
 (refine Cx.assign rfl rfl ?_)
 (refine Cx.assign rfl rfl ?_)
 (refine SegC.nil ?_)
 (refine N.seq (W.ret (N.seqRet ?_)))
 (refine id ?_; rotate_left))
  exact N.ret (rs := [.tmp 2, .tmp 3]) rfl (.tmp rfl (.tmp rfl .nil)) ⟨rfl, rfl⟩
end Go.Proofs.YtbdkenlkimiddaaDoor
namespace Go.Proofs.YtbdkenlkimiddaaDoor
open Go Go.Sse
set_option linter.unusedVariables false
set_option linter.unusedSimpArgs false
set_option maxRecDepth 10000
theorem valB_be : ∀ (n : Nat), valB (be n) = n := by
  intro n
  induction n using Nat.strongRecOn with
  | _ n ih =>
    by_cases h : n = 0
    · subst h; rw [be_zero]; rfl
    · rw [be_pos (by omega), valB_snoc, ih (n / 256) (by omega)]
      simp only [UInt8.toNat_ofNat']
      omega
theorem valB_pos : ∀ (k : Nat) (l : List UInt8), l.length = k → 0 < (l.getD 0 0).toNat → 0 < valB l
  | k, [], _, h => by simp at h
  | k, b :: l, _, h => by
    rw [valB_cons l.length b l rfl]
    simp only [List.getD_cons_zero] at h
    have : 0 < b.toNat * 256 ^ l.length := Nat.mul_pos h (Nat.pow_pos (by omega))
    omega
theorem be_valB : ∀ (k : Nat) (l : List UInt8), l.length = k → (0 < k → 0 < (l.getD 0 0).toNat) → be (valB l) = l
  | 0, l, h, _ => by rw [List.eq_nil_of_length_eq_zero h]; simp only [valB, List.foldl_nil]; exact be_zero
  | k + 1, l, h, hp => by
    obtain ⟨m, c, rfl⟩ : ∃ m c, l = m ++ [c] := ⟨l.dropLast, l.getLast (by intro e; subst e; simp at h), (List.dropLast_concat_getLast _).symm⟩
    have hml : m.length = k := by simpa using h
    have hpos := valB_pos (k + 1) (m ++ [c]) h (hp (by omega))
    have hc := c.toNat_lt
    have ih := be_valB k m hml (fun hk => by
      have := hp (by omega)
      rw [List.getD_eq_getElem?_getD, List.getElem?_append_left (by omega)] at this
      rw [List.getD_eq_getElem?_getD]; exact this)
    rw [be_pos hpos, valB_snoc]
    have e1 : (valB m * 256 + c.toNat) / 256 = valB m := by omega
    have e2 : (valB m * 256 + c.toNat) % 256 = c.toNat := by omega
    rw [e1, e2, ih]
    congr 2
    apply UInt8.toNat_inj.1
    simp
theorem readN_good {s : List UInt8} (h : (readN s).2.2 = 0) : s.take (readN s).2.1 = numB (readN s).1 ∧ (readN s).2.1 ≤ s.length ∧ (readN s).1 < 9223372036854775808 := by
  cases s with
  | nil => simp [readN] at h
  | cons x t =>
    have h8 : ¬ 8 < x.toNat := fun h' => by simp [readN, h'] at h
    have hs : ¬ t.length < x.toNat := fun h' => by simp [readN, h8, h'] at h
    have hgood : ¬ ((0 < x.toNat ∧ (t.getD 0 0).toNat = 0) ∨ (x.toNat = 8 ∧ 128 ≤ (t.getD 0 0).toNat)) := fun h' => by
      simp only [readN, if_neg h8, if_neg hs, if_pos h'] at h; cases h
    have hr : readN (x :: t) = (valB (t.take x.toNat), 1 + x.toNat, 0) := by simp only [readN, if_neg h8, if_neg hs, if_neg hgood]
    rw [hr]
    have hl : (t.take x.toNat).length = x.toNat := by rw [List.length_take]; omega
    have hbe := be_valB x.toNat (t.take x.toNat) hl (fun h0 => by rw [getD_take0 t _ h0]; omega)
    refine ⟨?_, by simp only [List.length_cons]; omega, val_bound t x.toNat (by omega) (by omega) (fun h' => hgood (.inr h'))⟩
    simp only [numB, hbe, hl]
    rw [Nat.add_comm 1, List.take_succ_cons]
    congr 1
    apply UInt8.toNat_inj.1
    simp
theorem readN_num (n : Nat) (hn : n < 9223372036854775808) (r : List UInt8) : readN (numB n ++ r) = (n, (numB n).length, 0) := by
  have h8 := be_len8 (n := n) (by omega)
  have hx : (UInt8.ofNat (be n).length).toNat = (be n).length := by simp only [UInt8.toNat_ofNat']; omega
  have htk : (be n ++ r).take (be n).length = be n := by rw [List.take_append_of_le_length (Nat.le_refl _), List.take_length]
  simp only [numB, List.cons_append, readN, hx, List.length_append, htk, valB_be, List.length_cons]
  rw [if_neg (by omega), if_neg (by omega), if_neg]
  · rw [Nat.add_comm]
  · by_cases h0 : n = 0
    · subst h0; rw [be_zero]; simp
    · have hpos : 0 < (be n).length := by rw [be_pos (by omega), List.length_append]; simp
      have hg : (be n ++ r).getD 0 0 = (be n).getD 0 0 := by
        rw [List.getD_eq_getElem?_getD, List.getElem?_append_left hpos, List.getD_eq_getElem?_getD]
      rw [hg]
      have hv := valB_be n
      cases hb : be n with
      | nil => rw [hb] at hpos; simp at hpos
      | cons x t =>
        rw [hb] at hv
        rw [valB_cons t.length x t rfl] at hv
        have ht := valB_lt t.length t rfl
        simp only [List.getD_cons_zero, List.length_cons]
        rintro (⟨_, hx0⟩ | ⟨h88, hx1⟩)
        · rw [hx0, Nat.zero_mul, Nat.zero_add] at hv
          have h9 : (be n).length ≤ t.length := be_len t.length n (by omega)
          rw [hb, List.length_cons] at h9; omega
        · have : t.length = 7 := by omega
          rw [this] at hv
          have : 128 * 256 ^ 7 ≤ x.toNat * 256 ^ 7 := Nat.mul_le_mul_right _ hx1
          omega
end Go.Proofs.YtbdkenlkimiddaaDoor
namespace Go.Proofs.YtbdkenlkimiddaaDoor
open Go Go.Sse
set_option linter.unusedVariables false
set_option linter.unusedSimpArgs false
set_option maxRecDepth 10000
theorem bytes_back (b : Nat) (s : List UInt8) (a n : Nat) (h : Rdr.ok ⟨s, a, 0⟩) (hn : a + n ≤ s.length) :
    FnC Tryd.prog 51 [ptr b, int n] [rdO b ⟨s, a, 0⟩] (fun v L => v = str ((s.drop a).take n) ∧ L = [rdO b ⟨s, a + n, 0⟩]) := by
  have c := take_yes b ⟨s, a, 0⟩ n h hn
  simp only at c
  generalize (s.drop a).take n = t at *
  refine FnC.intro Tryd.func51 rfl Tryd.ntmps51 rfl fun Z w0 hG => ?_
  focus (
 (refine W.seq (W.region (Jx.assign rfl rfl (J.nil (N.seq (W.seq (W.seq (W.region (Jx.move rfl rfl (Jx.nilCheck rfl rfl ?_))))))))))
 (refine Jx.fieldAddr rfl rfl ?_)
 (refine Jx.load rfl 0 rfl rfl rfl ?_)
 (refine Jx.neqI rfl rfl rfl (J.nil (N.seq (W.cF rfl ?_))))
 (refine W.skip (N.seq (W.seq (W.seq (W.region (Jx.move rfl rfl (Jx.lssI rfl rfl rfl (J.nil (N.seq (W.cF rfl ?_))))))))))
 (refine W.skip (N.seq (W.seq (W.region (Jx.move rfl rfl (Jx.move rfl rfl ?_))))))
 (refine J.call (c) rfl (evs_args rfl) rfl ?_; rintro _ _ ⟨rfl, rfl⟩; simp only [la1, la2, la3])
 (refine Jx.move rfl rfl (Jx.extract rfl rfl rfl ?_))
 (refine Jx.extract rfl rfl rfl ?_)
 (refine Jx.assign rfl rfl (Jx.assign rfl rfl (J.nil (N.seq (W.seq (W.seq (W.region (Jx.move rfl rfl (Jx.not rfl rfl (J.nil (N.seq (W.cF rfl ?_))))))))))))
 (refine W.skip (N.seq (W.seq (W.region (Jx.move rfl rfl (Jx.assign rfl rfl (J.nil (N.seq (W.ret ?_)))))))))
 (refine id ?_; rotate_left))
  exact N.ret (rs := [.tmp 4]) rfl (.tmp rfl .nil) ⟨rfl, rfl⟩
theorem same_ok (l m : List (List UInt8)) (hb : l.length ≤ 1048576) : FnC Tryd.prog 34 [ssl l, ssl m] [] (fun v L => v = bool (decide (l = m)) ∧ L = []) := by
  by_cases hl : l.length = m.length
  · refine FnC.intro Tryd.func34 rfl Tryd.ntmps34 rfl fun Z w0 hG => ?_
    focus (
 (refine W.seq (W.region (Jx.assign rfl rfl (J.nil (N.seq (W.seq (W.region (Jx.move rfl rfl (Jx.lenSl rfl rfl ?_)))))))))
 (refine Jx.move rfl rfl (Jx.lenSl rfl rfl ?_))
 (refine Jx.eqlI rfl rfl rfl (Jx.assign rfl rfl (J.nil (N.seq (W.seq (W.seq (W.region (Jx.assign rfl rfl (J.nil (N.seq (W.block ?_)))))))))))
 (refine id ?_; rotate_left))
    refine W.loop (α := Nat × Bool) (fun x => [(6, int (x.1 : Int)), (5, bool x.2), (0, ssl l), (1, ssl m)]) (fun _ => []) (fun x => x.1 ≤ l.length ∧ (x.2 = true → l.take x.1 = m.take x.1) ∧ (x.2 = false → l ≠ m)) (fun x => l.length - x.1) (0, true) ⟨by omega, by simp, by simp⟩ rfl ⟨ref0 rfl, ⟨_, rfl, Sub.of_eq (by simp [hl])⟩, ref0 rfl, ref0 rfl, trivial⟩ ?_
    rintro ⟨i, q⟩ ⟨hi, h1, h2⟩
    simp only at hi h1 h2
    cases q with
    | false =>
      focus (
 (refine W.seq (W.seq (W.region (Jx.move rfl rfl (Jx.move rfl rfl (J.gN rfl rfl rfl rfl ?_))))))
 (refine J.gN rfl rfl rfl rfl ?_)
 (refine J.gN rfl rfl rfl rfl ?_)
 (refine J.gN rfl rfl rfl rfl ?_)
 (refine Jx.pF rfl rfl rfl ?_)
 (refine J.nil (N.seq (W.cF rfl ?_)))
 (refine W.exit (N.seq (W.seq (W.region (Jx.move rfl rfl (Jx.assign rfl rfl (J.nil (N.seq (W.ret ?_)))))))))
 (refine id ?_; rotate_left))
      exact N.ret (rs := [.tmp 4]) rfl (.tmp rfl .nil) ⟨by rw [decide_eq_false (h2 rfl)]; rfl, rfl⟩
    | true =>
      by_cases h3 : i < l.length
      · have h4 : i < m.length := by omega
        have e1 : l.take (i + 1) = l.take i ++ [l.getD i []] := by rw [List.take_add_one, List.getElem?_eq_getElem h3, List.getD_eq_getElem?_getD, List.getElem?_eq_getElem h3]; rfl
        have e2 : m.take (i + 1) = m.take i ++ [m.getD i []] := by rw [List.take_add_one, List.getElem?_eq_getElem h4, List.getD_eq_getElem?_getD, List.getElem?_eq_getElem h4]; rfl
        by_cases h5 : l.getD i [] = m.getD i []
        · focus (
 (refine W.seq (W.seq (W.region (Jx.move rfl rfl (Jx.move rfl rfl (J.gY rfl rfl rfl ?_))))))
 (refine Jx.move rfl rfl (J.gY rfl rfl rfl ?_))
 (refine Jx.move rfl rfl (J.gY rfl rfl rfl ?_))
 (refine Jx.lenSl rfl rfl ?_)
 (refine J.gY rfl rfl rfl ?_)
 (refine Jx.lssI rfl rfl rfl (Jx.pT rfl rfl rfl ?_))
 (refine J.nil (N.seq (W.cT rfl ?_)))
 (refine W.skip (N.seq (W.seq (W.block ?_))))
 (refine W.draw follows ?_)
 (refine JD.calm rfl (by decide +kernel) ?_)
 (refine Cx.move rfl rfl ?_)
 (refine Cx.move rfl rfl ?_)
 (refine Cx.indexEl rfl rfl (by assumption) rfl rfl ?_)
 (refine Cx.loadPP rfl rfl ?_)
 (refine Cx.move rfl rfl ?_)
 (refine Cx.move rfl rfl ?_)
 (refine Cx.indexEl rfl rfl (by assumption) rfl rfl ?_)
 (refine Cx.loadPP rfl rfl ?_)
 (refine Cx.eqlS rfl rfl rfl ?_)
 (refine Cx.assign rfl rfl ?_)
 (refine SegC.nil ?_)
 (refine N.seq (W.region (Jx.move rfl rfl (Jx.add64 rfl rfl (by omega) rfl ?_))))
 (refine Jx.assign rfl rfl (J.nil ?_))
 (refine id ?_; rotate_left))
          exact N.round (i + 1, true) ⟨h3, fun _ => by rw [e1, e2, h1 rfl, h5], by simp⟩ (by simp only; omega) rfl ⟨ref0 rfl, ⟨_, rfl, Sub.of_eq (by simp; simpa [List.getD_eq_getElem?_getD] using h5)⟩, ref0 rfl, ref0 rfl, trivial⟩
        · focus (
 (refine W.seq (W.seq (W.region (Jx.move rfl rfl (Jx.move rfl rfl (J.gY rfl rfl rfl ?_))))))
 (refine Jx.move rfl rfl (J.gY rfl rfl rfl ?_))
 (refine Jx.move rfl rfl (J.gY rfl rfl rfl ?_))
 (refine Jx.lenSl rfl rfl ?_)
 (refine J.gY rfl rfl rfl ?_)
 (refine Jx.lssI rfl rfl rfl (Jx.pT rfl rfl rfl ?_))
 (refine J.nil (N.seq (W.cT rfl ?_)))
 (refine W.skip (N.seq (W.seq (W.block ?_))))
 (refine W.draw follows ?_)
 (refine JD.calm rfl (by decide +kernel) ?_)
 (refine Cx.move rfl rfl ?_)
 (refine Cx.move rfl rfl ?_)
 (refine Cx.indexEl rfl rfl (by assumption) rfl rfl ?_)
 (refine Cx.loadPP rfl rfl ?_)
 (refine Cx.move rfl rfl ?_)
 (refine Cx.move rfl rfl ?_)
 (refine Cx.indexEl rfl rfl (by assumption) rfl rfl ?_)
 (refine Cx.loadPP rfl rfl ?_)
 (refine Cx.eqlS rfl rfl rfl ?_)
 (refine Cx.assign rfl rfl ?_)
 (refine SegC.nil ?_)
 (refine N.seq (W.region (Jx.move rfl rfl (Jx.add64 rfl rfl (by omega) rfl ?_))))
 (refine Jx.assign rfl rfl (J.nil ?_))
 (refine id ?_; rotate_left))
          exact N.round (i + 1, false) ⟨h3, by simp, fun _ e => h5 (by rw [e])⟩ (by simp only; omega) rfl ⟨ref0 rfl, ⟨_, rfl, Sub.of_eq (by simp; simpa [List.getD_eq_getElem?_getD] using h5)⟩, ref0 rfl, ref0 rfl, trivial⟩
      · have e := h1 rfl
        rw [List.take_of_length_le (by omega), List.take_of_length_le (by omega)] at e
        focus (
 (refine W.seq (W.seq (W.region (Jx.move rfl rfl (Jx.move rfl rfl (J.gY rfl rfl rfl ?_))))))
 (refine Jx.move rfl rfl (J.gY rfl rfl rfl ?_))
 (refine Jx.move rfl rfl (J.gY rfl rfl rfl ?_))
 (refine Jx.lenSl rfl rfl ?_)
 (refine J.gY rfl rfl rfl ?_)
 (refine Jx.lssI rfl rfl rfl (Jx.pT rfl rfl rfl ?_))
 (refine J.nil (N.seq (W.cF rfl ?_)))
 (refine W.exit (N.seq (W.seq (W.region (Jx.move rfl rfl (Jx.assign rfl rfl (J.nil (N.seq (W.ret ?_)))))))))
 (refine id ?_; rotate_left))
        exact N.ret (rs := [.tmp 4]) rfl (.tmp rfl .nil) ⟨by rw [decide_eq_true e]; rfl, rfl⟩
  · have hne : l ≠ m := fun e => hl (by rw [e])
    refine FnC.intro Tryd.func34 rfl Tryd.ntmps34 rfl fun Z w0 hG => ?_
    focus (
 (refine W.seq (W.region (Jx.assign rfl rfl (J.nil (N.seq (W.seq (W.region (Jx.move rfl rfl (Jx.lenSl rfl rfl ?_)))))))))
 (refine Jx.move rfl rfl (Jx.lenSl rfl rfl ?_))
 (refine Jx.eqlI rfl rfl rfl (Jx.assign rfl rfl (J.nil (N.seq (W.seq (W.seq (W.region (Jx.assign rfl rfl (J.nil (N.seq (W.block ?_)))))))))))
 (refine id ?_; rotate_left))
    refine W.loop (α := Unit) (fun x => [(5, bool false)]) (fun _ => []) (fun x => True) (fun x => 0) () trivial rfl ⟨⟨_, rfl, Sub.of_eq (by simp; omega)⟩, trivial⟩ ?_
    rintro _ _
    focus (
 (refine W.seq (W.seq (W.region (Jx.move rfl rfl (Jx.move rfl rfl (J.gN rfl rfl rfl rfl ?_))))))
 (refine J.gN rfl rfl rfl rfl ?_)
 (refine J.gN rfl rfl rfl rfl ?_)
 (refine J.gN rfl rfl rfl rfl ?_)
 (refine Jx.pF rfl rfl rfl ?_)
 (refine J.nil (N.seq (W.cF rfl ?_)))
 (refine W.exit (N.seq (W.seq (W.region (Jx.move rfl rfl (Jx.assign rfl rfl (J.nil (N.seq (W.ret ?_)))))))))
 (refine id ?_; rotate_left))
    exact N.ret (rs := [.tmp 4]) rfl (.tmp rfl .nil) ⟨by rw [decide_eq_false hne]; rfl, rfl⟩
end Go.Proofs.YtbdkenlkimiddaaDoor
namespace Go.Proofs.YtbdkenlkimiddaaDoor
open Go Go.Sse
set_option linter.unusedVariables false
set_option linter.unusedSimpArgs false
set_option maxRecDepth 10000
end Go.Proofs.YtbdkenlkimiddaaDoor
namespace Go.Proofs.YtbdkenlkimiddaaDoor
open Go Go.Sse
set_option linter.unusedVariables false
set_option linter.unusedSimpArgs false
set_option maxRecDepth 10000
abbrev PSt := Option (List UInt8)
def numP : PSt → Nat × PSt
  | none => (0, none)
  | some l => if (readN l).2.2 = 0 then ((readN l).1, some (l.drop (readN l).2.1)) else (0, none)
def bytesP (n : Nat) : PSt → List UInt8 × PSt
  | none => ([], none)
  | some l => if n ≤ l.length then (l.take n, some (l.drop n)) else ([], none)
def textP (m : Int) (st : PSt) : List UInt8 × PSt :=
  match numP st with
  | (n, some r) => if (n : Int) ≤ m then bytesP n (some r) else ([], none)
  | (_, none) => ([], none)
def textsP (e : Int) : Nat → PSt → List (List UInt8) × PSt
  | 0, st => ([], st)
  | n + 1, st => match textP e st with
    | (t, some r) => (match textsP e n (some r) with
      | (ts, some q) => (t :: ts, some q)
      | (_, none) => ([], none))
    | (_, none) => ([], none)
def listP (m e : Int) (st : PSt) : List (List UInt8) × PSt :=
  match numP st with
  | (n, some r) => if (n : Int) ≤ m then textsP e n (some r) else ([], none)
  | (_, none) => ([], none)
theorem numP_good {st : PSt} {n : Nat} {r : List UInt8} (h : numP st = (n, some r)) : st = some (numB n ++ r) ∧ n < 9223372036854775808 := by
  cases st with
  | none => simp [numP] at h
  | some l =>
    simp only [numP] at h
    by_cases he : (readN l).2.2 = 0
    · rw [if_pos he] at h
      obtain ⟨g1, g2, g3⟩ := readN_good he
      simp only [Prod.mk.injEq, Option.some.injEq] at h
      obtain ⟨rfl, rfl⟩ := h
      exact ⟨by rw [← g1, List.take_append_drop], g3⟩
    · rw [if_neg he] at h; simp at h
theorem numP_back (n : Nat) (hn : n < 9223372036854775808) (r : List UInt8) : numP (some (numB n ++ r)) = (n, some r) := by
  simp only [numP, readN_num n hn r, if_pos, List.drop_append_of_le_length (Nat.le_refl _), List.drop_length, List.nil_append]
theorem bytesP_good {st : PSt} {n : Nat} {t r : List UInt8} (h : bytesP n st = (t, some r)) : st = some (t ++ r) ∧ t.length = n := by
  cases st with
  | none => simp [bytesP] at h
  | some l =>
    simp only [bytesP] at h
    by_cases he : n ≤ l.length
    · rw [if_pos he] at h
      simp only [Prod.mk.injEq, Option.some.injEq] at h
      obtain ⟨rfl, rfl⟩ := h
      exact ⟨by rw [List.take_append_drop], by rw [List.length_take]; omega⟩
    · rw [if_neg he] at h; simp at h
theorem bytesP_back (t r : List UInt8) : bytesP t.length (some (t ++ r)) = (t, some r) := by
  simp [bytesP]
theorem textP_good {m : Int} {st : PSt} {t r : List UInt8} (h : textP m st = (t, some r)) : st = some (textB t ++ r) ∧ (t.length : Int) ≤ m ∧ t.length < 9223372036854775808 := by
  unfold textP at h
  split at h
  · rename_i n q hq
    obtain ⟨g1, g2⟩ := numP_good hq
    split at h
    · rename_i hm
      obtain ⟨g3, g4⟩ := bytesP_good h
      subst g4
      simp only [Option.some.injEq] at g3
      subst g3
      exact ⟨by rw [g1, textB, List.append_assoc], hm, g2⟩
    · simp at h
  · simp at h
theorem textP_back {m : Int} (t r : List UInt8) (h : (t.length : Int) ≤ m) (h2 : t.length < 9223372036854775808) : textP m (some (textB t ++ r)) = (t, some r) := by
  unfold textP
  rw [textB, List.append_assoc, numP_back _ h2]
  simp only [h, if_true]
  exact bytesP_back t r
theorem textsP_good {e : Int} : ∀ {n : Nat} {st : PSt} {l : List (List UInt8)} {r : List UInt8}, textsP e n st = (l, some r) → st = some ((l.map textB).flatten ++ r) ∧ l.length = n ∧ (∀ t ∈ l, (t.length : Int) ≤ e ∧ t.length < 9223372036854775808)
  | 0, st, l, r, h => by
    simp only [textsP, Prod.mk.injEq] at h
    obtain ⟨rfl, rfl⟩ := h
    exact ⟨rfl, rfl, by simp⟩
  | n + 1, st, l, r, h => by
    simp only [textsP] at h
    split at h
    · rename_i t q hq
      split at h
      · rename_i ts q2 hq2
        simp only [Prod.mk.injEq, Option.some.injEq] at h
        obtain ⟨rfl, rfl⟩ := h
        obtain ⟨g1, g2, g3⟩ := textP_good hq
        obtain ⟨g4, g5, g6⟩ := textsP_good hq2
        simp only [Option.some.injEq] at g4
        subst g4
        refine ⟨by rw [g1]; simp only [List.map_cons, List.flatten_cons, List.append_assoc], by simp [g5], ?_⟩
        intro u hu
        rcases List.mem_cons.1 hu with rfl | hu
        · exact ⟨g2, g3⟩
        · exact g6 u hu
      · simp at h
    · simp at h
theorem textsP_back {e : Int} : ∀ (l : List (List UInt8)) (r : List UInt8), (∀ t ∈ l, (t.length : Int) ≤ e ∧ t.length < 9223372036854775808) → textsP e l.length (some ((l.map textB).flatten ++ r)) = (l, some r)
  | [], r, _ => rfl
  | t :: l, r, h => by
    simp only [List.map_cons, List.flatten_cons, List.append_assoc, List.length_cons, textsP]
    have h0 := h t (List.mem_cons_self ..)
    rw [textP_back t _ h0.1 h0.2]
    simp only
    rw [textsP_back l r fun u hu => h u (List.mem_cons_of_mem _ hu)]
theorem textsP_short {e : Int} : ∀ {n : Nat} {st : PSt} {l : List (List UInt8)}, textsP e n st = (l, none) → l = []
  | 0, st, l, h => by simp only [textsP, Prod.mk.injEq] at h; exact h.1.symm
  | n + 1, st, l, h => by
    simp only [textsP] at h
    split at h
    · split at h
      · simp at h
      · simp only [Prod.mk.injEq] at h; exact h.1.symm
    · simp only [Prod.mk.injEq] at h; exact h.1.symm
theorem listP_good {m e : Int} {st : PSt} {l : List (List UInt8)} {r : List UInt8} (h : listP m e st = (l, some r)) : st = some (listB l ++ r) ∧ (l.length : Int) ≤ m ∧ l.length < 9223372036854775808 ∧ (∀ t ∈ l, (t.length : Int) ≤ e ∧ t.length < 9223372036854775808) := by
  unfold listP at h
  split at h
  · rename_i n q hq
    obtain ⟨g1, g2⟩ := numP_good hq
    split at h
    · rename_i hm
      obtain ⟨g3, g4, g5⟩ := textsP_good h
      subst g4
      simp only [Option.some.injEq] at g3
      subst g3
      exact ⟨by rw [g1, listB, List.append_assoc], hm, g2, g5⟩
    · simp at h
  · simp at h
theorem listP_back {m e : Int} (l : List (List UInt8)) (r : List UInt8) (hm : (l.length : Int) ≤ m) (h2 : l.length < 9223372036854775808) (h : ∀ t ∈ l, (t.length : Int) ≤ e ∧ t.length < 9223372036854775808) : listP m e (some (listB l ++ r)) = (l, some r) := by
  unfold listP
  rw [listB, List.append_assoc, numP_back _ h2]
  simp only [hm, if_true]
  exact textsP_back l r h
theorem bytesP_none (n : Nat) : bytesP n none = ([], none) := rfl
end Go.Proofs.YtbdkenlkimiddaaDoor
namespace Go.Proofs.YtbdkenlkimiddaaDoor
open Go Go.Sse
set_option linter.unusedVariables false
set_option linter.unusedSimpArgs false
set_option maxRecDepth 10000
abbrev Bt := List (List UInt8)
def okB (b : Bt) : Bool := decide (b.length ≤ 1024) && (b.all (fun s => decide (s.length ≤ 65536)) && decide ((listB b).length ≤ 524288))
theorem okB_iff (b : Bt) : okB b = true ↔ b.length ≤ 1024 ∧ (∀ s ∈ b, s.length ≤ 65536) ∧ (listB b).length ≤ 524288 := by
  unfold okB; simp only [Bool.and_eq_true, decide_eq_true_eq, List.all_eq_true]
def bodB (b : Bt) : List UInt8 := textB (listB b)
def sum4 (l : List UInt8) : List UInt8 := (Sha.shaS l).take 4
theorem sum4_len (l : List UInt8) : (sum4 l).length = 4 := by rw [sum4, List.length_take, Sha.shaS_len]; rfl
def recB (b : Bt) : List UInt8 := bodB b ++ sum4 (bodB b)
theorem recB_len (b : Bt) : (recB b).length = (bodB b).length + 4 := by rw [recB, List.length_append, sum4_len]
def recR (b : Bt) : List UInt8 × Int := if okB b = true then (recB b, 0) else ([], 2)
theorem bod_len {b : Bt} (h : okB b = true) : (bodB b).length ≤ 524297 ∧ 0 < (bodB b).length := by
  have h1 := ((okB_iff b).1 h).2.2
  have := numB_len (n := (listB b).length) (by omega)
  rw [bodB, textB, List.length_append]; omega
theorem rec_len {b : Bt} (h : okB b = true) : (recB b).length ≤ 524301 ∧ 4 < (recB b).length := by
  have := bod_len h; rw [recB_len]; omega
def nextP (s : List UInt8) : Option (Bt × Nat) :=
  match textP 524288 (some s) with
  | (_, none) => none
  | (list, some r) => if r.length < 4 then none else if sum4 (textB list) = r.take 4 then
      (match listP 1024 65536 (some list) with
      | (b, some []) => some (b, (textB list).length + 4)
      | _ => none) else none
theorem nextP_some {s : List UInt8} {b : Bt} {n : Nat} (h : nextP s = some (b, n)) : okB b = true ∧ n = (recB b).length ∧ ∃ r, s = recB b ++ r := by
  unfold nextP at h
  split at h
  · cases h
  · rename_i list r ht
    obtain ⟨g1, g2, g3⟩ := textP_good ht
    split at h
    · cases h
    · rename_i h4
      split at h
      · rename_i hs
        split at h
        · rename_i b' hl
          simp only [Option.some.injEq, Prod.mk.injEq] at h
          obtain ⟨rfl, rfl⟩ := h
          obtain ⟨e1, e2, e3, e4⟩ := listP_good hl
          simp only [Option.some.injEq, List.append_nil] at e1 g1
          subst e1
          refine ⟨(okB_iff _).2 ⟨by omega, fun s hs => by have := (e4 s hs).1; omega, by omega⟩, by rw [recB_len]; rfl, r.drop 4, ?_⟩
          rw [g1, recB, bodB, hs, List.append_assoc, List.take_append_drop]
        · cases h
      · cases h
theorem nextP_rec {b : Bt} (h : okB b = true) (r : List UInt8) : nextP (recB b ++ r) = some (b, (recB b).length) := by
  obtain ⟨h1, h2, h3⟩ := (okB_iff b).1 h
  have e : recB b ++ r = textB (listB b) ++ (sum4 (bodB b) ++ r) := by rw [recB, bodB, List.append_assoc]
  have ht := textP_back (m := 524288) (listB b) (sum4 (bodB b) ++ r) (by omega) (by omega)
  have hl := listP_back (m := 1024) (e := 65536) b [] (by omega) (by omega) (fun t ht => by have := h2 t ht; omega)
  rw [List.append_nil] at hl
  have h4 : ¬ (sum4 (bodB b) ++ r).length < 4 := by rw [List.length_append, sum4_len]; omega
  have h5 : sum4 (textB (listB b)) = (sum4 (bodB b) ++ r).take 4 := by
    rw [List.take_append_of_le_length (by rw [sum4_len]; omega), List.take_of_length_le (by rw [sum4_len]; omega), bodB]
  unfold nextP
  rw [e, ht]
  simp only
  rw [if_neg h4, if_pos h5, hl]
  simp only
  rw [recB_len, bodB]
def scanF : Nat → List UInt8 → List Bt × Nat
  | 0, _ => ([], 0)
  | f + 1, s => match nextP s with
    | none => ([], 0)
    | some (b, n) => (b :: (scanF f (s.drop n)).1, n + (scanF f (s.drop n)).2)
def scanP (s : List UInt8) : List Bt × Nat := scanF (s.length + 1) s
theorem nextP_le {s : List UInt8} {b : Bt} {n : Nat} (h : nextP s = some (b, n)) : 4 < n ∧ n ≤ s.length := by
  obtain ⟨h1, h2, r, h3⟩ := nextP_some h
  have := rec_len h1
  have h4 := congrArg List.length h3
  simp only [List.length_append] at h4
  omega
theorem scanF_more : ∀ (f g : Nat) (s : List UInt8), s.length < f → s.length < g → scanF f s = scanF g s
  | 0, _, s, h, _ => by omega
  | _ + 1, 0, s, _, h => by omega
  | f + 1, g + 1, s, h1, h2 => by
    unfold scanF
    cases hn : nextP s with
    | none => rfl
    | some p =>
      obtain ⟨b, n⟩ := p
      have := nextP_le hn
      simp only
      rw [scanF_more f g (s.drop n) (by simp; omega) (by simp; omega)]
theorem scanP_none {s : List UInt8} (h : nextP s = none) : scanP s = ([], 0) := by
  unfold scanP scanF; rw [h]
theorem scanP_some {s : List UInt8} {b : Bt} {n : Nat} (h : nextP s = some (b, n)) : scanP s = (b :: (scanP (s.drop n)).1, n + (scanP (s.drop n)).2) := by
  have := nextP_le h
  have e := scanF_more s.length ((s.drop n).length + 1) (s.drop n) (by simp; omega) (by simp)
  unfold scanP
  rw [scanF, h]
  simp only
  rw [e]
def recsB (l : List Bt) : List UInt8 := (l.map recB).flatten
theorem recsB_cons (b : Bt) (l : List Bt) : recsB (b :: l) = recB b ++ recsB l := by simp [recsB]
theorem recsB_append (l m : List Bt) : recsB (l ++ m) = recsB l ++ recsB m := by simp [recsB]
theorem scanP_recs : ∀ (l : List Bt), (∀ b ∈ l, okB b = true) → ∀ r, scanP (recsB l ++ r) = (l ++ (scanP r).1, (recsB l).length + (scanP r).2)
  | [], _, r => by simp [recsB]
  | b :: l, h, r => by
    have hb := h b (List.mem_cons_self ..)
    have ih := scanP_recs l (fun c hc => h c (List.mem_cons_of_mem _ hc)) r
    have hn := nextP_rec hb (recsB l ++ r)
    rw [recsB_cons, List.append_assoc, scanP_some hn, List.drop_append_of_le_length (by omega), List.drop_length, List.nil_append, ih]
    simp only [List.cons_append, List.length_append]
    rw [Nat.add_assoc]
theorem nextP_nil : nextP [] = none := by
  cases h : nextP [] with
  | none => rfl
  | some p => obtain ⟨b, n⟩ := p; have := nextP_le h; simp at this; omega
theorem scanP_nil : scanP [] = ([], 0) := scanP_none nextP_nil
theorem scanP_part {l : List Bt} (h : ∀ b ∈ l, okB b = true) {r : List UInt8} (hr : nextP r = none) : scanP (recsB l ++ r) = (l, (recsB l).length) := by
  rw [scanP_recs l h, scanP_none hr]; simp
end Go.Proofs.YtbdkenlkimiddaaDoor
namespace Go.Proofs.YtbdkenlkimiddaaDoor
open Go Go.Sse
set_option linter.unusedVariables false
set_option linter.unusedSimpArgs false
set_option maxRecDepth 10000
theorem getD_memB {b : Bt} {i : Nat} (h : i < b.length) : b.getD i [] ∈ b := by rw [List.getD_eq_getElem?_getD, List.getElem?_eq_getElem h]; exact List.getElem_mem _
theorem recR_no {b : Bt} (h : ¬ okB b = true) : recR b = ([], 2) := by rw [recR, if_neg h]
theorem recR_yes {b : Bt} (h : okB b = true) : recR b = (recB b, 0) := by rw [recR, if_pos h]
set_option maxHeartbeats 4000000 in
theorem Record_ok (b : Bt) : FnC Tryd.prog 29 [ssl b] [] (fun r L => r = .tup [str (recR b).1, int (recR b).2] ∧ L = []) := by
  by_cases h1 : 1024 < (b.length : Int)
  · rw [recR_no (fun h => by have := ((okB_iff b).1 h).1; omega)]
    refine FnC.intro Tryd.func29 rfl Tryd.ntmps29 rfl fun Z w0 hG => ?_
    focus (
 (refine W.seq (W.region (Jx.assign rfl rfl (Jx.assign rfl rfl (J.nil (N.seq (W.seq (W.seq (W.region (Jx.move rfl rfl (Jx.lenSl rfl rfl ?_)))))))))))
 (refine Jx.gtrI rfl rfl rfl (J.nil (N.seq (W.cT rfl ?_))))
 (refine W.seq (W.region (Jx.assign rfl rfl (Jx.assign rfl rfl (J.nil (N.seq (W.ret (N.noGotoRet ?_))))))))
 (refine id ?_; rotate_left))
    exact N.ret (rs := [.tmp 2, .tmp 3]) rfl (.tmp rfl (.tmp rfl .nil)) ⟨rfl, rfl⟩
  · refine FnC.intro Tryd.func29 rfl Tryd.ntmps29 rfl fun Z w0 hG => ?_
    focus (
 (refine W.seq (W.region (Jx.assign rfl rfl (Jx.assign rfl rfl (J.nil (N.seq (W.seq (W.seq (W.region (Jx.move rfl rfl (Jx.lenSl rfl rfl ?_)))))))))))
 (refine Jx.gtrI rfl rfl rfl (J.nil (N.seq (W.cF rfl ?_))))
 (refine W.skip (N.seq (W.seq (W.seq (W.region (Jx.move rfl rfl (Jx.lenSl rfl rfl ?_)))))))
 (refine Jx.move rfl rfl (J.nil (N.seq (W.block ?_))))
 (refine id ?_; rotate_left))
    refine W.loop (α := Nat) (fun i => [(13, int (i : Int)), (12, int (b.length : Int)), (11, ssl b), (0, ssl b)]) (fun _ => []) (fun i => i ≤ b.length ∧ ∀ s ∈ b.take i, s.length ≤ 65536) (fun i => b.length - i) 0 ⟨by simp, by simp⟩ rfl ⟨ref0 rfl, ref0 rfl, ref0 rfl, ref0 rfl, trivial⟩ ?_
    rintro i ⟨hi, hs⟩
    by_cases h2 : i < b.length
    · by_cases h3 : 65536 < ((b.getD i []).length : Int)
      · rw [recR_no (fun h => by have := ((okB_iff b).1 h).2.1 _ (getD_memB h2); omega)]
        focus (
 (refine W.seq (W.region (Jx.lssI rfl rfl rfl (J.nil (N.seq (W.seq (W.cT rfl ?_)))))))
 (refine W.skip (N.seq (W.seq (W.block (W.seq (W.region (Jx.indexEl rfl rfl (by assumption) rfl rfl ?_)))))))
 (refine Jx.loadPP rfl rfl ?_)
 (refine Jx.assign rfl rfl (J.nil (N.seq (W.seq (W.region (Jx.move rfl rfl (Jx.lenS rfl rfl ?_)))))))
 (refine Jx.gtrI rfl rfl rfl (J.nil (N.seq (W.cT rfl ?_))))
 (refine W.seq (W.region (Jx.assign rfl rfl (Jx.assign rfl rfl (J.nil (N.seq (W.ret (N.noGotoRet (N.noGotoRet (N.noGotoRet (N.noGotoRet (N.noGotoRet ?_))))))))))))
 (refine id ?_; rotate_left))
        exact N.ret (rs := [.tmp 2, .tmp 3]) rfl (.tmp rfl (.tmp rfl .nil)) ⟨rfl, rfl⟩
      · focus (
 (refine W.seq (W.region (Jx.lssI rfl rfl rfl (J.nil (N.seq (W.seq (W.cT rfl ?_)))))))
 (refine W.skip (N.seq (W.seq (W.block (W.seq (W.region (Jx.indexEl rfl rfl (by assumption) rfl rfl ?_)))))))
 (refine Jx.loadPP rfl rfl ?_)
 (refine Jx.assign rfl rfl (J.nil (N.seq (W.seq (W.region (Jx.move rfl rfl (Jx.lenS rfl rfl ?_)))))))
 (refine Jx.gtrI rfl rfl rfl (J.nil (N.seq (W.cF rfl ?_))))
 (refine W.skip (N.seq (W.region (Jx.add64 rfl rfl (by omega) rfl ?_))))
 (refine Jx.move rfl rfl (J.nil ?_))
 (refine id ?_; rotate_left))
        exact N.round (i + 1) ⟨h2, fun s hm => by
          rw [List.take_add_one, List.getElem?_eq_getElem h2] at hm
          rcases List.mem_append.1 hm with hm | hm
          · exact hs s hm
          · simp only [Option.toList_some, List.mem_singleton] at hm
            have : b.getD i [] = b[i] := by rw [List.getD_eq_getElem?_getD, List.getElem?_eq_getElem h2]; rfl
            rw [hm, ← this]; omega⟩ (by omega) rfl ⟨ref0 rfl, ref0 rfl, ref0 rfl, ref0 rfl, trivial⟩
    · obtain rfl : i = b.length := by omega
      rw [List.take_of_length_le (Nat.le_refl _)] at hs
      have c1 := list_ok b (by omega) (fun s hm => by have := hs s hm; omega)
      by_cases h4 : 524288 < ((listB b).length : Int)
      · rw [recR_no (fun h => by have := ((okB_iff b).1 h).2.2; omega)]
        focus (
 (refine W.seq (W.region (Jx.lssI rfl rfl rfl (J.nil (N.seq (W.seq (W.cF rfl ?_)))))))
 (refine W.exit (N.seq (W.seq (W.region (Jx.move rfl rfl ?_)))))
 (refine J.call (c1) rfl (evs_args rfl) rfl ?_; rintro _ _ ⟨rfl, rfl⟩; simp only [la1, la2, la3])
 (refine Jx.assign rfl rfl (J.nil (N.seq (W.seq (W.seq (W.region (Jx.move rfl rfl (Jx.lenS rfl rfl ?_))))))))
 (refine Jx.gtrI rfl rfl rfl (J.nil (N.seq (W.cT rfl ?_))))
 (refine W.seq (W.region (Jx.assign rfl rfl (Jx.assign rfl rfl (J.nil (N.seq (W.ret (N.noGotoRet ?_))))))))
 (refine id ?_; rotate_left))
        exact N.ret (rs := [.tmp 2, .tmp 3]) rfl (.tmp rfl (.tmp rfl .nil)) ⟨rfl, rfl⟩
      · have hok : okB b = true := (okB_iff b).2 ⟨by omega, hs, by omega⟩
        have c2 := text_ok (listB b) (by omega)
        have hbl := bod_len hok
        rw [show textB (listB b) = bodB b from rfl] at c2
        have c3 := Sha.hsum_ok (bodB b) (by omega)
        have h32 := Sha.shaS_len (bodB b)
        rw [recR_yes hok]
        have e : recB b = bodB b ++ (Sha.shaS (bodB b)).take (4 : Int).toNat := rfl
        rw [e]
        have h4l : ((Sha.shaS (bodB b)).take (4 : Int).toNat).length ≤ 4 := by rw [List.length_take]; omega
        generalize Sha.shaS (bodB b) = sh at *
        focus (
 (refine W.seq (W.region (Jx.lssI rfl rfl rfl (J.nil (N.seq (W.seq (W.cF rfl ?_)))))))
 (refine W.exit (N.seq (W.seq (W.region (Jx.move rfl rfl ?_)))))
 (refine J.call (c1) rfl (evs_args rfl) rfl ?_; rintro _ _ ⟨rfl, rfl⟩; simp only [la1, la2, la3])
 (refine Jx.assign rfl rfl (J.nil (N.seq (W.seq (W.seq (W.region (Jx.move rfl rfl (Jx.lenS rfl rfl ?_))))))))
 (refine Jx.gtrI rfl rfl rfl (J.nil (N.seq (W.cF rfl ?_))))
 (refine W.skip (N.seq (W.seq (W.region (Jx.move rfl rfl ?_)))))
 (refine J.call (c2) rfl (evs_args rfl) rfl ?_; rintro _ _ ⟨rfl, rfl⟩; simp only [la1, la2, la3])
 (refine Jx.assign rfl rfl (J.nil (N.seq (W.seq (W.region (Jx.move rfl rfl (Jx.move rfl rfl ?_)))))))
 (refine J.call (c3) rfl (evs_args rfl) rfl ?_; rintro _ _ ⟨rfl, rfl⟩; simp only [la1, la2, la3])
 (refine Jx.sliceSh rfl rfl (by decide) (by rw [h32]; decide) rfl ?_)
 (refine Jx.cat rfl rfl (by first | omega | (simp only [List.length_append, List.length_cons, List.length_nil]; omega)) rfl ?_)
 (refine Jx.assign rfl rfl (Jx.assign rfl rfl (J.nil (N.seq (W.ret ?_)))))
 (refine id ?_; rotate_left))
        exact N.ret (rs := [.tmp 2, .tmp 3]) rfl (.tmp rfl (.tmp rfl .nil)) ⟨rfl, rfl⟩
end Go.Proofs.YtbdkenlkimiddaaDoor
namespace Go.Proofs.YtbdkenlkimiddaaDoor
open Go Go.Sse
set_option linter.unusedVariables false
set_option linter.unusedSimpArgs false
set_option maxRecDepth 10000
def lf (s : List UInt8) (a : Nat) (c : Int) : PSt := if c = 0 then some (s.drop a) else none
theorem lf_ok {s : List UInt8} {a : Nat} : lf s a 0 = some (s.drop a) := rfl
theorem lf_no {s : List UInt8} {a : Nat} {c : Int} (h : c ≠ 0) : lf s a c = none := if_neg h
theorem lf_none {s : List UInt8} {a : Nat} {c : Int} (h : lf s a c = none) : c ≠ 0 := fun e => by subst e; simp [lf] at h
theorem rd_number (b : Nat) (s : List UInt8) (a : Nat) (c : Int) (h1 : a ≤ s.length) (h2 : s.length ≤ 1099511627776) :
    FnC Tryd.prog 67 [ptr b] [rdO b ⟨s, a, c⟩] (fun v L => ∃ (n : Nat) (e : Int) (a' : Nat), v = .tup [int (n : Int), int e] ∧ L = [rdO b ⟨s, a', c⟩] ∧ n < 9223372036854775808 ∧
      (e = 0 → c = 0 ∧ a' ≤ s.length ∧ numP (lf s a c) = (n, some (s.drop a'))) ∧ (e ≠ 0 → numP (lf s a c) = (0, none)) ∧ (c ≠ 0 → a' ≤ s.length)) := by
  by_cases hc : c = 0
  · subst hc
    by_cases he : (readN (s.drop a)).2.2 = 0
    · refine (number_good b ⟨s, a, 0⟩ ⟨h1, h2⟩ rfl he).mono ?_
      rintro v L ⟨⟨s', a', c'⟩, ⟨rfl, hs', hc', ha'⟩, rfl⟩
      simp only at hs' hc' ha'
      obtain ⟨g1, g2, g3⟩ := readN_good he
      have hx := ha' he
      subst hs' hc' hx
      rw [List.length_drop] at g2
      refine ⟨_, _, _, rfl, rfl, g3, fun _ => ⟨rfl, by omega, ?_⟩, fun h => absurd he h, fun h => absurd rfl h⟩
      simp only [numP, lf, if_true, if_pos he, List.drop_drop]
    · refine (number_bad b ⟨s, a, 0⟩ ⟨h1, h2⟩ rfl he).mono ?_
      rintro v L ⟨⟨s', a', c'⟩, ⟨rfl, hs', hc', ha'⟩, rfl⟩
      simp only at hs' hc' ha'
      subst hs' hc'
      have hn : (readN (s'.drop a)).1 = 0 := by
        have : ∀ l, (readN l).2.2 ≠ 0 → (readN l).1 = 0 := fun l hl => by
          cases l with
          | nil => rfl
          | cons x t =>
            simp only [readN] at hl ⊢
            split
            · rfl
            · split
              · rfl
              · split
                · rfl
                · rename_i q1 q2 q3; rw [if_neg q1, if_neg q2, if_neg q3] at hl; exact absurd rfl hl
        exact this _ he
      refine ⟨_, _, _, rfl, rfl, by simp only [hn]; omega, fun h => absurd h he, fun _ => ?_, fun h => absurd rfl h⟩
      simp only [numP, lf, if_true, if_neg he]
  · refine (number_code b ⟨s, a, c⟩ hc).mono ?_
    rintro v L ⟨rfl, rfl⟩
    exact ⟨0, c, a, rfl, rfl, by omega, fun h => absurd h hc, fun _ => by rw [lf_no hc]; rfl, fun _ => h1⟩
theorem rd_refuse (b : Nat) (s : List UInt8) (a : Nat) (c : Int) (n : Nat) (e : Int) (h1 : n ≤ s.length) (he : e ≠ 0) (ha : c ≠ 0 → a ≤ s.length) :
    FnC Tryd.prog 65 [ptr b, int (n : Int), int e] [rdO b ⟨s, a, c⟩] (fun v L => ∃ (a' : Nat) (c' : Int), L = [rdO b ⟨s, a', c'⟩] ∧ a' ≤ s.length ∧ c' ≠ 0) := by
  refine (refused_ok b ⟨s, a, c⟩ n e).mono ?_
  rintro v L rfl
  by_cases hc : c = 0
  · subst hc
    exact ⟨n, e, rfl, h1, he⟩
  · exact ⟨a, c, by simp only [Rdr.refuse, if_neg hc], ha hc, hc⟩
theorem rd_Bytes (b : Nat) (s : List UInt8) (a : Nat) (c : Int) (n : Nat) (h1 : a ≤ s.length) (h2 : s.length ≤ 1099511627776) :
    FnC Tryd.prog 51 [ptr b, int (n : Int)] [rdO b ⟨s, a, c⟩] (fun v L => ∃ (t : List UInt8) (a' : Nat) (c' : Int), v = str t ∧ L = [rdO b ⟨s, a', c'⟩] ∧ a' ≤ s.length ∧ bytesP n (lf s a c) = (t, lf s a' c')) := by
  by_cases hc : c = 0
  · subst hc
    by_cases hn : a + n ≤ s.length
    · refine (bytes_back b s a n ⟨h1, h2⟩ hn).mono ?_
      rintro v L ⟨rfl, rfl⟩
      exact ⟨_, _, _, rfl, rfl, hn, by simp only [bytesP, lf, if_true, List.length_drop, List.drop_drop]; rw [if_pos (by omega)]⟩
    · have c1 := take_no b ⟨s, a, 0⟩ n ⟨h1, h2⟩ (by simp only; omega)
      have c2 := rd_refuse b s a 0 a 20 h1 (by decide) (by intro h; exact absurd rfl h)
      refine FnC.intro Tryd.func51 rfl Tryd.ntmps51 rfl fun Z w0 hG => ?_
      focus (
 (refine W.seq (W.region (Jx.assign rfl rfl (J.nil (N.seq (W.seq (W.seq (W.region (Jx.move rfl rfl (Jx.nilCheck rfl rfl ?_))))))))))
 (refine Jx.fieldAddr rfl rfl ?_)
 (refine Jx.load rfl 0 rfl rfl rfl ?_)
 (refine Jx.neqI rfl rfl rfl (J.nil (N.seq (W.cF rfl ?_))))
 (refine W.skip (N.seq (W.seq (W.seq (W.region (Jx.move rfl rfl (Jx.lssI rfl rfl rfl (J.nil (N.seq (W.cF rfl ?_))))))))))
 (refine W.skip (N.seq (W.seq (W.region (Jx.move rfl rfl (Jx.move rfl rfl ?_))))))
 (refine J.call (c1) rfl (evs_args rfl) rfl ?_; rintro _ _ ⟨rfl, rfl⟩; simp only [la1, la2, la3])
 (refine Jx.move rfl rfl (Jx.extract rfl rfl rfl ?_))
 (refine Jx.extract rfl rfl rfl ?_)
 (refine Jx.assign rfl rfl (Jx.assign rfl rfl (J.nil (N.seq (W.seq (W.seq (W.region (Jx.move rfl rfl (Jx.not rfl rfl (J.nil (N.seq (W.cT rfl ?_))))))))))))
 (refine W.region (Jx.move rfl rfl (Jx.move rfl rfl (Jx.nilCheck rfl rfl ?_))))
 (refine Jx.fieldAddr rfl rfl ?_)
 (refine Jx.load rfl 0 rfl rfl rfl ?_)
 (refine J.call (c2) rfl (evs_args rfl) rfl ?_; rintro _ _ ⟨a', c', rfl, ha', hc'⟩; simp only [la1, la2, la3])
 (refine J.nil (N.seq (W.seq (W.region (Jx.move rfl rfl (Jx.assign rfl rfl (J.nil (N.seq (W.ret ?_)))))))))
 (refine id ?_; rotate_left))
      exact N.ret (rs := [.tmp 4]) rfl (.tmp rfl .nil) ⟨[], a', c', rfl, rfl, ha', by rw [lf_no hc']; simp only [bytesP, lf, if_true, List.length_drop]; rw [if_neg (by omega)]⟩
  · refine FnC.intro Tryd.func51 rfl Tryd.ntmps51 rfl fun Z w0 hG => ?_
    focus (
 (refine W.seq (W.region (Jx.assign rfl rfl (J.nil (N.seq (W.seq (W.seq (W.region (Jx.move rfl rfl (Jx.nilCheck rfl rfl ?_))))))))))
 (refine Jx.fieldAddr rfl rfl ?_)
 (refine Jx.load rfl 0 rfl rfl rfl ?_)
 (refine Jx.neqI rfl rfl rfl (J.nil (N.seq (W.cT rfl ?_))))
 (refine W.seq (W.region (Jx.assign rfl rfl (J.nil (N.seq (W.ret (N.seqRet ?_)))))))
 (refine id ?_; rotate_left))
    exact N.ret (rs := [.tmp 4]) rfl (.tmp rfl .nil) ⟨[], a, c, rfl, rfl, h1, by rw [lf_no hc]; rfl⟩
theorem rd_text (b : Nat) (s : List UInt8) (a : Nat) (c : Int) (m : Int) (h1 : a ≤ s.length) (h2 : s.length ≤ 1099511627776) :
    FnC Tryd.prog 64 [ptr b, int m] [rdO b ⟨s, a, c⟩] (fun v L => ∃ (t : List UInt8) (e : Int) (a' : Nat), v = .tup [str t, int e] ∧ L = [rdO b ⟨s, a', c⟩] ∧
      (e = 0 → c = 0 ∧ a' ≤ s.length ∧ textP m (lf s a c) = (t, some (s.drop a'))) ∧ (e ≠ 0 → textP m (lf s a c) = ([], none))) := by
  have c1 := rd_number b s a c h1 h2
  refine FnC.intro Tryd.func64 rfl Tryd.ntmps64 rfl fun Z w0 hG => ?_
  focus (
 (refine W.seq (W.region (Jx.assign rfl rfl (Jx.assign rfl rfl (J.nil (N.seq (W.seq (W.region (Jx.move rfl rfl ?_)))))))))
 (refine J.call (c1) rfl (evs_args rfl) rfl ?_; rintro _ _ ⟨n, e, a', rfl, rfl, hn, hy, hz, hw⟩; simp only [la1, la2, la3])
 (refine Jx.move rfl rfl (Jx.extract rfl rfl rfl ?_))
 (refine Jx.extract rfl rfl rfl ?_)
 (refine Jx.assign rfl rfl (Jx.assign rfl rfl (J.nil (N.seq (W.seq (W.seq (W.region (Jx.move rfl rfl (Jx.neqI rfl rfl rfl (J.nil (N.seq ?_)))))))))))
 (refine id ?_; rotate_left))
  by_cases he : e = 0
  · obtain ⟨rfl, h3, h4⟩ := hy he
    by_cases hm : m < (n : Int)
    · focus (
 (refine W.cF rfl ?_)
 (refine W.skip (N.seq (W.seq (W.seq (W.region (Jx.move rfl rfl (Jx.move rfl rfl (Jx.gtrI rfl rfl rfl (J.nil (N.seq (W.cT rfl ?_)))))))))))
 (refine W.seq (W.region (Jx.assign rfl rfl (Jx.assign rfl rfl (J.nil (N.seq (W.ret (N.seqRet ?_))))))))
 (refine id ?_; rotate_left))
      refine N.ret (rs := [.tmp 4, .tmp 5]) rfl (.tmp rfl (.tmp rfl .nil)) ⟨[], 2, a', rfl, rfl, by intro h; exact absurd h (by decide), fun _ => ?_⟩
      simp only [textP, h4]
      rw [if_neg (by omega)]
    · by_cases hl : a' + n ≤ s.length
      · have c2 := take_yes b ⟨s, a', 0⟩ n ⟨h3, h2⟩ hl
        simp only at c2
        generalize ht : (s.drop a').take n = t at *
        focus (
 (refine W.cF rfl ?_)
 (refine W.skip (N.seq (W.seq (W.seq (W.region (Jx.move rfl rfl (Jx.move rfl rfl (Jx.gtrI rfl rfl rfl (J.nil (N.seq (W.cF rfl ?_)))))))))))
 (refine W.skip (N.seq (W.seq (W.region (Jx.move rfl rfl (Jx.move rfl rfl ?_))))))
 (refine J.call (c2) rfl (evs_args rfl) rfl ?_; rintro _ _ ⟨rfl, rfl⟩; simp only [la1, la2, la3])
 (refine Jx.move rfl rfl (Jx.extract rfl rfl rfl ?_))
 (refine Jx.extract rfl rfl rfl ?_)
 (refine Jx.assign rfl rfl (Jx.assign rfl rfl (J.nil (N.seq (W.seq (W.seq (W.region (Jx.move rfl rfl (Jx.not rfl rfl (J.nil (N.seq (W.cF rfl ?_))))))))))))
 (refine W.skip (N.seq (W.seq (W.region (Jx.move rfl rfl (Jx.assign rfl rfl (Jx.assign rfl rfl (J.nil (N.seq (W.ret ?_))))))))))
 (refine id ?_; rotate_left))
        refine N.ret (rs := [.tmp 4, .tmp 5]) rfl (.tmp rfl (.tmp rfl .nil)) ⟨t, 0, a' + n, rfl, rfl, fun _ => ⟨by trivial, hl, ?_⟩, by intro h; exact absurd rfl h⟩
        simp only [textP, h4]
        rw [if_pos (by omega)]
        simp only [bytesP, List.length_drop, List.drop_drop, ht]
        rw [if_pos (by omega)]
      · have c2 := take_no b ⟨s, a', 0⟩ n ⟨h3, h2⟩ (by simp only; omega)
        focus (
 (refine W.cF rfl ?_)
 (refine W.skip (N.seq (W.seq (W.seq (W.region (Jx.move rfl rfl (Jx.move rfl rfl (Jx.gtrI rfl rfl rfl (J.nil (N.seq (W.cF rfl ?_)))))))))))
 (refine W.skip (N.seq (W.seq (W.region (Jx.move rfl rfl (Jx.move rfl rfl ?_))))))
 (refine J.call (c2) rfl (evs_args rfl) rfl ?_; rintro _ _ ⟨rfl, rfl⟩; simp only [la1, la2, la3])
 (refine Jx.move rfl rfl (Jx.extract rfl rfl rfl ?_))
 (refine Jx.extract rfl rfl rfl ?_)
 (refine Jx.assign rfl rfl (Jx.assign rfl rfl (J.nil (N.seq (W.seq (W.seq (W.region (Jx.move rfl rfl (Jx.not rfl rfl (J.nil (N.seq (W.cT rfl ?_))))))))))))
 (refine W.seq (W.region (Jx.assign rfl rfl (Jx.assign rfl rfl (J.nil (N.seq (W.ret (N.seqRet ?_))))))))
 (refine id ?_; rotate_left))
        refine N.ret (rs := [.tmp 4, .tmp 5]) rfl (.tmp rfl (.tmp rfl .nil)) ⟨[], 20, a', rfl, rfl, by intro h; exact absurd h (by decide), fun _ => ?_⟩
        simp only [textP, h4]
        rw [if_pos (by omega)]
        simp only [bytesP, List.length_drop]
        rw [if_neg (by omega)]
  · have h4 := hz he
    focus (
 (refine W.cT rfl ?_)
 (refine W.seq (W.region (Jx.move rfl rfl (Jx.assign rfl rfl (Jx.assign rfl rfl (J.nil (N.seq (W.ret (N.seqRet ?_)))))))))
 (refine id ?_; rotate_left))
    refine N.ret (rs := [.tmp 4, .tmp 5]) rfl (.tmp rfl (.tmp rfl .nil)) ⟨[], e, a', rfl, rfl, fun h => absurd h he, fun _ => ?_⟩
    simp only [textP, h4]
theorem rd_Text (b : Nat) (s : List UInt8) (a : Nat) (c : Int) (m : Int) (h1 : a ≤ s.length) (h2 : s.length ≤ 1099511627776) :
    FnC Tryd.prog 49 [ptr b, int m] [rdO b ⟨s, a, c⟩] (fun v L => ∃ (t : List UInt8) (a' : Nat) (c' : Int), v = str t ∧ L = [rdO b ⟨s, a', c'⟩] ∧ a' ≤ s.length ∧ textP m (lf s a c) = (t, lf s a' c')) := by
  by_cases hc : c = 0
  · subst hc
    have c1 := rd_text b s a 0 m h1 h2
    refine FnC.intro Tryd.func49 rfl Tryd.ntmps49 rfl fun Z w0 hG => ?_
    focus (
 (refine W.seq (W.region (Jx.assign rfl rfl (J.nil (N.seq (W.seq (W.region (Jx.move rfl rfl (Jx.nilCheck rfl rfl ?_)))))))))
 (refine Jx.fieldAddr rfl rfl ?_)
 (refine Jx.load rfl 0 rfl rfl rfl ?_)
 (refine Jx.assign rfl rfl (J.nil (N.seq (W.seq (W.region (Jx.move rfl rfl (Jx.move rfl rfl ?_)))))))
 (refine J.call (c1) rfl (evs_args rfl) rfl ?_; rintro _ _ ⟨t, e, a', rfl, rfl, hy, hz⟩; simp only [la1, la2, la3])
 (refine Jx.move rfl rfl (Jx.extract rfl rfl rfl ?_))
 (refine Jx.extract rfl rfl rfl ?_)
 (refine Jx.assign rfl rfl (Jx.assign rfl rfl (J.nil (N.seq (W.seq (W.seq (W.region (Jx.move rfl rfl (Jx.neqI rfl rfl rfl (J.nil (N.seq ?_)))))))))))
 (refine id ?_; rotate_left))
    by_cases he : e = 0
    · obtain ⟨_, h3, h4⟩ := hy he
      focus (
 (refine W.cF rfl ?_)
 (refine W.skip (N.seq (W.seq (W.region (Jx.move rfl rfl (Jx.assign rfl rfl (J.nil (N.seq (W.ret ?_)))))))))
 (refine id ?_; rotate_left))
      exact N.ret (rs := [.tmp 4]) rfl (.tmp rfl .nil) ⟨t, a', 0, rfl, rfl, h3, h4⟩
    · have h4 := hz he
      have c2 := rd_refuse b s a' 0 a e h1 he (by intro h; exact absurd rfl h)
      focus (
 (refine W.cT rfl ?_)
 (refine W.seq (W.region (Jx.move rfl rfl (Jx.move rfl rfl (Jx.move rfl rfl ?_)))))
 (refine J.call (c2) rfl (evs_args rfl) rfl ?_; rintro _ _ ⟨a2, c', rfl, ha', hc'⟩; simp only [la1, la2, la3])
 (refine J.nil (N.seq (W.seq (W.region (Jx.assign rfl rfl (J.nil (N.seq (W.ret (N.seqRet ?_)))))))))
 (refine id ?_; rotate_left))
      exact N.ret (rs := [.tmp 4]) rfl (.tmp rfl .nil) ⟨[], a2, c', rfl, rfl, ha', by rw [lf_no hc', h4]⟩
  · have c1 : FnC Tryd.prog 64 [ptr b, int m] [rdO b ⟨s, a, c⟩] (fun v L => v = .tup [str [], int c] ∧ L = [rdO b ⟨s, a, c⟩]) := by
      have c0 := number_code b ⟨s, a, c⟩ hc
      refine FnC.intro Tryd.func64 rfl Tryd.ntmps64 rfl fun Z w0 hG => ?_
      focus (
 (refine W.seq (W.region (Jx.assign rfl rfl (Jx.assign rfl rfl (J.nil (N.seq (W.seq (W.region (Jx.move rfl rfl ?_)))))))))
 (refine J.call (c0) rfl (evs_args rfl) rfl ?_; rintro _ _ ⟨rfl, rfl⟩; simp only [la1, la2, la3])
 (refine Jx.move rfl rfl (Jx.extract rfl rfl rfl ?_))
 (refine Jx.extract rfl rfl rfl ?_)
 (refine Jx.assign rfl rfl (Jx.assign rfl rfl (J.nil (N.seq (W.seq (W.seq (W.region (Jx.move rfl rfl (Jx.neqI rfl rfl rfl (J.nil (N.seq (W.cT rfl ?_))))))))))))
 (refine W.seq (W.region (Jx.move rfl rfl (Jx.assign rfl rfl (Jx.assign rfl rfl (J.nil (N.seq (W.ret (N.seqRet ?_)))))))))
 (refine id ?_; rotate_left))
      exact N.ret (rs := [.tmp 4, .tmp 5]) rfl (.tmp rfl (.tmp rfl .nil)) ⟨rfl, rfl⟩
    have c2 := rd_refuse b s a c a c h1 hc (fun _ => h1)
    refine FnC.intro Tryd.func49 rfl Tryd.ntmps49 rfl fun Z w0 hG => ?_
    focus (
 (refine W.seq (W.region (Jx.assign rfl rfl (J.nil (N.seq (W.seq (W.region (Jx.move rfl rfl (Jx.nilCheck rfl rfl ?_)))))))))
 (refine Jx.fieldAddr rfl rfl ?_)
 (refine Jx.load rfl 0 rfl rfl rfl ?_)
 (refine Jx.assign rfl rfl (J.nil (N.seq (W.seq (W.region (Jx.move rfl rfl (Jx.move rfl rfl ?_)))))))
 (refine J.call (c1) rfl (evs_args rfl) rfl ?_; rintro _ _ ⟨rfl, rfl⟩; simp only [la1, la2, la3])
 (refine Jx.move rfl rfl (Jx.extract rfl rfl rfl ?_))
 (refine Jx.extract rfl rfl rfl ?_)
 (refine Jx.assign rfl rfl (Jx.assign rfl rfl (J.nil (N.seq (W.seq (W.seq (W.region (Jx.move rfl rfl (Jx.neqI rfl rfl rfl (J.nil (N.seq (W.cT rfl ?_))))))))))))
 (refine W.seq (W.region (Jx.move rfl rfl (Jx.move rfl rfl (Jx.move rfl rfl ?_)))))
 (refine J.call (c2) rfl (evs_args rfl) rfl ?_; rintro _ _ ⟨a2, c', rfl, ha', hc'⟩; simp only [la1, la2, la3])
 (refine J.nil (N.seq (W.seq (W.region (Jx.assign rfl rfl (J.nil (N.seq (W.ret (N.seqRet ?_)))))))))
 (refine id ?_; rotate_left))
    exact N.ret (rs := [.tmp 4]) rfl (.tmp rfl .nil) ⟨[], a2, c', rfl, rfl, ha', by rw [lf_no hc', lf_no hc]; rfl⟩
theorem rd_End (b : Nat) (s : List UInt8) (a : Nat) (c : Int) (h1 : a ≤ s.length) (h2 : s.length ≤ 1099511627776) :
    FnC Tryd.prog 54 [ptr b] [rdO b ⟨s, a, c⟩] (fun v L => ∃ (e : Int) (a' : Nat) (c' : Int), v = int e ∧ L = [rdO b ⟨s, a', c'⟩] ∧ (e = 0 ↔ lf s a c = some [])) := by
  have c1 := left_ok b ⟨s, a, c⟩ ⟨h1, h2⟩
  simp only at c1
  refine FnC.intro Tryd.func54 rfl Tryd.ntmps54 rfl fun Z w0 hG => ?_
  by_cases hl : a < s.length
  · have c2 := rd_refuse b s a c a 3 h1 (by decide) (fun _ => h1)
    focus (
 (refine W.seq (W.region (Jx.assign rfl rfl (J.nil (N.seq (W.seq (W.seq (W.region (Jx.move rfl rfl ?_)))))))))
 (refine J.call (c1) rfl (evs_args rfl) rfl ?_; rintro _ _ ⟨rfl, rfl⟩; simp only [la1, la2, la3])
 (refine Jx.gtrI rfl rfl rfl (J.nil (N.seq (W.cT rfl ?_))))
 (refine W.region (Jx.move rfl rfl (Jx.move rfl rfl (Jx.nilCheck rfl rfl ?_))))
 (refine Jx.fieldAddr rfl rfl ?_)
 (refine Jx.load rfl 0 rfl rfl rfl ?_)
 (refine J.call (c2) rfl (evs_args rfl) rfl ?_; rintro _ _ ⟨a2, c2', rfl, ha2, hc2⟩; simp only [la1, la2, la3])
 (refine J.nil (N.seq (W.seq (W.region (Jx.move rfl rfl (Jx.nilCheck rfl rfl ?_))))))
 (refine Jx.fieldAddr rfl rfl ?_)
 (refine Jx.load rfl 0 rfl rfl rfl ?_)
 (refine Jx.assign rfl rfl (J.nil (N.seq (W.ret ?_))))
 (refine id ?_; rotate_left))
    refine N.ret (rs := [.tmp 2]) rfl (.tmp rfl .nil) ⟨c2', a2, c2', rfl, rfl, fun h => absurd h hc2, fun h => ?_⟩
    unfold lf at h
    split at h
    · simp only [Option.some.injEq] at h
      have := congrArg List.length h
      rw [List.length_drop] at this
      simp only [List.length_nil] at this
      omega
    · cases h
  · focus (
 (refine W.seq (W.region (Jx.assign rfl rfl (J.nil (N.seq (W.seq (W.seq (W.region (Jx.move rfl rfl ?_)))))))))
 (refine J.call (c1) rfl (evs_args rfl) rfl ?_; rintro _ _ ⟨rfl, rfl⟩; simp only [la1, la2, la3])
 (refine Jx.gtrI rfl rfl rfl (J.nil (N.seq (W.cF rfl ?_))))
 (refine W.skip (N.seq (W.seq (W.region (Jx.move rfl rfl (Jx.nilCheck rfl rfl ?_))))))
 (refine Jx.fieldAddr rfl rfl ?_)
 (refine Jx.load rfl 0 rfl rfl rfl ?_)
 (refine Jx.assign rfl rfl (J.nil (N.seq (W.ret ?_))))
 (refine id ?_; rotate_left))
    refine N.ret (rs := [.tmp 2]) rfl (.tmp rfl .nil) ⟨c, a, c, rfl, rfl, fun h => ?_, fun h => ?_⟩
    · subst h
      simp only [lf, if_true, Option.some.injEq]
      exact List.drop_eq_nil_of_le (by omega)
    · exact Classical.byContradiction fun hc => by rw [lf_no hc] at h; cases h
def preP (acc : List (List UInt8)) : List (List UInt8) × PSt → List (List UInt8) × PSt
  | (ts, some q) => (acc ++ ts, some q)
  | (_, none) => ([], none)
theorem preP_step {ec : Int} {k : Nat} {r q : List UInt8} {t : List UInt8} {acc : List (List UInt8)} (h : textP ec (some r) = (t, some q)) : preP acc (textsP ec (k + 1) (some r)) = preP (acc ++ [t]) (textsP ec k (some q)) := by
  simp only [textsP, h]
  cases hq : textsP ec k (some q) with
  | mk ts o => cases o <;> simp [preP]
theorem preP_bad {ec : Int} {k : Nat} {r : List UInt8} {acc : List (List UInt8)} (h : textP ec (some r) = ([], none)) : preP acc (textsP ec (k + 1) (some r)) = ([], none) := by
  simp only [textsP, h, preP]
theorem preP_nil {ec : Int} {n : Nat} {st : PSt} : preP [] (textsP ec n st) = textsP ec n st := by
  cases h : textsP ec n st with
  | mk ts o =>
    cases o with
    | none => rw [textsP_short h]; rfl
    | some q => rfl
set_option maxHeartbeats 2000000 in
theorem rd_List (b : Nat) (s : List UInt8) (a : Nat) (c : Int) (m ec : Int) (h1 : a ≤ s.length) (h2 : s.length ≤ 1099511627776) (hm : m ≤ 1048576) :
    FnC Tryd.prog 53 [ptr b, int m, int ec] [rdO b ⟨s, a, c⟩] (fun v L => ∃ (l : List (List UInt8)) (a' : Nat) (c' : Int), v = ssl l ∧ L = [rdO b ⟨s, a', c'⟩] ∧ a' ≤ s.length ∧ listP m ec (lf s a c) = (l, lf s a' c')) := by
  have c1 := rd_number b s a c h1 h2
  refine FnC.intro Tryd.func53 rfl Tryd.ntmps53 rfl fun Z w0 hG => ?_
  focus (
 (refine W.seq (W.region (Jx.assign rfl rfl (J.nil (N.seq (W.seq (W.region (Jx.move rfl rfl (Jx.nilCheck rfl rfl ?_)))))))))
 (refine Jx.fieldAddr rfl rfl ?_)
 (refine Jx.load rfl 0 rfl rfl rfl ?_)
 (refine Jx.assign rfl rfl (J.nil (N.seq (W.seq (W.region (Jx.move rfl rfl ?_))))))
 (refine J.call c1 rfl (evs_args rfl) rfl ?_; rintro _ _ ⟨n, e, a', rfl, rfl, hn, hy, hz, hw⟩; simp only [la1, la2, la3]; by_cases he : e = 0)
 (refine Jx.move rfl rfl (Jx.extract rfl rfl rfl ?_))
 (refine Jx.extract rfl rfl rfl ?_)
 (refine Jx.assign rfl rfl (Jx.assign rfl rfl (J.nil (N.seq (W.seq (W.seq (W.region (Jx.move rfl rfl (Jx.eqlI rfl rfl rfl (Jx.move rfl rfl (J.gY rfl rfl rfl ?_)))))))))))
 (refine Jx.move rfl rfl (J.gY rfl rfl rfl ?_))
 (refine Jx.move rfl rfl (J.gY rfl rfl rfl ?_))
 (refine Jx.gtrI rfl rfl rfl (Jx.pT rfl rfl rfl ?_))
 (refine J.nil (N.seq ?_))
 (refine id ?_; rotate_left)
 (refine Jx.move rfl rfl (Jx.extract rfl rfl rfl ?_))
 (refine Jx.extract rfl rfl rfl ?_)
 (refine Jx.assign rfl rfl (Jx.assign rfl rfl (J.nil (N.seq (W.seq (W.seq (W.region (Jx.move rfl rfl (Jx.eqlI rfl rfl rfl (Jx.move rfl rfl (J.gN rfl rfl rfl rfl ?_)))))))))))
 (refine J.gN rfl rfl rfl rfl ?_)
 (refine J.gN rfl rfl rfl rfl ?_)
 (refine Jx.pF rfl rfl rfl ?_)
 (refine J.nil (N.seq (W.cF rfl ?_)))
 (refine W.skip (N.seq (W.seq (W.region (Jx.move rfl rfl ?_)))))
 (refine J.pv (Pv.makeFunc (us := [.pointer (some ⟨b, 0, none⟩)]) (vs := []) (evs_args rfl) (evs_args rfl) (fun _ => rfl)) rfl ?_)
 (refine Jx.assign rfl rfl (J.nil (N.seq (W.seq (W.region (Jx.assign rfl rfl (J.nil (N.seq (W.seq (W.seq (W.region (Jx.assign rfl rfl (J.nil (N.seq ?_))))))))))))))
 (refine W.block ?_)
 (refine id ?_; rotate_left))
  · obtain ⟨rfl, h3, h4⟩ := hy he
    subst he
    by_cases hnm : m < (n : Int)
    · focus (
 (refine W.cT rfl ?_)
 (refine W.region (Jx.assign rfl rfl (J.nil (N.seq (W.seq (W.region (Jx.move rfl rfl ?_)))))))
 (refine J.pv (Pv.makeFunc (us := [.pointer (some ⟨b, 0, none⟩)]) (vs := []) (evs_args rfl) (evs_args rfl) (fun _ => rfl)) rfl ?_)
 (refine Jx.assign rfl rfl (J.nil (N.seq (W.seq (W.region (Jx.assign rfl rfl (J.nil (N.seq (W.seq (W.seq (W.region (Jx.assign rfl rfl (J.nil (N.seq ?_))))))))))))))
 (refine W.block ?_)
 (refine id ?_; rotate_left))
      have c2 := rd_refuse b s a' 0 a 2 h1 (by decide) (fun _ => h3)
      refine W.loop (α := Unit) (fun x => [(12, int 0), (9, int 2), (8, int (n : Int)), (7, int (a : Int)), (0, ptr b)]) (fun x => [rdO b ⟨s, a', 0⟩]) (fun x => True) (fun x => 0) () trivial rfl ⟨ref0 rfl, ref0 rfl, ref0 rfl, ref0 rfl, ref0 rfl, trivial⟩ ?_
      intro _ _
      by_cases h0 : 0 < n
      · focus (
 (refine W.seq (W.seq (W.region (Jx.move rfl rfl (Jx.move rfl rfl (Jx.lssI rfl rfl rfl (Jx.move rfl rfl (J.gY rfl rfl rfl ?_))))))))
 (refine Jx.move rfl rfl (J.gY rfl rfl rfl ?_))
 (refine Jx.eqlI rfl rfl rfl (Jx.pT rfl rfl rfl ?_))
 (refine J.nil (N.seq (W.cF rfl ?_)))
 (refine W.exit (N.seq (W.seq (W.seq (W.region (Jx.move rfl rfl (Jx.neqI rfl rfl rfl (J.nil (N.seq (W.cT rfl ?_))))))))))
 (refine W.seq (W.region (Jx.move rfl rfl (Jx.move rfl rfl (Jx.move rfl rfl ?_)))))
 (refine J.call (c2) rfl (evs_args rfl) rfl ?_; rintro _ _ ⟨a2, c2', rfl, ha2, hc2⟩; simp only [la1, la2, la3])
 (refine J.nil (N.seq (W.seq (W.region (Jx.assign rfl rfl (J.nil (N.seq (W.ret (N.seqRet ?_)))))))))
 (refine id ?_; rotate_left))
        refine N.told (G := [(6, ssl [])]) ⟨⟨_, rfl, Sub.nil 1 _⟩, trivial⟩ ?_
        exact N.ret (rs := [.tmp 6]) rfl (.tmp rfl .nil) ⟨[], a2, c2', rfl, rfl, ha2, by rw [lf_no hc2]; simp only [listP, h4]; rw [if_neg (by omega)]⟩
      · focus (
 (refine W.seq (W.seq (W.region (Jx.move rfl rfl (Jx.move rfl rfl (Jx.lssI rfl rfl rfl (Jx.move rfl rfl (J.gN rfl rfl rfl rfl ?_))))))))
 (refine J.gN rfl rfl rfl rfl ?_)
 (refine Jx.pF rfl rfl rfl ?_)
 (refine J.nil (N.seq (W.cF rfl ?_)))
 (refine W.exit (N.seq (W.seq (W.seq (W.region (Jx.move rfl rfl (Jx.neqI rfl rfl rfl (J.nil (N.seq (W.cT rfl ?_))))))))))
 (refine W.seq (W.region (Jx.move rfl rfl (Jx.move rfl rfl (Jx.move rfl rfl ?_)))))
 (refine J.call (c2) rfl (evs_args rfl) rfl ?_; rintro _ _ ⟨a2, c2', rfl, ha2, hc2⟩; simp only [la1, la2, la3])
 (refine J.nil (N.seq (W.seq (W.region (Jx.assign rfl rfl (J.nil (N.seq (W.ret (N.seqRet ?_)))))))))
 (refine id ?_; rotate_left))
        refine N.told (G := [(6, ssl [])]) ⟨⟨_, rfl, Sub.nil 1 _⟩, trivial⟩ ?_
        exact N.ret (rs := [.tmp 6]) rfl (.tmp rfl .nil) ⟨[], a2, c2', rfl, rfl, ha2, by rw [lf_no hc2]; simp only [listP, h4]; rw [if_neg (by omega)]⟩
    · focus (
 (refine W.cF rfl ?_)
 (refine W.skip (N.seq (W.seq (W.region (Jx.move rfl rfl ?_)))))
 (refine J.pv (Pv.makeFunc (us := [.pointer (some ⟨b, 0, none⟩)]) (vs := []) (evs_args rfl) (evs_args rfl) (fun _ => rfl)) rfl ?_)
 (refine Jx.assign rfl rfl (J.nil (N.seq (W.seq (W.region (Jx.assign rfl rfl (J.nil (N.seq (W.seq (W.seq (W.region (Jx.assign rfl rfl (J.nil (N.seq ?_))))))))))))))
 (refine W.block ?_)
 (refine id ?_; rotate_left))
      refine W.rowNil 9 1 (elOf (fun a => [str a]) [] []) ?_
      refine W.perm (List.Perm.swap _ _ _) ?_
      refine W.loop (α := Nat × Value × List (List UInt8) × Nat × Int) (fun x => [(12, int (x.1 : Int)), (11, .val x.2.1), (10, .val (.func (.func 64) #[.pointer (some ⟨b, 0, none⟩)] #[])), (9, int x.2.2.2.2), (8, int (n : Int)), (7, int (a : Int)), (2, int ec), (0, ptr b)]) (fun x => [rdO b ⟨s, x.2.2.2.1, 0⟩, .row x.2.1 9 1 x.2.2.1.length (elOf (fun a => [str a]) [] x.2.2.1)])
        (fun x => x.1 ≤ n ∧ x.2.2.1.length ≤ x.1 ∧ (x.2.2.2.2 = 0 → x.2.2.1.length = x.1 ∧ x.2.2.2.1 ≤ s.length ∧ textsP ec n (some (s.drop a')) = preP x.2.2.1 (textsP ec (n - x.1) (some (s.drop x.2.2.2.1)))) ∧ (x.2.2.2.2 ≠ 0 → textsP ec n (some (s.drop a')) = ([], none))) (fun x => n - x.1) (0, .slice none 0 0, [], a', 0)
        ⟨by simp, by simp, fun _ => ⟨rfl, h3, by simp only [Nat.sub_zero, preP_nil]⟩, fun h => absurd rfl h⟩ rfl ⟨ref0 rfl, ref0 rfl, ref0 rfl, ref0 rfl, ref0 rfl, ref0 rfl, ref0 rfl, ref0 rfl, trivial⟩ ?_
      rintro ⟨i, u, acc, pos, e⟩ ⟨hi, hai, hg, hb⟩
      simp only at hi hai hg hb ⊢
      have hmx0 : acc.length ≤ maxLen := by simp only [maxLen]; omega
      by_cases hin : i < n
      · by_cases he : e = 0
        · subst he
          obtain ⟨g1, g2, g3⟩ := hg rfl
          have c3 := rd_text b s pos 0 ec g2 h2
          have hstep : n - i = (n - (i + 1)) + 1 := by omega
          focus (
 (refine W.seq (W.seq (W.region (Jx.move rfl rfl (Jx.move rfl rfl (Jx.lssI rfl rfl rfl (Jx.move rfl rfl (J.gY rfl rfl rfl ?_))))))))
 (refine Jx.move rfl rfl (J.gY rfl rfl rfl ?_))
 (refine Jx.eqlI rfl rfl rfl (Jx.pT rfl rfl rfl ?_))
 (refine J.nil (N.seq (W.cT rfl ?_)))
 (refine W.skip (N.seq (W.seq (W.block (W.seq (W.region (Jx.assign rfl rfl (J.nil (N.seq (W.seq (W.region (Jx.move rfl rfl (Jx.move rfl rfl ?_)))))))))))))
 (refine J.callV (args := [int ec]) (Lc := [rdO b ⟨s, pos, 0⟩]) rfl c3 rfl (evs_args rfl) rfl ?_; rintro _ _ ⟨t, e', pos', rfl, rfl, ty, tz⟩; simp only [la1, la2, la3])
 (refine Jx.move rfl rfl (Jx.extract rfl rfl rfl ?_))
 (refine Jx.extract rfl rfl rfl ?_)
 (refine Jx.assign rfl rfl (Jx.assign rfl rfl (J.nil (N.seq (W.seq (W.region (Jx.move rfl rfl (Jx.eqlI rfl rfl rfl (J.nil (N.seq ?_))))))))))
 (refine id ?_; rotate_left))
          by_cases he' : e' = 0
          · subst he'
            obtain ⟨_, g4, g5⟩ := ty rfl
            have hmx : acc.length + [t].length ≤ maxLen ∧ (acc.length + [t].length) * 16 ≤ 140737488355328 := by simp only [maxLen, List.length_cons, List.length_nil]; omega
            focus (
 (refine W.cT rfl ?_)
 (refine W.region (Jx.move rfl rfl (Jx.move rfl rfl ?_)))
 (refine J.qs (Qs.buildTexts [t] rfl rfl rfl (by decide) (by decide)) rfl ?_)
 (refine J.appendAt (l := acc) (l2 := [t]) 1 rfl rfl (SrcOK.sl rfl) rfl rfl hmx rfl ?_; intro v2 hv2)
 (refine Jx.assign rfl rfl (J.nil (N.seq (W.region (Jx.move rfl rfl (Jx.add64 rfl rfl (by omega) rfl ?_))))))
 (refine Jx.assign rfl rfl (J.nil ?_))
 (refine id ?_; rotate_left))
            exact N.round (i + 1, v2, acc ++ [t], pos', 0) ⟨by simp only; omega, by simp only [List.length_append, List.length_cons, List.length_nil]; omega, fun _ => ⟨by simp only [List.length_append, List.length_cons, List.length_nil]; omega, g4, by rw [g3, hstep]; exact preP_step g5⟩, fun h => absurd rfl h⟩ (by simp only; omega) rfl ⟨ref0 rfl, ref0 rfl, ref0 rfl, ref0 rfl, ref0 rfl, ref0 rfl, ref0 rfl, ref0 rfl, trivial⟩
          · have g5 := tz he'
            focus (
 (refine W.cF rfl ?_)
 (refine W.skip (N.seq (W.region (Jx.move rfl rfl (Jx.add64 rfl rfl (by omega) rfl ?_)))))
 (refine Jx.assign rfl rfl (J.nil ?_))
 (refine id ?_; rotate_left))
            exact N.round (i + 1, u, acc, pos', e') ⟨by simp only; omega, by simp only; omega, fun h => absurd h he', fun _ => by rw [g3, hstep]; exact preP_bad g5⟩ (by simp only; omega) rfl ⟨ref0 rfl, ref0 rfl, ref0 rfl, ref0 rfl, ref0 rfl, ref0 rfl, ref0 rfl, ref0 rfl, trivial⟩
        · have hb := hb he
          have c2 := rd_refuse b s pos 0 a e h1 he (fun h => absurd rfl h)
          focus (
 (refine W.seq (W.seq (W.region (Jx.move rfl rfl (Jx.move rfl rfl (Jx.lssI rfl rfl rfl (Jx.move rfl rfl (J.gY rfl rfl rfl ?_))))))))
 (refine Jx.move rfl rfl (J.gY rfl rfl rfl ?_))
 (refine Jx.eqlI rfl rfl rfl (Jx.pT rfl rfl rfl ?_))
 (refine J.nil (N.seq (W.cF rfl ?_)))
 (refine W.exit (N.seq (W.seq (W.seq (W.region (Jx.move rfl rfl (Jx.neqI rfl rfl rfl (J.nil (N.seq (W.cT rfl ?_))))))))))
 (refine W.seq (W.region (Jx.move rfl rfl (Jx.move rfl rfl (Jx.move rfl rfl ?_)))))
 (refine J.call (c2) rfl (evs_args rfl) rfl ?_; rintro _ _ ⟨a2, c2', rfl, ha2, hc2⟩; simp only [la1, la2, la3])
 (refine J.nil (N.seq (W.seq (W.region (Jx.assign rfl rfl (J.nil (N.seq (W.ret (N.seqRet ?_)))))))))
 (refine id ?_; rotate_left))
          refine N.told (G := [(6, ssl [])]) ⟨⟨_, rfl, Sub.nil 1 _⟩, trivial⟩ ?_
          exact N.retD (rs := [.tmp 6]) (L1 := [rdO b ⟨s, a2, c2'⟩]) rfl (.tmp rfl .nil) (by simp) ⟨[], a2, c2', rfl, rfl, ha2, by rw [lf_no hc2]; simp only [listP, h4]; rw [if_pos (by omega)]; exact hb⟩
      · by_cases he : e = 0
        · subst he
          obtain ⟨g1, g2, g3⟩ := hg rfl
          refine W.freezeAt 1 11 rfl rfl hmx0 ?_
          focus (
 (refine W.seq (W.seq (W.region (Jx.move rfl rfl (Jx.move rfl rfl (Jx.lssI rfl rfl rfl (Jx.move rfl rfl (J.gN rfl rfl rfl rfl ?_))))))))
 (refine J.gN rfl rfl rfl rfl ?_)
 (refine Jx.pF rfl rfl rfl ?_)
 (refine J.nil (N.seq (W.cF rfl ?_)))
 (refine W.exit (N.seq (W.seq (W.seq (W.region (Jx.move rfl rfl (Jx.neqI rfl rfl rfl (J.nil (N.seq (W.cF rfl ?_))))))))))
 (refine W.skip (N.seq (W.seq (W.region (Jx.move rfl rfl (Jx.assign rfl rfl (J.nil (N.seq (W.ret ?_)))))))))
 (refine id ?_; rotate_left))
          refine N.ret (rs := [.tmp 6]) rfl (.tmp rfl .nil) ⟨acc, pos, 0, rfl, rfl, g2, ?_⟩
          simp only [listP, h4]
          rw [if_pos (by omega), g3, show n - i = 0 by omega]
          simp only [textsP, preP, List.append_nil, lf, if_true]
        · have hb := hb he
          have c2 := rd_refuse b s pos 0 a e h1 he (fun h => absurd rfl h)
          focus (
 (refine W.seq (W.seq (W.region (Jx.move rfl rfl (Jx.move rfl rfl (Jx.lssI rfl rfl rfl (Jx.move rfl rfl (J.gN rfl rfl rfl rfl ?_))))))))
 (refine J.gN rfl rfl rfl rfl ?_)
 (refine Jx.pF rfl rfl rfl ?_)
 (refine J.nil (N.seq (W.cF rfl ?_)))
 (refine W.exit (N.seq (W.seq (W.seq (W.region (Jx.move rfl rfl (Jx.neqI rfl rfl rfl (J.nil (N.seq (W.cT rfl ?_))))))))))
 (refine W.seq (W.region (Jx.move rfl rfl (Jx.move rfl rfl (Jx.move rfl rfl ?_)))))
 (refine J.call (c2) rfl (evs_args rfl) rfl ?_; rintro _ _ ⟨a2, c2', rfl, ha2, hc2⟩; simp only [la1, la2, la3])
 (refine J.nil (N.seq (W.seq (W.region (Jx.assign rfl rfl (J.nil (N.seq (W.ret (N.seqRet ?_)))))))))
 (refine id ?_; rotate_left))
          refine N.told (G := [(6, ssl [])]) ⟨⟨_, rfl, Sub.nil 1 _⟩, trivial⟩ ?_
          exact N.retD (rs := [.tmp 6]) (L1 := [rdO b ⟨s, a2, c2'⟩]) rfl (.tmp rfl .nil) (by simp) ⟨[], a2, c2', rfl, rfl, ha2, by rw [lf_no hc2]; simp only [listP, h4]; rw [if_pos (by omega)]; exact hb⟩
  · have h4 := hz he
    refine W.loop (α := Unit) (fun x => [(12, int 0), (9, int e), (8, int (n : Int)), (7, int (a : Int)), (0, ptr b)]) (fun x => [rdO b ⟨s, a', c⟩]) (fun x => True) (fun x => 0) () trivial rfl ⟨ref0 rfl, ref0 rfl, ref0 rfl, ref0 rfl, ref0 rfl, trivial⟩ ?_
    intro _ _
    have c2 := rd_refuse b s a' c a e h1 he hw
    by_cases h0 : 0 < n
    · focus (
 (refine W.seq (W.seq (W.region (Jx.move rfl rfl (Jx.move rfl rfl (Jx.lssI rfl rfl rfl (Jx.move rfl rfl (J.gY rfl rfl rfl ?_))))))))
 (refine Jx.move rfl rfl (J.gY rfl rfl rfl ?_))
 (refine Jx.eqlI rfl rfl rfl (Jx.pT rfl rfl rfl ?_))
 (refine J.nil (N.seq (W.cF rfl ?_)))
 (refine W.exit (N.seq (W.seq (W.seq (W.region (Jx.move rfl rfl (Jx.neqI rfl rfl rfl (J.nil (N.seq (W.cT rfl ?_))))))))))
 (refine W.seq (W.region (Jx.move rfl rfl (Jx.move rfl rfl (Jx.move rfl rfl ?_)))))
 (refine J.call (c2) rfl (evs_args rfl) rfl ?_; rintro _ _ ⟨a2, c2', rfl, ha2, hc2⟩; simp only [la1, la2, la3])
 (refine J.nil (N.seq (W.seq (W.region (Jx.assign rfl rfl (J.nil (N.seq (W.ret (N.seqRet ?_)))))))))
 (refine id ?_; rotate_left))
      refine N.told (G := [(6, ssl [])]) ⟨⟨_, rfl, Sub.nil 1 _⟩, trivial⟩ ?_
      exact N.ret (rs := [.tmp 6]) rfl (.tmp rfl .nil) ⟨[], a2, c2', rfl, rfl, ha2, by rw [lf_no hc2]; simp only [listP, h4]⟩
    · focus (
 (refine W.seq (W.seq (W.region (Jx.move rfl rfl (Jx.move rfl rfl (Jx.lssI rfl rfl rfl (Jx.move rfl rfl (J.gN rfl rfl rfl rfl ?_))))))))
 (refine J.gN rfl rfl rfl rfl ?_)
 (refine Jx.pF rfl rfl rfl ?_)
 (refine J.nil (N.seq (W.cF rfl ?_)))
 (refine W.exit (N.seq (W.seq (W.seq (W.region (Jx.move rfl rfl (Jx.neqI rfl rfl rfl (J.nil (N.seq (W.cT rfl ?_))))))))))
 (refine W.seq (W.region (Jx.move rfl rfl (Jx.move rfl rfl (Jx.move rfl rfl ?_)))))
 (refine J.call (c2) rfl (evs_args rfl) rfl ?_; rintro _ _ ⟨a2, c2', rfl, ha2, hc2⟩; simp only [la1, la2, la3])
 (refine J.nil (N.seq (W.seq (W.region (Jx.assign rfl rfl (J.nil (N.seq (W.ret (N.seqRet ?_)))))))))
 (refine id ?_; rotate_left))
      refine N.told (G := [(6, ssl [])]) ⟨⟨_, rfl, Sub.nil 1 _⟩, trivial⟩ ?_
      exact N.ret (rs := [.tmp 6]) rfl (.tmp rfl .nil) ⟨[], a2, c2', rfl, rfl, ha2, by rw [lf_no hc2]; simp only [listP, h4]⟩
end Go.Proofs.YtbdkenlkimiddaaDoor
namespace Go.Proofs.YtbdkenlkimiddaaDoor
open Go Go.Sse
set_option linter.unusedVariables false
set_option linter.unusedSimpArgs false
set_option maxRecDepth 10000
def nextV (s : List UInt8) : Bt × Nat × Bool := match nextP s with | some (b, n) => (b, n, true) | none => ([], 0, false)
theorem lf_some {s r : List UInt8} {a : Nat} {c : Int} (h : lf s a c = some r) : c = 0 ∧ s.drop a = r := by
  unfold lf at h
  split at h
  · rename_i h0; exact ⟨h0, Option.some.inj h⟩
  · cases h
theorem next_bad {s : List UInt8} (h : nextP s = none) : nextV s = ([], 0, false) := by unfold nextV; rw [h]
theorem next_good {s : List UInt8} {b : Bt} {n : Nat} (h : nextP s = some (b, n)) : nextV s = (b, n, true) := by unfold nextV; rw [h]
set_option maxHeartbeats 8000000 in
theorem next_ok (s : List UInt8) (hs : s.length ≤ 1099511627776) : FnC Tryd.prog 33 [str s] [] (fun r L => r = .tup [ssl (nextV s).1, int ((nextV s).2.1 : Int), bool (nextV s).2.2] ∧ L = []) := by
  have cr := read_ok s
  have ct := fun b => rd_Text b s 0 0 524288 (by omega) hs
  have cleft := fun b a c (h : a ≤ s.length) => left_ok b ⟨s, a, c⟩ ⟨h, hs⟩
  simp only at cleft
  have cby := fun b a c (h : a ≤ s.length) => rd_Bytes b s a c 4 h hs
  have cco := fun b a c => code_ok b ⟨s, a, c⟩
  simp only at cco
  have hl0 : lf s 0 0 = some s := by simp [lf]
  rw [hl0] at ct
  cases ht : textP 524288 (some s) with
  | mk list st =>
  cases st with
  | none =>
    rw [next_bad (by unfold nextP; rw [ht])]
    have ct' := fun b => (ct b).mono (R' := fun v L => ∃ (a1 : Nat) (c1 : Int), v = str list ∧ L = [rdO b ⟨s, a1, c1⟩] ∧ a1 ≤ s.length ∧ c1 ≠ 0) (by
      rintro v L ⟨t, a1, c1, rfl, rfl, h1, h2⟩
      rw [ht] at h2
      simp only [Prod.mk.injEq] at h2
      exact ⟨a1, c1, by rw [h2.1], rfl, h1, lf_none h2.2.symm⟩)
    have cby' := fun b a c (h : a ≤ s.length) (hc : c ≠ 0) => (cby b a c h).mono (R' := fun v L => ∃ (t : List UInt8) (a2 : Nat) (c2 : Int), v = str t ∧ L = [rdO b ⟨s, a2, c2⟩] ∧ c2 ≠ 0) (by
      rintro v L ⟨t, a2, c2, rfl, rfl, h1, h2⟩
      rw [lf_no hc, bytesP_none] at h2
      simp only [Prod.mk.injEq] at h2
      exact ⟨t, a2, c2, rfl, rfl, lf_none h2.2.symm⟩)
    refine FnC.intro Tryd.func33 rfl Tryd.ntmps33 rfl fun Z w0 hG => ?_
    focus (
 (refine W.seq (W.region (Jx.assign rfl rfl (Jx.assign rfl rfl (Jx.assign rfl rfl (J.nil (N.seq (W.seq (W.region (Jx.move rfl rfl ?_))))))))))
 (refine J.call (cr) rfl (evs_args rfl) rfl ?_; rintro _ _ ⟨b, rfl, rfl⟩; simp only [la1, la2, la3])
 (refine Jx.assign rfl rfl (J.nil (N.seq (W.seq (W.region (Jx.move rfl rfl ?_))))))
 (refine J.call ((ct' b)) rfl (evs_args rfl) rfl ?_; rintro _ _ ⟨a1, c1, rfl, rfl, ha1, hc1⟩; simp only [la1, la2, la3])
 (refine Jx.assign rfl rfl (J.nil (N.seq (W.seq (W.region (Jx.move rfl rfl (Jx.lenS rfl rfl ?_)))))))
 (refine Jx.move rfl rfl ?_)
 (refine J.call ((cleft b a1 c1 ha1)) rfl (evs_args rfl) rfl ?_; rintro _ _ ⟨rfl, rfl⟩; simp only [la1, la2, la3])
 (refine Jx.sub64 rfl rfl (by omega) rfl ?_)
 (refine Jx.assign rfl rfl (J.nil (N.seq (W.seq (W.region (Jx.move rfl rfl ?_))))))
 (refine J.call ((cby' b a1 c1 ha1 hc1)) rfl (evs_args rfl) rfl ?_; rintro _ _ ⟨t, a2, c2, rfl, rfl, hc2⟩; simp only [la1, la2, la3])
 (refine Jx.assign rfl rfl (J.nil (N.seq (W.seq (W.seq (W.region (Jx.move rfl rfl ?_)))))))
 (refine J.call ((cco b a2 c2)) rfl (evs_args rfl) rfl ?_; rintro _ _ ⟨rfl, rfl⟩; simp only [la1, la2, la3])
 (refine Jx.neqI rfl rfl rfl (Jx.move rfl rfl (J.gN rfl rfl rfl rfl ?_)))
 (refine J.gN rfl rfl rfl rfl ?_)
 (refine J.gN rfl rfl rfl rfl ?_)
 (refine J.gN rfl rfl rfl rfl ?_)
 (refine J.gN rfl rfl rfl rfl ?_)
 (refine J.gN rfl rfl rfl rfl ?_)
 (refine J.gN rfl rfl rfl rfl ?_)
 (refine Jx.pT rfl rfl rfl ?_)
 (refine J.nil (N.seq (W.cT rfl ?_)))
 (refine W.seq (W.region (Jx.assign rfl rfl (Jx.assign rfl rfl (Jx.assign rfl rfl (J.nil (N.seq (W.ret (N.noGotoRet ?_)))))))))
 (refine id ?_; rotate_left))
    refine N.rowNil 9 1 (elOf encS [] []) ?_
    refine N.freeze 2 rfl (by decide) ?_
    exact N.retD (rs := [.tmp 2, .tmp 3, .tmp 4]) (L1 := []) rfl (.tmp rfl (.tmp rfl (.tmp rfl .nil))) (List.nil_sublist _) ⟨rfl, rfl⟩
  | some r =>
    obtain ⟨g1, g2, g3⟩ := textP_good ht
    simp only [Option.some.injEq] at g1
    have htk : s.take (textB list).length = textB list := by rw [g1, List.take_append_of_le_length (Nat.le_refl _), List.take_length]
    have hdr : s.drop (textB list).length = r := by rw [g1, List.drop_append_of_le_length (Nat.le_refl _), List.drop_length, List.nil_append]
    have hle : (textB list).length ≤ s.length := by rw [g1, List.length_append]; omega
    have ct' := fun b => (ct b).mono (R' := fun v L => v = str list ∧ L = [rdO b ⟨s, (textB list).length, 0⟩]) (by
      rintro v L ⟨t, a1, c1, rfl, rfl, h1, h2⟩
      rw [ht] at h2
      simp only [Prod.mk.injEq] at h2
      obtain ⟨h3, h4⟩ := lf_some h2.2.symm
      subst h3
      have h5 := congrArg List.length g1
      have h6 := congrArg List.length h4
      simp only [List.length_append, List.length_drop] at h5 h6
      have h7 : a1 = (textB list).length := by omega
      rw [h7, h2.1]; exact ⟨rfl, rfl⟩)
    have cl' := fun b => cleft b (textB list).length 0 hle
    have e0 : (s.length : Int) - ((s.length : Int) - ((textB list).length : Int)) = ((textB list).length : Int) := by omega
    have etn : ((textB list).length : Int).toNat = (textB list).length := Int.toNat_natCast _
    have cby1 := fun b => cby b (textB list).length 0 hle
    have hlf : lf s (textB list).length 0 = some r := by rw [lf_ok, hdr]
    rw [hlf] at cby1
    by_cases h4 : r.length < 4
    · rw [next_bad (by unfold nextP; rw [ht]; simp only; rw [if_pos h4])]
      have cby' := fun b => (cby1 b).mono (R' := fun v L => ∃ (t : List UInt8) (a2 : Nat) (c2 : Int), v = str t ∧ L = [rdO b ⟨s, a2, c2⟩] ∧ c2 ≠ 0) (by
        rintro v L ⟨t, a2, c2, rfl, rfl, h1, h2⟩
        simp only [bytesP, if_neg (show ¬ 4 ≤ r.length by omega), Prod.mk.injEq] at h2
        exact ⟨t, a2, c2, rfl, rfl, lf_none h2.2.symm⟩)
      refine FnC.intro Tryd.func33 rfl Tryd.ntmps33 rfl fun Z w0 hG => ?_
      focus (
 (refine W.seq (W.region (Jx.assign rfl rfl (Jx.assign rfl rfl (Jx.assign rfl rfl (J.nil (N.seq (W.seq (W.region (Jx.move rfl rfl ?_))))))))))
 (refine J.call (cr) rfl (evs_args rfl) rfl ?_; rintro _ _ ⟨b, rfl, rfl⟩; simp only [la1, la2, la3])
 (refine Jx.assign rfl rfl (J.nil (N.seq (W.seq (W.region (Jx.move rfl rfl ?_))))))
 (refine J.call ((ct' b)) rfl (evs_args rfl) rfl ?_; rintro _ _ ⟨rfl, rfl⟩; simp only [la1, la2, la3])
 (refine Jx.assign rfl rfl (J.nil (N.seq (W.seq (W.region (Jx.move rfl rfl (Jx.lenS rfl rfl ?_)))))))
 (refine Jx.move rfl rfl ?_)
 (refine J.call ((cl' b)) rfl (evs_args rfl) rfl ?_; rintro _ _ ⟨rfl, rfl⟩; simp only [la1, la2, la3])
 (refine Jx.sub64 rfl rfl (by omega) rfl ?_)
 (refine Jx.assign rfl rfl (J.nil (N.seq (W.seq (W.region (Jx.move rfl rfl ?_))))))
 (refine J.call ((cby' b)) rfl (evs_args rfl) rfl ?_; rintro _ _ ⟨t, a2, c2, rfl, rfl, hc2⟩; simp only [la1, la2, la3])
 (refine Jx.assign rfl rfl (J.nil (N.seq (W.seq (W.seq (W.region (Jx.move rfl rfl ?_)))))))
 (refine J.call ((cco b a2 c2)) rfl (evs_args rfl) rfl ?_; rintro _ _ ⟨rfl, rfl⟩; simp only [la1, la2, la3])
 (refine Jx.neqI rfl rfl rfl (Jx.move rfl rfl (J.gN rfl rfl rfl rfl ?_)))
 (refine J.gN rfl rfl rfl rfl ?_)
 (refine J.gN rfl rfl rfl rfl ?_)
 (refine J.gN rfl rfl rfl rfl ?_)
 (refine J.gN rfl rfl rfl rfl ?_)
 (refine J.gN rfl rfl rfl rfl ?_)
 (refine J.gN rfl rfl rfl rfl ?_)
 (refine Jx.pT rfl rfl rfl ?_)
 (refine J.nil (N.seq (W.cT rfl ?_)))
 (refine W.seq (W.region (Jx.assign rfl rfl (Jx.assign rfl rfl (Jx.assign rfl rfl (J.nil (N.seq (W.ret (N.noGotoRet ?_)))))))))
 (refine id ?_; rotate_left))
      refine N.rowNil 9 1 (elOf encS [] []) ?_
      refine N.freeze 2 rfl (by decide) ?_
      exact N.retD (rs := [.tmp 2, .tmp 3, .tmp 4]) (L1 := []) rfl (.tmp rfl (.tmp rfl (.tmp rfl .nil))) (List.nil_sublist _) ⟨rfl, rfl⟩
    · have cby' := fun b => (cby1 b).mono (R' := fun v L => ∃ (a2 : Nat), v = str (r.take 4) ∧ L = [rdO b ⟨s, a2, 0⟩]) (by
        rintro v L ⟨t, a2, c2, rfl, rfl, h1, h2⟩
        simp only [bytesP, if_pos (show 4 ≤ r.length by omega), Prod.mk.injEq] at h2
        obtain ⟨h3, h5⟩ := lf_some h2.2.symm
        subst h3
        exact ⟨a2, by rw [h2.1], rfl⟩)
      have csh := Sha.hsum_ok (textB list) (by
        have := numB_len (n := list.length) (by omega)
        rw [textB, List.length_append]; omega)
      have h32 := Sha.shaS_len (textB list)
      have h432 : (4 : Int) ≤ ((Sha.shaS (textB list)).length : Int) := by rw [h32]; decide
      by_cases h5 : (Sha.shaS (textB list)).take (4 : Int).toNat = r.take 4
      · have h5' : sum4 (textB list) = r.take 4 := h5
        have h5n : ¬ ((Sha.shaS (textB list)).take (4 : Int).toNat ≠ r.take 4) := fun h => h h5
        have cr2 := read_ok list
        have hll : list.length ≤ 524288 := by omega
        have cli := fun b => rd_List b list 0 0 1024 65536 (by omega) (by omega) (by decide)
        have hl1 : lf list 0 0 = some list := by simp [lf]
        rw [hl1] at cli
        cases hp : listP 1024 65536 (some list) with
        | mk bt q =>
        have cli' := fun b => (cli b).mono (R' := fun v L => ∃ (a3 : Nat) (c3 : Int), v = ssl bt ∧ L = [rdO b ⟨list, a3, c3⟩] ∧ a3 ≤ list.length ∧ lf list a3 c3 = q) (by
          rintro v L ⟨l, a3, c3, rfl, rfl, h1, h2⟩
          rw [hp] at h2
          simp only [Prod.mk.injEq] at h2
          exact ⟨a3, c3, by rw [h2.1], rfl, h1, h2.2.symm⟩)
        have cen := fun b a3 c3 (h : a3 ≤ list.length) => rd_End b list a3 c3 h (by omega)
        by_cases hq : q = some []
        · have cen' := fun b a3 c3 (h : a3 ≤ list.length) (h6 : lf list a3 c3 = q) => (cen b a3 c3 h).mono (R' := fun v L => ∃ (a4 : Nat) (c4 : Int), v = int 0 ∧ L = [rdO b ⟨list, a4, c4⟩]) (by
            rintro v L ⟨e, a4, c4, rfl, rfl, h7⟩
            have : e = 0 := h7.2 (h6.trans hq)
            subst this
            exact ⟨a4, c4, rfl, rfl⟩)
          have hno : nextP s = some (bt, (textB list).length + 4) := by
            unfold nextP; rw [ht]; simp only; rw [if_neg h4, if_pos h5', hp, hq]
          rw [next_good hno]
          have e4 : ((textB list).length : Int) + 4 = (((textB list).length + 4 : Nat) : Int) := by omega
          generalize Sha.shaS (textB list) = sh at *
          refine FnC.intro Tryd.func33 rfl Tryd.ntmps33 rfl fun Z w0 hG => ?_
          focus (
 (refine W.seq (W.region (Jx.assign rfl rfl (Jx.assign rfl rfl (Jx.assign rfl rfl (J.nil (N.seq (W.seq (W.region (Jx.move rfl rfl ?_))))))))))
 (refine J.call (cr) rfl (evs_args rfl) rfl ?_; rintro _ _ ⟨b, rfl, rfl⟩; simp only [la1, la2, la3])
 (refine Jx.assign rfl rfl (J.nil (N.seq (W.seq (W.region (Jx.move rfl rfl ?_))))))
 (refine J.call ((ct' b)) rfl (evs_args rfl) rfl ?_; rintro _ _ ⟨rfl, rfl⟩; simp only [la1, la2, la3])
 (refine Jx.assign rfl rfl (J.nil (N.seq (W.seq (W.region (Jx.move rfl rfl (Jx.lenS rfl rfl ?_)))))))
 (refine Jx.move rfl rfl ?_)
 (refine J.call ((cl' b)) rfl (evs_args rfl) rfl ?_; rintro _ _ ⟨rfl, rfl⟩; simp only [la1, la2, la3])
 (refine Jx.sub64 rfl rfl (by omega) rfl ?_; rw [e0])
 (refine Jx.assign rfl rfl (J.nil (N.seq (W.seq (W.region (Jx.move rfl rfl ?_))))))
 (refine J.call ((cby' b)) rfl (evs_args rfl) rfl ?_; rintro _ _ ⟨a2, rfl, rfl⟩; simp only [la1, la2, la3])
 (refine Jx.assign rfl rfl (J.nil (N.seq (W.seq (W.seq (W.region (Jx.move rfl rfl ?_)))))))
 (refine J.call ((cco b a2 0)) rfl (evs_args rfl) rfl ?_; rintro _ _ ⟨rfl, rfl⟩; simp only [la1, la2, la3])
 (refine Jx.neqI rfl rfl rfl (Jx.move rfl rfl (J.gY rfl rfl rfl ?_)))
 (refine Jx.move rfl rfl (J.gY rfl rfl rfl ?_))
 (refine Jx.move rfl rfl (J.gY rfl rfl rfl ?_))
 (refine Jx.sliceSh (n := ((textB list).length : Int)) rfl rfl (by omega) (by omega) rfl ?_; rw [etn, htk])
 (refine J.gY rfl rfl rfl ?_)
 (refine J.call (csh) rfl (evs_args rfl) rfl ?_; rintro _ _ ⟨rfl, rfl⟩; simp only [la1, la2, la3])
 (refine J.gY rfl rfl rfl ?_)
 (refine Jx.sliceSh (n := 4) rfl rfl (by decide) h432 rfl ?_)
 (refine J.gY rfl rfl rfl ?_)
 (refine Jx.move rfl rfl (J.gY rfl rfl rfl ?_))
 (refine Jx.neqS rfl rfl rfl (Jx.pF rfl rfl rfl ?_))
 (refine J.nil (N.seq (W.cF rfl ?_)))
 (refine W.skip (N.seq (W.seq (W.region (Jx.move rfl rfl ?_)))))
 (refine J.call (cr2) rfl (evs_args rfl) rfl ?_; rintro _ _ ⟨b2, rfl, rfl⟩; simp only [la1, la2, la3])
 (refine Jx.assign rfl rfl (J.nil (N.seq (W.seq (W.region (Jx.move rfl rfl ?_))))))
 (refine J.call ((cli' b2)) rfl (evs_args rfl) rfl ?_; rintro _ _ ⟨a3, c3, rfl, rfl, h31, h32'⟩; simp only [la1, la2, la3])
 (refine Jx.assign rfl rfl (J.nil (N.seq (W.seq (W.seq (W.region (Jx.move rfl rfl ?_)))))))
 (refine J.call ((cen' b2 a3 c3 h31 h32')) rfl (evs_args rfl) rfl ?_; rintro _ _ ⟨a4, c4, rfl, rfl⟩; simp only [la1, la2, la3])
 (refine Jx.neqI rfl rfl rfl (J.nil (N.seq (W.cF rfl ?_))))
 (refine W.skip (N.seq (W.seq (W.region (Jx.move rfl rfl (Jx.move rfl rfl ?_))))))
 (refine Jx.add64 rfl rfl (by omega) rfl ?_; rw [e4])
 (refine Jx.assign rfl rfl (Jx.assign rfl rfl (Jx.assign rfl rfl (J.nil (N.seq (W.ret ?_))))))
 (refine id ?_; rotate_left))
          exact N.retD (rs := [.tmp 2, .tmp 3, .tmp 4]) (L1 := []) rfl (.tmp rfl (.tmp rfl (.tmp rfl .nil))) (List.nil_sublist _) ⟨rfl, rfl⟩
        · have cen' := fun b a3 c3 (h : a3 ≤ list.length) (h6 : lf list a3 c3 = q) => (cen b a3 c3 h).mono (R' := fun v L => ∃ (e : Int) (a4 : Nat) (c4 : Int), v = int e ∧ L = [rdO b ⟨list, a4, c4⟩] ∧ ¬ e = 0) (by
            rintro v L ⟨e, a4, c4, rfl, rfl, h7⟩
            exact ⟨e, a4, c4, rfl, rfl, fun h8 => hq (h6.symm.trans (h7.1 h8))⟩)
          have hno : nextP s = none := by
            unfold nextP; rw [ht]; simp only; rw [if_neg h4, if_pos h5', hp]
            cases q with
            | none => rfl
            | some x => cases x with
              | nil => exact absurd rfl hq
              | cons _ _ => rfl
          rw [next_bad hno]
          generalize Sha.shaS (textB list) = sh at *
          refine FnC.intro Tryd.func33 rfl Tryd.ntmps33 rfl fun Z w0 hG => ?_
          focus (
 (refine W.seq (W.region (Jx.assign rfl rfl (Jx.assign rfl rfl (Jx.assign rfl rfl (J.nil (N.seq (W.seq (W.region (Jx.move rfl rfl ?_))))))))))
 (refine J.call (cr) rfl (evs_args rfl) rfl ?_; rintro _ _ ⟨b, rfl, rfl⟩; simp only [la1, la2, la3])
 (refine Jx.assign rfl rfl (J.nil (N.seq (W.seq (W.region (Jx.move rfl rfl ?_))))))
 (refine J.call ((ct' b)) rfl (evs_args rfl) rfl ?_; rintro _ _ ⟨rfl, rfl⟩; simp only [la1, la2, la3])
 (refine Jx.assign rfl rfl (J.nil (N.seq (W.seq (W.region (Jx.move rfl rfl (Jx.lenS rfl rfl ?_)))))))
 (refine Jx.move rfl rfl ?_)
 (refine J.call ((cl' b)) rfl (evs_args rfl) rfl ?_; rintro _ _ ⟨rfl, rfl⟩; simp only [la1, la2, la3])
 (refine Jx.sub64 rfl rfl (by omega) rfl ?_; rw [e0])
 (refine Jx.assign rfl rfl (J.nil (N.seq (W.seq (W.region (Jx.move rfl rfl ?_))))))
 (refine J.call ((cby' b)) rfl (evs_args rfl) rfl ?_; rintro _ _ ⟨a2, rfl, rfl⟩; simp only [la1, la2, la3])
 (refine Jx.assign rfl rfl (J.nil (N.seq (W.seq (W.seq (W.region (Jx.move rfl rfl ?_)))))))
 (refine J.call ((cco b a2 0)) rfl (evs_args rfl) rfl ?_; rintro _ _ ⟨rfl, rfl⟩; simp only [la1, la2, la3])
 (refine Jx.neqI rfl rfl rfl (Jx.move rfl rfl (J.gY rfl rfl rfl ?_)))
 (refine Jx.move rfl rfl (J.gY rfl rfl rfl ?_))
 (refine Jx.move rfl rfl (J.gY rfl rfl rfl ?_))
 (refine Jx.sliceSh (n := ((textB list).length : Int)) rfl rfl (by omega) (by omega) rfl ?_; rw [etn, htk])
 (refine J.gY rfl rfl rfl ?_)
 (refine J.call (csh) rfl (evs_args rfl) rfl ?_; rintro _ _ ⟨rfl, rfl⟩; simp only [la1, la2, la3])
 (refine J.gY rfl rfl rfl ?_)
 (refine Jx.sliceSh (n := 4) rfl rfl (by decide) h432 rfl ?_)
 (refine J.gY rfl rfl rfl ?_)
 (refine Jx.move rfl rfl (J.gY rfl rfl rfl ?_))
 (refine Jx.neqS rfl rfl rfl (Jx.pF rfl rfl rfl ?_))
 (refine J.nil (N.seq (W.cF rfl ?_)))
 (refine W.skip (N.seq (W.seq (W.region (Jx.move rfl rfl ?_)))))
 (refine J.call (cr2) rfl (evs_args rfl) rfl ?_; rintro _ _ ⟨b2, rfl, rfl⟩; simp only [la1, la2, la3])
 (refine Jx.assign rfl rfl (J.nil (N.seq (W.seq (W.region (Jx.move rfl rfl ?_))))))
 (refine J.call ((cli' b2)) rfl (evs_args rfl) rfl ?_; rintro _ _ ⟨a3, c3, rfl, rfl, h31, h32'⟩; simp only [la1, la2, la3])
 (refine Jx.assign rfl rfl (J.nil (N.seq (W.seq (W.seq (W.region (Jx.move rfl rfl ?_)))))))
 (refine J.call ((cen' b2 a3 c3 h31 h32')) rfl (evs_args rfl) rfl ?_; rintro _ _ ⟨e, a4, c4, rfl, rfl, he⟩; simp only [la1, la2, la3])
 (refine Jx.neqI rfl rfl rfl (J.nil (N.seq (W.cT rfl ?_))))
 (refine W.seq (W.region (Jx.assign rfl rfl (Jx.assign rfl rfl (Jx.assign rfl rfl (J.nil (N.seq (W.ret (N.noGotoRet ?_)))))))))
 (refine id ?_; rotate_left))
          refine N.rowNil 9 1 (elOf encS [] []) ?_
          refine N.freeze 2 rfl (by decide) ?_
          exact N.retD (rs := [.tmp 2, .tmp 3, .tmp 4]) (L1 := []) rfl (.tmp rfl (.tmp rfl (.tmp rfl .nil))) (List.nil_sublist _) ⟨rfl, rfl⟩
      · have h5' : ¬ sum4 (textB list) = r.take 4 := h5
        rw [next_bad (by unfold nextP; rw [ht]; simp only; rw [if_neg h4, if_neg h5'])]
        generalize Sha.shaS (textB list) = sh at *
        refine FnC.intro Tryd.func33 rfl Tryd.ntmps33 rfl fun Z w0 hG => ?_
        focus (
 (refine W.seq (W.region (Jx.assign rfl rfl (Jx.assign rfl rfl (Jx.assign rfl rfl (J.nil (N.seq (W.seq (W.region (Jx.move rfl rfl ?_))))))))))
 (refine J.call (cr) rfl (evs_args rfl) rfl ?_; rintro _ _ ⟨b, rfl, rfl⟩; simp only [la1, la2, la3])
 (refine Jx.assign rfl rfl (J.nil (N.seq (W.seq (W.region (Jx.move rfl rfl ?_))))))
 (refine J.call ((ct' b)) rfl (evs_args rfl) rfl ?_; rintro _ _ ⟨rfl, rfl⟩; simp only [la1, la2, la3])
 (refine Jx.assign rfl rfl (J.nil (N.seq (W.seq (W.region (Jx.move rfl rfl (Jx.lenS rfl rfl ?_)))))))
 (refine Jx.move rfl rfl ?_)
 (refine J.call ((cl' b)) rfl (evs_args rfl) rfl ?_; rintro _ _ ⟨rfl, rfl⟩; simp only [la1, la2, la3])
 (refine Jx.sub64 rfl rfl (by omega) rfl ?_; rw [e0])
 (refine Jx.assign rfl rfl (J.nil (N.seq (W.seq (W.region (Jx.move rfl rfl ?_))))))
 (refine J.call ((cby' b)) rfl (evs_args rfl) rfl ?_; rintro _ _ ⟨a2, rfl, rfl⟩; simp only [la1, la2, la3])
 (refine Jx.assign rfl rfl (J.nil (N.seq (W.seq (W.seq (W.region (Jx.move rfl rfl ?_)))))))
 (refine J.call ((cco b a2 0)) rfl (evs_args rfl) rfl ?_; rintro _ _ ⟨rfl, rfl⟩; simp only [la1, la2, la3])
 (refine Jx.neqI rfl rfl rfl (Jx.move rfl rfl (J.gY rfl rfl rfl ?_)))
 (refine Jx.move rfl rfl (J.gY rfl rfl rfl ?_))
 (refine Jx.move rfl rfl (J.gY rfl rfl rfl ?_))
 (refine Jx.sliceSh (n := ((textB list).length : Int)) rfl rfl (by omega) (by omega) rfl ?_; rw [etn, htk])
 (refine J.gY rfl rfl rfl ?_)
 (refine J.call (csh) rfl (evs_args rfl) rfl ?_; rintro _ _ ⟨rfl, rfl⟩; simp only [la1, la2, la3])
 (refine J.gY rfl rfl rfl ?_)
 (refine Jx.sliceSh (n := 4) rfl rfl (by decide) h432 rfl ?_)
 (refine J.gY rfl rfl rfl ?_)
 (refine Jx.move rfl rfl (J.gY rfl rfl rfl ?_))
 (refine Jx.neqS rfl rfl rfl (Jx.pF rfl rfl rfl ?_))
 (refine J.nil (N.seq (W.cT rfl ?_)))
 (refine W.seq (W.region (Jx.assign rfl rfl (Jx.assign rfl rfl (Jx.assign rfl rfl (J.nil (N.seq (W.ret (N.noGotoRet ?_)))))))))
 (refine id ?_; rotate_left))
        refine N.rowNil 9 1 (elOf encS [] []) ?_
        refine N.freeze 2 rfl (by decide) ?_
        exact N.retD (rs := [.tmp 2, .tmp 3, .tmp 4]) (L1 := []) rfl (.tmp rfl (.tmp rfl (.tmp rfl .nil))) (List.nil_sublist _) ⟨rfl, rfl⟩
end Go.Proofs.YtbdkenlkimiddaaDoor
namespace Go.Proofs.YtbdkenlkimiddaaDoor
open Go Go.Sse
set_option linter.unusedVariables false
set_option linter.unusedSimpArgs false
set_option maxRecDepth 10000
abbrev tBt : Nat := 43
def encBt (b : Bt) : List SV := [ssl b]
abbrev btL (l : List Bt) : SV := .sl 1 l.length (elOf encBt [] l)
theorem scan_step {s : List UInt8} {w : Nat} {out : List Bt} {b : Bt} {n : Nat} (h : scanP s = (out ++ (scanP (s.drop w)).1, w + (scanP (s.drop w)).2)) (hn : nextP (s.drop w) = some (b, n)) :
    scanP s = ((out ++ [b]) ++ (scanP (s.drop (w + n))).1, w + n + (scanP (s.drop (w + n))).2) := by
  rw [h, scanP_some hn, List.drop_drop]
  simp only [List.append_assoc, List.cons_append, List.nil_append, Nat.add_assoc]
set_option maxHeartbeats 4000000 in
theorem Scan_ok (s : List UInt8) (hs : s.length ≤ 2097152) : FnC Tryd.prog 9 [str s] [] (fun r L => r = .tup [btL (scanP s).1, int ((scanP s).2 : Int)] ∧ L = []) := by
  refine FnC.intro Tryd.func9 rfl Tryd.ntmps9 rfl fun Z w0 hG => ?_
  focus (
 (refine W.seq (W.region (Jx.assign rfl rfl (Jx.assign rfl rfl (J.nil (N.seq (W.scopeS ?_)))))))
 (refine W.seq (W.label (N.seq (W.seq (W.block ?_)))))
 (refine id ?_; rotate_left))
  refine W.rowNil tBt 1 (elOf encBt [] []) ?_
  refine W.loop (α := List Bt × Nat × Value) (fun x => [(3, int (x.2.1 : Int)), (2, .val x.2.2), (0, str s)]) (fun x => [.row x.2.2 tBt 1 x.1.length (elOf encBt [] x.1)]) (fun x => x.2.1 ≤ s.length ∧ x.1.length ≤ x.2.1 ∧ scanP s = (x.1 ++ (scanP (s.drop x.2.1)).1, x.2.1 + (scanP (s.drop x.2.1)).2)) (fun x => s.length - x.2.1) ([], 0, .slice none 0 0) ⟨by simp, by simp, by simp⟩ rfl ⟨ref0 rfl, ref0 rfl, ref0 rfl, trivial⟩ ?_
  rintro ⟨out, w, v⟩ ⟨hw, hol, hsc⟩
  simp only at hw hol hsc ⊢
  by_cases h1 : w < s.length
  · have hdl : (s.drop w).length ≤ 1099511627776 := by rw [List.length_drop]; omega
    have cn := next_ok (s.drop w) hdl
    cases hn : nextP (s.drop w) with
    | none =>
      rw [next_bad hn] at cn
      have he : scanP s = (out, w) := by rw [hsc, scanP_none hn]; simp
      rw [he]
      focus (
 (refine W.seq (W.seq (W.region (Jx.move rfl rfl (Jx.move rfl rfl (Jx.lenS rfl rfl ?_))))))
 (refine Jx.lssI rfl rfl rfl (J.nil (N.seq (W.cT rfl ?_))))
 (refine W.skip (N.seq (W.block (W.seq (W.region (Jx.move rfl rfl (Jx.move rfl rfl ?_)))))))
 (refine Jx.sliceSl rfl rfl (by omega) (by omega) rfl ?_; rw [Int.toNat_natCast])
 (refine J.call (cn) rfl (evs_args rfl) rfl ?_; rintro _ _ ⟨rfl, rfl⟩; simp only [la1, la2, la3])
 (refine Jx.move rfl rfl (Jx.extract rfl rfl rfl ?_))
 (refine Jx.extract rfl rfl rfl ?_)
 (refine Jx.extract rfl rfl rfl ?_)
 (refine Jx.assign rfl rfl (Jx.assign rfl rfl (Jx.assign rfl rfl (J.nil (N.seq (W.seq (W.seq (W.region (Jx.move rfl rfl (Jx.not rfl rfl (J.nil (N.seq (W.cT rfl ?_)))))))))))))
 (refine W.exit (N.seq (W.seq (W.region (Jx.move rfl rfl (Jx.move rfl rfl (Jx.assign rfl rfl (Jx.assign rfl rfl (J.nil (N.seq (W.ret (N.noGotoRet ?_))))))))))))
 (refine id ?_; rotate_left))
      refine N.freeze 2 rfl (by simp only [maxLen]; omega) ?_
      exact N.retD (rs := [.tmp 2, .tmp 3]) (L1 := []) rfl (.tmp rfl (.tmp rfl .nil)) (List.nil_sublist _) ⟨rfl, rfl⟩
    | some p =>
      obtain ⟨b, n⟩ := p
      rw [next_good hn] at cn
      have hst := scan_step hsc hn
      have hle := nextP_le hn
      rw [List.length_drop] at hle
      have e1 : (w : Int) + (n : Int) = ((w + n : Nat) : Int) := by omega
      have hm : out.length + [b].length ≤ maxLen ∧ (out.length + [b].length) * 24 ≤ 140737488355328 := by simp only [maxLen, List.length_cons, List.length_nil]; omega
      focus (
 (refine W.seq (W.seq (W.region (Jx.move rfl rfl (Jx.move rfl rfl (Jx.lenS rfl rfl ?_))))))
 (refine Jx.lssI rfl rfl rfl (J.nil (N.seq (W.cT rfl ?_))))
 (refine W.skip (N.seq (W.block (W.seq (W.region (Jx.move rfl rfl (Jx.move rfl rfl ?_)))))))
 (refine Jx.sliceSl rfl rfl (by omega) (by omega) rfl ?_; rw [Int.toNat_natCast])
 (refine J.call (cn) rfl (evs_args rfl) rfl ?_; rintro _ _ ⟨rfl, rfl⟩; simp only [la1, la2, la3])
 (refine Jx.move rfl rfl (Jx.extract rfl rfl rfl ?_))
 (refine Jx.extract rfl rfl rfl ?_)
 (refine Jx.extract rfl rfl rfl ?_)
 (refine Jx.assign rfl rfl (Jx.assign rfl rfl (Jx.assign rfl rfl (J.nil (N.seq (W.seq (W.seq (W.region (Jx.move rfl rfl (Jx.not rfl rfl (J.nil (N.seq (W.cF rfl ?_)))))))))))))
 (refine W.skip (N.seq (W.seq (W.region (Jx.move rfl rfl (Jx.move rfl rfl ?_))))))
 (refine J.qs (Qs.buildL (fun b => ssl b) [] [b] (fun _ => One.sl) rfl rfl rfl (by decide) (by decide) rfl) rfl ?_)
 (refine J.appendAt (enc := encBt) (l := out) (l2 := [b]) 0 rfl rfl (SrcOK.sl rfl) rfl rfl hm rfl ?_; intro v2 hv2)
 (refine Jx.assign rfl rfl (J.nil (N.seq (W.region (Jx.move rfl rfl (Jx.move rfl rfl ?_))))))
 (refine Jx.add64 rfl rfl (by omega) rfl ?_; rw [e1])
 (refine Jx.assign rfl rfl (J.nil (N.noGotoNormal ?_)))
 (refine id ?_; rotate_left))
      exact N.round (out ++ [b], w + n, v2) ⟨by simp only; omega, by simp only [List.length_append, List.length_cons, List.length_nil]; omega, hst⟩ (by simp only; omega) rfl ⟨ref0 rfl, ref0 rfl, ref0 rfl, trivial⟩
  · have he : scanP s = (out, w) := by
      rw [hsc, show s.drop w = [] from List.drop_of_length_le (by omega), scanP_nil]; simp
    rw [he]
    focus (
 (refine W.seq (W.seq (W.region (Jx.move rfl rfl (Jx.move rfl rfl (Jx.lenS rfl rfl ?_))))))
 (refine Jx.lssI rfl rfl rfl (J.nil (N.seq (W.cF rfl ?_))))
 (refine W.exit (N.seq (W.seq (W.region (Jx.move rfl rfl (Jx.move rfl rfl (Jx.assign rfl rfl (Jx.assign rfl rfl (J.nil (N.seq (W.ret (N.noGotoRet ?_))))))))))))
 (refine id ?_; rotate_left))
    refine N.freeze 2 rfl (by simp only [maxLen]; omega) ?_
    exact N.retD (rs := [.tmp 2, .tmp 3]) (L1 := []) rfl (.tmp rfl (.tmp rfl .nil)) (List.nil_sublist _) ⟨rfl, rfl⟩
set_option maxHeartbeats 2000000 in
theorem same2_ok (l m : List Bt) (hb : ∀ b ∈ l, b.length ≤ 1048576) (hl : l.length ≤ 4194304) : FnC Tryd.prog 10 [btL l, btL m] [] (fun v L => v = bool (decide (l = m)) ∧ L = []) := by
  by_cases h0 : l.length = m.length
  · have h0' : (l.length : Int) = (m.length : Int) := by omega
    have h0'' : ¬ ((l.length : Int) ≠ (m.length : Int)) := fun h => h h0'
    refine FnC.intro Tryd.func10 rfl Tryd.ntmps10 rfl fun Z w0 hG => ?_
    focus (
 (refine W.seq (W.region (Jx.assign rfl rfl (J.nil (N.seq (W.seq (W.seq (W.region (Jx.move rfl rfl (Jx.lenSl rfl rfl ?_))))))))))
 (refine Jx.move rfl rfl (Jx.lenSl rfl rfl ?_))
 (refine Jx.neqI rfl rfl rfl (J.nil (N.seq (W.cF rfl ?_))))
 (refine W.skip (N.seq (W.seq (W.seq (W.region (Jx.assign rfl rfl (J.nil (N.seq (W.block ?_)))))))))
 (refine id ?_; rotate_left))
    refine W.loop (α := Nat) (fun i => [(5, int (i : Int)), (0, btL l), (1, btL m)]) (fun _ => []) (fun i => i ≤ l.length ∧ l.take i = m.take i) (fun i => l.length - i) 0 ⟨by simp, by simp⟩ rfl ⟨ref0 rfl, ref0 rfl, ref0 rfl, trivial⟩ ?_
    rintro i ⟨hi, ht⟩
    by_cases h1 : i < l.length
    · have h2 : i < m.length := by omega
      have e1 : l.take (i + 1) = l.take i ++ [l.getD i []] := by rw [List.take_add_one, List.getElem?_eq_getElem h1, List.getD_eq_getElem?_getD, List.getElem?_eq_getElem h1]; rfl
      have e2 : m.take (i + 1) = m.take i ++ [m.getD i []] := by rw [List.take_add_one, List.getElem?_eq_getElem h2, List.getD_eq_getElem?_getD, List.getElem?_eq_getElem h2]; rfl
      have hmem : l.getD i [] ∈ l := by rw [List.getD_eq_getElem?_getD, List.getElem?_eq_getElem h1]; exact List.getElem_mem _
      have cs := same_ok (l.getD i []) (m.getD i []) (hb _ hmem)
      by_cases h3 : l.getD i [] = m.getD i []
      · rw [decide_eq_true h3] at cs
        focus (
 (refine W.seq (W.seq (W.region (Jx.move rfl rfl (Jx.move rfl rfl (Jx.lenSl rfl rfl ?_))))))
 (refine Jx.lssI rfl rfl rfl (J.nil (N.seq (W.cT rfl ?_))))
 (refine W.skip (N.seq (W.seq (W.block (W.seq ?_)))))
 (refine W.draw follows ?_)
 (refine JD.calm rfl (by decide +kernel) ?_)
 (refine Cx.move rfl rfl ?_)
 (refine Cx.move rfl rfl ?_)
 (refine Cx.indexEl rfl rfl (by assumption) rfl rfl ?_)
 (refine Cx.loadPP rfl rfl ?_)
 (refine Cx.move rfl rfl ?_)
 (refine Cx.move rfl rfl ?_)
 (refine Cx.indexEl rfl rfl (by assumption) rfl rfl ?_)
 (refine Cx.loadPP rfl rfl ?_)
 (refine SegC.q (Qs.call (Lc := []) (cs) (fun s L' h => h) (List.Perm.refl _) (evs_args rfl)) rfl ?_)
 (refine Cx.not rfl rfl ?_)
 (refine SegC.nil ?_)
 (refine N.seq (W.cF rfl ?_))
 (refine W.skip (N.seq (W.region (Jx.move rfl rfl (Jx.add64 rfl rfl (by omega) rfl ?_)))))
 (refine Jx.assign rfl rfl (J.nil ?_))
 (refine id ?_; rotate_left))
        exact N.round (i + 1) ⟨h1, by rw [e1, e2, ht, h3]⟩ (by omega) rfl ⟨ref0 rfl, ref0 rfl, ref0 rfl, trivial⟩
      · rw [decide_eq_false h3] at cs
        rw [decide_eq_false (fun e : l = m => h3 (by rw [e]))]
        focus (
 (refine W.seq (W.seq (W.region (Jx.move rfl rfl (Jx.move rfl rfl (Jx.lenSl rfl rfl ?_))))))
 (refine Jx.lssI rfl rfl rfl (J.nil (N.seq (W.cT rfl ?_))))
 (refine W.skip (N.seq (W.seq (W.block (W.seq ?_)))))
 (refine W.draw follows ?_)
 (refine JD.calm rfl (by decide +kernel) ?_)
 (refine Cx.move rfl rfl ?_)
 (refine Cx.move rfl rfl ?_)
 (refine Cx.indexEl rfl rfl (by assumption) rfl rfl ?_)
 (refine Cx.loadPP rfl rfl ?_)
 (refine Cx.move rfl rfl ?_)
 (refine Cx.move rfl rfl ?_)
 (refine Cx.indexEl rfl rfl (by assumption) rfl rfl ?_)
 (refine Cx.loadPP rfl rfl ?_)
 (refine SegC.q (Qs.call (Lc := []) (cs) (fun s L' h => h) (List.Perm.refl _) (evs_args rfl)) rfl ?_)
 (refine Cx.not rfl rfl ?_)
 (refine SegC.nil ?_)
 (refine N.seq (W.cT rfl ?_))
 (refine W.seq (W.region (Jx.assign rfl rfl (J.nil (N.seq (W.ret (N.noGotoRet (N.noGotoRet (N.noGotoRet (N.noGotoRet (N.noGotoRet ?_)))))))))))
 (refine id ?_; rotate_left))
        exact N.ret (rs := [.tmp 4]) rfl (.tmp rfl .nil) ⟨rfl, rfl⟩
    · rw [List.take_of_length_le (by omega), List.take_of_length_le (by omega)] at ht
      rw [decide_eq_true ht]
      focus (
 (refine W.seq (W.seq (W.region (Jx.move rfl rfl (Jx.move rfl rfl (Jx.lenSl rfl rfl ?_))))))
 (refine Jx.lssI rfl rfl rfl (J.nil (N.seq (W.cF rfl ?_))))
 (refine W.exit (N.seq (W.seq (W.region (Jx.assign rfl rfl (J.nil (N.seq (W.ret ?_))))))))
 (refine id ?_; rotate_left))
      exact N.ret (rs := [.tmp 4]) rfl (.tmp rfl .nil) ⟨rfl, rfl⟩
  · have h0' : ¬ (l.length : Int) = (m.length : Int) := by omega
    rw [decide_eq_false (fun e : l = m => h0 (by rw [e]))]
    refine FnC.intro Tryd.func10 rfl Tryd.ntmps10 rfl fun Z w0 hG => ?_
    focus (
 (refine W.seq (W.region (Jx.assign rfl rfl (J.nil (N.seq (W.seq (W.seq (W.region (Jx.move rfl rfl (Jx.lenSl rfl rfl ?_))))))))))
 (refine Jx.move rfl rfl (Jx.lenSl rfl rfl ?_))
 (refine Jx.neqI rfl rfl rfl (J.nil (N.seq (W.cT rfl ?_))))
 (refine W.seq (W.region (Jx.assign rfl rfl (J.nil (N.seq (W.ret (N.noGotoRet ?_)))))))
 (refine id ?_; rotate_left))
    exact N.ret (rs := [.tmp 4]) rfl (.tmp rfl .nil) ⟨rfl, rfl⟩
end Go.Proofs.YtbdkenlkimiddaaDoor
namespace Go.Proofs.YtbdkenlkimiddaaDoor
open Go Go.Sse Go.ChangeShapes Go.WideShapes Go.ChangeAt Go.RowKit
set_option linter.unusedVariables false
set_option linter.unusedSimpArgs false
set_option maxRecDepth 100000
noncomputable def rdBts : Rd Tryd.prog 22 (List Bt) := Rd.slice (by kernel_rfl) (by kernel_rfl) rdStrs rfl
noncomputable def rdByte : Rd Tryd.prog 5 Int := Rd.int (k := .u8) (by kernel_rfl) (by kernel_rfl)
theorem byte_of {n : Int} (h : (Lit.int .u8 n).wf = true) : SV.val (.int .u8 n) = byte (UInt8.ofNat n.toNat) := by
  have h2 : 0 ≤ n ∧ n ≤ 255 := by simpa [Lit.wf, IntKind.min, IntKind.max, IntKind.signed, IntKind.bits] using h
  have : ((UInt8.ofNat n.toNat).toNat : Int) = n := by
    rw [UInt8.toNat_ofNat']
    omega
  rw [byte, this]
end Go.Proofs.YtbdkenlkimiddaaDoor
namespace Go.Proofs.YtbdkenlkimiddaaDoor
open Go Go.Sse
set_option linter.unusedVariables false
set_option linter.unusedSimpArgs false
set_option maxRecDepth 10000
theorem ab_ok : okB [[97, 98]] = true := by decide +kernel
theorem ab_list : listB [[97, 98]] = [1, 1, 1, 2, 97, 98] := by decide +kernel
theorem x_none : nextP [120] = none := by decide +kernel
set_option maxHeartbeats 4000000 in
theorem works_ok : FnC Tryd.prog 7 [] [] (fun r L => r = bool true ∧ L = []) := by
  have c1 := Record_ok [[97, 98]]
  rw [recR_yes ab_ok] at c1
  have c2 := text_ok [1, 1, 1, 2, 97, 98] (by decide)
  have hb : textB [1, 1, 1, 2, 97, 98] = bodB [[97, 98]] := by rw [bodB, ab_list]
  rw [hb] at c2
  have hbl := bod_len ab_ok
  have hrl := rec_len ab_ok
  have c3 := Sha.hsum_ok (bodB [[97, 98]]) (by omega)
  have h32 := Sha.shaS_len (bodB [[97, 98]])
  have hrec : recB [[97, 98]] = bodB [[97, 98]] ++ (Sha.shaS (bodB [[97, 98]])).take (4 : Int).toNat := rfl
  have c4 := Scan_ok (recB [[97, 98]] ++ [120]) (by simp only [List.length_append, List.length_cons, List.length_nil]; omega)
  have hsc : scanP (recB [[97, 98]] ++ [120]) = ([[[97, 98]]], (recB [[97, 98]]).length) := by
    have := scanP_part (l := [[[97, 98]]]) (fun b hb => by rw [List.mem_singleton.1 hb]; exact ab_ok) x_none
    have e : recsB [[[97, 98]]] = recB [[97, 98]] := by simp [recsB]
    rw [e] at this; exact this
  rw [hsc] at c4
  simp only at c4
  generalize hR : recB [[97, 98]] = rr at *
  generalize hB : bodB [[97, 98]] = bb at *
  generalize hS : Sha.shaS bb = sh at *
  have h32' : (sh.length : Int) = 32 := by omega
  have h4 : (4 : Int) ≤ (sh.length : Int) := by omega
  refine FnC.intro Tryd.func7 rfl Tryd.ntmps7 rfl fun Z w0 hG => ?_
  focus (
 (refine W.seq (W.region (Jx.assign rfl rfl (J.nil (N.seq (W.seq (W.region ?_)))))))
 (refine J.qs (Qs.buildTexts [[97, 98]] rfl rfl rfl (by decide) (by decide)) rfl ?_)
 (refine J.call (c1) rfl (evs_args rfl) rfl ?_; rintro _ _ ⟨rfl, rfl⟩; simp only [la1, la2, la3])
 (refine Jx.move rfl rfl (Jx.extract rfl rfl rfl ?_))
 (refine Jx.extract rfl rfl rfl ?_)
 (refine Jx.assign rfl rfl (Jx.assign rfl rfl (J.nil (N.seq (W.seq (W.region ?_))))))
 (refine J.call (c2) rfl (evs_args rfl) rfl ?_; rintro _ _ ⟨rfl, rfl⟩; simp only [la1, la2, la3])
 (refine Jx.assign rfl rfl (J.nil (N.seq (W.seq (W.region (Jx.move rfl rfl ?_))))))
 (refine J.call (c3) rfl (evs_args rfl) rfl ?_; rintro _ _ ⟨rfl, rfl⟩; simp only [la1, la2, la3])
 (refine Jx.assign rfl rfl (J.nil (N.seq (W.seq (W.region (Jx.move rfl rfl (Jx.cat rfl rfl (by simp only [maxLen, List.length_cons, List.length_nil, List.length_take]; omega) rfl ?_)))))))
 (refine J.call (c4) rfl (evs_args rfl) rfl ?_; rintro _ _ ⟨rfl, rfl⟩; simp only [la1, la2, la3])
 (refine Jx.move rfl rfl (Jx.extract rfl rfl rfl ?_))
 (refine Jx.extract rfl rfl rfl ?_)
 (refine Jx.assign rfl rfl (Jx.assign rfl rfl (J.nil (N.seq (W.seq (W.region (Jx.move rfl rfl (Jx.lenS rfl rfl ?_))))))))
 (refine Jx.eqlI rfl rfl rfl (Jx.move rfl rfl (J.gY rfl rfl rfl ?_)))
 (refine Jx.move rfl rfl (J.gY rfl rfl rfl ?_))
 (refine Jx.move rfl rfl (J.gY rfl rfl rfl ?_))
 (refine Jx.move rfl rfl (J.gY rfl rfl rfl ?_))
 (refine Jx.sliceSh rfl rfl (by decide) h4 rfl ?_)
 (refine J.gY rfl rfl rfl ?_)
 (refine Jx.cat rfl rfl (by simp only [maxLen, List.length_cons, List.length_nil, List.length_take]; omega) rfl ?_)
 (refine J.gY rfl rfl rfl ?_)
 (refine Jx.eqlS rfl rfl rfl (Jx.pT rfl rfl rfl ?_))
 (refine Jx.move rfl rfl (J.gY rfl rfl rfl ?_))
 (refine Jx.move rfl rfl (J.gY rfl rfl rfl ?_))
 (refine Jx.eqlI rfl rfl rfl (Jx.pT rfl rfl rfl ?_))
 (refine Jx.move rfl rfl (J.gY rfl rfl rfl ?_))
 (refine Jx.move rfl rfl (J.gY rfl rfl rfl ?_))
 (refine Jx.lenSl rfl rfl ?_)
 (refine J.gY rfl rfl rfl ?_)
 (refine Jx.eqlI rfl rfl rfl (Jx.pT rfl rfl rfl ?_))
 (refine Jx.move rfl rfl (J.gY rfl rfl rfl ?_))
 (refine Jx.move rfl rfl (J.gY rfl rfl rfl ?_))
 (refine Jx.indexEl (j := 0) rfl rfl (by decide) rfl rfl ?_)
 (refine J.gY rfl rfl rfl ?_)
 (refine Jx.loadPP rfl rfl ?_)
 (refine J.gY rfl rfl rfl ?_)
 (refine Jx.lenSl rfl rfl ?_)
 (refine J.gY rfl rfl rfl ?_)
 (refine Jx.eqlI rfl rfl rfl (Jx.pT rfl rfl rfl ?_))
 (refine Jx.move rfl rfl (J.gY rfl rfl rfl ?_))
 (refine Jx.move rfl rfl (J.gY rfl rfl rfl ?_))
 (refine Jx.indexEl (j := 0) rfl rfl (by decide) rfl rfl ?_)
 (refine J.gY rfl rfl rfl ?_)
 (refine Jx.loadPP rfl rfl ?_)
 (refine J.gY rfl rfl rfl ?_)
 (refine Jx.indexEl (j := 0) rfl rfl (by decide) rfl rfl ?_)
 (refine J.gY rfl rfl rfl ?_)
 (refine Jx.loadPP rfl rfl ?_)
 (refine J.gY rfl rfl rfl ?_)
 (refine Jx.eqlS rfl rfl rfl (Jx.pT rfl rfl rfl ?_))
 (refine Jx.move rfl rfl (J.gY rfl rfl rfl ?_))
 (refine Jx.move rfl rfl (J.gY rfl rfl rfl ?_))
 (refine Jx.move rfl rfl (J.gY rfl rfl rfl ?_))
 (refine Jx.lenS rfl rfl ?_)
 (refine J.gY rfl rfl rfl ?_)
 (refine Jx.eqlI rfl rfl rfl (Jx.pT rfl rfl rfl ?_))
 (refine Jx.assign rfl rfl (J.nil (N.seq (W.ret ?_))))
 (refine id ?_; rotate_left))
  exact N.ret (rs := [.tmp 0]) rfl (.tmp rfl .nil) ⟨by simp [oneOr], rfl⟩
abbrev isl (l : List Int) : SV := .sl 1 l.length (elOf (fun n => [int n]) 0 l)
def wrB (l : List Bt) : Bool := decide (l.length ≤ 10) && l.all (fun b => fewB b 10 200)
theorem wrB_spec {l : List Bt} (h : wrB l = true) : l.length ≤ 10 ∧ ∀ b ∈ l, fewB b 10 200 = true := by
  simp only [wrB, Bool.and_eq_true, decide_eq_true_eq, List.all_eq_true] at h
  exact h
theorem texts_small : ∀ {b : Bt}, (∀ s ∈ b, s.length ≤ 200) → ((b.map textB).flatten).length ≤ 209 * b.length
  | [], _ => by simp
  | s :: b, h => by
    have h1 := texts_small (b := b) (fun t ht => h t (List.mem_cons_of_mem _ ht))
    have h2 := h s (List.mem_cons_self ..)
    have h3 := (numB_len (n := s.length) (by omega)).2
    simp only [List.map_cons, List.flatten_cons, List.length_append, List.length_cons, textB]
    omega
theorem few_rec {b : Bt} (h : fewB b 10 200 = true) : okB b = true ∧ (recB b).length ≤ 2200 := by
  obtain ⟨h1, h2⟩ := few_spec (n := 10) (e := 200) h
  have h3 := texts_small h2
  have h4 := (numB_len (n := b.length) (by omega)).2
  have h5 : (listB b).length ≤ 2099 := by simp only [listB, List.length_append]; omega
  have h6 := (numB_len (n := (listB b).length) (by omega)).2
  refine ⟨(okB_iff _).2 ⟨by omega, fun s hs => by have := h2 s hs; omega, by omega⟩, ?_⟩
  rw [recB_len, bodB, textB, List.length_append]; omega
theorem recs_len : ∀ {l : List Bt}, (∀ b ∈ l, fewB b 10 200 = true) → (recsB l).length ≤ 2200 * l.length
  | [], _ => by simp [recsB]
  | b :: l, h => by
    have h1 := recs_len (l := l) (fun t ht => h t (List.mem_cons_of_mem _ ht))
    have h2 := (few_rec (h b (List.mem_cons_self ..))).2
    rw [recsB_cons, List.length_append, List.length_cons]; omega
theorem take_up {α : Type} (l : List α) (d : α) {i : Nat} (h : i < l.length) : l.take (i + 1) = l.take i ++ [l.getD i d] := by
  rw [List.take_add_one, List.getElem?_eq_getElem h, List.getD_eq_getElem?_getD, List.getElem?_eq_getElem h]; rfl
theorem mem_getD {α : Type} (l : List α) (d : α) {i : Nat} (h : i < l.length) : l.getD i d ∈ l := by
  rw [List.getD_eq_getElem?_getD, List.getElem?_eq_getElem h]; exact List.getElem_mem _
theorem recs_up (l : List Bt) {i : Nat} (h : i < l.length) : recsB (l.take (i + 1)) = recsB (l.take i) ++ recB (l.getD i []) := by
  rw [take_up l [] h, recsB_append, recsB_cons]; simp [recsB]
def endsP (l : List Bt) (k : Nat) : List Int := (List.range k).map (fun i => (((recsB (l.take (i + 1))).length : Nat) : Int))
theorem endsP_len (l : List Bt) (k : Nat) : (endsP l k).length = k := by simp [endsP]
theorem endsP_up (l : List Bt) (k : Nat) : endsP l (k + 1) = endsP l k ++ [(((recsB (l.take (k + 1))).length : Nat) : Int)] := by
  simp [endsP, List.range_succ]
theorem endsP_get (l : List Bt) {k i : Nat} (h : i < k) : (endsP l k).getD i 0 = (((recsB (l.take (i + 1))).length : Nat) : Int) := by
  rw [List.getD_eq_getElem?_getD, endsP, List.getElem?_map, List.getElem?_range h]; rfl
set_option maxHeartbeats 4000000 in
theorem written_no (l : List Bt) (hw : wrB l = false) : FnC Tryd.prog 8 [btL l] [] (fun r L => r = .tup [str [], isl [], bool false] ∧ L = []) := by
  refine FnC.intro Tryd.func8 rfl Tryd.ntmps8 rfl fun Z w0 hG => ?_
  by_cases h0 : (10 : Int) < (l.length : Int)
  · focus (
 (refine W.seq (W.region (Jx.assign rfl rfl (Jx.assign rfl rfl (Jx.assign rfl rfl (J.nil (N.seq (W.seq (W.region (Jx.assign rfl rfl (J.nil (N.seq (W.seq (W.region ?_))))))))))))))
 (refine Jx.assign rfl rfl (J.nil (N.seq (W.seq (W.seq (W.region (Jx.move rfl rfl (Jx.lenSl rfl rfl ?_))))))))
 (refine Jx.gtrI rfl rfl rfl (J.nil (N.seq (W.cT rfl ?_))))
 (refine W.seq (W.region (Jx.assign rfl rfl (Jx.assign rfl rfl (Jx.assign rfl rfl (J.nil (N.seq (W.ret (N.noGotoRet ?_)))))))))
 (refine id ?_; rotate_left))
    refine N.told (G := [(2, str []), (3, isl []), (4, bool false)]) ⟨ref0 rfl, ⟨_, rfl, Sub.nil 1 _⟩, ref0 rfl, trivial⟩ ?_
    exact N.ret (rs := [.tmp 2, .tmp 3, .tmp 4]) rfl (.tmp rfl (.tmp rfl (.tmp rfl .nil))) ⟨rfl, rfl⟩
  · focus (
 (refine W.seq (W.region (Jx.assign rfl rfl (Jx.assign rfl rfl (Jx.assign rfl rfl (J.nil (N.seq (W.seq (W.region (Jx.assign rfl rfl (J.nil (N.seq (W.seq (W.region ?_))))))))))))))
 (refine Jx.assign rfl rfl (J.nil (N.seq (W.seq (W.seq (W.region (Jx.move rfl rfl (Jx.lenSl rfl rfl ?_))))))))
 (refine Jx.gtrI rfl rfl rfl (J.nil (N.seq (W.cF rfl ?_))))
 (refine W.skip (N.seq (W.seq (W.seq (W.region (Jx.move rfl rfl (Jx.lenSl rfl rfl ?_)))))))
 (refine Jx.move rfl rfl (J.nil (N.seq (W.block ?_))))
 (refine id ?_; rotate_left))
    refine W.rowNil 3 1 (elOf (fun n => [int n]) 0 []) ?_
    refine W.loop (α := Nat × Value) (fun x => [(16, int (x.1 : Int)), (15, int (l.length : Int)), (14, btL l), (5, str (recsB (l.take x.1))), (6, .val x.2)]) (fun x => [.row x.2 3 1 (endsP l x.1).length (elOf (fun n => [int n]) 0 (endsP l x.1))]) (fun x => x.1 ≤ l.length ∧ (∀ b ∈ l.take x.1, fewB b 10 200 = true)) (fun x => l.length - x.1) (0, .slice none 0 0) ⟨by simp, by simp⟩ rfl ⟨ref0 rfl, ref0 rfl, ref0 rfl, ref0 rfl, ref0 rfl, trivial⟩ ?_
    rintro ⟨i, v⟩ ⟨hi, hall⟩
    simp only at hi hall ⊢
    by_cases h1 : i < l.length
    · have hm := mem_getD l [] h1
      have cf := few_ok (l.getD i []) 10 200 (by decide)
      have cr := Record_ok (l.getD i [])
      cases hf : fewB (l.getD i []) 10 200 with
      | false =>
        rw [hf] at cf
        focus (
 (refine W.seq (W.region (Jx.lssI rfl rfl rfl (J.nil (N.seq (W.seq (W.cT rfl ?_)))))))
 (refine W.skip (N.seq (W.seq (W.block (W.seq (W.region (Jx.indexEl rfl rfl (by assumption) rfl rfl ?_)))))))
 (refine Jx.loadPP rfl rfl ?_)
 (refine Jx.assign rfl rfl (J.nil (N.seq (W.seq (W.region (Jx.move rfl rfl ?_))))))
 (refine J.call (cr) rfl (evs_args rfl) rfl ?_; rintro _ _ ⟨rfl, rfl⟩; simp only [la1, la2, la3])
 (refine Jx.move rfl rfl (Jx.extract rfl rfl rfl ?_))
 (refine Jx.extract rfl rfl rfl ?_)
 (refine Jx.assign rfl rfl (Jx.assign rfl rfl (J.nil (N.seq (W.seq (W.seq (W.region (Jx.move rfl rfl ?_))))))))
 (refine J.call (cf) rfl (evs_args rfl) rfl ?_; rintro _ _ ⟨rfl, rfl⟩; simp only [la1, la2, la3])
 (refine Jx.not rfl rfl (Jx.move rfl rfl (J.gN rfl rfl rfl rfl ?_)))
 (refine J.gN rfl rfl rfl rfl ?_)
 (refine Jx.pT rfl rfl rfl ?_)
 (refine J.nil (N.seq (W.cT rfl ?_)))
 (refine W.seq (W.region (Jx.assign rfl rfl (Jx.assign rfl rfl (Jx.assign rfl rfl (J.nil (N.seq (W.ret (N.noGotoRet (N.noGotoRet (N.noGotoRet (N.noGotoRet (N.noGotoRet (N.noGotoRet ?_))))))))))))))
 (refine id ?_; rotate_left))
        refine N.told (G := [(2, str []), (3, isl []), (4, bool false)]) ⟨ref0 rfl, ⟨_, rfl, Sub.nil 1 _⟩, ref0 rfl, trivial⟩ ?_
        exact N.retD (rs := [.tmp 2, .tmp 3, .tmp 4]) (L1 := []) rfl (.tmp rfl (.tmp rfl (.tmp rfl .nil))) (List.nil_sublist _) ⟨rfl, rfl⟩
      | true =>
        rw [hf] at cf
        obtain ⟨hok, hr⟩ := few_rec hf
        rw [recR_yes hok] at cr
        have hl1 := recs_len hall
        rw [List.length_take] at hl1
        have hup := recs_up l h1
        have hcat : (recsB (l.take i)).length + (recB (l.getD i [])).length ≤ 9223372036854775807 := by omega
        have hal := endsP_len l i
        have hmx : (endsP l i).length + [(((recsB (l.take i) ++ recB (l.getD i [])).length : Nat) : Int)].length ≤ maxLen ∧ ((endsP l i).length + [(((recsB (l.take i) ++ recB (l.getD i [])).length : Nat) : Int)].length) * 8 ≤ 140737488355328 := by simp only [maxLen, List.length_cons, List.length_nil]; omega
        focus (
 (refine W.seq (W.region (Jx.lssI rfl rfl rfl (J.nil (N.seq (W.seq (W.cT rfl ?_)))))))
 (refine W.skip (N.seq (W.seq (W.block (W.seq (W.region (Jx.indexEl rfl rfl (by assumption) rfl rfl ?_)))))))
 (refine Jx.loadPP rfl rfl ?_)
 (refine Jx.assign rfl rfl (J.nil (N.seq (W.seq (W.region (Jx.move rfl rfl ?_))))))
 (refine J.call (cr) rfl (evs_args rfl) rfl ?_; rintro _ _ ⟨rfl, rfl⟩; simp only [la1, la2, la3])
 (refine Jx.move rfl rfl (Jx.extract rfl rfl rfl ?_))
 (refine Jx.extract rfl rfl rfl ?_)
 (refine Jx.assign rfl rfl (Jx.assign rfl rfl (J.nil (N.seq (W.seq (W.seq (W.region (Jx.move rfl rfl ?_))))))))
 (refine J.call (cf) rfl (evs_args rfl) rfl ?_; rintro _ _ ⟨rfl, rfl⟩; simp only [la1, la2, la3])
 (refine Jx.not rfl rfl (Jx.move rfl rfl (J.gY rfl rfl rfl ?_)))
 (refine Jx.move rfl rfl (J.gY rfl rfl rfl ?_))
 (refine Jx.neqI rfl rfl rfl (Jx.pF rfl rfl rfl ?_))
 (refine J.nil (N.seq (W.cF rfl ?_)))
 (refine W.skip (N.seq (W.seq (W.region (Jx.move rfl rfl (Jx.move rfl rfl ?_))))))
 (refine Jx.cat rfl rfl hcat rfl ?_)
 (refine Jx.assign rfl rfl (J.nil (N.seq (W.region (Jx.move rfl rfl (Jx.move rfl rfl (Jx.lenS rfl rfl ?_)))))))
 (refine J.qs (Qs.buildL (fun n : Int => int n) 0 [(((recsB (l.take i) ++ recB (l.getD i [])).length : Nat) : Int)] (fun _ => .val rfl) rfl rfl rfl (by decide) (by decide) rfl) rfl ?_)
 (refine J.appendAt (l := endsP l i) (l2 := [(((recsB (l.take i) ++ recB (l.getD i [])).length : Nat) : Int)]) 0 rfl rfl (SrcOK.sl rfl) rfl rfl hmx rfl ?_; intro v2 hv2)
 (refine Jx.assign rfl rfl (J.nil (N.seq (W.region (Jx.add64 rfl rfl (by omega) rfl ?_)))))
 (refine Jx.move rfl rfl (J.nil ?_))
 (refine id ?_; rotate_left))
        exact N.round (i + 1, v2) ⟨h1, fun b hb => by
          simp only at hb
          rw [take_up l [] h1] at hb
          rcases List.mem_append.1 hb with hb | hb
          · exact hall b hb
          · rw [List.mem_singleton.1 hb]; exact hf⟩ (by simp only; omega) (by simp only; rw [endsP_up, hup]; rfl) ⟨ref0 rfl, ref0 rfl, ref0 rfl, ⟨_, rfl, Sub.of_eq (by simp only; rw [hup])⟩, ref0 rfl, trivial⟩
    · have hil : i = l.length := by omega
      rw [hil, List.take_length] at hall
      have : wrB l = true := by simp only [wrB, Bool.and_eq_true, decide_eq_true_eq, List.all_eq_true]; exact ⟨by omega, hall⟩
      rw [hw] at this; cases this
set_option maxHeartbeats 4000000 in
theorem written_yes (l : List Bt) (hw : wrB l = true) : FnC Tryd.prog 8 [btL l] [] (fun r L => r = .tup [str (recsB l), isl (endsP l l.length), bool true] ∧ L = []) := by
  obtain ⟨w1, w2⟩ := wrB_spec hw
  refine FnC.intro Tryd.func8 rfl Tryd.ntmps8 rfl fun Z w0 hG => ?_
  have h0 : ¬ (10 : Int) < (l.length : Int) := by omega
  focus (
 (refine W.seq (W.region (Jx.assign rfl rfl (Jx.assign rfl rfl (Jx.assign rfl rfl (J.nil (N.seq (W.seq (W.region (Jx.assign rfl rfl (J.nil (N.seq (W.seq (W.region ?_))))))))))))))
 (refine Jx.assign rfl rfl (J.nil (N.seq (W.seq (W.seq (W.region (Jx.move rfl rfl (Jx.lenSl rfl rfl ?_))))))))
 (refine Jx.gtrI rfl rfl rfl (J.nil (N.seq (W.cF rfl ?_))))
 (refine W.skip (N.seq (W.seq (W.seq (W.region (Jx.move rfl rfl (Jx.lenSl rfl rfl ?_)))))))
 (refine Jx.move rfl rfl (J.nil (N.seq (W.block ?_))))
 (refine id ?_; rotate_left))
  refine W.rowNil 3 1 (elOf (fun n => [int n]) 0 []) ?_
  refine W.loop (α := Nat × Value) (fun x => [(16, int (x.1 : Int)), (15, int (l.length : Int)), (14, btL l), (5, str (recsB (l.take x.1))), (6, .val x.2)]) (fun x => [.row x.2 3 1 (endsP l x.1).length (elOf (fun n => [int n]) 0 (endsP l x.1))]) (fun x => x.1 ≤ l.length) (fun x => l.length - x.1) (0, .slice none 0 0) (by simp) rfl ⟨ref0 rfl, ref0 rfl, ref0 rfl, ref0 rfl, ref0 rfl, trivial⟩ ?_
  rintro ⟨i, v⟩ hi
  simp only at hi ⊢
  by_cases h1 : i < l.length
  · have hf := w2 _ (mem_getD l [] h1)
    have cf := few_ok (l.getD i []) 10 200 (by decide)
    have cr := Record_ok (l.getD i [])
    rw [hf] at cf
    obtain ⟨hok, hr⟩ := few_rec hf
    rw [recR_yes hok] at cr
    have hl1 := recs_len (l := l.take i) (fun b hb => w2 b (List.mem_of_mem_take hb))
    rw [List.length_take] at hl1
    have hup := recs_up l h1
    have hcat : (recsB (l.take i)).length + (recB (l.getD i [])).length ≤ 9223372036854775807 := by omega
    have hal := endsP_len l i
    have hmx : (endsP l i).length + [(((recsB (l.take i) ++ recB (l.getD i [])).length : Nat) : Int)].length ≤ maxLen ∧ ((endsP l i).length + [(((recsB (l.take i) ++ recB (l.getD i [])).length : Nat) : Int)].length) * 8 ≤ 140737488355328 := by simp only [maxLen, List.length_cons, List.length_nil]; omega
    focus (
 (refine W.seq (W.region (Jx.lssI rfl rfl rfl (J.nil (N.seq (W.seq (W.cT rfl ?_)))))))
 (refine W.skip (N.seq (W.seq (W.block (W.seq (W.region (Jx.indexEl rfl rfl (by assumption) rfl rfl ?_)))))))
 (refine Jx.loadPP rfl rfl ?_)
 (refine Jx.assign rfl rfl (J.nil (N.seq (W.seq (W.region (Jx.move rfl rfl ?_))))))
 (refine J.call (cr) rfl (evs_args rfl) rfl ?_; rintro _ _ ⟨rfl, rfl⟩; simp only [la1, la2, la3])
 (refine Jx.move rfl rfl (Jx.extract rfl rfl rfl ?_))
 (refine Jx.extract rfl rfl rfl ?_)
 (refine Jx.assign rfl rfl (Jx.assign rfl rfl (J.nil (N.seq (W.seq (W.seq (W.region (Jx.move rfl rfl ?_))))))))
 (refine J.call (cf) rfl (evs_args rfl) rfl ?_; rintro _ _ ⟨rfl, rfl⟩; simp only [la1, la2, la3])
 (refine Jx.not rfl rfl (Jx.move rfl rfl (J.gY rfl rfl rfl ?_)))
 (refine Jx.move rfl rfl (J.gY rfl rfl rfl ?_))
 (refine Jx.neqI rfl rfl rfl (Jx.pF rfl rfl rfl ?_))
 (refine J.nil (N.seq (W.cF rfl ?_)))
 (refine W.skip (N.seq (W.seq (W.region (Jx.move rfl rfl (Jx.move rfl rfl ?_))))))
 (refine Jx.cat rfl rfl hcat rfl ?_)
 (refine Jx.assign rfl rfl (J.nil (N.seq (W.region (Jx.move rfl rfl (Jx.move rfl rfl (Jx.lenS rfl rfl ?_)))))))
 (refine J.qs (Qs.buildL (fun n : Int => int n) 0 [(((recsB (l.take i) ++ recB (l.getD i [])).length : Nat) : Int)] (fun _ => .val rfl) rfl rfl rfl (by decide) (by decide) rfl) rfl ?_)
 (refine J.appendAt (l := endsP l i) (l2 := [(((recsB (l.take i) ++ recB (l.getD i [])).length : Nat) : Int)]) 0 rfl rfl (SrcOK.sl rfl) rfl rfl hmx rfl ?_; intro v2 hv2)
 (refine Jx.assign rfl rfl (J.nil (N.seq (W.region (Jx.add64 rfl rfl (by omega) rfl ?_)))))
 (refine Jx.move rfl rfl (J.nil ?_))
 (refine id ?_; rotate_left))
    exact N.round (i + 1, v2) h1 (by simp only; omega) (by simp only; rw [endsP_up, hup]; rfl) ⟨ref0 rfl, ref0 rfl, ref0 rfl, ⟨_, rfl, Sub.of_eq (by simp only; rw [hup])⟩, ref0 rfl, trivial⟩
  · have hil : i = l.length := by omega
    subst hil
    rw [List.take_length]
    have hmx : (endsP l l.length).length ≤ maxLen := by rw [endsP_len]; simp only [maxLen]; omega
    focus (
 (refine W.seq (W.region (Jx.lssI rfl rfl rfl (J.nil (N.seq (W.seq (W.cF rfl ?_)))))))
 (refine W.exit (N.seq (W.seq (W.region (Jx.move rfl rfl (Jx.move rfl rfl (Jx.assign rfl rfl (Jx.assign rfl rfl (Jx.assign rfl rfl (J.nil (N.seq (W.ret ?_))))))))))))
 (refine id ?_; rotate_left))
    refine N.freeze 3 rfl hmx ?_
    exact N.retD (rs := [.tmp 2, .tmp 3, .tmp 4]) (L1 := []) rfl (.tmp rfl (.tmp rfl (.tmp rfl .nil))) (List.nil_sublist _) ⟨rfl, rfl⟩
end Go.Proofs.YtbdkenlkimiddaaDoor
namespace Go.Proofs.YtbdkenlkimiddaaDoor
open Go Go.Sse
set_option linter.unusedVariables false
set_option linter.unusedSimpArgs false
set_option maxRecDepth 10000
def below (x : Int) (n : Nat) : Int := (x.tmod n + n) % n
theorem below_le (x : Int) (n : Nat) (h : 0 < n) : 0 ≤ below x n ∧ below x n < n := ⟨Int.emod_nonneg _ (by omega), Int.emod_lt_of_pos _ (by omega)⟩
theorem below_ok (x : Int) (n : Nat) (h : 0 < n) (hn : n ≤ 1048576) : FnC Tryd.prog 11 [int x, int (n : Int)] [] (fun s L => s = int (below x n) ∧ L = []) := by
  have h1 : -(n : Int) < x.tmod n ∧ x.tmod n < n := ⟨by have := Int.lt_tmod_of_pos x (show (0 : Int) < n by omega); omega, Int.tmod_lt_of_pos x (by omega)⟩
  have hb : below x n = (x.tmod n + n) % n := rfl
  refine FnC.intro Tryd.func11 rfl Tryd.ntmps11 rfl fun Z w0 hG => ?_
  focus (
 (refine W.seq (W.region (Jx.assign rfl rfl (J.nil (N.seq (W.seq (W.region (Jx.move rfl rfl (Jx.move rfl rfl (Jx.rem rfl rfl (by omega) rfl ?_))))))))))
 (refine Jx.move rfl rfl (Jx.add64 rfl rfl (by omega) rfl ?_))
 (refine Jx.move rfl rfl (Jx.rem64 rfl rfl (by omega) (by omega) rfl ?_))
 (refine Jx.assign rfl rfl (J.nil (N.seq (W.ret ?_))))
 (refine id ?_; rotate_left))
  exact N.ret (rs := [.tmp 4]) rfl (.tmp rfl .nil) ⟨by rw [hb]; rfl, rfl⟩
end Go.Proofs.YtbdkenlkimiddaaDoor
namespace Go.Proofs.YtbdkenlkimiddaaDoor
open Go Go.Sse
set_option linter.unusedVariables false
set_option linter.unusedSimpArgs false
set_option maxRecDepth 10000
theorem recs_mono (l : List Bt) {i j : Nat} (h : i ≤ j) : (recsB (l.take i)).length ≤ (recsB (l.take j)).length := by
  have : l.take j = l.take i ++ (l.take j).drop i := by
    have := (List.take_append_drop i (l.take j)).symm
    rwa [List.take_take, Nat.min_eq_left h] at this
  rw [this, recsB_append, List.length_append]; omega
theorem recs_split (l : List Bt) (i : Nat) : recsB l = recsB (l.take i) ++ recsB (l.drop i) := by
  rw [← recsB_append, List.take_append_drop]
theorem drop_up {α : Type} (l : List α) (d : α) {i : Nat} (h : i < l.length) : l.drop i = l.getD i d :: l.drop (i + 1) := by
  rw [List.drop_eq_getElem_cons h, List.getD_eq_getElem?_getD, List.getElem?_eq_getElem h]; rfl
end Go.Proofs.YtbdkenlkimiddaaDoor
namespace Go.Proofs.YtbdkenlkimiddaaDoor
open Go Go.Sse
set_option linter.unusedVariables false
set_option linter.unusedSimpArgs false
set_option maxRecDepth 10000
theorem nextP_turned {b : Bt} (hb : okB b = true) {m : List UInt8} (hm : m.length = 4) (hne : m ≠ sum4 (bodB b)) (r : List UInt8) : nextP (bodB b ++ (m ++ r)) = none := by
  obtain ⟨h1, h2, h3⟩ := (okB_iff b).1 hb
  have ht := textP_back (m := 524288) (listB b) (m ++ r) (by omega) (by omega)
  have h4 : ¬ (m ++ r).length < 4 := by rw [List.length_append]; omega
  have h5 : ¬ sum4 (textB (listB b)) = (m ++ r).take 4 := by
    rw [List.take_append_of_le_length (by omega), List.take_of_length_le (by omega)]
    exact fun h => hne h.symm
  unfold nextP
  rw [bodB, ht]
  simp only
  rw [if_neg h4, if_neg h5]
theorem scan_turned {l : List Bt} (hok : ∀ b ∈ l, okB b = true) {i p q : Nat} (hi : i < l.length) (hq : q < 4) (hp : p + 1 + q = (recsB (l.take (i + 1))).length) {y : UInt8} (hy : y ≠ (recsB l).getD p 0) :
    scanP ((recsB l).set p y) = (l.take i, (recsB (l.take i)).length) := by
  have hbo := hok _ (mem_getD l [] hi)
  have e : recsB l = recsB (l.take i) ++ (bodB (l.getD i []) ++ (sum4 (bodB (l.getD i [])) ++ recsB (l.drop (i + 1)))) := by
    conv => lhs; rw [recs_split l i, drop_up l [] hi, recsB_cons, recB]
    simp only [List.append_assoc]
  rw [recs_up l hi, List.length_append, recB_len] at hp
  have h4 := sum4_len (bodB (l.getD i []))
  have hpe : p = (recsB (l.take i)).length + ((bodB (l.getD i [])).length + (3 - q)) := by omega
  rw [e] at hy ⊢
  rw [hpe, List.getD_eq_getElem?_getD, List.getElem?_append_right (by omega), Nat.add_sub_cancel_left, List.getElem?_append_right (by omega), Nat.add_sub_cancel_left, List.getElem?_append_left (by omega)] at hy
  rw [hpe, List.set_append_right _ _ (by omega), Nat.add_sub_cancel_left, List.set_append_right _ _ (by omega), Nat.add_sub_cancel_left, List.set_append_left _ _ (by omega)]
  refine scanP_part (fun b hb => hok b (List.mem_of_mem_take hb)) (nextP_turned hbo (by rw [List.length_set]; exact h4) (fun he => hy ?_) _)
  have h6 : ((sum4 (bodB (l.getD i []))).set (3 - q) y)[3 - q]? = (sum4 (bodB (l.getD i [])))[3 - q]? := by rw [he]
  rw [List.getElem?_set_self (by omega)] at h6
  rw [← h6]; rfl
theorem xor_ne (x b : UInt8) (hb : b ≠ 0) : x ^^^ b ≠ x := fun h => hb (by
  have h2 : x ^^^ (x ^^^ b) = x ^^^ x := by rw [h]
  rw [← UInt8.xor_assoc, UInt8.xor_self, UInt8.zero_xor] at h2
  exact h2)
theorem Pv.xorB {P : Program} {Γ : Ctx} {F : List (Nat × SV)} {L : List Own} {dst : Option Nat} {t t2 ty : TypeId} {pos : String} {aft : Array Edge} {g : Option (Nat × Bool)} {x y : Operand} {a b : UInt8} (hx : ev F x = some (byte a)) (hy : ev F y = some (byte b)) : Pv P Γ F L ⟨dst, .binOp .xor t x y t2, ty, pos, aft, g⟩ (byte (a ^^^ b)) := by
  have := Pv.bxor (P := P) (Γ := Γ) (L := L) (dst := dst) (ty := ty) (pos := pos) (aft := aft) (g := g) (t := t) (t2 := t2) hx hy
  have h1 : ∀ c : UInt8, BitVec.ofInt 8 (c.toNat : Int) = c.toBitVec := fun c => by simp
  have e : (BitVec.ofInt IntKind.u8.bits (a.toNat : Int) ^^^ BitVec.ofInt IntKind.u8.bits (b.toNat : Int)).toNat = (a ^^^ b).toNat := by
    show (BitVec.ofInt 8 (a.toNat : Int) ^^^ BitVec.ofInt 8 (b.toNat : Int)).toNat = _
    rw [h1, h1]; rfl
  rw [e, wrap_u8, UInt8.ofNat_toNat] at this
  exact this
set_option maxHeartbeats 4000000 in
theorem turned_ok (l : List Bt) (which : Int) (by' : UInt8) : FnC Tryd.prog 4 [btL l, int which, byte by'] [] (fun r L => r = bool true ∧ L = []) := by
  refine FnC.intro Tryd.func4 rfl Tryd.ntmps4 rfl fun Z w0 hG => ?_
  cases hw : wrB l with
  | false =>
    have c2 := written_no l hw
    focus (
 (refine W.seq (W.region (Jx.assign rfl rfl (J.nil (N.seq (W.seq (W.seq (W.region ?_))))))))
 (refine J.call (works_ok) rfl (evs_args rfl) rfl ?_; rintro _ _ ⟨rfl, rfl⟩; simp only [la1, la2, la3])
 (refine Jx.not rfl rfl (J.nil (N.seq (W.cF rfl ?_))))
 (refine W.skip (N.seq (W.seq (W.region (Jx.move rfl rfl ?_)))))
 (refine J.call (c2) rfl (evs_args rfl) rfl ?_; rintro _ _ ⟨rfl, rfl⟩; simp only [la1, la2, la3])
 (refine Jx.move rfl rfl (Jx.extract rfl rfl rfl ?_))
 (refine Jx.extract rfl rfl rfl ?_)
 (refine Jx.extract rfl rfl rfl ?_)
 (refine Jx.assign rfl rfl (Jx.assign rfl rfl (Jx.assign rfl rfl (J.nil (N.seq (W.seq (W.seq (W.region (Jx.move rfl rfl (Jx.not rfl rfl (Jx.move rfl rfl (J.gN rfl rfl rfl rfl ?_))))))))))))
 (refine J.gN rfl rfl rfl rfl ?_)
 (refine J.gN rfl rfl rfl rfl ?_)
 (refine Jx.pT rfl rfl rfl ?_)
 (refine Jx.move rfl rfl (J.gN rfl rfl rfl rfl ?_))
 (refine J.gN rfl rfl rfl rfl ?_)
 (refine Jx.pT rfl rfl rfl ?_)
 (refine J.nil (N.seq (W.cT rfl ?_)))
 (refine W.seq (W.region (Jx.assign rfl rfl (J.nil (N.seq (W.ret (N.noGotoRet ?_)))))))
 (refine id ?_; rotate_left))
    exact N.ret (rs := [.tmp 6]) rfl (.tmp rfl .nil) ⟨rfl, rfl⟩
  | true =>
    have c2 := written_yes l hw
    by_cases hl0 : l.length = 0
    · have hl0' : (l.length : Int) = 0 := by omega
      focus (
 (refine W.seq (W.region (Jx.assign rfl rfl (J.nil (N.seq (W.seq (W.seq (W.region ?_))))))))
 (refine J.call (works_ok) rfl (evs_args rfl) rfl ?_; rintro _ _ ⟨rfl, rfl⟩; simp only [la1, la2, la3])
 (refine Jx.not rfl rfl (J.nil (N.seq (W.cF rfl ?_))))
 (refine W.skip (N.seq (W.seq (W.region (Jx.move rfl rfl ?_)))))
 (refine J.call (c2) rfl (evs_args rfl) rfl ?_; rintro _ _ ⟨rfl, rfl⟩; simp only [la1, la2, la3])
 (refine Jx.move rfl rfl (Jx.extract rfl rfl rfl ?_))
 (refine Jx.extract rfl rfl rfl ?_)
 (refine Jx.extract rfl rfl rfl ?_)
 (refine Jx.assign rfl rfl (Jx.assign rfl rfl (Jx.assign rfl rfl (J.nil (N.seq (W.seq (W.seq (W.region (Jx.move rfl rfl (Jx.not rfl rfl (Jx.move rfl rfl (J.gY rfl rfl rfl ?_))))))))))))
 (refine Jx.move rfl rfl (J.gY rfl rfl rfl ?_))
 (refine Jx.lenSl rfl rfl ?_)
 (refine J.gY rfl rfl rfl ?_)
 (refine Jx.eqlI rfl rfl rfl (Jx.pF rfl rfl rfl ?_))
 (refine Jx.move rfl rfl (J.gN rfl rfl rfl rfl ?_))
 (refine J.gN rfl rfl rfl rfl ?_)
 (refine Jx.pT rfl rfl rfl ?_)
 (refine J.nil (N.seq (W.cT rfl ?_)))
 (refine W.seq (W.region (Jx.assign rfl rfl (J.nil (N.seq (W.ret (N.noGotoRet ?_)))))))
 (refine id ?_; rotate_left))
      exact N.ret (rs := [.tmp 6]) rfl (.tmp rfl .nil) ⟨rfl, rfl⟩
    · have hl0' : ¬ (l.length : Int) = 0 := by omega
      by_cases hb0 : by' = 0
      · have hb0' : (by'.toNat : Int) = 0 := by rw [hb0]; rfl
        focus (
 (refine W.seq (W.region (Jx.assign rfl rfl (J.nil (N.seq (W.seq (W.seq (W.region ?_))))))))
 (refine J.call (works_ok) rfl (evs_args rfl) rfl ?_; rintro _ _ ⟨rfl, rfl⟩; simp only [la1, la2, la3])
 (refine Jx.not rfl rfl (J.nil (N.seq (W.cF rfl ?_))))
 (refine W.skip (N.seq (W.seq (W.region (Jx.move rfl rfl ?_)))))
 (refine J.call (c2) rfl (evs_args rfl) rfl ?_; rintro _ _ ⟨rfl, rfl⟩; simp only [la1, la2, la3])
 (refine Jx.move rfl rfl (Jx.extract rfl rfl rfl ?_))
 (refine Jx.extract rfl rfl rfl ?_)
 (refine Jx.extract rfl rfl rfl ?_)
 (refine Jx.assign rfl rfl (Jx.assign rfl rfl (Jx.assign rfl rfl (J.nil (N.seq (W.seq (W.seq (W.region (Jx.move rfl rfl (Jx.not rfl rfl (Jx.move rfl rfl (J.gY rfl rfl rfl ?_))))))))))))
 (refine Jx.move rfl rfl (J.gY rfl rfl rfl ?_))
 (refine Jx.lenSl rfl rfl ?_)
 (refine J.gY rfl rfl rfl ?_)
 (refine Jx.eqlI rfl rfl rfl (Jx.pF rfl rfl rfl ?_))
 (refine Jx.move rfl rfl (J.gY rfl rfl rfl ?_))
 (refine Jx.move rfl rfl (J.gY rfl rfl rfl ?_))
 (refine Jx.eqlI rfl rfl rfl (Jx.pF rfl rfl rfl ?_))
 (refine J.nil (N.seq (W.cT rfl ?_)))
 (refine W.seq (W.region (Jx.assign rfl rfl (J.nil (N.seq (W.ret (N.noGotoRet ?_)))))))
 (refine id ?_; rotate_left))
        exact N.ret (rs := [.tmp 6]) rfl (.tmp rfl .nil) ⟨rfl, rfl⟩
      · have hb0' : ¬ (by'.toNat : Int) = 0 := fun h => hb0 (by
          have : by'.toNat = 0 := by omega
          exact UInt8.toNat_inj.1 this)
        obtain ⟨w1, w2⟩ := wrB_spec hw
        have hok : ∀ b ∈ l, okB b = true := fun b hb => (few_rec (w2 b hb)).1
        have hlen := recs_len w2
        have hbl : ∀ b ∈ l, b.length ≤ 1048576 := fun b hb => by have := ((okB_iff b).1 (hok b hb)).1; omega
        have hel := endsP_len l l.length
        have c3 := below_ok which l.length (by omega) (by omega)
        have c4 := below_ok (IntKind.i64.wrap (which.tdiv 16)) 4 (by decide) (by decide)
        rw [show ((4 : Nat) : Int) = 4 from rfl] at c4
        obtain ⟨i, hi, hi2⟩ : ∃ i : Nat, below which l.length = (i : Int) ∧ i < l.length := by
          have := below_le which l.length (by omega)
          exact ⟨(below which l.length).toNat, by omega, by omega⟩
        obtain ⟨q, hq, hq2⟩ : ∃ i : Nat, below (IntKind.i64.wrap (which.tdiv 16)) 4 = (i : Int) ∧ i < 4 := by
          have := below_le (IntKind.i64.wrap (which.tdiv 16)) 4 (by omega)
          exact ⟨(below (IntKind.i64.wrap (which.tdiv 16)) 4).toNat, by omega, by omega⟩
        rw [hi] at c3
        rw [hq] at c4
        have hg := endsP_get l hi2
        have hup := congrArg List.length (recs_up l hi2)
        rw [List.length_append] at hup
        have hrl := (rec_len (hok _ (mem_getD l [] hi2))).2
        have hmono := recs_mono l (i := i + 1) (j := l.length) (by omega)
        rw [List.take_length] at hmono
        obtain ⟨p, hp⟩ : ∃ p, p + 1 + q = (recsB (l.take (i + 1))).length := ⟨(recsB (l.take (i + 1))).length - 1 - q, by omega⟩
        have hpl : p < (recsB l).length := by omega
        have hsc := scan_turned hok hi2 hq2 hp (xor_ne ((recsB l).getD p 0) by' hb0)
        have c5 := Scan_ok ((recsB l).set p ((recsB l).getD p 0 ^^^ by')) (by rw [List.length_set]; omega)
        rw [hsc] at c5
        have c6 := same2_ok (l.take i) (l.take i) (fun b hb => hbl b (List.mem_of_mem_take hb)) (by rw [List.length_take]; omega)
        rw [decide_eq_true (rfl : l.take i = l.take i)] at c6
        have hil : i < (endsP l l.length).length := by omega
        have hg' : (endsP l l.length).getD i 0 = ((p + 1 + q : Nat) : Int) := by rw [hg, hp]
        have e1 : ((p + 1 + q : Nat) : Int) - 1 = ((p + q : Nat) : Int) := by omega
        have e2 : ((p + q : Nat) : Int) - (q : Int) = ((p : Nat) : Int) := by omega
        have hs2 : ((recsB l).set p ((recsB l).getD p 0 ^^^ by')).length = (recsB l).length := List.length_set ..
        by_cases hi0 : i = 0
        · have hi0' : ¬ (0 : Int) < (i : Int) := by omega
          have h00 : ((recsB (l.take i)).length : Int) = 0 := by rw [hi0]; rfl
          focus (
 (refine W.seq (W.region (Jx.assign rfl rfl (J.nil (N.seq (W.seq (W.seq (W.region ?_))))))))
 (refine J.call (works_ok) rfl (evs_args rfl) rfl ?_; rintro _ _ ⟨rfl, rfl⟩; simp only [la1, la2, la3])
 (refine Jx.not rfl rfl (J.nil (N.seq (W.cF rfl ?_))))
 (refine W.skip (N.seq (W.seq (W.region (Jx.move rfl rfl ?_)))))
 (refine J.call (c2) rfl (evs_args rfl) rfl ?_; rintro _ _ ⟨rfl, rfl⟩; simp only [la1, la2, la3])
 (refine Jx.move rfl rfl (Jx.extract rfl rfl rfl ?_))
 (refine Jx.extract rfl rfl rfl ?_)
 (refine Jx.extract rfl rfl rfl ?_)
 (refine Jx.assign rfl rfl (Jx.assign rfl rfl (Jx.assign rfl rfl (J.nil (N.seq (W.seq (W.seq (W.region (Jx.move rfl rfl (Jx.not rfl rfl (Jx.move rfl rfl (J.gY rfl rfl rfl ?_))))))))))))
 (refine Jx.move rfl rfl (J.gY rfl rfl rfl ?_))
 (refine Jx.lenSl rfl rfl ?_)
 (refine J.gY rfl rfl rfl ?_)
 (refine Jx.eqlI rfl rfl rfl (Jx.pF rfl rfl rfl ?_))
 (refine Jx.move rfl rfl (J.gY rfl rfl rfl ?_))
 (refine Jx.move rfl rfl (J.gY rfl rfl rfl ?_))
 (refine Jx.eqlI rfl rfl rfl (Jx.pF rfl rfl rfl ?_))
 (refine J.nil (N.seq (W.cF rfl ?_)))
 (refine W.skip (N.seq (W.seq (W.region (Jx.move rfl rfl (Jx.move rfl rfl (Jx.lenSl rfl rfl ?_)))))))
 (refine J.call (c3) rfl (evs_args rfl) rfl ?_; rintro _ _ ⟨rfl, rfl⟩; simp only [la1, la2, la3])
 (refine Jx.assign rfl rfl (J.nil (N.seq (W.seq (W.region (Jx.move rfl rfl ?_))))))
 (refine J.strBytes rfl (by simp only [maxLen]; omega) rfl ?_; intro v; refine J.rowView 0 rfl (by omega) ?_; rintro rb cap rfl hcp1 hcp2)
 (refine Jx.assign rfl rfl (J.nil (N.seq (W.seq ?_))))
 (refine W.draw follows ?_)
 (refine JD.upto (n := 15) rfl (by decide +kernel) (by decide +kernel) rfl rfl ?_)
 (refine Cx.move rfl rfl ?_)
 (refine Cx.move rfl rfl ?_)
 (refine Cx.move rfl rfl ?_)
 (refine Cx.indexEl (j := i) rfl rfl hil rfl rfl ?_)
 (refine Cx.loadPP rfl rfl ?_; rw [hg'])
 (refine Cx.sub64 rfl rfl (by omega) rfl ?_; rw [e1])
 (refine Cx.move rfl rfl ?_)
 (refine Cx.quo rfl rfl (by decide) rfl ?_)
 (refine SegC.q (Qs.call (Lc := []) (c4) (fun s L' h => h) (List.Perm.refl _) (evs_args rfl)) rfl ?_)
 (refine Cx.sub64 rfl rfl (by omega) rfl ?_; rw [e2])
 (refine Cx.indexRow p rfl rfl rfl hpl rfl ?_)
 (refine Cx.loadRow rfl 0 rfl p 0 (by omega) hpl (by decide) rfl rfl ?_)
 (refine Cx.move rfl rfl ?_)
 (refine SegC.q (Qs.pv (Pv.xorB rfl rfl)) rfl ?_)
 (refine Cx.indexRow p rfl rfl rfl hpl rfl ?_)
 (refine SegC.nil ?_)
 (refine J.storeRowL (l := recsB l) p 0 ((recsB l).getD p 0 ^^^ by') rfl rfl (One.val rfl) 0 rfl rfl hpl (by decide) rfl rfl ?_)
 (refine J.nil (N.seq (W.seq (W.region (Jx.move rfl rfl ?_)))))
 (refine Jx.bytesStrRow (l := (recsB l).set p ((recsB l).getD p 0 ^^^ by')) rfl 0 (by rw [hs2]; rfl) rfl ?_)
 (refine J.drop (List.sublist_cons_self _ _) ?_; refine J.call c5 rfl (evs_args rfl) rfl ?_; rintro _ _ ⟨rfl, rfl⟩; simp only [la1, la2, la3])
 (refine Jx.move rfl rfl (Jx.extract rfl rfl rfl ?_))
 (refine Jx.extract rfl rfl rfl ?_)
 (refine Jx.assign rfl rfl (Jx.assign rfl rfl (J.nil (N.seq (W.seq (W.region (Jx.assign rfl rfl (J.nil (N.seq (W.seq (W.seq (W.region (Jx.move rfl rfl (Jx.gtrI rfl rfl rfl ?_))))))))))))))
 (refine J.nil (N.seq (W.cF rfl ?_)))
 (refine W.skip (N.seq (W.seq (W.region (Jx.move rfl rfl (Jx.move rfl rfl (Jx.move rfl rfl ?_)))))))
 (refine Jx.takeL i rfl rfl rfl (by omega) rfl ?_)
 (refine J.call (c6) rfl (evs_args rfl) rfl ?_; rintro _ _ ⟨rfl, rfl⟩; simp only [la1, la2, la3])
 (refine Jx.move rfl rfl (J.gY rfl rfl rfl ?_))
 (refine Jx.move rfl rfl (J.gY rfl rfl rfl ?_))
 (refine Jx.move rfl rfl (J.gY rfl rfl rfl ?_))
 (refine Jx.eqlI rfl rfl rfl (Jx.pT rfl rfl rfl ?_))
 (refine Jx.assign rfl rfl (J.nil (N.seq (W.ret ?_))))
 (refine id ?_; rotate_left))
          exact N.ret (rs := [.tmp 6]) rfl (.tmp rfl .nil) ⟨by simp only [oneOr]; rw [decide_eq_true h00], rfl⟩
        · have hi0' : (0 : Int) < (i : Int) := by omega
          obtain ⟨j, rfl⟩ : ∃ j, i = j + 1 := ⟨i - 1, by omega⟩
          have hj : j < l.length := by omega
          have hj' : j < (endsP l l.length).length := by omega
          have hgj := endsP_get l hj
          have e3 : ((j + 1 : Nat) : Int) - 1 = ((j : Nat) : Int) := by omega
          focus (
 (refine W.seq (W.region (Jx.assign rfl rfl (J.nil (N.seq (W.seq (W.seq (W.region ?_))))))))
 (refine J.call (works_ok) rfl (evs_args rfl) rfl ?_; rintro _ _ ⟨rfl, rfl⟩; simp only [la1, la2, la3])
 (refine Jx.not rfl rfl (J.nil (N.seq (W.cF rfl ?_))))
 (refine W.skip (N.seq (W.seq (W.region (Jx.move rfl rfl ?_)))))
 (refine J.call (c2) rfl (evs_args rfl) rfl ?_; rintro _ _ ⟨rfl, rfl⟩; simp only [la1, la2, la3])
 (refine Jx.move rfl rfl (Jx.extract rfl rfl rfl ?_))
 (refine Jx.extract rfl rfl rfl ?_)
 (refine Jx.extract rfl rfl rfl ?_)
 (refine Jx.assign rfl rfl (Jx.assign rfl rfl (Jx.assign rfl rfl (J.nil (N.seq (W.seq (W.seq (W.region (Jx.move rfl rfl (Jx.not rfl rfl (Jx.move rfl rfl (J.gY rfl rfl rfl ?_))))))))))))
 (refine Jx.move rfl rfl (J.gY rfl rfl rfl ?_))
 (refine Jx.lenSl rfl rfl ?_)
 (refine J.gY rfl rfl rfl ?_)
 (refine Jx.eqlI rfl rfl rfl (Jx.pF rfl rfl rfl ?_))
 (refine Jx.move rfl rfl (J.gY rfl rfl rfl ?_))
 (refine Jx.move rfl rfl (J.gY rfl rfl rfl ?_))
 (refine Jx.eqlI rfl rfl rfl (Jx.pF rfl rfl rfl ?_))
 (refine J.nil (N.seq (W.cF rfl ?_)))
 (refine W.skip (N.seq (W.seq (W.region (Jx.move rfl rfl (Jx.move rfl rfl (Jx.lenSl rfl rfl ?_)))))))
 (refine J.call (c3) rfl (evs_args rfl) rfl ?_; rintro _ _ ⟨rfl, rfl⟩; simp only [la1, la2, la3])
 (refine Jx.assign rfl rfl (J.nil (N.seq (W.seq (W.region (Jx.move rfl rfl ?_))))))
 (refine J.strBytes rfl (by simp only [maxLen]; omega) rfl ?_; intro v; refine J.rowView 0 rfl (by omega) ?_; rintro rb cap rfl hcp1 hcp2)
 (refine Jx.assign rfl rfl (J.nil (N.seq (W.seq ?_))))
 (refine W.draw follows ?_)
 (refine JD.upto (n := 15) rfl (by decide +kernel) (by decide +kernel) rfl rfl ?_)
 (refine Cx.move rfl rfl ?_)
 (refine Cx.move rfl rfl ?_)
 (refine Cx.move rfl rfl ?_)
 (refine Cx.indexEl (j := j + 1) rfl rfl hil rfl rfl ?_)
 (refine Cx.loadPP rfl rfl ?_; rw [hg'])
 (refine Cx.sub64 rfl rfl (by omega) rfl ?_; rw [e1])
 (refine Cx.move rfl rfl ?_)
 (refine Cx.quo rfl rfl (by decide) rfl ?_)
 (refine SegC.q (Qs.call (Lc := []) (c4) (fun s L' h => h) (List.Perm.refl _) (evs_args rfl)) rfl ?_)
 (refine Cx.sub64 rfl rfl (by omega) rfl ?_; rw [e2])
 (refine Cx.indexRow p rfl rfl rfl hpl rfl ?_)
 (refine Cx.loadRow rfl 0 rfl p 0 (by omega) hpl (by decide) rfl rfl ?_)
 (refine Cx.move rfl rfl ?_)
 (refine SegC.q (Qs.pv (Pv.xorB rfl rfl)) rfl ?_)
 (refine Cx.indexRow p rfl rfl rfl hpl rfl ?_)
 (refine SegC.nil ?_)
 (refine J.storeRowL (l := recsB l) p 0 ((recsB l).getD p 0 ^^^ by') rfl rfl (One.val rfl) 0 rfl rfl hpl (by decide) rfl rfl ?_)
 (refine J.nil (N.seq (W.seq (W.region (Jx.move rfl rfl ?_)))))
 (refine Jx.bytesStrRow (l := (recsB l).set p ((recsB l).getD p 0 ^^^ by')) rfl 0 (by rw [hs2]; rfl) rfl ?_)
 (refine J.drop (List.sublist_cons_self _ _) ?_; refine J.call c5 rfl (evs_args rfl) rfl ?_; rintro _ _ ⟨rfl, rfl⟩; simp only [la1, la2, la3])
 (refine Jx.move rfl rfl (Jx.extract rfl rfl rfl ?_))
 (refine Jx.extract rfl rfl rfl ?_)
 (refine Jx.assign rfl rfl (Jx.assign rfl rfl (J.nil (N.seq (W.seq (W.region (Jx.assign rfl rfl (J.nil (N.seq (W.seq (W.seq (W.region (Jx.move rfl rfl (Jx.gtrI rfl rfl rfl ?_))))))))))))))
 (refine J.nil (N.seq (W.cT rfl ?_)))
 (refine W.region (Jx.move rfl rfl (Jx.move rfl rfl ?_)))
 (refine Jx.sub64 rfl rfl (by omega) rfl ?_; rw [e3])
 (refine Jx.indexEl (j := j) rfl rfl hj' rfl rfl ?_)
 (refine Jx.loadPP rfl rfl ?_; rw [hgj])
 (refine Jx.assign rfl rfl (J.nil (N.seq (W.seq (W.region (Jx.move rfl rfl (Jx.move rfl rfl (Jx.move rfl rfl (Jx.takeL (j + 1) rfl rfl rfl (by omega) rfl ?_)))))))))
 (refine J.call (c6) rfl (evs_args rfl) rfl ?_; rintro _ _ ⟨rfl, rfl⟩; simp only [la1, la2, la3])
 (refine Jx.move rfl rfl (J.gY rfl rfl rfl ?_))
 (refine Jx.move rfl rfl (J.gY rfl rfl rfl ?_))
 (refine Jx.move rfl rfl (J.gY rfl rfl rfl ?_))
 (refine Jx.eqlI rfl rfl rfl (Jx.pT rfl rfl rfl ?_))
 (refine Jx.assign rfl rfl (J.nil (N.seq (W.ret ?_))))
 (refine id ?_; rotate_left))
          exact N.ret (rs := [.tmp 6]) rfl (.tmp rfl .nil) ⟨by simp [oneOr], rfl⟩
end Go.Proofs.YtbdkenlkimiddaaDoor
