/-
  What a reader's first functions do.
-/
import Derived.Test.YtjlpknligekfeaaCodeB
namespace Go.Proofs.Ytjlpknligekfeaa
open Go Go.Sse
set_option linter.unusedVariables false
set_option linter.unusedSimpArgs false
set_option maxRecDepth 10000

abbrev tRd : Nat := 44
structure Rdr where
  s : List UInt8
  at_ : Nat
  code : Int
structure Rdr.ok (r : Rdr) : Prop where
  le : r.at_ ≤ r.s.length
  mx : r.s.length ≤ 1099511627776
abbrev rdO (b : Nat) (r : Rdr) : Own := .obj b tRd [str r.s, int (r.at_ : Int), int r.code]

theorem read_ok (s : List UInt8) : FnC Try.prog 8 [str s] [] (fun r L => ∃ b, r = ptr b ∧ L = [rdO b ⟨s, 0, 0⟩]) := by
  refine FnC.intro Try.func8 rfl Try.ntmps8 rfl fun Z w0 hG => ?_
  focus (
    (refine W.seq ?_)
    (refine W.region ?_)
    (refine Jx.assign rfl rfl ?_)
    (refine J.nil ?_)
    (refine N.seq ?_)
    (refine W.seq ?_)
    (refine W.region ?_)
    (refine Jx.move rfl rfl ?_)
    (refine Jx.buildB rfl rfl rfl rfl rfl ?_)
    (refine J.boxAg rfl rfl ?_; intro b')
    (refine Jx.assign rfl rfl ?_)
    (refine J.nil ?_)
    (refine N.seq ?_)
    (refine W.ret ?_)
    (refine id ?_; rotate_left))
  exact N.ret (rs := [.tmp 2]) rfl (.tmp rfl .nil) ⟨b', rfl, rfl⟩
theorem code_ok (b : Nat) (r : Rdr) : FnC Try.prog 10 [ptr b] [rdO b r] (fun s L => s = int r.code ∧ L = [rdO b r]) := by
  refine FnC.intro Try.func10 rfl Try.ntmps10 rfl fun Z w0 hG => ?_
  focus (
    (refine W.seq ?_)
    (refine W.region ?_)
    (refine Jx.assign rfl rfl ?_)
    (refine J.nil ?_)
    (refine N.seq ?_)
    (refine W.seq ?_)
    (refine W.region ?_)
    (refine Jx.move rfl rfl ?_)
    (refine Jx.nilCheck rfl rfl ?_)
    (refine Jx.fieldAddr rfl rfl ?_)
    (refine Jx.load rfl 0 rfl rfl rfl ?_)
    (refine Jx.assign rfl rfl ?_)
    (refine J.nil ?_)
    (refine N.seq ?_)
    (refine W.ret ?_)
    (refine id ?_; rotate_left))
  exact N.ret (rs := [.tmp 2]) rfl (.tmp rfl .nil) ⟨rfl, rfl⟩
theorem left_ok (b : Nat) (r : Rdr) (h : r.ok) : FnC Try.prog 12 [ptr b] [rdO b r] (fun s L => s = int ((r.s.length : Int) - r.at_) ∧ L = [rdO b r]) := by
  have h1 := h.le; have h2 := h.mx
  refine FnC.intro Try.func12 rfl Try.ntmps12 rfl fun Z w0 hG => ?_
  focus (
    (refine W.seq ?_)
    (refine W.region ?_)
    (refine Jx.assign rfl rfl ?_)
    (refine J.nil ?_)
    (refine N.seq ?_)
    (refine W.seq ?_)
    (refine W.draw follows ?_)
    (refine JD.calm rfl (by decide +kernel) ?_)
    (refine Cx.move rfl rfl ?_)
    (refine Cx.nilCheck rfl rfl ?_)
    (refine Cx.fieldAddr rfl rfl ?_)
    (refine Cx.load rfl 0 rfl rfl rfl ?_)
    (refine Cx.lenS rfl rfl ?_)
    (refine Cx.move rfl rfl ?_)
    (refine Cx.nilCheck rfl rfl ?_)
    (refine Cx.fieldAddr rfl rfl ?_)
    (refine Cx.load rfl 0 rfl rfl rfl ?_)
    (refine Cx.sub64 rfl rfl (by omega) rfl ?_)
    (refine Cx.assign rfl rfl ?_)
    (refine SegC.nil ?_)
    (refine N.seq ?_)
    (refine W.ret ?_)
    (refine id ?_; rotate_left))
  exact N.ret (rs := [.tmp 2]) rfl (.tmp rfl .nil) ⟨rfl, rfl⟩
def Rdr.refuse (r : Rdr) (from_ : Nat) (e : Int) : Rdr := if r.code = 0 then { r with at_ := from_, code := e } else r
theorem refused_ok (b : Nat) (r : Rdr) (n : Nat) (e : Int) : FnC Try.prog 27 [ptr b, int (n : Int), int e] [rdO b r] (fun s L => L = [rdO b (r.refuse n e)]) := by
  refine FnC.intro Try.func27 rfl Try.ntmps27 rfl fun Z w0 hG => ?_
  by_cases h : r.code = 0
  · focus (
    (refine W.seq ?_)
    (refine W.region ?_)
    (refine Jx.move rfl rfl ?_)
    (refine Jx.nilCheck rfl rfl ?_)
    (refine Jx.fieldAddr rfl rfl ?_)
    (refine Jx.load rfl 0 rfl rfl rfl ?_)
    (refine Jx.eqlI rfl rfl rfl ?_)
    (refine J.nil ?_)
    (refine N.seq ?_)
    (refine W.condT rfl (by first | rfl | assumption | (exact decide_eq_true (by first | assumption | omega | rfl)) | (exact decide_eq_false (by first | assumption | omega | rfl)) | (simp; done) | (simp; omega)) ?_)
    (refine W.region ?_)
    (refine Jx.move rfl rfl ?_)
    (refine Jx.move rfl rfl ?_)
    (refine Jx.move rfl rfl ?_)
    (refine Jx.move rfl rfl ?_)
    (refine Jx.nilCheck rfl rfl ?_)
    (refine Jx.fieldAddr rfl rfl ?_)
    (refine J.store rfl rfl (by first | exact One.val rfl | exact One.sl | exact One.pp | exact One.slc) 0 rfl rfl rfl rfl ?_)
    (refine Jx.nilCheck rfl rfl ?_)
    (refine Jx.fieldAddr rfl rfl ?_)
    (refine J.store rfl rfl (by first | exact One.val rfl | exact One.sl | exact One.pp | exact One.slc) 0 rfl rfl rfl rfl ?_)
    (refine J.nil ?_)
    (refine id ?_; rotate_left))
    refine N.fin (rs := []) rfl .nil ?_
    simp [Rdr.refuse, h]
  · focus (
    (refine W.seq ?_)
    (refine W.region ?_)
    (refine Jx.move rfl rfl ?_)
    (refine Jx.nilCheck rfl rfl ?_)
    (refine Jx.fieldAddr rfl rfl ?_)
    (refine Jx.load rfl 0 rfl rfl rfl ?_)
    (refine Jx.eqlI rfl rfl rfl ?_)
    (refine J.nil ?_)
    (refine N.seq ?_)
    (refine W.condF rfl (by first | rfl | assumption | (exact decide_eq_true (by first | assumption | omega | rfl)) | (exact decide_eq_false (by first | assumption | omega | rfl)) | (simp; done) | (simp; omega)) ?_)
    (refine W.skip ?_)
    (refine id ?_; rotate_left))
    refine N.fin (rs := []) rfl .nil ?_
    simp [Rdr.refuse, h]
theorem take_no (b : Nat) (r : Rdr) (n : Nat) (h : r.ok) (hn : r.s.length < r.at_ + n) : FnC Try.prog 32 [ptr b, int (n : Int)] [rdO b r] (fun s L => s = .tup [str [], bool false] ∧ L = [rdO b r]) := by
  have h1 := h.le; have h2 := h.mx
  refine FnC.intro Try.func32 rfl Try.ntmps32 rfl fun Z w0 hG => ?_
  focus (
    (refine W.seq ?_)
    (refine W.region ?_)
    (refine Jx.assign rfl rfl ?_)
    (refine Jx.assign rfl rfl ?_)
    (refine J.nil ?_)
    (refine N.seq ?_)
    (refine W.seq ?_)
    (refine W.seq ?_)
    (refine W.draw follows ?_)
    (refine JD.calm rfl (by decide +kernel) ?_)
    (refine Cx.move rfl rfl ?_)
    (refine Cx.move rfl rfl ?_)
    (refine Cx.nilCheck rfl rfl ?_)
    (refine Cx.fieldAddr rfl rfl ?_)
    (refine Cx.load rfl 0 rfl rfl rfl ?_)
    (refine Cx.lenS rfl rfl ?_)
    (refine Cx.move rfl rfl ?_)
    (refine Cx.nilCheck rfl rfl ?_)
    (refine Cx.fieldAddr rfl rfl ?_)
    (refine Cx.load rfl 0 rfl rfl rfl ?_)
    (refine Cx.sub64 rfl rfl (by omega) rfl ?_)
    (refine Cx.gtrI rfl rfl rfl ?_)
    (refine SegC.nil ?_)
    (refine N.seq ?_)
    (refine W.condT rfl (by first | rfl | assumption | (exact decide_eq_true (by first | assumption | omega | rfl)) | (exact decide_eq_false (by first | assumption | omega | rfl)) | (simp; done) | (simp; omega)) ?_)
    (refine W.seq ?_)
    (refine W.region ?_)
    (refine Jx.assign rfl rfl ?_)
    (refine Jx.assign rfl rfl ?_)
    (refine J.nil ?_)
    (refine N.seq ?_)
    (refine W.ret ?_)
    (refine N.seqRet ?_)
    (refine id ?_; rotate_left))
  exact N.ret (rs := [.tmp 4, .tmp 5]) rfl (.tmp rfl (.tmp rfl .nil)) ⟨rfl, rfl⟩
theorem take_yes (b : Nat) (r : Rdr) (n : Nat) (h : r.ok) (hn : r.at_ + n ≤ r.s.length) : FnC Try.prog 32 [ptr b, int (n : Int)] [rdO b r] (fun s L => s = .tup [str ((r.s.drop r.at_).take n), bool true] ∧ L = [rdO b { r with at_ := r.at_ + n }]) := by
  have h1 := h.le; have h2 := h.mx
  have e : (r.s.take (((r.at_ : Int) + (n : Int))).toNat).drop ((r.at_ : Int)).toNat = (r.s.drop r.at_).take n := by
    rw [show ((r.at_ : Int) + (n : Int)).toNat = r.at_ + n by omega, Int.toNat_natCast, List.drop_take]; congr 1; omega
  refine FnC.intro Try.func32 rfl Try.ntmps32 rfl fun Z w0 hG => ?_
  focus (
    (refine W.seq ?_)
    (refine W.region ?_)
    (refine Jx.assign rfl rfl ?_)
    (refine Jx.assign rfl rfl ?_)
    (refine J.nil ?_)
    (refine N.seq ?_)
    (refine W.seq ?_)
    (refine W.seq ?_)
    (refine W.draw follows ?_)
    (refine JD.calm rfl (by decide +kernel) ?_)
    (refine Cx.move rfl rfl ?_)
    (refine Cx.move rfl rfl ?_)
    (refine Cx.nilCheck rfl rfl ?_)
    (refine Cx.fieldAddr rfl rfl ?_)
    (refine Cx.load rfl 0 rfl rfl rfl ?_)
    (refine Cx.lenS rfl rfl ?_)
    (refine Cx.move rfl rfl ?_)
    (refine Cx.nilCheck rfl rfl ?_)
    (refine Cx.fieldAddr rfl rfl ?_)
    (refine Cx.load rfl 0 rfl rfl rfl ?_)
    (refine Cx.sub64 rfl rfl (by omega) rfl ?_)
    (refine Cx.gtrI rfl rfl rfl ?_)
    (refine SegC.nil ?_)
    (refine N.seq ?_)
    (refine W.condF rfl (by first | rfl | assumption | (exact decide_eq_true (by first | assumption | omega | rfl)) | (exact decide_eq_false (by first | assumption | omega | rfl)) | (simp; done) | (simp; omega)) ?_)
    (refine W.skip ?_)
    (refine N.seq ?_)
    (refine W.seq ?_)
    (refine W.draw follows ?_)
    (refine JD.calm rfl (by decide +kernel) ?_)
    (refine Cx.move rfl rfl ?_)
    (refine Cx.nilCheck rfl rfl ?_)
    (refine Cx.fieldAddr rfl rfl ?_)
    (refine Cx.load rfl 0 rfl rfl rfl ?_)
    (refine Cx.move rfl rfl ?_)
    (refine Cx.nilCheck rfl rfl ?_)
    (refine Cx.fieldAddr rfl rfl ?_)
    (refine Cx.load rfl 0 rfl rfl rfl ?_)
    (refine Cx.move rfl rfl ?_)
    (refine Cx.nilCheck rfl rfl ?_)
    (refine Cx.fieldAddr rfl rfl ?_)
    (refine Cx.load rfl 0 rfl rfl rfl ?_)
    (refine Cx.move rfl rfl ?_)
    (refine Cx.add64 rfl rfl (by omega) rfl ?_)
    (refine Cx.sliceSlh rfl rfl rfl (by omega) (by omega) (by omega) rfl ?_)
    (refine Cx.assign rfl rfl ?_)
    (refine SegC.nil ?_)
    (refine N.seq ?_)
    (refine W.seq ?_)
    (refine W.region ?_)
    (refine Jx.move rfl rfl ?_)
    (refine Jx.nilCheck rfl rfl ?_)
    (refine Jx.fieldAddr rfl rfl ?_)
    (refine Jx.load rfl 0 rfl rfl rfl ?_)
    (refine Jx.move rfl rfl ?_)
    (refine Jx.add64 rfl rfl (by omega) rfl ?_)
    (refine Jx.nilCheck rfl rfl ?_)
    (refine Jx.fieldAddr rfl rfl ?_)
    (refine J.store rfl rfl (by first | exact One.val rfl | exact One.sl | exact One.pp | exact One.slc) 0 rfl rfl rfl rfl ?_)
    (refine J.nil ?_)
    (refine N.seq ?_)
    (refine W.seq ?_)
    (refine W.region ?_)
    (refine Jx.move rfl rfl ?_)
    (refine Jx.assign rfl rfl ?_)
    (refine Jx.assign rfl rfl ?_)
    (refine J.nil ?_)
    (refine N.seq ?_)
    (refine W.ret ?_)
    (refine id ?_; rotate_left))
  exact N.ret (rs := [.tmp 4, .tmp 5]) rfl (.tmp rfl (.tmp rfl .nil)) ⟨by rw [e]; rfl, rfl⟩

/-- Bytes as a number. -/
def valB (l : List UInt8) : Nat := l.foldl (fun n b => n * 256 + b.toNat) 0
theorem valB_snoc (l : List UInt8) (b : UInt8) : valB (l ++ [b]) = valB l * 256 + b.toNat := by simp [valB]
theorem valB_lt : ∀ (k : Nat) (l : List UInt8), l.length = k → valB l < 256 ^ k
  | 0, l, h => by rw [List.eq_nil_of_length_eq_zero h]; simp [valB]
  | k + 1, l, h => by
    obtain ⟨m, b, rfl⟩ : ∃ m b, l = m ++ [b] := ⟨l.dropLast, l.getLast (by intro e; subst e; simp at h), (List.dropLast_concat_getLast _).symm⟩
    rw [valB_snoc, Nat.pow_succ]
    have := valB_lt k m (by simpa using h)
    have hb := b.toNat_lt
    omega
theorem valB_cons : ∀ (k : Nat) (b : UInt8) (l : List UInt8), l.length = k → valB (b :: l) = b.toNat * 256 ^ k + valB l
  | 0, b, l, h => by rw [List.eq_nil_of_length_eq_zero h]; simp [valB]
  | k + 1, b, l, h => by
    obtain ⟨m, c, rfl⟩ : ∃ m c, l = m ++ [c] := ⟨l.dropLast, l.getLast (by intro e; subst e; simp at h), (List.dropLast_concat_getLast _).symm⟩
    rw [← List.cons_append, valB_snoc, valB_snoc, valB_cons k b m (by simpa using h), Nat.pow_succ]
    rw [Nat.add_mul, Nat.mul_assoc]; omega
theorem valB_take (l : List UInt8) (i : Nat) (h : i < l.length) : valB (l.take (i + 1)) = valB (l.take i) * 256 + (l.getD i 0).toNat := by
  rw [List.take_add_one, List.getElem?_eq_getElem h, List.getD_eq_getElem?_getD, List.getElem?_eq_getElem h]
  exact valB_snoc _ _
theorem valB_mono (l : List UInt8) : ∀ (j i : Nat), i + j = l.length → valB (l.take i) ≤ valB l
  | 0, i, h => by rw [List.take_of_length_le (by omega)]; exact Nat.le_refl _
  | j + 1, i, h => by
    have := valB_mono l j (i + 1) (by omega)
    rw [valB_take l i (by omega)] at this
    omega

/-- The number at the beginning: it, how many bytes it takes, what is wrong. -/
def readN : List UInt8 → Nat × Nat × Int
  | [] => (0, 0, 20)
  | h :: t =>
    if 8 < h.toNat then (0, 0, 3) else if t.length < h.toNat then (0, 0, 20) else
    if (0 < h.toNat ∧ (t.getD 0 0).toNat = 0) ∨ (h.toNat = 8 ∧ 128 ≤ (t.getD 0 0).toNat) then (0, 0, 3) else (valB (t.take h.toNat), 1 + h.toNat, 0)

theorem getD_take0 (t : List UInt8) (n : Nat) (h : 0 < n) : (t.take n).getD 0 0 = t.getD 0 0 := by
  simp [List.getD_eq_getElem?_getD, List.getElem?_take, h]
theorem val_bound (t : List UInt8) (n : Nat) (h8 : n ≤ 8) (hl : n ≤ t.length) (h : ¬ (n = 8 ∧ 128 ≤ (t.getD 0 0).toNat)) : valB (t.take n) < 9223372036854775808 := by
  have hlen : (t.take n).length = n := by rw [List.length_take]; omega
  by_cases h7 : n ≤ 7
  · have := valB_lt n (t.take n) hlen
    have : 256 ^ n ≤ 256 ^ 7 := Nat.pow_le_pow_right (by omega) h7
    omega
  · obtain rfl : n = 8 := by omega
    match ht : t with
    | [] => simp at hl
    | x :: r =>
      simp only [List.take_succ_cons] at hlen ⊢
      rw [valB_cons 7 x (r.take 7) (by simpa using hlen)]
      have h1 := valB_lt 7 (r.take 7) (by simpa using hlen)
      simp only [List.getD_cons_zero, true_and] at h
      omega
end Go.Proofs.Ytjlpknligekfeaa
