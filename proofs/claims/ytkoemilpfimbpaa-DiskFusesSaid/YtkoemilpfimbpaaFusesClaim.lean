/-
  DiskFuses, whatever the input: true; the input reads as it did. No condition.
-/
import Derived.Test.YtkoemilpfimbpaaSafeClaim
namespace Go.Proofs.Ytkoemilpfimbpaa
open Go Go.Sse Go.ChangeShapes Go.WideShapes Go.ChangeAt Go.RowKit
set_option linter.unusedVariables false
set_option linter.unusedSimpArgs false

/-- A disk on the way: i of k changes are done. -/
structure Fz (k i : Nat) (u : List UInt8) (d : Dk) : Prop where
  room : d.room = 2000
  fuse : d.fuse = (k : Int) - i
  down : d.down = false
  len : d.bytes.length = (i + 1) / 2 * u.length

theorem Fz.fits {k i : Nat} {u : List UInt8} {d : Dk} (h : Fz k i u d) (hk : k < 20) (hi : i ≤ k) (hu : u.length ≤ 100) : d.bytes.length ≤ 1000 := by
  rw [h.len]
  have : (i + 1) / 2 ≤ 10 := by omega
  calc (i + 1) / 2 * u.length ≤ 10 * 100 := Nat.mul_le_mul this hu
    _ ≤ 1000 := by decide

theorem Fz.append {k i : Nat} {u : List UInt8} {d : Dk} (h : Fz k i u d) (hk : k < 20) (hi : i < k) (hu : u.length ≤ 100) (hp : i % 2 = 0) : ∃ d', d.append u = (0, d') ∧ Fz k (i + 1) u d' := by
  have hl := h.fits hk (by omega) hu
  obtain ⟨h1, h2, h3, h4⟩ := h
  refine ⟨{ d.burn with bytes := d.bytes ++ u }, ?_, h1, ?_, h3, ?_⟩
  · unfold Dk.append
    rw [if_neg (by simp [h3]), if_neg (by omega), if_neg (by omega)]
  · simp only [Dk.burn, h2]
    rw [if_pos (by omega)]; omega
  · simp only [List.length_append, h4]
    have : (i + 1 + 1) / 2 = (i + 1) / 2 + 1 := by omega
    rw [this, Nat.add_mul, Nat.one_mul]

theorem Fz.sync {k i : Nat} {u : List UInt8} {d : Dk} (h : Fz k i u d) (hk : k < 20) (hi : i < k) (hp : i % 2 = 1) : ∃ d', d.sync = (0, d') ∧ Fz k (i + 1) u d' := by
  obtain ⟨h1, h2, h3, h4⟩ := h
  refine ⟨{ d.burn with safe := d.bytes.length }, ?_, h1, ?_, h3, ?_⟩
  · unfold Dk.sync
    rw [if_neg (by simp [h3]), if_neg (by omega)]
  · simp only [Dk.burn, h2]
    rw [if_pos (by omega)]; omega
  · simp only [Dk.burn, h4]
    rw [show (i + 1 + 1) / 2 = (i + 1) / 2 by omega]

theorem Fz.cut {k i : Nat} {u : List UInt8} {d : Dk} (h : Fz k i u d) : d.cut (-1) = (1, d) := by
  unfold Dk.cut
  rw [if_neg (by simp [h.down]), if_pos (by omega)]

theorem Fz.full {k i : Nat} {u : List UInt8} {d : Dk} (h : Fz k i u d) : d.append (List.replicate 2001 0) = (310, d) := by
  unfold Dk.append
  rw [if_neg (by simp [h.down]), if_pos]
  rw [h.room, List.length_replicate]; omega

theorem Fz.dead {k : Nat} {u : List UInt8} {d : Dk} (h : Fz k k u d) (hk : k < 20) (hu : u.length ≤ 100) : d.append u = (311, d.dead) := by
  have hl := h.fits hk (Nat.le_refl _) hu
  obtain ⟨h1, h2, h3, h4⟩ := h
  unfold Dk.append
  rw [if_neg (by simp [h3]), if_neg (by omega), if_pos (by omega)]

set_option maxHeartbeats 8000000 in
theorem diskFuses_ok (n : Int) (hn : -9223372036854775808 ≤ n ∧ n ≤ 9223372036854775807) (s : List UInt8) : FnC Try.prog 4 [int n, str s] [] (fun r L => r = bool true ∧ L = []) := by
  refine FnC.intro Try.func4 rfl Try.ntmps4 rfl fun Z w0 => ?_
  have cn := below_ok n 20 hn (by decide)
  have hm := Int.emod_nonneg n (show (20 : Int) ≠ 0 by decide)
  have hm' := Int.emod_lt_of_pos n (show (0 : Int) < 20 by decide)
  obtain ⟨k, hk⟩ : ∃ k : Nat, n % 20 = k := ⟨(n % 20).toNat, by omega⟩
  rw [hk] at cn hm'
  have hk20 : k < 20 := by omega
  have cs := bcut_ok s 100 (by decide)
  have hu : (s.take (Int.toNat 100)).length ≤ 100 := by rw [List.length_take]; exact Nat.min_le_left ..
  generalize s.take (Int.toNat 100) = u at cs hu
  have c0 := new_ok 2000 (by decide)
  have cf : ∀ b, FnC Try.prog 17 [ptr b, int k] [dk b (Dk.fresh 2000)] (fun s L => L = [dk b { Dk.fresh 2000 with fuse := k }]) := fun b => by
    have := fuse_ok b (Dk.fresh 2000) k
    rwa [if_neg (by omega)] at this
  focus (
    (refine W.seq ?_)
    (refine W.region ?_)
    (refine Jx.assign rfl rfl ?_)
    (refine J.nil ?_)
    (refine N.seq ?_)
    (refine W.seq ?_)
    (refine W.seq ?_)
    (refine W.region ?_)
    (refine J.call works_ok rfl .nil rfl ?_; rintro _ _ ⟨rfl, rfl⟩; simp only [List.cons_append, List.nil_append, List.append_nil])
    (refine Jx.not rfl rfl ?_)
    (refine J.nil ?_)
    (refine N.seq ?_)
    (refine W.condF rfl (by first | rfl | assumption | (exact decide_eq_true (by first | assumption | omega | rfl)) | (exact decide_eq_false (by first | assumption | omega | rfl)) | (simp; done) | (simp; omega)) ?_)
    (refine W.skip ?_)
    (refine N.seq ?_)
    (refine W.seq ?_)
    (refine W.region ?_)
    (refine Jx.move rfl rfl ?_)
    (refine J.call cn rfl (.cons rfl (.cons rfl .nil)) rfl ?_; rintro _ _ ⟨rfl, rfl⟩; simp only [List.cons_append, List.nil_append, List.append_nil])
    (refine Jx.assign rfl rfl ?_)
    (refine J.nil ?_)
    (refine N.seq ?_)
    (refine W.seq ?_)
    (refine W.region ?_)
    (refine Jx.move rfl rfl ?_)
    (refine J.call cs rfl (.cons rfl (.cons rfl .nil)) rfl ?_; rintro _ _ ⟨rfl, rfl⟩; simp only [List.cons_append, List.nil_append, List.append_nil])
    (refine Jx.assign rfl rfl ?_)
    (refine J.nil ?_)
    (refine N.seq ?_)
    (refine W.seq ?_)
    (refine W.region ?_)
    (refine J.call c0 rfl (.cons rfl .nil) rfl ?_; rintro _ _ ⟨b, rfl, rfl⟩; simp only [List.cons_append, List.nil_append, List.append_nil])
    (refine Jx.move rfl rfl ?_)
    (refine Jx.extract rfl rfl rfl ?_)
    (refine Jx.extract rfl rfl rfl ?_)
    (refine Jx.assign rfl rfl ?_)
    (refine Jx.assign rfl rfl ?_)
    (refine J.nil ?_)
    (refine N.seq ?_)
    (refine W.seq ?_)
    (refine W.seq ?_)
    (refine W.region ?_)
    (refine Jx.move rfl rfl ?_)
    (refine Jx.neqI rfl rfl rfl ?_)
    (refine J.nil ?_)
    (refine N.seq ?_)
    (refine W.condF rfl (by first | rfl | assumption | (exact decide_eq_true (by first | assumption | omega | rfl)) | (exact decide_eq_false (by first | assumption | omega | rfl)) | (simp; done) | (simp; omega)) ?_)
    (refine W.skip ?_)
    (refine N.seq ?_)
    (refine W.seq ?_)
    (refine W.region ?_)
    (refine Jx.move rfl rfl ?_)
    (refine Jx.move rfl rfl ?_)
    (refine J.call (cf _) rfl (.cons rfl (.cons rfl .nil)) rfl ?_; rintro _ _ rfl; simp only [List.cons_append, List.nil_append, List.append_nil])
    (refine J.nil ?_)
    (refine N.seq ?_)
    (refine W.seq ?_)
    (refine W.seq ?_)
    (refine W.region ?_)
    (refine Jx.move rfl rfl ?_)
    (refine Jx.move rfl rfl ?_)
    (refine J.nil ?_)
    (refine N.seq ?_)
    (refine W.block ?_)
    (refine id ?_; rotate_left))
  refine W.loop (α := Nat × Dk) (fun x => [(25, int x.1), (24, int k), (5, ptr b), (1, str u), (0, int k)]) (fun x => [dk b x.2]) (fun x => x.1 ≤ k ∧ Fz k x.1 u x.2) (fun x => k - x.1) (0, { Dk.fresh 2000 with fuse := k })
    ⟨by omega, rfl, by simp, rfl, by simp [Dk.fresh]⟩ rfl ⟨ref0 rfl, ref0 rfl, ref0 rfl, ref0 rfl, ref0 rfl, trivial⟩ ?_
  rintro ⟨i, d⟩ ⟨hi, hz⟩
  simp only at hi hz ⊢
  have hfit := hz.fits hk20 hi hu
  have hfu : d.fuse ≤ 9223372036854775807 := by rw [hz.fuse]; omega
  have hro : 0 ≤ d.room ∧ d.room ≤ 1048576 := by rw [hz.room]; decide
  by_cases h1 : i < k
  · have h1' : (i : Int) < k := by omega
    have k1 : FnC Try.prog 18 [ptr b, int (-1)] [dk b d] (fun s L => s = int 1 ∧ L = [dk b d]) := by have := cut_ok b d (-1) hfu; rwa [hz.cut] at this
    have k2 : FnC Try.prog 19 [ptr b, str (List.replicate 2001 0)] [dk b d] (fun s L => s = int 310 ∧ L = [dk b d]) := by have := append_ok b d (List.replicate 2001 0) hfu hro (by omega) (by rw [List.length_replicate]; decide); rwa [hz.full] at this
    have hmod : (i : Int).tmod 2 = ((i % 2 : Nat) : Int) := rfl
    by_cases hp : i % 2 = 0
    · have p0 : (i : Int).tmod 2 = 0 := by rw [hmod, hp]; rfl
      have p1 : ¬ (i : Int).tmod 2 = 1 := by rw [p0]; decide
      obtain ⟨d', e, hz'⟩ := hz.append hk20 h1 hu hp
      have k3 : FnC Try.prog 19 [ptr b, str u] [dk b d] (fun s L => s = int 0 ∧ L = [dk b d']) := by have := append_ok b d u hfu hro (by omega) (by omega); rwa [e] at this
      focus (
    (refine W.seq ?_)
    (refine W.region ?_)
    (refine Jx.lssI rfl rfl rfl ?_)
    (refine J.nil ?_)
    (refine N.seq ?_)
    (refine W.seq ?_)
    (refine W.condT rfl (by first | rfl | assumption | (exact decide_eq_true (by first | assumption | omega | rfl)) | (exact decide_eq_false (by first | assumption | omega | rfl)) | (simp; done) | (simp; omega)) ?_)
    (refine W.skip ?_)
    (refine N.seq ?_)
    (refine W.seq ?_)
    (refine W.block ?_)
    (refine W.seq ?_)
    (refine W.region ?_)
    (refine Jx.move rfl rfl ?_)
    (refine Jx.assign rfl rfl ?_)
    (refine J.nil ?_)
    (refine N.seq ?_)
    (refine W.seq ?_)
    (refine W.seq ?_)
    (refine W.region ?_)
    (refine Jx.move rfl rfl ?_)
    (refine J.call k1 rfl (.cons rfl (.cons rfl .nil)) rfl ?_; rintro _ _ ⟨rfl, rfl⟩; simp only [List.cons_append, List.nil_append, List.append_nil])
    (refine Jx.neqI rfl rfl rfl ?_)
    (refine Jx.move rfl rfl ?_)
    (refine J.guardYes rfl rfl rfl (by first | rfl | assumption | (exact decide_eq_true (by first | assumption | omega | rfl)) | (exact decide_eq_false (by first | assumption | omega | rfl)) | (simp; done) | (simp; omega)) ?_)
    (refine Jx.move rfl rfl ?_)
    (refine J.guardYes rfl rfl rfl (by first | rfl | assumption | (exact decide_eq_true (by first | assumption | omega | rfl)) | (exact decide_eq_false (by first | assumption | omega | rfl)) | (simp; done) | (simp; omega)) ?_)
    (refine J.qs (Qs.zeros (n := 2001) rfl rfl (by decide) (by decide)) rfl ?_)
    (refine J.guardYes rfl rfl rfl (by first | rfl | assumption | (exact decide_eq_true (by first | assumption | omega | rfl)) | (exact decide_eq_false (by first | assumption | omega | rfl)) | (simp; done) | (simp; omega)) ?_)
    (refine Jx.bytesStr rfl rfl ?_)
    (refine J.guardYes rfl rfl rfl (by first | rfl | assumption | (exact decide_eq_true (by first | assumption | omega | rfl)) | (exact decide_eq_false (by first | assumption | omega | rfl)) | (simp; done) | (simp; omega)) ?_)
    (refine J.call k2 rfl (.cons rfl (.cons rfl .nil)) rfl ?_; rintro _ _ ⟨rfl, rfl⟩; simp only [List.cons_append, List.nil_append, List.append_nil])
    (refine J.guardYes rfl rfl rfl (by first | rfl | assumption | (exact decide_eq_true (by first | assumption | omega | rfl)) | (exact decide_eq_false (by first | assumption | omega | rfl)) | (simp; done) | (simp; omega)) ?_)
    (refine Jx.neqI rfl rfl rfl ?_)
    (refine Jx.pickF rfl (by first | rfl | assumption | (exact decide_eq_true (by first | assumption | omega | rfl)) | (exact decide_eq_false (by first | assumption | omega | rfl)) | (simp; done) | (simp; omega)) rfl rfl ?_)
    (refine J.nil ?_)
    (refine N.seq ?_)
    (refine W.condF rfl (by first | rfl | assumption | (exact decide_eq_true (by first | assumption | omega | rfl)) | (exact decide_eq_false (by first | assumption | omega | rfl)) | (simp; done) | (simp; omega)) ?_)
    (refine W.skip ?_)
    (refine N.seq ?_)
    (refine W.seq ?_)
    (refine W.region ?_)
    (refine Jx.move rfl rfl ?_)
    (refine Jx.rem rfl rfl (by decide) rfl ?_)
    (refine Jx.eqlI rfl rfl rfl ?_)
    (refine Jx.move rfl rfl ?_)
    (refine J.guardYes rfl rfl rfl (by first | rfl | assumption | (exact decide_eq_true (by first | assumption | omega | rfl)) | (exact decide_eq_false (by first | assumption | omega | rfl)) | (simp; done) | (simp; omega)) ?_)
    (refine Jx.move rfl rfl ?_)
    (refine J.guardYes rfl rfl rfl (by first | rfl | assumption | (exact decide_eq_true (by first | assumption | omega | rfl)) | (exact decide_eq_false (by first | assumption | omega | rfl)) | (simp; done) | (simp; omega)) ?_)
    (refine Jx.move rfl rfl ?_)
    (refine J.guardYes rfl rfl rfl (by first | rfl | assumption | (exact decide_eq_true (by first | assumption | omega | rfl)) | (exact decide_eq_false (by first | assumption | omega | rfl)) | (simp; done) | (simp; omega)) ?_)
    (refine J.call k3 rfl (.cons rfl (.cons rfl .nil)) rfl ?_; rintro _ _ ⟨rfl, rfl⟩; simp only [List.cons_append, List.nil_append, List.append_nil])
    (refine J.guardYes rfl rfl rfl (by first | rfl | assumption | (exact decide_eq_true (by first | assumption | omega | rfl)) | (exact decide_eq_false (by first | assumption | omega | rfl)) | (simp; done) | (simp; omega)) ?_)
    (refine Jx.neqI rfl rfl rfl ?_)
    (refine Jx.pickT rfl (by first | rfl | assumption | (exact decide_eq_true (by first | assumption | omega | rfl)) | (exact decide_eq_false (by first | assumption | omega | rfl)) | (simp; done) | (simp; omega)) rfl rfl ?_)
    (refine Jx.move rfl rfl ?_)
    (refine J.guardYes rfl rfl rfl (by first | rfl | assumption | (exact decide_eq_true (by first | assumption | omega | rfl)) | (exact decide_eq_false (by first | assumption | omega | rfl)) | (simp; done) | (simp; omega)) ?_)
    (refine Jx.move rfl rfl ?_)
    (refine J.guardYes rfl rfl rfl (by first | rfl | assumption | (exact decide_eq_true (by first | assumption | omega | rfl)) | (exact decide_eq_false (by first | assumption | omega | rfl)) | (simp; done) | (simp; omega)) ?_)
    (refine Jx.rem rfl rfl (by decide) rfl ?_)
    (refine J.guardYes rfl rfl rfl (by first | rfl | assumption | (exact decide_eq_true (by first | assumption | omega | rfl)) | (exact decide_eq_false (by first | assumption | omega | rfl)) | (simp; done) | (simp; omega)) ?_)
    (refine Jx.eqlI rfl rfl rfl ?_)
    (refine J.guardYes rfl rfl rfl (by first | rfl | assumption | (exact decide_eq_true (by first | assumption | omega | rfl)) | (exact decide_eq_false (by first | assumption | omega | rfl)) | (simp; done) | (simp; omega)) ?_)
    (refine Jx.move rfl rfl ?_)
    (refine J.guardNo rfl rfl rfl (by first | rfl | assumption | (exact decide_eq_true (by first | assumption | omega | rfl)) | (exact decide_eq_false (by first | assumption | omega | rfl)) | (simp; done) | (simp; omega)) rfl ?_)
    (refine J.guardNo rfl rfl rfl (by first | rfl | assumption | (exact decide_eq_true (by first | assumption | omega | rfl)) | (exact decide_eq_false (by first | assumption | omega | rfl)) | (simp; done) | (simp; omega)) rfl ?_)
    (refine J.guardNo rfl rfl rfl (by first | rfl | assumption | (exact decide_eq_true (by first | assumption | omega | rfl)) | (exact decide_eq_false (by first | assumption | omega | rfl)) | (simp; done) | (simp; omega)) rfl ?_)
    (refine J.guardYes rfl rfl rfl (by first | rfl | assumption | (exact decide_eq_true (by first | assumption | omega | rfl)) | (exact decide_eq_false (by first | assumption | omega | rfl)) | (simp; done) | (simp; omega)) ?_)
    (refine Jx.pickF rfl (by first | rfl | assumption | (exact decide_eq_true (by first | assumption | omega | rfl)) | (exact decide_eq_false (by first | assumption | omega | rfl)) | (simp; done) | (simp; omega)) rfl rfl ?_)
    (refine Jx.pickF rfl (by first | rfl | assumption | (exact decide_eq_true (by first | assumption | omega | rfl)) | (exact decide_eq_false (by first | assumption | omega | rfl)) | (simp; done) | (simp; omega)) rfl rfl ?_)
    (refine J.nil ?_)
    (refine N.seq ?_)
    (refine W.condF rfl (by first | rfl | assumption | (exact decide_eq_true (by first | assumption | omega | rfl)) | (exact decide_eq_false (by first | assumption | omega | rfl)) | (simp; done) | (simp; omega)) ?_)
    (refine W.skip ?_)
    (refine N.seq ?_)
    (refine W.region ?_)
    (refine Jx.add64 rfl rfl (by omega) rfl ?_)
    (refine Jx.move rfl rfl ?_)
    (refine J.nil ?_)
    (refine id ?_; rotate_left))
      exact N.round (i + 1, d') ⟨h1, hz'⟩ (by simp only; omega) rfl ⟨ref0 rfl, ref0 rfl, ref0 rfl, ref0 rfl, ref0 rfl, trivial⟩
    · have p1 : (i : Int).tmod 2 = 1 := by rw [hmod, show i % 2 = 1 by omega]; rfl
      have p0 : ¬ (i : Int).tmod 2 = 0 := by rw [p1]; decide
      obtain ⟨d', e, hz'⟩ := hz.sync hk20 h1 (by omega)
      have k3 : FnC Try.prog 13 [ptr b] [dk b d] (fun s L => s = int 0 ∧ L = [dk b d']) := by have := sync_ok b d hfu; rwa [e] at this
      focus (
    (refine W.seq ?_)
    (refine W.region ?_)
    (refine Jx.lssI rfl rfl rfl ?_)
    (refine J.nil ?_)
    (refine N.seq ?_)
    (refine W.seq ?_)
    (refine W.condT rfl (by first | rfl | assumption | (exact decide_eq_true (by first | assumption | omega | rfl)) | (exact decide_eq_false (by first | assumption | omega | rfl)) | (simp; done) | (simp; omega)) ?_)
    (refine W.skip ?_)
    (refine N.seq ?_)
    (refine W.seq ?_)
    (refine W.block ?_)
    (refine W.seq ?_)
    (refine W.region ?_)
    (refine Jx.move rfl rfl ?_)
    (refine Jx.assign rfl rfl ?_)
    (refine J.nil ?_)
    (refine N.seq ?_)
    (refine W.seq ?_)
    (refine W.seq ?_)
    (refine W.region ?_)
    (refine Jx.move rfl rfl ?_)
    (refine J.call k1 rfl (.cons rfl (.cons rfl .nil)) rfl ?_; rintro _ _ ⟨rfl, rfl⟩; simp only [List.cons_append, List.nil_append, List.append_nil])
    (refine Jx.neqI rfl rfl rfl ?_)
    (refine Jx.move rfl rfl ?_)
    (refine J.guardYes rfl rfl rfl (by first | rfl | assumption | (exact decide_eq_true (by first | assumption | omega | rfl)) | (exact decide_eq_false (by first | assumption | omega | rfl)) | (simp; done) | (simp; omega)) ?_)
    (refine Jx.move rfl rfl ?_)
    (refine J.guardYes rfl rfl rfl (by first | rfl | assumption | (exact decide_eq_true (by first | assumption | omega | rfl)) | (exact decide_eq_false (by first | assumption | omega | rfl)) | (simp; done) | (simp; omega)) ?_)
    (refine J.qs (Qs.zeros (n := 2001) rfl rfl (by decide) (by decide)) rfl ?_)
    (refine J.guardYes rfl rfl rfl (by first | rfl | assumption | (exact decide_eq_true (by first | assumption | omega | rfl)) | (exact decide_eq_false (by first | assumption | omega | rfl)) | (simp; done) | (simp; omega)) ?_)
    (refine Jx.bytesStr rfl rfl ?_)
    (refine J.guardYes rfl rfl rfl (by first | rfl | assumption | (exact decide_eq_true (by first | assumption | omega | rfl)) | (exact decide_eq_false (by first | assumption | omega | rfl)) | (simp; done) | (simp; omega)) ?_)
    (refine J.call k2 rfl (.cons rfl (.cons rfl .nil)) rfl ?_; rintro _ _ ⟨rfl, rfl⟩; simp only [List.cons_append, List.nil_append, List.append_nil])
    (refine J.guardYes rfl rfl rfl (by first | rfl | assumption | (exact decide_eq_true (by first | assumption | omega | rfl)) | (exact decide_eq_false (by first | assumption | omega | rfl)) | (simp; done) | (simp; omega)) ?_)
    (refine Jx.neqI rfl rfl rfl ?_)
    (refine Jx.pickF rfl (by first | rfl | assumption | (exact decide_eq_true (by first | assumption | omega | rfl)) | (exact decide_eq_false (by first | assumption | omega | rfl)) | (simp; done) | (simp; omega)) rfl rfl ?_)
    (refine J.nil ?_)
    (refine N.seq ?_)
    (refine W.condF rfl (by first | rfl | assumption | (exact decide_eq_true (by first | assumption | omega | rfl)) | (exact decide_eq_false (by first | assumption | omega | rfl)) | (simp; done) | (simp; omega)) ?_)
    (refine W.skip ?_)
    (refine N.seq ?_)
    (refine W.seq ?_)
    (refine W.region ?_)
    (refine Jx.move rfl rfl ?_)
    (refine Jx.rem rfl rfl (by decide) rfl ?_)
    (refine Jx.eqlI rfl rfl rfl ?_)
    (refine Jx.move rfl rfl ?_)
    (refine J.guardNo rfl rfl rfl (by first | rfl | assumption | (exact decide_eq_true (by first | assumption | omega | rfl)) | (exact decide_eq_false (by first | assumption | omega | rfl)) | (simp; done) | (simp; omega)) rfl ?_)
    (refine J.guardNo rfl rfl rfl (by first | rfl | assumption | (exact decide_eq_true (by first | assumption | omega | rfl)) | (exact decide_eq_false (by first | assumption | omega | rfl)) | (simp; done) | (simp; omega)) rfl ?_)
    (refine J.guardNo rfl rfl rfl (by first | rfl | assumption | (exact decide_eq_true (by first | assumption | omega | rfl)) | (exact decide_eq_false (by first | assumption | omega | rfl)) | (simp; done) | (simp; omega)) rfl ?_)
    (refine J.guardNo rfl rfl rfl (by first | rfl | assumption | (exact decide_eq_true (by first | assumption | omega | rfl)) | (exact decide_eq_false (by first | assumption | omega | rfl)) | (simp; done) | (simp; omega)) rfl ?_)
    (refine Jx.pickF rfl (by first | rfl | assumption | (exact decide_eq_true (by first | assumption | omega | rfl)) | (exact decide_eq_false (by first | assumption | omega | rfl)) | (simp; done) | (simp; omega)) rfl rfl ?_)
    (refine Jx.move rfl rfl ?_)
    (refine J.guardYes rfl rfl rfl (by first | rfl | assumption | (exact decide_eq_true (by first | assumption | omega | rfl)) | (exact decide_eq_false (by first | assumption | omega | rfl)) | (simp; done) | (simp; omega)) ?_)
    (refine Jx.move rfl rfl ?_)
    (refine J.guardYes rfl rfl rfl (by first | rfl | assumption | (exact decide_eq_true (by first | assumption | omega | rfl)) | (exact decide_eq_false (by first | assumption | omega | rfl)) | (simp; done) | (simp; omega)) ?_)
    (refine Jx.rem rfl rfl (by decide) rfl ?_)
    (refine J.guardYes rfl rfl rfl (by first | rfl | assumption | (exact decide_eq_true (by first | assumption | omega | rfl)) | (exact decide_eq_false (by first | assumption | omega | rfl)) | (simp; done) | (simp; omega)) ?_)
    (refine Jx.eqlI rfl rfl rfl ?_)
    (refine J.guardYes rfl rfl rfl (by first | rfl | assumption | (exact decide_eq_true (by first | assumption | omega | rfl)) | (exact decide_eq_false (by first | assumption | omega | rfl)) | (simp; done) | (simp; omega)) ?_)
    (refine Jx.move rfl rfl ?_)
    (refine J.guardYes rfl rfl rfl (by first | rfl | assumption | (exact decide_eq_true (by first | assumption | omega | rfl)) | (exact decide_eq_false (by first | assumption | omega | rfl)) | (simp; done) | (simp; omega)) ?_)
    (refine Jx.move rfl rfl ?_)
    (refine J.guardYes rfl rfl rfl (by first | rfl | assumption | (exact decide_eq_true (by first | assumption | omega | rfl)) | (exact decide_eq_false (by first | assumption | omega | rfl)) | (simp; done) | (simp; omega)) ?_)
    (refine J.call k3 rfl (.cons rfl .nil) rfl ?_; rintro _ _ ⟨rfl, rfl⟩; simp only [List.cons_append, List.nil_append, List.append_nil])
    (refine J.guardYes rfl rfl rfl (by first | rfl | assumption | (exact decide_eq_true (by first | assumption | omega | rfl)) | (exact decide_eq_false (by first | assumption | omega | rfl)) | (simp; done) | (simp; omega)) ?_)
    (refine Jx.neqI rfl rfl rfl ?_)
    (refine J.guardYes rfl rfl rfl (by first | rfl | assumption | (exact decide_eq_true (by first | assumption | omega | rfl)) | (exact decide_eq_false (by first | assumption | omega | rfl)) | (simp; done) | (simp; omega)) ?_)
    (refine Jx.pickT rfl (by first | rfl | assumption | (exact decide_eq_true (by first | assumption | omega | rfl)) | (exact decide_eq_false (by first | assumption | omega | rfl)) | (simp; done) | (simp; omega)) rfl rfl ?_)
    (refine Jx.pickF rfl (by first | rfl | assumption | (exact decide_eq_true (by first | assumption | omega | rfl)) | (exact decide_eq_false (by first | assumption | omega | rfl)) | (simp; done) | (simp; omega)) rfl rfl ?_)
    (refine J.nil ?_)
    (refine N.seq ?_)
    (refine W.condF rfl (by first | rfl | assumption | (exact decide_eq_true (by first | assumption | omega | rfl)) | (exact decide_eq_false (by first | assumption | omega | rfl)) | (simp; done) | (simp; omega)) ?_)
    (refine W.skip ?_)
    (refine N.seq ?_)
    (refine W.region ?_)
    (refine Jx.add64 rfl rfl (by omega) rfl ?_)
    (refine Jx.move rfl rfl ?_)
    (refine J.nil ?_)
    (refine id ?_; rotate_left))
      exact N.round (i + 1, d') ⟨h1, hz'⟩ (by simp only; omega) rfl ⟨ref0 rfl, ref0 rfl, ref0 rfl, ref0 rfl, ref0 rfl, trivial⟩
  · have hik : i = k := by omega
    subst hik
    have hd0 : d.down = false := hz.down
    have hdt : (!d.down) = true := by rw [hd0]; rfl
    have k1 := up_ok b d
    have k2 : FnC Try.prog 19 [ptr b, str u] [dk b d] (fun s L => s = int 311 ∧ L = [dk b d.dead]) := by have := append_ok b d u hfu hro (by omega) (by omega); rwa [hz.dead hk20 hu] at this
    have k3 : FnC Try.prog 12 [ptr b] [dk b d.dead] (fun s L => s = bool false ∧ L = [dk b d.dead]) := up_ok b d.dead
    have k4 := read_ok b d
    have k5 : FnC Try.prog 9 [ptr b] [dk b d.dead] (fun s L => s = str d.bytes ∧ L = [dk b d.dead]) := read_ok b d.dead
    have k6 : FnC Try.prog 13 [ptr b] [dk b d.dead] (fun s L => s = int 311 ∧ L = [dk b d.dead]) := sync_ok b d.dead hfu
    have k7 : FnC Try.prog 18 [ptr b, int 0] [dk b d.dead] (fun s L => s = int 311 ∧ L = [dk b d.dead]) := cut_ok b d.dead 0 hfu
    have hfin : ((d.bytes.length : Nat) : Int) = ((i : Int) + 1) / 2 * (u.length : Int) := by
      have e : ((i : Int) + 1) / 2 = (((i + 1) / 2 : Nat) : Int) := rfl
      rw [e, hz.len, Int.natCast_mul]
    have hmul : ((i : Int) + 1) / 2 * (u.length : Int) ≤ 9223372036854775807 ∧ -9223372036854775808 ≤ ((i : Int) + 1) / 2 * (u.length : Int) := by rw [← hfin]; omega
    focus (
    (refine W.seq ?_)
    (refine W.region ?_)
    (refine Jx.lssI rfl rfl rfl ?_)
    (refine J.nil ?_)
    (refine N.seq ?_)
    (refine W.seq ?_)
    (refine W.condF rfl (by first | rfl | assumption | (exact decide_eq_true (by first | assumption | omega | rfl)) | (exact decide_eq_false (by first | assumption | omega | rfl)) | (simp; done) | (simp; omega)) ?_)
    (refine W.exit ?_)
    (refine N.seq ?_)
    (refine W.seq ?_)
    (refine W.region ?_)
    (refine Jx.move rfl rfl ?_)
    (refine J.call k4 rfl (.cons rfl .nil) rfl ?_; rintro _ _ ⟨rfl, rfl⟩; simp only [List.cons_append, List.nil_append, List.append_nil])
    (refine Jx.assign rfl rfl ?_)
    (refine J.nil ?_)
    (refine N.seq ?_)
    (refine W.seq ?_)
    (refine W.region ?_)
    (refine Jx.move rfl rfl ?_)
    (refine J.call k1 rfl (.cons rfl .nil) rfl ?_; rintro _ _ ⟨rfl, rfl⟩; simp only [List.cons_append, List.nil_append, List.append_nil])
    (refine Jx.move rfl rfl ?_)
    (refine J.guardYes rfl rfl rfl (by first | rfl | assumption | (exact decide_eq_true (by first | assumption | omega | rfl)) | (exact decide_eq_false (by first | assumption | omega | rfl)) | (simp; done) | (simp; omega)) ?_)
    (refine Jx.move rfl rfl ?_)
    (refine J.guardYes rfl rfl rfl (by first | rfl | assumption | (exact decide_eq_true (by first | assumption | omega | rfl)) | (exact decide_eq_false (by first | assumption | omega | rfl)) | (simp; done) | (simp; omega)) ?_)
    (refine Jx.move rfl rfl ?_)
    (refine J.guardYes rfl rfl rfl (by first | rfl | assumption | (exact decide_eq_true (by first | assumption | omega | rfl)) | (exact decide_eq_false (by first | assumption | omega | rfl)) | (simp; done) | (simp; omega)) ?_)
    (refine J.call k2 rfl (.cons rfl (.cons rfl .nil)) rfl ?_; rintro _ _ ⟨rfl, rfl⟩; simp only [List.cons_append, List.nil_append, List.append_nil])
    (refine J.guardYes rfl rfl rfl (by first | rfl | assumption | (exact decide_eq_true (by first | assumption | omega | rfl)) | (exact decide_eq_false (by first | assumption | omega | rfl)) | (simp; done) | (simp; omega)) ?_)
    (refine Jx.eqlI rfl rfl rfl ?_)
    (refine Jx.pickT rfl (by first | rfl | assumption | (exact decide_eq_true (by first | assumption | omega | rfl)) | (exact decide_eq_false (by first | assumption | omega | rfl)) | (simp; done) | (simp; omega)) rfl rfl ?_)
    (refine Jx.move rfl rfl ?_)
    (refine J.guardYes rfl rfl rfl (by first | rfl | assumption | (exact decide_eq_true (by first | assumption | omega | rfl)) | (exact decide_eq_false (by first | assumption | omega | rfl)) | (simp; done) | (simp; omega)) ?_)
    (refine Jx.move rfl rfl ?_)
    (refine J.guardYes rfl rfl rfl (by first | rfl | assumption | (exact decide_eq_true (by first | assumption | omega | rfl)) | (exact decide_eq_false (by first | assumption | omega | rfl)) | (simp; done) | (simp; omega)) ?_)
    (refine J.call k3 rfl (.cons rfl .nil) rfl ?_; rintro _ _ ⟨rfl, rfl⟩; simp only [List.cons_append, List.nil_append, List.append_nil])
    (refine J.guardYes rfl rfl rfl (by first | rfl | assumption | (exact decide_eq_true (by first | assumption | omega | rfl)) | (exact decide_eq_false (by first | assumption | omega | rfl)) | (simp; done) | (simp; omega)) ?_)
    (refine Jx.not rfl rfl ?_)
    (refine Jx.pickT rfl (by first | rfl | assumption | (exact decide_eq_true (by first | assumption | omega | rfl)) | (exact decide_eq_false (by first | assumption | omega | rfl)) | (simp; done) | (simp; omega)) rfl rfl ?_)
    (refine Jx.move rfl rfl ?_)
    (refine J.guardYes rfl rfl rfl (by first | rfl | assumption | (exact decide_eq_true (by first | assumption | omega | rfl)) | (exact decide_eq_false (by first | assumption | omega | rfl)) | (simp; done) | (simp; omega)) ?_)
    (refine Jx.move rfl rfl ?_)
    (refine J.guardYes rfl rfl rfl (by first | rfl | assumption | (exact decide_eq_true (by first | assumption | omega | rfl)) | (exact decide_eq_false (by first | assumption | omega | rfl)) | (simp; done) | (simp; omega)) ?_)
    (refine J.call k5 rfl (.cons rfl .nil) rfl ?_; rintro _ _ ⟨rfl, rfl⟩; simp only [List.cons_append, List.nil_append, List.append_nil])
    (refine J.guardYes rfl rfl rfl (by first | rfl | assumption | (exact decide_eq_true (by first | assumption | omega | rfl)) | (exact decide_eq_false (by first | assumption | omega | rfl)) | (simp; done) | (simp; omega)) ?_)
    (refine Jx.move rfl rfl ?_)
    (refine J.guardYes rfl rfl rfl (by first | rfl | assumption | (exact decide_eq_true (by first | assumption | omega | rfl)) | (exact decide_eq_false (by first | assumption | omega | rfl)) | (simp; done) | (simp; omega)) ?_)
    (refine Jx.eqlS rfl rfl rfl ?_)
    (refine Jx.pickT rfl (by first | rfl | assumption | (exact decide_eq_true (by first | assumption | omega | rfl)) | (exact decide_eq_false (by first | assumption | omega | rfl)) | (simp; done) | (simp; omega)) rfl rfl ?_)
    (refine Jx.move rfl rfl ?_)
    (refine J.guardYes rfl rfl rfl (by first | rfl | assumption | (exact decide_eq_true (by first | assumption | omega | rfl)) | (exact decide_eq_false (by first | assumption | omega | rfl)) | (simp; done) | (simp; omega)) ?_)
    (refine Jx.move rfl rfl ?_)
    (refine J.guardYes rfl rfl rfl (by first | rfl | assumption | (exact decide_eq_true (by first | assumption | omega | rfl)) | (exact decide_eq_false (by first | assumption | omega | rfl)) | (simp; done) | (simp; omega)) ?_)
    (refine J.call k6 rfl (.cons rfl .nil) rfl ?_; rintro _ _ ⟨rfl, rfl⟩; simp only [List.cons_append, List.nil_append, List.append_nil])
    (refine J.guardYes rfl rfl rfl (by first | rfl | assumption | (exact decide_eq_true (by first | assumption | omega | rfl)) | (exact decide_eq_false (by first | assumption | omega | rfl)) | (simp; done) | (simp; omega)) ?_)
    (refine Jx.eqlI rfl rfl rfl ?_)
    (refine Jx.pickT rfl (by first | rfl | assumption | (exact decide_eq_true (by first | assumption | omega | rfl)) | (exact decide_eq_false (by first | assumption | omega | rfl)) | (simp; done) | (simp; omega)) rfl rfl ?_)
    (refine Jx.move rfl rfl ?_)
    (refine J.guardYes rfl rfl rfl (by first | rfl | assumption | (exact decide_eq_true (by first | assumption | omega | rfl)) | (exact decide_eq_false (by first | assumption | omega | rfl)) | (simp; done) | (simp; omega)) ?_)
    (refine Jx.move rfl rfl ?_)
    (refine J.guardYes rfl rfl rfl (by first | rfl | assumption | (exact decide_eq_true (by first | assumption | omega | rfl)) | (exact decide_eq_false (by first | assumption | omega | rfl)) | (simp; done) | (simp; omega)) ?_)
    (refine J.call k7 rfl (.cons rfl (.cons rfl .nil)) rfl ?_; rintro _ _ ⟨rfl, rfl⟩; simp only [List.cons_append, List.nil_append, List.append_nil])
    (refine J.guardYes rfl rfl rfl (by first | rfl | assumption | (exact decide_eq_true (by first | assumption | omega | rfl)) | (exact decide_eq_false (by first | assumption | omega | rfl)) | (simp; done) | (simp; omega)) ?_)
    (refine Jx.eqlI rfl rfl rfl ?_)
    (refine Jx.pickT rfl (by first | rfl | assumption | (exact decide_eq_true (by first | assumption | omega | rfl)) | (exact decide_eq_false (by first | assumption | omega | rfl)) | (simp; done) | (simp; omega)) rfl rfl ?_)
    (refine Jx.move rfl rfl ?_)
    (refine J.guardYes rfl rfl rfl (by first | rfl | assumption | (exact decide_eq_true (by first | assumption | omega | rfl)) | (exact decide_eq_false (by first | assumption | omega | rfl)) | (simp; done) | (simp; omega)) ?_)
    (refine Jx.move rfl rfl ?_)
    (refine J.guardYes rfl rfl rfl (by first | rfl | assumption | (exact decide_eq_true (by first | assumption | omega | rfl)) | (exact decide_eq_false (by first | assumption | omega | rfl)) | (simp; done) | (simp; omega)) ?_)
    (refine Jx.lenS rfl rfl ?_)
    (refine J.guardYes rfl rfl rfl (by first | rfl | assumption | (exact decide_eq_true (by first | assumption | omega | rfl)) | (exact decide_eq_false (by first | assumption | omega | rfl)) | (simp; done) | (simp; omega)) ?_)
    (refine Jx.move rfl rfl ?_)
    (refine J.guardYes rfl rfl rfl (by first | rfl | assumption | (exact decide_eq_true (by first | assumption | omega | rfl)) | (exact decide_eq_false (by first | assumption | omega | rfl)) | (simp; done) | (simp; omega)) ?_)
    (refine Jx.add64 rfl rfl (by omega) rfl ?_)
    (refine J.guardYes rfl rfl rfl (by first | rfl | assumption | (exact decide_eq_true (by first | assumption | omega | rfl)) | (exact decide_eq_false (by first | assumption | omega | rfl)) | (simp; done) | (simp; omega)) ?_)
    (refine Jx.quo64 rfl rfl (by omega) (by decide) rfl ?_)
    (refine J.guardYes rfl rfl rfl (by first | rfl | assumption | (exact decide_eq_true (by first | assumption | omega | rfl)) | (exact decide_eq_false (by first | assumption | omega | rfl)) | (simp; done) | (simp; omega)) ?_)
    (refine Jx.move rfl rfl ?_)
    (refine J.guardYes rfl rfl rfl (by first | rfl | assumption | (exact decide_eq_true (by first | assumption | omega | rfl)) | (exact decide_eq_false (by first | assumption | omega | rfl)) | (simp; done) | (simp; omega)) ?_)
    (refine Jx.lenS rfl rfl ?_)
    (refine J.guardYes rfl rfl rfl (by first | rfl | assumption | (exact decide_eq_true (by first | assumption | omega | rfl)) | (exact decide_eq_false (by first | assumption | omega | rfl)) | (simp; done) | (simp; omega)) ?_)
    (refine Jx.mul64 rfl rfl (by omega) rfl ?_)
    (refine J.guardYes rfl rfl rfl (by first | rfl | assumption | (exact decide_eq_true (by first | assumption | omega | rfl)) | (exact decide_eq_false (by first | assumption | omega | rfl)) | (simp; done) | (simp; omega)) ?_)
    (refine Jx.eqlI rfl rfl rfl ?_)
    (refine Jx.pickT rfl (by first | rfl | assumption | (exact decide_eq_true (by first | assumption | omega | rfl)) | (exact decide_eq_false (by first | assumption | omega | rfl)) | (simp; done) | (simp; omega)) rfl rfl ?_)
    (refine Jx.assign rfl rfl ?_)
    (refine J.nil ?_)
    (refine N.seq ?_)
    (refine W.ret ?_)
    (refine id ?_; rotate_left))
    refine N.retD (rs := [.tmp 4]) (L1 := []) rfl (.tmp rfl .nil) (List.nil_sublist _) ⟨?_, rfl⟩
    rw [oneOr, decide_eq_true hfin]

noncomputable def rdsFuses : Rds Try.prog [3, 9] (Int × List UInt8 × Unit) := Rds.cons rdInt rfl (by kernel_rfl) (Rds.cons rdStr rfl (by kernel_rfl) Rds.nil)

set_option maxRecDepth 100000 in
theorem diskFuses_lifted (os : Os) (started : os.Started) (H : Type) (enc : TypeId × Value → H) :
    ReturnsInHanded {} Try.checked os 4 .any (Rows.diskFusesSpec.pre6 enc Try.prog Try.f4 Rows.diskFusesRow.domain false) (Rows.diskFusesSpec.post enc Try.prog Try.f4 false true false false) := by
  refine returnsInHanded_of_change (C := Try.checked) own started (by kernel_rfl) Try.func4
    (ChangeSpec.witness6 (enc := enc) (C := Try.checked) false ⟨#[], #[.int .i64 0, .string ⟨#[]⟩], []⟩ 8 (by kernel_rfl) (by kernel_rfl) (by kernel_rfl) (by kernel_rfl)) ?_
  intro W base args ds gs before hval hW _ _
  refine calls_of rdsFuses (tb := 4) rfl (by kernel_rfl) (by kernel_rfl) (by kernel_rfl) laidOut (by kernel_rfl) (fun ds hl => ?_) hval hW (fun a hg _ => ?_)
  · match ds, hl with
    | [d1, d2], _ => exact ⟨rfl, rfl, rfl⟩
  · obtain ⟨n, s, u⟩ := a
    exact ⟨_, diskFuses_ok n (i64_of hg.1) s, fun s L h => h.1⟩

theorem diskFuses_said : Rows.DiskFusesSaid :=
  OpenClaim.holds_of_wide 4 Try.f4 rfl rfl rfl rfl rfl rfl rfl ⟨rfl, rfl, rfl, rfl, rfl⟩ rfl rfl rfl rfl rfl (by kernel_rfl) Try.func4 (by kernel_rfl)
    (of_decide_eq_true (by kernel_rfl)) (by unfold Func.isWrapper; first | (rw [if_pos (by decide +kernel)]; kernel_rfl) | (rw [if_neg (by decide +kernel)]; exact ⟨rfl, rfl⟩))
    (fun os started H enc _ => diskFuses_lifted os started H enc)
#print axioms diskFuses_said
end Go.Proofs.Ytkoemilpfimbpaa
