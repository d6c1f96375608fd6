/-
  A hash's sum; a text's sum.
-/
import Derived.Test.YtjlpknligekfeaaDoorShaG
namespace Go.Proofs.YtjlpknligekfeaaDoor
open Go Go.Sse
set_option linter.unusedVariables false
set_option linter.unusedSimpArgs false

theorem zeros_stop (n k : Nat) (hk : k ≤ zerosOf n) (r : Nat) (hr : r = n % 64) : ((((r + 1 + k : Nat) : Int)) % 64 = 56) ↔ k = zerosOf n := by
  unfold zerosOf at *
  subst hr
  constructor
  · intro h; omega
  · intro h; subst h; omega
theorem lenB_take (n i : Nat) (h : i < 8) : (lenB n).take i ++ [UInt8.ofNat (n * 8 / 2 ^ (56 - 8 * i))] = (lenB n).take (i + 1) := by
  have hl : i < (lenB n).length := by rw [lenB_len]; exact h
  rw [List.take_add_one, List.getElem?_eq_getElem hl]
  simp [lenB]
theorem zerosOf_lt (n : Nat) : zerosOf n < 64 := Nat.mod_lt _ (by omega)

set_option maxHeartbeats 4000000 in
theorem sum_ok (b : Nat) (v : Value) (s : S8) (tail : List UInt8) (n : Nat) (h1 : tail.length = n % 64) (h2 : n ≤ 4294967296) :
    FnC Tryd.prog 18 [ptr b] (hraw b v s tail n) (fun r L => r = str (toldS (blocksS s (tail ++ padS n)).1) ∧ L = hraw b v s tail n) := by
  have hz := zerosOf_lt n
  have ht : tail.length < 64 := by omega
  have c := blocks_ok s (tail ++ padS n) (by simp only [padS, List.length_append, List.length_cons, List.length_nil, List.length_replicate, lenB_len]; omega)
  have hb0 : tail.length ≤ maxLen ∧ tail.length * 1 ≤ 140737488355328 := by simp only [maxLen]; omega
  have hb1 : tail.length + [(128 : UInt8)].length ≤ maxLen ∧ (tail.length + [(128 : UInt8)].length) * 1 ≤ 140737488355328 := by simp only [maxLen, List.length_cons, List.length_nil]; omega
  have hpad : tail ++ [128] ++ List.replicate (zerosOf n) 0 ++ lenB n = tail ++ padS n := by simp [padS]
  generalize hp : blocksS s (tail ++ padS n) = p at *
  obtain ⟨s2, tl2⟩ := p
  refine FnC.intro Tryd.func18 rfl Tryd.ntmps18 rfl fun Z w0 hG => ?_
  focus (
    (refine W.seq ?_)
    (refine W.region ?_)
    (refine Jx.assign rfl rfl ?_)
    (refine J.nil ?_)
    (refine N.seq ?_)
    (refine W.seq ?_)
    (refine W.region ?_)
    (refine Jx.move rfl rfl ?_)
    (refine Jx.nilCheck rfl rfl ?_)
    (refine Jx.fieldAddr rfl rfl ?_)
    (refine Jx.load rfl 1 rfl rfl rfl ?_)
    (refine J.appendNil (l2 := tail) (SrcOK.row rfl 1 rfl) rfl rfl hb0 rfl ?_; intro v1 hv1)
    (refine Jx.assign rfl rfl ?_)
    (refine J.nil ?_)
    (refine N.seq ?_)
    (refine W.seq ?_)
    (refine W.region ?_)
    (refine Jx.move rfl rfl ?_)
    (refine J.qs (Qs.buildBytes [128] rfl rfl rfl (by decide) (by decide)) rfl ?_)
    (refine J.appendL (l2 := [128]) rfl (SrcOK.sl rfl) rfl rfl hb1 rfl ?_; intro v2 hv2)
    (refine Jx.assign rfl rfl ?_)
    (refine J.nil ?_)
    (refine N.seq ?_)
    (refine W.seq ?_)
    (refine W.block ?_)
    (refine id ?_; rotate_left))
  refine W.loop (α := Nat × Value) (fun x => [(3, .val x.2), (0, ptr b)]) (fun x => .row x.2 tU8 1 (tail ++ [128] ++ List.replicate x.1 0).length (elOf encB 0 (tail ++ [128] ++ List.replicate x.1 0)) :: hraw b v s tail n) (fun x => x.1 ≤ zerosOf n) (fun x => zerosOf n - x.1) (0, v2) (by simp) (by simp only [List.replicate_zero, List.append_nil]) ⟨ref0 rfl, ref0 rfl, trivial⟩ ?_
  rintro ⟨k, u⟩ hk
  simp only at hk ⊢
  have hst := zeros_stop n k hk tail.length h1
  have hel : (tail ++ [128] ++ List.replicate k (0 : UInt8)).length = tail.length + 1 + k := by simp only [List.length_append, List.length_cons, List.length_nil, List.length_replicate]
  have hb2 : (tail ++ [128] ++ List.replicate k (0 : UInt8)).length + [(0 : UInt8)].length ≤ maxLen ∧ ((tail ++ [128] ++ List.replicate k (0 : UInt8)).length + [(0 : UInt8)].length) * 1 ≤ 140737488355328 := by rw [hel]; simp only [maxLen, List.length_cons, List.length_nil]; omega
  have hnext : tail ++ [128] ++ List.replicate k (0 : UInt8) ++ [0] = tail ++ [128] ++ List.replicate (k + 1) 0 := by rw [List.replicate_succ']; simp
  by_cases hkz : k = zerosOf n
  · have hc : (((tail ++ [128] ++ List.replicate k (0 : UInt8)).length : Nat) : Int) % 64 = 56 := by rw [hel]; exact hst.2 hkz
    rw [hkz] at hc hel ⊢
    generalize hE : tail ++ [128] ++ List.replicate (zerosOf n) (0 : UInt8) = e at *
    focus (
    (refine W.seq ?_)
    (refine W.seq ?_)
    (refine W.region ?_)
    (refine Jx.move rfl rfl ?_)
    (refine Jx.lenRow rfl 0 rfl rfl ?_)
    (refine Jx.rem64 rfl rfl (by omega) (by decide) rfl ?_)
    (refine Jx.neqI rfl rfl rfl ?_)
    (refine J.nil ?_)
    (refine N.seq ?_)
    (refine W.condF rfl (by first | rfl | assumption | (exact decide_eq_true (by first | assumption | omega | rfl)) | (exact decide_eq_false (by first | assumption | omega | rfl)) | (simp; done) | (simp; omega)) ?_)
    (refine W.exit ?_)
    (refine N.seq ?_)
    (refine W.seq ?_)
    (refine W.region ?_)
    (refine Jx.move rfl rfl ?_)
    (refine Jx.nilCheck rfl rfl ?_)
    (refine Jx.fieldAddr rfl rfl ?_)
    (refine Jx.load rfl 2 rfl rfl rfl ?_)
    (refine Jx.convU64 n rfl rfl rfl (by omega) rfl ?_)
    (refine Jx.mulU64 8 rfl rfl (by omega) rfl ?_)
    (refine Jx.assign rfl rfl ?_)
    (refine J.nil ?_)
    (refine N.seq ?_)
    (refine W.seq ?_)
    (refine W.seq ?_)
    (refine W.region ?_)
    (refine Jx.move rfl rfl ?_)
    (refine J.nil ?_)
    (refine N.seq ?_)
    (refine W.block ?_)
    (refine id ?_; rotate_left))
    refine W.loop (α := Nat × Value) (fun x => [(29, int x.1), (3, .val x.2), (4, u64 (n * 8)), (0, ptr b)]) (fun x => .row x.2 tU8 1 (e ++ (lenB n).take x.1).length (elOf encB 0 (e ++ (lenB n).take x.1)) :: hraw b v s tail n) (fun x => x.1 ≤ 8) (fun x => 8 - x.1) (0, u) (by simp) (by simp only [List.take_zero, List.append_nil]) ⟨ref0 rfl, ref0 rfl, ref0 rfl, ref0 rfl, trivial⟩ ?_
    rintro ⟨i, u⟩ hi
    simp only at hi ⊢
    have hlt : ((lenB n).take i).length ≤ 8 := by rw [List.length_take]; omega
    have hel2 : (e ++ (lenB n).take i).length ≤ 200 := by rw [List.length_append]; omega
    by_cases h8 : i < 8
    · have hb3 : (e ++ (lenB n).take i).length + [UInt8.ofNat (n * 8 / 2 ^ (56 - 8 * i))].length ≤ maxLen ∧ ((e ++ (lenB n).take i).length + [UInt8.ofNat (n * 8 / 2 ^ (56 - 8 * i))].length) * 1 ≤ 140737488355328 := by simp only [maxLen, List.length_cons, List.length_nil]; omega
      have hn2 : e ++ (lenB n).take i ++ [UInt8.ofNat (n * 8 / 2 ^ (56 - 8 * i))] = e ++ (lenB n).take (i + 1) := by rw [List.append_assoc, lenB_take n i h8]
      generalize hm : e ++ (lenB n).take i = m at *
      focus (
    (refine W.seq ?_)
    (refine W.region ?_)
    (refine Jx.lssI rfl rfl rfl ?_)
    (refine J.nil ?_)
    (refine N.seq ?_)
    (refine W.seq ?_)
    (refine W.condT rfl (by first | rfl | assumption | (exact decide_eq_true (by first | assumption | omega | rfl)) | (exact decide_eq_false (by first | assumption | omega | rfl)) | (simp; done) | (simp; omega)) ?_)
    (refine W.skip ?_)
    (refine N.seq ?_)
    (refine W.seq ?_)
    (refine W.block ?_)
    (refine W.seq ?_)
    (refine W.region ?_)
    (refine Jx.move rfl rfl ?_)
    (refine Jx.assign rfl rfl ?_)
    (refine J.nil ?_)
    (refine N.seq ?_)
    (refine W.region ?_)
    (refine Jx.move rfl rfl ?_)
    (refine Jx.move rfl rfl ?_)
    (refine Jx.move rfl rfl ?_)
    (refine Jx.mul64 rfl rfl (by omega) rfl ?_)
    (refine Jx.sub64 rfl rfl (by omega) rfl ?_)
    (refine Jx.shrN (s := 56 - 8 * i) rfl rfl (by omega) (by simp only [IntKind.bits]; omega) rfl ?_)
    (refine Jx.numByte (n * 8 / 2 ^ (56 - 8 * i)) rfl rfl rfl rfl ?_)
    (refine J.qs (Qs.buildBytes [UInt8.ofNat (n * 8 / 2 ^ (56 - 8 * i))] rfl rfl rfl (by decide) (by decide)) rfl ?_)
    (refine J.appendL (l2 := [UInt8.ofNat (n * 8 / 2 ^ (56 - 8 * i))]) rfl (SrcOK.sl rfl) rfl rfl hb3 rfl ?_; intro v3 hv3)
    (refine Jx.assign rfl rfl ?_)
    (refine J.nil ?_)
    (refine N.seq ?_)
    (refine W.region ?_)
    (refine Jx.add64 rfl rfl (by omega) rfl ?_)
    (refine Jx.move rfl rfl ?_)
    (refine J.nil ?_)
    (refine id ?_; rotate_left))
      exact N.round (i + 1, v3) (by simp only; omega) (by simp only; omega) (by simp only [hn2]) ⟨ref0 rfl, ref0 rfl, ref0 rfl, ref0 rfl, trivial⟩
    · have h8' : i = 8 := by omega
      have hall : e ++ (lenB n).take i = tail ++ padS n := by rw [h8', List.take_of_length_le (by rw [lenB_len]; omega), hpad]
      rw [hall]
      rw [hall] at hel2
      refine W.freeze 3 rfl (by simp only [maxLen]; omega) ?_
      focus (
    (refine W.seq ?_)
    (refine W.region ?_)
    (refine Jx.lssI rfl rfl rfl ?_)
    (refine J.nil ?_)
    (refine N.seq ?_)
    (refine W.seq ?_)
    (refine W.condF rfl (by first | rfl | assumption | (exact decide_eq_true (by first | assumption | omega | rfl)) | (exact decide_eq_false (by first | assumption | omega | rfl)) | (simp; done) | (simp; omega)) ?_)
    (refine W.exit ?_)
    (refine N.seq ?_)
    (refine W.seq ?_)
    (refine W.region ?_)
    (refine Jx.move rfl rfl ?_)
    (refine Jx.nilCheck rfl rfl ?_)
    (refine Jx.fieldAddr rfl rfl ?_)
    (refine Jx.loadAg rfl 1 rfl rfl rfl rfl ?_)
    (refine Jx.move rfl rfl ?_)
    (refine J.call c rfl (evs_args rfl) rfl ?_; rintro _ _ ⟨v4, hv4, rfl, rfl⟩; simp only [List.cons_append, List.nil_append])
    (refine Jx.move rfl rfl ?_)
    (refine Jx.extract rfl rfl rfl ?_)
    (refine Jx.extract rfl rfl rfl ?_)
    (refine J.alloc (by simp only [List.map_cons, List.map_nil]; rfl) rfl rfl ?_; intro b')
    (refine J.storeAll rfl rfl rfl 0 rfl rfl rfl ?_)
    (refine Jx.assign rfl rfl ?_)
    (refine J.nil ?_)
    (refine N.seq ?_)
    (refine W.seq ?_)
    (refine W.region ?_)
    (refine Jx.loadAll rfl 0 rfl rfl rfl ?_)
    (refine J.call (told_ok s2) rfl (evs_args rfl) rfl ?_; rintro _ _ ⟨rfl, rfl⟩; simp only [List.cons_append, List.nil_append, List.append_nil])
    (refine Jx.assign rfl rfl ?_)
    (refine J.nil ?_)
    (refine N.seq ?_)
    (refine W.ret ?_)
    (refine id ?_; rotate_left))
      exact N.retD (rs := [.tmp 2]) (L1 := hraw b v s tail n) rfl (.tmp rfl .nil) (by simp) ⟨rfl, rfl⟩
  · have hc : ¬ (((tail ++ [128] ++ List.replicate k (0 : UInt8)).length : Nat) : Int) % 64 = 56 := by rw [hel]; exact fun h => hkz (hst.1 h)
    generalize hE : tail ++ [128] ++ List.replicate k (0 : UInt8) = e at *
    focus (
    (refine W.seq ?_)
    (refine W.seq ?_)
    (refine W.region ?_)
    (refine Jx.move rfl rfl ?_)
    (refine Jx.lenRow rfl 0 rfl rfl ?_)
    (refine Jx.rem64 rfl rfl (by omega) (by decide) rfl ?_)
    (refine Jx.neqI rfl rfl rfl ?_)
    (refine J.nil ?_)
    (refine N.seq ?_)
    (refine W.condT rfl (by first | rfl | assumption | (exact decide_eq_true (by first | assumption | omega | rfl)) | (exact decide_eq_false (by first | assumption | omega | rfl)) | (simp; done) | (simp; omega)) ?_)
    (refine W.skip ?_)
    (refine N.seq ?_)
    (refine W.block ?_)
    (refine W.region ?_)
    (refine Jx.move rfl rfl ?_)
    (refine J.qs (Qs.buildBytes [0] rfl rfl rfl (by decide) (by decide)) rfl ?_)
    (refine J.appendL (l2 := [0]) rfl (SrcOK.sl rfl) rfl rfl hb2 rfl ?_; intro v3 hv3)
    (refine Jx.assign rfl rfl ?_)
    (refine J.nil ?_)
    (refine N.blockNormal ?_)
    (refine id ?_; rotate_left))
    exact N.round (k + 1, v3) (by simp only; omega) (by simp only; omega) (by simp only [hnext]) ⟨ref0 rfl, ref0 rfl, trivial⟩

/-- A text's sum. -/
theorem hsum_ok (x : List UInt8) (hx : x.length ≤ 2147483648) : FnC Tryd.prog 13 [str x] [] (fun r L => r = str (shaS x) ∧ L = []) := by
  have hl := blocksS_left x.length first8 x (Nat.le_refl _)
  have happ := blocksS_app x.length first8 x (padS x.length) (Nat.le_refl _)
  have c2 : ∀ b v, FnC Tryd.prog 17 [ptr b, str x] (hraw b v first8 [] 0) (fun r L => ∃ v', L = hraw b v' (blocksS first8 x).1 (blocksS first8 x).2 x.length) := fun b v => by
    have := write_ok b v first8 [] 0 x (by simp) (by omega) hx
    simpa using this
  have c3 := fun b v => sum_ok b v (blocksS first8 x).1 (blocksS first8 x).2 x.length hl (by omega)
  rw [← happ] at c3
  change ∀ b v, FnC Tryd.prog 18 [ptr b] (hraw b v (blocksS first8 x).1 (blocksS first8 x).2 x.length) (fun r L => r = str (shaS x) ∧ L = hraw b v (blocksS first8 x).1 (blocksS first8 x).2 x.length) at c3
  generalize blocksS first8 x = p at *
  refine FnC.intro Tryd.func13 rfl Tryd.ntmps13 rfl fun Z w0 hG => ?_
  focus (
    (refine W.seq ?_)
    (refine W.region ?_)
    (refine Jx.assign rfl rfl ?_)
    (refine J.nil ?_)
    (refine N.seq ?_)
    (refine W.seq ?_)
    (refine W.region ?_)
    (refine J.call new_ok rfl (evs_args rfl) rfl ?_; rintro _ _ ⟨b, v, rfl, rfl⟩; simp only [List.cons_append, List.nil_append, List.append_nil])
    (refine Jx.assign rfl rfl ?_)
    (refine J.nil ?_)
    (refine N.seq ?_)
    (refine W.seq ?_)
    (refine W.region ?_)
    (refine Jx.move rfl rfl ?_)
    (refine Jx.move rfl rfl ?_)
    (refine J.call (c2 b v) rfl (evs_args rfl) rfl ?_; rintro _ _ ⟨v2, rfl⟩; simp only [List.cons_append, List.nil_append, List.append_nil])
    (refine J.nil ?_)
    (refine N.seq ?_)
    (refine W.seq ?_)
    (refine W.region ?_)
    (refine Jx.move rfl rfl ?_)
    (refine J.call (c3 b v2) rfl (evs_args rfl) rfl ?_; rintro _ _ ⟨rfl, rfl⟩; simp only [List.cons_append, List.nil_append, List.append_nil])
    (refine Jx.assign rfl rfl ?_)
    (refine J.nil ?_)
    (refine N.seq ?_)
    (refine W.ret ?_)
    (refine id ?_; rotate_left))
  exact N.retD (rs := [.tmp 2]) (L1 := []) rfl (.tmp rfl .nil) (List.nil_sublist _) ⟨rfl, rfl⟩
end Go.Proofs.YtjlpknligekfeaaDoor
