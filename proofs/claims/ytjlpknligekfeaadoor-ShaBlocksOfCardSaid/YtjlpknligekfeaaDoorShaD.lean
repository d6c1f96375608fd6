/-
  What a block does, in the document.
-/
import Derived.Test.YtjlpknligekfeaaDoorShaC
namespace Go.Proofs.YtjlpknligekfeaaDoor
open Go Go.Sse
set_option linter.unusedVariables false
set_option linter.unusedSimpArgs false
set_option maxRecDepth 10000

theorem turned_ok (x : Wd) (n : Nat) (hn : n ≤ 32) : FnC Tryd.prog 22 [u32 x, int n] [] (fun s L => s = u32 (rot x n) ∧ L = []) := by
  refine FnC.intro Tryd.func22 rfl Tryd.ntmps22 rfl fun Z w0 hG => ?_
  focus (
    (refine W.seq ?_)
    (refine W.region ?_)
    (refine Jx.assign rfl rfl ?_)
    (refine J.nil ?_)
    (refine N.seq ?_)
    (refine W.seq ?_)
    (refine W.region ?_)
    (refine Jx.move rfl rfl ?_)
    (refine Jx.move rfl rfl ?_)
    (refine Jx.convU64 n rfl rfl rfl (by omega) rfl ?_)
    (refine Jx.shrU rfl rfl hn rfl ?_)
    (refine Jx.move rfl rfl ?_)
    (refine Jx.move rfl rfl ?_)
    (refine Jx.sub64 rfl rfl (by omega) rfl ?_)
    (refine Jx.convU64 (32 - n) rfl rfl (by omega) (by omega) rfl ?_)
    (refine Jx.shlU rfl rfl (by omega) rfl ?_)
    (refine Jx.orU rfl rfl rfl ?_)
    (refine Jx.assign rfl rfl ?_)
    (refine J.nil ?_)
    (refine N.seq ?_)
    (refine W.ret ?_)
    (refine id ?_; rotate_left))
  exact N.ret (rs := [.tmp 4]) rfl (.tmp rfl .nil) ⟨rfl, rfl⟩

theorem rfirst_ok : FnC Tryd.prog 9 [] [] (fun s L => s = .agg first8.cells ∧ L = []) := by
  refine FnC.intro Tryd.func9 rfl Tryd.ntmps9 rfl fun Z w0 hG => ?_
  focus (
    (refine W.seq ?_)
    (refine W.region ?_)
    (refine J.alloc (by simp only [List.map_cons, List.map_nil]; rfl) rfl rfl ?_; intro b')
    (refine J.nil ?_)
    (refine N.seq ?_)
    (refine W.seq ?_)
    (refine W.region ?_)
    (refine Jx.buildA rfl rfl rfl rfl rfl ?_)
    (refine J.storeAll rfl rfl rfl 0 rfl rfl rfl ?_)
    (refine J.nil ?_)
    (refine N.seq ?_)
    (refine W.ret ?_)
    (refine id ?_; rotate_left))
  exact N.retD (rs := [.cell 0 23]) (L1 := []) rfl (.cell rfl 0 rfl inferInstance .nil) (List.nil_sublist _) ⟨rfl, rfl⟩

theorem kC_get (i : Nat) (h : i < 64) : (shaK.map fun (n : Nat) => SV.val (.int .u32 (n : Int)))[i]? = some (u32 (kAt i)) := by
  have hl : i < shaK.length := h
  rw [List.getElem?_map, List.getElem?_eq_getElem hl]
  simp only [u32, kAt_nat]
  simp [List.getD_eq_getElem?_getD, List.getElem?_eq_getElem hl]

set_option maxHeartbeats 4000000 in
theorem const_ok (i : Nat) (h : i < 64) : FnC Tryd.prog 23 [int i] [] (fun s L => s = u32 (kAt i) ∧ L = []) := by
  have hk := kC_get i h
  refine FnC.intro Tryd.func23 rfl Tryd.ntmps23 rfl fun Z w0 hG => ?_
  focus (
    (refine W.seq ?_)
    (refine W.region ?_)
    (refine Jx.assign rfl rfl ?_)
    (refine J.nil ?_)
    (refine N.seq ?_)
    (refine W.seq ?_)
    (refine W.region ?_)
    (refine Jx.buildA rfl rfl rfl rfl rfl ?_)
    (refine J.alloc (by simp only [List.map_cons, List.map_nil]; rfl) rfl rfl ?_; intro b')
    (refine J.storeAll rfl rfl rfl 0 rfl rfl rfl ?_)
    (refine J.nil ?_)
    (refine N.seq ?_)
    (refine W.seq ?_)
    (refine W.region ?_)
    (refine Jx.move rfl rfl ?_)
    (refine Jx.index0 i rfl rfl rfl (by omega) rfl ?_)
    (refine Jx.load rfl 0 rfl hk rfl ?_)
    (refine Jx.assign rfl rfl ?_)
    (refine J.nil ?_)
    (refine N.seq ?_)
    (refine W.ret ?_)
    (refine id ?_; rotate_left))
  exact N.retD (rs := [.tmp 2]) (L1 := []) rfl (.tmp rfl .nil) (List.nil_sublist _) ⟨rfl, rfl⟩

/-- A word of which n bytes have come. -/
def part (b : List UInt8) (j : Nat) : Nat → Wd
  | 0 => 0
  | n + 1 => part b j n * 256#32 + byteAt b (4 * j + n)

theorem part_word (b : List UInt8) (j : Nat) : part b j 4 = word b j := by
  have hb : ∀ i, (byteAt b i).toNat < 256 := fun i => by
    unfold byteAt
    rw [BitVec.toNat_ofNat]
    exact Nat.lt_of_le_of_lt (Nat.mod_le _ _) (UInt8.toNat_lt _)
  simp only [part, word, Nat.add_zero]
  generalize hx : byteAt b (4 * j) = x; generalize hy : byteAt b (4 * j + 1) = y; generalize hz : byteAt b (4 * j + 2) = z; generalize hw : byteAt b (4 * j + 3) = w
  have h1 := hb (4 * j); have h2 := hb (4 * j + 1); have h3 := hb (4 * j + 2); have h4 := hb (4 * j + 3)
  rw [hx] at h1; rw [hy] at h2; rw [hz] at h3; rw [hw] at h4
  apply BitVec.eq_of_toNat_eq
  have e1 : (x <<< 24 ||| y <<< 16).toNat = x.toNat * 16777216 + y.toNat * 65536 := by
    rw [BitVec.toNat_or, BitVec.toNat_shiftLeft, BitVec.toNat_shiftLeft, Nat.mod_eq_of_lt (by rw [Nat.shiftLeft_eq]; omega), Nat.mod_eq_of_lt (by rw [Nat.shiftLeft_eq]; omega), ← Nat.shiftLeft_add_eq_or_of_lt (by rw [Nat.shiftLeft_eq]; omega)]
    rw [Nat.shiftLeft_eq, Nat.shiftLeft_eq]
  have e2 : (x <<< 24 ||| y <<< 16 ||| z <<< 8).toNat = x.toNat * 16777216 + y.toNat * 65536 + z.toNat * 256 := by
    rw [BitVec.toNat_or, e1, BitVec.toNat_shiftLeft, Nat.mod_eq_of_lt (by rw [Nat.shiftLeft_eq]; omega)]
    have : x.toNat * 16777216 + y.toNat * 65536 = (x.toNat * 256 + y.toNat) <<< 16 := by rw [Nat.shiftLeft_eq]; omega
    rw [this, ← Nat.shiftLeft_add_eq_or_of_lt (by rw [Nat.shiftLeft_eq]; omega), Nat.shiftLeft_eq z.toNat]
  have e3 : (x <<< 24 ||| y <<< 16 ||| z <<< 8 ||| w).toNat = x.toNat * 16777216 + y.toNat * 65536 + z.toNat * 256 + w.toNat := by
    rw [BitVec.toNat_or, e2]
    have : x.toNat * 16777216 + y.toNat * 65536 + z.toNat * 256 = (x.toNat * 65536 + y.toNat * 256 + z.toNat) <<< 8 := by rw [Nat.shiftLeft_eq]; omega
    rw [this, ← Nat.shiftLeft_add_eq_or_of_lt (by omega)]
  rw [e3]
  simp only [BitVec.toNat_add, BitVec.toNat_mul, BitVec.toNat_ofNat]
  omega

theorem part_step (b : List UInt8) (ws : List Wd) (i : Nat) (hi : i < 64) (hl : ws.length = 16) (h : ∀ j, j < 16 → ws.getD j 0 = part b j (min 4 (i - 4 * j))) (j : Nat) (hj : j < 16) :
    (ws.set (i / 4) (ws.getD (i / 4) 0 * 256#32 + byteAt b i)).getD j 0 = part b j (min 4 (i + 1 - 4 * j)) := by
  have e1 : (ws.set (i / 4) (ws.getD (i / 4) 0 * 256#32 + byteAt b i)).getD j 0 = if j = i / 4 then ws.getD (i / 4) 0 * 256#32 + byteAt b i else ws.getD j 0 := by
    simp only [List.getD_eq_getElem?_getD, List.getElem?_set]
    by_cases e : i / 4 = j
    · subst e; simp [hl, hj]
    · rw [if_neg e, if_neg (fun h => e h.symm)]
  rw [e1]
  by_cases e : j = i / 4
  · rw [if_pos e, ← e, h j hj]
    have h1 : min 4 (i - 4 * j) = i - 4 * j := by omega
    have h2 : min 4 (i + 1 - 4 * j) = (i - 4 * j) + 1 := by omega
    rw [h1, h2]
    simp only [part]
    congr 2; omega
  · rw [if_neg e, h j hj]
    congr 1
    omega

/-- The words that are kept: the last 16. -/
def Win (b : List UInt8) (ws : List Wd) (i : Nat) : Prop := ws.length = 16 ∧ ∀ t, t < max i 16 → max i 16 ≤ t + 16 → ws.getD (t % 16) 0 = W b t

theorem win_step (b : List UInt8) (ws : List Wd) (i : Nat) (h16 : 16 ≤ i) (h : Win b ws i) :
    Win b (ws.set (i % 16) (ws.getD (i % 16) 0 + sig0 (ws.getD ((i + 1) % 16) 0) + ws.getD ((i + 9) % 16) 0 + sig1 (ws.getD ((i + 14) % 16) 0))) (i + 1) ∧
    (ws.set (i % 16) (ws.getD (i % 16) 0 + sig0 (ws.getD ((i + 1) % 16) 0) + ws.getD ((i + 9) % 16) 0 + sig1 (ws.getD ((i + 14) % 16) 0))).getD (i % 16) 0 = W b i := by
  obtain ⟨hl, hw⟩ := h
  have g0 := hw (i - 16) (by omega) (by omega)
  have g1 := hw (i - 15) (by omega) (by omega)
  have g2 := hw (i - 7) (by omega) (by omega)
  have g3 := hw (i - 2) (by omega) (by omega)
  rw [show (i - 16) % 16 = i % 16 by omega] at g0
  rw [show (i - 15) % 16 = (i + 1) % 16 by omega] at g1
  rw [show (i - 7) % 16 = (i + 9) % 16 by omega] at g2
  rw [show (i - 2) % 16 = (i + 14) % 16 by omega] at g3
  rw [g0, g1, g2, g3, ← W_high b i h16]
  have hi : i % 16 < ws.length := by omega
  have hs : (ws.set (i % 16) (W b i)).getD (i % 16) 0 = W b i := by
    simp [List.getD_eq_getElem?_getD, List.getElem?_set, hi]
  refine ⟨⟨by simpa using hl, fun t ht ht2 => ?_⟩, hs⟩
  by_cases e : t = i
  · subst e; exact hs
  · rw [← hw t (by omega) (by omega)]
    have hne : ¬ i % 16 = t % 16 := by omega
    simp only [List.getD_eq_getElem?_getD, List.getElem?_set, if_neg hne]

theorem add_comm8 (s h : S8) : h.add s = s.add h := by simp only [S8.add, BitVec.add_comm]
end Go.Proofs.YtjlpknligekfeaaDoor
