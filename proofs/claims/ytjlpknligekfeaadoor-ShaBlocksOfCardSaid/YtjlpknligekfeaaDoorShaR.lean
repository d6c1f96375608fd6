/-
  What the listed variable holds when a call begins; how arguments read.
-/
import Derived.Test.YtjlpknligekfeaaDoorShaJ
import Derived.Test.YtjlpknligekfeaaDoorRead
import Derived.Test.YtjlpknligekfeaaDoorCards
import Derived.Test.YtjlpknligekfeaaDoorTie
import Derived.WalkKit
import Derived.ProofKit
import Derived.LaidMore
import Derived.Lay
import Derived.SevenTiedAt
namespace Go.Proofs.YtjlpknligekfeaaDoor
open Go Go.Sse Go.ChangeShapes Go.WideShapes Go.ChangeAt Go.RowKit
set_option linter.unusedVariables false
set_option linter.unusedSimpArgs false
set_option maxRecDepth 100000

theorem own : ownKnob Tryd.prog.godebug = none := by kernel_rfl
theorem laidOut : laidOutB Tryd.prog = true := by kernel_rfl
theorem laid_list : (Rows.laid_pharos_sha_k : DataW Unit) = .agg (shaK.map fun (n : Nat) => .lit (.int .u32 (n : Int))) := by rfl
theorem k_cell {W : World} (h : laidMetH Tryd.prog [("pharos/sha.k", Rows.laid_pharos_sha_k)] W) (r : Nat) (hr : r < 64) : W.cell? ⟨0, r, none⟩ = some (.int .u32 ((shaK.getD r 0 : Nat) : Int)) := by
  rw [MakeChecks.laidMetH_plain _ _ _ (by kernel_rfl)] at h
  obtain ⟨ps, ⟨g, t, cs, fuel, p, q, hg, ht, hv, hd, _, _⟩, _, _⟩ := h
  obtain rfl := Option.some.inj ((show Tryd.prog.globalNamed "pharos/sha.k" = some 0 by kernel_rfl).symm.trans hg)
  obtain rfl := Option.some.inj ((show (Tryd.prog.globals[0]?).map (·.type) = some 45 by kernel_rfl).symm.trans ht)
  have hu : Tryd.prog.underlying 45 = some (.array 64 22) := by kernel_rfl
  have hu2 : Tryd.prog.underlying 22 = some (.int .u32) := by kernel_rfl
  obtain ⟨xs, m, _, ex, _, hl, hel⟩ := DataW.trod_array hu hd
  have c5 : Tryd.prog.cellsOf 22 = 1 := by kernel_rfl
  have hE := hel r hr
  rw [c5, Nat.mul_one, List.getElem?_eq_getElem (by omega)] at hE
  obtain ⟨z, e1, e2, _⟩ := DataW.trod_int hu2 hE
  have hlen : shaK.length = 64 := by rfl
  have e3 : (xs.map (·.1)) = shaK.map fun (n : Nat) => .lit (.int .u32 (n : Int)) := by
    have := (Prod.mk.inj ex).1
    rw [laid_list] at this
    exact (DataW.agg.inj this).symm
  have e4 : (xs.map (·.1))[r]? = (shaK.map fun (n : Nat) => (DataW.lit (.int .u32 (n : Int)) : DataW Unit))[r]? := by rw [e3]
  rw [List.getElem?_map, List.getElem?_map, List.getElem?_eq_getElem (by omega : r < xs.length), List.getElem?_eq_getElem (by omega : r < shaK.length), e2] at e4
  have hz : z = ((shaK.getD r 0 : Nat) : Int) := by
    simp only [Option.map_some, Option.some.injEq, DataW.lit.injEq, Lit.int.injEq, true_and] at e4
    rw [e4, List.getD, List.getElem?_eq_getElem (by omega : r < shaK.length)]; rfl
  rw [World.var?_cell hg hv r, ← hz]
  have : cs.toList[r]? = some (.int .u32 z) := by
    have h0 : ((cs.toList.drop r).take 1)[0]? = some (.int .u32 z) := by rw [e1]; rfl
    simpa using h0
  simpa using this

theorem gl_met {W : World} (h : laidMetH Tryd.prog [("pharos/sha.k", Rows.laid_pharos_sha_k)] W) : ∀ x ∈ Gl.gl Tryd.prog, x.1 < W.heap.size ∧ ∀ i v, x.2[i]? = some v → W.cell? ⟨x.1, i, none⟩ = some v := by
  intro x hx
  have hx' : x ∈ [(0, shaK.map fun (n : Nat) => Value.int .u32 (n : Int))] := hx
  obtain rfl := List.mem_singleton.1 hx'
  have hc := k_cell h
  refine ⟨World.block_lt_of_cell? W ⟨0, 0, none⟩ (hc 0 (by omega)), fun i v hv => ?_⟩
  have hi : i < 64 := by
    rcases Nat.lt_or_ge i 64 with h | h
    · exact h
    · rw [List.getElem?_eq_none (by rw [List.length_map]; exact h)] at hv; cases hv
  have hl : i < shaK.length := hi
  rw [List.getElem?_map, List.getElem?_eq_getElem hl] at hv
  rw [hc i hi, ← hv]
  simp [List.getD_eq_getElem?_getD, List.getElem?_eq_getElem hl]

noncomputable def rdStr : Rd Tryd.prog 9 (List UInt8) := Rd.str (by kernel_rfl) (by kernel_rfl)
noncomputable def rdBool : Rd Tryd.prog 4 Bool := Rd.bool (by kernel_rfl) (by kernel_rfl)
noncomputable def rdStrs : Rd Tryd.prog 31 (List (List UInt8)) := Rd.slice (by kernel_rfl) (by kernel_rfl) rdStr rfl
end Go.Proofs.YtjlpknligekfeaaDoor
