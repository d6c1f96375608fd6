/-
  QueryBack, whatever the input: true; the input reads as it did. No condition.
-/
import Derived.Test.YtlfdhkahiaammaaQueryBackPd
namespace Go.Proofs.Ytlfdhkahiaammaa
open Go Go.Sse Go.ChangeShapes Go.WideShapes Go.ChangeAt Go.RowKit
set_option maxRecDepth 10000
set_option linter.unusedVariables false
set_option linter.unusedSimpArgs false
noncomputable def rdsA : Rds Try.prog [23, 9] (Ak × List UInt8 × Unit) := Rds.consAgg rdAk (by kernel_rfl) (Rds.cons rdStr rfl (by kernel_rfl) Rds.nil)
set_option maxRecDepth 100000 in
theorem queryBack_lifted (os : Os) (started : os.Started) (H : Type) (enc : TypeId × Value → H) :
    ReturnsInHanded {} Try.checked os 4 .any (Rows.queryBackSpec.pre6 enc Try.prog Try.f4 Rows.queryBackRow.domain false) (Rows.queryBackSpec.post enc Try.prog Try.f4 false true false false) := by
  refine returnsInHanded_of_change (C := Try.checked) own started (by kernel_rfl) Try.func4
    (ChangeSpec.witness6 (enc := enc) (C := Try.checked) false ⟨#[], #[.agg #[.int .i64 0, .int .i64 0, .int .i64 0, .string ⟨#[]⟩, .string ⟨#[]⟩, .int .i64 0], .string ⟨#[]⟩], []⟩ 8 (by kernel_rfl) (by kernel_rfl) (by kernel_rfl) (by kernel_rfl)) ?_
  intro W base args ds gs before hval hW _ _
  refine calls_of rdsA (tb := 4) rfl (by kernel_rfl) (by kernel_rfl) (by kernel_rfl) laidOut (by kernel_rfl) (fun ds hl => ?_) hval hW (by intro x hx; cases hx) (fun a hg hb => ?_)
  · match ds, hl with
    | [d1, d2], _ => exact ⟨rfl, rfl, rfl⟩
  · obtain ⟨x, s, u⟩ := a
    exact ⟨_, queryBack_ok x s, fun s L h => h.1⟩
theorem queryBack_said : Rows.QueryBackSaid :=
  OpenClaim.holds_of_wide 4 Try.f4 rfl rfl rfl rfl rfl rfl rfl ⟨rfl, rfl, rfl, rfl, rfl⟩ rfl rfl rfl rfl rfl (by kernel_rfl) Try.func4 (by kernel_rfl)
    (of_decide_eq_true (by kernel_rfl)) (by unfold Func.isWrapper; first | (rw [if_pos (by decide +kernel)]; kernel_rfl) | (rw [if_neg (by decide +kernel)]; exact ⟨rfl, rfl⟩))
    (fun os started H enc _ => queryBack_lifted os started H enc)
#print axioms queryBack_said
end Go.Proofs.Ytlfdhkahiaammaa
