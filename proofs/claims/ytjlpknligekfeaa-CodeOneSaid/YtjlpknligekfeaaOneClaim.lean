/-
  CodeOne, whatever the input: true; the input reads as it did. No condition.
-/
import Derived.Test.YtjlpknligekfeaaCodeR
import Derived.Test.YtjlpknligekfeaaCodeF
namespace Go.Proofs.Ytjlpknligekfeaa
open Go Go.Sse Go.ChangeShapes Go.WideShapes Go.ChangeAt Go.RowKit
set_option linter.unusedVariables false
set_option linter.unusedSimpArgs false

noncomputable def rdsOne : Rds Try.prog [9, 3, 3] (List UInt8 × Int × Int × Unit) := Rds.cons rdStr rfl (by kernel_rfl) (Rds.cons rdInt rfl (by kernel_rfl) (Rds.cons rdInt rfl (by kernel_rfl) Rds.nil))

set_option maxRecDepth 100000 in
theorem codeOne_lifted (os : Os) (started : os.Started) (H : Type) (enc : TypeId × Value → H) :
    ReturnsInHanded {} Try.checked os 3 .any (Rows.codeOneSpec.pre6 enc Try.prog Try.f3 Rows.codeOneRow.domain false) (Rows.codeOneSpec.post enc Try.prog Try.f3 false true false false) := by
  refine returnsInHanded_of_change (C := Try.checked) own started (by kernel_rfl) Try.func3
    (ChangeSpec.witness6 (enc := enc) (C := Try.checked) false ⟨#[], #[.string ⟨#[]⟩, .int .i64 0, .int .i64 0], []⟩ 8 (by kernel_rfl) (by kernel_rfl) (by kernel_rfl) (by kernel_rfl)) ?_
  intro W base args ds gs before hval hW _ _
  refine calls_of rdsOne (tb := 4) rfl (by kernel_rfl) (by kernel_rfl) (by kernel_rfl) laidOut (by kernel_rfl) (fun ds hl => ?_) hval hW (by intro x hx; cases hx) (fun a hg hb => ?_)
  · match ds, hl with
    | [d1, d2, d3], _ => exact ⟨rfl, rfl, rfl⟩
  · obtain ⟨s, a, c, u⟩ := a
    exact ⟨_, codeOne_ok s a c (i64_of hg.2.1).2 (i64_of hg.2.2.1).2, fun s L h => h.1⟩

theorem codeOne_said : Rows.CodeOneSaid :=
  OpenClaim.holds_of_wide 3 Try.f3 rfl rfl rfl rfl rfl rfl rfl ⟨rfl, rfl, rfl, rfl, rfl⟩ rfl rfl rfl rfl rfl (by kernel_rfl) Try.func3 (by kernel_rfl)
    (of_decide_eq_true (by kernel_rfl)) (by unfold Func.isWrapper; first | (rw [if_pos (by decide +kernel)]; kernel_rfl) | (rw [if_neg (by decide +kernel)]; exact ⟨rfl, rfl⟩))
    (fun os started H enc _ => codeOne_lifted os started H enc)
#print axioms codeOne_said
end Go.Proofs.Ytjlpknligekfeaa
