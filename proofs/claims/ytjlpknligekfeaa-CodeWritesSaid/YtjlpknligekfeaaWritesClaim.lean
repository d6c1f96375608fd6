/-
  CodeWrites, whatever the input: true; the input reads as it did. No condition.
-/
import Derived.Test.YtjlpknligekfeaaCodeR
namespace Go.Proofs.Ytjlpknligekfeaa
open Go Go.Sse Go.ChangeShapes Go.WideShapes Go.ChangeAt Go.RowKit
set_option linter.unusedVariables false
set_option linter.unusedSimpArgs false

noncomputable def rdsWrites : Rds Try.prog [3, 31, 4] (Int × List (List UInt8) × Bool × Unit) := Rds.cons rdInt rfl (by kernel_rfl) (Rds.cons rdStrs rfl (by kernel_rfl) (Rds.cons rdBool rfl (by kernel_rfl) Rds.nil))

set_option maxRecDepth 100000 in
theorem codeWrites_lifted (os : Os) (started : os.Started) (H : Type) (enc : TypeId × Value → H) :
    ReturnsInHanded {} Try.checked os 4 .any (Rows.codeWritesSpec.pre6 enc Try.prog Try.f4 Rows.codeWritesRow.domain false) (Rows.codeWritesSpec.post enc Try.prog Try.f4 false true false false) := by
  refine returnsInHanded_of_change (C := Try.checked) own started (by kernel_rfl) Try.func4
    (ChangeSpec.witness6 (enc := enc) (C := Try.checked) false ⟨#[], #[.int .i64 0, .slice none 0 0, .bool false], []⟩ 8 (by kernel_rfl) (by kernel_rfl) (by kernel_rfl) (by kernel_rfl)) ?_
  intro W base args ds gs before hval hW _ _
  refine calls_of rdsWrites (tb := 4) rfl (by kernel_rfl) (by kernel_rfl) (by kernel_rfl) laidOut (by kernel_rfl) (fun ds hl => ?_) hval hW (by intro x hx; cases hx) (fun a hg hb => ?_)
  · match ds, hl with
    | [d1, d2, d3], _ => exact ⟨rfl, rfl, rfl⟩
  · obtain ⟨n, l, f, u⟩ := a
    exact ⟨_, codeWrites_ok n (i64_of hg.1).2 l f, fun s L h => h.1⟩

theorem codeWrites_said : Rows.CodeWritesSaid :=
  OpenClaim.holds_of_wide 4 Try.f4 rfl rfl rfl rfl rfl rfl rfl ⟨rfl, rfl, rfl, rfl, rfl⟩ rfl rfl rfl rfl rfl (by kernel_rfl) Try.func4 (by kernel_rfl)
    (of_decide_eq_true (by kernel_rfl)) (by unfold Func.isWrapper; first | (rw [if_pos (by decide +kernel)]; kernel_rfl) | (rw [if_neg (by decide +kernel)]; exact ⟨rfl, rfl⟩))
    (fun os started H enc _ => codeWrites_lifted os started H enc)
#print axioms codeWrites_said
end Go.Proofs.Ytjlpknligekfeaa
