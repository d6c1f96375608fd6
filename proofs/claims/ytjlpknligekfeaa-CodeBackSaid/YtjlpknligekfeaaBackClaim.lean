/-
  CodeBack, whatever the input: true; the input reads as it did. No condition.
-/
import Derived.Test.YtjlpknligekfeaaCodeR
import Derived.Test.YtjlpknligekfeaaCodeJ
namespace Go.Proofs.Ytjlpknligekfeaa
open Go Go.Sse Go.ChangeShapes Go.WideShapes Go.ChangeAt Go.RowKit
set_option linter.unusedVariables false
set_option linter.unusedSimpArgs false

noncomputable def rdInts : Rd Try.prog 40 (List Int) := Rd.slice (by kernel_rfl) (by kernel_rfl) rdInt rfl
noncomputable def rdsBack : Rds Try.prog [40, 31, 4] (List Int × List (List UInt8) × Bool × Unit) := Rds.cons rdInts rfl (by kernel_rfl) (Rds.cons rdStrs rfl (by kernel_rfl) (Rds.cons rdBool rfl (by kernel_rfl) Rds.nil))

set_option maxRecDepth 100000 in
theorem codeBack_lifted (os : Os) (started : os.Started) (H : Type) (enc : TypeId × Value → H) :
    ReturnsInHanded {} Try.checked os 6 .any (Rows.codeBackSpec.pre6 enc Try.prog Try.f6 Rows.codeBackRow.domain false) (Rows.codeBackSpec.post enc Try.prog Try.f6 false true false false) := by
  refine returnsInHanded_of_change (C := Try.checked) own started (by kernel_rfl) Try.func6
    (ChangeSpec.witness6 (enc := enc) (C := Try.checked) false ⟨#[], #[.slice none 0 0, .slice none 0 0, .bool false], []⟩ 8 (by kernel_rfl) (by kernel_rfl) (by kernel_rfl) (by kernel_rfl)) ?_
  intro W base args ds gs before hval hW _ _
  refine calls_of rdsBack (tb := 4) rfl (by kernel_rfl) (by kernel_rfl) (by kernel_rfl) laidOut (by kernel_rfl) (fun ds hl => ?_) hval hW (by intro x hx; cases hx) (fun a hg hb => ?_)
  · match ds, hl with
    | [d1, d2, d3], _ => exact ⟨rfl, rfl, rfl⟩
  · obtain ⟨ns, l, f, u⟩ := a
    exact ⟨_, codeBack_ok ns (fun n h => (i64_of (hg.1.2 n h)).2) l f, fun s L h => h.1⟩

theorem codeBack_said : Rows.CodeBackSaid :=
  OpenClaim.holds_of_wide 6 Try.f6 rfl rfl rfl rfl rfl rfl rfl ⟨rfl, rfl, rfl, rfl, rfl⟩ rfl rfl rfl rfl rfl (by kernel_rfl) Try.func6 (by kernel_rfl)
    (of_decide_eq_true (by kernel_rfl)) (by unfold Func.isWrapper; first | (rw [if_pos (by decide +kernel)]; kernel_rfl) | (rw [if_neg (by decide +kernel)]; exact ⟨rfl, rfl⟩))
    (fun os started H enc _ => codeBack_lifted os started H enc)
#print axioms codeBack_said
end Go.Proofs.Ytjlpknligekfeaa
