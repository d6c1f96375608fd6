/-
  NetPlain, whatever the input: true; the input reads as it did. No condition.
-/
import Derived.Test.YtmkicbphbegjbaaNetPlainPc
namespace Go.Proofs.Ytmkicbphbegjbaa
open Go Go.Sse Go.ChangeShapes Go.WideShapes Go.ChangeAt Go.RowKit
set_option maxRecDepth 10000
set_option linter.unusedVariables false
set_option linter.unusedSimpArgs false
noncomputable def rdsN1 : Rds Try.prog [27] (List (List UInt8) × Unit) := Rds.cons rdStrs rfl (by kernel_rfl) Rds.nil
set_option maxRecDepth 100000 in
theorem netPlain_lifted (os : Os) (started : os.Started) (H : Type) (enc : TypeId × Value → H) :
    ReturnsInHanded {} Try.checked os 9 .any (Rows.netPlainSpec.pre6 enc Try.prog Try.f9 Rows.netPlainRow.domain false) (Rows.netPlainSpec.post enc Try.prog Try.f9 false true false false) := by
  refine returnsInHanded_of_change (C := Try.checked) own started (by kernel_rfl) Try.func9
    (ChangeSpec.witness6 (enc := enc) (C := Try.checked) false ⟨#[], #[.slice none 0 0], []⟩ 8 (by kernel_rfl) (by kernel_rfl) (by kernel_rfl) (by kernel_rfl)) ?_
  intro W base args ds gs before hval hW _ _
  refine calls_of rdsN1 (tb := 4) rfl (by kernel_rfl) (by kernel_rfl) (by kernel_rfl) laidOut (by kernel_rfl) (fun ds hl => ?_) hval hW (by intro x hx; cases hx) (fun a hg hb => ?_)
  · match ds, hl with
    | [d1], _ => exact ⟨rfl, rfl, rfl⟩
  · obtain ⟨l, u⟩ := a
    exact ⟨_, netPlain_ok l, fun s L h => h.1⟩
theorem netPlain_said : Rows.NetPlainSaid :=
  OpenClaim.holds_of_wide 9 Try.f9 rfl rfl rfl rfl rfl rfl rfl ⟨rfl, rfl, rfl, rfl, rfl⟩ rfl rfl rfl rfl rfl (by kernel_rfl) Try.func9 (by kernel_rfl)
    (of_decide_eq_true (by kernel_rfl)) (by unfold Func.isWrapper; first | (rw [if_pos (by decide +kernel)]; kernel_rfl) | (rw [if_neg (by decide +kernel)]; exact ⟨rfl, rfl⟩))
    (fun os started H enc _ => netPlain_lifted os started H enc)
#print axioms netPlain_said
end Go.Proofs.Ytmkicbphbegjbaa
