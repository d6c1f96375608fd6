/-
  NetPlays, whatever the input: true; the input reads as it did. No condition.
-/
import Derived.Test.YtmkicbphbegjbaaNetPlaysPc
namespace Go.Proofs.Ytmkicbphbegjbaa
open Go Go.Sse Go.ChangeShapes Go.WideShapes Go.ChangeAt Go.RowKit
set_option maxRecDepth 10000
set_option linter.unusedVariables false
set_option linter.unusedSimpArgs false
noncomputable def rdsN3 : Rds Try.prog [9, 66] (List UInt8 × List Na × Unit) := Rds.cons rdStr rfl (by kernel_rfl) (Rds.cons rdNas rfl (by kernel_rfl) Rds.nil)
set_option maxRecDepth 100000 in
theorem netPlays_lifted (os : Os) (started : os.Started) (H : Type) (enc : TypeId × Value → H) :
    ReturnsInHanded {} Try.checked os 8 .any (Rows.netPlaysSpec.pre6 enc Try.prog Try.f8 Rows.netPlaysRow.domain false) (Rows.netPlaysSpec.post enc Try.prog Try.f8 false true false false) := by
  refine returnsInHanded_of_change (C := Try.checked) own started (by kernel_rfl) Try.func8
    (ChangeSpec.witness6 (enc := enc) (C := Try.checked) false ⟨#[], #[.string ⟨#[]⟩, .slice none 0 0], []⟩ 8 (by kernel_rfl) (by kernel_rfl) (by kernel_rfl) (by kernel_rfl)) ?_
  intro W base args ds gs before hval hW _ _
  refine calls_of rdsN3 (tb := 4) rfl (by kernel_rfl) (by kernel_rfl) (by kernel_rfl) laidOut (by kernel_rfl) (fun ds hl => ?_) hval hW (by intro x hx; cases hx) (fun a hg hb => ?_)
  · match ds, hl with
    | [d1, d2], _ => exact ⟨rfl, rfl, rfl⟩
  · obtain ⟨f, l, u⟩ := a
    exact ⟨_, netPlays_ok f l, fun s L h => h.1⟩
theorem netPlays_said : Rows.NetPlaysSaid :=
  OpenClaim.holds_of_wide 8 Try.f8 rfl rfl rfl rfl rfl rfl rfl ⟨rfl, rfl, rfl, rfl, rfl⟩ rfl rfl rfl rfl rfl (by kernel_rfl) Try.func8 (by kernel_rfl)
    (of_decide_eq_true (by kernel_rfl)) (by unfold Func.isWrapper; first | (rw [if_pos (by decide +kernel)]; kernel_rfl) | (rw [if_neg (by decide +kernel)]; exact ⟨rfl, rfl⟩))
    (fun os started H enc _ => netPlays_lifted os started H enc)
#print axioms netPlays_said
end Go.Proofs.Ytmkicbphbegjbaa
