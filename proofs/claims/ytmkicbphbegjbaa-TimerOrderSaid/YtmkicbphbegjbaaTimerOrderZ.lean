/-
  TimerOrder, whatever the input: true; the input reads as it did. No condition.
-/
import Derived.Test.YtmkicbphbegjbaaTimerOrderPc
namespace Go.Proofs.Ytmkicbphbegjbaa
open Go Go.Sse Go.ChangeShapes Go.WideShapes Go.ChangeAt Go.RowKit
set_option maxRecDepth 10000
set_option linter.unusedVariables false
set_option linter.unusedSimpArgs false
noncomputable def rdsC : Rds Try.prog [22, 3] (List Ac × Int × Unit) := Rds.cons rdAcs rfl (by kernel_rfl) (Rds.cons rdInt rfl (by kernel_rfl) Rds.nil)
set_option maxRecDepth 100000 in
theorem timerOrder_lifted (os : Os) (started : os.Started) (H : Type) (enc : TypeId × Value → H) :
    ReturnsInHanded {} Try.checked os 6 .any (Rows.timerOrderSpec.pre6 enc Try.prog Try.f6 Rows.timerOrderRow.domain false) (Rows.timerOrderSpec.post enc Try.prog Try.f6 false true false false) := by
  refine returnsInHanded_of_change (C := Try.checked) own started (by kernel_rfl) Try.func6
    (ChangeSpec.witness6 (enc := enc) (C := Try.checked) false ⟨#[], #[.slice none 0 0, .int .i64 0], []⟩ 8 (by kernel_rfl) (by kernel_rfl) (by kernel_rfl) (by kernel_rfl)) ?_
  intro W base args ds gs before hval hW _ _
  refine calls_of rdsC (tb := 4) rfl (by kernel_rfl) (by kernel_rfl) (by kernel_rfl) laidOut (by kernel_rfl) (fun ds hl => ?_) hval hW (by intro x hx; cases hx) (fun a hg hb => ?_)
  · match ds, hl with
    | [d1, d2], _ => exact ⟨rfl, rfl, rfl⟩
  · obtain ⟨l, now, u⟩ := a
    exact ⟨_, timerOrder_ok l now, fun s L h => h.1⟩
theorem timerOrder_said : Rows.TimerOrderSaid :=
  OpenClaim.holds_of_wide 6 Try.f6 rfl rfl rfl rfl rfl rfl rfl ⟨rfl, rfl, rfl, rfl, rfl⟩ rfl rfl rfl rfl rfl (by kernel_rfl) Try.func6 (by kernel_rfl)
    (of_decide_eq_true (by kernel_rfl)) (by unfold Func.isWrapper; first | (rw [if_pos (by decide +kernel)]; kernel_rfl) | (rw [if_neg (by decide +kernel)]; exact ⟨rfl, rfl⟩))
    (fun os started H enc _ => timerOrder_lifted os started H enc)
#print axioms timerOrder_said
end Go.Proofs.Ytmkicbphbegjbaa
