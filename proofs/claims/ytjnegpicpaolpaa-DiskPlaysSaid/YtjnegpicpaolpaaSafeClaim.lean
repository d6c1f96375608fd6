/-
  DiskSafe, whatever the input: true; the input reads as it did. No condition.
-/
import Derived.Test.YtjnegpicpaolpaaDiskE
import Derived.Test.YtjnegpicpaolpaaRead
import Derived.WalkKit
import Derived.ProofKit
namespace Go.Proofs.Ytjnegpicpaolpaa
open Go Go.Sse Go.ChangeShapes Go.WideShapes Go.ChangeAt Go.RowKit
set_option linter.unusedVariables false
set_option linter.unusedSimpArgs false

theorem own : ownKnob Try.prog.godebug = none := by kernel_rfl
theorem laidOut : laidOutB Try.prog = true := by kernel_rfl

noncomputable def rdInt : Rd Try.prog 3 Int := Rd.int (k := .i64) (by kernel_rfl) (by kernel_rfl)
noncomputable def rdStr : Rd Try.prog 9 (List UInt8) := Rd.str (by kernel_rfl) (by kernel_rfl)
theorem i64_of {n : Int} (h : (Lit.int .i64 n).wf = true) : -9223372036854775808 ≤ n ∧ n ≤ 9223372036854775807 := by
  simpa [Lit.wf, IntKind.min, IntKind.max, IntKind.signed, IntKind.bits] using h
/-- One act, as it is handed in. -/
noncomputable def rdAct : Rd Try.prog 42 Act :=
  (Rd.struct (tos := [(3, 0), (3, 1), (9, 2)]) (by kernel_rfl) (Fds.cons rdInt (Fds.cons rdInt (Fds.cons rdStr Fds.nil))) (by kernel_rfl)).as (fun x => ⟨x.1, x.2.1, x.2.2.1⟩) ⟨0, 0, []⟩ encA
    (fun a => a.n ≤ 9223372036854775807) (fun a => a.s.length + 4) (fun a => rfl) (fun a => rfl) (fun a h => (i64_of h.2.1).2) (fun a => by
      show a.2.2.1.length + 4 = 1 + (1 + ((a.2.2.1.length + 1) + 0)) + 1
      omega)
noncomputable def rdActs : Rd Try.prog 22 (List Act) := Rd.slice (by kernel_rfl) (by kernel_rfl) rdAct rfl

noncomputable def rdsSafe : Rds Try.prog [22, 3] (List Act × Int × Unit) := Rds.cons rdActs rfl (by kernel_rfl) (Rds.cons rdInt rfl (by kernel_rfl) Rds.nil)

set_option maxRecDepth 100000 in
theorem diskSafe_lifted (os : Os) (started : os.Started) (H : Type) (enc : TypeId × Value → H) :
    ReturnsInHanded {} Try.checked os 3 .any (Rows.diskSafeSpec.pre6 enc Try.prog Try.f3 Rows.diskSafeRow.domain false) (Rows.diskSafeSpec.post enc Try.prog Try.f3 false true false false) := by
  refine returnsInHanded_of_change (C := Try.checked) own started (by kernel_rfl) Try.func3
    (ChangeSpec.witness6 (enc := enc) (C := Try.checked) false ⟨#[], #[.slice none 0 0, .int .i64 0], []⟩ 8 (by kernel_rfl) (by kernel_rfl) (by kernel_rfl) (by kernel_rfl)) ?_
  intro W base args ds gs before hval hW _ _
  refine calls_of rdsSafe (tb := 4) rfl (by kernel_rfl) (by kernel_rfl) (by kernel_rfl) laidOut (by kernel_rfl) (fun ds hl => ?_) hval hW (by intro x hx; cases hx) (fun a hg _ => ?_)
  · match ds, hl with
    | [d1, d2], _ => exact ⟨rfl, rfl, rfl⟩
  · obtain ⟨l, n, u⟩ := a
    exact ⟨_, diskSafe_ok l hg.1.2 n, fun s L h => h.1⟩

theorem diskSafe_said : Rows.DiskSafeSaid :=
  OpenClaim.holds_of_wide 3 Try.f3 rfl rfl rfl rfl rfl rfl rfl ⟨rfl, rfl, rfl, rfl, rfl⟩ rfl rfl rfl rfl rfl (by kernel_rfl) Try.func3 (by kernel_rfl)
    (of_decide_eq_true (by kernel_rfl)) (by unfold Func.isWrapper; first | (rw [if_pos (by decide +kernel)]; kernel_rfl) | (rw [if_neg (by decide +kernel)]; exact ⟨rfl, rfl⟩))
    (fun os started H enc _ => diskSafe_lifted os started H enc)
#print axioms diskSafe_said
end Go.Proofs.Ytjnegpicpaolpaa
