/-
  How arguments read.
-/
import Derived.Test.YtjlpknligekfeaaCodeE
import Derived.Test.YtjlpknligekfeaaRead
import Derived.WalkKit
import Derived.ProofKit
namespace Go.Proofs.Ytjlpknligekfeaa
open Go Go.Sse Go.ChangeShapes Go.WideShapes Go.ChangeAt Go.RowKit
set_option linter.unusedVariables false
set_option linter.unusedSimpArgs false
set_option maxRecDepth 100000

theorem own : ownKnob Try.prog.godebug = none := by kernel_rfl
theorem laidOut : laidOutB Try.prog = true := by kernel_rfl
theorem i64_of {n : Int} (h : (Lit.int .i64 n).wf = true) : -9223372036854775808 ≤ n ∧ n ≤ 9223372036854775807 := by
  simpa [Lit.wf, IntKind.min, IntKind.max, IntKind.signed, IntKind.bits] using h
noncomputable def rdInt : Rd Try.prog 3 Int := Rd.int (k := .i64) (by kernel_rfl) (by kernel_rfl)
noncomputable def rdStr : Rd Try.prog 9 (List UInt8) := Rd.str (by kernel_rfl) (by kernel_rfl)
noncomputable def rdBool : Rd Try.prog 4 Bool := Rd.bool (by kernel_rfl) (by kernel_rfl)
noncomputable def rdStrs : Rd Try.prog 31 (List (List UInt8)) := Rd.slice (by kernel_rfl) (by kernel_rfl) rdStr rfl
end Go.Proofs.Ytjlpknligekfeaa
