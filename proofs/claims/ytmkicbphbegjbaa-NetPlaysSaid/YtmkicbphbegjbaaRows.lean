/-
  No cell of these rows narrows 'for every input' (looked for: loops, veiled, ifaces, maps, wideKeys, modest, calm, conditions, laid).
  DERIVED. THE GIVEN ROWS OF THIS SEAT. 7 by the template 'for every input the law returns true; each argument reads behind the call as it read before'; 0 by the template 'total and deterministic' (their statements: YtmkicbphbegjbaaTotals.lean).
  GIVEN WITH THE SEED: the statements are not yours to turn. If you find one false, say at which input.
  Laid BY PROGRAM, IN A SANDBOX (cutbox-rows.mjs): the forced cells as the released guide's own fill.sh prints them over the translation 288cd9ff021c478e… (all of the seat's roots in one cut). By AI agents, Wed Nov 11 2026. No macro, syntax, notation, axiom, sorry.
-/
import Derived.Test.YtmkicbphbegjbaaChecked
import GoSem.Claim
import GoSem.ClaimJoined
import GoSem.ClaimMapViews
import Derived.JoinedTies
import Derived.KernelRfl
namespace Go.Proofs.Ytmkicbphbegjbaa
/- THE CELL 'sum', in the pinned program and in every row, IS THE sha256 OF THE DUMP (.gsa) THAT YtmkicbphbegjbaaProg.lean LOADS. Nothing in Lean hashes anything: it is a label: what it is worth is what the hold of that sum in a sandbox is worth. -/
noncomputable def Try.pinned : Pinned := { name := "ytmkicbphbegjbaa", sum := "288cd9ff021c478ebab055c1e6e44d16ed0eaa0a904b4ac783260dddce78cabd", checked := Try.checked }
namespace Rows
def none {H : Type} : Left H := { results := [], args := [] }

/-- 'pharoslaw25.TimerSteps': WHATEVER THE INPUT: true; the input reads as it did. -/
def timerStepsSpec : ChangeSpec := { name := "timerSteps", fn := fun _ => fun
  | [d1, d2] => { results := [.lit (.bool true)], args := [d1, d2] }
  | _ => none }
def timerStepsRow : OpenClaim := { program := "ytmkicbphbegjbaa", sum := "288cd9ff021c478ebab055c1e6e44d16ed0eaa0a904b4ac783260dddce78cabd", func := "pharos/pharoslaw25.TimerSteps", spec := "timerSteps", unfollowed := true, recurses := true, apart := false }
def TimerStepsSaid : Prop := timerStepsRow.holds Try.pinned (OpenSpec.ofChange timerStepsSpec)

/-- ITS FALSE NEIGHBOUR: 'it returns false'. Refute it at one input. -/
def timerStepsWrong : ChangeSpec := { name := "timerSteps", fn := fun _ => fun
  | [d1, d2] => { results := [.lit (.bool false)], args := [d1, d2] }
  | _ => none }
def TimerStepsWrongFalsely : Prop := timerStepsRow.holds Try.pinned (OpenSpec.ofChange timerStepsWrong)

/-- 'pharoslaw25.TimerAnew': WHATEVER THE INPUT: true; the input reads as it did. -/
def timerAnewSpec : ChangeSpec := { name := "timerAnew", fn := fun _ => fun
  | [d1, d2, d3] => { results := [.lit (.bool true)], args := [d1, d2, d3] }
  | _ => none }
def timerAnewRow : OpenClaim := { program := "ytmkicbphbegjbaa", sum := "288cd9ff021c478ebab055c1e6e44d16ed0eaa0a904b4ac783260dddce78cabd", func := "pharos/pharoslaw25.TimerAnew", spec := "timerAnew", unfollowed := true, recurses := true, apart := false }
def TimerAnewSaid : Prop := timerAnewRow.holds Try.pinned (OpenSpec.ofChange timerAnewSpec)

/-- ITS FALSE NEIGHBOUR: 'it returns false'. Refute it at one input. -/
def timerAnewWrong : ChangeSpec := { name := "timerAnew", fn := fun _ => fun
  | [d1, d2, d3] => { results := [.lit (.bool false)], args := [d1, d2, d3] }
  | _ => none }
def TimerAnewWrongFalsely : Prop := timerAnewRow.holds Try.pinned (OpenSpec.ofChange timerAnewWrong)

/-- 'pharoslaw25.TimerPlays': WHATEVER THE INPUT: true; the input reads as it did. -/
def timerPlaysSpec : ChangeSpec := { name := "timerPlays", fn := fun _ => fun
  | [d1, d2] => { results := [.lit (.bool true)], args := [d1, d2] }
  | _ => none }
def timerPlaysRow : OpenClaim := { program := "ytmkicbphbegjbaa", sum := "288cd9ff021c478ebab055c1e6e44d16ed0eaa0a904b4ac783260dddce78cabd", func := "pharos/pharoslaw25.TimerPlays", spec := "timerPlays", unfollowed := true, recurses := true, apart := false }
def TimerPlaysSaid : Prop := timerPlaysRow.holds Try.pinned (OpenSpec.ofChange timerPlaysSpec)

/-- ITS FALSE NEIGHBOUR: 'it returns false'. Refute it at one input. -/
def timerPlaysWrong : ChangeSpec := { name := "timerPlays", fn := fun _ => fun
  | [d1, d2] => { results := [.lit (.bool false)], args := [d1, d2] }
  | _ => none }
def TimerPlaysWrongFalsely : Prop := timerPlaysRow.holds Try.pinned (OpenSpec.ofChange timerPlaysWrong)

/-- 'pharoslaw25.TimerOrder': WHATEVER THE INPUT: true; the input reads as it did. -/
def timerOrderSpec : ChangeSpec := { name := "timerOrder", fn := fun _ => fun
  | [d1, d2] => { results := [.lit (.bool true)], args := [d1, d2] }
  | _ => none }
def timerOrderRow : OpenClaim := { program := "ytmkicbphbegjbaa", sum := "288cd9ff021c478ebab055c1e6e44d16ed0eaa0a904b4ac783260dddce78cabd", func := "pharos/pharoslaw25.TimerOrder", spec := "timerOrder", unfollowed := true, recurses := true, apart := false }
def TimerOrderSaid : Prop := timerOrderRow.holds Try.pinned (OpenSpec.ofChange timerOrderSpec)

/-- ITS FALSE NEIGHBOUR: 'it returns false'. Refute it at one input. -/
def timerOrderWrong : ChangeSpec := { name := "timerOrder", fn := fun _ => fun
  | [d1, d2] => { results := [.lit (.bool false)], args := [d1, d2] }
  | _ => none }
def TimerOrderWrongFalsely : Prop := timerOrderRow.holds Try.pinned (OpenSpec.ofChange timerOrderWrong)

/-- 'pharoslaw27.NetArrives': WHATEVER THE INPUT: true; the input reads as it did. -/
def netArrivesSpec : ChangeSpec := { name := "netArrives", fn := fun _ => fun
  | [d1, d2] => { results := [.lit (.bool true)], args := [d1, d2] }
  | _ => none }
def netArrivesRow : OpenClaim := { program := "ytmkicbphbegjbaa", sum := "288cd9ff021c478ebab055c1e6e44d16ed0eaa0a904b4ac783260dddce78cabd", func := "pharos/pharoslaw27.NetArrives", spec := "netArrives", unfollowed := true, recurses := true, apart := false }
def NetArrivesSaid : Prop := netArrivesRow.holds Try.pinned (OpenSpec.ofChange netArrivesSpec)

/-- ITS FALSE NEIGHBOUR: 'it returns false'. Refute it at one input. -/
def netArrivesWrong : ChangeSpec := { name := "netArrives", fn := fun _ => fun
  | [d1, d2] => { results := [.lit (.bool false)], args := [d1, d2] }
  | _ => none }
def NetArrivesWrongFalsely : Prop := netArrivesRow.holds Try.pinned (OpenSpec.ofChange netArrivesWrong)

/-- 'pharoslaw27.NetPlays': WHATEVER THE INPUT: true; the input reads as it did. -/
def netPlaysSpec : ChangeSpec := { name := "netPlays", fn := fun _ => fun
  | [d1, d2] => { results := [.lit (.bool true)], args := [d1, d2] }
  | _ => none }
def netPlaysRow : OpenClaim := { program := "ytmkicbphbegjbaa", sum := "288cd9ff021c478ebab055c1e6e44d16ed0eaa0a904b4ac783260dddce78cabd", func := "pharos/pharoslaw27.NetPlays", spec := "netPlays", unfollowed := true, recurses := true, apart := false }
def NetPlaysSaid : Prop := netPlaysRow.holds Try.pinned (OpenSpec.ofChange netPlaysSpec)

/-- ITS FALSE NEIGHBOUR: 'it returns false'. Refute it at one input. -/
def netPlaysWrong : ChangeSpec := { name := "netPlays", fn := fun _ => fun
  | [d1, d2] => { results := [.lit (.bool false)], args := [d1, d2] }
  | _ => none }
def NetPlaysWrongFalsely : Prop := netPlaysRow.holds Try.pinned (OpenSpec.ofChange netPlaysWrong)

/-- 'pharoslaw27.NetPlain': WHATEVER THE INPUT: true; the input reads as it did. -/
def netPlainSpec : ChangeSpec := { name := "netPlain", fn := fun _ => fun
  | [d] => { results := [.lit (.bool true)], args := [d] }
  | _ => none }
def netPlainRow : OpenClaim := { program := "ytmkicbphbegjbaa", sum := "288cd9ff021c478ebab055c1e6e44d16ed0eaa0a904b4ac783260dddce78cabd", func := "pharos/pharoslaw27.NetPlain", spec := "netPlain", unfollowed := true, recurses := true, apart := false }
def NetPlainSaid : Prop := netPlainRow.holds Try.pinned (OpenSpec.ofChange netPlainSpec)

/-- ITS FALSE NEIGHBOUR: 'it returns false'. Refute it at one input. -/
def netPlainWrong : ChangeSpec := { name := "netPlain", fn := fun _ => fun
  | [d] => { results := [.lit (.bool false)], args := [d] }
  | _ => none }
def NetPlainWrongFalsely : Prop := netPlainRow.holds Try.pinned (OpenSpec.ofChange netPlainWrong)

/- THE SECOND FORM. 'bulk': how many values and letters a reading holds, each counted each time it is reached (what is shared counts as often as it is met; a slice's spare places count too). A statement '..UptoSaid' is the law's where the arguments, and the package variables that the reading takes, are together of bulk at most 1048576: NARROWER than '..Said'. Prove '..Said' where nothing that the law and all that it calls make is longer than what came in: it says more and counts as full. Else prove '..UptoSaid'. A law counts once. -/
mutual
def uptoBulk {H : Type} : DataW H → Nat
  | .lit (.string bytes) => bytes.length + 1
  | .lit _ => 1
  | .nil => 1
  | .ptr d => uptoBulk d + 1
  | .slice elems spare => uptoBulkAll elems + uptoBulkAll spare + 1
  | .agg parts => uptoBulkAll parts + 1
  | .iface _ d => uptoBulk d + 1
  | .map entries => uptoBulkEntries entries + 1
  | .held _ => 1
def uptoBulkAll {H : Type} : List (DataW H) → Nat
  | [] => 0
  | d :: r => uptoBulk d + uptoBulkAll r
def uptoBulkEntries {H : Type} : List (Lit × DataW H) → Nat
  | [] => 0
  | x :: r => uptoBulkEntry x + uptoBulkEntries r
def uptoBulkEntry {H : Type} : Lit × DataW H → Nat
  | (.string bytes, d) => bytes.length + uptoBulk d + 1
  | (_, d) => uptoBulk d + 1
 end
def uptoSmall : (H : Type) → List (DataW H) → Bool := fun _ ds => decide (uptoBulkAll ds ≤ 1048576)
def OpenSpec.upto (s : _root_.Go.ChangeSpec) : _root_.Go.OpenSpec := { _root_.Go.OpenSpec.ofChange s with cond := some uptoSmall }

/-- 'pharoslaw25.TimerSteps', WHERE WHAT IT READS IS OF BULK AT MOST 1048576: true; the input reads as it did. -/
def timerStepsUptoRow : OpenClaim := { program := "ytmkicbphbegjbaa", sum := "288cd9ff021c478ebab055c1e6e44d16ed0eaa0a904b4ac783260dddce78cabd", func := "pharos/pharoslaw25.TimerSteps", spec := "timerSteps", unfollowed := true, recurses := true, apart := false, narrowed := true }
def TimerStepsUptoSaid : Prop := timerStepsUptoRow.holds Try.pinned (OpenSpec.upto timerStepsSpec)

/-- 'pharoslaw25.TimerAnew', WHERE WHAT IT READS IS OF BULK AT MOST 1048576: true; the input reads as it did. -/
def timerAnewUptoRow : OpenClaim := { program := "ytmkicbphbegjbaa", sum := "288cd9ff021c478ebab055c1e6e44d16ed0eaa0a904b4ac783260dddce78cabd", func := "pharos/pharoslaw25.TimerAnew", spec := "timerAnew", unfollowed := true, recurses := true, apart := false, narrowed := true }
def TimerAnewUptoSaid : Prop := timerAnewUptoRow.holds Try.pinned (OpenSpec.upto timerAnewSpec)

/-- 'pharoslaw25.TimerPlays', WHERE WHAT IT READS IS OF BULK AT MOST 1048576: true; the input reads as it did. -/
def timerPlaysUptoRow : OpenClaim := { program := "ytmkicbphbegjbaa", sum := "288cd9ff021c478ebab055c1e6e44d16ed0eaa0a904b4ac783260dddce78cabd", func := "pharos/pharoslaw25.TimerPlays", spec := "timerPlays", unfollowed := true, recurses := true, apart := false, narrowed := true }
def TimerPlaysUptoSaid : Prop := timerPlaysUptoRow.holds Try.pinned (OpenSpec.upto timerPlaysSpec)

/-- 'pharoslaw25.TimerOrder', WHERE WHAT IT READS IS OF BULK AT MOST 1048576: true; the input reads as it did. -/
def timerOrderUptoRow : OpenClaim := { program := "ytmkicbphbegjbaa", sum := "288cd9ff021c478ebab055c1e6e44d16ed0eaa0a904b4ac783260dddce78cabd", func := "pharos/pharoslaw25.TimerOrder", spec := "timerOrder", unfollowed := true, recurses := true, apart := false, narrowed := true }
def TimerOrderUptoSaid : Prop := timerOrderUptoRow.holds Try.pinned (OpenSpec.upto timerOrderSpec)

/-- 'pharoslaw27.NetArrives', WHERE WHAT IT READS IS OF BULK AT MOST 1048576: true; the input reads as it did. -/
def netArrivesUptoRow : OpenClaim := { program := "ytmkicbphbegjbaa", sum := "288cd9ff021c478ebab055c1e6e44d16ed0eaa0a904b4ac783260dddce78cabd", func := "pharos/pharoslaw27.NetArrives", spec := "netArrives", unfollowed := true, recurses := true, apart := false, narrowed := true }
def NetArrivesUptoSaid : Prop := netArrivesUptoRow.holds Try.pinned (OpenSpec.upto netArrivesSpec)

/-- 'pharoslaw27.NetPlays', WHERE WHAT IT READS IS OF BULK AT MOST 1048576: true; the input reads as it did. -/
def netPlaysUptoRow : OpenClaim := { program := "ytmkicbphbegjbaa", sum := "288cd9ff021c478ebab055c1e6e44d16ed0eaa0a904b4ac783260dddce78cabd", func := "pharos/pharoslaw27.NetPlays", spec := "netPlays", unfollowed := true, recurses := true, apart := false, narrowed := true }
def NetPlaysUptoSaid : Prop := netPlaysUptoRow.holds Try.pinned (OpenSpec.upto netPlaysSpec)

/-- 'pharoslaw27.NetPlain', WHERE WHAT IT READS IS OF BULK AT MOST 1048576: true; the input reads as it did. -/
def netPlainUptoRow : OpenClaim := { program := "ytmkicbphbegjbaa", sum := "288cd9ff021c478ebab055c1e6e44d16ed0eaa0a904b4ac783260dddce78cabd", func := "pharos/pharoslaw27.NetPlain", spec := "netPlain", unfollowed := true, recurses := true, apart := false, narrowed := true }
def NetPlainUptoSaid : Prop := netPlainUptoRow.holds Try.pinned (OpenSpec.upto netPlainSpec)

end Rows
end Go.Proofs.Ytmkicbphbegjbaa
