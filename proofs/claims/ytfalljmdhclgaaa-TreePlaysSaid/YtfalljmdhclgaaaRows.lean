/-
  No cell of these rows narrows 'for every input' (looked for: loops, veiled, ifaces, maps, wideKeys, modest, calm, conditions, laid).
  DERIVED. THE GIVEN ROWS OF THIS SEAT. 4 by the template 'for every input the law returns true; each argument reads behind the call as it read before'; 0 by the template 'total and deterministic' (their statements: YtfalljmdhclgaaaTotals.lean).
  GIVEN WITH THE SEED: the statements are not yours to turn. If you find one false, say at which input.
  Laid BY PROGRAM, IN A SANDBOX (cutbox-rows.mjs): the forced cells as the released guide's own fill.sh prints them over the translation e6a1478a1a8017aa… (all of the seat's roots in one cut). By AI agents, Wed Nov 11 2026. No macro, syntax, notation, axiom, sorry.
-/
import Derived.Test.YtfalljmdhclgaaaChecked
import GoSem.Claim
import GoSem.ClaimJoined
import GoSem.ClaimMapViews
import Derived.JoinedTies
import Derived.KernelRfl
namespace Go.Proofs.Ytfalljmdhclgaaa
/- THE CELL 'sum', in the pinned program and in every row, IS THE sha256 OF THE DUMP (.gsa) THAT YtfalljmdhclgaaaProg.lean LOADS. Nothing in Lean hashes anything: it is a label: what it is worth is what the hold of that sum in a sandbox is worth. -/
noncomputable def Try.pinned : Pinned := { name := "ytfalljmdhclgaaa", sum := "e6a1478a1a8017aa9c398bfc5994a1b2274985400278b260ac384e2ff50e00a6", checked := Try.checked }
namespace Rows
def none {H : Type} : Left H := { results := [], args := [] }

/-- 'pharoslaw24.TreeStays': WHATEVER THE INPUT: true; the input reads as it did. -/
def treeStaysSpec : ChangeSpec := { name := "treeStays", fn := fun _ => fun
  | [d1, d2] => { results := [.lit (.bool true)], args := [d1, d2] }
  | _ => none }
def treeStaysRow : OpenClaim := { program := "ytfalljmdhclgaaa", sum := "e6a1478a1a8017aa9c398bfc5994a1b2274985400278b260ac384e2ff50e00a6", func := "pharos/pharoslaw24.TreeStays", spec := "treeStays", unfollowed := true, recurses := true, apart := false }
def TreeStaysSaid : Prop := treeStaysRow.holds Try.pinned (OpenSpec.ofChange treeStaysSpec)

/-- ITS FALSE NEIGHBOUR: 'it returns false'. Refute it at one input. -/
def treeStaysWrong : ChangeSpec := { name := "treeStays", fn := fun _ => fun
  | [d1, d2] => { results := [.lit (.bool false)], args := [d1, d2] }
  | _ => none }
def TreeStaysWrongFalsely : Prop := treeStaysRow.holds Try.pinned (OpenSpec.ofChange treeStaysWrong)

/-- 'pharoslaw24.TreeDone': WHATEVER THE INPUT: true; the input reads as it did. -/
def treeDoneSpec : ChangeSpec := { name := "treeDone", fn := fun _ => fun
  | [d] => { results := [.lit (.bool true)], args := [d] }
  | _ => none }
def treeDoneRow : OpenClaim := { program := "ytfalljmdhclgaaa", sum := "e6a1478a1a8017aa9c398bfc5994a1b2274985400278b260ac384e2ff50e00a6", func := "pharos/pharoslaw24.TreeDone", spec := "treeDone", unfollowed := true, recurses := true, apart := false }
def TreeDoneSaid : Prop := treeDoneRow.holds Try.pinned (OpenSpec.ofChange treeDoneSpec)

/-- ITS FALSE NEIGHBOUR: 'it returns false'. Refute it at one input. -/
def treeDoneWrong : ChangeSpec := { name := "treeDone", fn := fun _ => fun
  | [d] => { results := [.lit (.bool false)], args := [d] }
  | _ => none }
def TreeDoneWrongFalsely : Prop := treeDoneRow.holds Try.pinned (OpenSpec.ofChange treeDoneWrong)

/-- 'pharoslaw24.TreePlays': WHATEVER THE INPUT: true; the input reads as it did. -/
def treePlaysSpec : ChangeSpec := { name := "treePlays", fn := fun _ => fun
  | [d1, d2] => { results := [.lit (.bool true)], args := [d1, d2] }
  | _ => none }
def treePlaysRow : OpenClaim := { program := "ytfalljmdhclgaaa", sum := "e6a1478a1a8017aa9c398bfc5994a1b2274985400278b260ac384e2ff50e00a6", func := "pharos/pharoslaw24.TreePlays", spec := "treePlays", unfollowed := true, recurses := true, apart := false }
def TreePlaysSaid : Prop := treePlaysRow.holds Try.pinned (OpenSpec.ofChange treePlaysSpec)

/-- ITS FALSE NEIGHBOUR: 'it returns false'. Refute it at one input. -/
def treePlaysWrong : ChangeSpec := { name := "treePlays", fn := fun _ => fun
  | [d1, d2] => { results := [.lit (.bool false)], args := [d1, d2] }
  | _ => none }
def TreePlaysWrongFalsely : Prop := treePlaysRow.holds Try.pinned (OpenSpec.ofChange treePlaysWrong)

/-- 'pharoslaw24.TreeLines': WHATEVER THE INPUT: true; the input reads as it did. -/
def treeLinesSpec : ChangeSpec := { name := "treeLines", fn := fun _ => fun
  | [d] => { results := [.lit (.bool true)], args := [d] }
  | _ => none }
def treeLinesRow : OpenClaim := { program := "ytfalljmdhclgaaa", sum := "e6a1478a1a8017aa9c398bfc5994a1b2274985400278b260ac384e2ff50e00a6", func := "pharos/pharoslaw24.TreeLines", spec := "treeLines", unfollowed := true, recurses := true, apart := false }
def TreeLinesSaid : Prop := treeLinesRow.holds Try.pinned (OpenSpec.ofChange treeLinesSpec)

/-- ITS FALSE NEIGHBOUR: 'it returns false'. Refute it at one input. -/
def treeLinesWrong : ChangeSpec := { name := "treeLines", fn := fun _ => fun
  | [d] => { results := [.lit (.bool false)], args := [d] }
  | _ => none }
def TreeLinesWrongFalsely : Prop := treeLinesRow.holds Try.pinned (OpenSpec.ofChange treeLinesWrong)

/- THE SECOND FORM. 'bulk': how many values and letters a reading holds, each counted each time it is reached (what is shared counts as often as it is met; a slice's spare places count too). A statement '..UptoSaid' is the law's where the arguments, and the package variables that the reading takes, are together of bulk at most 1048576: NARROWER than '..Said'. Prove '..Said' where nothing that the law and all that it calls make is longer than what came in: it says more and counts as full. Else prove '..UptoSaid'. A law counts once. -/
mutual
def uptoBulk {H : Type} : DataW H → Nat
  | .lit (.string bytes) => bytes.length + 1
  | .lit _ => 1
  | .nil => 1
  | .ptr d => uptoBulk d + 1
  | .slice elems spare => uptoBulkAll elems + uptoBulkAll spare + 1
  | .agg parts => uptoBulkAll parts + 1
  | .iface _ d => uptoBulk d + 1
  | .map entries => uptoBulkEntries entries + 1
  | .held _ => 1
def uptoBulkAll {H : Type} : List (DataW H) → Nat
  | [] => 0
  | d :: r => uptoBulk d + uptoBulkAll r
def uptoBulkEntries {H : Type} : List (Lit × DataW H) → Nat
  | [] => 0
  | x :: r => uptoBulkEntry x + uptoBulkEntries r
def uptoBulkEntry {H : Type} : Lit × DataW H → Nat
  | (.string bytes, d) => bytes.length + uptoBulk d + 1
  | (_, d) => uptoBulk d + 1
 end
def uptoSmall : (H : Type) → List (DataW H) → Bool := fun _ ds => decide (uptoBulkAll ds ≤ 1048576)
def OpenSpec.upto (s : _root_.Go.ChangeSpec) : _root_.Go.OpenSpec := { _root_.Go.OpenSpec.ofChange s with cond := some uptoSmall }

/-- 'pharoslaw24.TreeStays', WHERE WHAT IT READS IS OF BULK AT MOST 1048576: true; the input reads as it did. -/
def treeStaysUptoRow : OpenClaim := { program := "ytfalljmdhclgaaa", sum := "e6a1478a1a8017aa9c398bfc5994a1b2274985400278b260ac384e2ff50e00a6", func := "pharos/pharoslaw24.TreeStays", spec := "treeStays", unfollowed := true, recurses := true, apart := false, narrowed := true }
def TreeStaysUptoSaid : Prop := treeStaysUptoRow.holds Try.pinned (OpenSpec.upto treeStaysSpec)

/-- 'pharoslaw24.TreeDone', WHERE WHAT IT READS IS OF BULK AT MOST 1048576: true; the input reads as it did. -/
def treeDoneUptoRow : OpenClaim := { program := "ytfalljmdhclgaaa", sum := "e6a1478a1a8017aa9c398bfc5994a1b2274985400278b260ac384e2ff50e00a6", func := "pharos/pharoslaw24.TreeDone", spec := "treeDone", unfollowed := true, recurses := true, apart := false, narrowed := true }
def TreeDoneUptoSaid : Prop := treeDoneUptoRow.holds Try.pinned (OpenSpec.upto treeDoneSpec)

/-- 'pharoslaw24.TreePlays', WHERE WHAT IT READS IS OF BULK AT MOST 1048576: true; the input reads as it did. -/
def treePlaysUptoRow : OpenClaim := { program := "ytfalljmdhclgaaa", sum := "e6a1478a1a8017aa9c398bfc5994a1b2274985400278b260ac384e2ff50e00a6", func := "pharos/pharoslaw24.TreePlays", spec := "treePlays", unfollowed := true, recurses := true, apart := false, narrowed := true }
def TreePlaysUptoSaid : Prop := treePlaysUptoRow.holds Try.pinned (OpenSpec.upto treePlaysSpec)

/-- 'pharoslaw24.TreeLines', WHERE WHAT IT READS IS OF BULK AT MOST 1048576: true; the input reads as it did. -/
def treeLinesUptoRow : OpenClaim := { program := "ytfalljmdhclgaaa", sum := "e6a1478a1a8017aa9c398bfc5994a1b2274985400278b260ac384e2ff50e00a6", func := "pharos/pharoslaw24.TreeLines", spec := "treeLines", unfollowed := true, recurses := true, apart := false, narrowed := true }
def TreeLinesUptoSaid : Prop := treeLinesUptoRow.holds Try.pinned (OpenSpec.upto treeLinesSpec)

end Rows
end Go.Proofs.Ytfalljmdhclgaaa
