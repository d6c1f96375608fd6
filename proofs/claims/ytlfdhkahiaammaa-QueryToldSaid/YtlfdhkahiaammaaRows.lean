/-
  No cell of these rows narrows 'for every input' (looked for: loops, veiled, ifaces, maps, wideKeys, modest, calm, conditions, laid).
  DERIVED. THE GIVEN ROWS OF THIS SEAT. 3 by the template 'for every input the law returns true; each argument reads behind the call as it read before'; 0 by the template 'total and deterministic' (their statements: YtlfdhkahiaammaaTotals.lean).
  GIVEN WITH THE SEED: the statements are not yours to turn. If you find one false, say at which input.
  Laid BY PROGRAM, IN A SANDBOX (cutbox-rows.mjs): the forced cells as the released guide's own fill.sh prints them over the translation 82fee1cfae116cc6… (all of the seat's roots in one cut). By AI agents, Wed Nov 11 2026. No macro, syntax, notation, axiom, sorry.
-/
import Derived.Test.YtlfdhkahiaammaaChecked
import GoSem.Claim
import GoSem.ClaimJoined
import GoSem.ClaimMapViews
import Derived.JoinedTies
import Derived.KernelRfl
namespace Go.Proofs.Ytlfdhkahiaammaa
/- THE CELL 'sum', in the pinned program and in every row, IS THE sha256 OF THE DUMP (.gsa) THAT YtlfdhkahiaammaaProg.lean LOADS. Nothing in Lean hashes anything: it is a label: what it is worth is what the hold of that sum in a sandbox is worth. -/
noncomputable def Try.pinned : Pinned := { name := "ytlfdhkahiaammaa", sum := "82fee1cfae116cc629e7ad040964eff0f52f4cbcc682863bd9bd0a2607e2f2c0", checked := Try.checked }
namespace Rows
def none {H : Type} : Left H := { results := [], args := [] }

/-- 'pharoslaw29.QueryAsks': WHATEVER THE INPUT: true; the input reads as it did. -/
def queryAsksSpec : ChangeSpec := { name := "queryAsks", fn := fun _ => fun
  | [d1, d2] => { results := [.lit (.bool true)], args := [d1, d2] }
  | _ => none }
def queryAsksRow : OpenClaim := { program := "ytlfdhkahiaammaa", sum := "82fee1cfae116cc629e7ad040964eff0f52f4cbcc682863bd9bd0a2607e2f2c0", func := "pharos/pharoslaw29.QueryAsks", spec := "queryAsks", unfollowed := true, recurses := true, apart := false }
def QueryAsksSaid : Prop := queryAsksRow.holds Try.pinned (OpenSpec.ofChange queryAsksSpec)

/-- ITS FALSE NEIGHBOUR: 'it returns false'. Refute it at one input. -/
def queryAsksWrong : ChangeSpec := { name := "queryAsks", fn := fun _ => fun
  | [d1, d2] => { results := [.lit (.bool false)], args := [d1, d2] }
  | _ => none }
def QueryAsksWrongFalsely : Prop := queryAsksRow.holds Try.pinned (OpenSpec.ofChange queryAsksWrong)

/-- 'pharoslaw29.QueryBack': WHATEVER THE INPUT: true; the input reads as it did. -/
def queryBackSpec : ChangeSpec := { name := "queryBack", fn := fun _ => fun
  | [d1, d2] => { results := [.lit (.bool true)], args := [d1, d2] }
  | _ => none }
def queryBackRow : OpenClaim := { program := "ytlfdhkahiaammaa", sum := "82fee1cfae116cc629e7ad040964eff0f52f4cbcc682863bd9bd0a2607e2f2c0", func := "pharos/pharoslaw29.QueryBack", spec := "queryBack", unfollowed := true, recurses := true, apart := false }
def QueryBackSaid : Prop := queryBackRow.holds Try.pinned (OpenSpec.ofChange queryBackSpec)

/-- ITS FALSE NEIGHBOUR: 'it returns false'. Refute it at one input. -/
def queryBackWrong : ChangeSpec := { name := "queryBack", fn := fun _ => fun
  | [d1, d2] => { results := [.lit (.bool false)], args := [d1, d2] }
  | _ => none }
def QueryBackWrongFalsely : Prop := queryBackRow.holds Try.pinned (OpenSpec.ofChange queryBackWrong)

/-- 'pharoslaw29.QueryTold': WHATEVER THE INPUT: true; the input reads as it did. -/
def queryToldSpec : ChangeSpec := { name := "queryTold", fn := fun _ => fun
  | [d1, d2] => { results := [.lit (.bool true)], args := [d1, d2] }
  | _ => none }
def queryToldRow : OpenClaim := { program := "ytlfdhkahiaammaa", sum := "82fee1cfae116cc629e7ad040964eff0f52f4cbcc682863bd9bd0a2607e2f2c0", func := "pharos/pharoslaw29.QueryTold", spec := "queryTold", unfollowed := true, recurses := true, apart := false }
def QueryToldSaid : Prop := queryToldRow.holds Try.pinned (OpenSpec.ofChange queryToldSpec)

/-- ITS FALSE NEIGHBOUR: 'it returns false'. Refute it at one input. -/
def queryToldWrong : ChangeSpec := { name := "queryTold", fn := fun _ => fun
  | [d1, d2] => { results := [.lit (.bool false)], args := [d1, d2] }
  | _ => none }
def QueryToldWrongFalsely : Prop := queryToldRow.holds Try.pinned (OpenSpec.ofChange queryToldWrong)

/- THE SECOND FORM. 'bulk': how many values and letters a reading holds, each counted each time it is reached (what is shared counts as often as it is met; a slice's spare places count too). A statement '..UptoSaid' is the law's where the arguments, and the package variables that the reading takes, are together of bulk at most 1048576: NARROWER than '..Said'. Prove '..Said' where nothing that the law and all that it calls make is longer than what came in: it says more and counts as full. Else prove '..UptoSaid'. A law counts once. -/
mutual
def uptoBulk {H : Type} : DataW H → Nat
  | .lit (.string bytes) => bytes.length + 1
  | .lit _ => 1
  | .nil => 1
  | .ptr d => uptoBulk d + 1
  | .slice elems spare => uptoBulkAll elems + uptoBulkAll spare + 1
  | .agg parts => uptoBulkAll parts + 1
  | .iface _ d => uptoBulk d + 1
  | .map entries => uptoBulkEntries entries + 1
  | .held _ => 1
def uptoBulkAll {H : Type} : List (DataW H) → Nat
  | [] => 0
  | d :: r => uptoBulk d + uptoBulkAll r
def uptoBulkEntries {H : Type} : List (Lit × DataW H) → Nat
  | [] => 0
  | x :: r => uptoBulkEntry x + uptoBulkEntries r
def uptoBulkEntry {H : Type} : Lit × DataW H → Nat
  | (.string bytes, d) => bytes.length + uptoBulk d + 1
  | (_, d) => uptoBulk d + 1
 end
def uptoSmall : (H : Type) → List (DataW H) → Bool := fun _ ds => decide (uptoBulkAll ds ≤ 1048576)
def OpenSpec.upto (s : _root_.Go.ChangeSpec) : _root_.Go.OpenSpec := { _root_.Go.OpenSpec.ofChange s with cond := some uptoSmall }

/-- 'pharoslaw29.QueryAsks', WHERE WHAT IT READS IS OF BULK AT MOST 1048576: true; the input reads as it did. -/
def queryAsksUptoRow : OpenClaim := { program := "ytlfdhkahiaammaa", sum := "82fee1cfae116cc629e7ad040964eff0f52f4cbcc682863bd9bd0a2607e2f2c0", func := "pharos/pharoslaw29.QueryAsks", spec := "queryAsks", unfollowed := true, recurses := true, apart := false, narrowed := true }
def QueryAsksUptoSaid : Prop := queryAsksUptoRow.holds Try.pinned (OpenSpec.upto queryAsksSpec)

/-- 'pharoslaw29.QueryBack', WHERE WHAT IT READS IS OF BULK AT MOST 1048576: true; the input reads as it did. -/
def queryBackUptoRow : OpenClaim := { program := "ytlfdhkahiaammaa", sum := "82fee1cfae116cc629e7ad040964eff0f52f4cbcc682863bd9bd0a2607e2f2c0", func := "pharos/pharoslaw29.QueryBack", spec := "queryBack", unfollowed := true, recurses := true, apart := false, narrowed := true }
def QueryBackUptoSaid : Prop := queryBackUptoRow.holds Try.pinned (OpenSpec.upto queryBackSpec)

/-- 'pharoslaw29.QueryTold', WHERE WHAT IT READS IS OF BULK AT MOST 1048576: true; the input reads as it did. -/
def queryToldUptoRow : OpenClaim := { program := "ytlfdhkahiaammaa", sum := "82fee1cfae116cc629e7ad040964eff0f52f4cbcc682863bd9bd0a2607e2f2c0", func := "pharos/pharoslaw29.QueryTold", spec := "queryTold", unfollowed := true, recurses := true, apart := false, narrowed := true }
def QueryToldUptoSaid : Prop := queryToldUptoRow.holds Try.pinned (OpenSpec.upto queryToldSpec)

end Rows
end Go.Proofs.Ytlfdhkahiaammaa
