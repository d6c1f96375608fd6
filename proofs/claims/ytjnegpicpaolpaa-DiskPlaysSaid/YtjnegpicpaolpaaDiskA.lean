/-
  What the disk's functions do.
-/
import Derived.Test.YtjnegpicpaolpaaFacts
namespace Go.Proofs.Ytjnegpicpaolpaa
open Go Go.Sse
set_option linter.unusedVariables false
set_option linter.unusedSimpArgs false

structure Dk where
  bytes : List UInt8
  safe : Int
  room : Int
  fuse : Int
  down : Bool

abbrev dk (b : Nat) (d : Dk) : Own := .obj b 54 [bsl d.bytes, int d.safe, int d.room, int d.fuse, bool d.down]

/-- One change less. -/
def Dk.burn (d : Dk) : Dk := { d with fuse := if 0 < d.fuse then d.fuse - 1 else d.fuse }
def Dk.dead (d : Dk) : Dk := { d with down := true }

theorem change_dead (b : Nat) (d : Dk) (h0 : d.fuse = 0) : FnC Try.prog 27 [ptr b] [dk b d] (fun s L => s = int 311 ∧ L = [dk b d.dead]) := by
  refine FnC.intro Try.func27 rfl Try.ntmps27 rfl fun Z w0 hG => ?_
  focus (
    (refine W.seq ?_)
    (refine W.region ?_)
    (refine Jx.assign rfl rfl ?_)
    (refine J.nil ?_)
    (refine N.seq ?_)
    (refine W.seq ?_)
    (refine W.seq ?_)
    (refine W.region ?_)
    (refine Jx.move rfl rfl ?_)
    (refine Jx.nilCheck rfl rfl ?_)
    (refine Jx.fieldAddr rfl rfl ?_)
    (refine Jx.load rfl 0 rfl rfl rfl ?_)
    (refine Jx.eqlI rfl rfl rfl ?_)
    (refine J.nil ?_)
    (refine N.seq ?_)
    (refine W.condT rfl (by first | rfl | assumption | (simp; done) | (simp; omega)) ?_)
    (refine W.seq ?_)
    (refine W.region ?_)
    (refine Jx.move rfl rfl ?_)
    (refine Jx.nilCheck rfl rfl ?_)
    (refine Jx.fieldAddr rfl rfl ?_)
    (refine J.store rfl rfl (by first | exact One.val rfl | exact One.sl | exact One.pp) 0 rfl rfl rfl rfl ?_)
    (refine J.nil ?_)
    (refine N.seq ?_)
    (refine W.seq ?_)
    (refine W.region ?_)
    (refine Jx.assign rfl rfl ?_)
    (refine J.nil ?_)
    (refine N.seq ?_)
    (refine W.ret ?_)
    (refine N.seqRet ?_)
    rotate_left)
  exact N.ret (rs := [.tmp 2]) rfl (.tmp rfl .nil) ⟨rfl, rfl⟩

theorem change_live (b : Nat) (d : Dk) (h : d.fuse ≤ 9223372036854775807) (h0 : ¬ d.fuse = 0) : FnC Try.prog 27 [ptr b] [dk b d] (fun s L => s = int 0 ∧ L = [dk b d.burn]) := by
  refine FnC.intro Try.func27 rfl Try.ntmps27 rfl fun Z w0 hG => ?_
  by_cases h1 : 0 < d.fuse
  · focus (
    (refine W.seq ?_)
    (refine W.region ?_)
    (refine Jx.assign rfl rfl ?_)
    (refine J.nil ?_)
    (refine N.seq ?_)
    (refine W.seq ?_)
    (refine W.seq ?_)
    (refine W.region ?_)
    (refine Jx.move rfl rfl ?_)
    (refine Jx.nilCheck rfl rfl ?_)
    (refine Jx.fieldAddr rfl rfl ?_)
    (refine Jx.load rfl 0 rfl rfl rfl ?_)
    (refine Jx.eqlI rfl rfl rfl ?_)
    (refine J.nil ?_)
    (refine N.seq ?_)
    (refine W.condF rfl (by first | rfl | assumption | (simp; done) | (simp; omega)) ?_)
    (refine W.skip ?_)
    (refine N.seq ?_)
    (refine W.seq ?_)
    (refine W.seq ?_)
    (refine W.region ?_)
    (refine Jx.move rfl rfl ?_)
    (refine Jx.nilCheck rfl rfl ?_)
    (refine Jx.fieldAddr rfl rfl ?_)
    (refine Jx.load rfl 0 rfl rfl rfl ?_)
    (refine Jx.gtrI rfl rfl rfl ?_)
    (refine J.nil ?_)
    (refine N.seq ?_)
    (refine W.condT rfl (by first | rfl | assumption | (simp; done) | (simp; omega)) ?_)
    (refine W.region ?_)
    (refine Jx.move rfl rfl ?_)
    (refine Jx.nilCheck rfl rfl ?_)
    (refine Jx.fieldAddr rfl rfl ?_)
    (refine Jx.load rfl 0 rfl rfl rfl ?_)
    (refine Jx.sub64 rfl rfl (by omega) rfl ?_)
    (refine Jx.nilCheck rfl rfl ?_)
    (refine Jx.fieldAddr rfl rfl ?_)
    (refine J.store rfl rfl (by first | exact One.val rfl | exact One.sl | exact One.pp) 0 rfl rfl rfl rfl ?_)
    (refine J.nil ?_)
    (refine N.seq ?_)
    (refine W.seq ?_)
    (refine W.region ?_)
    (refine Jx.assign rfl rfl ?_)
    (refine J.nil ?_)
    (refine N.seq ?_)
    (refine W.ret ?_)
    rotate_left)
    refine N.ret (rs := [.tmp 2]) rfl (.tmp rfl .nil) ⟨rfl, ?_⟩
    simp [Dk.burn, h1]
  · focus (
    (refine W.seq ?_)
    (refine W.region ?_)
    (refine Jx.assign rfl rfl ?_)
    (refine J.nil ?_)
    (refine N.seq ?_)
    (refine W.seq ?_)
    (refine W.seq ?_)
    (refine W.region ?_)
    (refine Jx.move rfl rfl ?_)
    (refine Jx.nilCheck rfl rfl ?_)
    (refine Jx.fieldAddr rfl rfl ?_)
    (refine Jx.load rfl 0 rfl rfl rfl ?_)
    (refine Jx.eqlI rfl rfl rfl ?_)
    (refine J.nil ?_)
    (refine N.seq ?_)
    (refine W.condF rfl (by first | rfl | assumption | (simp; done) | (simp; omega)) ?_)
    (refine W.skip ?_)
    (refine N.seq ?_)
    (refine W.seq ?_)
    (refine W.seq ?_)
    (refine W.region ?_)
    (refine Jx.move rfl rfl ?_)
    (refine Jx.nilCheck rfl rfl ?_)
    (refine Jx.fieldAddr rfl rfl ?_)
    (refine Jx.load rfl 0 rfl rfl rfl ?_)
    (refine Jx.gtrI rfl rfl rfl ?_)
    (refine J.nil ?_)
    (refine N.seq ?_)
    (refine W.condF rfl (by first | rfl | assumption | (simp; done) | (simp; omega)) ?_)
    (refine W.skip ?_)
    (refine N.seq ?_)
    (refine W.seq ?_)
    (refine W.region ?_)
    (refine Jx.assign rfl rfl ?_)
    (refine J.nil ?_)
    (refine N.seq ?_)
    (refine W.ret ?_)
    rotate_left)
    refine N.ret (rs := [.tmp 2]) rfl (.tmp rfl .nil) ⟨rfl, ?_⟩
    simp [Dk.burn, h1]

theorem read_ok (b : Nat) (d : Dk) : FnC Try.prog 9 [ptr b] [dk b d] (fun s L => s = str d.bytes ∧ L = [dk b d]) := by
  refine FnC.intro Try.func9 rfl Try.ntmps9 rfl fun Z w0 hG => ?_
  focus (
    (refine W.seq ?_)
    (refine W.region ?_)
    (refine Jx.assign rfl rfl ?_)
    (refine J.nil ?_)
    (refine N.seq ?_)
    (refine W.seq ?_)
    (refine W.region ?_)
    (refine Jx.move rfl rfl ?_)
    (refine Jx.nilCheck rfl rfl ?_)
    (refine Jx.fieldAddr rfl rfl ?_)
    (refine Jx.load rfl 0 rfl rfl rfl ?_)
    (refine Jx.bytesStr rfl rfl ?_)
    (refine Jx.assign rfl rfl ?_)
    (refine J.nil ?_)
    (refine N.seq ?_)
    (refine W.ret ?_)
    rotate_left)
  exact N.ret (rs := [.tmp 2]) rfl (.tmp rfl .nil) ⟨rfl, rfl⟩

theorem safe_ok (b : Nat) (d : Dk) : FnC Try.prog 10 [ptr b] [dk b d] (fun s L => s = int d.safe ∧ L = [dk b d]) := by
  refine FnC.intro Try.func10 rfl Try.ntmps10 rfl fun Z w0 hG => ?_
  focus (
    (refine W.seq ?_)
    (refine W.region ?_)
    (refine Jx.assign rfl rfl ?_)
    (refine J.nil ?_)
    (refine N.seq ?_)
    (refine W.seq ?_)
    (refine W.region ?_)
    (refine Jx.move rfl rfl ?_)
    (refine Jx.nilCheck rfl rfl ?_)
    (refine Jx.fieldAddr rfl rfl ?_)
    (refine Jx.load rfl 0 rfl rfl rfl ?_)
    (refine Jx.assign rfl rfl ?_)
    (refine J.nil ?_)
    (refine N.seq ?_)
    (refine W.ret ?_)
    rotate_left)
  exact N.ret (rs := [.tmp 2]) rfl (.tmp rfl .nil) ⟨rfl, rfl⟩

theorem up_ok (b : Nat) (d : Dk) : FnC Try.prog 12 [ptr b] [dk b d] (fun s L => s = bool (!d.down) ∧ L = [dk b d]) := by
  refine FnC.intro Try.func12 rfl Try.ntmps12 rfl fun Z w0 hG => ?_
  focus (
    (refine W.seq ?_)
    (refine W.region ?_)
    (refine Jx.assign rfl rfl ?_)
    (refine J.nil ?_)
    (refine N.seq ?_)
    (refine W.seq ?_)
    (refine W.region ?_)
    (refine Jx.move rfl rfl ?_)
    (refine Jx.nilCheck rfl rfl ?_)
    (refine Jx.fieldAddr rfl rfl ?_)
    (refine Jx.load rfl 0 rfl rfl rfl ?_)
    (refine Jx.not rfl rfl ?_)
    (refine Jx.assign rfl rfl ?_)
    (refine J.nil ?_)
    (refine N.seq ?_)
    (refine W.ret ?_)
    rotate_left)
  exact N.ret (rs := [.tmp 2]) rfl (.tmp rfl .nil) ⟨rfl, rfl⟩

theorem fuse_ok (b : Nat) (d : Dk) (n : Int) : FnC Try.prog 17 [ptr b, int n] [dk b d] (fun s L => L = [dk b { d with fuse := if -1 > n then -1 else n }]) := by
  refine FnC.intro Try.func17 rfl Try.ntmps17 rfl fun Z w0 hG => ?_
  focus (
    (refine W.region ?_)
    (refine Jx.move rfl rfl ?_)
    (refine Jx.move rfl rfl ?_)
    (refine Jx.max rfl rfl rfl ?_)
    (refine Jx.nilCheck rfl rfl ?_)
    (refine Jx.fieldAddr rfl rfl ?_)
    (refine J.store rfl rfl (by first | exact One.val rfl | exact One.sl | exact One.pp) 0 rfl rfl rfl rfl ?_)
    (refine J.nil ?_)
    rotate_left)
  exact N.fin (rs := []) rfl .nil rfl
end Go.Proofs.Ytjnegpicpaolpaa
