/-
  Lemmas for the claim, part 4.
-/
import Derived.Test.YtbdkenlkimiddaaDoorJournalPlaysPc
namespace Go.Proofs.YtbdkenlkimiddaaDoor.Dsk
open Go Go.Sse
set_option linter.unusedVariables false
set_option linter.unusedSimpArgs false
set_option maxRecDepth 10000
structure Dk where
  bytes : List UInt8
  safe : Int
  room : Int
  fuse : Int
  down : Bool
abbrev tDk : Nat := 71
abbrev dk (b : Nat) (d : Dk) : Own := .obj b tDk [bsl d.bytes, int d.safe, int d.room, int d.fuse, bool d.down]
def Dk.burn (d : Dk) : Dk := { d with fuse := if 0 < d.fuse then d.fuse - 1 else d.fuse }
def Dk.dead (d : Dk) : Dk := { d with down := true }
theorem change_dead (b : Nat) (d : Dk) (h0 : d.fuse = 0) : FnC Tryd.prog 41 [ptr b] [dk b d] (fun s L => s = int 311 ∧ L = [dk b d.dead]) := by
  refine FnC.intro Tryd.func41 rfl Tryd.ntmps41 rfl fun Z w0 hG => ?_
  focus (
 (refine W.seq (W.region (Jx.assign rfl rfl (J.nil (N.seq (W.seq (W.seq (W.region (Jx.move rfl rfl (Jx.nilCheck rfl rfl ?_))))))))))
 (refine Jx.fieldAddr rfl rfl ?_)
 (refine Jx.load rfl 0 rfl rfl rfl ?_)
 (refine Jx.eqlI rfl rfl rfl (J.nil (N.seq (W.cT rfl ?_))))
 (refine W.seq (W.region (Jx.move rfl rfl (Jx.nilCheck rfl rfl ?_))))
 (refine Jx.fieldAddr rfl rfl ?_)
 (refine J.st 0 rfl rfl rfl rfl rfl rfl ?_)
 (refine J.nil (N.seq (W.seq (W.region (Jx.assign rfl rfl (J.nil (N.seq (W.ret (N.noGotoRet ?_)))))))))
 (refine id ?_; rotate_left))
  exact N.ret (rs := [.tmp 2]) rfl (.tmp rfl .nil) ⟨rfl, rfl⟩
theorem change_live (b : Nat) (d : Dk) (h : d.fuse ≤ 9223372036854775807) (h0 : ¬ d.fuse = 0) : FnC Tryd.prog 41 [ptr b] [dk b d] (fun s L => s = int 0 ∧ L = [dk b d.burn]) := by
  refine FnC.intro Tryd.func41 rfl Tryd.ntmps41 rfl fun Z w0 hG => ?_
  by_cases h1 : 0 < d.fuse
  · focus (
 (refine W.seq (W.region (Jx.assign rfl rfl (J.nil (N.seq (W.seq (W.seq (W.region (Jx.move rfl rfl (Jx.nilCheck rfl rfl ?_))))))))))
 (refine Jx.fieldAddr rfl rfl ?_)
 (refine Jx.load rfl 0 rfl rfl rfl ?_)
 (refine Jx.eqlI rfl rfl rfl (J.nil (N.seq (W.cF rfl ?_))))
 (refine W.skip (N.seq (W.seq (W.seq (W.region (Jx.move rfl rfl (Jx.nilCheck rfl rfl ?_)))))))
 (refine Jx.fieldAddr rfl rfl ?_)
 (refine Jx.load rfl 0 rfl rfl rfl ?_)
 (refine Jx.gtrI rfl rfl rfl (J.nil (N.seq (W.cT rfl ?_))))
 (refine W.region (Jx.move rfl rfl (Jx.nilCheck rfl rfl ?_)))
 (refine Jx.fieldAddr rfl rfl ?_)
 (refine Jx.load rfl 0 rfl rfl rfl ?_)
 (refine Jx.sub64 rfl rfl (by omega) rfl ?_)
 (refine Jx.nilCheck rfl rfl ?_)
 (refine Jx.fieldAddr rfl rfl ?_)
 (refine J.st 0 rfl rfl rfl rfl rfl rfl ?_)
 (refine J.nil (N.seq (W.seq (W.region (Jx.assign rfl rfl (J.nil (N.seq (W.ret ?_))))))))
 (refine id ?_; rotate_left))
    refine N.ret (rs := [.tmp 2]) rfl (.tmp rfl .nil) ⟨rfl, ?_⟩
    simp [Dk.burn, h1]
  · focus (
 (refine W.seq (W.region (Jx.assign rfl rfl (J.nil (N.seq (W.seq (W.seq (W.region (Jx.move rfl rfl (Jx.nilCheck rfl rfl ?_))))))))))
 (refine Jx.fieldAddr rfl rfl ?_)
 (refine Jx.load rfl 0 rfl rfl rfl ?_)
 (refine Jx.eqlI rfl rfl rfl (J.nil (N.seq (W.cF rfl ?_))))
 (refine W.skip (N.seq (W.seq (W.seq (W.region (Jx.move rfl rfl (Jx.nilCheck rfl rfl ?_)))))))
 (refine Jx.fieldAddr rfl rfl ?_)
 (refine Jx.load rfl 0 rfl rfl rfl ?_)
 (refine Jx.gtrI rfl rfl rfl (J.nil (N.seq (W.cF rfl ?_))))
 (refine W.skip (N.seq (W.seq (W.region (Jx.assign rfl rfl (J.nil (N.seq (W.ret ?_))))))))
 (refine id ?_; rotate_left))
    refine N.ret (rs := [.tmp 2]) rfl (.tmp rfl .nil) ⟨rfl, ?_⟩
    simp [Dk.burn, h1]
theorem read_ok (b : Nat) (d : Dk) : FnC Tryd.prog 27 [ptr b] [dk b d] (fun s L => s = str d.bytes ∧ L = [dk b d]) := by
  refine FnC.intro Tryd.func27 rfl Tryd.ntmps27 rfl fun Z w0 hG => ?_
  focus (
 (refine W.seq (W.region (Jx.assign rfl rfl (J.nil (N.seq (W.seq (W.region (Jx.move rfl rfl (Jx.nilCheck rfl rfl ?_)))))))))
 (refine Jx.fieldAddr rfl rfl ?_)
 (refine Jx.load rfl 0 rfl rfl rfl ?_)
 (refine Jx.bytesStr rfl rfl ?_)
 (refine Jx.assign rfl rfl (J.nil (N.seq (W.ret ?_))))
 (refine id ?_; rotate_left))
  exact N.ret (rs := [.tmp 2]) rfl (.tmp rfl .nil) ⟨rfl, rfl⟩
theorem fuse_ok (b : Nat) (d : Dk) (n : Int) : FnC Tryd.prog 14 [ptr b, int n] [dk b d] (fun s L => L = [dk b { d with fuse := if -1 > n then -1 else n }]) := by
  refine FnC.intro Tryd.func14 rfl Tryd.ntmps14 rfl fun Z w0 hG => ?_
  focus (
 (refine W.region (Jx.move rfl rfl (Jx.move rfl rfl (Jx.max rfl rfl rfl ?_))))
 (refine Jx.nilCheck rfl rfl ?_)
 (refine Jx.fieldAddr rfl rfl ?_)
 (refine J.store rfl rfl (by first | exact One.val rfl | exact One.sl | exact One.pp) 0 rfl rfl rfl rfl ?_)
 (refine J.nil ?_)
 (refine id ?_; rotate_left))
  exact N.fin (rs := []) rfl .nil rfl
end Go.Proofs.YtbdkenlkimiddaaDoor.Dsk
namespace Go.Proofs.YtbdkenlkimiddaaDoor.Dsk
open Go Go.Sse
set_option linter.unusedVariables false
set_option linter.unusedSimpArgs false
set_option maxRecDepth 10000
def Dk.sync (d : Dk) : Int × Dk := if d.down = true then (311, d) else if d.fuse = 0 then (311, d.dead) else (0, { d.burn with safe := d.bytes.length })
theorem sync_ok (b : Nat) (d : Dk) (h : d.fuse ≤ 9223372036854775807) : FnC Tryd.prog 36 [ptr b] [dk b d] (fun s L => s = int d.sync.1 ∧ L = [dk b d.sync.2]) := by
  refine FnC.intro Tryd.func36 rfl Tryd.ntmps36 rfl fun Z w0 hG => ?_
  by_cases hd : d.down = true
  · focus (
 (refine W.seq (W.region (Jx.assign rfl rfl (J.nil (N.seq (W.seq (W.seq (W.region (Jx.move rfl rfl (Jx.nilCheck rfl rfl ?_))))))))))
 (refine Jx.fieldAddr rfl rfl ?_)
 (refine Jx.load rfl 0 rfl rfl rfl ?_)
 (refine J.nil (N.seq (W.cT rfl ?_)))
 (refine W.seq (W.region (Jx.assign rfl rfl (J.nil (N.seq (W.ret (N.noGotoRet ?_)))))))
 (refine id ?_; rotate_left))
    refine N.ret (rs := [.tmp 2]) rfl (.tmp rfl .nil) ?_
    simp [oneOr, Dk.sync, hd]
  · have hd : d.down = false := by simpa using hd
    by_cases h0 : d.fuse = 0
    · focus (
 (refine W.seq (W.region (Jx.assign rfl rfl (J.nil (N.seq (W.seq (W.seq (W.region (Jx.move rfl rfl (Jx.nilCheck rfl rfl ?_))))))))))
 (refine Jx.fieldAddr rfl rfl ?_)
 (refine Jx.load rfl 0 rfl rfl rfl ?_)
 (refine J.nil (N.seq (W.cF rfl ?_)))
 (refine W.skip (N.seq (W.seq (W.seq (W.region (Jx.move rfl rfl ?_))))))
 (refine J.call (change_dead b d h0) rfl (.cons rfl .nil) rfl ?_; rintro _ _ ⟨rfl, rfl⟩; simp only [la1, la2, la3])
 (refine Jx.assign rfl rfl (J.nil (N.seq (W.seq (W.region (Jx.move rfl rfl (Jx.neqI rfl rfl rfl (J.nil (N.seq (W.cT rfl ?_))))))))))
 (refine W.seq (W.region (Jx.move rfl rfl (Jx.assign rfl rfl (J.nil (N.seq (W.ret (N.noGotoRet ?_))))))))
 (refine id ?_; rotate_left))
      refine N.ret (rs := [.tmp 2]) rfl (.tmp rfl .nil) ?_
      simp [oneOr, Dk.sync, hd, h0]
    · focus (
 (refine W.seq (W.region (Jx.assign rfl rfl (J.nil (N.seq (W.seq (W.seq (W.region (Jx.move rfl rfl (Jx.nilCheck rfl rfl ?_))))))))))
 (refine Jx.fieldAddr rfl rfl ?_)
 (refine Jx.load rfl 0 rfl rfl rfl ?_)
 (refine J.nil (N.seq (W.cF rfl ?_)))
 (refine W.skip (N.seq (W.seq (W.seq (W.region (Jx.move rfl rfl ?_))))))
 (refine J.call (change_live b d h h0) rfl (.cons rfl .nil) rfl ?_; rintro _ _ ⟨rfl, rfl⟩; simp only [la1, la2, la3])
 (refine Jx.assign rfl rfl (J.nil (N.seq (W.seq (W.region (Jx.move rfl rfl (Jx.neqI rfl rfl rfl (J.nil (N.seq (W.cF rfl ?_))))))))))
 (refine W.skip (N.seq (W.seq (W.region (Jx.move rfl rfl (Jx.move rfl rfl (Jx.nilCheck rfl rfl ?_)))))))
 (refine Jx.fieldAddr rfl rfl ?_)
 (refine Jx.load rfl 0 rfl rfl rfl ?_)
 (refine Jx.lenSl rfl rfl ?_)
 (refine Jx.nilCheck rfl rfl ?_)
 (refine Jx.fieldAddr rfl rfl ?_)
 (refine J.st 0 rfl rfl rfl rfl rfl rfl ?_)
 (refine J.nil (N.seq (W.seq (W.region (Jx.assign rfl rfl (J.nil (N.seq (W.ret ?_))))))))
 (refine id ?_; rotate_left))
      refine N.ret (rs := [.tmp 2]) rfl (.tmp rfl .nil) ?_
      simp [oneOr, Dk.sync, hd, h0, Dk.burn]
def Dk.cut (d : Dk) (n : Int) : Int × Dk :=
  if d.down = true then (311, d) else if n < 0 ∨ (d.bytes.length : Int) < n then (1, d) else if d.fuse = 0 then (311, d.dead) else
  (0, { d.burn with bytes := d.bytes.take n.toNat, safe := if n < d.safe then n else d.safe })
theorem slc_take (l : List UInt8) (n : Nat) (h : n ≤ l.length) : Sub (.slc 1 n (elOf encB 0 l)) (bsl (l.take n)) := by
  refine Sub.slc.trans ?_
  have : (l.take n).length = n := by simp; omega
  unfold bsl
  rw [this]
  refine Sub.sl fun i hi => ?_
  simp only [elOf, List.getD_eq_getElem?_getD, List.getElem?_take, hi, if_true]
set_option maxHeartbeats 4000000 in
theorem cut_ok (b : Nat) (d : Dk) (n : Int) (h : d.fuse ≤ 9223372036854775807) : FnC Tryd.prog 35 [ptr b, int n] [dk b d] (fun s L => s = int (d.cut n).1 ∧ L = [dk b (d.cut n).2]) := by
  refine FnC.intro Tryd.func35 rfl Tryd.ntmps35 rfl fun Z w0 hG => ?_
  by_cases hd : d.down = true
  · focus (
 (refine W.seq (W.region (Jx.assign rfl rfl (J.nil (N.seq (W.seq (W.block (W.seq (W.region (Jx.move rfl rfl (Jx.nilCheck rfl rfl ?_)))))))))))
 (refine Jx.fieldAddr rfl rfl ?_)
 (refine Jx.load rfl 0 rfl rfl rfl ?_)
 (refine Jx.assign rfl rfl (J.nil (N.seq (W.cT rfl ?_))))
 (refine W.seq (W.region (Jx.assign rfl rfl (J.nil (N.seq (W.ret (N.noGotoRet (N.noGotoRet ?_))))))))
 (refine id ?_; rotate_left))
    refine N.ret (rs := [.tmp 4]) rfl (.tmp rfl .nil) ?_
    simp [oneOr, Dk.cut, hd]
  · have hd : d.down = false := by simpa using hd
    by_cases h1 : n < 0
    · focus (
 (refine W.seq (W.region (Jx.assign rfl rfl (J.nil (N.seq (W.seq (W.block (W.seq (W.region (Jx.move rfl rfl (Jx.nilCheck rfl rfl ?_)))))))))))
 (refine Jx.fieldAddr rfl rfl ?_)
 (refine Jx.load rfl 0 rfl rfl rfl ?_)
 (refine Jx.assign rfl rfl (J.nil (N.seq (W.cF rfl ?_))))
 (refine W.seq (W.region (Jx.move rfl rfl (Jx.lssI rfl rfl rfl (Jx.move rfl rfl (J.gN rfl rfl rfl rfl ?_))))))
 (refine J.gN rfl rfl rfl rfl ?_)
 (refine J.gN rfl rfl rfl rfl ?_)
 (refine J.gN rfl rfl rfl rfl ?_)
 (refine J.gN rfl rfl rfl rfl ?_)
 (refine J.gN rfl rfl rfl rfl ?_)
 (refine J.gN rfl rfl rfl rfl ?_)
 (refine Jx.pT rfl rfl rfl ?_)
 (refine Jx.assign rfl rfl (J.nil (N.seq (W.cT rfl ?_))))
 (refine W.seq (W.region (Jx.assign rfl rfl (J.nil (N.seq (W.ret (N.noGotoRet (N.noGotoRet ?_))))))))
 (refine id ?_; rotate_left))
      refine N.ret (rs := [.tmp 4]) rfl (.tmp rfl .nil) ?_
      simp [oneOr, Dk.cut, hd, h1]
    · by_cases h2 : (d.bytes.length : Int) < n
      · focus (
 (refine W.seq (W.region (Jx.assign rfl rfl (J.nil (N.seq (W.seq (W.block (W.seq (W.region (Jx.move rfl rfl (Jx.nilCheck rfl rfl ?_)))))))))))
 (refine Jx.fieldAddr rfl rfl ?_)
 (refine Jx.load rfl 0 rfl rfl rfl ?_)
 (refine Jx.assign rfl rfl (J.nil (N.seq (W.cF rfl ?_))))
 (refine W.seq (W.region (Jx.move rfl rfl (Jx.lssI rfl rfl rfl (Jx.move rfl rfl (J.gY rfl rfl rfl ?_))))))
 (refine Jx.move rfl rfl (J.gY rfl rfl rfl ?_))
 (refine Jx.move rfl rfl (J.gY rfl rfl rfl ?_))
 (refine Jx.nilCheck rfl rfl ?_)
 (refine J.gY rfl rfl rfl ?_)
 (refine Jx.fieldAddr rfl rfl ?_)
 (refine J.gY rfl rfl rfl ?_)
 (refine Jx.load rfl 0 rfl rfl rfl ?_)
 (refine J.gY rfl rfl rfl ?_)
 (refine Jx.lenSl rfl rfl ?_)
 (refine J.gY rfl rfl rfl ?_)
 (refine Jx.gtrI rfl rfl rfl (Jx.pF rfl rfl rfl ?_))
 (refine Jx.assign rfl rfl (J.nil (N.seq (W.cT rfl ?_))))
 (refine W.seq (W.region (Jx.assign rfl rfl (J.nil (N.seq (W.ret (N.noGotoRet (N.noGotoRet ?_))))))))
 (refine id ?_; rotate_left))
        refine N.ret (rs := [.tmp 4]) rfl (.tmp rfl .nil) ?_
        simp [oneOr, Dk.cut, hd, h1, h2]
      · have h3 : ¬ (n < 0 ∨ (d.bytes.length : Int) < n) := by omega
        by_cases h0 : d.fuse = 0
        · focus (
 (refine W.seq (W.region (Jx.assign rfl rfl (J.nil (N.seq (W.seq (W.block (W.seq (W.region (Jx.move rfl rfl (Jx.nilCheck rfl rfl ?_)))))))))))
 (refine Jx.fieldAddr rfl rfl ?_)
 (refine Jx.load rfl 0 rfl rfl rfl ?_)
 (refine Jx.assign rfl rfl (J.nil (N.seq (W.cF rfl ?_))))
 (refine W.seq (W.region (Jx.move rfl rfl (Jx.lssI rfl rfl rfl (Jx.move rfl rfl (J.gY rfl rfl rfl ?_))))))
 (refine Jx.move rfl rfl (J.gY rfl rfl rfl ?_))
 (refine Jx.move rfl rfl (J.gY rfl rfl rfl ?_))
 (refine Jx.nilCheck rfl rfl ?_)
 (refine J.gY rfl rfl rfl ?_)
 (refine Jx.fieldAddr rfl rfl ?_)
 (refine J.gY rfl rfl rfl ?_)
 (refine Jx.load rfl 0 rfl rfl rfl ?_)
 (refine J.gY rfl rfl rfl ?_)
 (refine Jx.lenSl rfl rfl ?_)
 (refine J.gY rfl rfl rfl ?_)
 (refine Jx.gtrI rfl rfl rfl (Jx.pF rfl rfl rfl ?_))
 (refine Jx.assign rfl rfl (J.nil (N.seq (W.cF rfl ?_))))
 (refine W.skip (N.seq (W.seq (W.seq (W.region (Jx.move rfl rfl ?_))))))
 (refine J.call (change_dead b d h0) rfl (.cons rfl .nil) rfl ?_; rintro _ _ ⟨rfl, rfl⟩; simp only [la1, la2, la3])
 (refine Jx.assign rfl rfl (J.nil (N.seq (W.seq (W.region (Jx.move rfl rfl (Jx.neqI rfl rfl rfl (J.nil (N.seq (W.cT rfl ?_))))))))))
 (refine W.seq (W.region (Jx.move rfl rfl (Jx.assign rfl rfl (J.nil (N.seq (W.ret (N.noGotoRet ?_))))))))
 (refine id ?_; rotate_left))
          refine N.ret (rs := [.tmp 4]) rfl (.tmp rfl .nil) ?_
          simp [oneOr, Dk.cut, hd, h0, h3]
        · focus (
 (refine W.seq (W.region (Jx.assign rfl rfl (J.nil (N.seq (W.seq (W.block (W.seq (W.region (Jx.move rfl rfl (Jx.nilCheck rfl rfl ?_)))))))))))
 (refine Jx.fieldAddr rfl rfl ?_)
 (refine Jx.load rfl 0 rfl rfl rfl ?_)
 (refine Jx.assign rfl rfl (J.nil (N.seq (W.cF rfl ?_))))
 (refine W.seq (W.region (Jx.move rfl rfl (Jx.lssI rfl rfl rfl (Jx.move rfl rfl (J.gY rfl rfl rfl ?_))))))
 (refine Jx.move rfl rfl (J.gY rfl rfl rfl ?_))
 (refine Jx.move rfl rfl (J.gY rfl rfl rfl ?_))
 (refine Jx.nilCheck rfl rfl ?_)
 (refine J.gY rfl rfl rfl ?_)
 (refine Jx.fieldAddr rfl rfl ?_)
 (refine J.gY rfl rfl rfl ?_)
 (refine Jx.load rfl 0 rfl rfl rfl ?_)
 (refine J.gY rfl rfl rfl ?_)
 (refine Jx.lenSl rfl rfl ?_)
 (refine J.gY rfl rfl rfl ?_)
 (refine Jx.gtrI rfl rfl rfl (Jx.pF rfl rfl rfl ?_))
 (refine Jx.assign rfl rfl (J.nil (N.seq (W.cF rfl ?_))))
 (refine W.skip (N.seq (W.seq (W.seq (W.region (Jx.move rfl rfl ?_))))))
 (refine J.call (change_live b d h h0) rfl (.cons rfl .nil) rfl ?_; rintro _ _ ⟨rfl, rfl⟩; simp only [la1, la2, la3])
 (refine Jx.assign rfl rfl (J.nil (N.seq (W.seq (W.region (Jx.move rfl rfl (Jx.neqI rfl rfl rfl (J.nil (N.seq (W.cF rfl ?_))))))))))
 (refine W.skip (N.seq (W.seq (W.region (Jx.move rfl rfl (Jx.move rfl rfl (Jx.nilCheck rfl rfl ?_)))))))
 (refine Jx.fieldAddr rfl rfl ?_)
 (refine Jx.load rfl 0 rfl rfl rfl ?_)
 (refine Jx.move rfl rfl (Jx.move rfl rfl (Jx.clip rfl rfl rfl (by omega) (by simp only [Dk.burn]; omega) rfl ?_)))
 (refine Jx.nilCheck rfl rfl ?_)
 (refine Jx.fieldAddr rfl rfl ?_)
 (refine J.store rfl rfl One.slc 0 rfl rfl rfl rfl ?_)
 (refine J.nil (N.seq (W.seq (W.region (Jx.move rfl rfl (Jx.move rfl rfl (Jx.nilCheck rfl rfl ?_)))))))
 (refine Jx.fieldAddr rfl rfl ?_)
 (refine Jx.load rfl 0 rfl rfl rfl ?_)
 (refine Jx.move rfl rfl (Jx.min rfl rfl rfl ?_))
 (refine Jx.nilCheck rfl rfl ?_)
 (refine Jx.fieldAddr rfl rfl ?_)
 (refine J.st 0 rfl rfl rfl rfl rfl rfl ?_)
 (refine J.nil (N.seq (W.seq (W.region (Jx.assign rfl rfl (J.nil (N.seq (W.ret ?_))))))))
 (refine id ?_; rotate_left))
          refine N.objSub 0 _ rfl (.cons (slc_take d.bytes n.toNat (by omega)) (.cons (Sub.refl _) (.cons (Sub.refl _) (.cons (Sub.refl _) (.cons (Sub.refl _) .nil))))) rfl ?_
          refine N.ret (rs := [.tmp 4]) rfl (.tmp rfl .nil) ?_
          simp [oneOr, Dk.cut, hd, h0, h3, Dk.burn]
def Dk.append (d : Dk) (s : List UInt8) : Int × Dk :=
  if d.down = true then (311, d) else if d.room - d.bytes.length < s.length then (310, d) else if d.fuse = 0 then (311, d.dead) else (0, { d.burn with bytes := d.bytes ++ s })
set_option maxHeartbeats 4000000 in
theorem append_ok (b : Nat) (d : Dk) (s : List UInt8) (h : d.fuse ≤ 9223372036854775807) (hr : 0 ≤ d.room ∧ d.room ≤ 1048576) (hb : d.bytes.length ≤ 1048576) (hs : s.length ≤ 1048576) :
    FnC Tryd.prog 25 [ptr b, str s] [dk b d] (fun r L => r = int (d.append s).1 ∧ L = [dk b (d.append s).2]) := by
  refine FnC.intro Tryd.func25 rfl Tryd.ntmps25 rfl fun Z w0 hG => ?_
  by_cases hd : d.down = true
  · focus (
 (refine W.seq (W.region (Jx.assign rfl rfl (J.nil (N.seq (W.seq (W.seq (W.region (Jx.move rfl rfl (Jx.nilCheck rfl rfl ?_))))))))))
 (refine Jx.fieldAddr rfl rfl ?_)
 (refine Jx.load rfl 0 rfl rfl rfl ?_)
 (refine J.nil (N.seq (W.cT rfl ?_)))
 (refine W.seq (W.region (Jx.assign rfl rfl (J.nil (N.seq (W.ret (N.noGotoRet ?_)))))))
 (refine id ?_; rotate_left))
    refine N.ret (rs := [.tmp 4]) rfl (.tmp rfl .nil) ?_
    simp [oneOr, Dk.append, hd]
  · have hd : d.down = false := by simpa using hd
    by_cases h1 : d.room - d.bytes.length < s.length
    · focus (
 (refine W.seq (W.region (Jx.assign rfl rfl (J.nil (N.seq (W.seq (W.seq (W.region (Jx.move rfl rfl (Jx.nilCheck rfl rfl ?_))))))))))
 (refine Jx.fieldAddr rfl rfl ?_)
 (refine Jx.load rfl 0 rfl rfl rfl ?_)
 (refine J.nil (N.seq (W.cF rfl ?_)))
 (refine W.skip (N.seq (W.seq (W.seq ?_))))
 (refine W.draw follows ?_)
 (refine JD.calm rfl (by decide +kernel) ?_)
 (refine Cx.move rfl rfl ?_)
 (refine Cx.lenS rfl rfl ?_)
 (refine Cx.move rfl rfl ?_)
 (refine Cx.nilCheck rfl rfl ?_)
 (refine Cx.fieldAddr rfl rfl ?_)
 (refine Cx.load rfl 0 rfl rfl rfl ?_)
 (refine Cx.move rfl rfl ?_)
 (refine Cx.nilCheck rfl rfl ?_)
 (refine Cx.fieldAddr rfl rfl ?_)
 (refine Cx.load rfl 0 rfl rfl rfl ?_)
 (refine Cx.lenSl rfl rfl ?_)
 (refine Cx.sub64 rfl rfl (by omega) rfl ?_)
 (refine Cx.gtrI rfl rfl rfl ?_)
 (refine SegC.nil ?_)
 (refine N.seq (W.cT rfl ?_))
 (refine W.seq (W.region (Jx.assign rfl rfl (J.nil (N.seq (W.ret (N.noGotoRet ?_)))))))
 (refine id ?_; rotate_left))
      refine N.ret (rs := [.tmp 4]) rfl (.tmp rfl .nil) ?_
      simp [oneOr, Dk.append, hd, h1]
    · by_cases h0 : d.fuse = 0
      · focus (
 (refine W.seq (W.region (Jx.assign rfl rfl (J.nil (N.seq (W.seq (W.seq (W.region (Jx.move rfl rfl (Jx.nilCheck rfl rfl ?_))))))))))
 (refine Jx.fieldAddr rfl rfl ?_)
 (refine Jx.load rfl 0 rfl rfl rfl ?_)
 (refine J.nil (N.seq (W.cF rfl ?_)))
 (refine W.skip (N.seq (W.seq (W.seq ?_))))
 (refine W.draw follows ?_)
 (refine JD.calm rfl (by decide +kernel) ?_)
 (refine Cx.move rfl rfl ?_)
 (refine Cx.lenS rfl rfl ?_)
 (refine Cx.move rfl rfl ?_)
 (refine Cx.nilCheck rfl rfl ?_)
 (refine Cx.fieldAddr rfl rfl ?_)
 (refine Cx.load rfl 0 rfl rfl rfl ?_)
 (refine Cx.move rfl rfl ?_)
 (refine Cx.nilCheck rfl rfl ?_)
 (refine Cx.fieldAddr rfl rfl ?_)
 (refine Cx.load rfl 0 rfl rfl rfl ?_)
 (refine Cx.lenSl rfl rfl ?_)
 (refine Cx.sub64 rfl rfl (by omega) rfl ?_)
 (refine Cx.gtrI rfl rfl rfl ?_)
 (refine SegC.nil ?_)
 (refine N.seq (W.cF rfl ?_))
 (refine W.skip (N.seq (W.seq (W.seq (W.region (Jx.move rfl rfl ?_))))))
 (refine J.call (change_dead b d h0) rfl (.cons rfl .nil) rfl ?_; rintro _ _ ⟨rfl, rfl⟩; simp only [la1, la2, la3])
 (refine Jx.assign rfl rfl (J.nil (N.seq (W.seq (W.region (Jx.move rfl rfl (Jx.neqI rfl rfl rfl (J.nil (N.seq (W.cT rfl ?_))))))))))
 (refine W.seq (W.region (Jx.move rfl rfl (Jx.assign rfl rfl (J.nil (N.seq (W.ret (N.noGotoRet ?_))))))))
 (refine id ?_; rotate_left))
        refine N.ret (rs := [.tmp 4]) rfl (.tmp rfl .nil) ?_
        simp [oneOr, Dk.append, hd, h0, h1]
      · focus (
 (refine W.seq (W.region (Jx.assign rfl rfl (J.nil (N.seq (W.seq (W.seq (W.region (Jx.move rfl rfl (Jx.nilCheck rfl rfl ?_))))))))))
 (refine Jx.fieldAddr rfl rfl ?_)
 (refine Jx.load rfl 0 rfl rfl rfl ?_)
 (refine J.nil (N.seq (W.cF rfl ?_)))
 (refine W.skip (N.seq (W.seq (W.seq ?_))))
 (refine W.draw follows ?_)
 (refine JD.calm rfl (by decide +kernel) ?_)
 (refine Cx.move rfl rfl ?_)
 (refine Cx.lenS rfl rfl ?_)
 (refine Cx.move rfl rfl ?_)
 (refine Cx.nilCheck rfl rfl ?_)
 (refine Cx.fieldAddr rfl rfl ?_)
 (refine Cx.load rfl 0 rfl rfl rfl ?_)
 (refine Cx.move rfl rfl ?_)
 (refine Cx.nilCheck rfl rfl ?_)
 (refine Cx.fieldAddr rfl rfl ?_)
 (refine Cx.load rfl 0 rfl rfl rfl ?_)
 (refine Cx.lenSl rfl rfl ?_)
 (refine Cx.sub64 rfl rfl (by omega) rfl ?_)
 (refine Cx.gtrI rfl rfl rfl ?_)
 (refine SegC.nil ?_)
 (refine N.seq (W.cF rfl ?_))
 (refine W.skip (N.seq (W.seq (W.seq (W.region (Jx.move rfl rfl ?_))))))
 (refine J.call (change_live b d h h0) rfl (.cons rfl .nil) rfl ?_; rintro _ _ ⟨rfl, rfl⟩; simp only [la1, la2, la3])
 (refine Jx.assign rfl rfl (J.nil (N.seq (W.seq (W.region (Jx.move rfl rfl (Jx.neqI rfl rfl rfl (J.nil (N.seq (W.cF rfl ?_))))))))))
 (refine W.skip (N.seq (W.seq (W.region (Jx.move rfl rfl (Jx.nilCheck rfl rfl ?_))))))
 (refine Jx.fieldAddr rfl rfl ?_)
 (refine Jx.load rfl 0 rfl rfl rfl ?_)
 (refine Jx.lenSl rfl rfl ?_)
 (refine Jx.assign rfl rfl (J.nil (N.seq (W.seq (W.region (Jx.move rfl rfl (Jx.move rfl rfl (Jx.nilCheck rfl rfl ?_))))))))
 (refine Jx.fieldAddr rfl rfl ?_)
 (refine Jx.load rfl 0 rfl rfl rfl ?_)
 (refine Jx.move rfl rfl (Jx.move rfl rfl (Jx.clip rfl rfl rfl (by omega) (by simp only [Dk.burn]; omega) rfl ?_)))
 (refine Jx.move rfl rfl ?_)
 (refine J.qs (Qs.appendClip (elOf encB 0 (d.bytes ++ s)) (d.bytes ++ s).length rfl (SrcOK.str rfl) rfl rfl (by decide) (by simp only [maxLen, Dk.burn]; omega) (by simp only [Dk.burn]; omega) (by simp [Dk.burn]) (fun i hi => elOf_append_left _ _ _ _ _ (by simpa [Dk.burn] using hi)) (fun i hi => elOf_append_right _ _ _ _ _)) rfl ?_)
 (refine Jx.nilCheck rfl rfl ?_)
 (refine Jx.fieldAddr rfl rfl ?_)
 (refine J.st 0 rfl rfl rfl rfl rfl rfl ?_)
 (refine J.nil (N.seq (W.seq (W.region (Jx.assign rfl rfl (J.nil (N.seq (W.ret ?_))))))))
 (refine id ?_; rotate_left))
        refine N.ret (rs := [.tmp 4]) rfl (.tmp rfl .nil) ?_
        simp [oneOr, Dk.append, hd, h0, h1, Dk.burn]
end Go.Proofs.YtbdkenlkimiddaaDoor.Dsk
namespace Go.Proofs.YtbdkenlkimiddaaDoor.Dsk
open Go Go.Sse
set_option linter.unusedVariables false
set_option linter.unusedSimpArgs false
set_option maxRecDepth 10000
def Dk.fresh (room : Int) : Dk := ⟨[], 0, room, -1, false⟩
theorem nil_bsl : Sub (.val (.slice none 0 0)) (bsl []) := Sub.nil 1 _
theorem new_ok (room : Int) (h : 0 ≤ room ∧ room ≤ 1048576) : FnC Tryd.prog 12 [int room] [] (fun s L => ∃ b, s = .tup [ptr b, int 0] ∧ L = [dk b (Dk.fresh room)]) := by
  refine FnC.intro Tryd.func12 rfl Tryd.ntmps12 rfl fun Z w0 hG => ?_
  obtain ⟨h0, h1⟩ := h
  focus (
 (refine W.seq (W.region (Jx.assign rfl rfl (Jx.assign rfl rfl (J.nil (N.seq (W.seq (W.seq (W.region (Jx.move rfl rfl (Jx.lssI rfl rfl rfl (Jx.move rfl rfl (J.gY rfl rfl rfl ?_)))))))))))))
 (refine Jx.move rfl rfl (J.gY rfl rfl rfl ?_))
 (refine Jx.gtrI rfl rfl rfl (Jx.pF rfl rfl rfl ?_))
 (refine J.nil (N.seq (W.cF rfl ?_)))
 (refine W.skip (N.seq (W.seq (W.region (Jx.move rfl rfl (Jx.buildB rfl rfl rfl rfl rfl ?_))))))
 (refine J.boxAg rfl rfl ?_; intro b')
 (refine Jx.assign rfl rfl (Jx.assign rfl rfl (J.nil (N.seq (W.ret ?_)))))
 (refine id ?_; rotate_left))
  refine N.objSub 0 _ rfl (.cons nil_bsl (.cons (Sub.refl _) (.cons (Sub.refl _) (.cons (Sub.refl _) (.cons (Sub.refl _) .nil))))) rfl ?_
  exact N.ret (rs := [.tmp 2, .tmp 3]) rfl (.tmp rfl (.tmp rfl .nil)) ⟨_, rfl, rfl⟩
structure Dk.ok (d : Dk) : Prop where
  s0 : 0 ≤ d.safe
  s1 : d.safe ≤ d.bytes.length
  r : 0 ≤ d.room ∧ d.room ≤ 1048576
  b : (d.bytes.length : Int) ≤ d.room
  f : -1 ≤ d.fuse ∧ d.fuse ≤ 9223372036854775807
def Dk.left (d : Dk) (keep : Int) : Int := d.safe + (if (d.bytes.length - d.safe : Int) < (if (0 : Int) > keep then 0 else keep) then (d.bytes.length - d.safe : Int) else (if (0 : Int) > keep then 0 else keep))
def Dk.crash (d : Dk) (keep : Int) : Dk := ⟨d.bytes.take (d.left keep).toNat, d.left keep, d.room, -1, false⟩
theorem Dk.left_bd {d : Dk} (h : d.ok) (keep : Int) : d.safe ≤ d.left keep ∧ d.left keep ≤ d.bytes.length := by
  have h0 := h.s0; have h1 := h.s1
  unfold Dk.left
  split <;> split <;> omega
set_option maxHeartbeats 4000000 in
theorem crash_ok (b : Nat) (d : Dk) (h : d.ok) (keep : Int) : FnC Tryd.prog 16 [ptr b, int keep] [dk b d] (fun s L => L = [dk b (d.crash keep)]) := by
  refine FnC.intro Tryd.func16 rfl Tryd.ntmps16 rfl fun Z w0 hG => ?_
  obtain ⟨hl0, hl1⟩ := Dk.left_bd h keep
  have h0 := h.s0; have h1 := h.s1; have hr := h.r; have hb := h.b
  focus (
 (refine W.seq ?_)
 (refine W.draw follows ?_)
 (refine JD.calm rfl (by decide +kernel) ?_)
 (refine Cx.move rfl rfl ?_)
 (refine Cx.nilCheck rfl rfl ?_)
 (refine Cx.fieldAddr rfl rfl ?_)
 (refine Cx.load rfl 0 rfl rfl rfl ?_)
 (refine Cx.lenSl rfl rfl ?_)
 (refine Cx.move rfl rfl ?_)
 (refine Cx.nilCheck rfl rfl ?_)
 (refine Cx.fieldAddr rfl rfl ?_)
 (refine Cx.load rfl 0 rfl rfl rfl ?_)
 (refine Cx.sub64 rfl rfl (by omega) rfl ?_)
 (refine Cx.assign rfl rfl ?_)
 (refine SegC.nil ?_)
 (refine N.seq (W.seq (W.region (Jx.move rfl rfl (Jx.nilCheck rfl rfl ?_)))))
 (refine Jx.fieldAddr rfl rfl ?_)
 (refine Jx.load rfl 0 rfl rfl rfl ?_)
 (refine Jx.move rfl rfl (Jx.max rfl rfl rfl ?_))
 (refine Jx.move rfl rfl (Jx.min rfl rfl rfl ?_))
 (refine Jx.add64 rfl rfl (by constructor <;> (unfold Dk.left at hl0 hl1; omega)) rfl ?_)
 (refine Jx.assign rfl rfl (J.nil (N.seq (W.seq (W.region (Jx.move rfl rfl (Jx.move rfl rfl (Jx.nilCheck rfl rfl ?_))))))))
 (refine Jx.fieldAddr rfl rfl ?_)
 (refine Jx.load rfl 0 rfl rfl rfl ?_)
 (refine Jx.move rfl rfl (Jx.move rfl rfl (Jx.clip rfl rfl rfl (show 0 ≤ d.left keep by omega) (show d.left keep ≤ _ from hl1) rfl ?_)))
 (refine Jx.nilCheck rfl rfl ?_)
 (refine Jx.fieldAddr rfl rfl ?_)
 (refine J.st 0 rfl rfl rfl rfl rfl rfl ?_)
 (refine J.nil (N.seq (W.region (Jx.move rfl rfl (Jx.move rfl rfl (Jx.move rfl rfl (Jx.move rfl rfl (Jx.nilCheck rfl rfl ?_))))))))
 (refine Jx.fieldAddr rfl rfl ?_)
 (refine J.st 0 rfl rfl rfl rfl rfl rfl ?_)
 (refine Jx.nilCheck rfl rfl ?_)
 (refine Jx.fieldAddr rfl rfl ?_)
 (refine J.st 0 rfl rfl rfl rfl rfl rfl ?_)
 (refine Jx.nilCheck rfl rfl ?_)
 (refine Jx.fieldAddr rfl rfl ?_)
 (refine J.st 0 rfl rfl rfl rfl rfl rfl ?_)
 (refine J.nil ?_)
 (refine id ?_; rotate_left))
  refine N.objSub 0 _ rfl (.cons (slc_take d.bytes (d.left keep).toNat (by omega)) (.cons (Sub.refl _) (.cons (Sub.refl _) (.cons (Sub.refl _) (.cons (Sub.refl _) .nil))))) rfl ?_
  exact N.fin (rs := []) rfl .nil rfl
end Go.Proofs.YtbdkenlkimiddaaDoor.Dsk
namespace Go.Proofs.YtbdkenlkimiddaaDoor.Dsk
open Go Go.Sse
set_option linter.unusedVariables false
set_option linter.unusedSimpArgs false
set_option maxRecDepth 10000
theorem ref0 {F : List (Nat × SV)} {i : Nat} {s : SV} (h : Sse.look F i = some s) : ∃ t, Sse.look F i = some t ∧ Sub t s := ⟨s, h, .refl _⟩
structure Act where
  k : Int
  n : Int
  s : List UInt8
def Dk.fused (d : Dk) (n : Int) : Dk := { d with fuse := if -1 > n then -1 else n }
theorem Dk.ok.burn {d : Dk} (h : d.ok) : d.burn.ok := by
  obtain ⟨s0, s1, r, b, f⟩ := h
  refine ⟨s0, s1, r, b, ?_⟩
  simp only [Dk.burn]; split <;> omega
theorem Dk.ok.append {d : Dk} (h : d.ok) (s : List UInt8) : (d.append s).2.ok := by
  have hb := h.burn
  unfold Dk.append
  split
  · exact h
  split
  · exact h
  split
  · exact ⟨h.s0, h.s1, h.r, h.b, h.f⟩
  · have := h.s1; have := h.b
    refine ⟨h.s0, ?_, h.r, ?_, hb.f⟩
    · simp only [List.length_append, Dk.burn]; omega
    · simp only [List.length_append, Dk.burn]; omega
theorem Dk.ok.sync {d : Dk} (h : d.ok) : d.sync.2.ok := by
  have hb := h.burn
  unfold Dk.sync
  split
  · exact h
  split
  · exact ⟨h.s0, h.s1, h.r, h.b, h.f⟩
  · exact ⟨by simp [Dk.burn], by simp [Dk.burn], h.r, h.b, hb.f⟩
theorem Dk.ok.cut {d : Dk} (h : d.ok) (n : Int) : (d.cut n).2.ok := by
  have hb := h.burn; have := h.s0; have := h.s1; have := h.b
  unfold Dk.cut
  split
  · exact h
  split
  · exact h
  split
  · exact ⟨h.s0, h.s1, h.r, h.b, h.f⟩
  · refine ⟨?_, ?_, h.r, ?_, hb.f⟩
    · simp only [Dk.burn]; split <;> omega
    · simp only [Dk.burn, List.length_take]; split <;> omega
    · simp only [Dk.burn, List.length_take]; omega
theorem Dk.ok.fused {d : Dk} (h : d.ok) {n : Int} (hn : n ≤ 9223372036854775807) : (d.fused n).ok := by
  refine ⟨h.s0, h.s1, h.r, h.b, ?_⟩
  simp only [Dk.fused]; split <;> omega
theorem Dk.fresh_ok {n : Int} (h : 0 ≤ n ∧ n ≤ 1048576) : (Dk.fresh n).ok := ⟨by simp [Dk.fresh], by simp [Dk.fresh], h, by simp [Dk.fresh, h.1], by simp [Dk.fresh]⟩
abbrev d0 : Dk := Dk.fresh 5000
end Go.Proofs.YtbdkenlkimiddaaDoor.Dsk
namespace Go.Proofs.YtbdkenlkimiddaaDoor.Dsk
open Go Go.Sse
set_option linter.unusedVariables false
set_option linter.unusedSimpArgs false
set_option maxRecDepth 10000
abbrev rf (d : Dk) : SV := .agg [str d.bytes, int d.safe, int d.room, int d.fuse, bool d.down]
abbrev tRk : Nat := 49
abbrev ag45 : TAg Tryd.prog tRk 5 := inferInstance
theorem burnt_dead (d : Dk) (h : d.fuse = 0) : FnC Tryd.prog 42 [rf d] [] (fun s L => s = .tup [rf d.dead, bool false] ∧ L = []) := by
  refine FnC.intro Tryd.func42 rfl Tryd.ntmps42 rfl fun Z w0 hG => ?_
  focus (
 (refine W.seq (W.region ?_))
 (refine J.boxAg rfl rfl ?_; intro b')
 (refine J.alloc (by simp only [List.map_cons, List.map_nil]; rfl) rfl rfl ?_; intro b')
 (refine Jx.assign rfl rfl (J.nil (N.seq (W.seq (W.seq (W.region (Jx.fieldAddr rfl rfl ?_)))))))
 (refine Jx.load rfl 1 rfl rfl rfl ?_)
 (refine Jx.eqlI rfl rfl rfl (J.nil (N.seq (W.cT rfl ?_))))
 (refine W.seq (W.region (Jx.fieldAddr rfl rfl ?_)))
 (refine J.st 1 rfl rfl rfl rfl rfl rfl ?_)
 (refine J.nil (N.seq (W.seq (W.region (Jx.loadAll rfl 1 rfl rfl rfl ?_)))))
 (refine J.storeAll rfl rfl rfl 0 rfl rfl rfl ?_)
 (refine Jx.assign rfl rfl (J.nil (N.seq (W.ret (N.noGotoRet ?_)))))
 (refine id ?_; rotate_left))
  exact N.retD (rs := [.cell 2 tRk, .tmp 3]) (L1 := []) rfl (.cell rfl 0 rfl ag45 (.tmp rfl .nil)) (List.nil_sublist _) ⟨rfl, rfl⟩
theorem burnt_live (d : Dk) (h : ¬ d.fuse = 0) (hm : d.fuse ≤ 9223372036854775807) : FnC Tryd.prog 42 [rf d] [] (fun s L => s = .tup [rf d.burn, bool true] ∧ L = []) := by
  refine FnC.intro Tryd.func42 rfl Tryd.ntmps42 rfl fun Z w0 hG => ?_
  by_cases h1 : 0 < d.fuse
  · focus (
 (refine W.seq (W.region ?_))
 (refine J.boxAg rfl rfl ?_; intro b')
 (refine J.alloc (by simp only [List.map_cons, List.map_nil]; rfl) rfl rfl ?_; intro b')
 (refine Jx.assign rfl rfl (J.nil (N.seq (W.seq (W.seq (W.region (Jx.fieldAddr rfl rfl ?_)))))))
 (refine Jx.load rfl 1 rfl rfl rfl ?_)
 (refine Jx.eqlI rfl rfl rfl (J.nil (N.seq (W.cF rfl ?_))))
 (refine W.skip (N.seq (W.seq (W.seq (W.region (Jx.fieldAddr rfl rfl ?_))))))
 (refine Jx.load rfl 1 rfl rfl rfl ?_)
 (refine Jx.gtrI rfl rfl rfl (J.nil (N.seq (W.cT rfl ?_))))
 (refine W.region (Jx.fieldAddr rfl rfl ?_))
 (refine Jx.load rfl 1 rfl rfl rfl ?_)
 (refine Jx.sub64 rfl rfl (by omega) rfl ?_)
 (refine Jx.fieldAddr rfl rfl ?_)
 (refine J.st 1 rfl rfl rfl rfl rfl rfl ?_)
 (refine J.nil (N.seq (W.seq (W.region (Jx.loadAll rfl 1 rfl rfl rfl ?_)))))
 (refine J.storeAll rfl rfl rfl 0 rfl rfl rfl ?_)
 (refine Jx.assign rfl rfl (J.nil (N.seq (W.ret ?_))))
 (refine id ?_; rotate_left))
    refine N.retD (rs := [.cell 2 tRk, .tmp 3]) (L1 := []) rfl (.cell rfl 0 rfl ag45 (.tmp rfl .nil)) (List.nil_sublist _) ⟨?_, rfl⟩
    simp [oneOr, Dk.burn, h1]
  · focus (
 (refine W.seq (W.region ?_))
 (refine J.boxAg rfl rfl ?_; intro b')
 (refine J.alloc (by simp only [List.map_cons, List.map_nil]; rfl) rfl rfl ?_; intro b')
 (refine Jx.assign rfl rfl (J.nil (N.seq (W.seq (W.seq (W.region (Jx.fieldAddr rfl rfl ?_)))))))
 (refine Jx.load rfl 1 rfl rfl rfl ?_)
 (refine Jx.eqlI rfl rfl rfl (J.nil (N.seq (W.cF rfl ?_))))
 (refine W.skip (N.seq (W.seq (W.seq (W.region (Jx.fieldAddr rfl rfl ?_))))))
 (refine Jx.load rfl 1 rfl rfl rfl ?_)
 (refine Jx.gtrI rfl rfl rfl (J.nil (N.seq (W.cF rfl ?_))))
 (refine W.skip (N.seq (W.seq (W.region (Jx.loadAll rfl 1 rfl rfl rfl ?_)))))
 (refine J.storeAll rfl rfl rfl 0 rfl rfl rfl ?_)
 (refine Jx.assign rfl rfl (J.nil (N.seq (W.ret ?_))))
 (refine id ?_; rotate_left))
    refine N.retD (rs := [.cell 2 tRk, .tmp 3]) (L1 := []) rfl (.cell rfl 0 rfl ag45 (.tmp rfl .nil)) (List.nil_sublist _) ⟨?_, rfl⟩
    simp [oneOr, Dk.burn, h1]
theorem rnew_ok (room : Int) (h : 0 ≤ room ∧ room ≤ 1048576) : FnC Tryd.prog 18 [int room] [] (fun s L => s = .tup [rf (Dk.fresh room), int 0] ∧ L = []) := by
  refine FnC.intro Tryd.func18 rfl Tryd.ntmps18 rfl fun Z w0 hG => ?_
  obtain ⟨h0, h1⟩ := h
  focus (
 (refine W.seq (W.region ?_))
 (refine J.alloc (by simp only [List.map_cons, List.map_nil]; rfl) rfl rfl ?_; intro b')
 (refine Jx.assign rfl rfl (J.nil (N.seq (W.seq (W.seq (W.region (Jx.move rfl rfl (Jx.lssI rfl rfl rfl (Jx.move rfl rfl (J.gY rfl rfl rfl ?_))))))))))
 (refine Jx.move rfl rfl (J.gY rfl rfl rfl ?_))
 (refine Jx.gtrI rfl rfl rfl (Jx.pF rfl rfl rfl ?_))
 (refine J.nil (N.seq (W.cF rfl ?_)))
 (refine W.skip (N.seq (W.seq (W.region (Jx.move rfl rfl (Jx.buildB rfl rfl rfl rfl rfl ?_))))))
 (refine J.storeAll rfl rfl rfl 0 rfl rfl rfl ?_)
 (refine Jx.assign rfl rfl (J.nil (N.seq (W.ret ?_))))
 (refine id ?_; rotate_left))
  exact N.retD (rs := [.cell 2 tRk, .tmp 3]) (L1 := []) rfl (.cell rfl 0 rfl ag45 (.tmp rfl .nil)) (List.nil_sublist _) ⟨rfl, rfl⟩
theorem rappend_ok (d : Dk) (h : d.ok) (s : List UInt8) (hs : s.length ≤ 1048576) : FnC Tryd.prog 26 [rf d, str s] [] (fun r L => r = .tup [rf (d.append s).2, int (d.append s).1] ∧ L = []) := by
  refine FnC.intro Tryd.func26 rfl Tryd.ntmps26 rfl fun Z w0 hG => ?_
  have hr := h.r; have hb := h.b; have hf := h.f
  by_cases hd : d.down = true
  · focus (
 (refine W.seq (W.region ?_))
 (refine J.boxAg rfl rfl ?_; intro b')
 (refine J.alloc (by simp only [List.map_cons, List.map_nil]; rfl) rfl rfl ?_; intro b')
 (refine Jx.assign rfl rfl (J.nil (N.seq (W.seq (W.seq (W.region (Jx.fieldAddr rfl rfl ?_)))))))
 (refine Jx.load rfl 1 rfl rfl rfl ?_)
 (refine J.nil (N.seq (W.cT rfl ?_)))
 (refine W.seq (W.region (Jx.loadAll rfl 1 rfl rfl rfl ?_)))
 (refine J.storeAll rfl rfl rfl 0 rfl rfl rfl ?_)
 (refine Jx.assign rfl rfl (J.nil (N.seq (W.ret (N.noGotoRet ?_)))))
 (refine id ?_; rotate_left))
    refine N.retD (rs := [.cell 4 tRk, .tmp 5]) (L1 := []) rfl (.cell rfl 0 rfl ag45 (.tmp rfl .nil)) (List.nil_sublist _) ⟨?_, rfl⟩
    simp [oneOr, Dk.append, hd]
  · have hd : d.down = false := by simpa using hd
    by_cases h1 : d.room - d.bytes.length < s.length
    · have h1' : d.room < (d.bytes.length : Int) + s.length := by omega
      focus (
 (refine W.seq (W.region ?_))
 (refine J.boxAg rfl rfl ?_; intro b')
 (refine J.alloc (by simp only [List.map_cons, List.map_nil]; rfl) rfl rfl ?_; intro b')
 (refine Jx.assign rfl rfl (J.nil (N.seq (W.seq (W.seq (W.region (Jx.fieldAddr rfl rfl ?_)))))))
 (refine Jx.load rfl 1 rfl rfl rfl ?_)
 (refine J.nil (N.seq (W.cF rfl ?_)))
 (refine W.skip (N.seq (W.seq (W.seq (W.region (Jx.fieldAddr rfl rfl ?_))))))
 (refine Jx.load rfl 1 rfl rfl rfl ?_)
 (refine Jx.lenS rfl rfl ?_)
 (refine Jx.move rfl rfl (Jx.lenS rfl rfl ?_))
 (refine Jx.add64 rfl rfl (by omega) rfl ?_)
 (refine Jx.fieldAddr rfl rfl ?_)
 (refine Jx.load rfl 1 rfl rfl rfl ?_)
 (refine Jx.gtrI rfl rfl rfl (J.nil (N.seq (W.cT rfl ?_))))
 (refine W.seq (W.region (Jx.loadAll rfl 1 rfl rfl rfl ?_)))
 (refine J.storeAll rfl rfl rfl 0 rfl rfl rfl ?_)
 (refine Jx.assign rfl rfl (J.nil (N.seq (W.ret (N.noGotoRet ?_)))))
 (refine id ?_; rotate_left))
      refine N.retD (rs := [.cell 4 tRk, .tmp 5]) (L1 := []) rfl (.cell rfl 0 rfl ag45 (.tmp rfl .nil)) (List.nil_sublist _) ⟨?_, rfl⟩
      simp [oneOr, Dk.append, hd, h1]
    · have h1' : ¬ d.room < (d.bytes.length : Int) + s.length := by omega
      by_cases h0 : d.fuse = 0
      · focus (
 (refine W.seq (W.region ?_))
 (refine J.boxAg rfl rfl ?_; intro b')
 (refine J.alloc (by simp only [List.map_cons, List.map_nil]; rfl) rfl rfl ?_; intro b')
 (refine Jx.assign rfl rfl (J.nil (N.seq (W.seq (W.seq (W.region (Jx.fieldAddr rfl rfl ?_)))))))
 (refine Jx.load rfl 1 rfl rfl rfl ?_)
 (refine J.nil (N.seq (W.cF rfl ?_)))
 (refine W.skip (N.seq (W.seq (W.seq (W.region (Jx.fieldAddr rfl rfl ?_))))))
 (refine Jx.load rfl 1 rfl rfl rfl ?_)
 (refine Jx.lenS rfl rfl ?_)
 (refine Jx.move rfl rfl (Jx.lenS rfl rfl ?_))
 (refine Jx.add64 rfl rfl (by omega) rfl ?_)
 (refine Jx.fieldAddr rfl rfl ?_)
 (refine Jx.load rfl 1 rfl rfl rfl ?_)
 (refine Jx.gtrI rfl rfl rfl (J.nil (N.seq (W.cF rfl ?_))))
 (refine W.skip (N.seq (W.seq (W.region (Jx.loadAll rfl 1 rfl rfl rfl ?_)))))
 (refine J.call (burnt_dead d h0) rfl (.cons rfl .nil) rfl ?_; rintro _ _ ⟨rfl, rfl⟩; simp only [la1, la2, la3])
 (refine Jx.move rfl rfl (Jx.extract rfl rfl rfl ?_))
 (refine Jx.extract rfl rfl rfl ?_)
 (refine J.storeAll rfl rfl rfl 1 rfl rfl rfl ?_)
 (refine Jx.assign rfl rfl (J.nil (N.seq (W.seq (W.seq (W.region (Jx.move rfl rfl (Jx.not rfl rfl (J.nil (N.seq (W.cT rfl ?_)))))))))))
 (refine W.seq (W.region (Jx.loadAll rfl 1 rfl rfl rfl ?_)))
 (refine J.storeAll rfl rfl rfl 0 rfl rfl rfl ?_)
 (refine Jx.assign rfl rfl (J.nil (N.seq (W.ret (N.noGotoRet ?_)))))
 (refine id ?_; rotate_left))
        refine N.retD (rs := [.cell 4 tRk, .tmp 5]) (L1 := []) rfl (.cell rfl 0 rfl ag45 (.tmp rfl .nil)) (List.nil_sublist _) ⟨?_, rfl⟩
        simp [oneOr, Dk.append, hd, h0, h1]
      · focus (
 (refine W.seq (W.region ?_))
 (refine J.boxAg rfl rfl ?_; intro b')
 (refine J.alloc (by simp only [List.map_cons, List.map_nil]; rfl) rfl rfl ?_; intro b')
 (refine Jx.assign rfl rfl (J.nil (N.seq (W.seq (W.seq (W.region (Jx.fieldAddr rfl rfl ?_)))))))
 (refine Jx.load rfl 1 rfl rfl rfl ?_)
 (refine J.nil (N.seq (W.cF rfl ?_)))
 (refine W.skip (N.seq (W.seq (W.seq (W.region (Jx.fieldAddr rfl rfl ?_))))))
 (refine Jx.load rfl 1 rfl rfl rfl ?_)
 (refine Jx.lenS rfl rfl ?_)
 (refine Jx.move rfl rfl (Jx.lenS rfl rfl ?_))
 (refine Jx.add64 rfl rfl (by omega) rfl ?_)
 (refine Jx.fieldAddr rfl rfl ?_)
 (refine Jx.load rfl 1 rfl rfl rfl ?_)
 (refine Jx.gtrI rfl rfl rfl (J.nil (N.seq (W.cF rfl ?_))))
 (refine W.skip (N.seq (W.seq (W.region (Jx.loadAll rfl 1 rfl rfl rfl ?_)))))
 (refine J.call (burnt_live d h0 hf.2) rfl (.cons rfl .nil) rfl ?_; rintro _ _ ⟨rfl, rfl⟩; simp only [la1, la2, la3])
 (refine Jx.move rfl rfl (Jx.extract rfl rfl rfl ?_))
 (refine Jx.extract rfl rfl rfl ?_)
 (refine J.storeAll rfl rfl rfl 1 rfl rfl rfl ?_)
 (refine Jx.assign rfl rfl (J.nil (N.seq (W.seq (W.seq (W.region (Jx.move rfl rfl (Jx.not rfl rfl (J.nil (N.seq (W.cF rfl ?_)))))))))))
 (refine W.skip (N.seq (W.seq (W.region (Jx.fieldAddr rfl rfl ?_)))))
 (refine Jx.load rfl 1 rfl rfl rfl ?_)
 (refine Jx.move rfl rfl (Jx.cat rfl rfl (by simp only [maxLen, Dk.burn]; omega) rfl ?_))
 (refine Jx.fieldAddr rfl rfl ?_)
 (refine J.st 1 rfl rfl rfl rfl rfl rfl ?_)
 (refine J.nil (N.seq (W.seq (W.region (Jx.loadAll rfl 1 rfl rfl rfl ?_)))))
 (refine J.storeAll rfl rfl rfl 0 rfl rfl rfl ?_)
 (refine Jx.assign rfl rfl (J.nil (N.seq (W.ret ?_))))
 (refine id ?_; rotate_left))
        refine N.retD (rs := [.cell 4 tRk, .tmp 5]) (L1 := []) rfl (.cell rfl 0 rfl ag45 (.tmp rfl .nil)) (List.nil_sublist _) ⟨?_, rfl⟩
        simp [oneOr, Dk.append, hd, h0, h1, Dk.burn]
theorem rsync_ok (d : Dk) (h : d.ok) : FnC Tryd.prog 39 [rf d] [] (fun r L => r = .tup [rf d.sync.2, int d.sync.1] ∧ L = []) := by
  refine FnC.intro Tryd.func39 rfl Tryd.ntmps39 rfl fun Z w0 hG => ?_
  have hf := h.f
  by_cases hd : d.down = true
  · focus (
 (refine W.seq (W.region ?_))
 (refine J.boxAg rfl rfl ?_; intro b')
 (refine J.alloc (by simp only [List.map_cons, List.map_nil]; rfl) rfl rfl ?_; intro b')
 (refine Jx.assign rfl rfl (J.nil (N.seq (W.seq (W.seq (W.region (Jx.fieldAddr rfl rfl ?_)))))))
 (refine Jx.load rfl 1 rfl rfl rfl ?_)
 (refine J.nil (N.seq (W.cT rfl ?_)))
 (refine W.seq (W.region (Jx.loadAll rfl 1 rfl rfl rfl ?_)))
 (refine J.storeAll rfl rfl rfl 0 rfl rfl rfl ?_)
 (refine Jx.assign rfl rfl (J.nil (N.seq (W.ret (N.noGotoRet ?_)))))
 (refine id ?_; rotate_left))
    refine N.retD (rs := [.cell 2 tRk, .tmp 3]) (L1 := []) rfl (.cell rfl 0 rfl ag45 (.tmp rfl .nil)) (List.nil_sublist _) ⟨?_, rfl⟩
    simp [oneOr, Dk.sync, hd]
  · have hd : d.down = false := by simpa using hd
    by_cases h0 : d.fuse = 0
    · focus (
 (refine W.seq (W.region ?_))
 (refine J.boxAg rfl rfl ?_; intro b')
 (refine J.alloc (by simp only [List.map_cons, List.map_nil]; rfl) rfl rfl ?_; intro b')
 (refine Jx.assign rfl rfl (J.nil (N.seq (W.seq (W.seq (W.region (Jx.fieldAddr rfl rfl ?_)))))))
 (refine Jx.load rfl 1 rfl rfl rfl ?_)
 (refine J.nil (N.seq (W.cF rfl ?_)))
 (refine W.skip (N.seq (W.seq (W.region (Jx.loadAll rfl 1 rfl rfl rfl ?_)))))
 (refine J.call (burnt_dead d h0) rfl (.cons rfl .nil) rfl ?_; rintro _ _ ⟨rfl, rfl⟩; simp only [la1, la2, la3])
 (refine Jx.move rfl rfl (Jx.extract rfl rfl rfl ?_))
 (refine Jx.extract rfl rfl rfl ?_)
 (refine J.storeAll rfl rfl rfl 1 rfl rfl rfl ?_)
 (refine Jx.assign rfl rfl (J.nil (N.seq (W.seq (W.seq (W.region (Jx.move rfl rfl (Jx.not rfl rfl (J.nil (N.seq (W.cT rfl ?_)))))))))))
 (refine W.seq (W.region (Jx.loadAll rfl 1 rfl rfl rfl ?_)))
 (refine J.storeAll rfl rfl rfl 0 rfl rfl rfl ?_)
 (refine Jx.assign rfl rfl (J.nil (N.seq (W.ret (N.noGotoRet ?_)))))
 (refine id ?_; rotate_left))
      refine N.retD (rs := [.cell 2 tRk, .tmp 3]) (L1 := []) rfl (.cell rfl 0 rfl ag45 (.tmp rfl .nil)) (List.nil_sublist _) ⟨?_, rfl⟩
      simp [oneOr, Dk.sync, hd, h0]
    · focus (
 (refine W.seq (W.region ?_))
 (refine J.boxAg rfl rfl ?_; intro b')
 (refine J.alloc (by simp only [List.map_cons, List.map_nil]; rfl) rfl rfl ?_; intro b')
 (refine Jx.assign rfl rfl (J.nil (N.seq (W.seq (W.seq (W.region (Jx.fieldAddr rfl rfl ?_)))))))
 (refine Jx.load rfl 1 rfl rfl rfl ?_)
 (refine J.nil (N.seq (W.cF rfl ?_)))
 (refine W.skip (N.seq (W.seq (W.region (Jx.loadAll rfl 1 rfl rfl rfl ?_)))))
 (refine J.call (burnt_live d h0 hf.2) rfl (.cons rfl .nil) rfl ?_; rintro _ _ ⟨rfl, rfl⟩; simp only [la1, la2, la3])
 (refine Jx.move rfl rfl (Jx.extract rfl rfl rfl ?_))
 (refine Jx.extract rfl rfl rfl ?_)
 (refine J.storeAll rfl rfl rfl 1 rfl rfl rfl ?_)
 (refine Jx.assign rfl rfl (J.nil (N.seq (W.seq (W.seq (W.region (Jx.move rfl rfl (Jx.not rfl rfl (J.nil (N.seq (W.cF rfl ?_)))))))))))
 (refine W.skip (N.seq (W.seq (W.region (Jx.fieldAddr rfl rfl ?_)))))
 (refine Jx.load rfl 1 rfl rfl rfl ?_)
 (refine Jx.lenS rfl rfl ?_)
 (refine Jx.fieldAddr rfl rfl ?_)
 (refine J.st 1 rfl rfl rfl rfl rfl rfl ?_)
 (refine J.nil (N.seq (W.seq (W.region (Jx.loadAll rfl 1 rfl rfl rfl ?_)))))
 (refine J.storeAll rfl rfl rfl 0 rfl rfl rfl ?_)
 (refine Jx.assign rfl rfl (J.nil (N.seq (W.ret ?_))))
 (refine id ?_; rotate_left))
      refine N.retD (rs := [.cell 2 tRk, .tmp 3]) (L1 := []) rfl (.cell rfl 0 rfl ag45 (.tmp rfl .nil)) (List.nil_sublist _) ⟨?_, rfl⟩
      simp [oneOr, Dk.sync, hd, h0, Dk.burn]
theorem rcut_ok (d : Dk) (h : d.ok) (n : Int) : FnC Tryd.prog 38 [rf d, int n] [] (fun r L => r = .tup [rf (d.cut n).2, int (d.cut n).1] ∧ L = []) := by
  refine FnC.intro Tryd.func38 rfl Tryd.ntmps38 rfl fun Z w0 hG => ?_
  have hf := h.f
  by_cases hd : d.down = true
  · focus (
 (refine W.seq (W.region ?_))
 (refine J.boxAg rfl rfl ?_; intro b')
 (refine J.alloc (by simp only [List.map_cons, List.map_nil]; rfl) rfl rfl ?_; intro b')
 (refine Jx.assign rfl rfl (J.nil (N.seq (W.seq (W.seq (W.region (Jx.fieldAddr rfl rfl ?_)))))))
 (refine Jx.load rfl 1 rfl rfl rfl ?_)
 (refine J.nil (N.seq (W.cT rfl ?_)))
 (refine W.seq (W.region (Jx.loadAll rfl 1 rfl rfl rfl ?_)))
 (refine J.storeAll rfl rfl rfl 0 rfl rfl rfl ?_)
 (refine Jx.assign rfl rfl (J.nil (N.seq (W.ret (N.noGotoRet ?_)))))
 (refine id ?_; rotate_left))
    refine N.retD (rs := [.cell 4 tRk, .tmp 5]) (L1 := []) rfl (.cell rfl 0 rfl ag45 (.tmp rfl .nil)) (List.nil_sublist _) ⟨?_, rfl⟩
    simp [oneOr, Dk.cut, hd]
  · have hd : d.down = false := by simpa using hd
    by_cases h1 : n < 0
    · focus (
 (refine W.seq (W.region ?_))
 (refine J.boxAg rfl rfl ?_; intro b')
 (refine J.alloc (by simp only [List.map_cons, List.map_nil]; rfl) rfl rfl ?_; intro b')
 (refine Jx.assign rfl rfl (J.nil (N.seq (W.seq (W.seq (W.region (Jx.fieldAddr rfl rfl ?_)))))))
 (refine Jx.load rfl 1 rfl rfl rfl ?_)
 (refine J.nil (N.seq (W.cF rfl ?_)))
 (refine W.skip (N.seq (W.seq (W.seq (W.region (Jx.move rfl rfl (Jx.lssI rfl rfl rfl (Jx.move rfl rfl (J.gN rfl rfl rfl rfl ?_)))))))))
 (refine J.gN rfl rfl rfl rfl ?_)
 (refine J.gN rfl rfl rfl rfl ?_)
 (refine J.gN rfl rfl rfl rfl ?_)
 (refine J.gN rfl rfl rfl rfl ?_)
 (refine Jx.pT rfl rfl rfl ?_)
 (refine J.nil (N.seq (W.cT rfl ?_)))
 (refine W.seq (W.region (Jx.loadAll rfl 1 rfl rfl rfl ?_)))
 (refine J.storeAll rfl rfl rfl 0 rfl rfl rfl ?_)
 (refine Jx.assign rfl rfl (J.nil (N.seq (W.ret (N.noGotoRet ?_)))))
 (refine id ?_; rotate_left))
      refine N.retD (rs := [.cell 4 tRk, .tmp 5]) (L1 := []) rfl (.cell rfl 0 rfl ag45 (.tmp rfl .nil)) (List.nil_sublist _) ⟨?_, rfl⟩
      simp [oneOr, Dk.cut, hd, h1]
    · by_cases h2 : (d.bytes.length : Int) < n
      · focus (
 (refine W.seq (W.region ?_))
 (refine J.boxAg rfl rfl ?_; intro b')
 (refine J.alloc (by simp only [List.map_cons, List.map_nil]; rfl) rfl rfl ?_; intro b')
 (refine Jx.assign rfl rfl (J.nil (N.seq (W.seq (W.seq (W.region (Jx.fieldAddr rfl rfl ?_)))))))
 (refine Jx.load rfl 1 rfl rfl rfl ?_)
 (refine J.nil (N.seq (W.cF rfl ?_)))
 (refine W.skip (N.seq (W.seq (W.seq (W.region (Jx.move rfl rfl (Jx.lssI rfl rfl rfl (Jx.move rfl rfl (J.gY rfl rfl rfl ?_)))))))))
 (refine Jx.move rfl rfl (J.gY rfl rfl rfl ?_))
 (refine Jx.fieldAddr rfl rfl ?_)
 (refine J.gY rfl rfl rfl ?_)
 (refine Jx.load rfl 1 rfl rfl rfl ?_)
 (refine J.gY rfl rfl rfl ?_)
 (refine Jx.lenS rfl rfl ?_)
 (refine J.gY rfl rfl rfl ?_)
 (refine Jx.gtrI rfl rfl rfl (Jx.pF rfl rfl rfl ?_))
 (refine J.nil (N.seq (W.cT rfl ?_)))
 (refine W.seq (W.region (Jx.loadAll rfl 1 rfl rfl rfl ?_)))
 (refine J.storeAll rfl rfl rfl 0 rfl rfl rfl ?_)
 (refine Jx.assign rfl rfl (J.nil (N.seq (W.ret (N.noGotoRet ?_)))))
 (refine id ?_; rotate_left))
        refine N.retD (rs := [.cell 4 tRk, .tmp 5]) (L1 := []) rfl (.cell rfl 0 rfl ag45 (.tmp rfl .nil)) (List.nil_sublist _) ⟨?_, rfl⟩
        simp [oneOr, Dk.cut, hd, h1, h2]
      · have h3 : ¬ (n < 0 ∨ (d.bytes.length : Int) < n) := by omega
        by_cases h0 : d.fuse = 0
        · focus (
 (refine W.seq (W.region ?_))
 (refine J.boxAg rfl rfl ?_; intro b')
 (refine J.alloc (by simp only [List.map_cons, List.map_nil]; rfl) rfl rfl ?_; intro b')
 (refine Jx.assign rfl rfl (J.nil (N.seq (W.seq (W.seq (W.region (Jx.fieldAddr rfl rfl ?_)))))))
 (refine Jx.load rfl 1 rfl rfl rfl ?_)
 (refine J.nil (N.seq (W.cF rfl ?_)))
 (refine W.skip (N.seq (W.seq (W.seq (W.region (Jx.move rfl rfl (Jx.lssI rfl rfl rfl (Jx.move rfl rfl (J.gY rfl rfl rfl ?_)))))))))
 (refine Jx.move rfl rfl (J.gY rfl rfl rfl ?_))
 (refine Jx.fieldAddr rfl rfl ?_)
 (refine J.gY rfl rfl rfl ?_)
 (refine Jx.load rfl 1 rfl rfl rfl ?_)
 (refine J.gY rfl rfl rfl ?_)
 (refine Jx.lenS rfl rfl ?_)
 (refine J.gY rfl rfl rfl ?_)
 (refine Jx.gtrI rfl rfl rfl (Jx.pF rfl rfl rfl ?_))
 (refine J.nil (N.seq (W.cF rfl ?_)))
 (refine W.skip (N.seq (W.seq (W.region (Jx.loadAll rfl 1 rfl rfl rfl ?_)))))
 (refine J.call (burnt_dead d h0) rfl (.cons rfl .nil) rfl ?_; rintro _ _ ⟨rfl, rfl⟩; simp only [la1, la2, la3])
 (refine Jx.move rfl rfl (Jx.extract rfl rfl rfl ?_))
 (refine Jx.extract rfl rfl rfl ?_)
 (refine J.storeAll rfl rfl rfl 1 rfl rfl rfl ?_)
 (refine Jx.assign rfl rfl (J.nil (N.seq (W.seq (W.seq (W.region (Jx.move rfl rfl (Jx.not rfl rfl (J.nil (N.seq (W.cT rfl ?_)))))))))))
 (refine W.seq (W.region (Jx.loadAll rfl 1 rfl rfl rfl ?_)))
 (refine J.storeAll rfl rfl rfl 0 rfl rfl rfl ?_)
 (refine Jx.assign rfl rfl (J.nil (N.seq (W.ret (N.noGotoRet ?_)))))
 (refine id ?_; rotate_left))
          refine N.retD (rs := [.cell 4 tRk, .tmp 5]) (L1 := []) rfl (.cell rfl 0 rfl ag45 (.tmp rfl .nil)) (List.nil_sublist _) ⟨?_, rfl⟩
          simp [oneOr, Dk.cut, hd, h0, h3]
        · by_cases h4 : n < d.safe
          · have h4' : n < d.burn.safe := h4
            focus (
 (refine W.seq (W.region ?_))
 (refine J.boxAg rfl rfl ?_; intro b')
 (refine J.alloc (by simp only [List.map_cons, List.map_nil]; rfl) rfl rfl ?_; intro b')
 (refine Jx.assign rfl rfl (J.nil (N.seq (W.seq (W.seq (W.region (Jx.fieldAddr rfl rfl ?_)))))))
 (refine Jx.load rfl 1 rfl rfl rfl ?_)
 (refine J.nil (N.seq (W.cF rfl ?_)))
 (refine W.skip (N.seq (W.seq (W.seq (W.region (Jx.move rfl rfl (Jx.lssI rfl rfl rfl (Jx.move rfl rfl (J.gY rfl rfl rfl ?_)))))))))
 (refine Jx.move rfl rfl (J.gY rfl rfl rfl ?_))
 (refine Jx.fieldAddr rfl rfl ?_)
 (refine J.gY rfl rfl rfl ?_)
 (refine Jx.load rfl 1 rfl rfl rfl ?_)
 (refine J.gY rfl rfl rfl ?_)
 (refine Jx.lenS rfl rfl ?_)
 (refine J.gY rfl rfl rfl ?_)
 (refine Jx.gtrI rfl rfl rfl (Jx.pF rfl rfl rfl ?_))
 (refine J.nil (N.seq (W.cF rfl ?_)))
 (refine W.skip (N.seq (W.seq (W.region (Jx.loadAll rfl 1 rfl rfl rfl ?_)))))
 (refine J.call (burnt_live d h0 hf.2) rfl (.cons rfl .nil) rfl ?_; rintro _ _ ⟨rfl, rfl⟩; simp only [la1, la2, la3])
 (refine Jx.move rfl rfl (Jx.extract rfl rfl rfl ?_))
 (refine Jx.extract rfl rfl rfl ?_)
 (refine J.storeAll rfl rfl rfl 1 rfl rfl rfl ?_)
 (refine Jx.assign rfl rfl (J.nil (N.seq (W.seq (W.seq (W.region (Jx.move rfl rfl (Jx.not rfl rfl (J.nil (N.seq (W.cF rfl ?_)))))))))))
 (refine W.skip (N.seq (W.seq (W.region (Jx.fieldAddr rfl rfl ?_)))))
 (refine Jx.load rfl 1 rfl rfl rfl ?_)
 (refine Jx.move rfl rfl (Jx.sliceSh rfl rfl (by omega) (by simp only [Dk.burn]; omega) rfl ?_))
 (refine Jx.fieldAddr rfl rfl ?_)
 (refine J.st 1 rfl rfl rfl rfl rfl rfl ?_)
 (refine J.nil (N.seq (W.seq (W.seq (W.region (Jx.fieldAddr rfl rfl ?_))))))
 (refine Jx.load rfl 1 rfl rfl rfl ?_)
 (refine Jx.move rfl rfl (Jx.gtrI rfl rfl rfl (J.nil (N.seq (W.cT rfl ?_)))))
 (refine W.region (Jx.move rfl rfl (Jx.fieldAddr rfl rfl ?_)))
 (refine J.st 1 rfl rfl rfl rfl rfl rfl ?_)
 (refine J.nil (N.seq (W.seq (W.region (Jx.loadAll rfl 1 rfl rfl rfl ?_)))))
 (refine J.storeAll rfl rfl rfl 0 rfl rfl rfl ?_)
 (refine Jx.assign rfl rfl (J.nil (N.seq (W.ret ?_))))
 (refine id ?_; rotate_left))
            refine N.retD (rs := [.cell 4 tRk, .tmp 5]) (L1 := []) rfl (.cell rfl 0 rfl ag45 (.tmp rfl .nil)) (List.nil_sublist _) ⟨?_, rfl⟩
            simp [oneOr, Dk.cut, hd, h0, h3, Dk.burn, h4]
          · have h4' : ¬ n < d.burn.safe := h4
            focus (
 (refine W.seq (W.region ?_))
 (refine J.boxAg rfl rfl ?_; intro b')
 (refine J.alloc (by simp only [List.map_cons, List.map_nil]; rfl) rfl rfl ?_; intro b')
 (refine Jx.assign rfl rfl (J.nil (N.seq (W.seq (W.seq (W.region (Jx.fieldAddr rfl rfl ?_)))))))
 (refine Jx.load rfl 1 rfl rfl rfl ?_)
 (refine J.nil (N.seq (W.cF rfl ?_)))
 (refine W.skip (N.seq (W.seq (W.seq (W.region (Jx.move rfl rfl (Jx.lssI rfl rfl rfl (Jx.move rfl rfl (J.gY rfl rfl rfl ?_)))))))))
 (refine Jx.move rfl rfl (J.gY rfl rfl rfl ?_))
 (refine Jx.fieldAddr rfl rfl ?_)
 (refine J.gY rfl rfl rfl ?_)
 (refine Jx.load rfl 1 rfl rfl rfl ?_)
 (refine J.gY rfl rfl rfl ?_)
 (refine Jx.lenS rfl rfl ?_)
 (refine J.gY rfl rfl rfl ?_)
 (refine Jx.gtrI rfl rfl rfl (Jx.pF rfl rfl rfl ?_))
 (refine J.nil (N.seq (W.cF rfl ?_)))
 (refine W.skip (N.seq (W.seq (W.region (Jx.loadAll rfl 1 rfl rfl rfl ?_)))))
 (refine J.call (burnt_live d h0 hf.2) rfl (.cons rfl .nil) rfl ?_; rintro _ _ ⟨rfl, rfl⟩; simp only [la1, la2, la3])
 (refine Jx.move rfl rfl (Jx.extract rfl rfl rfl ?_))
 (refine Jx.extract rfl rfl rfl ?_)
 (refine J.storeAll rfl rfl rfl 1 rfl rfl rfl ?_)
 (refine Jx.assign rfl rfl (J.nil (N.seq (W.seq (W.seq (W.region (Jx.move rfl rfl (Jx.not rfl rfl (J.nil (N.seq (W.cF rfl ?_)))))))))))
 (refine W.skip (N.seq (W.seq (W.region (Jx.fieldAddr rfl rfl ?_)))))
 (refine Jx.load rfl 1 rfl rfl rfl ?_)
 (refine Jx.move rfl rfl (Jx.sliceSh rfl rfl (by omega) (by simp only [Dk.burn]; omega) rfl ?_))
 (refine Jx.fieldAddr rfl rfl ?_)
 (refine J.st 1 rfl rfl rfl rfl rfl rfl ?_)
 (refine J.nil (N.seq (W.seq (W.seq (W.region (Jx.fieldAddr rfl rfl ?_))))))
 (refine Jx.load rfl 1 rfl rfl rfl ?_)
 (refine Jx.move rfl rfl (Jx.gtrI rfl rfl rfl (J.nil (N.seq (W.cF rfl ?_)))))
 (refine W.skip (N.seq (W.seq (W.region (Jx.loadAll rfl 1 rfl rfl rfl ?_)))))
 (refine J.storeAll rfl rfl rfl 0 rfl rfl rfl ?_)
 (refine Jx.assign rfl rfl (J.nil (N.seq (W.ret ?_))))
 (refine id ?_; rotate_left))
            refine N.retD (rs := [.cell 4 tRk, .tmp 5]) (L1 := []) rfl (.cell rfl 0 rfl ag45 (.tmp rfl .nil)) (List.nil_sublist _) ⟨?_, rfl⟩
            simp [oneOr, Dk.cut, hd, h0, h3, Dk.burn, h4]
theorem rfuse_ok (d : Dk) (n : Int) : FnC Tryd.prog 23 [rf d, int n] [] (fun r L => r = rf (d.fused n) ∧ L = []) := by
  refine FnC.intro Tryd.func23 rfl Tryd.ntmps23 rfl fun Z w0 hG => ?_
  by_cases h : n < -1
  · focus (
 (refine W.seq (W.region ?_))
 (refine J.boxAg rfl rfl ?_; intro b')
 (refine J.alloc (by simp only [List.map_cons, List.map_nil]; rfl) rfl rfl ?_; intro b')
 (refine J.nil (N.seq (W.seq (W.seq (W.region (Jx.move rfl rfl (Jx.lssI rfl rfl rfl (J.nil (N.seq (W.cT rfl ?_))))))))))
 (refine W.region (Jx.assign rfl rfl (J.nil (N.seq (W.seq (W.region (Jx.move rfl rfl (Jx.fieldAddr rfl rfl ?_))))))))
 (refine J.st 1 rfl rfl rfl rfl rfl rfl ?_)
 (refine J.nil (N.seq (W.seq (W.region (Jx.loadAll rfl 1 rfl rfl rfl ?_)))))
 (refine J.storeAll rfl rfl rfl 0 rfl rfl rfl ?_)
 (refine J.nil (N.seq (W.ret ?_)))
 (refine id ?_; rotate_left))
    refine N.retD (rs := [.cell 4 tRk]) (L1 := []) rfl (.cell rfl 0 rfl ag45 .nil) (List.nil_sublist _) ⟨?_, rfl⟩
    simp [oneOr, Dk.fused, h]
  · focus (
 (refine W.seq (W.region ?_))
 (refine J.boxAg rfl rfl ?_; intro b')
 (refine J.alloc (by simp only [List.map_cons, List.map_nil]; rfl) rfl rfl ?_; intro b')
 (refine J.nil (N.seq (W.seq (W.seq (W.region (Jx.move rfl rfl (Jx.lssI rfl rfl rfl (J.nil (N.seq (W.cF rfl ?_))))))))))
 (refine W.skip (N.seq (W.seq (W.region (Jx.move rfl rfl (Jx.fieldAddr rfl rfl ?_))))))
 (refine J.st 1 rfl rfl rfl rfl rfl rfl ?_)
 (refine J.nil (N.seq (W.seq (W.region (Jx.loadAll rfl 1 rfl rfl rfl ?_)))))
 (refine J.storeAll rfl rfl rfl 0 rfl rfl rfl ?_)
 (refine J.nil (N.seq (W.ret ?_)))
 (refine id ?_; rotate_left))
    refine N.retD (rs := [.cell 4 tRk]) (L1 := []) rfl (.cell rfl 0 rfl ag45 .nil) (List.nil_sublist _) ⟨?_, rfl⟩
    have h' : ¬ -1 > n := h
    simp only [oneOr, Dk.fused, if_neg h']; rfl
theorem rcrash_ok (d : Dk) (h : d.ok) (n : Int) : FnC Tryd.prog 24 [rf d, int n] [] (fun r L => r = rf (d.crash n) ∧ L = []) := by
  refine FnC.intro Tryd.func24 rfl Tryd.ntmps24 rfl fun Z w0 hG => ?_
  have h0 := h.s0; have h1 := h.s1; have hr := h.r; have hb := h.b
  obtain ⟨m, hm, hm0⟩ : ∃ m : Int, (if n < 0 then 0 else n) = m ∧ 0 ≤ m := ⟨_, rfl, by split <;> omega⟩
  have hleft : d.left n = if m < (d.bytes.length : Int) - d.safe then d.safe + m else d.bytes.length := by
    subst hm; unfold Dk.left
    split <;> split <;> split <;> omega
  by_cases hneg : n < 0
  · have e : m = 0 := by rw [← hm, if_pos hneg]
    by_cases h2 : m < (d.bytes.length : Int) - d.safe
    · subst e
      rw [if_pos h2] at hleft
      focus (
 (refine W.seq (W.region ?_))
 (refine J.boxAg rfl rfl ?_; intro b')
 (refine J.alloc (by simp only [List.map_cons, List.map_nil]; rfl) rfl rfl ?_; intro b')
 (refine J.nil (N.seq (W.seq (W.seq (W.region (Jx.move rfl rfl (Jx.lssI rfl rfl rfl (J.nil (N.seq (W.cT rfl ?_))))))))))
 (refine W.region (Jx.assign rfl rfl (J.nil (N.seq (W.seq (W.seq (W.region (Jx.move rfl rfl (Jx.fieldAddr rfl rfl ?_)))))))))
 (refine Jx.load rfl 1 rfl rfl rfl ?_)
 (refine Jx.lenS rfl rfl ?_)
 (refine Jx.fieldAddr rfl rfl ?_)
 (refine Jx.load rfl 1 rfl rfl rfl ?_)
 (refine Jx.sub64 rfl rfl (by omega) rfl ?_)
 (refine Jx.lssI rfl rfl rfl (J.nil (N.seq (W.cT rfl ?_))))
 (refine W.region (Jx.fieldAddr rfl rfl ?_))
 (refine Jx.load rfl 1 rfl rfl rfl ?_)
 (refine Jx.fieldAddr rfl rfl ?_)
 (refine Jx.load rfl 1 rfl rfl rfl ?_)
 (refine Jx.move rfl rfl (Jx.add64 rfl rfl (by omega) rfl ?_))
 (refine Jx.sliceSh rfl rfl (by omega) (by omega) rfl ?_)
 (refine Jx.fieldAddr rfl rfl ?_)
 (refine J.st 1 rfl rfl rfl rfl rfl rfl ?_)
 (refine J.nil (N.seq (W.seq (W.region (Jx.fieldAddr rfl rfl ?_)))))
 (refine Jx.load rfl 1 rfl rfl rfl ?_)
 (refine Jx.fieldAddr rfl rfl ?_)
 (refine Jx.load rfl 1 rfl rfl rfl ?_)
 (refine Jx.lenS rfl rfl ?_)
 (refine Jx.fieldAddr rfl rfl ?_)
 (refine Jx.load rfl 1 rfl rfl rfl ?_)
 (refine Jx.buildB rfl rfl rfl rfl rfl ?_)
 (refine J.storeAll rfl rfl rfl 0 rfl rfl rfl ?_)
 (refine J.nil (N.seq (W.ret ?_)))
 (refine id ?_; rotate_left))
      refine N.retD (rs := [.cell 4 tRk]) (L1 := []) rfl (.cell rfl 0 rfl ag45 .nil) (List.nil_sublist _) ⟨?_, rfl⟩
      have : ((d.bytes.take (d.safe + 0).toNat).length : Int) = d.safe + 0 := by rw [List.length_take]; omega
      simp only [oneOr, Dk.crash, hleft, this]; rfl
    · subst e
      rw [if_neg h2] at hleft
      focus (
 (refine W.seq (W.region ?_))
 (refine J.boxAg rfl rfl ?_; intro b')
 (refine J.alloc (by simp only [List.map_cons, List.map_nil]; rfl) rfl rfl ?_; intro b')
 (refine J.nil (N.seq (W.seq (W.seq (W.region (Jx.move rfl rfl (Jx.lssI rfl rfl rfl (J.nil (N.seq (W.cT rfl ?_))))))))))
 (refine W.region (Jx.assign rfl rfl (J.nil (N.seq (W.seq (W.seq (W.region (Jx.move rfl rfl (Jx.fieldAddr rfl rfl ?_)))))))))
 (refine Jx.load rfl 1 rfl rfl rfl ?_)
 (refine Jx.lenS rfl rfl ?_)
 (refine Jx.fieldAddr rfl rfl ?_)
 (refine Jx.load rfl 1 rfl rfl rfl ?_)
 (refine Jx.sub64 rfl rfl (by omega) rfl ?_)
 (refine Jx.lssI rfl rfl rfl (J.nil (N.seq (W.cF rfl ?_))))
 (refine W.skip (N.seq (W.seq (W.region (Jx.fieldAddr rfl rfl ?_)))))
 (refine Jx.load rfl 1 rfl rfl rfl ?_)
 (refine Jx.fieldAddr rfl rfl ?_)
 (refine Jx.load rfl 1 rfl rfl rfl ?_)
 (refine Jx.lenS rfl rfl ?_)
 (refine Jx.fieldAddr rfl rfl ?_)
 (refine Jx.load rfl 1 rfl rfl rfl ?_)
 (refine Jx.buildB rfl rfl rfl rfl rfl ?_)
 (refine J.storeAll rfl rfl rfl 0 rfl rfl rfl ?_)
 (refine J.nil (N.seq (W.ret ?_)))
 (refine id ?_; rotate_left))
      refine N.retD (rs := [.cell 4 tRk]) (L1 := []) rfl (.cell rfl 0 rfl ag45 .nil) (List.nil_sublist _) ⟨?_, rfl⟩
      simp only [oneOr, Dk.crash, hleft, Int.toNat_natCast, List.take_length]; rfl
  · have e : m = n := by rw [← hm, if_neg hneg]
    by_cases h2 : m < (d.bytes.length : Int) - d.safe
    · subst e
      rw [if_pos h2] at hleft
      focus (
 (refine W.seq (W.region ?_))
 (refine J.boxAg rfl rfl ?_; intro b')
 (refine J.alloc (by simp only [List.map_cons, List.map_nil]; rfl) rfl rfl ?_; intro b')
 (refine J.nil (N.seq (W.seq (W.seq (W.region (Jx.move rfl rfl (Jx.lssI rfl rfl rfl (J.nil (N.seq (W.cF rfl ?_))))))))))
 (refine W.skip (N.seq (W.seq (W.seq (W.region (Jx.move rfl rfl (Jx.fieldAddr rfl rfl ?_)))))))
 (refine Jx.load rfl 1 rfl rfl rfl ?_)
 (refine Jx.lenS rfl rfl ?_)
 (refine Jx.fieldAddr rfl rfl ?_)
 (refine Jx.load rfl 1 rfl rfl rfl ?_)
 (refine Jx.sub64 rfl rfl (by omega) rfl ?_)
 (refine Jx.lssI rfl rfl rfl (J.nil (N.seq (W.cT rfl ?_))))
 (refine W.region (Jx.fieldAddr rfl rfl ?_))
 (refine Jx.load rfl 1 rfl rfl rfl ?_)
 (refine Jx.fieldAddr rfl rfl ?_)
 (refine Jx.load rfl 1 rfl rfl rfl ?_)
 (refine Jx.move rfl rfl (Jx.add64 rfl rfl (by omega) rfl ?_))
 (refine Jx.sliceSh rfl rfl (by omega) (by omega) rfl ?_)
 (refine Jx.fieldAddr rfl rfl ?_)
 (refine J.st 1 rfl rfl rfl rfl rfl rfl ?_)
 (refine J.nil (N.seq (W.seq (W.region (Jx.fieldAddr rfl rfl ?_)))))
 (refine Jx.load rfl 1 rfl rfl rfl ?_)
 (refine Jx.fieldAddr rfl rfl ?_)
 (refine Jx.load rfl 1 rfl rfl rfl ?_)
 (refine Jx.lenS rfl rfl ?_)
 (refine Jx.fieldAddr rfl rfl ?_)
 (refine Jx.load rfl 1 rfl rfl rfl ?_)
 (refine Jx.buildB rfl rfl rfl rfl rfl ?_)
 (refine J.storeAll rfl rfl rfl 0 rfl rfl rfl ?_)
 (refine J.nil (N.seq (W.ret ?_)))
 (refine id ?_; rotate_left))
      refine N.retD (rs := [.cell 4 tRk]) (L1 := []) rfl (.cell rfl 0 rfl ag45 .nil) (List.nil_sublist _) ⟨?_, rfl⟩
      have : ((d.bytes.take (d.safe + m).toNat).length : Int) = d.safe + m := by rw [List.length_take]; omega
      simp only [oneOr, Dk.crash, hleft, this]; rfl
    · subst e
      rw [if_neg h2] at hleft
      focus (
 (refine W.seq (W.region ?_))
 (refine J.boxAg rfl rfl ?_; intro b')
 (refine J.alloc (by simp only [List.map_cons, List.map_nil]; rfl) rfl rfl ?_; intro b')
 (refine J.nil (N.seq (W.seq (W.seq (W.region (Jx.move rfl rfl (Jx.lssI rfl rfl rfl (J.nil (N.seq (W.cF rfl ?_))))))))))
 (refine W.skip (N.seq (W.seq (W.seq (W.region (Jx.move rfl rfl (Jx.fieldAddr rfl rfl ?_)))))))
 (refine Jx.load rfl 1 rfl rfl rfl ?_)
 (refine Jx.lenS rfl rfl ?_)
 (refine Jx.fieldAddr rfl rfl ?_)
 (refine Jx.load rfl 1 rfl rfl rfl ?_)
 (refine Jx.sub64 rfl rfl (by omega) rfl ?_)
 (refine Jx.lssI rfl rfl rfl (J.nil (N.seq (W.cF rfl ?_))))
 (refine W.skip (N.seq (W.seq (W.region (Jx.fieldAddr rfl rfl ?_)))))
 (refine Jx.load rfl 1 rfl rfl rfl ?_)
 (refine Jx.fieldAddr rfl rfl ?_)
 (refine Jx.load rfl 1 rfl rfl rfl ?_)
 (refine Jx.lenS rfl rfl ?_)
 (refine Jx.fieldAddr rfl rfl ?_)
 (refine Jx.load rfl 1 rfl rfl rfl ?_)
 (refine Jx.buildB rfl rfl rfl rfl rfl ?_)
 (refine J.storeAll rfl rfl rfl 0 rfl rfl rfl ?_)
 (refine J.nil (N.seq (W.ret ?_)))
 (refine id ?_; rotate_left))
      refine N.retD (rs := [.cell 4 tRk]) (L1 := []) rfl (.cell rfl 0 rfl ag45 .nil) (List.nil_sublist _) ⟨?_, rfl⟩
      simp only [oneOr, Dk.crash, hleft, Int.toNat_natCast, List.take_length]; rfl
end Go.Proofs.YtbdkenlkimiddaaDoor.Dsk
namespace Go.Proofs.YtbdkenlkimiddaaDoor
open Go Go.Sse
set_option linter.unusedVariables false
set_option linter.unusedSimpArgs false
set_option maxRecDepth 10000
abbrev tJn : Nat := 75
abbrev jn (jb b : Nat) (br : Bool) : Own := .obj jb tJn [ptr b, bool br]
def openP (d : Dsk.Dk) : Int × Dsk.Dk :=
  if (scanP d.bytes).2 < d.bytes.length then (if (d.cut ((scanP d.bytes).2 : Int)).1 = 0 then (d.cut ((scanP d.bytes).2 : Int)).2.sync else d.cut ((scanP d.bytes).2 : Int)) else d.sync
def brk (e : Int) : Bool := decide (e ≠ 0) && decide (e ≠ 310)
def writeP (d : Dsk.Dk) (br : Bool) (b : Bt) : Int × Dsk.Dk × Bool :=
  if br = true then (320, d, true) else if okB b = true then
    (if (d.append (recB b)).1 = 0 then ((d.append (recB b)).2.sync.1, (d.append (recB b)).2.sync.2, brk (d.append (recB b)).2.sync.1)
      else ((d.append (recB b)).1, (d.append (recB b)).2, brk (d.append (recB b)).1)) else (2, d, false)
theorem Dsk.Dk.ok.opened {d : Dsk.Dk} (h : d.ok) : (openP d).2.ok := by
  unfold openP
  split
  · split
    · exact (h.cut _).sync
    · exact h.cut _
  · exact h.sync
theorem Dsk.Dk.ok.written {d : Dsk.Dk} (h : d.ok) (br : Bool) (b : Bt) : (writeP d br b).2.1.ok := by
  unfold writeP
  split
  · exact h
  · split
    · split
      · exact (h.append _).sync
      · exact h.append _
    · exact h
theorem ok_len {d : Dsk.Dk} (h : d.ok) : d.bytes.length ≤ 1048576 := by have := h.r; have := h.b; omega
set_option maxHeartbeats 4000000 in
theorem Open_good (b : Nat) (d : Dsk.Dk) (h : d.ok) (h0 : (openP d).1 = 0) : FnC Tryd.prog 13 [ptr b] [Dsk.dk b d] (fun s L => ∃ jb, s = .tup [ptr jb, btL (scanP d.bytes).1, int 0] ∧ L = [jn jb b false, Dsk.dk b (openP d).2]) := by
  have hl := ok_len h
  have c1 := Dsk.read_ok b d
  have c2 := Scan_ok d.bytes (by omega)
  have hw := whole_le d.bytes
  by_cases h1 : (scanP d.bytes).2 < d.bytes.length
  · have c3 := Dsk.cut_ok b d ((scanP d.bytes).2 : Int) h.f.2
    have hc := h.cut ((scanP d.bytes).2 : Int)
    have c4 := Dsk.sync_ok b (d.cut ((scanP d.bytes).2 : Int)).2 hc.f.2
    unfold openP at h0 ⊢
    rw [if_pos h1] at h0 ⊢
    by_cases h2 : (d.cut ((scanP d.bytes).2 : Int)).1 = 0
    · rw [if_pos h2] at h0 ⊢
      rw [h2] at c3
      rw [h0] at c4
      have h1' : ((scanP d.bytes).2 : Int) < (d.bytes.length : Int) := by omega
      refine FnC.intro Tryd.func13 rfl Tryd.ntmps13 rfl fun Z w0 hG => ?_
      focus (
 (refine W.seq (W.region (Jx.assign rfl rfl (Jx.assign rfl rfl (Jx.assign rfl rfl (J.nil (N.seq (W.seq (W.region (Jx.move rfl rfl ?_))))))))))
 (refine J.call (c1) rfl (evs_args rfl) rfl ?_; rintro _ _ ⟨rfl, rfl⟩; simp only [la1, la2, la3])
 (refine Jx.assign rfl rfl (J.nil (N.seq (W.seq (W.region (Jx.move rfl rfl ?_))))))
 (refine J.call (c2) rfl (evs_args rfl) rfl ?_; rintro _ _ ⟨rfl, rfl⟩; simp only [la1, la2, la3])
 (refine Jx.move rfl rfl (Jx.extract rfl rfl rfl ?_))
 (refine Jx.extract rfl rfl rfl ?_)
 (refine Jx.assign rfl rfl (Jx.assign rfl rfl (J.nil (N.seq (W.seq (W.seq (W.region (Jx.move rfl rfl (Jx.move rfl rfl (Jx.lenS rfl rfl ?_))))))))))
 (refine Jx.lssI rfl rfl rfl (J.nil (N.seq (W.cT rfl ?_))))
 (refine W.seq (W.region (Jx.move rfl rfl (Jx.move rfl rfl ?_))))
 (refine J.call (c3) rfl (evs_args rfl) rfl ?_; rintro _ _ ⟨rfl, rfl⟩; simp only [la1, la2, la3])
 (refine Jx.assign rfl rfl (J.nil (N.seq (W.seq (W.region (Jx.move rfl rfl (Jx.neqI rfl rfl rfl (J.nil (N.seq (W.cF rfl ?_))))))))))
 (refine W.skip (N.seq (W.seq (W.seq (W.region (Jx.move rfl rfl ?_))))))
 (refine J.call (c4) rfl (evs_args rfl) rfl ?_; rintro _ _ ⟨rfl, rfl⟩; simp only [la1, la2, la3])
 (refine Jx.assign rfl rfl (J.nil (N.seq (W.seq (W.region (Jx.move rfl rfl (Jx.neqI rfl rfl rfl (J.nil (N.seq (W.cF rfl ?_))))))))))
 (refine W.skip (N.seq (W.seq (W.region (Jx.move rfl rfl (Jx.buildB rfl rfl rfl rfl rfl ?_))))))
 (refine J.boxAg rfl rfl ?_; intro b')
 (refine Jx.move rfl rfl (Jx.assign rfl rfl (Jx.assign rfl rfl (Jx.assign rfl rfl (J.nil (N.seq (W.ret ?_)))))))
 (refine id ?_; rotate_left))
      exact N.ret (rs := [.tmp 2, .tmp 3, .tmp 4]) rfl (.tmp rfl (.tmp rfl (.tmp rfl .nil))) ⟨_, rfl, rfl⟩
    · rw [if_neg h2] at h0
      exact absurd h0 h2
  · have c4 := Dsk.sync_ok b d h.f.2
    unfold openP at h0 ⊢
    rw [if_neg h1] at h0 ⊢
    rw [h0] at c4
    have h1' : ¬ ((scanP d.bytes).2 : Int) < (d.bytes.length : Int) := by omega
    refine FnC.intro Tryd.func13 rfl Tryd.ntmps13 rfl fun Z w0 hG => ?_
    focus (
 (refine W.seq (W.region (Jx.assign rfl rfl (Jx.assign rfl rfl (Jx.assign rfl rfl (J.nil (N.seq (W.seq (W.region (Jx.move rfl rfl ?_))))))))))
 (refine J.call (c1) rfl (evs_args rfl) rfl ?_; rintro _ _ ⟨rfl, rfl⟩; simp only [la1, la2, la3])
 (refine Jx.assign rfl rfl (J.nil (N.seq (W.seq (W.region (Jx.move rfl rfl ?_))))))
 (refine J.call (c2) rfl (evs_args rfl) rfl ?_; rintro _ _ ⟨rfl, rfl⟩; simp only [la1, la2, la3])
 (refine Jx.move rfl rfl (Jx.extract rfl rfl rfl ?_))
 (refine Jx.extract rfl rfl rfl ?_)
 (refine Jx.assign rfl rfl (Jx.assign rfl rfl (J.nil (N.seq (W.seq (W.seq (W.region (Jx.move rfl rfl (Jx.move rfl rfl (Jx.lenS rfl rfl ?_))))))))))
 (refine Jx.lssI rfl rfl rfl (J.nil (N.seq (W.cF rfl ?_))))
 (refine W.skip (N.seq (W.seq (W.seq (W.region (Jx.move rfl rfl ?_))))))
 (refine J.call (c4) rfl (evs_args rfl) rfl ?_; rintro _ _ ⟨rfl, rfl⟩; simp only [la1, la2, la3])
 (refine Jx.assign rfl rfl (J.nil (N.seq (W.seq (W.region (Jx.move rfl rfl (Jx.neqI rfl rfl rfl (J.nil (N.seq (W.cF rfl ?_))))))))))
 (refine W.skip (N.seq (W.seq (W.region (Jx.move rfl rfl (Jx.buildB rfl rfl rfl rfl rfl ?_))))))
 (refine J.boxAg rfl rfl ?_; intro b')
 (refine Jx.move rfl rfl (Jx.assign rfl rfl (Jx.assign rfl rfl (Jx.assign rfl rfl (J.nil (N.seq (W.ret ?_)))))))
 (refine id ?_; rotate_left))
    exact N.ret (rs := [.tmp 2, .tmp 3, .tmp 4]) rfl (.tmp rfl (.tmp rfl (.tmp rfl .nil))) ⟨_, rfl, rfl⟩
set_option maxHeartbeats 4000000 in
theorem Open_bad (b : Nat) (d : Dsk.Dk) (h : d.ok) (h0 : (openP d).1 ≠ 0) : FnC Tryd.prog 13 [ptr b] [Dsk.dk b d] (fun s L => s = .tup [.val (.pointer none), btL [], int (openP d).1] ∧ L = [Dsk.dk b (openP d).2]) := by
  have hl := ok_len h
  have c1 := Dsk.read_ok b d
  have c2 := Scan_ok d.bytes (by omega)
  have hw := whole_le d.bytes
  by_cases h1 : (scanP d.bytes).2 < d.bytes.length
  · have c3 := Dsk.cut_ok b d ((scanP d.bytes).2 : Int) h.f.2
    have hc := h.cut ((scanP d.bytes).2 : Int)
    have c4 := Dsk.sync_ok b (d.cut ((scanP d.bytes).2 : Int)).2 hc.f.2
    unfold openP at h0 ⊢
    rw [if_pos h1] at h0 ⊢
    have h1' : ((scanP d.bytes).2 : Int) < (d.bytes.length : Int) := by omega
    by_cases h2 : (d.cut ((scanP d.bytes).2 : Int)).1 = 0
    · rw [if_pos h2] at h0 ⊢
      rw [h2] at c3
      refine FnC.intro Tryd.func13 rfl Tryd.ntmps13 rfl fun Z w0 hG => ?_
      focus (
 (refine W.seq (W.region (Jx.assign rfl rfl (Jx.assign rfl rfl (Jx.assign rfl rfl (J.nil (N.seq (W.seq (W.region (Jx.move rfl rfl ?_))))))))))
 (refine J.call (c1) rfl (evs_args rfl) rfl ?_; rintro _ _ ⟨rfl, rfl⟩; simp only [la1, la2, la3])
 (refine Jx.assign rfl rfl (J.nil (N.seq (W.seq (W.region (Jx.move rfl rfl ?_))))))
 (refine J.call (c2) rfl (evs_args rfl) rfl ?_; rintro _ _ ⟨rfl, rfl⟩; simp only [la1, la2, la3])
 (refine Jx.move rfl rfl (Jx.extract rfl rfl rfl ?_))
 (refine Jx.extract rfl rfl rfl ?_)
 (refine Jx.assign rfl rfl (Jx.assign rfl rfl (J.nil (N.seq (W.seq (W.seq (W.region (Jx.move rfl rfl (Jx.move rfl rfl (Jx.lenS rfl rfl ?_))))))))))
 (refine Jx.lssI rfl rfl rfl (J.nil (N.seq (W.cT rfl ?_))))
 (refine W.seq (W.region (Jx.move rfl rfl (Jx.move rfl rfl ?_))))
 (refine J.call (c3) rfl (evs_args rfl) rfl ?_; rintro _ _ ⟨rfl, rfl⟩; simp only [la1, la2, la3])
 (refine Jx.assign rfl rfl (J.nil (N.seq (W.seq (W.region (Jx.move rfl rfl (Jx.neqI rfl rfl rfl (J.nil (N.seq (W.cF rfl ?_))))))))))
 (refine W.skip (N.seq (W.seq (W.seq (W.region (Jx.move rfl rfl ?_))))))
 (refine J.call (c4) rfl (evs_args rfl) rfl ?_; rintro _ _ ⟨rfl, rfl⟩; simp only [la1, la2, la3])
 (refine Jx.assign rfl rfl (J.nil (N.seq (W.seq (W.region (Jx.move rfl rfl (Jx.neqI rfl rfl rfl (J.nil (N.seq (W.cT rfl ?_))))))))))
 (refine W.seq (W.region (Jx.move rfl rfl (Jx.assign rfl rfl (Jx.assign rfl rfl (Jx.assign rfl rfl (J.nil (N.seq (W.ret (N.noGotoRet ?_))))))))))
 (refine id ?_; rotate_left))
      refine N.told (G := [(2, .val (.pointer none)), (3, btL []), (4, int (d.cut ((scanP d.bytes).2 : Int)).2.sync.1)]) ⟨ref0 rfl, ⟨_, rfl, Sub.nil 1 _⟩, ref0 rfl, trivial⟩ ?_
      exact N.ret (rs := [.tmp 2, .tmp 3, .tmp 4]) rfl (.tmp rfl (.tmp rfl (.tmp rfl .nil))) ⟨rfl, rfl⟩
    · rw [if_neg h2] at h0 ⊢
      refine FnC.intro Tryd.func13 rfl Tryd.ntmps13 rfl fun Z w0 hG => ?_
      focus (
 (refine W.seq (W.region (Jx.assign rfl rfl (Jx.assign rfl rfl (Jx.assign rfl rfl (J.nil (N.seq (W.seq (W.region (Jx.move rfl rfl ?_))))))))))
 (refine J.call (c1) rfl (evs_args rfl) rfl ?_; rintro _ _ ⟨rfl, rfl⟩; simp only [la1, la2, la3])
 (refine Jx.assign rfl rfl (J.nil (N.seq (W.seq (W.region (Jx.move rfl rfl ?_))))))
 (refine J.call (c2) rfl (evs_args rfl) rfl ?_; rintro _ _ ⟨rfl, rfl⟩; simp only [la1, la2, la3])
 (refine Jx.move rfl rfl (Jx.extract rfl rfl rfl ?_))
 (refine Jx.extract rfl rfl rfl ?_)
 (refine Jx.assign rfl rfl (Jx.assign rfl rfl (J.nil (N.seq (W.seq (W.seq (W.region (Jx.move rfl rfl (Jx.move rfl rfl (Jx.lenS rfl rfl ?_))))))))))
 (refine Jx.lssI rfl rfl rfl (J.nil (N.seq (W.cT rfl ?_))))
 (refine W.seq (W.region (Jx.move rfl rfl (Jx.move rfl rfl ?_))))
 (refine J.call (c3) rfl (evs_args rfl) rfl ?_; rintro _ _ ⟨rfl, rfl⟩; simp only [la1, la2, la3])
 (refine Jx.assign rfl rfl (J.nil (N.seq (W.seq (W.region (Jx.move rfl rfl (Jx.neqI rfl rfl rfl (J.nil (N.seq (W.cT rfl ?_))))))))))
 (refine W.seq (W.region (Jx.move rfl rfl (Jx.assign rfl rfl (Jx.assign rfl rfl (Jx.assign rfl rfl (J.nil (N.seq (W.ret (N.noGotoRet ?_))))))))))
 (refine id ?_; rotate_left))
      refine N.told (G := [(2, .val (.pointer none)), (3, btL []), (4, int (d.cut ((scanP d.bytes).2 : Int)).1)]) ⟨ref0 rfl, ⟨_, rfl, Sub.nil 1 _⟩, ref0 rfl, trivial⟩ ?_
      exact N.ret (rs := [.tmp 2, .tmp 3, .tmp 4]) rfl (.tmp rfl (.tmp rfl (.tmp rfl .nil))) ⟨rfl, rfl⟩
  · have c4 := Dsk.sync_ok b d h.f.2
    unfold openP at h0 ⊢
    rw [if_neg h1] at h0 ⊢
    have h1' : ¬ ((scanP d.bytes).2 : Int) < (d.bytes.length : Int) := by omega
    refine FnC.intro Tryd.func13 rfl Tryd.ntmps13 rfl fun Z w0 hG => ?_
    focus (
 (refine W.seq (W.region (Jx.assign rfl rfl (Jx.assign rfl rfl (Jx.assign rfl rfl (J.nil (N.seq (W.seq (W.region (Jx.move rfl rfl ?_))))))))))
 (refine J.call (c1) rfl (evs_args rfl) rfl ?_; rintro _ _ ⟨rfl, rfl⟩; simp only [la1, la2, la3])
 (refine Jx.assign rfl rfl (J.nil (N.seq (W.seq (W.region (Jx.move rfl rfl ?_))))))
 (refine J.call (c2) rfl (evs_args rfl) rfl ?_; rintro _ _ ⟨rfl, rfl⟩; simp only [la1, la2, la3])
 (refine Jx.move rfl rfl (Jx.extract rfl rfl rfl ?_))
 (refine Jx.extract rfl rfl rfl ?_)
 (refine Jx.assign rfl rfl (Jx.assign rfl rfl (J.nil (N.seq (W.seq (W.seq (W.region (Jx.move rfl rfl (Jx.move rfl rfl (Jx.lenS rfl rfl ?_))))))))))
 (refine Jx.lssI rfl rfl rfl (J.nil (N.seq (W.cF rfl ?_))))
 (refine W.skip (N.seq (W.seq (W.seq (W.region (Jx.move rfl rfl ?_))))))
 (refine J.call (c4) rfl (evs_args rfl) rfl ?_; rintro _ _ ⟨rfl, rfl⟩; simp only [la1, la2, la3])
 (refine Jx.assign rfl rfl (J.nil (N.seq (W.seq (W.region (Jx.move rfl rfl (Jx.neqI rfl rfl rfl (J.nil (N.seq (W.cT rfl ?_))))))))))
 (refine W.seq (W.region (Jx.move rfl rfl (Jx.assign rfl rfl (Jx.assign rfl rfl (Jx.assign rfl rfl (J.nil (N.seq (W.ret (N.noGotoRet ?_))))))))))
 (refine id ?_; rotate_left))
    refine N.told (G := [(2, .val (.pointer none)), (3, btL []), (4, int d.sync.1)]) ⟨ref0 rfl, ⟨_, rfl, Sub.nil 1 _⟩, ref0 rfl, trivial⟩ ?_
    exact N.ret (rs := [.tmp 2, .tmp 3, .tmp 4]) rfl (.tmp rfl (.tmp rfl (.tmp rfl .nil))) ⟨rfl, rfl⟩
theorem Broken_ok (jb b : Nat) (br : Bool) : FnC Tryd.prog 28 [ptr jb] [jn jb b br] (fun s L => s = bool br ∧ L = [jn jb b br]) := by
  refine FnC.intro Tryd.func28 rfl Tryd.ntmps28 rfl fun Z w0 hG => ?_
  focus (
 (refine W.seq (W.region (Jx.assign rfl rfl (J.nil (N.seq (W.seq (W.region (Jx.move rfl rfl (Jx.nilCheck rfl rfl ?_)))))))))
 (refine Jx.fieldAddr rfl rfl ?_)
 (refine Jx.load rfl 0 rfl rfl rfl ?_)
 (refine Jx.assign rfl rfl (J.nil (N.seq (W.ret ?_))))
 (refine id ?_; rotate_left))
  exact N.ret (rs := [.tmp 2]) rfl (.tmp rfl .nil) ⟨rfl, rfl⟩
theorem brk_yes {e : Int} (h : ¬ e = 0) (h2 : ¬ e = 310) : brk e = true := by simp [brk, h, h2]
set_option maxHeartbeats 4000000 in
theorem Write_ok (jb b : Nat) (br : Bool) (d : Dsk.Dk) (h : d.ok) (bt : Bt) : FnC Tryd.prog 15 [ptr jb, ssl bt] [jn jb b br, Dsk.dk b d] (fun s L => s = int (writeP d br bt).1 ∧ L = [jn jb b (writeP d br bt).2.2, Dsk.dk b (writeP d br bt).2.1]) := by
  refine FnC.intro Tryd.func15 rfl Tryd.ntmps15 rfl fun Z w0 hG => ?_
  cases br with
  | true =>
    focus (
 (refine W.seq (W.region (Jx.assign rfl rfl (J.nil (N.seq (W.seq (W.seq (W.region (Jx.move rfl rfl (Jx.nilCheck rfl rfl ?_))))))))))
 (refine Jx.fieldAddr rfl rfl ?_)
 (refine Jx.load rfl 0 rfl rfl rfl ?_)
 (refine J.nil (N.seq (W.cT rfl ?_)))
 (refine W.seq (W.region (Jx.assign rfl rfl (J.nil (N.seq (W.ret (N.noGotoRet ?_)))))))
 (refine id ?_; rotate_left))
    exact N.ret (rs := [.tmp 4]) rfl (.tmp rfl .nil) ⟨rfl, rfl⟩
  | false =>
    have c1 := Record_ok bt
    by_cases hok : okB bt = true
    · rw [recR_yes hok] at c1
      have hrl := rec_len hok
      have hl := ok_len h
      have c2 := Dsk.append_ok b d (recB bt) h.f.2 h.r hl (by omega)
      have ha := h.append (recB bt)
      have c3 := Dsk.sync_ok b (d.append (recB bt)).2 ha.f.2
      have hw : writeP d false bt = if (d.append (recB bt)).1 = 0 then ((d.append (recB bt)).2.sync.1, (d.append (recB bt)).2.sync.2, brk (d.append (recB bt)).2.sync.1) else ((d.append (recB bt)).1, (d.append (recB bt)).2, brk (d.append (recB bt)).1) := by
        unfold writeP; rw [if_neg (by decide), if_pos hok]
      rw [hw]
      by_cases h2 : (d.append (recB bt)).1 = 0
      · rw [if_pos h2]
        rw [h2] at c2
        generalize (d.append (recB bt)).2 = d2 at *
        by_cases h3 : d2.sync.1 = 0
        · rw [h3] at c3 ⊢
          focus (
 (refine W.seq (W.region (Jx.assign rfl rfl (J.nil (N.seq (W.seq (W.seq (W.region (Jx.move rfl rfl (Jx.nilCheck rfl rfl ?_))))))))))
 (refine Jx.fieldAddr rfl rfl ?_)
 (refine Jx.load rfl 0 rfl rfl rfl ?_)
 (refine J.nil (N.seq (W.cF rfl ?_)))
 (refine W.skip (N.seq (W.seq (W.region (Jx.move rfl rfl ?_)))))
 (refine J.call (c1) rfl (evs_args rfl) rfl ?_; rintro _ _ ⟨rfl, rfl⟩; simp only [la1, la2, la3])
 (refine Jx.move rfl rfl (Jx.extract rfl rfl rfl ?_))
 (refine Jx.extract rfl rfl rfl ?_)
 (refine Jx.assign rfl rfl (Jx.assign rfl rfl (J.nil (N.seq (W.seq (W.seq (W.region (Jx.move rfl rfl (Jx.neqI rfl rfl rfl (J.nil (N.seq (W.cF rfl ?_))))))))))))
 (refine W.skip (N.seq (W.seq (W.seq (W.region (Jx.move rfl rfl (Jx.nilCheck rfl rfl ?_)))))))
 (refine Jx.fieldAddr rfl rfl ?_)
 (refine Jx.load rfl 0 rfl rfl rfl ?_)
 (refine Jx.move rfl rfl ?_)
 (refine J.call1 1 (c2) rfl (evs_args rfl) rfl (by rintro _ _ ⟨rfl, rfl⟩; exact ⟨_, rfl⟩) ?_; rintro _ _ ⟨rfl, ⟨⟩⟩; simp only [la4, la5])
 (refine Jx.assign rfl rfl (J.nil (N.seq (W.seq (W.region (Jx.move rfl rfl (Jx.eqlI rfl rfl rfl (J.nil (N.seq (W.cT rfl ?_))))))))))
 (refine W.region (Jx.move rfl rfl (Jx.nilCheck rfl rfl ?_)))
 (refine Jx.fieldAddr rfl rfl ?_)
 (refine Jx.load rfl 0 rfl rfl rfl ?_)
 (refine J.call1 1 (c3) rfl (evs_args rfl) rfl (by rintro _ _ ⟨rfl, rfl⟩; exact ⟨_, rfl⟩) ?_; rintro _ _ ⟨rfl, ⟨⟩⟩; simp only [la4, la5])
 (refine Jx.assign rfl rfl (J.nil (N.seq (W.seq (W.region (Jx.move rfl rfl (Jx.move rfl rfl (Jx.neqI rfl rfl rfl (Jx.move rfl rfl (J.gN rfl rfl rfl rfl ?_))))))))))
 (refine J.gN rfl rfl rfl rfl ?_)
 (refine Jx.pF rfl rfl rfl ?_)
 (refine Jx.nilCheck rfl rfl ?_)
 (refine Jx.fieldAddr rfl rfl ?_)
 (refine J.st 0 rfl rfl rfl rfl rfl rfl ?_)
 (refine J.nil (N.seq (W.seq (W.region (Jx.move rfl rfl (Jx.assign rfl rfl (J.nil (N.seq (W.ret ?_)))))))))
 (refine id ?_; rotate_left))
          exact N.ret (rs := [.tmp 4]) rfl (.tmp rfl .nil) ⟨rfl, rfl⟩
        · by_cases h4 : d2.sync.1 = 310
          · rw [h4] at c3 ⊢
            focus (
 (refine W.seq (W.region (Jx.assign rfl rfl (J.nil (N.seq (W.seq (W.seq (W.region (Jx.move rfl rfl (Jx.nilCheck rfl rfl ?_))))))))))
 (refine Jx.fieldAddr rfl rfl ?_)
 (refine Jx.load rfl 0 rfl rfl rfl ?_)
 (refine J.nil (N.seq (W.cF rfl ?_)))
 (refine W.skip (N.seq (W.seq (W.region (Jx.move rfl rfl ?_)))))
 (refine J.call (c1) rfl (evs_args rfl) rfl ?_; rintro _ _ ⟨rfl, rfl⟩; simp only [la1, la2, la3])
 (refine Jx.move rfl rfl (Jx.extract rfl rfl rfl ?_))
 (refine Jx.extract rfl rfl rfl ?_)
 (refine Jx.assign rfl rfl (Jx.assign rfl rfl (J.nil (N.seq (W.seq (W.seq (W.region (Jx.move rfl rfl (Jx.neqI rfl rfl rfl (J.nil (N.seq (W.cF rfl ?_))))))))))))
 (refine W.skip (N.seq (W.seq (W.seq (W.region (Jx.move rfl rfl (Jx.nilCheck rfl rfl ?_)))))))
 (refine Jx.fieldAddr rfl rfl ?_)
 (refine Jx.load rfl 0 rfl rfl rfl ?_)
 (refine Jx.move rfl rfl ?_)
 (refine J.call1 1 (c2) rfl (evs_args rfl) rfl (by rintro _ _ ⟨rfl, rfl⟩; exact ⟨_, rfl⟩) ?_; rintro _ _ ⟨rfl, ⟨⟩⟩; simp only [la4, la5])
 (refine Jx.assign rfl rfl (J.nil (N.seq (W.seq (W.region (Jx.move rfl rfl (Jx.eqlI rfl rfl rfl (J.nil (N.seq (W.cT rfl ?_))))))))))
 (refine W.region (Jx.move rfl rfl (Jx.nilCheck rfl rfl ?_)))
 (refine Jx.fieldAddr rfl rfl ?_)
 (refine Jx.load rfl 0 rfl rfl rfl ?_)
 (refine J.call1 1 (c3) rfl (evs_args rfl) rfl (by rintro _ _ ⟨rfl, rfl⟩; exact ⟨_, rfl⟩) ?_; rintro _ _ ⟨rfl, ⟨⟩⟩; simp only [la4, la5])
 (refine Jx.assign rfl rfl (J.nil (N.seq (W.seq (W.region (Jx.move rfl rfl (Jx.move rfl rfl (Jx.neqI rfl rfl rfl (Jx.move rfl rfl (J.gY rfl rfl rfl ?_))))))))))
 (refine Jx.move rfl rfl (J.gY rfl rfl rfl ?_))
 (refine Jx.neqI rfl rfl rfl (Jx.pT rfl rfl rfl ?_))
 (refine Jx.nilCheck rfl rfl ?_)
 (refine Jx.fieldAddr rfl rfl ?_)
 (refine J.st 0 rfl rfl rfl rfl rfl rfl ?_)
 (refine J.nil (N.seq (W.seq (W.region (Jx.move rfl rfl (Jx.assign rfl rfl (J.nil (N.seq (W.ret ?_)))))))))
 (refine id ?_; rotate_left))
            exact N.ret (rs := [.tmp 4]) rfl (.tmp rfl .nil) ⟨rfl, rfl⟩
          · rw [brk_yes h3 h4]
            generalize d2.sync.1 = e at *
            focus (
 (refine W.seq (W.region (Jx.assign rfl rfl (J.nil (N.seq (W.seq (W.seq (W.region (Jx.move rfl rfl (Jx.nilCheck rfl rfl ?_))))))))))
 (refine Jx.fieldAddr rfl rfl ?_)
 (refine Jx.load rfl 0 rfl rfl rfl ?_)
 (refine J.nil (N.seq (W.cF rfl ?_)))
 (refine W.skip (N.seq (W.seq (W.region (Jx.move rfl rfl ?_)))))
 (refine J.call (c1) rfl (evs_args rfl) rfl ?_; rintro _ _ ⟨rfl, rfl⟩; simp only [la1, la2, la3])
 (refine Jx.move rfl rfl (Jx.extract rfl rfl rfl ?_))
 (refine Jx.extract rfl rfl rfl ?_)
 (refine Jx.assign rfl rfl (Jx.assign rfl rfl (J.nil (N.seq (W.seq (W.seq (W.region (Jx.move rfl rfl (Jx.neqI rfl rfl rfl (J.nil (N.seq (W.cF rfl ?_))))))))))))
 (refine W.skip (N.seq (W.seq (W.seq (W.region (Jx.move rfl rfl (Jx.nilCheck rfl rfl ?_)))))))
 (refine Jx.fieldAddr rfl rfl ?_)
 (refine Jx.load rfl 0 rfl rfl rfl ?_)
 (refine Jx.move rfl rfl ?_)
 (refine J.call1 1 (c2) rfl (evs_args rfl) rfl (by rintro _ _ ⟨rfl, rfl⟩; exact ⟨_, rfl⟩) ?_; rintro _ _ ⟨rfl, ⟨⟩⟩; simp only [la4, la5])
 (refine Jx.assign rfl rfl (J.nil (N.seq (W.seq (W.region (Jx.move rfl rfl (Jx.eqlI rfl rfl rfl (J.nil (N.seq (W.cT rfl ?_))))))))))
 (refine W.region (Jx.move rfl rfl (Jx.nilCheck rfl rfl ?_)))
 (refine Jx.fieldAddr rfl rfl ?_)
 (refine Jx.load rfl 0 rfl rfl rfl ?_)
 (refine J.call1 1 (c3) rfl (evs_args rfl) rfl (by rintro _ _ ⟨rfl, rfl⟩; exact ⟨_, rfl⟩) ?_; rintro _ _ ⟨rfl, ⟨⟩⟩; simp only [la4, la5])
 (refine Jx.assign rfl rfl (J.nil (N.seq (W.seq (W.region (Jx.move rfl rfl (Jx.move rfl rfl (Jx.neqI rfl rfl rfl (Jx.move rfl rfl (J.gY rfl rfl rfl ?_))))))))))
 (refine Jx.move rfl rfl (J.gY rfl rfl rfl ?_))
 (refine Jx.neqI rfl rfl rfl (Jx.pT rfl rfl rfl ?_))
 (refine Jx.nilCheck rfl rfl ?_)
 (refine Jx.fieldAddr rfl rfl ?_)
 (refine J.st 0 rfl rfl rfl rfl rfl rfl ?_)
 (refine J.nil (N.seq (W.seq (W.region (Jx.move rfl rfl (Jx.assign rfl rfl (J.nil (N.seq (W.ret ?_)))))))))
 (refine id ?_; rotate_left))
            refine N.ret (rs := [.tmp 4]) rfl (.tmp rfl .nil) ⟨rfl, ?_⟩
            simp [h4]
      · rw [if_neg h2]
        by_cases h4 : (d.append (recB bt)).1 = 310
        · rw [h4] at c2 ⊢
          focus (
 (refine W.seq (W.region (Jx.assign rfl rfl (J.nil (N.seq (W.seq (W.seq (W.region (Jx.move rfl rfl (Jx.nilCheck rfl rfl ?_))))))))))
 (refine Jx.fieldAddr rfl rfl ?_)
 (refine Jx.load rfl 0 rfl rfl rfl ?_)
 (refine J.nil (N.seq (W.cF rfl ?_)))
 (refine W.skip (N.seq (W.seq (W.region (Jx.move rfl rfl ?_)))))
 (refine J.call (c1) rfl (evs_args rfl) rfl ?_; rintro _ _ ⟨rfl, rfl⟩; simp only [la1, la2, la3])
 (refine Jx.move rfl rfl (Jx.extract rfl rfl rfl ?_))
 (refine Jx.extract rfl rfl rfl ?_)
 (refine Jx.assign rfl rfl (Jx.assign rfl rfl (J.nil (N.seq (W.seq (W.seq (W.region (Jx.move rfl rfl (Jx.neqI rfl rfl rfl (J.nil (N.seq (W.cF rfl ?_))))))))))))
 (refine W.skip (N.seq (W.seq (W.seq (W.region (Jx.move rfl rfl (Jx.nilCheck rfl rfl ?_)))))))
 (refine Jx.fieldAddr rfl rfl ?_)
 (refine Jx.load rfl 0 rfl rfl rfl ?_)
 (refine Jx.move rfl rfl ?_)
 (refine J.call1 1 (c2) rfl (evs_args rfl) rfl (by rintro _ _ ⟨rfl, rfl⟩; exact ⟨_, rfl⟩) ?_; rintro _ _ ⟨rfl, ⟨⟩⟩; simp only [la4, la5])
 (refine Jx.assign rfl rfl (J.nil (N.seq (W.seq (W.region (Jx.move rfl rfl (Jx.eqlI rfl rfl rfl (J.nil (N.seq (W.cF rfl ?_))))))))))
 (refine W.skip (N.seq (W.seq (W.region (Jx.move rfl rfl (Jx.move rfl rfl (Jx.neqI rfl rfl rfl (Jx.move rfl rfl (J.gY rfl rfl rfl ?_)))))))))
 (refine Jx.move rfl rfl (J.gY rfl rfl rfl ?_))
 (refine Jx.neqI rfl rfl rfl (Jx.pT rfl rfl rfl ?_))
 (refine Jx.nilCheck rfl rfl ?_)
 (refine Jx.fieldAddr rfl rfl ?_)
 (refine J.st 0 rfl rfl rfl rfl rfl rfl ?_)
 (refine J.nil (N.seq (W.seq (W.region (Jx.move rfl rfl (Jx.assign rfl rfl (J.nil (N.seq (W.ret ?_)))))))))
 (refine id ?_; rotate_left))
          exact N.ret (rs := [.tmp 4]) rfl (.tmp rfl .nil) ⟨rfl, rfl⟩
        · rw [brk_yes h2 h4]
          generalize (d.append (recB bt)).1 = e at *
          focus (
 (refine W.seq (W.region (Jx.assign rfl rfl (J.nil (N.seq (W.seq (W.seq (W.region (Jx.move rfl rfl (Jx.nilCheck rfl rfl ?_))))))))))
 (refine Jx.fieldAddr rfl rfl ?_)
 (refine Jx.load rfl 0 rfl rfl rfl ?_)
 (refine J.nil (N.seq (W.cF rfl ?_)))
 (refine W.skip (N.seq (W.seq (W.region (Jx.move rfl rfl ?_)))))
 (refine J.call (c1) rfl (evs_args rfl) rfl ?_; rintro _ _ ⟨rfl, rfl⟩; simp only [la1, la2, la3])
 (refine Jx.move rfl rfl (Jx.extract rfl rfl rfl ?_))
 (refine Jx.extract rfl rfl rfl ?_)
 (refine Jx.assign rfl rfl (Jx.assign rfl rfl (J.nil (N.seq (W.seq (W.seq (W.region (Jx.move rfl rfl (Jx.neqI rfl rfl rfl (J.nil (N.seq (W.cF rfl ?_))))))))))))
 (refine W.skip (N.seq (W.seq (W.seq (W.region (Jx.move rfl rfl (Jx.nilCheck rfl rfl ?_)))))))
 (refine Jx.fieldAddr rfl rfl ?_)
 (refine Jx.load rfl 0 rfl rfl rfl ?_)
 (refine Jx.move rfl rfl ?_)
 (refine J.call1 1 (c2) rfl (evs_args rfl) rfl (by rintro _ _ ⟨rfl, rfl⟩; exact ⟨_, rfl⟩) ?_; rintro _ _ ⟨rfl, ⟨⟩⟩; simp only [la4, la5])
 (refine Jx.assign rfl rfl (J.nil (N.seq (W.seq (W.region (Jx.move rfl rfl (Jx.eqlI rfl rfl rfl (J.nil (N.seq (W.cF rfl ?_))))))))))
 (refine W.skip (N.seq (W.seq (W.region (Jx.move rfl rfl (Jx.move rfl rfl (Jx.neqI rfl rfl rfl (Jx.move rfl rfl (J.gY rfl rfl rfl ?_)))))))))
 (refine Jx.move rfl rfl (J.gY rfl rfl rfl ?_))
 (refine Jx.neqI rfl rfl rfl (Jx.pT rfl rfl rfl ?_))
 (refine Jx.nilCheck rfl rfl ?_)
 (refine Jx.fieldAddr rfl rfl ?_)
 (refine J.st 0 rfl rfl rfl rfl rfl rfl ?_)
 (refine J.nil (N.seq (W.seq (W.region (Jx.move rfl rfl (Jx.assign rfl rfl (J.nil (N.seq (W.ret ?_)))))))))
 (refine id ?_; rotate_left))
          refine N.ret (rs := [.tmp 4]) rfl (.tmp rfl .nil) ⟨rfl, ?_⟩
          simp [h4]
    · rw [recR_no hok] at c1
      have hw : writeP d false bt = (2, d, false) := by
        unfold writeP; rw [if_neg (by decide), if_neg hok]
      rw [hw]
      focus (
 (refine W.seq (W.region (Jx.assign rfl rfl (J.nil (N.seq (W.seq (W.seq (W.region (Jx.move rfl rfl (Jx.nilCheck rfl rfl ?_))))))))))
 (refine Jx.fieldAddr rfl rfl ?_)
 (refine Jx.load rfl 0 rfl rfl rfl ?_)
 (refine J.nil (N.seq (W.cF rfl ?_)))
 (refine W.skip (N.seq (W.seq (W.region (Jx.move rfl rfl ?_)))))
 (refine J.call (c1) rfl (evs_args rfl) rfl ?_; rintro _ _ ⟨rfl, rfl⟩; simp only [la1, la2, la3])
 (refine Jx.move rfl rfl (Jx.extract rfl rfl rfl ?_))
 (refine Jx.extract rfl rfl rfl ?_)
 (refine Jx.assign rfl rfl (Jx.assign rfl rfl (J.nil (N.seq (W.seq (W.seq (W.region (Jx.move rfl rfl (Jx.neqI rfl rfl rfl (J.nil (N.seq (W.cT rfl ?_))))))))))))
 (refine W.seq (W.region (Jx.move rfl rfl (Jx.assign rfl rfl (J.nil (N.seq (W.ret (N.noGotoRet ?_))))))))
 (refine id ?_; rotate_left))
      exact N.ret (rs := [.tmp 4]) rfl (.tmp rfl .nil) ⟨rfl, rfl⟩
end Go.Proofs.YtbdkenlkimiddaaDoor
namespace Go.Proofs.YtbdkenlkimiddaaDoor
open Go Go.Sse
set_option linter.unusedVariables false
set_option linter.unusedSimpArgs false
set_option maxRecDepth 10000
theorem N.as {Γ : Ctx} {F : List (Nat × SV)} {L : List Own} {K : Act → World → Prop} (i : Nat) {s : SV} (t : SV) (hs : Sse.look F i = some s) (ht : Sub s t) (h : N Γ K ((i, t) :: F) L) : N Γ K F L :=
  ⟨fun a w hst => h.go a w ⟨hst.ws, hst.nt, hst.df, fun j u hj => by
    simp only [Sse.look] at hj
    cases hb : Nat.beq i j with
    | true =>
      rw [hb] at hj
      simp only [cond_true, Option.some.injEq] at hj
      subst hj
      have := Nat.eq_of_beq_eq_true hb
      subst this
      exact ht _ _ _ (hst.fr i s hs)
    | false => rw [hb] at hj; exact hst.fr j u hj⟩⟩
set_option maxHeartbeats 4000000 in
theorem rOpen_good (d : Dsk.Dk) (h : d.ok) (h0 : (openP d).1 = 0) : FnC Tryd.prog 19 [Dsk.rf d] [] (fun s L => s = .tup [Dsk.rf (openP d).2, btL (scanP d.bytes).1, int 0] ∧ L = []) := by
  have hl := ok_len h
  have c2 := rScan_ok d.bytes (by omega)
  have hw := whole_le d.bytes
  by_cases h1 : (scanP d.bytes).2 < d.bytes.length
  · have c3 := Dsk.rcut_ok d h ((scanP d.bytes).2 : Int)
    have hc := h.cut ((scanP d.bytes).2 : Int)
    have c4 := Dsk.rsync_ok (d.cut ((scanP d.bytes).2 : Int)).2 hc
    unfold openP at h0 ⊢
    rw [if_pos h1] at h0 ⊢
    by_cases h2 : (d.cut ((scanP d.bytes).2 : Int)).1 = 0
    · rw [if_pos h2] at h0 ⊢
      rw [h2] at c3
      rw [h0] at c4
      have h1' : ((scanP d.bytes).2 : Int) < (d.bytes.length : Int) := by omega
      refine FnC.intro Tryd.func19 rfl Tryd.ntmps19 rfl fun Z w0 hG => ?_
      focus (
 (refine W.seq (W.region ?_))
 (refine J.boxAg rfl rfl ?_; intro b')
 (refine J.alloc (by simp only [List.map_cons, List.map_nil]; rfl) rfl rfl ?_; intro b')
 (refine Jx.assign rfl rfl (Jx.assign rfl rfl (J.nil (N.seq (W.seq (W.region (Jx.fieldAddr rfl rfl ?_)))))))
 (refine Jx.load rfl 1 rfl rfl rfl ?_)
 (refine J.call (c2) rfl (evs_args rfl) rfl ?_; rintro _ _ ⟨rfl, rfl⟩; simp only [la1, la2, la3])
 (refine Jx.move rfl rfl (Jx.extract rfl rfl rfl ?_))
 (refine Jx.extract rfl rfl rfl ?_)
 (refine Jx.assign rfl rfl (Jx.assign rfl rfl (J.nil (N.seq (W.seq (W.seq (W.region (Jx.move rfl rfl (Jx.fieldAddr rfl rfl ?_)))))))))
 (refine Jx.load rfl 1 rfl rfl rfl ?_)
 (refine Jx.lenS rfl rfl ?_)
 (refine Jx.lssI rfl rfl rfl (J.nil (N.seq (W.cT rfl ?_))))
 (refine W.seq (W.region (Jx.loadAll rfl 1 rfl rfl rfl ?_)))
 (refine Jx.move rfl rfl ?_)
 (refine J.call (c3) rfl (evs_args rfl) rfl ?_; rintro _ _ ⟨rfl, rfl⟩; simp only [la1, la2, la3])
 (refine Jx.move rfl rfl (Jx.extract rfl rfl rfl ?_))
 (refine Jx.extract rfl rfl rfl ?_)
 (refine J.alloc (by simp only [List.map_cons, List.map_nil]; rfl) rfl rfl ?_; intro b')
 (refine J.storeAll rfl rfl rfl 0 rfl rfl rfl ?_)
 (refine Jx.assign rfl rfl (J.nil (N.seq (W.seq (W.region (Jx.loadAll rfl 0 rfl rfl rfl ?_))))))
 (refine J.storeAll rfl rfl rfl 2 rfl rfl rfl ?_)
 (refine J.nil (N.seq (W.seq (W.region (Jx.move rfl rfl (Jx.neqI rfl rfl rfl (J.nil (N.seq (W.cF rfl ?_)))))))))
 (refine W.skip (N.seq (W.seq (W.region (Jx.loadAll rfl 2 rfl rfl rfl ?_)))))
 (refine J.call (c4) rfl (evs_args rfl) rfl ?_; rintro _ _ ⟨rfl, rfl⟩; simp only [la1, la2, la3])
 (refine Jx.move rfl rfl (Jx.extract rfl rfl rfl ?_))
 (refine Jx.extract rfl rfl rfl ?_)
 (refine J.storeAll rfl rfl rfl 2 rfl rfl rfl ?_)
 (refine Jx.assign rfl rfl (J.nil (N.seq (W.seq (W.seq (W.region (Jx.move rfl rfl (Jx.neqI rfl rfl rfl (J.nil (N.seq (W.cF rfl ?_)))))))))))
 (refine W.skip (N.seq (W.seq (W.region (Jx.loadAll rfl 2 rfl rfl rfl ?_)))))
 (refine Jx.move rfl rfl (J.storeAll rfl rfl rfl 1 rfl rfl rfl ?_))
 (refine Jx.assign rfl rfl (Jx.assign rfl rfl (J.nil (N.seq (W.ret ?_)))))
 (refine id ?_; rotate_left))
      exact N.retD (rs := [.cell 2 Dsk.tRk, .tmp 3, .tmp 4]) (L1 := []) rfl (.cell rfl 1 rfl Dsk.ag45 (.tmp rfl (.tmp rfl .nil))) (List.nil_sublist _) ⟨rfl, rfl⟩
    · rw [if_neg h2] at h0
      exact absurd h0 h2
  · have c4 := Dsk.rsync_ok d h
    unfold openP at h0 ⊢
    rw [if_neg h1] at h0 ⊢
    rw [h0] at c4
    have h1' : ¬ ((scanP d.bytes).2 : Int) < (d.bytes.length : Int) := by omega
    refine FnC.intro Tryd.func19 rfl Tryd.ntmps19 rfl fun Z w0 hG => ?_
    focus (
 (refine W.seq (W.region ?_))
 (refine J.boxAg rfl rfl ?_; intro b')
 (refine J.alloc (by simp only [List.map_cons, List.map_nil]; rfl) rfl rfl ?_; intro b')
 (refine Jx.assign rfl rfl (Jx.assign rfl rfl (J.nil (N.seq (W.seq (W.region (Jx.fieldAddr rfl rfl ?_)))))))
 (refine Jx.load rfl 1 rfl rfl rfl ?_)
 (refine J.call (c2) rfl (evs_args rfl) rfl ?_; rintro _ _ ⟨rfl, rfl⟩; simp only [la1, la2, la3])
 (refine Jx.move rfl rfl (Jx.extract rfl rfl rfl ?_))
 (refine Jx.extract rfl rfl rfl ?_)
 (refine Jx.assign rfl rfl (Jx.assign rfl rfl (J.nil (N.seq (W.seq (W.seq (W.region (Jx.move rfl rfl (Jx.fieldAddr rfl rfl ?_)))))))))
 (refine Jx.load rfl 1 rfl rfl rfl ?_)
 (refine Jx.lenS rfl rfl ?_)
 (refine Jx.lssI rfl rfl rfl (J.nil (N.seq (W.cF rfl ?_))))
 (refine W.skip (N.seq (W.seq (W.region (Jx.loadAll rfl 1 rfl rfl rfl ?_)))))
 (refine J.call (c4) rfl (evs_args rfl) rfl ?_; rintro _ _ ⟨rfl, rfl⟩; simp only [la1, la2, la3])
 (refine Jx.move rfl rfl (Jx.extract rfl rfl rfl ?_))
 (refine Jx.extract rfl rfl rfl ?_)
 (refine J.storeAll rfl rfl rfl 1 rfl rfl rfl ?_)
 (refine Jx.assign rfl rfl (J.nil (N.seq (W.seq (W.seq (W.region (Jx.move rfl rfl (Jx.neqI rfl rfl rfl (J.nil (N.seq (W.cF rfl ?_)))))))))))
 (refine W.skip (N.seq (W.seq (W.region (Jx.loadAll rfl 1 rfl rfl rfl ?_)))))
 (refine Jx.move rfl rfl (J.storeAll rfl rfl rfl 0 rfl rfl rfl ?_))
 (refine Jx.assign rfl rfl (Jx.assign rfl rfl (J.nil (N.seq (W.ret ?_)))))
 (refine id ?_; rotate_left))
    exact N.retD (rs := [.cell 2 Dsk.tRk, .tmp 3, .tmp 4]) (L1 := []) rfl (.cell rfl 0 rfl Dsk.ag45 (.tmp rfl (.tmp rfl .nil))) (List.nil_sublist _) ⟨rfl, rfl⟩
set_option maxHeartbeats 4000000 in
theorem rOpen_bad (d : Dsk.Dk) (h : d.ok) (h0 : (openP d).1 ≠ 0) : FnC Tryd.prog 19 [Dsk.rf d] [] (fun s L => s = .tup [Dsk.rf (openP d).2, btL [], int (openP d).1] ∧ L = []) := by
  have hl := ok_len h
  have c2 := rScan_ok d.bytes (by omega)
  have hw := whole_le d.bytes
  by_cases h1 : (scanP d.bytes).2 < d.bytes.length
  · have c3 := Dsk.rcut_ok d h ((scanP d.bytes).2 : Int)
    have hc := h.cut ((scanP d.bytes).2 : Int)
    have c4 := Dsk.rsync_ok (d.cut ((scanP d.bytes).2 : Int)).2 hc
    unfold openP at h0 ⊢
    rw [if_pos h1] at h0 ⊢
    have h1' : ((scanP d.bytes).2 : Int) < (d.bytes.length : Int) := by omega
    by_cases h2 : (d.cut ((scanP d.bytes).2 : Int)).1 = 0
    · rw [if_pos h2] at h0 ⊢
      rw [h2] at c3
      refine FnC.intro Tryd.func19 rfl Tryd.ntmps19 rfl fun Z w0 hG => ?_
      focus (
 (refine W.seq (W.region ?_))
 (refine J.boxAg rfl rfl ?_; intro b')
 (refine J.alloc (by simp only [List.map_cons, List.map_nil]; rfl) rfl rfl ?_; intro b')
 (refine Jx.assign rfl rfl (Jx.assign rfl rfl (J.nil (N.seq (W.seq (W.region (Jx.fieldAddr rfl rfl ?_)))))))
 (refine Jx.load rfl 1 rfl rfl rfl ?_)
 (refine J.call (c2) rfl (evs_args rfl) rfl ?_; rintro _ _ ⟨rfl, rfl⟩; simp only [la1, la2, la3])
 (refine Jx.move rfl rfl (Jx.extract rfl rfl rfl ?_))
 (refine Jx.extract rfl rfl rfl ?_)
 (refine Jx.assign rfl rfl (Jx.assign rfl rfl (J.nil (N.seq (W.seq (W.seq (W.region (Jx.move rfl rfl (Jx.fieldAddr rfl rfl ?_)))))))))
 (refine Jx.load rfl 1 rfl rfl rfl ?_)
 (refine Jx.lenS rfl rfl ?_)
 (refine Jx.lssI rfl rfl rfl (J.nil (N.seq (W.cT rfl ?_))))
 (refine W.seq (W.region (Jx.loadAll rfl 1 rfl rfl rfl ?_)))
 (refine Jx.move rfl rfl ?_)
 (refine J.call (c3) rfl (evs_args rfl) rfl ?_; rintro _ _ ⟨rfl, rfl⟩; simp only [la1, la2, la3])
 (refine Jx.move rfl rfl (Jx.extract rfl rfl rfl ?_))
 (refine Jx.extract rfl rfl rfl ?_)
 (refine J.alloc (by simp only [List.map_cons, List.map_nil]; rfl) rfl rfl ?_; intro b')
 (refine J.storeAll rfl rfl rfl 0 rfl rfl rfl ?_)
 (refine Jx.assign rfl rfl (J.nil (N.seq (W.seq (W.region (Jx.loadAll rfl 0 rfl rfl rfl ?_))))))
 (refine J.storeAll rfl rfl rfl 2 rfl rfl rfl ?_)
 (refine J.nil (N.seq (W.seq (W.region (Jx.move rfl rfl (Jx.neqI rfl rfl rfl (J.nil (N.seq (W.cF rfl ?_)))))))))
 (refine W.skip (N.seq (W.seq (W.region (Jx.loadAll rfl 2 rfl rfl rfl ?_)))))
 (refine J.call (c4) rfl (evs_args rfl) rfl ?_; rintro _ _ ⟨rfl, rfl⟩; simp only [la1, la2, la3])
 (refine Jx.move rfl rfl (Jx.extract rfl rfl rfl ?_))
 (refine Jx.extract rfl rfl rfl ?_)
 (refine J.storeAll rfl rfl rfl 2 rfl rfl rfl ?_)
 (refine Jx.assign rfl rfl (J.nil (N.seq (W.seq (W.seq (W.region (Jx.move rfl rfl (Jx.neqI rfl rfl rfl (J.nil (N.seq (W.cT rfl ?_)))))))))))
 (refine W.seq (W.region (Jx.loadAll rfl 2 rfl rfl rfl ?_)))
 (refine Jx.move rfl rfl (J.storeAll rfl rfl rfl 1 rfl rfl rfl ?_))
 (refine Jx.assign rfl rfl (Jx.assign rfl rfl (J.nil (N.seq (W.ret (N.noGotoRet ?_))))))
 (refine id ?_; rotate_left))
      refine N.as 3 (btL []) rfl (Sub.nil 1 _) ?_
      exact N.retD (rs := [.cell 2 Dsk.tRk, .tmp 3, .tmp 4]) (L1 := []) rfl (.cell rfl 1 rfl Dsk.ag45 (.tmp rfl (.tmp rfl .nil))) (List.nil_sublist _) ⟨rfl, rfl⟩
    · rw [if_neg h2] at h0 ⊢
      refine FnC.intro Tryd.func19 rfl Tryd.ntmps19 rfl fun Z w0 hG => ?_
      focus (
 (refine W.seq (W.region ?_))
 (refine J.boxAg rfl rfl ?_; intro b')
 (refine J.alloc (by simp only [List.map_cons, List.map_nil]; rfl) rfl rfl ?_; intro b')
 (refine Jx.assign rfl rfl (Jx.assign rfl rfl (J.nil (N.seq (W.seq (W.region (Jx.fieldAddr rfl rfl ?_)))))))
 (refine Jx.load rfl 1 rfl rfl rfl ?_)
 (refine J.call (c2) rfl (evs_args rfl) rfl ?_; rintro _ _ ⟨rfl, rfl⟩; simp only [la1, la2, la3])
 (refine Jx.move rfl rfl (Jx.extract rfl rfl rfl ?_))
 (refine Jx.extract rfl rfl rfl ?_)
 (refine Jx.assign rfl rfl (Jx.assign rfl rfl (J.nil (N.seq (W.seq (W.seq (W.region (Jx.move rfl rfl (Jx.fieldAddr rfl rfl ?_)))))))))
 (refine Jx.load rfl 1 rfl rfl rfl ?_)
 (refine Jx.lenS rfl rfl ?_)
 (refine Jx.lssI rfl rfl rfl (J.nil (N.seq (W.cT rfl ?_))))
 (refine W.seq (W.region (Jx.loadAll rfl 1 rfl rfl rfl ?_)))
 (refine Jx.move rfl rfl ?_)
 (refine J.call (c3) rfl (evs_args rfl) rfl ?_; rintro _ _ ⟨rfl, rfl⟩; simp only [la1, la2, la3])
 (refine Jx.move rfl rfl (Jx.extract rfl rfl rfl ?_))
 (refine Jx.extract rfl rfl rfl ?_)
 (refine J.alloc (by simp only [List.map_cons, List.map_nil]; rfl) rfl rfl ?_; intro b')
 (refine J.storeAll rfl rfl rfl 0 rfl rfl rfl ?_)
 (refine Jx.assign rfl rfl (J.nil (N.seq (W.seq (W.region (Jx.loadAll rfl 0 rfl rfl rfl ?_))))))
 (refine J.storeAll rfl rfl rfl 2 rfl rfl rfl ?_)
 (refine J.nil (N.seq (W.seq (W.region (Jx.move rfl rfl (Jx.neqI rfl rfl rfl (J.nil (N.seq (W.cT rfl ?_)))))))))
 (refine W.seq (W.region (Jx.loadAll rfl 2 rfl rfl rfl ?_)))
 (refine Jx.move rfl rfl (J.storeAll rfl rfl rfl 1 rfl rfl rfl ?_))
 (refine Jx.assign rfl rfl (Jx.assign rfl rfl (J.nil (N.seq (W.ret (N.noGotoRet ?_))))))
 (refine id ?_; rotate_left))
      refine N.as 3 (btL []) rfl (Sub.nil 1 _) ?_
      exact N.retD (rs := [.cell 2 Dsk.tRk, .tmp 3, .tmp 4]) (L1 := []) rfl (.cell rfl 1 rfl Dsk.ag45 (.tmp rfl (.tmp rfl .nil))) (List.nil_sublist _) ⟨rfl, rfl⟩
  · have c4 := Dsk.rsync_ok d h
    unfold openP at h0 ⊢
    rw [if_neg h1] at h0 ⊢
    have h1' : ¬ ((scanP d.bytes).2 : Int) < (d.bytes.length : Int) := by omega
    refine FnC.intro Tryd.func19 rfl Tryd.ntmps19 rfl fun Z w0 hG => ?_
    focus (
 (refine W.seq (W.region ?_))
 (refine J.boxAg rfl rfl ?_; intro b')
 (refine J.alloc (by simp only [List.map_cons, List.map_nil]; rfl) rfl rfl ?_; intro b')
 (refine Jx.assign rfl rfl (Jx.assign rfl rfl (J.nil (N.seq (W.seq (W.region (Jx.fieldAddr rfl rfl ?_)))))))
 (refine Jx.load rfl 1 rfl rfl rfl ?_)
 (refine J.call (c2) rfl (evs_args rfl) rfl ?_; rintro _ _ ⟨rfl, rfl⟩; simp only [la1, la2, la3])
 (refine Jx.move rfl rfl (Jx.extract rfl rfl rfl ?_))
 (refine Jx.extract rfl rfl rfl ?_)
 (refine Jx.assign rfl rfl (Jx.assign rfl rfl (J.nil (N.seq (W.seq (W.seq (W.region (Jx.move rfl rfl (Jx.fieldAddr rfl rfl ?_)))))))))
 (refine Jx.load rfl 1 rfl rfl rfl ?_)
 (refine Jx.lenS rfl rfl ?_)
 (refine Jx.lssI rfl rfl rfl (J.nil (N.seq (W.cF rfl ?_))))
 (refine W.skip (N.seq (W.seq (W.region (Jx.loadAll rfl 1 rfl rfl rfl ?_)))))
 (refine J.call (c4) rfl (evs_args rfl) rfl ?_; rintro _ _ ⟨rfl, rfl⟩; simp only [la1, la2, la3])
 (refine Jx.move rfl rfl (Jx.extract rfl rfl rfl ?_))
 (refine Jx.extract rfl rfl rfl ?_)
 (refine J.storeAll rfl rfl rfl 1 rfl rfl rfl ?_)
 (refine Jx.assign rfl rfl (J.nil (N.seq (W.seq (W.seq (W.region (Jx.move rfl rfl (Jx.neqI rfl rfl rfl (J.nil (N.seq (W.cT rfl ?_)))))))))))
 (refine W.seq (W.region (Jx.loadAll rfl 1 rfl rfl rfl ?_)))
 (refine Jx.move rfl rfl (J.storeAll rfl rfl rfl 0 rfl rfl rfl ?_))
 (refine Jx.assign rfl rfl (Jx.assign rfl rfl (J.nil (N.seq (W.ret (N.noGotoRet ?_))))))
 (refine id ?_; rotate_left))
    refine N.as 3 (btL []) rfl (Sub.nil 1 _) ?_
    exact N.retD (rs := [.cell 2 Dsk.tRk, .tmp 3, .tmp 4]) (L1 := []) rfl (.cell rfl 0 rfl Dsk.ag45 (.tmp rfl (.tmp rfl .nil))) (List.nil_sublist _) ⟨rfl, rfl⟩
set_option maxHeartbeats 4000000 in
theorem rWrite_ok (br : Bool) (d : Dsk.Dk) (h : d.ok) (bt : Bt) : FnC Tryd.prog 21 [Dsk.rf d, bool br, ssl bt] [] (fun s L => s = .tup [Dsk.rf (writeP d br bt).2.1, bool (writeP d br bt).2.2, int (writeP d br bt).1] ∧ L = []) := by
  refine FnC.intro Tryd.func21 rfl Tryd.ntmps21 rfl fun Z w0 hG => ?_
  cases br with
  | true =>
    focus (
 (refine W.seq (W.region ?_))
 (refine J.boxAg rfl rfl ?_; intro b')
 (refine J.alloc (by simp only [List.map_cons, List.map_nil]; rfl) rfl rfl ?_; intro b')
 (refine Jx.assign rfl rfl (Jx.assign rfl rfl (J.nil (N.seq (W.seq (W.seq (W.region (Jx.move rfl rfl (J.nil (N.seq (W.cT rfl ?_)))))))))))
 (refine W.seq (W.region (Jx.loadAll rfl 1 rfl rfl rfl ?_)))
 (refine J.storeAll rfl rfl rfl 0 rfl rfl rfl ?_)
 (refine Jx.assign rfl rfl (Jx.assign rfl rfl (J.nil (N.seq (W.ret (N.noGotoRet ?_))))))
 (refine id ?_; rotate_left))
    exact N.retD (rs := [.cell 6 Dsk.tRk, .tmp 7, .tmp 8]) (L1 := []) rfl (.cell rfl 0 rfl Dsk.ag45 (.tmp rfl (.tmp rfl .nil))) (List.nil_sublist _) ⟨rfl, rfl⟩
  | false =>
    have c1 := rRecord_ok bt
    by_cases hok : okB bt = true
    · rw [recR_yes hok] at c1
      have hrl := rec_len hok
      have hl := ok_len h
      have c2 := Dsk.rappend_ok d h (recB bt) (by omega)
      have ha := h.append (recB bt)
      have c3 := Dsk.rsync_ok (d.append (recB bt)).2 ha
      have hw : writeP d false bt = if (d.append (recB bt)).1 = 0 then ((d.append (recB bt)).2.sync.1, (d.append (recB bt)).2.sync.2, brk (d.append (recB bt)).2.sync.1) else ((d.append (recB bt)).1, (d.append (recB bt)).2, brk (d.append (recB bt)).1) := by
        unfold writeP; rw [if_neg (by decide), if_pos hok]
      rw [hw]
      by_cases h2 : (d.append (recB bt)).1 = 0
      · rw [if_pos h2]
        rw [h2] at c2
        generalize (d.append (recB bt)).2 = d2 at *
        by_cases h3 : d2.sync.1 = 0
        · rw [h3] at c3 ⊢
          focus (
 (refine W.seq (W.region ?_))
 (refine J.boxAg rfl rfl ?_; intro b')
 (refine J.alloc (by simp only [List.map_cons, List.map_nil]; rfl) rfl rfl ?_; intro b')
 (refine Jx.assign rfl rfl (Jx.assign rfl rfl (J.nil (N.seq (W.seq (W.seq (W.region (Jx.move rfl rfl (J.nil (N.seq (W.cF rfl ?_)))))))))))
 (refine W.skip (N.seq (W.seq (W.region (Jx.move rfl rfl ?_)))))
 (refine J.call (c1) rfl (evs_args rfl) rfl ?_; rintro _ _ ⟨rfl, rfl⟩; simp only [la1, la2, la3])
 (refine Jx.move rfl rfl (Jx.extract rfl rfl rfl ?_))
 (refine Jx.extract rfl rfl rfl ?_)
 (refine Jx.assign rfl rfl (Jx.assign rfl rfl (J.nil (N.seq (W.seq (W.seq (W.region (Jx.move rfl rfl (Jx.neqI rfl rfl rfl (J.nil (N.seq (W.cF rfl ?_))))))))))))
 (refine W.skip (N.seq (W.seq (W.region (Jx.loadAll rfl 1 rfl rfl rfl ?_)))))
 (refine Jx.move rfl rfl ?_)
 (refine J.call (c2) rfl (evs_args rfl) rfl ?_; rintro _ _ ⟨rfl, rfl⟩; simp only [la1, la2, la3])
 (refine Jx.move rfl rfl (Jx.extract rfl rfl rfl ?_))
 (refine Jx.extract rfl rfl rfl ?_)
 (refine J.storeAll rfl rfl rfl 1 rfl rfl rfl ?_)
 (refine Jx.assign rfl rfl (J.nil (N.seq (W.seq (W.seq (W.region (Jx.move rfl rfl (Jx.eqlI rfl rfl rfl (J.nil (N.seq (W.cT rfl ?_)))))))))))
 (refine W.region (Jx.loadAll rfl 1 rfl rfl rfl ?_))
 (refine J.call (c3) rfl (evs_args rfl) rfl ?_; rintro _ _ ⟨rfl, rfl⟩; simp only [la1, la2, la3])
 (refine Jx.move rfl rfl (Jx.extract rfl rfl rfl ?_))
 (refine Jx.extract rfl rfl rfl ?_)
 (refine J.storeAll rfl rfl rfl 1 rfl rfl rfl ?_)
 (refine Jx.assign rfl rfl (J.nil (N.seq (W.seq (W.region (Jx.loadAll rfl 1 rfl rfl rfl ?_))))))
 (refine Jx.move rfl rfl (Jx.neqI rfl rfl rfl (Jx.move rfl rfl (J.gN rfl rfl rfl rfl ?_))))
 (refine J.gN rfl rfl rfl rfl ?_)
 (refine Jx.pF rfl rfl rfl ?_)
 (refine Jx.move rfl rfl (J.storeAll rfl rfl rfl 0 rfl rfl rfl ?_))
 (refine Jx.assign rfl rfl (Jx.assign rfl rfl (J.nil (N.seq (W.ret ?_)))))
 (refine id ?_; rotate_left))
          exact N.retD (rs := [.cell 6 Dsk.tRk, .tmp 7, .tmp 8]) (L1 := []) rfl (.cell rfl 0 rfl Dsk.ag45 (.tmp rfl (.tmp rfl .nil))) (List.nil_sublist _) ⟨rfl, rfl⟩
        · by_cases h4 : d2.sync.1 = 310
          · rw [h4] at c3 ⊢
            focus (
 (refine W.seq (W.region ?_))
 (refine J.boxAg rfl rfl ?_; intro b')
 (refine J.alloc (by simp only [List.map_cons, List.map_nil]; rfl) rfl rfl ?_; intro b')
 (refine Jx.assign rfl rfl (Jx.assign rfl rfl (J.nil (N.seq (W.seq (W.seq (W.region (Jx.move rfl rfl (J.nil (N.seq (W.cF rfl ?_)))))))))))
 (refine W.skip (N.seq (W.seq (W.region (Jx.move rfl rfl ?_)))))
 (refine J.call (c1) rfl (evs_args rfl) rfl ?_; rintro _ _ ⟨rfl, rfl⟩; simp only [la1, la2, la3])
 (refine Jx.move rfl rfl (Jx.extract rfl rfl rfl ?_))
 (refine Jx.extract rfl rfl rfl ?_)
 (refine Jx.assign rfl rfl (Jx.assign rfl rfl (J.nil (N.seq (W.seq (W.seq (W.region (Jx.move rfl rfl (Jx.neqI rfl rfl rfl (J.nil (N.seq (W.cF rfl ?_))))))))))))
 (refine W.skip (N.seq (W.seq (W.region (Jx.loadAll rfl 1 rfl rfl rfl ?_)))))
 (refine Jx.move rfl rfl ?_)
 (refine J.call (c2) rfl (evs_args rfl) rfl ?_; rintro _ _ ⟨rfl, rfl⟩; simp only [la1, la2, la3])
 (refine Jx.move rfl rfl (Jx.extract rfl rfl rfl ?_))
 (refine Jx.extract rfl rfl rfl ?_)
 (refine J.storeAll rfl rfl rfl 1 rfl rfl rfl ?_)
 (refine Jx.assign rfl rfl (J.nil (N.seq (W.seq (W.seq (W.region (Jx.move rfl rfl (Jx.eqlI rfl rfl rfl (J.nil (N.seq (W.cT rfl ?_)))))))))))
 (refine W.region (Jx.loadAll rfl 1 rfl rfl rfl ?_))
 (refine J.call (c3) rfl (evs_args rfl) rfl ?_; rintro _ _ ⟨rfl, rfl⟩; simp only [la1, la2, la3])
 (refine Jx.move rfl rfl (Jx.extract rfl rfl rfl ?_))
 (refine Jx.extract rfl rfl rfl ?_)
 (refine J.storeAll rfl rfl rfl 1 rfl rfl rfl ?_)
 (refine Jx.assign rfl rfl (J.nil (N.seq (W.seq (W.region (Jx.loadAll rfl 1 rfl rfl rfl ?_))))))
 (refine Jx.move rfl rfl (Jx.neqI rfl rfl rfl (Jx.move rfl rfl (J.gY rfl rfl rfl ?_))))
 (refine Jx.move rfl rfl (J.gY rfl rfl rfl ?_))
 (refine Jx.neqI rfl rfl rfl (Jx.pT rfl rfl rfl ?_))
 (refine Jx.move rfl rfl (J.storeAll rfl rfl rfl 0 rfl rfl rfl ?_))
 (refine Jx.assign rfl rfl (Jx.assign rfl rfl (J.nil (N.seq (W.ret ?_)))))
 (refine id ?_; rotate_left))
            exact N.retD (rs := [.cell 6 Dsk.tRk, .tmp 7, .tmp 8]) (L1 := []) rfl (.cell rfl 0 rfl Dsk.ag45 (.tmp rfl (.tmp rfl .nil))) (List.nil_sublist _) ⟨rfl, rfl⟩
          · rw [brk_yes h3 h4]
            generalize d2.sync.1 = e at *
            focus (
 (refine W.seq (W.region ?_))
 (refine J.boxAg rfl rfl ?_; intro b')
 (refine J.alloc (by simp only [List.map_cons, List.map_nil]; rfl) rfl rfl ?_; intro b')
 (refine Jx.assign rfl rfl (Jx.assign rfl rfl (J.nil (N.seq (W.seq (W.seq (W.region (Jx.move rfl rfl (J.nil (N.seq (W.cF rfl ?_)))))))))))
 (refine W.skip (N.seq (W.seq (W.region (Jx.move rfl rfl ?_)))))
 (refine J.call (c1) rfl (evs_args rfl) rfl ?_; rintro _ _ ⟨rfl, rfl⟩; simp only [la1, la2, la3])
 (refine Jx.move rfl rfl (Jx.extract rfl rfl rfl ?_))
 (refine Jx.extract rfl rfl rfl ?_)
 (refine Jx.assign rfl rfl (Jx.assign rfl rfl (J.nil (N.seq (W.seq (W.seq (W.region (Jx.move rfl rfl (Jx.neqI rfl rfl rfl (J.nil (N.seq (W.cF rfl ?_))))))))))))
 (refine W.skip (N.seq (W.seq (W.region (Jx.loadAll rfl 1 rfl rfl rfl ?_)))))
 (refine Jx.move rfl rfl ?_)
 (refine J.call (c2) rfl (evs_args rfl) rfl ?_; rintro _ _ ⟨rfl, rfl⟩; simp only [la1, la2, la3])
 (refine Jx.move rfl rfl (Jx.extract rfl rfl rfl ?_))
 (refine Jx.extract rfl rfl rfl ?_)
 (refine J.storeAll rfl rfl rfl 1 rfl rfl rfl ?_)
 (refine Jx.assign rfl rfl (J.nil (N.seq (W.seq (W.seq (W.region (Jx.move rfl rfl (Jx.eqlI rfl rfl rfl (J.nil (N.seq (W.cT rfl ?_)))))))))))
 (refine W.region (Jx.loadAll rfl 1 rfl rfl rfl ?_))
 (refine J.call (c3) rfl (evs_args rfl) rfl ?_; rintro _ _ ⟨rfl, rfl⟩; simp only [la1, la2, la3])
 (refine Jx.move rfl rfl (Jx.extract rfl rfl rfl ?_))
 (refine Jx.extract rfl rfl rfl ?_)
 (refine J.storeAll rfl rfl rfl 1 rfl rfl rfl ?_)
 (refine Jx.assign rfl rfl (J.nil (N.seq (W.seq (W.region (Jx.loadAll rfl 1 rfl rfl rfl ?_))))))
 (refine Jx.move rfl rfl (Jx.neqI rfl rfl rfl (Jx.move rfl rfl (J.gY rfl rfl rfl ?_))))
 (refine Jx.move rfl rfl (J.gY rfl rfl rfl ?_))
 (refine Jx.neqI rfl rfl rfl (Jx.pT rfl rfl rfl ?_))
 (refine Jx.move rfl rfl (J.storeAll rfl rfl rfl 0 rfl rfl rfl ?_))
 (refine Jx.assign rfl rfl (Jx.assign rfl rfl (J.nil (N.seq (W.ret ?_)))))
 (refine id ?_; rotate_left))
            refine N.retD (rs := [.cell 6 Dsk.tRk, .tmp 7, .tmp 8]) (L1 := []) rfl (.cell rfl 0 rfl Dsk.ag45 (.tmp rfl (.tmp rfl .nil))) (List.nil_sublist _) ⟨?_, rfl⟩
            simp [oneOr, h4]
      · rw [if_neg h2]
        by_cases h4 : (d.append (recB bt)).1 = 310
        · rw [h4] at c2 ⊢
          focus (
 (refine W.seq (W.region ?_))
 (refine J.boxAg rfl rfl ?_; intro b')
 (refine J.alloc (by simp only [List.map_cons, List.map_nil]; rfl) rfl rfl ?_; intro b')
 (refine Jx.assign rfl rfl (Jx.assign rfl rfl (J.nil (N.seq (W.seq (W.seq (W.region (Jx.move rfl rfl (J.nil (N.seq (W.cF rfl ?_)))))))))))
 (refine W.skip (N.seq (W.seq (W.region (Jx.move rfl rfl ?_)))))
 (refine J.call (c1) rfl (evs_args rfl) rfl ?_; rintro _ _ ⟨rfl, rfl⟩; simp only [la1, la2, la3])
 (refine Jx.move rfl rfl (Jx.extract rfl rfl rfl ?_))
 (refine Jx.extract rfl rfl rfl ?_)
 (refine Jx.assign rfl rfl (Jx.assign rfl rfl (J.nil (N.seq (W.seq (W.seq (W.region (Jx.move rfl rfl (Jx.neqI rfl rfl rfl (J.nil (N.seq (W.cF rfl ?_))))))))))))
 (refine W.skip (N.seq (W.seq (W.region (Jx.loadAll rfl 1 rfl rfl rfl ?_)))))
 (refine Jx.move rfl rfl ?_)
 (refine J.call (c2) rfl (evs_args rfl) rfl ?_; rintro _ _ ⟨rfl, rfl⟩; simp only [la1, la2, la3])
 (refine Jx.move rfl rfl (Jx.extract rfl rfl rfl ?_))
 (refine Jx.extract rfl rfl rfl ?_)
 (refine J.storeAll rfl rfl rfl 1 rfl rfl rfl ?_)
 (refine Jx.assign rfl rfl (J.nil (N.seq (W.seq (W.seq (W.region (Jx.move rfl rfl (Jx.eqlI rfl rfl rfl (J.nil (N.seq (W.cF rfl ?_)))))))))))
 (refine W.skip (N.seq (W.seq (W.region (Jx.loadAll rfl 1 rfl rfl rfl ?_)))))
 (refine Jx.move rfl rfl (Jx.neqI rfl rfl rfl (Jx.move rfl rfl (J.gY rfl rfl rfl ?_))))
 (refine Jx.move rfl rfl (J.gY rfl rfl rfl ?_))
 (refine Jx.neqI rfl rfl rfl (Jx.pT rfl rfl rfl ?_))
 (refine Jx.move rfl rfl (J.storeAll rfl rfl rfl 0 rfl rfl rfl ?_))
 (refine Jx.assign rfl rfl (Jx.assign rfl rfl (J.nil (N.seq (W.ret ?_)))))
 (refine id ?_; rotate_left))
          exact N.retD (rs := [.cell 6 Dsk.tRk, .tmp 7, .tmp 8]) (L1 := []) rfl (.cell rfl 0 rfl Dsk.ag45 (.tmp rfl (.tmp rfl .nil))) (List.nil_sublist _) ⟨rfl, rfl⟩
        · rw [brk_yes h2 h4]
          generalize (d.append (recB bt)).1 = e at *
          focus (
 (refine W.seq (W.region ?_))
 (refine J.boxAg rfl rfl ?_; intro b')
 (refine J.alloc (by simp only [List.map_cons, List.map_nil]; rfl) rfl rfl ?_; intro b')
 (refine Jx.assign rfl rfl (Jx.assign rfl rfl (J.nil (N.seq (W.seq (W.seq (W.region (Jx.move rfl rfl (J.nil (N.seq (W.cF rfl ?_)))))))))))
 (refine W.skip (N.seq (W.seq (W.region (Jx.move rfl rfl ?_)))))
 (refine J.call (c1) rfl (evs_args rfl) rfl ?_; rintro _ _ ⟨rfl, rfl⟩; simp only [la1, la2, la3])
 (refine Jx.move rfl rfl (Jx.extract rfl rfl rfl ?_))
 (refine Jx.extract rfl rfl rfl ?_)
 (refine Jx.assign rfl rfl (Jx.assign rfl rfl (J.nil (N.seq (W.seq (W.seq (W.region (Jx.move rfl rfl (Jx.neqI rfl rfl rfl (J.nil (N.seq (W.cF rfl ?_))))))))))))
 (refine W.skip (N.seq (W.seq (W.region (Jx.loadAll rfl 1 rfl rfl rfl ?_)))))
 (refine Jx.move rfl rfl ?_)
 (refine J.call (c2) rfl (evs_args rfl) rfl ?_; rintro _ _ ⟨rfl, rfl⟩; simp only [la1, la2, la3])
 (refine Jx.move rfl rfl (Jx.extract rfl rfl rfl ?_))
 (refine Jx.extract rfl rfl rfl ?_)
 (refine J.storeAll rfl rfl rfl 1 rfl rfl rfl ?_)
 (refine Jx.assign rfl rfl (J.nil (N.seq (W.seq (W.seq (W.region (Jx.move rfl rfl (Jx.eqlI rfl rfl rfl (J.nil (N.seq (W.cF rfl ?_)))))))))))
 (refine W.skip (N.seq (W.seq (W.region (Jx.loadAll rfl 1 rfl rfl rfl ?_)))))
 (refine Jx.move rfl rfl (Jx.neqI rfl rfl rfl (Jx.move rfl rfl (J.gY rfl rfl rfl ?_))))
 (refine Jx.move rfl rfl (J.gY rfl rfl rfl ?_))
 (refine Jx.neqI rfl rfl rfl (Jx.pT rfl rfl rfl ?_))
 (refine Jx.move rfl rfl (J.storeAll rfl rfl rfl 0 rfl rfl rfl ?_))
 (refine Jx.assign rfl rfl (Jx.assign rfl rfl (J.nil (N.seq (W.ret ?_)))))
 (refine id ?_; rotate_left))
          refine N.retD (rs := [.cell 6 Dsk.tRk, .tmp 7, .tmp 8]) (L1 := []) rfl (.cell rfl 0 rfl Dsk.ag45 (.tmp rfl (.tmp rfl .nil))) (List.nil_sublist _) ⟨?_, rfl⟩
          simp [oneOr, h4]
    · rw [recR_no hok] at c1
      have hw : writeP d false bt = (2, d, false) := by
        unfold writeP; rw [if_neg (by decide), if_neg hok]
      rw [hw]
      focus (
 (refine W.seq (W.region ?_))
 (refine J.boxAg rfl rfl ?_; intro b')
 (refine J.alloc (by simp only [List.map_cons, List.map_nil]; rfl) rfl rfl ?_; intro b')
 (refine Jx.assign rfl rfl (Jx.assign rfl rfl (J.nil (N.seq (W.seq (W.seq (W.region (Jx.move rfl rfl (J.nil (N.seq (W.cF rfl ?_)))))))))))
 (refine W.skip (N.seq (W.seq (W.region (Jx.move rfl rfl ?_)))))
 (refine J.call (c1) rfl (evs_args rfl) rfl ?_; rintro _ _ ⟨rfl, rfl⟩; simp only [la1, la2, la3])
 (refine Jx.move rfl rfl (Jx.extract rfl rfl rfl ?_))
 (refine Jx.extract rfl rfl rfl ?_)
 (refine Jx.assign rfl rfl (Jx.assign rfl rfl (J.nil (N.seq (W.seq (W.seq (W.region (Jx.move rfl rfl (Jx.neqI rfl rfl rfl (J.nil (N.seq (W.cT rfl ?_))))))))))))
 (refine W.seq (W.region (Jx.loadAll rfl 1 rfl rfl rfl ?_)))
 (refine Jx.move rfl rfl (J.storeAll rfl rfl rfl 0 rfl rfl rfl ?_))
 (refine Jx.assign rfl rfl (Jx.assign rfl rfl (J.nil (N.seq (W.ret (N.noGotoRet ?_))))))
 (refine id ?_; rotate_left))
      exact N.retD (rs := [.cell 6 Dsk.tRk, .tmp 7, .tmp 8]) (L1 := []) rfl (.cell rfl 0 rfl Dsk.ag45 (.tmp rfl (.tmp rfl .nil))) (List.nil_sublist _) ⟨rfl, rfl⟩
end Go.Proofs.YtbdkenlkimiddaaDoor
namespace Go.Proofs.YtbdkenlkimiddaaDoor
open Go Go.Sse
set_option linter.unusedVariables false
set_option linter.unusedSimpArgs false
set_option maxRecDepth 10000
structure Whole (l : List Bt) (i : Nat) (d : Dsk.Dk) : Prop where
  ok : d.ok
  rm : d.room = 1048576
  up : d.down = false
  by_ : d.bytes = recsB (l.take i)
  sf : d.safe = ((recsB (l.take i)).length : Int)
structure Torn (l : List Bt) (i : Nat) (d : Dsk.Dk) : Prop where
  ok : d.ok
  rm : d.room = 1048576
  by_ : ∃ m, i ≤ m ∧ m ≤ i + 1 ∧ m ≤ l.length ∧ d.bytes = recsB (l.take m)
  sf : d.safe = ((recsB (l.take i)).length : Int)
structure Tells (l : List Bt) (m : Nat) (d : Dsk.Dk) : Prop where
  ok : d.ok
  rm : d.room = 1048576
  sc : scanP d.bytes = (l.take m, (recsB (l.take m)).length)
  sf : d.safe = (d.bytes.length : Int)
end Go.Proofs.YtbdkenlkimiddaaDoor
namespace Go.Proofs.YtbdkenlkimiddaaDoor
open Go Go.Sse
set_option linter.unusedVariables false
set_option linter.unusedSimpArgs false
set_option maxRecDepth 10000
end Go.Proofs.YtbdkenlkimiddaaDoor
namespace Go.Proofs.YtbdkenlkimiddaaDoor
open Go Go.Sse
set_option linter.unusedVariables false
set_option linter.unusedSimpArgs false
set_option maxRecDepth 10000
abbrev fact (s : SV) (v : Value) : Own := .sem [] (fun Z w => Rel Z w s v)
theorem Step.newFact {Γ : Ctx} {L : List Own} {w : World} {s : SV} {v : Value} (h : WSt Γ L w) (hr : Rel (ZL Γ.Z L) w s v) : Step Γ L (fact s v :: L) w w := by
  have hf : foots (fact s v :: L) = foots L := by rw [foots_cons]; rfl
  have hin : ∀ b, inF (fact s v :: L) b ↔ inF L b := fun b => by unfold inF; rw [hf]
  have hz : ∀ b, ¬ ZL Γ.Z L b → ¬ ZL Γ.Z (fact s v :: L) b := fun b hn hc => hn (by rcases hc with hc | hc; exact .inl hc; exact .inr ((hin b).1 hc))
  refine ⟨⟨h.os, h.tape, h.output, h.size, h.keep, h.zlt, by rw [hf]; exact h.nodup, fun b hb => h.foot b ((hin b).1 hb), ?_⟩, Nat.le_refl _, fun _ _ _ => rfl, fun b hb => .inl ((hin b).1 hb)⟩
  intro o ho
  rcases List.mem_cons.1 ho with rfl | ho
  · exact ⟨hr.stable fun b _ hn => ⟨rfl, hz b hn⟩, fun Z' w' _ hs => hr.stable (fun b hb hn => hs b hb (hz b hn)), fun b hb => by cases hb⟩
  · exact Own.stable (h.holds o ho) (fun _ _ => rfl) (Nat.le_refl _) (fun b _ hn => ⟨rfl, hz b hn⟩)
theorem Step.rowFact {Γ : Ctx} {L : List Own} {w : World} {v : Value} {E sz n : Nat} {el : Nat → List SV} (h : WSt Γ (.row v E sz n el :: L) w) (hmax : n ≤ maxLen) : Step Γ (.row v E sz n el :: L) (fact (.sl sz n el) v :: L) w w := by
  have hd := Step.drop h (List.sublist_cons_self (.row v E sz n el) L)
  have hr := WSt.rowRel h hmax
  have hn := Step.newFact hd.ws hr
  exact ⟨hn.ws, Nat.le_refl _, fun _ _ _ => rfl, fun b hb => hd.fresh b (by
    rcases hn.fresh b hb with h1 | h1
    · exact h1
    · exact absurd (hn.ws.foot_lt hb) (by omega))⟩
theorem J.rowFact {P : Program} {Γ : Ctx} {ops : Array Oper} {Q : Exit → Act → World → Prop} {F : List (Nat × SV)} {L : List Own} {l : List Oper} {v : Value} {E sz n : Nat} {el : Nat → List SV} (hmax : n ≤ maxLen) (h : J P Γ ops Q F (fact (.sl sz n el) v :: L) l) : J P Γ ops Q F (.row v E sz n el :: L) l :=
  ⟨fun a w hst => h.go a w (hst.step (Step.rowFact hst.ws hmax))⟩
theorem J.useFact {P : Program} {Γ : Ctx} {ops : Array Oper} {Q : Exit → Act → World → Prop} {F : List (Nat × SV)} {L : List Own} {l : List Oper} (i k : Nat) {v u : Value} {s : SV} (t : SV) (hi : Sse.look F i = some (.val u)) (hk : L[k]? = some (fact s v)) (hs : ∀ Z w, Rel Z w s v → Rel Z w t u) (h : J P Γ ops Q ((i, t) :: F) L l) : J P Γ ops Q F L l :=
  ⟨fun a w hst => h.go a w ⟨hst.ws, hst.nt, hst.df, fun j q hj => by
    simp only [Sse.look] at hj
    cases hb : Nat.beq i j with
    | true =>
      rw [hb] at hj
      simp only [cond_true, Option.some.injEq] at hj
      subst hj
      have := Nat.eq_of_beq_eq_true hb
      subst this
      have h1 := hst.fr i _ hi
      have h2 := (hst.ws.holds _ (mem_of_idx hk)).1
      rw [h1.val_eq]
      exact hs _ _ h2
    | false => rw [hb] at hj; exact hst.fr j q hj⟩⟩
theorem Rel.less {Z : Nat → Prop} {w : World} {sz n m cap : Nat} {el : Nat → List SV} {a : Option Addr} (h : Rel Z w (.sl sz n el) (.slice a n cap)) (hm : m ≤ n) : Rel Z w (.sl sz m el) (.slice a m cap) := by
  cases h with
  | sl _ _ _ _ _ cs hcap hmax hb h1 hl hr =>
    have hle : m * sz ≤ n * sz := Nat.mul_le_mul_right _ hm
    refine .sl sz m el a cap cs (by omega) hmax ?_ (fun k hk => h1 k (by omega)) (fun i hi => hl i (by omega)) (fun i j hi hj => hr i j (by omega) hj)
    rcases hb with hb | ⟨b, off, rfl, hz, hc⟩
    · exact .inl (by omega)
    · exact .inr ⟨b, off, rfl, hz, fun k hk => hc k (by omega)⟩
theorem Pv.rawSh {P : Program} {Γ : Ctx} {F : List (Nat × SV)} {L : List Own} {dst : Option Nat} {ty : TypeId} {pos : String} {aft : Array Edge} {g : Option (Nat × Bool)} {T E : Nat} [h : TSlice P T E] {sz by' : Nat} {z : List Value} [hI : TInfo P E sz by' z] {x j : Operand} {k' : IntKind} {b n cap : Nat} {m' : Int}
    (hx : ev F x = some (.val (.slice (some ⟨b, 0, none⟩) n cap))) (hj : ev F j = some (.val (.int k' m'))) (h1 : 0 ≤ m') (h2 : m' ≤ cap) (hc : 0 < cap) :
    Pv P Γ F L ⟨dst, .slice T x none (some j) none, ty, pos, aft, g⟩ (.val (.slice (some ⟨b, 0, none⟩) m'.toNat cap)) := fun ρ w hst => by
  have hv := hst.evv (x := x) (by simp [Op.operands]) hx
  have hjv := hst.evv (x := j) (by simp [Op.operands]) hj
  have e1 := run_sliceBoundNat (P := P) (k := k') (i := m') (y := cap) (code := .sliceAcap) (w := w) (by omega) (by omega)
  refine ⟨.slice (if cap = 0 then some ⟨b, 0, none⟩ else (some (⟨b, 0, none⟩ : Addr)).map (·.add (0 * sz))) m'.toNat cap, ?_, ?_⟩
  · simp [execOp, hv, hjv, Instr.sliceAt, Instr.slice, Instr.sliceBounds, run_underlying h.ok, e1, slice_sz (P := P) (E := E) (sz := sz)]
  · rw [if_neg (by omega)]
    simp [Addr.add]
    exact .val _
abbrev beh : List UInt8 := [98, 101, 104, 105, 110, 100]
abbrev lent (b : Nat) (l : Bt) (cap : Nat) : Own := fact (ssl (l ++ [beh])) (.slice (some ⟨b, 0, none⟩) (l ++ [beh]).length cap)
theorem lent_all {Z : Nat → Prop} {w : World} {l : Bt} {a : Option Addr} {cap : Nat} (h : Rel Z w (ssl (l ++ [beh])) (.slice a (l ++ [beh]).length cap)) : Rel Z w (ssl l) (.slice a l.length cap) := by
  have h2 := Rel.less h (m := l.length) (by rw [List.length_append]; omega)
  exact Sub.sl (fun i hi => by
    simp only [elOf, List.getD_eq_getElem?_getD, List.getElem?_append_left hi]) _ _ _ h2
set_option maxHeartbeats 4000000 in
theorem lend_ok (l : Bt) (hl : l.length ≤ 1000) : FnC Tryd.prog 20 [ssl l] [] (fun s L => ∃ b cap, l.length + 1 ≤ cap ∧ s = .val (.slice (some ⟨b, 0, none⟩) l.length cap) ∧ L = [lent b l cap]) := by
  have hm1 : ([] : Bt).length + l.length ≤ maxLen ∧ (([] : Bt).length + l.length) * 16 ≤ 140737488355328 := by simp only [maxLen, List.length_nil]; omega
  have hm2 : l.length + [beh].length ≤ maxLen ∧ (l.length + [beh].length) * 16 ≤ 140737488355328 := by simp only [maxLen, List.length_cons, List.length_nil]; omega
  have hla : (l ++ [beh]).length = l.length + 1 := by rw [List.length_append]; rfl
  refine FnC.intro Tryd.func20 rfl Tryd.ntmps20 rfl fun Z w0 hG => ?_
  focus (
 (refine W.seq (W.region (Jx.assign rfl rfl (J.nil (N.seq (W.seq (W.region (Jx.assign rfl rfl (J.nil (N.seq (W.seq (W.region (Jx.move rfl rfl (Jx.move rfl rfl ?_))))))))))))))
 (refine J.rowNil 9 1 (elOf encS [] []) ?_; refine J.appendAt (enc := encS) (l := []) (l2 := l) 0 rfl rfl (SrcOK.sl rfl) rfl rfl hm1 rfl ?_; intro v1 hv1; simp only [List.nil_append])
 (refine Jx.assign rfl rfl (J.nil (N.seq (W.seq (W.region (Jx.move rfl rfl ?_))))))
 (refine J.qs (Qs.buildTexts [beh] rfl rfl rfl (by decide) (by decide)) rfl ?_)
 (refine J.appendAt (enc := encS) (l := l) (l2 := [beh]) 0 rfl rfl (SrcOK.sl rfl) rfl rfl hm2 rfl ?_; intro v2 hv2; refine J.rowView 0 rfl (by omega) ?_; rintro b cap rfl hc1 hc2; refine J.rowFact (by omega) ?_)
 (refine Jx.assign rfl rfl (J.nil (N.seq (W.seq (W.region (Jx.move rfl rfl (Jx.move rfl rfl (Jx.lenSl rfl rfl ?_))))))))
 (refine J.pv (Pv.rawSh rfl rfl (by omega) (by omega) (by omega)) rfl ?_; rw [Int.toNat_natCast])
 (refine Jx.assign rfl rfl (J.nil (N.seq (W.ret ?_))))
 (refine id ?_; rotate_left))
  exact N.ret (rs := [.tmp 2]) rfl (.tmp rfl .nil) ⟨_, _, by omega, rfl, rfl⟩
set_option maxHeartbeats 4000000 in
theorem kept_ok (b : Nat) (l : Bt) (cap : Nat) (hl : l.length ≤ 1000) (hc : l.length + 1 ≤ cap) : FnC Tryd.prog 22 [.val (.slice (some ⟨b, 0, none⟩) l.length cap), ssl l] [lent b l cap] (fun s L => s = bool true ∧ L = [lent b l cap]) := by
  have cs := same_ok l l (by omega)
  rw [decide_eq_true (rfl : l = l)] at cs
  have hla : (l ++ [beh]).length = l.length + 1 := by rw [List.length_append]; rfl
  have e1 : (l.length : Int) + 1 = ((l.length + 1 : Nat) : Int) := by omega
  have hg : (l ++ [beh]).getD l.length [] = beh := by
    rw [List.getD_eq_getElem?_getD, List.getElem?_append_right (Nat.le_refl _), Nat.sub_self]; rfl
  have hlt : l.length < (l ++ [beh]).length := by omega
  refine FnC.intro Tryd.func22 rfl Tryd.ntmps22 rfl fun Z w0 hG => ?_
  focus (
 (refine W.seq (W.region (Jx.assign rfl rfl (J.nil (N.seq (W.seq (W.region (Jx.move rfl rfl (Jx.move rfl rfl ?_)))))))))
 (refine J.useFact 5 0 (ssl l) rfl rfl (fun Z w h => lent_all h) ?_; refine J.call (Lc := []) cs rfl (evs_args rfl) rfl ?_; rintro _ _ ⟨rfl, rfl⟩; simp only [la1, la2, la3])
 (refine Jx.move rfl rfl (J.gY rfl rfl rfl ?_))
 (refine Jx.move rfl rfl (J.gY rfl rfl rfl ?_))
 (refine Jx.move rfl rfl (J.gY rfl rfl rfl ?_))
 (refine Jx.lenSl rfl rfl ?_)
 (refine J.gY rfl rfl rfl ?_)
 (refine Jx.add64 rfl rfl (by omega) rfl ?_; rw [e1])
 (refine J.gY rfl rfl rfl ?_)
 (refine J.pv (Pv.rawSh rfl rfl (by omega) (by omega) (by omega)) rfl ?_; rw [Int.toNat_natCast, ← hla]; refine J.useFact 13 0 (ssl (l ++ [beh])) rfl rfl (fun Z w h => h) ?_)
 (refine J.gY rfl rfl rfl ?_)
 (refine Jx.move rfl rfl (J.gY rfl rfl rfl ?_))
 (refine Jx.lenSl rfl rfl ?_)
 (refine J.gY rfl rfl rfl ?_)
 (refine Jx.indexEl (j := l.length) rfl rfl hlt rfl rfl ?_)
 (refine J.gY rfl rfl rfl ?_)
 (refine Jx.loadPP rfl rfl ?_; rw [hg])
 (refine J.gY rfl rfl rfl ?_)
 (refine Jx.eqlS rfl rfl rfl (Jx.pT rfl rfl rfl ?_))
 (refine Jx.assign rfl rfl (J.nil (N.seq (W.ret ?_))))
 (refine id ?_; rotate_left))
  exact N.ret (rs := [.tmp 4]) rfl (.tmp rfl .nil) ⟨rfl, rfl⟩
end Go.Proofs.YtbdkenlkimiddaaDoor
namespace Go.Proofs.YtbdkenlkimiddaaDoor
open Go Go.Sse
set_option linter.unusedVariables false
set_option linter.unusedSimpArgs false
set_option maxRecDepth 10000
structure Ac where
  kind : Int
  n : Int
  batch : Bt
def ac0 : Ac := ⟨0, 0, []⟩
def encAc (a : Ac) : List SV := [int a.kind, int a.n, ssl a.batch]
abbrev acl (l : List Ac) : SV := .sl 3 l.length (elOf encAc ac0 l)
def lgB (l : List Ac) : Bool := decide (l.length ≤ 30) && l.all (fun a => fewB a.batch 10 200)
theorem lgB_spec {l : List Ac} (h : lgB l = true) : l.length ≤ 30 ∧ ∀ a ∈ l, fewB a.batch 10 200 = true := by
  simp only [lgB, Bool.and_eq_true, decide_eq_true_eq, List.all_eq_true] at h
  exact h
set_option maxHeartbeats 4000000 in
theorem long_ok (l : List Ac) : FnC Tryd.prog 17 [acl l] [] (fun s L => s = bool (!lgB l) ∧ L = []) := by
  refine FnC.intro Tryd.func17 rfl Tryd.ntmps17 rfl fun Z w0 hG => ?_
  by_cases h0 : (30 : Int) < (l.length : Int)
  · have : lgB l = false := by rw [lgB, decide_eq_false (by omega), Bool.false_and]
    rw [this]
    focus (
 (refine W.seq (W.region (Jx.assign rfl rfl (J.nil (N.seq (W.seq (W.seq (W.region (Jx.move rfl rfl (Jx.lenSl rfl rfl ?_))))))))))
 (refine Jx.gtrI rfl rfl rfl (J.nil (N.seq (W.cT rfl ?_))))
 (refine W.seq (W.region (Jx.assign rfl rfl (J.nil (N.seq (W.ret (N.noGotoRet ?_)))))))
 (refine id ?_; rotate_left))
    exact N.ret (rs := [.tmp 2]) rfl (.tmp rfl .nil) ⟨rfl, rfl⟩
  · focus (
 (refine W.seq (W.region (Jx.assign rfl rfl (J.nil (N.seq (W.seq (W.seq (W.region (Jx.move rfl rfl (Jx.lenSl rfl rfl ?_))))))))))
 (refine Jx.gtrI rfl rfl rfl (J.nil (N.seq (W.cF rfl ?_))))
 (refine W.skip (N.seq (W.seq (W.seq (W.region (Jx.assign rfl rfl (J.nil (N.seq (W.block ?_)))))))))
 (refine id ?_; rotate_left))
    refine W.loop (α := Nat) (fun i => [(3, int (i : Int)), (0, acl l)]) (fun _ => []) (fun i => i ≤ l.length ∧ ∀ a ∈ l.take i, fewB a.batch 10 200 = true) (fun i => l.length - i) 0 ⟨by omega, by simp⟩ rfl ⟨ref0 rfl, ref0 rfl, trivial⟩ ?_
    rintro i ⟨hi, hall⟩
    by_cases h1 : i < l.length
    · have cf := few_ok (l.getD i ac0).batch 10 200 (by decide)
      cases hf : fewB (l.getD i ac0).batch 10 200 with
      | false =>
        have : lgB l = false := by
          have : l.all (fun a => fewB a.batch 10 200) = false := by rw [List.all_eq_false]; exact ⟨_, mem_getD l ac0 h1, by rw [hf]; exact Bool.false_ne_true⟩
          rw [lgB, this, Bool.and_false]
        rw [this]
        rw [hf] at cf
        focus (
 (refine W.seq (W.seq (W.region (Jx.move rfl rfl (Jx.move rfl rfl (Jx.lenSl rfl rfl ?_))))))
 (refine Jx.lssI rfl rfl rfl (J.nil (N.seq (W.cT rfl ?_))))
 (refine W.skip (N.seq (W.seq (W.block (W.seq (W.region (Jx.move rfl rfl (Jx.move rfl rfl (Jx.indexEl rfl rfl (by assumption) rfl rfl ?_)))))))))
 (refine Jx.fieldEl rfl rfl rfl ?_)
 (refine Jx.loadPP rfl rfl ?_)
 (refine J.call (cf) rfl (evs_args rfl) rfl ?_; rintro _ _ ⟨rfl, rfl⟩; simp only [la1, la2, la3])
 (refine Jx.not rfl rfl (J.nil (N.seq (W.cT rfl ?_))))
 (refine W.seq (W.region (Jx.assign rfl rfl (J.nil (N.seq (W.ret (N.noGotoRet (N.noGotoRet (N.noGotoRet (N.noGotoRet (N.noGotoRet ?_)))))))))))
 (refine id ?_; rotate_left))
        exact N.ret (rs := [.tmp 2]) rfl (.tmp rfl .nil) ⟨rfl, rfl⟩
      | true =>
        rw [hf] at cf
        focus (
 (refine W.seq (W.seq (W.region (Jx.move rfl rfl (Jx.move rfl rfl (Jx.lenSl rfl rfl ?_))))))
 (refine Jx.lssI rfl rfl rfl (J.nil (N.seq (W.cT rfl ?_))))
 (refine W.skip (N.seq (W.seq (W.block (W.seq (W.region (Jx.move rfl rfl (Jx.move rfl rfl (Jx.indexEl rfl rfl (by assumption) rfl rfl ?_)))))))))
 (refine Jx.fieldEl rfl rfl rfl ?_)
 (refine Jx.loadPP rfl rfl ?_)
 (refine J.call (cf) rfl (evs_args rfl) rfl ?_; rintro _ _ ⟨rfl, rfl⟩; simp only [la1, la2, la3])
 (refine Jx.not rfl rfl (J.nil (N.seq (W.cF rfl ?_))))
 (refine W.skip (N.seq (W.region (Jx.move rfl rfl (Jx.add64 rfl rfl (by omega) rfl ?_)))))
 (refine Jx.assign rfl rfl (J.nil ?_))
 (refine id ?_; rotate_left))
        exact N.round (i + 1) ⟨h1, fun a ha => by
          rw [take_up l ac0 h1] at ha
          rcases List.mem_append.1 ha with ha | ha
          · exact hall a ha
          · rw [List.mem_singleton.1 ha]; exact hf⟩ (by omega) rfl ⟨ref0 rfl, ref0 rfl, trivial⟩
    · have hil : i = l.length := by omega
      rw [hil, List.take_length] at hall
      have : lgB l = true := by simp only [lgB, Bool.and_eq_true, decide_eq_true_eq, List.all_eq_true]; exact ⟨by omega, hall⟩
      rw [this]
      focus (
 (refine W.seq (W.seq (W.region (Jx.move rfl rfl (Jx.move rfl rfl (Jx.lenSl rfl rfl ?_))))))
 (refine Jx.lssI rfl rfl rfl (J.nil (N.seq (W.cF rfl ?_))))
 (refine W.exit (N.seq (W.seq (W.region (Jx.assign rfl rfl (J.nil (N.seq (W.ret ?_))))))))
 (refine id ?_; rotate_left))
      exact N.ret (rs := [.tmp 2]) rfl (.tmp rfl .nil) ⟨rfl, rfl⟩
end Go.Proofs.YtbdkenlkimiddaaDoor
namespace Go.Proofs.YtbdkenlkimiddaaDoor
open Go Go.Sse
set_option linter.unusedVariables false
set_option linter.unusedSimpArgs false
set_option maxRecDepth 10000
theorem Dsk.Dk.ok.crashed {d : Dsk.Dk} (h : d.ok) (k : Int) : (d.crash k).ok := by
  obtain ⟨e1, e2⟩ := Dsk.Dk.left_bd h k
  have h0 := h.s0
  refine ⟨?_, ?_, h.r, ?_, ?_⟩
  · show 0 ≤ d.left k; omega
  · show d.left k ≤ (((d.bytes.take (d.left k).toNat).length : Nat) : Int); rw [List.length_take]; omega
  · show (((d.bytes.take (d.left k).toNat).length : Nat) : Int) ≤ d.room
    rw [List.length_take]; have := h.b; omega
  · exact ⟨by show (-1 : Int) ≤ -1; omega, by show (-1 : Int) ≤ _; omega⟩
abbrev rk (r : Nat) (d : Dsk.Dk) : Own := .obj r Dsk.tRk [str d.bytes, int d.safe, int d.room, int d.fuse, bool d.down]
theorem fresh_openN : openP (Dsk.Dk.fresh 4000) = (0, Dsk.Dk.fresh 4000) ∧ (scanP (Dsk.Dk.fresh 4000).bytes).1 = [] := by
  have e : (Dsk.Dk.fresh 4000).bytes = [] := rfl
  have e2 : openP (Dsk.Dk.fresh 4000) = (0, Dsk.Dk.fresh 4000) := by
    unfold openP
    rw [e, scanP_nil]
    rfl
  rw [e, scanP_nil, e2]
  exact ⟨rfl, rfl⟩
set_option maxHeartbeats 4000000 in
theorem jplays_no (l : List Ac) (h : lgB l = false) : FnC Tryd.prog 6 [acl l] [] (fun s L => s = bool true ∧ L = []) := by
  have c1 := long_ok l
  rw [h] at c1
  refine FnC.intro Tryd.func6 rfl Tryd.ntmps6 rfl fun Z w0 hG => ?_
  focus (
 (refine W.seq (W.region (Jx.assign rfl rfl (J.nil (N.seq (W.seq (W.seq (W.region (Jx.move rfl rfl ?_)))))))))
 (refine J.call (c1) rfl (evs_args rfl) rfl ?_; rintro _ _ ⟨rfl, rfl⟩; simp only [la1, la2, la3])
 (refine J.nil (N.seq (W.cT rfl ?_)))
 (refine W.seq (W.region ?_))
 (refine J.call (works_ok) rfl (evs_args rfl) rfl ?_; rintro _ _ ⟨rfl, rfl⟩; simp only [la1, la2, la3])
 (refine Jx.assign rfl rfl (J.nil (N.seq (W.ret (N.noGotoRet ?_)))))
 (refine id ?_; rotate_left))
  exact N.ret (rs := [.tmp 2]) rfl (.tmp rfl .nil) ⟨rfl, rfl⟩
set_option maxHeartbeats 32000000 in
theorem jplays_ok (l : List Ac) (h : lgB l = true) (hn : ∀ a ∈ l, a.n ≤ 9223372036854775807) : FnC Tryd.prog 6 [acl l] [] (fun s L => s = bool true ∧ L = []) := by
  obtain ⟨w1, w2⟩ := lgB_spec h
  have c1 := long_ok l
  rw [h] at c1
  have hfo := Dsk.Dk.fresh_ok (n := 4000) (by decide)
  obtain ⟨e1, e2⟩ := fresh_openN
  have c2 := Dsk.new_ok 4000 (by decide)
  have c3 := Dsk.rnew_ok 4000 (by decide)
  have c4 := fun b => Open_good b (Dsk.Dk.fresh 4000) hfo (by rw [e1])
  have c5 := rOpen_good (Dsk.Dk.fresh 4000) hfo (by rw [e1])
  rw [e1, e2] at c4 c5
  simp only at c4 c5
  generalize Dsk.Dk.fresh 4000 = d0 at *
  refine FnC.intro Tryd.func6 rfl Tryd.ntmps6 rfl fun Z w0 hG => ?_
  focus (
 (refine W.seq (W.region (Jx.assign rfl rfl (J.nil (N.seq (W.seq (W.seq (W.region (Jx.move rfl rfl ?_)))))))))
 (refine J.call (c1) rfl (evs_args rfl) rfl ?_; rintro _ _ ⟨rfl, rfl⟩; simp only [la1, la2, la3])
 (refine J.nil (N.seq (W.cF rfl ?_)))
 (refine W.skip (N.seq (W.seq (W.region ?_))))
 (refine J.call (c2) rfl (evs_args rfl) rfl ?_; rintro _ _ ⟨b, rfl, rfl⟩; simp only [la1, la2, la3])
 (refine Jx.move rfl rfl (Jx.extract rfl rfl rfl ?_))
 (refine Jx.extract rfl rfl rfl ?_)
 (refine Jx.assign rfl rfl (Jx.assign rfl rfl (J.nil (N.seq (W.seq (W.region ?_))))))
 (refine J.call (c3) rfl (evs_args rfl) rfl ?_; rintro _ _ ⟨rfl, rfl⟩; simp only [la1, la2, la3])
 (refine Jx.move rfl rfl (Jx.extract rfl rfl rfl ?_))
 (refine Jx.extract rfl rfl rfl ?_)
 (refine J.alloc (by simp only [List.map_cons, List.map_nil]; rfl) rfl rfl ?_; intro b')
 (refine J.storeAll rfl rfl rfl 0 rfl rfl rfl ?_)
 (refine Jx.assign rfl rfl (J.nil (N.seq (W.seq (W.seq (W.region (Jx.move rfl rfl (Jx.eqlNil rfl rfl ?_))))))))
 (refine Jx.move rfl rfl (J.gY rfl rfl rfl ?_))
 (refine Jx.move rfl rfl (J.gY rfl rfl rfl ?_))
 (refine Jx.move rfl rfl (J.gY rfl rfl rfl ?_))
 (refine Jx.neqI rfl rfl rfl (Jx.pF rfl rfl rfl ?_))
 (refine J.nil (N.seq (W.cF rfl ?_)))
 (refine W.skip (N.seq (W.seq (W.region (Jx.move rfl rfl ?_)))))
 (refine J.perm (List.perm_append_comm (l₁ := [_])) ?_; refine J.call (c4 _) rfl (evs_args rfl) rfl ?_; rintro _ _ ⟨jb, rfl, rfl⟩; simp only [la1, la2, la3])
 (refine Jx.move rfl rfl (Jx.extract rfl rfl rfl ?_))
 (refine Jx.extract rfl rfl rfl ?_)
 (refine Jx.extract rfl rfl rfl ?_)
 (refine Jx.assign rfl rfl (Jx.assign rfl rfl (Jx.assign rfl rfl (J.nil (N.seq (W.seq (W.region (Jx.loadAll rfl 2 rfl rfl rfl ?_))))))))
 (refine J.call (c5) rfl (evs_args rfl) rfl ?_; rintro _ _ ⟨rfl, rfl⟩; simp only [la1, la2, la3])
 (refine Jx.move rfl rfl (Jx.extract rfl rfl rfl ?_))
 (refine Jx.extract rfl rfl rfl ?_)
 (refine Jx.extract rfl rfl rfl ?_)
 (refine J.alloc (by simp only [List.map_cons, List.map_nil]; rfl) rfl rfl ?_; intro b')
 (refine J.storeAll rfl rfl rfl 0 rfl rfl rfl ?_)
 (refine Jx.assign rfl rfl (Jx.assign rfl rfl (J.nil (N.seq (W.seq (W.region (Jx.loadAll rfl 0 rfl rfl rfl ?_)))))))
 (refine J.storeAll rfl rfl rfl 3 rfl rfl rfl ?_)
 (refine J.nil (N.seq (W.seq (W.region (Jx.assign rfl rfl (J.nil (N.seq (W.seq (W.seq (W.region (Jx.move rfl rfl (Jx.move rfl rfl (Jx.neqI rfl rfl rfl (Jx.move rfl rfl ?_))))))))))))))
 (refine J.gY rfl rfl rfl ?_)
 (refine Jx.move rfl rfl (J.gY rfl rfl rfl ?_))
 (refine Jx.eqlNil rfl rfl ?_)
 (refine Jx.pF rfl rfl rfl ?_)
 (refine J.nil (N.seq (W.cF rfl ?_)))
 (refine W.skip (N.seq (W.seq (W.seq (W.region (Jx.assign rfl rfl (J.nil (N.seq (W.block ?_)))))))))
 (refine id ?_; rotate_left))
  rename_i r5
  refine W.drop (L' := [jn jb b false, Dsk.dk b d0, rk r5 d0]) (List.sublist_cons_self _ _) ?_
  refine W.loop (α := Nat × Dsk.Dk × Bool × Nat) (fun x => [(14, int (x.1 : Int)), (13, bool x.2.2.1), (7, ptr x.2.2.2), (5, ptr r5), (3, ptr b), (0, acl l)]) (fun x => [jn x.2.2.2 b x.2.2.1, Dsk.dk b x.2.1, rk r5 x.2.1]) (fun x => x.1 ≤ l.length ∧ x.2.1.ok) (fun x => l.length - x.1) (0, d0, false, jb) ⟨by simp, hfo⟩ rfl ⟨ref0 rfl, ref0 rfl, ref0 rfl, ref0 rfl, ref0 rfl, ref0 rfl, trivial⟩ ?_
  rintro ⟨i, d, br, j⟩ ⟨hi, hd⟩
  simp only at hi hd ⊢
  by_cases h1 : i < l.length
  · have hf := w2 _ (mem_getD l ac0 h1)
    have hnn := hn _ (mem_getD l ac0 h1)
    obtain ⟨hb1, hb2⟩ := few_spec (n := 10) (e := 200) hf
    have hbl : (l.getD i ac0).batch.length ≤ 1000 := by omega
    have e6 : (i : Int) + 1 = ((i + 1 : Nat) : Int) := by omega
    have hlen := ok_len hd
    by_cases k0 : (l.getD i ac0).kind = 0
    · have cw := Write_ok j b br d hd (l.getD i ac0).batch
      have cr := rWrite_ok br d hd (l.getD i ac0).batch
      have hd2 := hd.written br (l.getD i ac0).batch
      generalize (writeP d br (l.getD i ac0).batch).1 = e at *
      generalize (writeP d br (l.getD i ac0).batch).2.2 = br2 at *
      generalize (writeP d br (l.getD i ac0).batch).2.1 = d2 at *
      have cl := lend_ok (l.getD i ac0).batch hbl
      focus (
 (refine W.seq (W.seq (W.region (Jx.move rfl rfl (Jx.move rfl rfl (Jx.lenSl rfl rfl ?_))))))
 (refine Jx.lssI rfl rfl rfl (J.nil (N.seq (W.cT rfl ?_))))
 (refine W.skip (N.seq (W.seq (W.block (W.seq (W.region (Jx.assign rfl rfl (Jx.assign rfl rfl (J.nil (N.seq (W.seq (W.seq (W.region (Jx.move rfl rfl ?_))))))))))))))
 (refine Jx.move rfl rfl (Jx.indexEl rfl rfl (by assumption) rfl rfl ?_))
 (refine Jx.fieldEl rfl rfl rfl ?_)
 (refine Jx.loadPP rfl rfl ?_)
 (refine J.nil (N.seq (W.block (W.seq (W.region (Jx.eqlI rfl rfl rfl (Jx.assign rfl rfl (J.nil (N.seq (W.cT rfl ?_))))))))))
 (refine W.seq (W.region (Jx.move rfl rfl (Jx.move rfl rfl (Jx.indexEl rfl rfl (by assumption) rfl rfl ?_)))))
 (refine Jx.fieldEl rfl rfl rfl ?_)
 (refine Jx.loadPP rfl rfl ?_)
 (refine J.call (Lc := []) cl rfl (evs_args rfl) rfl ?_; rintro _ _ ⟨lb, cap, hcap, rfl, rfl⟩; simp only [la1, la2, la3]; refine J.perm (List.perm_append_comm (l₁ := [_])) ?_; simp only [la1, la2, la3])
 (refine Jx.assign rfl rfl (J.nil (N.seq (W.seq (W.region (Jx.move rfl rfl (Jx.move rfl rfl ?_)))))))
 (refine J.useFact 82 3 (ssl (l.getD i ac0).batch) rfl rfl (fun Z w h => lent_all h) ?_; refine J.call cw rfl (evs_args rfl) rfl ?_; rintro _ _ ⟨rfl, rfl⟩; simp only [la1, la2, la3])
 (refine Jx.assign rfl rfl (J.nil (N.seq (W.seq ?_))))
 (refine W.draw follows ?_)
 (refine JD.begin 15 rfl ?_; refine JP.more [0,1,2,3,4,5,6,7,8,9,10,11] _ rfl (by decide +kernel) ?_)
 (refine Cx.loadAll rfl 2 rfl rfl rfl ?_)
 (refine Cx.move rfl rfl ?_)
 (refine Cx.move rfl rfl ?_)
 (refine Cx.move rfl rfl ?_)
 (refine Cx.indexEl rfl rfl (by assumption) rfl rfl ?_)
 (refine Cx.fieldEl rfl rfl rfl ?_)
 (refine Cx.loadPP rfl rfl ?_)
 (refine SegC.q (Qs.call (Lc := []) (cr) (fun s L' h => h) (List.Perm.refl _) (evs_args rfl)) rfl ?_)
 (refine Cx.move rfl rfl ?_)
 (refine Cx.extract rfl rfl rfl ?_)
 (refine Cx.extract rfl rfl rfl ?_)
 (refine Cx.extract rfl rfl rfl ?_)
 (refine SegC.nil ?_)
 (refine JP.storeAll (idx := [0,1,2,3,4,5,6,7,8,9,10,11]) 12 [5,93] [0,1,2,3,4,5,6,7,8,9,12] [10,11] (by decide +kernel) rfl ?_ rfl rfl rfl 2 rfl rfl rfl ?_)
 (refine Cx.loadAll rfl 2 rfl rfl rfl ?_)
 (refine Cx.move rfl rfl ?_)
 (refine Cx.move rfl rfl ?_)
 (refine Cx.move rfl rfl ?_)
 (refine Cx.indexEl rfl rfl (by assumption) rfl rfl ?_)
 (refine Cx.fieldEl rfl rfl rfl ?_)
 (refine Cx.loadPP rfl rfl ?_)
 (refine SegC.q (Qs.call (Lc := []) (cr) (fun s L' h => h) (List.Perm.refl _) (evs_args rfl)) rfl ?_)
 (refine Cx.move rfl rfl ?_)
 (refine Cx.extract rfl rfl rfl ?_)
 (refine Cx.extract rfl rfl rfl ?_)
 (refine Cx.extract rfl rfl rfl ?_)
 (refine SegC.nil ?_)
 (refine Ag.cons rfl ?_)
 (refine Ag.cons rfl ?_)
 (refine Ag.cons rfl ?_)
 (refine Ag.cons rfl ?_)
 (refine Ag.cons rfl ?_)
 (refine Ag.cons rfl ?_)
 (refine Ag.cons rfl ?_)
 (refine Ag.cons rfl ?_)
 (refine Ag.cons rfl ?_)
 (refine Ag.cons rfl ?_)
 (refine Ag.cons rfl ?_)
 (refine Ag.cons rfl ?_)
 (refine Ag.nil)
 (refine JP.do1 (idx := [10,11]) 13 [94] [0,1,2,3,4,5,6,7,8,9,10,12,13] [11] (by decide +kernel) rfl ?_ (OpS.of_pv (Pv.assign rfl)) rfl ?_; rotate_left; rintro _ _ ⟨rfl, rfl⟩; rotate_left)
 (refine Cx.extract rfl rfl rfl ?_)
 (refine Cx.extract rfl rfl rfl ?_)
 (refine SegC.nil ?_)
 (refine Ag.cons rfl ?_)
 (refine Ag.cons rfl ?_)
 (refine Ag.nil)
 (refine JP.tail 14 (by decide +kernel) (by decide +kernel) rfl rfl ?_ ?_)
 (refine Cx.extract rfl rfl rfl ?_)
 (refine SegC.nil ?_)
 (refine Ag.cons rfl ?_)
 (refine Ag.nil)
 (refine Jx.assign rfl rfl (J.nil (N.seq (W.seq (W.region (Jx.move rfl rfl (Jx.move rfl rfl (Jx.move rfl rfl (Jx.indexEl rfl rfl (by assumption) rfl rfl ?_)))))))))
 (refine Jx.fieldEl rfl rfl rfl ?_)
 (refine Jx.loadPP rfl rfl ?_)
 (refine J.call1 3 (kept_ok _ (l.getD i ac0).batch _ hbl hcap) rfl (evs_args rfl) rfl (by rintro _ _ ⟨rfl, rfl⟩; exact ⟨_, rfl⟩) ?_; rintro _ _ ⟨rfl, ⟨⟩⟩; simp only [la4, la5])
 (refine Jx.not rfl rfl (J.nil (N.seq (W.cF rfl ?_))))
 (refine W.skip (N.seq (W.seq ?_)))
 (refine W.draw follows ?_)
 (refine JD.calm rfl (by decide +kernel) ?_)
 (refine Cx.move rfl rfl ?_)
 (refine Cx.move rfl rfl ?_)
 (refine Cx.neqI rfl rfl rfl ?_)
 (refine Cx.move rfl rfl ?_)
 (refine SegC.gY rfl rfl rfl ?_)
 (refine Cx.move rfl rfl ?_)
 (refine SegC.gY rfl rfl rfl ?_)
 (refine SegC.q (Qs.call (Lc := [_]) (Dsk.read_ok _ _) (fun s L' h => h) (perm_erase (i := 1) rfl) (evs_args rfl)) rfl ?_)
 (refine SegC.gY rfl rfl rfl ?_)
 (refine Cx.fieldAddr rfl rfl ?_)
 (refine SegC.gY rfl rfl rfl ?_)
 (refine Cx.load rfl 2 rfl rfl rfl ?_)
 (refine SegC.gY rfl rfl rfl ?_)
 (refine Cx.neqS rfl rfl rfl ?_)
 (refine Cx.pickF rfl (by first | rfl | assumption | (exact decide_eq_true (by first | assumption | omega | rfl)) | (exact decide_eq_false (by first | assumption | omega | rfl)) | (simp; done) | (simp; omega)) rfl rfl ?_)
 (refine Cx.move rfl rfl ?_)
 (refine SegC.gY rfl rfl rfl ?_)
 (refine Cx.move rfl rfl ?_)
 (refine SegC.gY rfl rfl rfl ?_)
 (refine SegC.q (Qs.call (Lc := [_]) (Broken_ok _ _ _) (fun s L' h => h) (perm_erase (i := 0) rfl) (evs_args rfl)) rfl ?_)
 (refine SegC.gY rfl rfl rfl ?_)
 (refine Cx.move rfl rfl ?_)
 (refine SegC.gY rfl rfl rfl ?_)
 (refine Cx.neqB rfl rfl rfl ?_)
 (refine Cx.pickF rfl (by first | rfl | assumption | (exact decide_eq_true (by first | assumption | omega | rfl)) | (exact decide_eq_false (by first | assumption | omega | rfl)) | (simp; done) | (simp; omega)) rfl rfl ?_)
 (refine SegC.nil ?_)
 (refine N.seq (W.cF rfl ?_))
 (refine W.skip (N.seq (W.region (Jx.move rfl rfl ?_))))
 (refine Jx.add64 rfl rfl (by omega) rfl ?_; rw [e6])
 (refine Jx.assign rfl rfl (J.nil ?_))
 (refine id ?_; rotate_left))
      refine N.drop (List.take_sublist 3 _) ?_
      exact N.round (i + 1, d2, br2, j) ⟨by simp only; omega, hd2⟩ (by simp only; omega) rfl ⟨ref0 rfl, ref0 rfl, ref0 rfl, ref0 rfl, ref0 rfl, ref0 rfl, trivial⟩
    · by_cases k1 : (l.getD i ac0).kind = 1
      · have cf := (Dsk.fuse_ok b d (l.getD i ac0).n).mono (R' := fun s L => L = [Dsk.dk b (d.fused (l.getD i ac0).n)]) (fun s L h => h)
        have cr := Dsk.rfuse_ok d (l.getD i ac0).n
        have hd2 := hd.fused (n := (l.getD i ac0).n) hnn
        generalize d.fused (l.getD i ac0).n = d2 at *
        focus (
 (refine W.seq (W.seq (W.region (Jx.move rfl rfl (Jx.move rfl rfl (Jx.lenSl rfl rfl ?_))))))
 (refine Jx.lssI rfl rfl rfl (J.nil (N.seq (W.cT rfl ?_))))
 (refine W.skip (N.seq (W.seq (W.block (W.seq (W.region (Jx.assign rfl rfl (Jx.assign rfl rfl (J.nil (N.seq (W.seq (W.seq (W.region (Jx.move rfl rfl ?_))))))))))))))
 (refine Jx.move rfl rfl (Jx.indexEl rfl rfl (by assumption) rfl rfl ?_))
 (refine Jx.fieldEl rfl rfl rfl ?_)
 (refine Jx.loadPP rfl rfl ?_)
 (refine J.nil (N.seq (W.block (W.seq (W.region (Jx.eqlI rfl rfl rfl (Jx.assign rfl rfl (J.nil (N.seq (W.cF rfl ?_))))))))))
 (refine W.seq (W.region (Jx.eqlI rfl rfl rfl (Jx.assign rfl rfl (J.nil (N.seq (W.cT rfl ?_)))))))
 (refine W.seq (W.region (Jx.move rfl rfl (Jx.move rfl rfl (Jx.move rfl rfl (Jx.indexEl rfl rfl (by assumption) rfl rfl ?_))))))
 (refine Jx.fieldEl rfl rfl rfl ?_)
 (refine Jx.loadPP rfl rfl ?_)
 (refine J.call1 1 cf rfl (evs_args rfl) rfl (by rintro _ _ rfl; exact ⟨_, rfl⟩) ?_; rintro _ _ ⟨⟩; simp only [la4, la5])
 (refine J.nil (N.seq ?_))
 (refine W.draw follows ?_)
 (refine JD.upto (n := 7) rfl (by decide +kernel) (by decide +kernel) rfl rfl ?_)
 (refine Cx.loadAll rfl 2 rfl rfl rfl ?_)
 (refine Cx.move rfl rfl ?_)
 (refine Cx.move rfl rfl ?_)
 (refine Cx.indexEl rfl rfl (by assumption) rfl rfl ?_)
 (refine Cx.fieldEl rfl rfl rfl ?_)
 (refine Cx.loadPP rfl rfl ?_)
 (refine SegC.q (Qs.call (Lc := []) (cr) (fun s L' h => h) (List.Perm.refl _) (evs_args rfl)) rfl ?_)
 (refine SegC.nil ?_)
 (refine J.storeAll rfl rfl rfl 2 rfl rfl rfl ?_)
 (refine J.nil (N.seq (W.seq ?_)))
 (refine W.draw follows ?_)
 (refine JD.calm rfl (by decide +kernel) ?_)
 (refine Cx.move rfl rfl ?_)
 (refine Cx.move rfl rfl ?_)
 (refine Cx.neqI rfl rfl rfl ?_)
 (refine Cx.move rfl rfl ?_)
 (refine SegC.gY rfl rfl rfl ?_)
 (refine Cx.move rfl rfl ?_)
 (refine SegC.gY rfl rfl rfl ?_)
 (refine SegC.q (Qs.call (Lc := [_]) (Dsk.read_ok _ _) (fun s L' h => h) (perm_erase (i := 1) rfl) (evs_args rfl)) rfl ?_)
 (refine SegC.gY rfl rfl rfl ?_)
 (refine Cx.fieldAddr rfl rfl ?_)
 (refine SegC.gY rfl rfl rfl ?_)
 (refine Cx.load rfl 2 rfl rfl rfl ?_)
 (refine SegC.gY rfl rfl rfl ?_)
 (refine Cx.neqS rfl rfl rfl ?_)
 (refine Cx.pickF rfl (by first | rfl | assumption | (exact decide_eq_true (by first | assumption | omega | rfl)) | (exact decide_eq_false (by first | assumption | omega | rfl)) | (simp; done) | (simp; omega)) rfl rfl ?_)
 (refine Cx.move rfl rfl ?_)
 (refine SegC.gY rfl rfl rfl ?_)
 (refine Cx.move rfl rfl ?_)
 (refine SegC.gY rfl rfl rfl ?_)
 (refine SegC.q (Qs.call (Lc := [_]) (Broken_ok _ _ _) (fun s L' h => h) (perm_erase (i := 0) rfl) (evs_args rfl)) rfl ?_)
 (refine SegC.gY rfl rfl rfl ?_)
 (refine Cx.move rfl rfl ?_)
 (refine SegC.gY rfl rfl rfl ?_)
 (refine Cx.neqB rfl rfl rfl ?_)
 (refine Cx.pickF rfl (by first | rfl | assumption | (exact decide_eq_true (by first | assumption | omega | rfl)) | (exact decide_eq_false (by first | assumption | omega | rfl)) | (simp; done) | (simp; omega)) rfl rfl ?_)
 (refine SegC.nil ?_)
 (refine N.seq (W.cF rfl ?_))
 (refine W.skip (N.seq (W.region (Jx.move rfl rfl ?_))))
 (refine Jx.add64 rfl rfl (by omega) rfl ?_; rw [e6])
 (refine Jx.assign rfl rfl (J.nil ?_))
 (refine id ?_; rotate_left))
        exact N.round (i + 1, d2, br, j) ⟨by simp only; omega, hd2⟩ (by simp only; omega) rfl ⟨ref0 rfl, ref0 rfl, ref0 rfl, ref0 rfl, ref0 rfl, ref0 rfl, trivial⟩
      · by_cases k2 : (l.getD i ac0).kind = 2
        · have cf := Dsk.crash_ok b d hd (l.getD i ac0).n
          have cr := Dsk.rcrash_ok d hd (l.getD i ac0).n
          have hd2 := hd.crashed (l.getD i ac0).n
          generalize d.crash (l.getD i ac0).n = d2 at *
          focus (
 (refine W.seq (W.seq (W.region (Jx.move rfl rfl (Jx.move rfl rfl (Jx.lenSl rfl rfl ?_))))))
 (refine Jx.lssI rfl rfl rfl (J.nil (N.seq (W.cT rfl ?_))))
 (refine W.skip (N.seq (W.seq (W.block (W.seq (W.region (Jx.assign rfl rfl (Jx.assign rfl rfl (J.nil (N.seq (W.seq (W.seq (W.region (Jx.move rfl rfl ?_))))))))))))))
 (refine Jx.move rfl rfl (Jx.indexEl rfl rfl (by assumption) rfl rfl ?_))
 (refine Jx.fieldEl rfl rfl rfl ?_)
 (refine Jx.loadPP rfl rfl ?_)
 (refine J.nil (N.seq (W.block (W.seq (W.region (Jx.eqlI rfl rfl rfl (Jx.assign rfl rfl (J.nil (N.seq (W.cF rfl ?_))))))))))
 (refine W.seq (W.region (Jx.eqlI rfl rfl rfl (Jx.assign rfl rfl (J.nil (N.seq (W.cF rfl ?_)))))))
 (refine W.seq (W.region (Jx.eqlI rfl rfl rfl (Jx.assign rfl rfl (J.nil (N.seq (W.cT rfl ?_)))))))
 (refine W.seq (W.region (Jx.move rfl rfl (Jx.move rfl rfl (Jx.move rfl rfl (Jx.indexEl rfl rfl (by assumption) rfl rfl ?_))))))
 (refine Jx.fieldEl rfl rfl rfl ?_)
 (refine Jx.loadPP rfl rfl ?_)
 (refine J.call1 1 cf rfl (evs_args rfl) rfl (by rintro _ _ rfl; exact ⟨_, rfl⟩) ?_; rintro _ _ ⟨⟩; simp only [la4, la5])
 (refine J.nil (N.seq ?_))
 (refine W.draw follows ?_)
 (refine JD.upto (n := 7) rfl (by decide +kernel) (by decide +kernel) rfl rfl ?_)
 (refine Cx.loadAll rfl 2 rfl rfl rfl ?_)
 (refine Cx.move rfl rfl ?_)
 (refine Cx.move rfl rfl ?_)
 (refine Cx.indexEl rfl rfl (by assumption) rfl rfl ?_)
 (refine Cx.fieldEl rfl rfl rfl ?_)
 (refine Cx.loadPP rfl rfl ?_)
 (refine SegC.q (Qs.call (Lc := []) (cr) (fun s L' h => h) (List.Perm.refl _) (evs_args rfl)) rfl ?_)
 (refine SegC.nil ?_)
 (refine J.storeAll rfl rfl rfl 2 rfl rfl rfl ?_)
 (refine J.nil (N.seq (W.seq ?_)))
 (refine W.draw follows ?_)
 (refine JD.calm rfl (by decide +kernel) ?_)
 (refine Cx.move rfl rfl ?_)
 (refine Cx.move rfl rfl ?_)
 (refine Cx.neqI rfl rfl rfl ?_)
 (refine Cx.move rfl rfl ?_)
 (refine SegC.gY rfl rfl rfl ?_)
 (refine Cx.move rfl rfl ?_)
 (refine SegC.gY rfl rfl rfl ?_)
 (refine SegC.q (Qs.call (Lc := [_]) (Dsk.read_ok _ _) (fun s L' h => h) (perm_erase (i := 1) rfl) (evs_args rfl)) rfl ?_)
 (refine SegC.gY rfl rfl rfl ?_)
 (refine Cx.fieldAddr rfl rfl ?_)
 (refine SegC.gY rfl rfl rfl ?_)
 (refine Cx.load rfl 2 rfl rfl rfl ?_)
 (refine SegC.gY rfl rfl rfl ?_)
 (refine Cx.neqS rfl rfl rfl ?_)
 (refine Cx.pickF rfl (by first | rfl | assumption | (exact decide_eq_true (by first | assumption | omega | rfl)) | (exact decide_eq_false (by first | assumption | omega | rfl)) | (simp; done) | (simp; omega)) rfl rfl ?_)
 (refine Cx.move rfl rfl ?_)
 (refine SegC.gY rfl rfl rfl ?_)
 (refine Cx.move rfl rfl ?_)
 (refine SegC.gY rfl rfl rfl ?_)
 (refine SegC.q (Qs.call (Lc := [_]) (Broken_ok _ _ _) (fun s L' h => h) (perm_erase (i := 0) rfl) (evs_args rfl)) rfl ?_)
 (refine SegC.gY rfl rfl rfl ?_)
 (refine Cx.move rfl rfl ?_)
 (refine SegC.gY rfl rfl rfl ?_)
 (refine Cx.neqB rfl rfl rfl ?_)
 (refine Cx.pickF rfl (by first | rfl | assumption | (exact decide_eq_true (by first | assumption | omega | rfl)) | (exact decide_eq_false (by first | assumption | omega | rfl)) | (simp; done) | (simp; omega)) rfl rfl ?_)
 (refine SegC.nil ?_)
 (refine N.seq (W.cF rfl ?_))
 (refine W.skip (N.seq (W.region (Jx.move rfl rfl ?_))))
 (refine Jx.add64 rfl rfl (by omega) rfl ?_; rw [e6])
 (refine Jx.assign rfl rfl (J.nil ?_))
 (refine id ?_; rotate_left))
          exact N.round (i + 1, d2, br, j) ⟨by simp only; omega, hd2⟩ (by simp only; omega) rfl ⟨ref0 rfl, ref0 rfl, ref0 rfl, ref0 rfl, ref0 rfl, ref0 rfl, trivial⟩
        · by_cases k3 : (l.getD i ac0).kind = 3
          · have hd2 := hd.opened
            by_cases h0 : (openP d).1 = 0
            · have co := Open_good b d hd h0
              have cr := rOpen_good d hd h0
              obtain ⟨_, _, _, hok, _⟩ := scanP_spec d.bytes
              have hwl := whole_len d.bytes
              have cs := same2_ok (scanP d.bytes).1 (scanP d.bytes).1 (fun b hb => by have := ((okB_iff b).1 (hok b hb)).1; omega) (by omega)
              rw [decide_eq_true rfl] at cs
              generalize (scanP d.bytes).1 = sc at *
              generalize (openP d).2 = d2 at *
              focus (
 (refine W.seq (W.seq (W.region (Jx.move rfl rfl (Jx.move rfl rfl (Jx.lenSl rfl rfl ?_))))))
 (refine Jx.lssI rfl rfl rfl (J.nil (N.seq (W.cT rfl ?_))))
 (refine W.skip (N.seq (W.seq (W.block (W.seq (W.region (Jx.assign rfl rfl (Jx.assign rfl rfl (J.nil (N.seq (W.seq (W.seq (W.region (Jx.move rfl rfl ?_))))))))))))))
 (refine Jx.move rfl rfl (Jx.indexEl rfl rfl (by assumption) rfl rfl ?_))
 (refine Jx.fieldEl rfl rfl rfl ?_)
 (refine Jx.loadPP rfl rfl ?_)
 (refine J.nil (N.seq (W.block (W.seq (W.region (Jx.eqlI rfl rfl rfl (Jx.assign rfl rfl (J.nil (N.seq (W.cF rfl ?_))))))))))
 (refine W.seq (W.region (Jx.eqlI rfl rfl rfl (Jx.assign rfl rfl (J.nil (N.seq (W.cF rfl ?_)))))))
 (refine W.seq (W.region (Jx.eqlI rfl rfl rfl (Jx.assign rfl rfl (J.nil (N.seq (W.cF rfl ?_)))))))
 (refine W.seq (W.region (Jx.eqlI rfl rfl rfl (Jx.assign rfl rfl (J.nil (N.seq (W.cT rfl ?_)))))))
 (refine W.seq (W.region (Jx.move rfl rfl ?_)))
 (refine J.drop (List.sublist_cons_self _ _) ?_; refine J.call co rfl (evs_args rfl) rfl ?_; rintro _ _ ⟨j2, rfl, rfl⟩; simp only [la1, la2, la3])
 (refine Jx.move rfl rfl (Jx.extract rfl rfl rfl ?_))
 (refine Jx.extract rfl rfl rfl ?_)
 (refine Jx.extract rfl rfl rfl ?_)
 (refine Jx.assign rfl rfl (Jx.assign rfl rfl (Jx.assign rfl rfl (J.nil (N.seq (W.seq (W.region (Jx.loadAll rfl 2 rfl rfl rfl ?_))))))))
 (refine J.call (cr) rfl (evs_args rfl) rfl ?_; rintro _ _ ⟨rfl, rfl⟩; simp only [la1, la2, la3])
 (refine Jx.move rfl rfl (Jx.extract rfl rfl rfl ?_))
 (refine Jx.extract rfl rfl rfl ?_)
 (refine Jx.extract rfl rfl rfl ?_)
 (refine J.alloc (by simp only [List.map_cons, List.map_nil]; rfl) rfl rfl ?_; intro b')
 (refine J.storeAll rfl rfl rfl 0 rfl rfl rfl ?_)
 (refine Jx.assign rfl rfl (Jx.assign rfl rfl (J.nil (N.seq (W.seq (W.region (Jx.loadAll rfl 0 rfl rfl rfl ?_)))))))
 (refine J.storeAll rfl rfl rfl 3 rfl rfl rfl ?_)
 (refine J.nil (N.seq (W.seq (W.seq (W.region (Jx.move rfl rfl (Jx.move rfl rfl ?_)))))))
 (refine J.call (cs) rfl (evs_args rfl) rfl ?_; rintro _ _ ⟨rfl, rfl⟩; simp only [la1, la2, la3])
 (refine Jx.not rfl rfl (Jx.move rfl rfl (J.gY rfl rfl rfl ?_)))
 (refine Jx.move rfl rfl (J.gY rfl rfl rfl ?_))
 (refine Jx.eqlNil rfl rfl ?_)
 (refine J.gY rfl rfl rfl ?_)
 (refine Jx.move rfl rfl (J.gY rfl rfl rfl ?_))
 (refine Jx.neqI rfl rfl rfl (J.gY rfl rfl rfl ?_))
 (refine Jx.neqB rfl rfl rfl ?_)
 (refine Jx.pF rfl rfl rfl ?_)
 (refine J.nil (N.seq (W.cF rfl ?_)))
 (refine W.skip (N.seq (W.seq (W.region (Jx.move rfl rfl (Jx.move rfl rfl (Jx.assign rfl rfl (Jx.assign rfl rfl (J.nil (N.seq (W.seq (W.region (Jx.move rfl rfl (Jx.neqNil rfl rfl ?_))))))))))))))
 (refine J.nil (N.seq (W.cT rfl ?_)))
 (refine W.region (Jx.move rfl rfl (Jx.assign rfl rfl (Jx.assign rfl rfl (J.nil (N.seq (W.seq ?_)))))))
 (refine W.draw follows ?_)
 (refine JD.calm rfl (by decide +kernel) ?_)
 (refine Cx.move rfl rfl ?_)
 (refine Cx.move rfl rfl ?_)
 (refine Cx.neqI rfl rfl rfl ?_)
 (refine Cx.move rfl rfl ?_)
 (refine SegC.gY rfl rfl rfl ?_)
 (refine Cx.move rfl rfl ?_)
 (refine SegC.gY rfl rfl rfl ?_)
 (refine SegC.q (Qs.call (Lc := [_]) (Dsk.read_ok _ _) (fun s L' h => h) (perm_erase (i := 2) rfl) (evs_args rfl)) rfl ?_)
 (refine SegC.gY rfl rfl rfl ?_)
 (refine Cx.fieldAddr rfl rfl ?_)
 (refine SegC.gY rfl rfl rfl ?_)
 (refine Cx.load rfl 3 rfl rfl rfl ?_)
 (refine SegC.gY rfl rfl rfl ?_)
 (refine Cx.neqS rfl rfl rfl ?_)
 (refine Cx.pickF rfl (by first | rfl | assumption | (exact decide_eq_true (by first | assumption | omega | rfl)) | (exact decide_eq_false (by first | assumption | omega | rfl)) | (simp; done) | (simp; omega)) rfl rfl ?_)
 (refine Cx.move rfl rfl ?_)
 (refine SegC.gY rfl rfl rfl ?_)
 (refine Cx.move rfl rfl ?_)
 (refine SegC.gY rfl rfl rfl ?_)
 (refine SegC.q (Qs.call (Lc := [_]) (Broken_ok _ _ _) (fun s L' h => h) (perm_erase (i := 1) rfl) (evs_args rfl)) rfl ?_)
 (refine SegC.gY rfl rfl rfl ?_)
 (refine Cx.move rfl rfl ?_)
 (refine SegC.gY rfl rfl rfl ?_)
 (refine Cx.neqB rfl rfl rfl ?_)
 (refine Cx.pickF rfl (by first | rfl | assumption | (exact decide_eq_true (by first | assumption | omega | rfl)) | (exact decide_eq_false (by first | assumption | omega | rfl)) | (simp; done) | (simp; omega)) rfl rfl ?_)
 (refine SegC.nil ?_)
 (refine N.seq (W.cF rfl ?_))
 (refine W.skip (N.seq (W.region (Jx.move rfl rfl ?_))))
 (refine Jx.add64 rfl rfl (by omega) rfl ?_; rw [e6])
 (refine Jx.assign rfl rfl (J.nil ?_))
 (refine id ?_; rotate_left))
              refine N.drop (List.sublist_cons_self _ _) ?_
              exact N.round (i + 1, d2, false, j2) ⟨by simp only; omega, hd2⟩ (by simp only; omega) rfl ⟨ref0 rfl, ref0 rfl, ref0 rfl, ref0 rfl, ref0 rfl, ref0 rfl, trivial⟩
            · have co := Open_bad b d hd h0
              have cr := rOpen_bad d hd h0
              have cs := same2_ok [] [] (fun b hb => by cases hb) (by decide)
              rw [decide_eq_true rfl] at cs
              generalize (openP d).1 = e at *
              generalize (openP d).2 = d2 at *
              focus (
 (refine W.seq (W.seq (W.region (Jx.move rfl rfl (Jx.move rfl rfl (Jx.lenSl rfl rfl ?_))))))
 (refine Jx.lssI rfl rfl rfl (J.nil (N.seq (W.cT rfl ?_))))
 (refine W.skip (N.seq (W.seq (W.block (W.seq (W.region (Jx.assign rfl rfl (Jx.assign rfl rfl (J.nil (N.seq (W.seq (W.seq (W.region (Jx.move rfl rfl ?_))))))))))))))
 (refine Jx.move rfl rfl (Jx.indexEl rfl rfl (by assumption) rfl rfl ?_))
 (refine Jx.fieldEl rfl rfl rfl ?_)
 (refine Jx.loadPP rfl rfl ?_)
 (refine J.nil (N.seq (W.block (W.seq (W.region (Jx.eqlI rfl rfl rfl (Jx.assign rfl rfl (J.nil (N.seq (W.cF rfl ?_))))))))))
 (refine W.seq (W.region (Jx.eqlI rfl rfl rfl (Jx.assign rfl rfl (J.nil (N.seq (W.cF rfl ?_)))))))
 (refine W.seq (W.region (Jx.eqlI rfl rfl rfl (Jx.assign rfl rfl (J.nil (N.seq (W.cF rfl ?_)))))))
 (refine W.seq (W.region (Jx.eqlI rfl rfl rfl (Jx.assign rfl rfl (J.nil (N.seq (W.cT rfl ?_)))))))
 (refine W.seq (W.region (Jx.move rfl rfl ?_)))
 (refine J.perm (List.Perm.swap _ _ _) ?_; refine J.call co rfl (evs_args rfl) rfl ?_; rintro _ _ ⟨rfl, rfl⟩; simp only [la1, la2, la3]; refine J.perm (List.Perm.swap _ _ _) ?_)
 (refine Jx.move rfl rfl (Jx.extract rfl rfl rfl ?_))
 (refine Jx.extract rfl rfl rfl ?_)
 (refine Jx.extract rfl rfl rfl ?_)
 (refine Jx.assign rfl rfl (Jx.assign rfl rfl (Jx.assign rfl rfl (J.nil (N.seq (W.seq (W.region (Jx.loadAll rfl 2 rfl rfl rfl ?_))))))))
 (refine J.call (cr) rfl (evs_args rfl) rfl ?_; rintro _ _ ⟨rfl, rfl⟩; simp only [la1, la2, la3])
 (refine Jx.move rfl rfl (Jx.extract rfl rfl rfl ?_))
 (refine Jx.extract rfl rfl rfl ?_)
 (refine Jx.extract rfl rfl rfl ?_)
 (refine J.alloc (by simp only [List.map_cons, List.map_nil]; rfl) rfl rfl ?_; intro b')
 (refine J.storeAll rfl rfl rfl 0 rfl rfl rfl ?_)
 (refine Jx.assign rfl rfl (Jx.assign rfl rfl (J.nil (N.seq (W.seq (W.region (Jx.loadAll rfl 0 rfl rfl rfl ?_)))))))
 (refine J.storeAll rfl rfl rfl 3 rfl rfl rfl ?_)
 (refine J.nil (N.seq (W.seq (W.seq (W.region (Jx.move rfl rfl (Jx.move rfl rfl ?_)))))))
 (refine J.call (cs) rfl (evs_args rfl) rfl ?_; rintro _ _ ⟨rfl, rfl⟩; simp only [la1, la2, la3])
 (refine Jx.not rfl rfl (Jx.move rfl rfl (J.gY rfl rfl rfl ?_)))
 (refine Jx.move rfl rfl (J.gY rfl rfl rfl ?_))
 (refine Jx.eqlNil rfl rfl ?_)
 (refine J.gY rfl rfl rfl ?_)
 (refine Jx.move rfl rfl (J.gY rfl rfl rfl ?_))
 (refine Jx.neqI rfl rfl rfl (J.gY rfl rfl rfl ?_))
 (refine Jx.neqB rfl rfl rfl ?_)
 (refine Jx.pF rfl rfl rfl ?_)
 (refine J.nil (N.seq (W.cF rfl ?_)))
 (refine W.skip (N.seq (W.seq (W.region (Jx.move rfl rfl (Jx.move rfl rfl (Jx.assign rfl rfl (Jx.assign rfl rfl (J.nil (N.seq (W.seq (W.region (Jx.move rfl rfl (Jx.neqNil rfl rfl ?_))))))))))))))
 (refine J.nil (N.seq (W.cF rfl ?_)))
 (refine W.skip (N.seq (W.seq ?_)))
 (refine W.draw follows ?_)
 (refine JD.calm rfl (by decide +kernel) ?_)
 (refine Cx.move rfl rfl ?_)
 (refine Cx.move rfl rfl ?_)
 (refine Cx.neqI rfl rfl rfl ?_)
 (refine Cx.move rfl rfl ?_)
 (refine SegC.gY rfl rfl rfl ?_)
 (refine Cx.move rfl rfl ?_)
 (refine SegC.gY rfl rfl rfl ?_)
 (refine SegC.q (Qs.call (Lc := [_]) (Dsk.read_ok _ _) (fun s L' h => h) (perm_erase (i := 2) rfl) (evs_args rfl)) rfl ?_)
 (refine SegC.gY rfl rfl rfl ?_)
 (refine Cx.fieldAddr rfl rfl ?_)
 (refine SegC.gY rfl rfl rfl ?_)
 (refine Cx.load rfl 3 rfl rfl rfl ?_)
 (refine SegC.gY rfl rfl rfl ?_)
 (refine Cx.neqS rfl rfl rfl ?_)
 (refine Cx.pickF rfl (by first | rfl | assumption | (exact decide_eq_true (by first | assumption | omega | rfl)) | (exact decide_eq_false (by first | assumption | omega | rfl)) | (simp; done) | (simp; omega)) rfl rfl ?_)
 (refine Cx.move rfl rfl ?_)
 (refine SegC.gY rfl rfl rfl ?_)
 (refine Cx.move rfl rfl ?_)
 (refine SegC.gY rfl rfl rfl ?_)
 (refine SegC.q (Qs.call (Lc := [_]) (Broken_ok _ _ _) (fun s L' h => h) (perm_erase (i := 1) rfl) (evs_args rfl)) rfl ?_)
 (refine SegC.gY rfl rfl rfl ?_)
 (refine Cx.move rfl rfl ?_)
 (refine SegC.gY rfl rfl rfl ?_)
 (refine Cx.neqB rfl rfl rfl ?_)
 (refine Cx.pickF rfl (by first | rfl | assumption | (exact decide_eq_true (by first | assumption | omega | rfl)) | (exact decide_eq_false (by first | assumption | omega | rfl)) | (simp; done) | (simp; omega)) rfl rfl ?_)
 (refine SegC.nil ?_)
 (refine N.seq (W.cF rfl ?_))
 (refine W.skip (N.seq (W.region (Jx.move rfl rfl ?_))))
 (refine Jx.add64 rfl rfl (by omega) rfl ?_; rw [e6])
 (refine Jx.assign rfl rfl (J.nil ?_))
 (refine id ?_; rotate_left))
              refine N.drop (List.sublist_cons_self _ _) ?_
              exact N.round (i + 1, d2, br, j) ⟨by simp only; omega, hd2⟩ (by simp only; omega) rfl ⟨ref0 rfl, ref0 rfl, ref0 rfl, ref0 rfl, ref0 rfl, ref0 rfl, trivial⟩
          · by_cases k4 : (l.getD i ac0).kind = 4
            · by_cases hz : 0 < (l.getD i ac0).batch.length
              · have hz' : (0 : Int) < ((l.getD i ac0).batch.length : Int) := by omega
                have hsl := hb2 _ (mem_getD (l.getD i ac0).batch [] hz)
                have hr := hd.r
                have cf := Dsk.append_ok b d ((l.getD i ac0).batch.getD 0 []) hd.f.2 hr hlen (by omega)
                have cr := Dsk.rappend_ok d hd ((l.getD i ac0).batch.getD 0 []) (by omega)
                have hd2 := hd.append ((l.getD i ac0).batch.getD 0 [])
                generalize (d.append ((l.getD i ac0).batch.getD 0 [])).1 = e at *
                generalize (d.append ((l.getD i ac0).batch.getD 0 [])).2 = d2 at *
                focus (
 (refine W.seq (W.seq (W.region (Jx.move rfl rfl (Jx.move rfl rfl (Jx.lenSl rfl rfl ?_))))))
 (refine Jx.lssI rfl rfl rfl (J.nil (N.seq (W.cT rfl ?_))))
 (refine W.skip (N.seq (W.seq (W.block (W.seq (W.region (Jx.assign rfl rfl (Jx.assign rfl rfl (J.nil (N.seq (W.seq (W.seq (W.region (Jx.move rfl rfl ?_))))))))))))))
 (refine Jx.move rfl rfl (Jx.indexEl rfl rfl (by assumption) rfl rfl ?_))
 (refine Jx.fieldEl rfl rfl rfl ?_)
 (refine Jx.loadPP rfl rfl ?_)
 (refine J.nil (N.seq (W.block (W.seq (W.region (Jx.eqlI rfl rfl rfl (Jx.assign rfl rfl (J.nil (N.seq (W.cF rfl ?_))))))))))
 (refine W.seq (W.region (Jx.eqlI rfl rfl rfl (Jx.assign rfl rfl (J.nil (N.seq (W.cF rfl ?_)))))))
 (refine W.seq (W.region (Jx.eqlI rfl rfl rfl (Jx.assign rfl rfl (J.nil (N.seq (W.cF rfl ?_)))))))
 (refine W.seq (W.region (Jx.eqlI rfl rfl rfl (Jx.assign rfl rfl (J.nil (N.seq (W.cF rfl ?_)))))))
 (refine W.seq (W.region (Jx.eqlI rfl rfl rfl (Jx.assign rfl rfl (J.nil (N.seq (W.cT rfl ?_)))))))
 (refine W.seq (W.region (Jx.move rfl rfl (Jx.move rfl rfl (Jx.indexEl rfl rfl (by assumption) rfl rfl ?_)))))
 (refine Jx.fieldEl rfl rfl rfl ?_)
 (refine Jx.loadPP rfl rfl ?_)
 (refine Jx.lenSl rfl rfl ?_)
 (refine Jx.gtrI rfl rfl rfl (J.nil (N.seq (W.cT rfl ?_))))
 (refine W.seq (W.region (Jx.move rfl rfl (Jx.move rfl rfl (Jx.move rfl rfl (Jx.indexEl rfl rfl (by assumption) rfl rfl ?_))))))
 (refine Jx.fieldEl rfl rfl rfl ?_)
 (refine Jx.loadPP rfl rfl ?_)
 (refine Jx.indexEl (j := 0) rfl rfl hz rfl rfl ?_)
 (refine Jx.loadPP rfl rfl ?_)
 (refine J.call1 1 cf rfl (evs_args rfl) rfl (by rintro _ _ ⟨rfl, rfl⟩; exact ⟨_, rfl⟩) ?_; rintro _ _ ⟨rfl, ⟨⟩⟩; simp only [la4, la5])
 (refine Jx.assign rfl rfl (J.nil (N.seq ?_)))
 (refine W.draw follows ?_)
 (refine JD.begin 14 rfl ?_; refine JP.more [0,1,2,3,4,5,6,7,8,9,10,11] _ rfl (by decide +kernel) ?_)
 (refine Cx.loadAll rfl 2 rfl rfl rfl ?_)
 (refine Cx.move rfl rfl ?_)
 (refine Cx.move rfl rfl ?_)
 (refine Cx.indexEl rfl rfl (by assumption) rfl rfl ?_)
 (refine Cx.fieldEl rfl rfl rfl ?_)
 (refine Cx.loadPP rfl rfl ?_)
 (refine Cx.indexEl (j := 0) rfl rfl hz rfl rfl ?_)
 (refine Cx.loadPP rfl rfl ?_)
 (refine SegC.q (Qs.call (Lc := []) (cr) (fun s L' h => h) (List.Perm.refl _) (evs_args rfl)) rfl ?_)
 (refine Cx.move rfl rfl ?_)
 (refine Cx.extract rfl rfl rfl ?_)
 (refine Cx.extract rfl rfl rfl ?_)
 (refine SegC.nil ?_)
 (refine JP.storeAll (idx := [0,1,2,3,4,5,6,7,8,9,10,11]) 12 [5,195] [0,1,2,3,4,5,6,7,8,9,10,12] [11] (by decide +kernel) rfl ?_ rfl rfl rfl 2 rfl rfl rfl ?_)
 (refine Cx.loadAll rfl 2 rfl rfl rfl ?_)
 (refine Cx.move rfl rfl ?_)
 (refine Cx.move rfl rfl ?_)
 (refine Cx.indexEl rfl rfl (by assumption) rfl rfl ?_)
 (refine Cx.fieldEl rfl rfl rfl ?_)
 (refine Cx.loadPP rfl rfl ?_)
 (refine Cx.indexEl (j := 0) rfl rfl hz rfl rfl ?_)
 (refine Cx.loadPP rfl rfl ?_)
 (refine SegC.q (Qs.call (Lc := []) (cr) (fun s L' h => h) (List.Perm.refl _) (evs_args rfl)) rfl ?_)
 (refine Cx.move rfl rfl ?_)
 (refine Cx.extract rfl rfl rfl ?_)
 (refine Cx.extract rfl rfl rfl ?_)
 (refine SegC.nil ?_)
 (refine Ag.cons rfl ?_)
 (refine Ag.cons rfl ?_)
 (refine Ag.cons rfl ?_)
 (refine Ag.cons rfl ?_)
 (refine Ag.cons rfl ?_)
 (refine Ag.cons rfl ?_)
 (refine Ag.cons rfl ?_)
 (refine Ag.cons rfl ?_)
 (refine Ag.cons rfl ?_)
 (refine Ag.cons rfl ?_)
 (refine Ag.cons rfl ?_)
 (refine Ag.cons rfl ?_)
 (refine Ag.nil)
 (refine JP.tail 13 (by decide +kernel) (by decide +kernel) rfl rfl ?_ ?_)
 (refine Cx.extract rfl rfl rfl ?_)
 (refine SegC.nil ?_)
 (refine Ag.cons rfl ?_)
 (refine Ag.nil)
 (refine Jx.assign rfl rfl (J.nil (N.seq (W.seq ?_))))
 (refine W.draw follows ?_)
 (refine JD.calm rfl (by decide +kernel) ?_)
 (refine Cx.move rfl rfl ?_)
 (refine Cx.move rfl rfl ?_)
 (refine Cx.neqI rfl rfl rfl ?_)
 (refine Cx.move rfl rfl ?_)
 (refine SegC.gY rfl rfl rfl ?_)
 (refine Cx.move rfl rfl ?_)
 (refine SegC.gY rfl rfl rfl ?_)
 (refine SegC.q (Qs.call (Lc := [_]) (Dsk.read_ok _ _) (fun s L' h => h) (perm_erase (i := 1) rfl) (evs_args rfl)) rfl ?_)
 (refine SegC.gY rfl rfl rfl ?_)
 (refine Cx.fieldAddr rfl rfl ?_)
 (refine SegC.gY rfl rfl rfl ?_)
 (refine Cx.load rfl 2 rfl rfl rfl ?_)
 (refine SegC.gY rfl rfl rfl ?_)
 (refine Cx.neqS rfl rfl rfl ?_)
 (refine Cx.pickF rfl (by first | rfl | assumption | (exact decide_eq_true (by first | assumption | omega | rfl)) | (exact decide_eq_false (by first | assumption | omega | rfl)) | (simp; done) | (simp; omega)) rfl rfl ?_)
 (refine Cx.move rfl rfl ?_)
 (refine SegC.gY rfl rfl rfl ?_)
 (refine Cx.move rfl rfl ?_)
 (refine SegC.gY rfl rfl rfl ?_)
 (refine SegC.q (Qs.call (Lc := [_]) (Broken_ok _ _ _) (fun s L' h => h) (perm_erase (i := 0) rfl) (evs_args rfl)) rfl ?_)
 (refine SegC.gY rfl rfl rfl ?_)
 (refine Cx.move rfl rfl ?_)
 (refine SegC.gY rfl rfl rfl ?_)
 (refine Cx.neqB rfl rfl rfl ?_)
 (refine Cx.pickF rfl (by first | rfl | assumption | (exact decide_eq_true (by first | assumption | omega | rfl)) | (exact decide_eq_false (by first | assumption | omega | rfl)) | (simp; done) | (simp; omega)) rfl rfl ?_)
 (refine SegC.nil ?_)
 (refine N.seq (W.cF rfl ?_))
 (refine W.skip (N.seq (W.region (Jx.move rfl rfl ?_))))
 (refine Jx.add64 rfl rfl (by omega) rfl ?_; rw [e6])
 (refine Jx.assign rfl rfl (J.nil ?_))
 (refine id ?_; rotate_left))
                exact N.round (i + 1, d2, br, j) ⟨by simp only; omega, hd2⟩ (by simp only; omega) rfl ⟨ref0 rfl, ref0 rfl, ref0 rfl, ref0 rfl, ref0 rfl, ref0 rfl, trivial⟩
              · have hz' : ¬ (0 : Int) < ((l.getD i ac0).batch.length : Int) := by omega
                focus (
 (refine W.seq (W.seq (W.region (Jx.move rfl rfl (Jx.move rfl rfl (Jx.lenSl rfl rfl ?_))))))
 (refine Jx.lssI rfl rfl rfl (J.nil (N.seq (W.cT rfl ?_))))
 (refine W.skip (N.seq (W.seq (W.block (W.seq (W.region (Jx.assign rfl rfl (Jx.assign rfl rfl (J.nil (N.seq (W.seq (W.seq (W.region (Jx.move rfl rfl ?_))))))))))))))
 (refine Jx.move rfl rfl (Jx.indexEl rfl rfl (by assumption) rfl rfl ?_))
 (refine Jx.fieldEl rfl rfl rfl ?_)
 (refine Jx.loadPP rfl rfl ?_)
 (refine J.nil (N.seq (W.block (W.seq (W.region (Jx.eqlI rfl rfl rfl (Jx.assign rfl rfl (J.nil (N.seq (W.cF rfl ?_))))))))))
 (refine W.seq (W.region (Jx.eqlI rfl rfl rfl (Jx.assign rfl rfl (J.nil (N.seq (W.cF rfl ?_)))))))
 (refine W.seq (W.region (Jx.eqlI rfl rfl rfl (Jx.assign rfl rfl (J.nil (N.seq (W.cF rfl ?_)))))))
 (refine W.seq (W.region (Jx.eqlI rfl rfl rfl (Jx.assign rfl rfl (J.nil (N.seq (W.cF rfl ?_)))))))
 (refine W.seq (W.region (Jx.eqlI rfl rfl rfl (Jx.assign rfl rfl (J.nil (N.seq (W.cT rfl ?_)))))))
 (refine W.seq (W.region (Jx.move rfl rfl (Jx.move rfl rfl (Jx.indexEl rfl rfl (by assumption) rfl rfl ?_)))))
 (refine Jx.fieldEl rfl rfl rfl ?_)
 (refine Jx.loadPP rfl rfl ?_)
 (refine Jx.lenSl rfl rfl ?_)
 (refine Jx.gtrI rfl rfl rfl (J.nil (N.seq (W.cF rfl ?_))))
 (refine W.skip (N.seq (W.seq ?_)))
 (refine W.draw follows ?_)
 (refine JD.calm rfl (by decide +kernel) ?_)
 (refine Cx.move rfl rfl ?_)
 (refine Cx.move rfl rfl ?_)
 (refine Cx.neqI rfl rfl rfl ?_)
 (refine Cx.move rfl rfl ?_)
 (refine SegC.gY rfl rfl rfl ?_)
 (refine Cx.move rfl rfl ?_)
 (refine SegC.gY rfl rfl rfl ?_)
 (refine SegC.q (Qs.call (Lc := [_]) (Dsk.read_ok _ _) (fun s L' h => h) (perm_erase (i := 1) rfl) (evs_args rfl)) rfl ?_)
 (refine SegC.gY rfl rfl rfl ?_)
 (refine Cx.fieldAddr rfl rfl ?_)
 (refine SegC.gY rfl rfl rfl ?_)
 (refine Cx.load rfl 2 rfl rfl rfl ?_)
 (refine SegC.gY rfl rfl rfl ?_)
 (refine Cx.neqS rfl rfl rfl ?_)
 (refine Cx.pickF rfl (by first | rfl | assumption | (exact decide_eq_true (by first | assumption | omega | rfl)) | (exact decide_eq_false (by first | assumption | omega | rfl)) | (simp; done) | (simp; omega)) rfl rfl ?_)
 (refine Cx.move rfl rfl ?_)
 (refine SegC.gY rfl rfl rfl ?_)
 (refine Cx.move rfl rfl ?_)
 (refine SegC.gY rfl rfl rfl ?_)
 (refine SegC.q (Qs.call (Lc := [_]) (Broken_ok _ _ _) (fun s L' h => h) (perm_erase (i := 0) rfl) (evs_args rfl)) rfl ?_)
 (refine SegC.gY rfl rfl rfl ?_)
 (refine Cx.move rfl rfl ?_)
 (refine SegC.gY rfl rfl rfl ?_)
 (refine Cx.neqB rfl rfl rfl ?_)
 (refine Cx.pickF rfl (by first | rfl | assumption | (exact decide_eq_true (by first | assumption | omega | rfl)) | (exact decide_eq_false (by first | assumption | omega | rfl)) | (simp; done) | (simp; omega)) rfl rfl ?_)
 (refine SegC.nil ?_)
 (refine N.seq (W.cF rfl ?_))
 (refine W.skip (N.seq (W.region (Jx.move rfl rfl ?_))))
 (refine Jx.add64 rfl rfl (by omega) rfl ?_; rw [e6])
 (refine Jx.assign rfl rfl (J.nil ?_))
 (refine id ?_; rotate_left))
                exact N.round (i + 1, d, br, j) ⟨by simp only; omega, hd⟩ (by simp only; omega) rfl ⟨ref0 rfl, ref0 rfl, ref0 rfl, ref0 rfl, ref0 rfl, ref0 rfl, trivial⟩
            · focus (
 (refine W.seq (W.seq (W.region (Jx.move rfl rfl (Jx.move rfl rfl (Jx.lenSl rfl rfl ?_))))))
 (refine Jx.lssI rfl rfl rfl (J.nil (N.seq (W.cT rfl ?_))))
 (refine W.skip (N.seq (W.seq (W.block (W.seq (W.region (Jx.assign rfl rfl (Jx.assign rfl rfl (J.nil (N.seq (W.seq (W.seq (W.region (Jx.move rfl rfl ?_))))))))))))))
 (refine Jx.move rfl rfl (Jx.indexEl rfl rfl (by assumption) rfl rfl ?_))
 (refine Jx.fieldEl rfl rfl rfl ?_)
 (refine Jx.loadPP rfl rfl ?_)
 (refine J.nil (N.seq (W.block (W.seq (W.region (Jx.eqlI rfl rfl rfl (Jx.assign rfl rfl (J.nil (N.seq (W.cF rfl ?_))))))))))
 (refine W.seq (W.region (Jx.eqlI rfl rfl rfl (Jx.assign rfl rfl (J.nil (N.seq (W.cF rfl ?_)))))))
 (refine W.seq (W.region (Jx.eqlI rfl rfl rfl (Jx.assign rfl rfl (J.nil (N.seq (W.cF rfl ?_)))))))
 (refine W.seq (W.region (Jx.eqlI rfl rfl rfl (Jx.assign rfl rfl (J.nil (N.seq (W.cF rfl ?_)))))))
 (refine W.seq (W.region (Jx.eqlI rfl rfl rfl (Jx.assign rfl rfl (J.nil (N.seq (W.cF rfl ?_)))))))
 (refine W.skip (N.seq (W.seq ?_)))
 (refine W.draw follows ?_)
 (refine JD.calm rfl (by decide +kernel) ?_)
 (refine Cx.move rfl rfl ?_)
 (refine Cx.move rfl rfl ?_)
 (refine Cx.neqI rfl rfl rfl ?_)
 (refine Cx.move rfl rfl ?_)
 (refine SegC.gY rfl rfl rfl ?_)
 (refine Cx.move rfl rfl ?_)
 (refine SegC.gY rfl rfl rfl ?_)
 (refine SegC.q (Qs.call (Lc := [_]) (Dsk.read_ok _ _) (fun s L' h => h) (perm_erase (i := 1) rfl) (evs_args rfl)) rfl ?_)
 (refine SegC.gY rfl rfl rfl ?_)
 (refine Cx.fieldAddr rfl rfl ?_)
 (refine SegC.gY rfl rfl rfl ?_)
 (refine Cx.load rfl 2 rfl rfl rfl ?_)
 (refine SegC.gY rfl rfl rfl ?_)
 (refine Cx.neqS rfl rfl rfl ?_)
 (refine Cx.pickF rfl (by first | rfl | assumption | (exact decide_eq_true (by first | assumption | omega | rfl)) | (exact decide_eq_false (by first | assumption | omega | rfl)) | (simp; done) | (simp; omega)) rfl rfl ?_)
 (refine Cx.move rfl rfl ?_)
 (refine SegC.gY rfl rfl rfl ?_)
 (refine Cx.move rfl rfl ?_)
 (refine SegC.gY rfl rfl rfl ?_)
 (refine SegC.q (Qs.call (Lc := [_]) (Broken_ok _ _ _) (fun s L' h => h) (perm_erase (i := 0) rfl) (evs_args rfl)) rfl ?_)
 (refine SegC.gY rfl rfl rfl ?_)
 (refine Cx.move rfl rfl ?_)
 (refine SegC.gY rfl rfl rfl ?_)
 (refine Cx.neqB rfl rfl rfl ?_)
 (refine Cx.pickF rfl (by first | rfl | assumption | (exact decide_eq_true (by first | assumption | omega | rfl)) | (exact decide_eq_false (by first | assumption | omega | rfl)) | (simp; done) | (simp; omega)) rfl rfl ?_)
 (refine SegC.nil ?_)
 (refine N.seq (W.cF rfl ?_))
 (refine W.skip (N.seq (W.region (Jx.move rfl rfl ?_))))
 (refine Jx.add64 rfl rfl (by omega) rfl ?_; rw [e6])
 (refine Jx.assign rfl rfl (J.nil ?_))
 (refine id ?_; rotate_left))
              exact N.round (i + 1, d, br, j) ⟨by simp only; omega, hd⟩ (by simp only; omega) rfl ⟨ref0 rfl, ref0 rfl, ref0 rfl, ref0 rfl, ref0 rfl, ref0 rfl, trivial⟩
  · have h1' : ¬ (i : Int) < (l.length : Int) := by omega
    focus (
 (refine W.seq (W.seq (W.region (Jx.move rfl rfl (Jx.move rfl rfl (Jx.lenSl rfl rfl ?_))))))
 (refine Jx.lssI rfl rfl rfl (J.nil (N.seq (W.cF rfl ?_))))
 (refine W.exit (N.seq (W.seq (W.region ?_))))
 (refine J.call (works_ok) rfl (evs_args rfl) rfl ?_; rintro _ _ ⟨rfl, rfl⟩; simp only [la1, la2, la3])
 (refine Jx.assign rfl rfl (J.nil (N.seq (W.ret ?_))))
 (refine id ?_; rotate_left))
    exact N.retD (rs := [.tmp 2]) (L1 := []) rfl (.tmp rfl .nil) (List.nil_sublist _) ⟨rfl, rfl⟩
end Go.Proofs.YtbdkenlkimiddaaDoor
