/-
  What the disk's other functions do, and those of the book and of the document's disk.
-/
import Derived.Test.YtjnegpicpaolpaaDiskB
namespace Go.Proofs.Ytjnegpicpaolpaa
open Go Go.Sse
set_option linter.unusedVariables false
set_option linter.unusedSimpArgs false

def Dk.fresh (room : Int) : Dk := ⟨[], 0, room, -1, false⟩

theorem nil_bsl : Sub (.val (.slice none 0 0)) (bsl []) := Sub.nil 1 _

theorem new_ok (room : Int) (h : 0 ≤ room ∧ room ≤ 1048576) : FnC Try.prog 16 [int room] [] (fun s L => ∃ b, s = .tup [ptr b, int 0] ∧ L = [dk b (Dk.fresh room)]) := by
  refine FnC.intro Try.func16 rfl Try.ntmps16 rfl fun Z w0 hG => ?_
  obtain ⟨h0, h1⟩ := h
  focus (
    (refine W.seq ?_)
    (refine W.region ?_)
    (refine Jx.assign rfl rfl ?_)
    (refine Jx.assign rfl rfl ?_)
    (refine J.nil ?_)
    (refine N.seq ?_)
    (refine W.seq ?_)
    (refine W.seq ?_)
    (refine W.region ?_)
    (refine Jx.move rfl rfl ?_)
    (refine Jx.lssI rfl rfl rfl ?_)
    (refine Jx.move rfl rfl ?_)
    (refine J.guardYes rfl rfl rfl (by first | rfl | assumption | (simp; done) | (simp; omega)) ?_)
    (refine Jx.move rfl rfl ?_)
    (refine J.guardYes rfl rfl rfl (by first | rfl | assumption | (simp; done) | (simp; omega)) ?_)
    (refine Jx.gtrI rfl rfl rfl ?_)
    (refine Jx.pickF rfl (by first | rfl | assumption | (simp; done) | (simp; omega)) rfl rfl ?_)
    (refine J.nil ?_)
    (refine N.seq ?_)
    (refine W.condF rfl (by first | rfl | assumption | (simp; done) | (simp; omega)) ?_)
    (refine W.skip ?_)
    (refine N.seq ?_)
    (refine W.seq ?_)
    (refine W.region ?_)
    (refine Jx.move rfl rfl ?_)
    (refine Jx.buildB rfl rfl rfl rfl rfl ?_)
    (refine J.boxAg rfl rfl ?_; intro b')
    (refine Jx.assign rfl rfl ?_)
    (refine Jx.assign rfl rfl ?_)
    (refine J.nil ?_)
    (refine N.seq ?_)
    (refine W.ret ?_)
    (refine id ?_; rotate_left))
  refine N.objSub 0 _ rfl (.cons nil_bsl (.cons (Sub.refl _) (.cons (Sub.refl _) (.cons (Sub.refl _) (.cons (Sub.refl _) .nil))))) rfl ?_
  exact N.ret (rs := [.tmp 2, .tmp 3]) rfl (.tmp rfl (.tmp rfl .nil)) ⟨_, rfl, rfl⟩

theorem new_no (room : Int) (h : room < 0 ∨ 1048576 < room) : FnC Try.prog 16 [int room] [] (fun s L => s = .tup [.val (.pointer none), int 1] ∧ L = []) := by
  refine FnC.intro Try.func16 rfl Try.ntmps16 rfl fun Z w0 hG => ?_
  by_cases h0 : room < 0
  · focus (
    (refine W.seq ?_)
    (refine W.region ?_)
    (refine Jx.assign rfl rfl ?_)
    (refine Jx.assign rfl rfl ?_)
    (refine J.nil ?_)
    (refine N.seq ?_)
    (refine W.seq ?_)
    (refine W.seq ?_)
    (refine W.region ?_)
    (refine Jx.move rfl rfl ?_)
    (refine Jx.lssI rfl rfl rfl ?_)
    (refine Jx.move rfl rfl ?_)
    (refine J.guardNo rfl rfl rfl (by first | rfl | assumption | (simp; done) | (simp; omega)) rfl ?_)
    (refine J.guardNo rfl rfl rfl (by first | rfl | assumption | (simp; done) | (simp; omega)) rfl ?_)
    (refine Jx.pickT rfl (by first | rfl | assumption | (simp; done) | (simp; omega)) rfl rfl ?_)
    (refine J.nil ?_)
    (refine N.seq ?_)
    (refine W.condT rfl (by first | rfl | assumption | (simp; done) | (simp; omega)) ?_)
    (refine W.seq ?_)
    (refine W.region ?_)
    (refine Jx.assign rfl rfl ?_)
    (refine Jx.assign rfl rfl ?_)
    (refine J.nil ?_)
    (refine N.seq ?_)
    (refine W.ret ?_)
    (refine N.seqRet ?_)
    (refine id ?_; rotate_left))
    exact N.ret (rs := [.tmp 2, .tmp 3]) rfl (.tmp rfl (.tmp rfl .nil)) ⟨rfl, rfl⟩
  · have h1 : 1048576 < room := by omega
    focus (
    (refine W.seq ?_)
    (refine W.region ?_)
    (refine Jx.assign rfl rfl ?_)
    (refine Jx.assign rfl rfl ?_)
    (refine J.nil ?_)
    (refine N.seq ?_)
    (refine W.seq ?_)
    (refine W.seq ?_)
    (refine W.region ?_)
    (refine Jx.move rfl rfl ?_)
    (refine Jx.lssI rfl rfl rfl ?_)
    (refine Jx.move rfl rfl ?_)
    (refine J.guardYes rfl rfl rfl (by first | rfl | assumption | (simp; done) | (simp; omega)) ?_)
    (refine Jx.move rfl rfl ?_)
    (refine J.guardYes rfl rfl rfl (by first | rfl | assumption | (simp; done) | (simp; omega)) ?_)
    (refine Jx.gtrI rfl rfl rfl ?_)
    (refine Jx.pickF rfl (by first | rfl | assumption | (simp; done) | (simp; omega)) rfl rfl ?_)
    (refine J.nil ?_)
    (refine N.seq ?_)
    (refine W.condT rfl (by first | rfl | assumption | (simp; done) | (simp; omega)) ?_)
    (refine W.seq ?_)
    (refine W.region ?_)
    (refine Jx.assign rfl rfl ?_)
    (refine Jx.assign rfl rfl ?_)
    (refine J.nil ?_)
    (refine N.seq ?_)
    (refine W.ret ?_)
    (refine N.seqRet ?_)
    (refine id ?_; rotate_left))
    exact N.ret (rs := [.tmp 2, .tmp 3]) rfl (.tmp rfl (.tmp rfl .nil)) ⟨rfl, rfl⟩

/-- A disk may be so. -/
structure Dk.ok (d : Dk) : Prop where
  s0 : 0 ≤ d.safe
  s1 : d.safe ≤ d.bytes.length
  r : 0 ≤ d.room ∧ d.room ≤ 1048576
  b : (d.bytes.length : Int) ≤ d.room
  f : -1 ≤ d.fuse ∧ d.fuse ≤ 9223372036854775807

def Dk.left (d : Dk) (keep : Int) : Int := d.safe + (if (d.bytes.length - d.safe : Int) < (if (0 : Int) > keep then 0 else keep) then (d.bytes.length - d.safe : Int) else (if (0 : Int) > keep then 0 else keep))
def Dk.crash (d : Dk) (keep : Int) : Dk := ⟨d.bytes.take (d.left keep).toNat, d.left keep, d.room, -1, false⟩

theorem Dk.left_bd {d : Dk} (h : d.ok) (keep : Int) : d.safe ≤ d.left keep ∧ d.left keep ≤ d.bytes.length := by
  have h0 := h.s0; have h1 := h.s1
  unfold Dk.left
  split <;> split <;> omega

set_option maxHeartbeats 4000000 in
theorem crash_ok (b : Nat) (d : Dk) (h : d.ok) (keep : Int) : FnC Try.prog 11 [ptr b, int keep] [dk b d] (fun s L => L = [dk b (d.crash keep)]) := by
  refine FnC.intro Try.func11 rfl Try.ntmps11 rfl fun Z w0 hG => ?_
  obtain ⟨hl0, hl1⟩ := Dk.left_bd h keep
  have h0 := h.s0; have h1 := h.s1; have hr := h.r; have hb := h.b
  focus (
    (refine W.seq ?_)
    (refine W.draw follows ?_)
    (refine JD.calm rfl (by decide +kernel) ?_)
    (refine Cx.move rfl rfl ?_)
    (refine Cx.nilCheck rfl rfl ?_)
    (refine Cx.fieldAddr rfl rfl ?_)
    (refine Cx.load rfl 0 rfl rfl rfl ?_)
    (refine Cx.lenSl rfl rfl ?_)
    (refine Cx.move rfl rfl ?_)
    (refine Cx.nilCheck rfl rfl ?_)
    (refine Cx.fieldAddr rfl rfl ?_)
    (refine Cx.load rfl 0 rfl rfl rfl ?_)
    (refine Cx.sub64 rfl rfl (by omega) rfl ?_)
    (refine Cx.assign rfl rfl ?_)
    (refine SegC.nil ?_)
    (refine N.seq ?_)
    (refine W.seq ?_)
    (refine W.region ?_)
    (refine Jx.move rfl rfl ?_)
    (refine Jx.nilCheck rfl rfl ?_)
    (refine Jx.fieldAddr rfl rfl ?_)
    (refine Jx.load rfl 0 rfl rfl rfl ?_)
    (refine Jx.move rfl rfl ?_)
    (refine Jx.max rfl rfl rfl ?_)
    (refine Jx.move rfl rfl ?_)
    (refine Jx.min rfl rfl rfl ?_)
    (refine Jx.add64 rfl rfl (by constructor <;> (unfold Dk.left at hl0 hl1; omega)) rfl ?_)
    (refine Jx.assign rfl rfl ?_)
    (refine J.nil ?_)
    (refine N.seq ?_)
    (refine W.seq ?_)
    (refine W.region ?_)
    (refine Jx.move rfl rfl ?_)
    (refine Jx.move rfl rfl ?_)
    (refine Jx.nilCheck rfl rfl ?_)
    (refine Jx.fieldAddr rfl rfl ?_)
    (refine Jx.load rfl 0 rfl rfl rfl ?_)
    (refine Jx.move rfl rfl ?_)
    (refine Jx.move rfl rfl ?_)
    (refine Jx.clip rfl rfl rfl (show 0 ≤ d.left keep by omega) (show d.left keep ≤ _ from hl1) rfl ?_)
    (refine Jx.nilCheck rfl rfl ?_)
    (refine Jx.fieldAddr rfl rfl ?_)
    (refine J.store rfl rfl (by first | exact One.val rfl | exact One.sl | exact One.pp | exact One.slc) 0 rfl rfl rfl rfl ?_)
    (refine J.nil ?_)
    (refine N.seq ?_)
    (refine W.region ?_)
    (refine Jx.move rfl rfl ?_)
    (refine Jx.move rfl rfl ?_)
    (refine Jx.move rfl rfl ?_)
    (refine Jx.move rfl rfl ?_)
    (refine Jx.nilCheck rfl rfl ?_)
    (refine Jx.fieldAddr rfl rfl ?_)
    (refine J.store rfl rfl (by first | exact One.val rfl | exact One.sl | exact One.pp | exact One.slc) 0 rfl rfl rfl rfl ?_)
    (refine Jx.nilCheck rfl rfl ?_)
    (refine Jx.fieldAddr rfl rfl ?_)
    (refine J.store rfl rfl (by first | exact One.val rfl | exact One.sl | exact One.pp | exact One.slc) 0 rfl rfl rfl rfl ?_)
    (refine Jx.nilCheck rfl rfl ?_)
    (refine Jx.fieldAddr rfl rfl ?_)
    (refine J.store rfl rfl (by first | exact One.val rfl | exact One.sl | exact One.pp | exact One.slc) 0 rfl rfl rfl rfl ?_)
    (refine J.nil ?_)
    (refine id ?_; rotate_left))
  refine N.objSub 0 _ rfl (.cons (slc_take d.bytes (d.left keep).toNat (by omega)) (.cons (Sub.refl _) (.cons (Sub.refl _) (.cons (Sub.refl _) (.cons (Sub.refl _) .nil))))) rfl ?_
  exact N.fin (rs := []) rfl .nil rfl

theorem slc_all (l : List UInt8) : Sub (.slc 1 l.length (elOf encB 0 l)) (bsl l) := Sub.slc

theorem fork_ok (b : Nat) (d : Dk) : FnC Try.prog 20 [ptr b] [dk b d] (fun s L => ∃ c, s = ptr c ∧ L = [dk c d, dk b d]) := by
  refine FnC.intro Try.func20 rfl Try.ntmps20 rfl fun Z w0 hG => ?_
  focus (
    (refine W.seq ?_)
    (refine W.region ?_)
    (refine Jx.assign rfl rfl ?_)
    (refine J.nil ?_)
    (refine N.seq ?_)
    (refine W.seq ?_)
    (refine W.region ?_)
    (refine Jx.move rfl rfl ?_)
    (refine Jx.nilCheck rfl rfl ?_)
    (refine Jx.loadAll rfl 0 rfl rfl rfl ?_)
    (refine J.alloc (by simp only [List.map_cons, List.map_nil]; rfl) rfl rfl ?_; intro b')
    (refine J.storeAll rfl rfl rfl 0 rfl rfl rfl ?_)
    (refine J.nil ?_)
    (refine N.seq ?_)
    (refine W.seq ?_)
    (refine W.region ?_)
    (refine Jx.move rfl rfl ?_)
    (refine Jx.nilCheck rfl rfl ?_)
    (refine Jx.fieldAddr rfl rfl ?_)
    (refine Jx.load rfl 1 rfl rfl rfl ?_)
    (refine Jx.lenSl rfl rfl ?_)
    (refine Jx.assign rfl rfl ?_)
    (refine J.nil ?_)
    (refine N.seq ?_)
    (refine W.seq ?_)
    (refine W.region ?_)
    (refine Jx.move rfl rfl ?_)
    (refine Jx.nilCheck rfl rfl ?_)
    (refine Jx.fieldAddr rfl rfl ?_)
    (refine Jx.load rfl 1 rfl rfl rfl ?_)
    (refine Jx.move rfl rfl ?_)
    (refine Jx.move rfl rfl ?_)
    (refine Jx.clip rfl rfl rfl (by omega) (by omega) rfl ?_)
    (refine Jx.fieldAddr rfl rfl ?_)
    (refine J.store rfl rfl (by first | exact One.val rfl | exact One.sl | exact One.pp | exact One.slc) 0 rfl rfl rfl rfl ?_)
    (refine J.nil ?_)
    (refine N.seq ?_)
    (refine W.seq ?_)
    (refine W.region ?_)
    (refine Jx.assign rfl rfl ?_)
    (refine J.nil ?_)
    (refine N.seq ?_)
    (refine W.ret ?_)
    (refine id ?_; rotate_left))
  refine N.objSub 0 _ rfl (.cons (slc_all d.bytes) (.cons (Sub.refl _) (.cons (Sub.refl _) (.cons (Sub.refl _) (.cons (Sub.refl _) .nil))))) rfl ?_
  exact N.ret (rs := [.tmp 2]) rfl (.tmp rfl .nil) ⟨_, rfl, rfl⟩

theorem below_ok (x n : Int) (hx : -9223372036854775808 ≤ x ∧ x ≤ 9223372036854775807) (hn : 0 < n ∧ n ≤ 1000000) : FnC Try.prog 14 [int x, int n] [] (fun s L => s = int (x % n) ∧ L = []) := by
  refine FnC.intro Try.func14 rfl Try.ntmps14 rfl fun Z w0 hG => ?_
  have h1 := Int.emod_nonneg (x.tmod n + n) (show n ≠ 0 by omega)
  have h2 : -n < x.tmod n ∧ x.tmod n < n := by
    have a := Int.tmod_lt_of_pos x hn.1
    have c := Int.lt_tmod_of_pos x hn.1
    omega
  have h3 : (x.tmod n + n) % n = x % n := by
    rw [Int.tmod_eq_emod]
    split
    · simp
    · rw [show (n.natAbs : Int) = n by omega, Int.sub_add_cancel, Int.emod_emod_of_dvd _ (Int.dvd_refl n)]
  focus (
    (refine W.seq ?_)
    (refine W.region ?_)
    (refine Jx.assign rfl rfl ?_)
    (refine J.nil ?_)
    (refine N.seq ?_)
    (refine W.seq ?_)
    (refine W.region ?_)
    (refine Jx.move rfl rfl ?_)
    (refine Jx.move rfl rfl ?_)
    (refine Jx.rem rfl rfl (by omega) rfl ?_)
    (refine Jx.move rfl rfl ?_)
    (refine Jx.add64 rfl rfl (by omega) rfl ?_)
    (refine Jx.move rfl rfl ?_)
    (refine Jx.rem rfl rfl (by omega) rfl ?_)
    (refine Jx.assign rfl rfl ?_)
    (refine J.nil ?_)
    (refine N.seq ?_)
    (refine W.ret ?_)
    (refine id ?_; rotate_left))
  refine N.ret (rs := [.tmp 4]) rfl (.tmp rfl .nil) ⟨?_, rfl⟩
  rw [oneOr, Int.tmod_eq_emod_of_nonneg (by omega), h3]

theorem bcut_ok (s : List UInt8) (n : Int) (hn : 0 ≤ n) : FnC Try.prog 15 [str s, int n] [] (fun r L => r = str (s.take n.toNat) ∧ L = []) := by
  refine FnC.intro Try.func15 rfl Try.ntmps15 rfl fun Z w0 hG => ?_
  by_cases h : n < s.length
  · focus (
    (refine W.seq ?_)
    (refine W.region ?_)
    (refine Jx.assign rfl rfl ?_)
    (refine J.nil ?_)
    (refine N.seq ?_)
    (refine W.seq ?_)
    (refine W.seq ?_)
    (refine W.region ?_)
    (refine Jx.move rfl rfl ?_)
    (refine Jx.lenS rfl rfl ?_)
    (refine Jx.move rfl rfl ?_)
    (refine Jx.gtrI rfl rfl rfl ?_)
    (refine J.nil ?_)
    (refine N.seq ?_)
    (refine W.condT rfl (by first | rfl | assumption | (simp; done) | (simp; omega)) ?_)
    (refine W.seq ?_)
    (refine W.region ?_)
    (refine Jx.move rfl rfl ?_)
    (refine Jx.move rfl rfl ?_)
    (refine Jx.sliceSh rfl rfl (by omega) (by omega) rfl ?_)
    (refine Jx.assign rfl rfl ?_)
    (refine J.nil ?_)
    (refine N.seq ?_)
    (refine W.ret ?_)
    (refine N.seqRet ?_)
    (refine id ?_; rotate_left))
    exact N.ret (rs := [.tmp 4]) rfl (.tmp rfl .nil) ⟨rfl, rfl⟩
  · focus (
    (refine W.seq ?_)
    (refine W.region ?_)
    (refine Jx.assign rfl rfl ?_)
    (refine J.nil ?_)
    (refine N.seq ?_)
    (refine W.seq ?_)
    (refine W.seq ?_)
    (refine W.region ?_)
    (refine Jx.move rfl rfl ?_)
    (refine Jx.lenS rfl rfl ?_)
    (refine Jx.move rfl rfl ?_)
    (refine Jx.gtrI rfl rfl rfl ?_)
    (refine J.nil ?_)
    (refine N.seq ?_)
    (refine W.condF rfl (by first | rfl | assumption | (simp; done) | (simp; omega)) ?_)
    (refine W.skip ?_)
    (refine N.seq ?_)
    (refine W.seq ?_)
    (refine W.region ?_)
    (refine Jx.move rfl rfl ?_)
    (refine Jx.assign rfl rfl ?_)
    (refine J.nil ?_)
    (refine N.seq ?_)
    (refine W.ret ?_)
    (refine id ?_; rotate_left))
    exact N.ret (rs := [.tmp 4]) rfl (.tmp rfl .nil) ⟨by rw [oneOr, List.take_of_length_le (by omega)], rfl⟩
end Go.Proofs.Ytjnegpicpaolpaa
