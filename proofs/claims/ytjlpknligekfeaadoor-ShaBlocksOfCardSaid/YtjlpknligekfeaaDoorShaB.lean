/-
  What the spreading of a block's words does.
-/
import Derived.Test.YtjlpknligekfeaaDoorShaA
namespace Go.Proofs.YtjlpknligekfeaaDoor
open Go Go.Sse
set_option linter.unusedVariables false
set_option linter.unusedSimpArgs false

/-- The table of 64 words, so far. -/
def tab (b : List UInt8) (i : Nat) : List Wd := sched b i ++ List.replicate (64 - i) 0
theorem tab_len (b : List UInt8) (i : Nat) (h : i ≤ 64) : (tab b i).length = 64 := by simp [tab, sched_len]; omega
theorem tab_get (b : List UInt8) (i j : Nat) (h : j < i) : (tab b i).getD j 0 = (sched b i).getD j 0 := by
  simp only [tab, List.getD_eq_getElem?_getD]; rw [List.getElem?_append_left (by rw [sched_len]; exact h)]
theorem tab_set (b : List UInt8) (i : Nat) (h : i < 64) (v : Wd) (hv : v = if i < 16 then word b i else nextW (sched b i) i) : (tab b i).set i v = tab b (i + 1) := by
  subst hv
  unfold tab
  rw [List.set_append_right _ _ (by rw [sched_len]; exact Nat.le_refl _), sched_len, Nat.sub_self, show 64 - i = (64 - (i + 1)) + 1 by omega, List.replicate_succ, List.set_cons_zero]
  simp [sched]
theorem tab_next (b : List UInt8) (i : Nat) (h : 16 ≤ i) : (tab b i).getD (i - 16) 0 + (rot ((tab b i).getD (i - 15) 0) 7 ^^^ rot ((tab b i).getD (i - 15) 0) 18 ^^^ (tab b i).getD (i - 15) 0 >>> 3) + (tab b i).getD (i - 7) 0 + (rot ((tab b i).getD (i - 2) 0) 17 ^^^ rot ((tab b i).getD (i - 2) 0) 19 ^^^ (tab b i).getD (i - 2) 0 >>> 10) = nextW (sched b i) i := by
  rw [tab_get _ _ _ (by omega), tab_get _ _ _ (by omega), tab_get _ _ _ (by omega), tab_get _ _ _ (by omega)]; rfl

abbrev tabO (p : Nat) (ws : List Wd) : Own := .obj p 45 (ws.map u32)
abbrev blkO (p : Nat) (bs : List UInt8) : Own := .obj p 24 (bs.map byte)

set_option maxHeartbeats 2000000 in
theorem spread_ok (bs : List UInt8) (hb : bs.length = 64) : FnC Tryd.prog 20 [.agg (bs.map byte)] [] (fun s L => s = .agg ((sched bs 64).map u32) ∧ L = []) := by
  refine FnC.intro Tryd.func20 rfl Tryd.ntmps20 rfl fun Z w0 hG => ?_
  focus (
    (refine W.seq ?_)
    (refine W.region ?_)
    (refine J.boxAg rfl rfl ?_; intro b')
    (refine J.alloc (by simp only [List.map_cons, List.map_nil]; rfl) rfl rfl ?_; intro b')
    (refine J.nil ?_)
    (refine N.seq ?_)
    (refine W.seq ?_)
    (refine W.region ?_)
    (refine J.alloc (by simp only [List.map_cons, List.map_nil]; rfl) rfl rfl ?_; intro b')
    (refine J.nil ?_)
    (refine N.seq ?_)
    (refine W.seq ?_)
    (refine W.seq ?_)
    (refine W.region ?_)
    (refine Jx.move rfl rfl ?_)
    (refine J.nil ?_)
    (refine N.seq ?_)
    (refine W.block ?_)
    (refine id ?_; rotate_left))
  rename_i p1 p2
  refine W.loop (α := Nat × List Wd) (fun x => [(8, int x.1), (3, ptr b'), (2, ptr p2), (1, ptr p1)]) (fun x => [tabO b' x.2, tabO p2 (tab bs 0), blkO p1 bs]) (fun x => x.1 ≤ 16 ∧ x.2 = tab bs x.1) (fun x => 16 - x.1) (0, tab bs 0) ⟨by omega, rfl⟩ rfl ⟨ref0 rfl, ref0 rfl, ref0 rfl, ref0 rfl, trivial⟩ ?_
  have hz : (tab bs 0).length = 64 := tab_len bs 0 (by omega)
  generalize tab bs 0 = zs at *
  rintro ⟨i, ws⟩ ⟨hi, hw⟩
  simp only at hi hw ⊢
  have hl : ws.length = 64 := by rw [hw]; exact tab_len bs i (by omega)
  by_cases h : i < 16
  · focus (
    (refine W.seq ?_)
    (refine W.region ?_)
    (refine Jx.lssI rfl rfl rfl ?_)
    (refine J.nil ?_)
    (refine N.seq ?_)
    (refine W.seq ?_)
    (refine W.condT rfl (by first | rfl | assumption | (exact decide_eq_true (by first | assumption | omega | rfl)) | (exact decide_eq_false (by first | assumption | omega | rfl)) | (simp; done) | (simp; omega)) ?_)
    (refine W.skip ?_)
    (refine N.seq ?_)
    (refine W.seq ?_)
    (refine W.block ?_)
    (refine W.seq ?_)
    (refine W.region ?_)
    (refine Jx.move rfl rfl ?_)
    (refine Jx.assign rfl rfl ?_)
    (refine J.nil ?_)
    (refine N.seq ?_)
    (refine W.draw follows ?_)
    (refine JD.upto (n := 31) rfl (by decide +kernel) (by decide +kernel) rfl rfl ?_)
    (refine Cx.move rfl rfl ?_)
    (refine Cx.move rfl rfl ?_)
    (refine Cx.mul64 rfl rfl (by omega) rfl ?_)
    (refine Cx.index0 (4 * i) rfl rfl (by omega) (by omega) rfl ?_)
    (refine Cx.loadA byte 0 rfl 2 rfl (by omega) rfl ?_)
    (refine Cx.byteWord rfl rfl rfl ?_)
    (refine Cx.shlU rfl rfl (by decide) rfl ?_)
    (refine Cx.move rfl rfl ?_)
    (refine Cx.mul64 rfl rfl (by omega) rfl ?_)
    (refine Cx.add64 rfl rfl (by omega) rfl ?_)
    (refine Cx.index0 (4 * i + 1) rfl rfl (by omega) (by omega) rfl ?_)
    (refine Cx.loadA byte 0 rfl 2 rfl (by omega) rfl ?_)
    (refine Cx.byteWord rfl rfl rfl ?_)
    (refine Cx.shlU rfl rfl (by decide) rfl ?_)
    (refine Cx.orU rfl rfl rfl ?_)
    (refine Cx.move rfl rfl ?_)
    (refine Cx.mul64 rfl rfl (by omega) rfl ?_)
    (refine Cx.add64 rfl rfl (by omega) rfl ?_)
    (refine Cx.index0 (4 * i + 2) rfl rfl (by omega) (by omega) rfl ?_)
    (refine Cx.loadA byte 0 rfl 2 rfl (by omega) rfl ?_)
    (refine Cx.byteWord rfl rfl rfl ?_)
    (refine Cx.shlU rfl rfl (by decide) rfl ?_)
    (refine Cx.orU rfl rfl rfl ?_)
    (refine Cx.move rfl rfl ?_)
    (refine Cx.mul64 rfl rfl (by omega) rfl ?_)
    (refine Cx.add64 rfl rfl (by omega) rfl ?_)
    (refine Cx.index0 (4 * i + 3) rfl rfl (by omega) (by omega) rfl ?_)
    (refine Cx.loadA byte 0 rfl 2 rfl (by omega) rfl ?_)
    (refine Cx.byteWord rfl rfl rfl ?_)
    (refine Cx.orU rfl rfl rfl ?_)
    (refine Cx.index0 i rfl rfl (by omega) (by omega) rfl ?_)
    (refine SegC.nil ?_)
    (refine J.storeA u32 (word bs i) rfl rfl (One.val rfl) 0 rfl (by omega) rfl ?_)
    (refine J.nil ?_)
    (refine N.seq ?_)
    (refine W.region ?_)
    (refine Jx.add64 rfl rfl (by omega) rfl ?_)
    (refine Jx.move rfl rfl ?_)
    (refine J.nil ?_)
    (refine id ?_; rotate_left))
    exact N.round (i + 1, ws.set i (word bs i)) ⟨by omega, by rw [hw]; exact tab_set bs i (by omega) (word bs i) (by rw [if_pos h])⟩ (by simp only; omega) rfl ⟨ref0 rfl, ref0 rfl, ref0 rfl, ref0 rfl, trivial⟩
  · have h16 : i = 16 := by omega
    focus (
    (refine W.seq ?_)
    (refine W.region ?_)
    (refine Jx.lssI rfl rfl rfl ?_)
    (refine J.nil ?_)
    (refine N.seq ?_)
    (refine W.seq ?_)
    (refine W.condF rfl (by first | rfl | assumption | (exact decide_eq_true (by first | assumption | omega | rfl)) | (exact decide_eq_false (by first | assumption | omega | rfl)) | (simp; done) | (simp; omega)) ?_)
    (refine W.exit ?_)
    (refine N.seq ?_)
    (refine W.seq ?_)
    (refine W.seq ?_)
    (refine W.region ?_)
    (refine Jx.assign rfl rfl ?_)
    (refine J.nil ?_)
    (refine N.seq ?_)
    (refine W.block ?_)
    (refine id ?_; rotate_left))
    refine W.loop (α := Nat × List Wd) (fun x => [(5, int x.1), (3, ptr b'), (2, ptr p2), (1, ptr p1)]) (fun x => [tabO b' x.2, tabO p2 zs, blkO p1 bs]) (fun x => 16 ≤ x.1 ∧ x.1 ≤ 64 ∧ x.2 = tab bs x.1) (fun x => 64 - x.1) (16, ws) ⟨by simp, by simp, by rw [hw, h16]⟩ rfl ⟨ref0 rfl, ref0 rfl, ref0 rfl, ref0 rfl, trivial⟩ ?_
    clear hi hw hl h h16
    rintro ⟨i, ws⟩ ⟨hi0, hi1, hw⟩
    simp only at hi0 hi1 hw ⊢
    have hl : ws.length = 64 := by rw [hw]; exact tab_len bs i (by omega)
    by_cases h : i < 64
    · focus (
    (refine W.seq ?_)
    (refine W.seq ?_)
    (refine W.region ?_)
    (refine Jx.move rfl rfl ?_)
    (refine Jx.lssI rfl rfl rfl ?_)
    (refine J.nil ?_)
    (refine N.seq ?_)
    (refine W.condT rfl (by first | rfl | assumption | (exact decide_eq_true (by first | assumption | omega | rfl)) | (exact decide_eq_false (by first | assumption | omega | rfl)) | (simp; done) | (simp; omega)) ?_)
    (refine W.skip ?_)
    (refine N.seq ?_)
    (refine W.seq ?_)
    (refine W.block ?_)
    (refine W.seq ?_)
    (refine W.draw follows ?_)
    (refine JD.calm rfl (by decide +kernel) ?_)
    (refine Cx.move rfl rfl ?_)
    (refine Cx.sub64 rfl rfl (by omega) rfl ?_)
    (refine Cx.index0 (i - 15) rfl rfl (by omega) (by omega) rfl ?_)
    (refine Cx.loadA u32 0 rfl 0 rfl (by omega) rfl ?_)
    (refine Cx.move rfl rfl ?_)
    (refine Cx.sub64 rfl rfl (by omega) rfl ?_)
    (refine Cx.index0 (i - 2) rfl rfl (by omega) (by omega) rfl ?_)
    (refine Cx.loadA u32 0 rfl 0 rfl (by omega) rfl ?_)
    (refine Cx.assign rfl rfl ?_)
    (refine Cx.assign rfl rfl ?_)
    (refine SegC.nil ?_)
    (refine N.seq ?_)
    (refine W.draw follows ?_)
    (refine JD.upto (n := 29) rfl (by decide +kernel) (by decide +kernel) rfl rfl ?_)
    (refine Cx.move rfl rfl ?_)
    (refine Cx.move rfl rfl ?_)
    (refine Cx.sub64 rfl rfl (by omega) rfl ?_)
    (refine Cx.index0 (i - 16) rfl rfl (by omega) (by omega) rfl ?_)
    (refine Cx.loadA u32 0 rfl 0 rfl (by omega) rfl ?_)
    (refine Cx.move rfl rfl ?_)
    (refine SegC.q (Qs.call (Lc := []) (rot_ok _ 7 (by decide)) (fun s L' h => h) (List.Perm.refl _) (evs_args rfl)) rfl ?_)
    (refine Cx.move rfl rfl ?_)
    (refine SegC.q (Qs.call (Lc := []) (rot_ok _ 18 (by decide)) (fun s L' h => h) (List.Perm.refl _) (evs_args rfl)) rfl ?_)
    (refine Cx.xorU rfl rfl rfl ?_)
    (refine Cx.move rfl rfl ?_)
    (refine Cx.shrU rfl rfl (by decide) rfl ?_)
    (refine Cx.xorU rfl rfl rfl ?_)
    (refine Cx.addU rfl rfl rfl ?_)
    (refine Cx.move rfl rfl ?_)
    (refine Cx.sub64 rfl rfl (by omega) rfl ?_)
    (refine Cx.index0 (i - 7) rfl rfl (by omega) (by omega) rfl ?_)
    (refine Cx.loadA u32 0 rfl 0 rfl (by omega) rfl ?_)
    (refine Cx.addU rfl rfl rfl ?_)
    (refine Cx.move rfl rfl ?_)
    (refine SegC.q (Qs.call (Lc := []) (rot_ok _ 17 (by decide)) (fun s L' h => h) (List.Perm.refl _) (evs_args rfl)) rfl ?_)
    (refine Cx.move rfl rfl ?_)
    (refine SegC.q (Qs.call (Lc := []) (rot_ok _ 19 (by decide)) (fun s L' h => h) (List.Perm.refl _) (evs_args rfl)) rfl ?_)
    (refine Cx.xorU rfl rfl rfl ?_)
    (refine Cx.move rfl rfl ?_)
    (refine Cx.shrU rfl rfl (by decide) rfl ?_)
    (refine Cx.xorU rfl rfl rfl ?_)
    (refine Cx.addU rfl rfl rfl ?_)
    (refine Cx.index0 i rfl rfl (by omega) (by omega) rfl ?_)
    (refine SegC.nil ?_)
    (refine J.storeA u32 (ws.getD (i - 16) 0 + sig0 (ws.getD (i - 15) 0) + ws.getD (i - 7) 0 + sig1 (ws.getD (i - 2) 0)) rfl rfl (One.val rfl) 0 rfl (by omega) rfl ?_)
    (refine J.nil ?_)
    (refine N.seq ?_)
    (refine W.region ?_)
    (refine Jx.move rfl rfl ?_)
    (refine Jx.add64 rfl rfl (by omega) rfl ?_)
    (refine Jx.assign rfl rfl ?_)
    (refine J.nil ?_)
    (refine id ?_; rotate_left))
      refine N.round (i + 1, ws.set i (ws.getD (i - 16) 0 + sig0 (ws.getD (i - 15) 0) + ws.getD (i - 7) 0 + sig1 (ws.getD (i - 2) 0))) ⟨by simp only; omega, by simp only; omega, ?_⟩ (by simp only; omega) rfl ⟨ref0 rfl, ref0 rfl, ref0 rfl, ref0 rfl, trivial⟩
      simp only
      rw [hw]
      exact tab_set bs i (by omega) _ (by rw [if_neg (by omega), ← tab_next bs i hi0]; rfl)
    · have h64 : i = 64 := by omega
      focus (
    (refine W.seq ?_)
    (refine W.seq ?_)
    (refine W.region ?_)
    (refine Jx.move rfl rfl ?_)
    (refine Jx.lssI rfl rfl rfl ?_)
    (refine J.nil ?_)
    (refine N.seq ?_)
    (refine W.condF rfl (by first | rfl | assumption | (exact decide_eq_true (by first | assumption | omega | rfl)) | (exact decide_eq_false (by first | assumption | omega | rfl)) | (simp; done) | (simp; omega)) ?_)
    (refine W.exit ?_)
    (refine N.seq ?_)
    (refine W.seq ?_)
    (refine W.region ?_)
    (refine Jx.loadArr (by rw [List.length_map]; exact hl) rfl 0 rfl rfl ?_)
    (refine J.storeArr (by rw [List.length_map]; exact hl) rfl rfl 1 rfl (by rw [List.length_map]; exact hz) rfl ?_)
    (refine J.nil ?_)
    (refine N.seq ?_)
    (refine W.ret ?_)
    (refine id ?_; rotate_left))
      refine N.retD (rs := [.cell 2 45]) (L1 := []) rfl (.cell rfl 1 rfl (by rw [List.length_map, hl]; infer_instance) .nil) (List.nil_sublist _) ⟨?_, rfl⟩
      rw [hw, h64]; simp [oneOr, tab]
end Go.Proofs.YtjlpknligekfeaaDoor
