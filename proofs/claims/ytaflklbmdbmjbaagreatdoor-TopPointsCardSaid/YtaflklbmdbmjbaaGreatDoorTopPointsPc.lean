/-
  Lemmas for the claim, part 3.
-/
import Derived.Test.YtaflklbmdbmjbaaGreatDoorTopPointsPb
namespace Go.Proofs.YtaflklbmdbmjbaaGreatDoor.Sha
open Go Go.Sse
set_option maxRecDepth 10000
set_option linter.unusedVariables false
set_option linter.unusedSimpArgs false
theorem shaK_lt : shaK.all (fun n => decide (n < 4294967296)) = true := by decide
theorem kAt_nat (i : Nat) : (kAt i).toNat = shaK.getD i 0 := by
  unfold kAt
  rw [BitVec.toNat_ofNat]
  refine Nat.mod_eq_of_lt ?_
  rw [List.getD_eq_getElem?_getD]
  cases h : shaK[i]? with
  | none => simp
  | some v => simpa using (List.all_eq_true.1 shaK_lt) v (List.mem_of_getElem? h)
theorem k_get (i : Nat) (h : i < 64) : (shaK.map fun (n : Nat) => Value.int .u32 (n : Int))[i]? = some (.int .u32 ((kAt i).toNat : Int)) := by
  have hl : i < shaK.length := h
  rw [List.getElem?_map, List.getElem?_eq_getElem hl, kAt_nat]
  simp [List.getD_eq_getElem?_getD, List.getElem?_eq_getElem hl]
theorem list8 {ws : List Wd} (t : S8) (hl : ws.length = 8) (h : ∀ j, j < 8 → ws.getD j 0 = t.list.getD j 0) : ws = t.list := by
  refine List.ext_getElem (by rw [hl]; rfl) fun j h1 h2 => ?_
  have := h j (by omega)
  simpa [List.getD_eq_getElem?_getD, List.getElem?_eq_getElem h1, List.getElem?_eq_getElem h2] using this
theorem add_step (s h vs : List Wd) (j : Nat) (h8 : j < 8) (hl : vs.length = 8) (hv : ∀ m, m < 8 → vs.getD m 0 = if m < j then s.getD m 0 + h.getD m 0 else s.getD m 0) (m : Nat) (hm : m < 8) :
    (vs.set j (vs.getD j 0 + h.getD j 0)).getD m 0 = if m < j + 1 then s.getD m 0 + h.getD m 0 else s.getD m 0 := by
  have e1 : (vs.set j (vs.getD j 0 + h.getD j 0)).getD m 0 = if m = j then vs.getD j 0 + h.getD j 0 else vs.getD m 0 := by
    simp only [List.getD_eq_getElem?_getD, List.getElem?_set]
    by_cases e : j = m
    · subst e; simp [hl, hm]
    · rw [if_neg e, if_neg (fun h => e h.symm)]
  rw [e1]
  by_cases e : m = j
  · subst e; rw [if_pos rfl, hv m hm, if_neg (Nat.lt_irrefl m), if_pos (Nat.lt_succ_self m)]
  · rw [if_neg e, hv m hm]
    by_cases hlt : m < j
    · rw [if_pos hlt, if_pos (by omega)]
    · rw [if_neg hlt, if_neg (by omega)]
set_option maxHeartbeats 4000000 in
theorem block_ok (h : S8) (bs : List UInt8) (hb : bs.length = 64) : FnC Tryz.prog 98 [.agg h.cells, .agg (bs.map byte)] [] (fun s L => s = .agg (blockS h bs).cells ∧ L = []) := by
  have c1 := spread_ok bs hb
  have hs := sched_len bs 64
  have hW : ∀ i, i < 64 → (sched bs 64).getD i 0 = W bs i := fun i hi => sched_get bs 64 i hi
  generalize sched bs 64 = ws at *
  refine FnC.intro Tryz.func98 rfl Tryz.ntmps98 rfl fun Z w0 hG => ?_
  focus (
 (refine W.seq (W.region ?_))
 (refine J.boxAg rfl rfl ?_; intro b')
 (refine J.boxAg rfl rfl ?_; intro b')
 (refine J.alloc (by simp only [List.map_cons, List.map_nil]; rfl) rfl rfl ?_; intro b')
 (refine J.nil (N.seq (W.seq (W.region (Jx.loadArr (by rw [List.length_map]; exact hb) rfl 1 rfl rfl ?_)))))
 (refine J.call (c1) rfl (evs_args rfl) rfl ?_; rintro _ _ ⟨rfl, rfl⟩; simp only [la1, la2, la3])
 (refine J.alloc (by simp only [List.map_cons, List.map_nil]; rfl) rfl rfl ?_; intro b')
 (refine J.storeArr (by rw [List.length_map]; exact hs) rfl rfl 0 rfl rfl rfl ?_)
 (refine J.nil (N.seq (W.seq (W.region (Jx.loadAll rfl 3 rfl rfl rfl ?_)))))
 (refine J.alloc (by simp only [List.map_cons, List.map_nil]; rfl) rfl rfl ?_; intro b')
 (refine J.storeAll rfl rfl rfl 0 rfl rfl rfl ?_)
 (refine J.nil (N.seq (W.seq (W.seq (W.region (Jx.move rfl rfl (J.nil (N.seq (W.block ?_)))))))))
 (refine id ?_; rotate_left))
  rename_i p2 p3 p4 p5
  refine W.loop (α := Nat × S8) (fun x => [(16, int x.1), (6, ptr b'), (5, ptr p5), (4, ptr p4), (2, ptr p2)]) (fun x => [.obj b' 111 x.2.cells, tabO p5 ws, .obj p4 111 (S8.cells ⟨0, 0, 0, 0, 0, 0, 0, 0⟩), blkO p3 bs, .obj p2 111 h.cells]) (fun x => x.1 ≤ 64 ∧ x.2 = rounds h bs x.1) (fun x => 64 - x.1) (0, h) ⟨by simp, rfl⟩ rfl ⟨ref0 rfl, ref0 rfl, ref0 rfl, ref0 rfl, ref0 rfl, trivial⟩ ?_
  rintro ⟨i, s⟩ ⟨hi, hst⟩
  simp only at hi hst ⊢
  by_cases h1 : i < 64
  · have hk := k_get i h1
    focus (
 (refine W.seq (W.region (Jx.lssI rfl rfl rfl (J.nil (N.seq (W.seq (W.cT rfl ?_)))))))
 (refine W.skip (N.seq (W.seq (W.block (W.seq (W.region (Jx.move rfl rfl (Jx.assign rfl rfl (J.nil (N.seq (W.seq ?_)))))))))))
 (refine W.draw follows ?_)
 (refine JD.calm rfl (by decide +kernel) ?_)
 (refine Cx.indexArr rfl rfl (by decide) (by decide) rfl ?_)
 (refine Cx.load rfl 0 rfl rfl rfl ?_)
 (refine Cx.indexArr rfl rfl (by decide) (by decide) rfl ?_)
 (refine Cx.load rfl 0 rfl rfl rfl ?_)
 (refine Cx.assign rfl rfl ?_)
 (refine Cx.assign rfl rfl ?_)
 (refine SegC.nil ?_)
 (refine N.seq (W.seq ?_))
 (refine W.draw follows ?_)
 (refine JD.calm rfl (by decide +kernel) ?_)
 (refine Cx.indexArr rfl rfl (by decide) (by decide) rfl ?_)
 (refine Cx.load rfl 0 rfl rfl rfl ?_)
 (refine Cx.move rfl rfl ?_)
 (refine SegC.q (Qs.call (Lc := []) (rot_ok _ 6 (by decide)) (fun s L' h => h) (List.Perm.refl _) (evs_args rfl)) rfl ?_)
 (refine Cx.move rfl rfl ?_)
 (refine SegC.q (Qs.call (Lc := []) (rot_ok _ 11 (by decide)) (fun s L' h => h) (List.Perm.refl _) (evs_args rfl)) rfl ?_)
 (refine Cx.xorU rfl rfl rfl ?_)
 (refine Cx.move rfl rfl ?_)
 (refine SegC.q (Qs.call (Lc := []) (rot_ok _ 25 (by decide)) (fun s L' h => h) (List.Perm.refl _) (evs_args rfl)) rfl ?_)
 (refine Cx.xorU rfl rfl rfl ?_)
 (refine Cx.addU rfl rfl rfl ?_)
 (refine Cx.move rfl rfl ?_)
 (refine Cx.indexArr rfl rfl (by decide) (by decide) rfl ?_)
 (refine Cx.load rfl 0 rfl rfl rfl ?_)
 (refine Cx.andU rfl rfl rfl ?_)
 (refine Cx.move rfl rfl ?_)
 (refine Cx.notU rfl rfl ?_)
 (refine Cx.indexArr rfl rfl (by decide) (by decide) rfl ?_)
 (refine Cx.load rfl 0 rfl rfl rfl ?_)
 (refine Cx.andU rfl rfl rfl ?_)
 (refine Cx.xorU rfl rfl rfl ?_)
 (refine Cx.addU rfl rfl rfl ?_)
 (refine Cx.move rfl rfl ?_)
 (refine Cx.index0 i rfl rfl rfl (by omega) rfl ?_)
 (refine Cx.loadG rfl 0 rfl hk rfl ?_)
 (refine Cx.addU rfl rfl rfl ?_)
 (refine Cx.move rfl rfl ?_)
 (refine Cx.index0 i rfl rfl rfl (by omega) rfl ?_)
 (refine Cx.loadA u32 0 rfl 1 rfl (by omega) rfl ?_)
 (refine Cx.addU rfl rfl rfl ?_)
 (refine Cx.assign rfl rfl ?_)
 (refine SegC.nil ?_)
 (refine N.seq (W.seq ?_))
 (refine W.draw follows ?_)
 (refine JD.calm rfl (by decide +kernel) ?_)
 (refine Cx.move rfl rfl ?_)
 (refine SegC.q (Qs.call (Lc := []) (rot_ok _ 2 (by decide)) (fun s L' h => h) (List.Perm.refl _) (evs_args rfl)) rfl ?_)
 (refine Cx.move rfl rfl ?_)
 (refine SegC.q (Qs.call (Lc := []) (rot_ok _ 13 (by decide)) (fun s L' h => h) (List.Perm.refl _) (evs_args rfl)) rfl ?_)
 (refine Cx.xorU rfl rfl rfl ?_)
 (refine Cx.move rfl rfl ?_)
 (refine SegC.q (Qs.call (Lc := []) (rot_ok _ 22 (by decide)) (fun s L' h => h) (List.Perm.refl _) (evs_args rfl)) rfl ?_)
 (refine Cx.xorU rfl rfl rfl ?_)
 (refine Cx.move rfl rfl ?_)
 (refine Cx.indexArr rfl rfl (by decide) (by decide) rfl ?_)
 (refine Cx.load rfl 0 rfl rfl rfl ?_)
 (refine Cx.andU rfl rfl rfl ?_)
 (refine Cx.move rfl rfl ?_)
 (refine Cx.indexArr rfl rfl (by decide) (by decide) rfl ?_)
 (refine Cx.load rfl 0 rfl rfl rfl ?_)
 (refine Cx.andU rfl rfl rfl ?_)
 (refine Cx.xorU rfl rfl rfl ?_)
 (refine Cx.indexArr rfl rfl (by decide) (by decide) rfl ?_)
 (refine Cx.load rfl 0 rfl rfl rfl ?_)
 (refine Cx.indexArr rfl rfl (by decide) (by decide) rfl ?_)
 (refine Cx.load rfl 0 rfl rfl rfl ?_)
 (refine Cx.andU rfl rfl rfl ?_)
 (refine Cx.xorU rfl rfl rfl ?_)
 (refine Cx.addU rfl rfl rfl ?_)
 (refine Cx.assign rfl rfl ?_)
 (refine SegC.nil ?_)
 (refine N.seq (W.region (Jx.move rfl rfl (Jx.move rfl rfl (Jx.addU rfl rfl rfl ?_)))))
 (refine Jx.move rfl rfl (Jx.indexArr rfl rfl (by decide) (by decide) rfl ?_))
 (refine Jx.load rfl 0 rfl rfl rfl ?_)
 (refine Jx.indexArr rfl rfl (by decide) (by decide) rfl ?_)
 (refine Jx.load rfl 0 rfl rfl rfl ?_)
 (refine Jx.indexArr rfl rfl (by decide) (by decide) rfl ?_)
 (refine Jx.load rfl 0 rfl rfl rfl ?_)
 (refine Jx.move rfl rfl (Jx.addU rfl rfl rfl ?_))
 (refine Jx.move rfl rfl (Jx.indexArr rfl rfl (by decide) (by decide) rfl ?_))
 (refine Jx.load rfl 0 rfl rfl rfl ?_)
 (refine Jx.indexArr rfl rfl (by decide) (by decide) rfl ?_)
 (refine Jx.load rfl 0 rfl rfl rfl ?_)
 (refine Jx.buildA rfl rfl rfl rfl rfl ?_)
 (refine J.storeAll rfl rfl rfl 0 rfl rfl rfl ?_)
 (refine J.nil (N.seq (W.region (Jx.add64 rfl rfl (by omega) rfl ?_))))
 (refine Jx.move rfl rfl (J.nil ?_))
 (refine id ?_; rotate_left))
    exact N.round (i + 1, s.round (kAt i) (ws.getD i 0)) ⟨by simp only; omega, by simp only; rw [hst, hW i h1]; rfl⟩ (by simp only; omega) rfl ⟨ref0 rfl, ref0 rfl, ref0 rfl, ref0 rfl, ref0 rfl, trivial⟩
  · have h64 : i = 64 := by omega
    rw [h64] at hst
    focus (
 (refine W.seq (W.region (Jx.lssI rfl rfl rfl (J.nil (N.seq (W.seq (W.cF rfl ?_)))))))
 (refine W.exit (N.seq (W.seq (W.seq (W.region (Jx.move rfl rfl (J.nil (N.seq (W.block ?_)))))))))
 (refine id ?_; rotate_left))
    refine W.loop (α := Nat × List Wd) (fun x => [(96, int x.1), (6, ptr b'), (4, ptr p4), (2, ptr p2)]) (fun x => [.obj b' 111 (x.2.map u32), tabO p5 ws, .obj p4 111 (S8.cells ⟨0, 0, 0, 0, 0, 0, 0, 0⟩), blkO p3 bs, .obj p2 111 (h.list.map u32)])
      (fun x => x.1 ≤ 8 ∧ x.2.length = 8 ∧ ∀ j, j < 8 → x.2.getD j 0 = if j < x.1 then s.list.getD j 0 + h.list.getD j 0 else s.list.getD j 0) (fun x => 8 - x.1) (0, s.list) ⟨by simp, rfl, fun j hj => by simp⟩ rfl ⟨ref0 rfl, ref0 rfl, ref0 rfl, ref0 rfl, trivial⟩ ?_
    rintro ⟨j, vs⟩ ⟨hj, hl, hv⟩
    simp only at hj hl hv ⊢
    by_cases h8 : j < 8
    · focus (
 (refine W.seq (W.region (Jx.lssI rfl rfl rfl (J.nil (N.seq (W.seq (W.cT rfl ?_)))))))
 (refine W.skip (N.seq (W.seq (W.block (W.seq (W.region (Jx.move rfl rfl (Jx.assign rfl rfl (J.nil (N.seq ?_))))))))))
 (refine W.draw follows ?_)
 (refine JD.upto (n := 8) rfl (by decide +kernel) (by decide +kernel) rfl rfl ?_)
 (refine Cx.move rfl rfl ?_)
 (refine Cx.index0 j rfl rfl rfl (by omega) rfl ?_)
 (refine Cx.loadA u32 0 rfl 0 rfl (by omega) rfl ?_)
 (refine Cx.move rfl rfl ?_)
 (refine Cx.index0 j rfl rfl rfl (by omega) rfl ?_)
 (refine Cx.loadA u32 0 rfl 4 rfl h8 rfl ?_)
 (refine Cx.addU rfl rfl rfl ?_)
 (refine Cx.index0 j rfl rfl rfl (by omega) rfl ?_)
 (refine SegC.nil ?_)
 (refine J.storeA u32 (vs.getD j 0 + h.list.getD j 0) rfl rfl (One.val rfl) 0 rfl (by omega) rfl ?_)
 (refine J.nil (N.seq (W.region (Jx.add64 rfl rfl (by omega) rfl ?_))))
 (refine Jx.move rfl rfl (J.nil ?_))
 (refine id ?_; rotate_left))
      refine N.round (j + 1, vs.set j (vs.getD j 0 + h.list.getD j 0)) ⟨by simp only; omega, by simp only [List.length_set]; exact hl, fun m hm => ?_⟩ (by simp only; omega) rfl ⟨ref0 rfl, ref0 rfl, ref0 rfl, ref0 rfl, trivial⟩
      exact add_step s.list h.list vs j h8 hl hv m hm
    · have e : vs = ((rounds h bs 64).add h).list := by
        rw [← hst]
        refine list8 (s.add h) hl fun m hm => ?_
        rw [hv m hm, if_pos (by omega)]
        match m, hm with
        | 0, _ => rfl
        | 1, _ => rfl
        | 2, _ => rfl
        | 3, _ => rfl
        | 4, _ => rfl
        | 5, _ => rfl
        | 6, _ => rfl
        | 7, _ => rfl
      focus (
 (refine W.seq (W.region (Jx.lssI rfl rfl rfl (J.nil (N.seq (W.seq (W.cF rfl ?_)))))))
 (refine W.exit (N.seq (W.seq (W.region (Jx.loadArr (by rw [List.length_map]; exact hl) rfl 0 rfl rfl ?_)))))
 (refine J.storeArr (by rw [List.length_map]; exact hl) rfl rfl 2 rfl rfl rfl ?_)
 (refine J.nil (N.seq (W.ret ?_)))
 (refine id ?_; rotate_left))
      refine N.retD (rs := [.cell 4 111]) (L1 := []) rfl (.cell rfl 2 rfl (by rw [List.length_map, hl]; infer_instance) .nil) (List.nil_sublist _) ⟨?_, rfl⟩
      rw [e]
      unfold blockS
      generalize rounds h bs 64 = r
      rfl
end Go.Proofs.YtaflklbmdbmjbaaGreatDoor.Sha
namespace Go.Proofs.YtaflklbmdbmjbaaGreatDoor.Sha
open Go Go.Sse
set_option linter.unusedVariables false
set_option linter.unusedSimpArgs false
set_option maxRecDepth 10000
theorem turned_ok (x : Wd) (n : Nat) (hn : n ≤ 32) : FnC Tryz.prog 83 [u32 x, int n] [] (fun s L => s = u32 (rot x n) ∧ L = []) := by
  refine FnC.intro Tryz.func83 rfl Tryz.ntmps83 rfl fun Z w0 hG => ?_
  focus (
 (refine W.seq (W.region (Jx.assign rfl rfl (J.nil (N.seq (W.seq (W.region (Jx.move rfl rfl (Jx.move rfl rfl ?_)))))))))
 (refine Jx.convU64 n rfl rfl rfl (by omega) rfl ?_)
 (refine Jx.shrU rfl rfl hn rfl ?_)
 (refine Jx.move rfl rfl (Jx.move rfl rfl (Jx.sub64 rfl rfl (by omega) rfl ?_)))
 (refine Jx.convU64 (32 - n) rfl rfl (by omega) (by omega) rfl ?_)
 (refine Jx.shlU rfl rfl (by omega) rfl ?_)
 (refine Jx.orU rfl rfl rfl ?_)
 (refine Jx.assign rfl rfl (J.nil (N.seq (W.ret ?_))))
 (refine id ?_; rotate_left))
  exact N.ret (rs := [.tmp 4]) rfl (.tmp rfl .nil) ⟨rfl, rfl⟩
theorem rfirst_ok : FnC Tryz.prog 54 [] [] (fun s L => s = .agg first8.cells ∧ L = []) := by
  refine FnC.intro Tryz.func54 rfl Tryz.ntmps54 rfl fun Z w0 hG => ?_
  focus (
 (refine W.seq (W.region ?_))
 (refine J.alloc (by simp only [List.map_cons, List.map_nil]; rfl) rfl rfl ?_; intro b')
 (refine J.nil (N.seq (W.seq (W.region (Jx.buildA rfl rfl rfl rfl rfl ?_)))))
 (refine J.storeAll rfl rfl rfl 0 rfl rfl rfl ?_)
 (refine J.nil (N.seq (W.ret ?_)))
 (refine id ?_; rotate_left))
  exact N.retD (rs := [.cell 0 111]) (L1 := []) rfl (.cell rfl 0 rfl inferInstance .nil) (List.nil_sublist _) ⟨rfl, rfl⟩
theorem kC_get (i : Nat) (h : i < 64) : (shaK.map fun (n : Nat) => SV.val (.int .u32 (n : Int)))[i]? = some (u32 (kAt i)) := by
  have hl : i < shaK.length := h
  rw [List.getElem?_map, List.getElem?_eq_getElem hl]
  simp only [u32, kAt_nat]
  simp [List.getD_eq_getElem?_getD, List.getElem?_eq_getElem hl]
set_option maxHeartbeats 4000000 in
theorem const_ok (i : Nat) (h : i < 64) : FnC Tryz.prog 84 [int i] [] (fun s L => s = u32 (kAt i) ∧ L = []) := by
  have hk := kC_get i h
  refine FnC.intro Tryz.func84 rfl Tryz.ntmps84 rfl fun Z w0 hG => ?_
  focus (
 (refine W.seq (W.region (Jx.assign rfl rfl (J.nil (N.seq (W.seq (W.region (Jx.buildA rfl rfl rfl rfl rfl ?_))))))))
 (refine J.alloc (by simp only [List.map_cons, List.map_nil]; rfl) rfl rfl ?_; intro b')
 (refine J.storeAll rfl rfl rfl 0 rfl rfl rfl ?_)
 (refine J.nil (N.seq (W.seq (W.region (Jx.move rfl rfl ?_)))))
 (refine Jx.index0 i rfl rfl rfl (by omega) rfl ?_)
 (refine Jx.load rfl 0 rfl hk rfl ?_)
 (refine Jx.assign rfl rfl (J.nil (N.seq (W.ret ?_))))
 (refine id ?_; rotate_left))
  exact N.retD (rs := [.tmp 2]) (L1 := []) rfl (.tmp rfl .nil) (List.nil_sublist _) ⟨rfl, rfl⟩
def part (b : List UInt8) (j : Nat) : Nat → Wd
  | 0 => 0
  | n + 1 => part b j n * 256#32 + byteAt b (4 * j + n)
theorem part_word (b : List UInt8) (j : Nat) : part b j 4 = word b j := by
  have hb : ∀ i, (byteAt b i).toNat < 256 := fun i => by
    unfold byteAt
    rw [BitVec.toNat_ofNat]
    exact Nat.lt_of_le_of_lt (Nat.mod_le _ _) (UInt8.toNat_lt _)
  simp only [part, word, Nat.add_zero]
  generalize hx : byteAt b (4 * j) = x; generalize hy : byteAt b (4 * j + 1) = y; generalize hz : byteAt b (4 * j + 2) = z; generalize hw : byteAt b (4 * j + 3) = w
  have h1 := hb (4 * j); have h2 := hb (4 * j + 1); have h3 := hb (4 * j + 2); have h4 := hb (4 * j + 3)
  rw [hx] at h1; rw [hy] at h2; rw [hz] at h3; rw [hw] at h4
  apply BitVec.eq_of_toNat_eq
  have e1 : (x <<< 24 ||| y <<< 16).toNat = x.toNat * 16777216 + y.toNat * 65536 := by
    rw [BitVec.toNat_or, BitVec.toNat_shiftLeft, BitVec.toNat_shiftLeft, Nat.mod_eq_of_lt (by rw [Nat.shiftLeft_eq]; omega), Nat.mod_eq_of_lt (by rw [Nat.shiftLeft_eq]; omega), ← Nat.shiftLeft_add_eq_or_of_lt (by rw [Nat.shiftLeft_eq]; omega)]
    rw [Nat.shiftLeft_eq, Nat.shiftLeft_eq]
  have e2 : (x <<< 24 ||| y <<< 16 ||| z <<< 8).toNat = x.toNat * 16777216 + y.toNat * 65536 + z.toNat * 256 := by
    rw [BitVec.toNat_or, e1, BitVec.toNat_shiftLeft, Nat.mod_eq_of_lt (by rw [Nat.shiftLeft_eq]; omega)]
    have : x.toNat * 16777216 + y.toNat * 65536 = (x.toNat * 256 + y.toNat) <<< 16 := by rw [Nat.shiftLeft_eq]; omega
    rw [this, ← Nat.shiftLeft_add_eq_or_of_lt (by rw [Nat.shiftLeft_eq]; omega), Nat.shiftLeft_eq z.toNat]
  have e3 : (x <<< 24 ||| y <<< 16 ||| z <<< 8 ||| w).toNat = x.toNat * 16777216 + y.toNat * 65536 + z.toNat * 256 + w.toNat := by
    rw [BitVec.toNat_or, e2]
    have : x.toNat * 16777216 + y.toNat * 65536 + z.toNat * 256 = (x.toNat * 65536 + y.toNat * 256 + z.toNat) <<< 8 := by rw [Nat.shiftLeft_eq]; omega
    rw [this, ← Nat.shiftLeft_add_eq_or_of_lt (by omega)]
  rw [e3]
  simp only [BitVec.toNat_add, BitVec.toNat_mul, BitVec.toNat_ofNat]
  omega
theorem part_step (b : List UInt8) (ws : List Wd) (i : Nat) (hi : i < 64) (hl : ws.length = 16) (h : ∀ j, j < 16 → ws.getD j 0 = part b j (min 4 (i - 4 * j))) (j : Nat) (hj : j < 16) :
    (ws.set (i / 4) (ws.getD (i / 4) 0 * 256#32 + byteAt b i)).getD j 0 = part b j (min 4 (i + 1 - 4 * j)) := by
  have e1 : (ws.set (i / 4) (ws.getD (i / 4) 0 * 256#32 + byteAt b i)).getD j 0 = if j = i / 4 then ws.getD (i / 4) 0 * 256#32 + byteAt b i else ws.getD j 0 := by
    simp only [List.getD_eq_getElem?_getD, List.getElem?_set]
    by_cases e : i / 4 = j
    · subst e; simp [hl, hj]
    · rw [if_neg e, if_neg (fun h => e h.symm)]
  rw [e1]
  by_cases e : j = i / 4
  · rw [if_pos e, ← e, h j hj]
    have h1 : min 4 (i - 4 * j) = i - 4 * j := by omega
    have h2 : min 4 (i + 1 - 4 * j) = (i - 4 * j) + 1 := by omega
    rw [h1, h2]
    simp only [part]
    congr 2; omega
  · rw [if_neg e, h j hj]
    congr 1
    omega
def Win (b : List UInt8) (ws : List Wd) (i : Nat) : Prop := ws.length = 16 ∧ ∀ t, t < max i 16 → max i 16 ≤ t + 16 → ws.getD (t % 16) 0 = W b t
theorem win_step (b : List UInt8) (ws : List Wd) (i : Nat) (h16 : 16 ≤ i) (h : Win b ws i) :
    Win b (ws.set (i % 16) (ws.getD (i % 16) 0 + sig0 (ws.getD ((i + 1) % 16) 0) + ws.getD ((i + 9) % 16) 0 + sig1 (ws.getD ((i + 14) % 16) 0))) (i + 1) ∧
    (ws.set (i % 16) (ws.getD (i % 16) 0 + sig0 (ws.getD ((i + 1) % 16) 0) + ws.getD ((i + 9) % 16) 0 + sig1 (ws.getD ((i + 14) % 16) 0))).getD (i % 16) 0 = W b i := by
  obtain ⟨hl, hw⟩ := h
  have g0 := hw (i - 16) (by omega) (by omega)
  have g1 := hw (i - 15) (by omega) (by omega)
  have g2 := hw (i - 7) (by omega) (by omega)
  have g3 := hw (i - 2) (by omega) (by omega)
  rw [show (i - 16) % 16 = i % 16 by omega] at g0
  rw [show (i - 15) % 16 = (i + 1) % 16 by omega] at g1
  rw [show (i - 7) % 16 = (i + 9) % 16 by omega] at g2
  rw [show (i - 2) % 16 = (i + 14) % 16 by omega] at g3
  rw [g0, g1, g2, g3, ← W_high b i h16]
  have hi : i % 16 < ws.length := by omega
  have hs : (ws.set (i % 16) (W b i)).getD (i % 16) 0 = W b i := by
    simp [List.getD_eq_getElem?_getD, List.getElem?_set, hi]
  refine ⟨⟨by simpa using hl, fun t ht ht2 => ?_⟩, hs⟩
  by_cases e : t = i
  · subst e; exact hs
  · rw [← hw t (by omega) (by omega)]
    have hne : ¬ i % 16 = t % 16 := by omega
    simp only [List.getD_eq_getElem?_getD, List.getElem?_set, if_neg hne]
theorem add_comm8 (s h : S8) : h.add s = s.add h := by simp only [S8.add, BitVec.add_comm]
end Go.Proofs.YtaflklbmdbmjbaaGreatDoor.Sha
namespace Go.Proofs.YtaflklbmdbmjbaaGreatDoor.Sha
open Go Go.Sse
set_option maxRecDepth 10000
set_option linter.unusedVariables false
set_option linter.unusedSimpArgs false
abbrev winO (p : Nat) (ws : List Wd) : Own := .obj p 138 (ws.map u32)
theorem zeros_get (bs : List UInt8) (j : Nat) : (List.replicate 16 (0 : Wd)).getD j 0 = part bs j (min 4 (0 - 4 * j)) := by
  rw [List.getD_eq_getElem?_getD, List.getElem?_replicate, show min 4 (0 - 4 * j) = 0 by omega]
  split <;> rfl
set_option maxHeartbeats 4000000 in
theorem rblock_ok (h : S8) (bs : List UInt8) (hb : bs.length = 64) : FnC Tryz.prog 55 [.agg h.cells, .agg (bs.map byte)] [] (fun s L => s = .agg (blockS h bs).cells ∧ L = []) := by
  refine FnC.intro Tryz.func55 rfl Tryz.ntmps55 rfl fun Z w0 hG => ?_
  focus (
 (refine W.seq (W.region ?_))
 (refine J.boxAg rfl rfl ?_; intro b')
 (refine J.boxAg rfl rfl ?_; intro b')
 (refine J.alloc (by simp only [List.map_cons, List.map_nil]; rfl) rfl rfl ?_; intro b')
 (refine J.nil (N.seq (W.seq (W.region ?_))))
 (refine J.alloc (by simp only [List.map_cons, List.map_nil]; rfl) rfl rfl ?_; intro b')
 (refine J.nil (N.seq (W.seq (W.seq (W.region (Jx.assign rfl rfl (J.nil (N.seq (W.block ?_)))))))))
 (refine id ?_; rotate_left))
  rename_i p2 p3 p4
  refine W.loop (α := Nat × List Wd) (fun x => [(6, int x.1), (5, ptr b'), (4, ptr p4), (3, ptr p3), (2, ptr p2)]) (fun x => [winO b' x.2, .obj p4 111 (S8.cells ⟨0, 0, 0, 0, 0, 0, 0, 0⟩), blkO p3 bs, .obj p2 111 h.cells])
    (fun x => x.1 ≤ 64 ∧ x.2.length = 16 ∧ ∀ j, j < 16 → x.2.getD j 0 = part bs j (min 4 (x.1 - 4 * j))) (fun x => 64 - x.1) (0, List.replicate 16 0) ⟨by simp, rfl, fun j hj => zeros_get bs j⟩ rfl ⟨ref0 rfl, ref0 rfl, ref0 rfl, ref0 rfl, ref0 rfl, trivial⟩ ?_
  rintro ⟨i, ws⟩ ⟨hi, hl, hp⟩
  simp only at hi hl hp ⊢
  by_cases h1 : i < 64
  · focus (
 (refine W.seq (W.seq (W.region (Jx.move rfl rfl (Jx.lssI rfl rfl rfl (J.nil (N.seq (W.cT rfl ?_))))))))
 (refine W.skip (N.seq (W.seq (W.block ?_))))
 (refine W.draw follows ?_)
 (refine JD.upto (n := 13) rfl (by decide +kernel) (by decide +kernel) rfl rfl ?_)
 (refine Cx.move rfl rfl ?_)
 (refine Cx.quo64 rfl rfl (by omega) (by decide) rfl ?_)
 (refine Cx.move rfl rfl ?_)
 (refine Cx.quo64 rfl rfl (by omega) (by decide) rfl ?_)
 (refine Cx.index0 (i / 4) rfl rfl (by omega) (by omega) rfl ?_)
 (refine Cx.loadA u32 0 rfl 0 rfl (by omega) rfl ?_)
 (refine Cx.mulU 256 rfl rfl rfl ?_)
 (refine Cx.move rfl rfl ?_)
 (refine Cx.index0 i rfl rfl rfl (by omega) rfl ?_)
 (refine Cx.loadA byte 0 rfl 2 rfl (by omega) rfl ?_)
 (refine Cx.byteWord rfl rfl rfl ?_)
 (refine Cx.addU rfl rfl rfl ?_)
 (refine Cx.index0 (i / 4) rfl rfl (by omega) (by omega) rfl ?_)
 (refine SegC.nil ?_)
 (refine J.storeA u32 (ws.getD (i / 4) 0 * 256#32 + byteAt bs i) rfl rfl (One.val rfl) 0 rfl (by omega) rfl ?_)
 (refine J.nil (N.seq (W.region (Jx.move rfl rfl (Jx.add64 rfl rfl (by omega) rfl ?_)))))
 (refine Jx.assign rfl rfl (J.nil ?_))
 (refine id ?_; rotate_left))
    exact N.round (i + 1, ws.set (i / 4) (ws.getD (i / 4) 0 * 256#32 + byteAt bs i)) ⟨by simp only; omega, by simp only [List.length_set]; exact hl, fun j hj => part_step bs ws i h1 hl hp j hj⟩ (by simp only; omega) rfl ⟨ref0 rfl, ref0 rfl, ref0 rfl, ref0 rfl, ref0 rfl, trivial⟩
  · have h64 : i = 64 := by omega
    have hwin : Win bs ws 0 := ⟨hl, fun t ht _ => by
      have ht' : t < 16 := by omega
      rw [Nat.mod_eq_of_lt ht', hp t ht', show min 4 (i - 4 * t) = 4 by omega, part_word, W_low bs t ht']⟩
    clear hi hp
    focus (
 (refine W.seq (W.seq (W.region (Jx.move rfl rfl (Jx.lssI rfl rfl rfl (J.nil (N.seq (W.cF rfl ?_))))))))
 (refine W.exit (N.seq (W.seq ?_)))
 (refine W.draw follows ?_)
 (refine JD.calm rfl (by decide +kernel) ?_)
 (refine Cx.indexArr rfl rfl (by decide) (by decide) rfl ?_)
 (refine Cx.load rfl 3 rfl rfl rfl ?_)
 (refine Cx.indexArr rfl rfl (by decide) (by decide) rfl ?_)
 (refine Cx.load rfl 3 rfl rfl rfl ?_)
 (refine Cx.indexArr rfl rfl (by decide) (by decide) rfl ?_)
 (refine Cx.load rfl 3 rfl rfl rfl ?_)
 (refine Cx.indexArr rfl rfl (by decide) (by decide) rfl ?_)
 (refine Cx.load rfl 3 rfl rfl rfl ?_)
 (refine Cx.assign rfl rfl ?_)
 (refine Cx.assign rfl rfl ?_)
 (refine Cx.assign rfl rfl ?_)
 (refine Cx.assign rfl rfl ?_)
 (refine SegC.nil ?_)
 (refine N.seq (W.seq ?_))
 (refine W.draw follows ?_)
 (refine JD.calm rfl (by decide +kernel) ?_)
 (refine Cx.indexArr rfl rfl (by decide) (by decide) rfl ?_)
 (refine Cx.load rfl 3 rfl rfl rfl ?_)
 (refine Cx.indexArr rfl rfl (by decide) (by decide) rfl ?_)
 (refine Cx.load rfl 3 rfl rfl rfl ?_)
 (refine Cx.indexArr rfl rfl (by decide) (by decide) rfl ?_)
 (refine Cx.load rfl 3 rfl rfl rfl ?_)
 (refine Cx.indexArr rfl rfl (by decide) (by decide) rfl ?_)
 (refine Cx.load rfl 3 rfl rfl rfl ?_)
 (refine Cx.assign rfl rfl ?_)
 (refine Cx.assign rfl rfl ?_)
 (refine Cx.assign rfl rfl ?_)
 (refine Cx.assign rfl rfl ?_)
 (refine SegC.nil ?_)
 (refine N.seq (W.seq (W.seq (W.region (Jx.assign rfl rfl (J.nil (N.seq (W.block ?_))))))))
 (refine id ?_; rotate_left))
    refine W.loop (α := Nat × S8 × List Wd) (fun x => [(15, int x.1), (14, u32 x.2.1.h), (13, u32 x.2.1.g), (12, u32 x.2.1.f), (11, u32 x.2.1.e), (10, u32 x.2.1.d), (9, u32 x.2.1.c), (8, u32 x.2.1.b), (7, u32 x.2.1.a), (5, ptr b'), (4, ptr p4), (2, ptr p2)])
      (fun x => [winO b' x.2.2, .obj p4 111 (S8.cells ⟨0, 0, 0, 0, 0, 0, 0, 0⟩), blkO p3 bs, .obj p2 111 h.cells]) (fun x => x.1 ≤ 64 ∧ x.2.1 = rounds h bs x.1 ∧ Win bs x.2.2 x.1) (fun x => 64 - x.1) (0, h, ws) ⟨by simp, rfl, hwin⟩ rfl
      ⟨ref0 rfl, ref0 rfl, ref0 rfl, ref0 rfl, ref0 rfl, ref0 rfl, ref0 rfl, ref0 rfl, ref0 rfl, ref0 rfl, ref0 rfl, ref0 rfl, trivial⟩ ?_
    clear hwin hl h64 h1
    rintro ⟨i, s, ws⟩ ⟨hi, hst, hwin⟩
    simp only at hi hst hwin ⊢
    have hl := hwin.1
    by_cases h1 : i < 64
    · by_cases h16 : 16 ≤ i
      · obtain ⟨hn, hg⟩ := win_step bs ws i h16 hwin
        have hl2 : (ws.set (i % 16) (ws.getD (i % 16) 0 + sig0 (ws.getD ((i + 1) % 16) 0) + ws.getD ((i + 9) % 16) 0 + sig1 (ws.getD ((i + 14) % 16) 0))).length = 16 := by rw [List.length_set]; exact hl
        generalize hnew : ws.getD (i % 16) 0 + sig0 (ws.getD ((i + 1) % 16) 0) + ws.getD ((i + 9) % 16) 0 + sig1 (ws.getD ((i + 14) % 16) 0) = new at *
        have hst1 : ws.getD (i % 16) 0 + (rot (ws.getD ((i + 1) % 16) 0) 7 ^^^ rot (ws.getD ((i + 1) % 16) 0) 18 ^^^ ws.getD ((i + 1) % 16) 0 >>> 3) + ws.getD ((i + 9) % 16) 0 + (rot (ws.getD ((i + 14) % 16) 0) 17 ^^^ rot (ws.getD ((i + 14) % 16) 0) 19 ^^^ ws.getD ((i + 14) % 16) 0 >>> 10) = new := hnew
        generalize hws2 : ws.set (i % 16) new = ws2 at *
        focus (
 (refine W.seq (W.seq (W.region (Jx.move rfl rfl (Jx.lssI rfl rfl rfl (J.nil (N.seq (W.cT rfl ?_))))))))
 (refine W.skip (N.seq (W.seq (W.block (W.seq (W.seq (W.region (Jx.move rfl rfl (Jx.geqI rfl rfl rfl (J.nil (N.seq (W.cT rfl ?_))))))))))))
 (refine W.seq (W.region (Jx.move rfl rfl (Jx.add64 rfl rfl (by omega) rfl ?_))))
 (refine Jx.rem64 rfl rfl (by omega) (by decide) rfl ?_)
 (refine Jx.index0 ((i + 1) % 16) rfl rfl (by omega) (by omega) rfl ?_)
 (refine Jx.loadA u32 0 rfl 0 rfl (by omega) rfl ?_)
 (refine Jx.assign rfl rfl (J.nil (N.seq (W.seq (W.region (Jx.move rfl rfl (Jx.add64 rfl rfl (by omega) rfl ?_)))))))
 (refine Jx.rem64 rfl rfl (by omega) (by decide) rfl ?_)
 (refine Jx.index0 ((i + 14) % 16) rfl rfl (by omega) (by omega) rfl ?_)
 (refine Jx.loadA u32 0 rfl 0 rfl (by omega) rfl ?_)
 (refine Jx.assign rfl rfl (J.nil (N.seq (W.seq (W.region (Jx.move rfl rfl ?_))))))
 (refine J.call (turned_ok _ 7 (by decide)) rfl (evs_args rfl) rfl ?_; rintro _ _ ⟨rfl, rfl⟩; simp only [la1, la2, la3])
 (refine Jx.move rfl rfl ?_)
 (refine J.call (turned_ok _ 18 (by decide)) rfl (evs_args rfl) rfl ?_; rintro _ _ ⟨rfl, rfl⟩; simp only [la1, la2, la3])
 (refine Jx.xorU rfl rfl rfl ?_)
 (refine Jx.move rfl rfl (Jx.shrU rfl rfl (by decide) rfl ?_))
 (refine Jx.xorU rfl rfl rfl ?_)
 (refine Jx.assign rfl rfl (J.nil (N.seq (W.seq (W.region (Jx.move rfl rfl ?_))))))
 (refine J.call (turned_ok _ 17 (by decide)) rfl (evs_args rfl) rfl ?_; rintro _ _ ⟨rfl, rfl⟩; simp only [la1, la2, la3])
 (refine Jx.move rfl rfl ?_)
 (refine J.call (turned_ok _ 19 (by decide)) rfl (evs_args rfl) rfl ?_; rintro _ _ ⟨rfl, rfl⟩; simp only [la1, la2, la3])
 (refine Jx.xorU rfl rfl rfl ?_)
 (refine Jx.move rfl rfl (Jx.shrU rfl rfl (by decide) rfl ?_))
 (refine Jx.xorU rfl rfl rfl ?_)
 (refine Jx.assign rfl rfl (J.nil (N.seq ?_)))
 (refine W.draw follows ?_)
 (refine JD.upto (n := 17) rfl (by decide +kernel) (by decide +kernel) rfl rfl ?_)
 (refine Cx.move rfl rfl ?_)
 (refine Cx.rem64 rfl rfl (by omega) (by decide) rfl ?_)
 (refine Cx.move rfl rfl ?_)
 (refine Cx.rem64 rfl rfl (by omega) (by decide) rfl ?_)
 (refine Cx.index0 (i % 16) rfl rfl (by omega) (by omega) rfl ?_)
 (refine Cx.loadA u32 0 rfl 0 rfl (by omega) rfl ?_)
 (refine Cx.move rfl rfl ?_)
 (refine Cx.addU rfl rfl rfl ?_)
 (refine Cx.move rfl rfl ?_)
 (refine Cx.add64 rfl rfl (by omega) rfl ?_)
 (refine Cx.rem64 rfl rfl (by omega) (by decide) rfl ?_)
 (refine Cx.index0 ((i + 9) % 16) rfl rfl (by omega) (by omega) rfl ?_)
 (refine Cx.loadA u32 0 rfl 0 rfl (by omega) rfl ?_)
 (refine Cx.addU rfl rfl rfl ?_)
 (refine Cx.move rfl rfl ?_)
 (refine Cx.addU rfl rfl rfl ?_)
 (refine Cx.index0 (i % 16) rfl rfl (by omega) (by omega) rfl ?_)
 (refine SegC.nil ?_)
 (refine J.storeA u32 new rfl (by rw [← hst1]; rfl) (One.val rfl) 0 rfl (by omega) (by rw [List.set_cons_zero, hws2]) ?_)
 (refine J.nil (N.seq (W.seq ?_)))
 (refine W.draw follows ?_)
 (refine JD.calm rfl (by decide +kernel) ?_)
 (refine Cx.move rfl rfl ?_)
 (refine Cx.move rfl rfl ?_)
 (refine SegC.q (Qs.call (Lc := []) (turned_ok _ 6 (by decide)) (fun s L' h => h) (List.Perm.refl _) (evs_args rfl)) rfl ?_)
 (refine Cx.move rfl rfl ?_)
 (refine SegC.q (Qs.call (Lc := []) (turned_ok _ 11 (by decide)) (fun s L' h => h) (List.Perm.refl _) (evs_args rfl)) rfl ?_)
 (refine Cx.xorU rfl rfl rfl ?_)
 (refine Cx.move rfl rfl ?_)
 (refine SegC.q (Qs.call (Lc := []) (turned_ok _ 25 (by decide)) (fun s L' h => h) (List.Perm.refl _) (evs_args rfl)) rfl ?_)
 (refine Cx.xorU rfl rfl rfl ?_)
 (refine Cx.addU rfl rfl rfl ?_)
 (refine Cx.move rfl rfl ?_)
 (refine Cx.move rfl rfl ?_)
 (refine Cx.andU rfl rfl rfl ?_)
 (refine Cx.move rfl rfl ?_)
 (refine Cx.notU rfl rfl ?_)
 (refine Cx.move rfl rfl ?_)
 (refine Cx.andU rfl rfl rfl ?_)
 (refine Cx.xorU rfl rfl rfl ?_)
 (refine Cx.addU rfl rfl rfl ?_)
 (refine Cx.move rfl rfl ?_)
 (refine SegC.q (Qs.call (Lc := []) (const_ok i (by omega)) (fun s L' h => h) (List.Perm.refl _) (evs_args rfl)) rfl ?_)
 (refine Cx.addU rfl rfl rfl ?_)
 (refine Cx.move rfl rfl ?_)
 (refine Cx.rem64 rfl rfl (by omega) (by decide) rfl ?_)
 (refine Cx.index0 (i % 16) rfl rfl (by omega) (by omega) rfl ?_)
 (refine Cx.loadA u32 0 rfl 0 rfl (by omega) rfl ?_)
 (refine Cx.addU rfl rfl rfl ?_)
 (refine Cx.assign rfl rfl ?_)
 (refine SegC.nil ?_)
 (refine N.seq (W.seq (W.region (Jx.move rfl rfl ?_))))
 (refine J.call (turned_ok _ 2 (by decide)) rfl (evs_args rfl) rfl ?_; rintro _ _ ⟨rfl, rfl⟩; simp only [la1, la2, la3])
 (refine Jx.move rfl rfl ?_)
 (refine J.call (turned_ok _ 13 (by decide)) rfl (evs_args rfl) rfl ?_; rintro _ _ ⟨rfl, rfl⟩; simp only [la1, la2, la3])
 (refine Jx.xorU rfl rfl rfl ?_)
 (refine Jx.move rfl rfl ?_)
 (refine J.call (turned_ok _ 22 (by decide)) rfl (evs_args rfl) rfl ?_; rintro _ _ ⟨rfl, rfl⟩; simp only [la1, la2, la3])
 (refine Jx.xorU rfl rfl rfl ?_)
 (refine Jx.move rfl rfl (Jx.move rfl rfl (Jx.andU rfl rfl rfl ?_)))
 (refine Jx.move rfl rfl (Jx.move rfl rfl (Jx.andU rfl rfl rfl ?_)))
 (refine Jx.xorU rfl rfl rfl ?_)
 (refine Jx.move rfl rfl (Jx.move rfl rfl (Jx.andU rfl rfl rfl ?_)))
 (refine Jx.xorU rfl rfl rfl ?_)
 (refine Jx.addU rfl rfl rfl ?_)
 (refine Jx.assign rfl rfl (J.nil (N.seq (W.seq (W.region (Jx.move rfl rfl (Jx.move rfl rfl (Jx.move rfl rfl (Jx.assign rfl rfl (Jx.assign rfl rfl (Jx.assign rfl rfl (J.nil (N.seq (W.seq ?_))))))))))))))
 (refine W.region (Jx.move rfl rfl (Jx.move rfl rfl (Jx.addU rfl rfl rfl ?_))))
 (refine Jx.assign rfl rfl (J.nil (N.seq (W.seq (W.region (Jx.move rfl rfl (Jx.move rfl rfl (Jx.move rfl rfl (Jx.assign rfl rfl (Jx.assign rfl rfl (Jx.assign rfl rfl (J.nil (N.seq (W.region ?_))))))))))))))
 (refine Jx.move rfl rfl (Jx.move rfl rfl (Jx.addU rfl rfl rfl ?_)))
 (refine Jx.assign rfl rfl (J.nil (N.seq (W.region (Jx.move rfl rfl (Jx.add64 rfl rfl (by omega) rfl ?_))))))
 (refine Jx.assign rfl rfl (J.nil ?_))
 (refine id ?_; rotate_left))
        exact N.round (i + 1, s.round (kAt i) (ws2.getD (i % 16) 0), ws2) ⟨by simp only; omega, by simp only; rw [hst, hg]; rfl, hn⟩ (by simp only; omega) rfl ⟨ref0 rfl, ref0 rfl, ref0 rfl, ref0 rfl, ref0 rfl, ref0 rfl, ref0 rfl, ref0 rfl, ref0 rfl, ref0 rfl, ref0 rfl, ref0 rfl, trivial⟩
      · have hg : ws.getD (i % 16) 0 = W bs i := hwin.2 i (by omega) (by omega)
        have hn : Win bs ws (i + 1) := ⟨hl, fun t ht ht2 => hwin.2 t (by omega) (by omega)⟩
        focus (
 (refine W.seq (W.seq (W.region (Jx.move rfl rfl (Jx.lssI rfl rfl rfl (J.nil (N.seq (W.cT rfl ?_))))))))
 (refine W.skip (N.seq (W.seq (W.block (W.seq (W.seq (W.region (Jx.move rfl rfl (Jx.geqI rfl rfl rfl (J.nil (N.seq (W.cF rfl ?_))))))))))))
 (refine W.skip (N.seq (W.seq ?_)))
 (refine W.draw follows ?_)
 (refine JD.calm rfl (by decide +kernel) ?_)
 (refine Cx.move rfl rfl ?_)
 (refine Cx.move rfl rfl ?_)
 (refine SegC.q (Qs.call (Lc := []) (turned_ok _ 6 (by decide)) (fun s L' h => h) (List.Perm.refl _) (evs_args rfl)) rfl ?_)
 (refine Cx.move rfl rfl ?_)
 (refine SegC.q (Qs.call (Lc := []) (turned_ok _ 11 (by decide)) (fun s L' h => h) (List.Perm.refl _) (evs_args rfl)) rfl ?_)
 (refine Cx.xorU rfl rfl rfl ?_)
 (refine Cx.move rfl rfl ?_)
 (refine SegC.q (Qs.call (Lc := []) (turned_ok _ 25 (by decide)) (fun s L' h => h) (List.Perm.refl _) (evs_args rfl)) rfl ?_)
 (refine Cx.xorU rfl rfl rfl ?_)
 (refine Cx.addU rfl rfl rfl ?_)
 (refine Cx.move rfl rfl ?_)
 (refine Cx.move rfl rfl ?_)
 (refine Cx.andU rfl rfl rfl ?_)
 (refine Cx.move rfl rfl ?_)
 (refine Cx.notU rfl rfl ?_)
 (refine Cx.move rfl rfl ?_)
 (refine Cx.andU rfl rfl rfl ?_)
 (refine Cx.xorU rfl rfl rfl ?_)
 (refine Cx.addU rfl rfl rfl ?_)
 (refine Cx.move rfl rfl ?_)
 (refine SegC.q (Qs.call (Lc := []) (const_ok i (by omega)) (fun s L' h => h) (List.Perm.refl _) (evs_args rfl)) rfl ?_)
 (refine Cx.addU rfl rfl rfl ?_)
 (refine Cx.move rfl rfl ?_)
 (refine Cx.rem64 rfl rfl (by omega) (by decide) rfl ?_)
 (refine Cx.index0 (i % 16) rfl rfl (by omega) (by omega) rfl ?_)
 (refine Cx.loadA u32 0 rfl 0 rfl (by omega) rfl ?_)
 (refine Cx.addU rfl rfl rfl ?_)
 (refine Cx.assign rfl rfl ?_)
 (refine SegC.nil ?_)
 (refine N.seq (W.seq (W.region (Jx.move rfl rfl ?_))))
 (refine J.call (turned_ok _ 2 (by decide)) rfl (evs_args rfl) rfl ?_; rintro _ _ ⟨rfl, rfl⟩; simp only [la1, la2, la3])
 (refine Jx.move rfl rfl ?_)
 (refine J.call (turned_ok _ 13 (by decide)) rfl (evs_args rfl) rfl ?_; rintro _ _ ⟨rfl, rfl⟩; simp only [la1, la2, la3])
 (refine Jx.xorU rfl rfl rfl ?_)
 (refine Jx.move rfl rfl ?_)
 (refine J.call (turned_ok _ 22 (by decide)) rfl (evs_args rfl) rfl ?_; rintro _ _ ⟨rfl, rfl⟩; simp only [la1, la2, la3])
 (refine Jx.xorU rfl rfl rfl ?_)
 (refine Jx.move rfl rfl (Jx.move rfl rfl (Jx.andU rfl rfl rfl ?_)))
 (refine Jx.move rfl rfl (Jx.move rfl rfl (Jx.andU rfl rfl rfl ?_)))
 (refine Jx.xorU rfl rfl rfl ?_)
 (refine Jx.move rfl rfl (Jx.move rfl rfl (Jx.andU rfl rfl rfl ?_)))
 (refine Jx.xorU rfl rfl rfl ?_)
 (refine Jx.addU rfl rfl rfl ?_)
 (refine Jx.assign rfl rfl (J.nil (N.seq (W.seq (W.region (Jx.move rfl rfl (Jx.move rfl rfl (Jx.move rfl rfl (Jx.assign rfl rfl (Jx.assign rfl rfl (Jx.assign rfl rfl (J.nil (N.seq (W.seq ?_))))))))))))))
 (refine W.region (Jx.move rfl rfl (Jx.move rfl rfl (Jx.addU rfl rfl rfl ?_))))
 (refine Jx.assign rfl rfl (J.nil (N.seq (W.seq (W.region (Jx.move rfl rfl (Jx.move rfl rfl (Jx.move rfl rfl (Jx.assign rfl rfl (Jx.assign rfl rfl (Jx.assign rfl rfl (J.nil (N.seq (W.region ?_))))))))))))))
 (refine Jx.move rfl rfl (Jx.move rfl rfl (Jx.addU rfl rfl rfl ?_)))
 (refine Jx.assign rfl rfl (J.nil (N.seq (W.region (Jx.move rfl rfl (Jx.add64 rfl rfl (by omega) rfl ?_))))))
 (refine Jx.assign rfl rfl (J.nil ?_))
 (refine id ?_; rotate_left))
        exact N.round (i + 1, s.round (kAt i) (ws.getD (i % 16) 0), ws) ⟨by simp only; omega, by simp only; rw [hst, hg]; rfl, hn⟩ (by simp only; omega) rfl ⟨ref0 rfl, ref0 rfl, ref0 rfl, ref0 rfl, ref0 rfl, ref0 rfl, ref0 rfl, ref0 rfl, ref0 rfl, ref0 rfl, ref0 rfl, ref0 rfl, trivial⟩
    · have h64 : i = 64 := by omega
      rw [h64] at hst
      focus (
 (refine W.seq (W.seq (W.region (Jx.move rfl rfl (Jx.lssI rfl rfl rfl (J.nil (N.seq (W.cF rfl ?_))))))))
 (refine W.exit (N.seq (W.seq (W.region (Jx.indexArr rfl rfl (by decide) (by decide) rfl ?_)))))
 (refine Jx.load rfl 3 rfl rfl rfl ?_)
 (refine Jx.move rfl rfl (Jx.addU rfl rfl rfl ?_))
 (refine Jx.indexArr rfl rfl (by decide) (by decide) rfl ?_)
 (refine Jx.load rfl 3 rfl rfl rfl ?_)
 (refine Jx.move rfl rfl (Jx.addU rfl rfl rfl ?_))
 (refine Jx.indexArr rfl rfl (by decide) (by decide) rfl ?_)
 (refine Jx.load rfl 3 rfl rfl rfl ?_)
 (refine Jx.move rfl rfl (Jx.addU rfl rfl rfl ?_))
 (refine Jx.indexArr rfl rfl (by decide) (by decide) rfl ?_)
 (refine Jx.load rfl 3 rfl rfl rfl ?_)
 (refine Jx.move rfl rfl (Jx.addU rfl rfl rfl ?_))
 (refine Jx.indexArr rfl rfl (by decide) (by decide) rfl ?_)
 (refine Jx.load rfl 3 rfl rfl rfl ?_)
 (refine Jx.move rfl rfl (Jx.addU rfl rfl rfl ?_))
 (refine Jx.indexArr rfl rfl (by decide) (by decide) rfl ?_)
 (refine Jx.load rfl 3 rfl rfl rfl ?_)
 (refine Jx.move rfl rfl (Jx.addU rfl rfl rfl ?_))
 (refine Jx.indexArr rfl rfl (by decide) (by decide) rfl ?_)
 (refine Jx.load rfl 3 rfl rfl rfl ?_)
 (refine Jx.move rfl rfl (Jx.addU rfl rfl rfl ?_))
 (refine Jx.indexArr rfl rfl (by decide) (by decide) rfl ?_)
 (refine Jx.load rfl 3 rfl rfl rfl ?_)
 (refine Jx.move rfl rfl (Jx.addU rfl rfl rfl ?_))
 (refine Jx.buildA rfl rfl rfl rfl rfl ?_)
 (refine J.storeAll rfl rfl rfl 1 rfl rfl rfl ?_)
 (refine J.nil (N.seq (W.ret ?_)))
 (refine id ?_; rotate_left))
      refine N.retD (rs := [.cell 4 111]) (L1 := []) rfl (.cell rfl 1 rfl inferInstance .nil) (List.nil_sublist _) ⟨?_, rfl⟩
      have : blockS h bs = h.add s := by rw [add_comm8 s h, hst]; rfl
      rw [this]
      rfl
end Go.Proofs.YtaflklbmdbmjbaaGreatDoor.Sha
namespace Go.Proofs.YtaflklbmdbmjbaaGreatDoor.Sha
open Go Go.Sse
set_option maxRecDepth 10000
set_option linter.unusedVariables false
set_option linter.unusedSimpArgs false
abbrev tU8 : Nat := 5
theorem told_take_succ (h : S8) (i : Nat) (h8 : i < 8) : (h.list.take i).flatMap wordB ++ wordB (h.list.getD i 0) = (h.list.take (i + 1)).flatMap wordB := by
  have hl : i < h.list.length := h8
  rw [List.take_add_one, List.flatMap_append, List.getElem?_eq_getElem hl, List.getD_eq_getElem?_getD, List.getElem?_eq_getElem hl]
  simp
theorem told_take_len (h : S8) : ∀ (i : Nat), i ≤ 8 → ((h.list.take i).flatMap wordB).length = 4 * i
  | 0, _ => rfl
  | i + 1, hi => by
    rw [← told_take_succ h i (by omega), List.length_append, told_take_len h i (by omega)]
    simp only [wordB, List.length_cons, List.length_nil]; omega
set_option maxHeartbeats 4000000 in
theorem rtold_ok (h : S8) : FnC Tryz.prog 56 [.agg h.cells] [] (fun s L => s = str (toldS h) ∧ L = []) := by
  refine FnC.intro Tryz.func56 rfl Tryz.ntmps56 rfl fun Z w0 hG => ?_
  focus (
 (refine W.seq (W.region ?_))
 (refine J.boxAg rfl rfl ?_; intro b')
 (refine Jx.assign rfl rfl (J.nil (N.seq (W.seq (W.region (Jx.assign rfl rfl (J.nil (N.seq (W.seq (W.seq (W.region (Jx.assign rfl rfl (J.nil (N.seq ?_))))))))))))))
 (refine W.block ?_)
 (refine id ?_; rotate_left))
  refine W.loop (α := Nat × List UInt8) (fun x => [(4, int x.1), (3, str x.2), (1, ptr b')]) (fun x => [.obj b' 111 (h.list.map u32)]) (fun x => x.1 ≤ 8 ∧ x.2 = (h.list.take x.1).flatMap wordB) (fun x => 8 - x.1) (0, []) ⟨by simp, by simp⟩ rfl ⟨ref0 rfl, ref0 rfl, ref0 rfl, trivial⟩ ?_
  rintro ⟨i, acc⟩ ⟨hi, ha⟩
  simp only at hi ha ⊢
  have hlen : acc.length = 4 * i := by rw [ha]; exact told_take_len h i hi
  by_cases h1 : i < 8
  · focus (
 (refine W.seq (W.seq (W.region (Jx.move rfl rfl (Jx.lssI rfl rfl rfl (J.nil (N.seq (W.cT rfl ?_))))))))
 (refine W.skip (N.seq (W.seq (W.block ?_))))
 (refine W.draw follows ?_)
 (refine JD.calm rfl (by decide +kernel) ?_)
 (refine Cx.move rfl rfl ?_)
 (refine Cx.move rfl rfl ?_)
 (refine Cx.index0 i rfl rfl rfl (by omega) rfl ?_)
 (refine Cx.loadA u32 0 rfl 0 rfl h1 rfl ?_)
 (refine Cx.shrU rfl rfl (by decide) rfl ?_)
 (refine Cx.convByte rfl rfl rfl ?_)
 (refine Cx.move rfl rfl ?_)
 (refine Cx.index0 i rfl rfl rfl (by omega) rfl ?_)
 (refine Cx.loadA u32 0 rfl 0 rfl h1 rfl ?_)
 (refine Cx.shrU rfl rfl (by decide) rfl ?_)
 (refine Cx.convByte rfl rfl rfl ?_)
 (refine Cx.move rfl rfl ?_)
 (refine Cx.index0 i rfl rfl rfl (by omega) rfl ?_)
 (refine Cx.loadA u32 0 rfl 0 rfl h1 rfl ?_)
 (refine Cx.shrU rfl rfl (by decide) rfl ?_)
 (refine Cx.convByte rfl rfl rfl ?_)
 (refine Cx.move rfl rfl ?_)
 (refine Cx.index0 i rfl rfl rfl (by omega) rfl ?_)
 (refine Cx.loadA u32 0 rfl 0 rfl h1 rfl ?_)
 (refine Cx.convByte rfl rfl rfl ?_)
 (refine SegC.q (Qs.buildBytes (wordB (h.list.getD i 0)) rfl rfl rfl (by decide) (by decide)) rfl ?_)
 (refine Cx.bytesStr rfl rfl ?_)
 (refine Cx.cat rfl rfl (by rw [hlen]; simp only [wordB, List.length_cons, List.length_nil]; omega) rfl ?_)
 (refine Cx.assign rfl rfl ?_)
 (refine SegC.nil ?_)
 (refine N.seq (W.region (Jx.move rfl rfl (Jx.add64 rfl rfl (by omega) rfl ?_))))
 (refine Jx.assign rfl rfl (J.nil ?_))
 (refine id ?_; rotate_left))
    exact N.round (i + 1, acc ++ wordB (h.list.getD i 0)) ⟨by simp only; omega, by simp only; rw [ha, told_take_succ h i h1]⟩ (by simp only; omega) rfl ⟨ref0 rfl, ref0 rfl, ref0 rfl, trivial⟩
  · have h8 : i = 8 := by omega
    focus (
 (refine W.seq (W.seq (W.region (Jx.move rfl rfl (Jx.lssI rfl rfl rfl (J.nil (N.seq (W.cF rfl ?_))))))))
 (refine W.exit (N.seq (W.seq (W.region (Jx.move rfl rfl (Jx.assign rfl rfl (J.nil (N.seq (W.ret ?_)))))))))
 (refine id ?_; rotate_left))
    refine N.retD (rs := [.tmp 2]) (L1 := []) rfl (.tmp rfl .nil) (List.nil_sublist _) ⟨?_, rfl⟩
    rw [ha, h8]; rfl
theorem told_get (h : S8) (i k : Nat) (hi : i < 8) (hk : k < 4) : (toldS h).getD (4 * i + k) 0 = (wordB (h.list.getD i 0)).getD k 0 := by
  match i, hi, k, hk with
  | 0, _, 0, _ => rfl
  | 0, _, 1, _ => rfl
  | 0, _, 2, _ => rfl
  | 0, _, 3, _ => rfl
  | 1, _, 0, _ => rfl
  | 1, _, 1, _ => rfl
  | 1, _, 2, _ => rfl
  | 1, _, 3, _ => rfl
  | 2, _, 0, _ => rfl
  | 2, _, 1, _ => rfl
  | 2, _, 2, _ => rfl
  | 2, _, 3, _ => rfl
  | 3, _, 0, _ => rfl
  | 3, _, 1, _ => rfl
  | 3, _, 2, _ => rfl
  | 3, _, 3, _ => rfl
  | 4, _, 0, _ => rfl
  | 4, _, 1, _ => rfl
  | 4, _, 2, _ => rfl
  | 4, _, 3, _ => rfl
  | 5, _, 0, _ => rfl
  | 5, _, 1, _ => rfl
  | 5, _, 2, _ => rfl
  | 5, _, 3, _ => rfl
  | 6, _, 0, _ => rfl
  | 6, _, 1, _ => rfl
  | 6, _, 2, _ => rfl
  | 6, _, 3, _ => rfl
  | 7, _, 0, _ => rfl
  | 7, _, 1, _ => rfl
  | 7, _, 2, _ => rfl
  | 7, _, 3, _ => rfl
theorem set4_get (bs : List UInt8) (i : Nat) (a b c d : UInt8) (hl : bs.length = 32) (hi : i < 8) (m : Nat) :
    ((((bs.set (4 * i) a).set (4 * i + 1) b).set (4 * i + 2) c).set (4 * i + 3) d).getD m 0 = if m = 4 * i then a else if m = 4 * i + 1 then b else if m = 4 * i + 2 then c else if m = 4 * i + 3 then d else bs.getD m 0 := by
  simp only [List.getD_eq_getElem?_getD, List.getElem?_set, List.length_set, hl]
  by_cases h0 : m = 4 * i
  · subst h0; simp [show ¬ 4 * i + 1 = 4 * i by omega, show ¬ 4 * i + 2 = 4 * i by omega, show ¬ 4 * i + 3 = 4 * i by omega, show 4 * i < 32 by omega]
  · by_cases h1 : m = 4 * i + 1
    · subst h1; simp [show ¬ 4 * i + 2 = 4 * i + 1 by omega, show ¬ 4 * i + 3 = 4 * i + 1 by omega, show 4 * i + 1 < 32 by omega]
    · by_cases h2 : m = 4 * i + 2
      · subst h2; simp [show ¬ 4 * i + 3 = 4 * i + 2 by omega, show 4 * i + 2 < 32 by omega]
      · by_cases h3 : m = 4 * i + 3
        · subst h3; simp [show 4 * i + 3 < 32 by omega]
        · simp [h0, h1, h2, h3, show ¬ 4 * i = m by omega, show ¬ 4 * i + 1 = m by omega, show ¬ 4 * i + 2 = m by omega, show ¬ 4 * i + 3 = m by omega]
theorem told_step (h : S8) (bs : List UInt8) (i : Nat) (hi : i < 8) (hl : bs.length = 32) (hb : ∀ m, m < 4 * i → bs.getD m 0 = (toldS h).getD m 0) (m : Nat) (hm : m < 4 * (i + 1)) :
    ((((bs.set (4 * i) ((wordB (h.list.getD i 0)).getD 0 0)).set (4 * i + 1) ((wordB (h.list.getD i 0)).getD 1 0)).set (4 * i + 2) ((wordB (h.list.getD i 0)).getD 2 0)).set (4 * i + 3) ((wordB (h.list.getD i 0)).getD 3 0)).getD m 0 = (toldS h).getD m 0 := by
  rw [set4_get _ _ _ _ _ _ hl hi]
  by_cases h0 : m = 4 * i
  · rw [if_pos h0, h0, ← told_get h i 0 hi (by omega)]; rfl
  · rw [if_neg h0]
    by_cases h1 : m = 4 * i + 1
    · rw [if_pos h1, h1, ← told_get h i 1 hi (by omega)]
    · rw [if_neg h1]
      by_cases h2 : m = 4 * i + 2
      · rw [if_pos h2, h2, ← told_get h i 2 hi (by omega)]
      · rw [if_neg h2]
        by_cases h3 : m = 4 * i + 3
        · rw [if_pos h3, h3, ← told_get h i 3 hi (by omega)]
        · rw [if_neg h3]; exact hb m (by omega)
theorem told_ext (h : S8) (bs : List UInt8) (hl : bs.length = 32) (hb : ∀ m, m < 32 → bs.getD m 0 = (toldS h).getD m 0) : bs = toldS h := by
  refine List.ext_getElem (by rw [hl, told_len]) fun m h1 h2 => ?_
  have := hb m (by omega)
  simpa [List.getD_eq_getElem?_getD, List.getElem?_eq_getElem h1, List.getElem?_eq_getElem h2] using this
set_option maxHeartbeats 4000000 in
theorem told_ok (h : S8) : FnC Tryz.prog 94 [.agg h.cells] [] (fun s L => s = str (toldS h) ∧ L = []) := by
  refine FnC.intro Tryz.func94 rfl Tryz.ntmps94 rfl fun Z w0 hG => ?_
  focus (
 (refine W.seq (W.region ?_))
 (refine J.boxAg rfl rfl ?_; intro b')
 (refine Jx.assign rfl rfl (J.nil (N.seq (W.seq (W.region ?_)))))
 (refine J.alloc (by simp only [List.map_cons, List.map_nil]; rfl) rfl rfl ?_; intro b')
 (refine J.nil (N.seq (W.seq (W.seq (W.region (Jx.loadAll rfl 1 rfl rfl rfl ?_))))))
 (refine Jx.move rfl rfl (J.nil (N.seq (W.block ?_))))
 (refine id ?_; rotate_left))
  rename_i p1
  refine W.loop (α := Nat × List UInt8) (fun x => [(7, int x.1), (6, .agg (h.list.map u32)), (3, ptr b'), (1, ptr p1)]) (fun x => [.obj b' 154 (x.2.map byte), .obj p1 111 h.cells]) (fun x => x.1 ≤ 8 ∧ x.2.length = 32 ∧ ∀ m, m < 4 * x.1 → x.2.getD m 0 = (toldS h).getD m 0) (fun x => 8 - x.1) (0, List.replicate 32 0) ⟨by simp, rfl, fun m hm => by simp at hm⟩ rfl ⟨ref0 rfl, ref0 rfl, ref0 rfl, ref0 rfl, trivial⟩ ?_
  rintro ⟨i, bs⟩ ⟨hi, hl, hb⟩
  simp only at hi hl hb ⊢
  by_cases h1 : i < 8
  · focus (
 (refine W.seq (W.region (Jx.lssI rfl rfl rfl (J.nil (N.seq (W.seq (W.cT rfl ?_)))))))
 (refine W.skip (N.seq (W.seq (W.block (W.seq (W.region (Jx.move rfl rfl ?_)))))))
 (refine Jx.indexAg u32 0 i rfl rfl rfl (by omega) (by exact h1) rfl ?_)
 (refine Jx.assign rfl rfl (Jx.assign rfl rfl (J.nil (N.seq (W.region (Jx.move rfl rfl (Jx.mul64 rfl rfl (by omega) rfl ?_)))))))
 (refine Jx.move rfl rfl (Jx.mul64 rfl rfl (by omega) rfl ?_))
 (refine Jx.add64 rfl rfl (by omega) rfl ?_)
 (refine Jx.move rfl rfl (Jx.mul64 rfl rfl (by omega) rfl ?_))
 (refine Jx.add64 rfl rfl (by omega) rfl ?_)
 (refine Jx.move rfl rfl (Jx.mul64 rfl rfl (by omega) rfl ?_))
 (refine Jx.add64 rfl rfl (by omega) rfl ?_)
 (refine Jx.move rfl rfl (Jx.shrU rfl rfl (by decide) rfl ?_))
 (refine Jx.convByte rfl rfl rfl ?_)
 (refine Jx.move rfl rfl (Jx.shrU rfl rfl (by decide) rfl ?_))
 (refine Jx.convByte rfl rfl rfl ?_)
 (refine Jx.move rfl rfl (Jx.shrU rfl rfl (by decide) rfl ?_))
 (refine Jx.convByte rfl rfl rfl ?_)
 (refine Jx.move rfl rfl (Jx.convByte rfl rfl rfl ?_))
 (refine Jx.index0 (4 * i) rfl rfl (by omega) (by omega) rfl ?_)
 (refine J.storeA byte ((wordB (h.list.getD i 0)).getD 0 0) rfl rfl (One.val rfl) 0 rfl (by (try simp only [List.length_set]); omega) rfl ?_)
 (refine Jx.index0 (4 * i + 1) rfl rfl (by omega) (by omega) rfl ?_)
 (refine J.storeA byte ((wordB (h.list.getD i 0)).getD 1 0) rfl rfl (One.val rfl) 0 rfl (by (try simp only [List.length_set]); omega) rfl ?_)
 (refine Jx.index0 (4 * i + 2) rfl rfl (by omega) (by omega) rfl ?_)
 (refine J.storeA byte ((wordB (h.list.getD i 0)).getD 2 0) rfl rfl (One.val rfl) 0 rfl (by (try simp only [List.length_set]); omega) rfl ?_)
 (refine Jx.index0 (4 * i + 3) rfl rfl (by omega) (by omega) rfl ?_)
 (refine J.storeA byte ((wordB (h.list.getD i 0)).getD 3 0) rfl rfl (One.val rfl) 0 rfl (by (try simp only [List.length_set]); omega) rfl ?_)
 (refine J.nil (N.seq (W.region (Jx.add64 rfl rfl (by omega) rfl ?_))))
 (refine Jx.move rfl rfl (J.nil ?_))
 (refine id ?_; rotate_left))
    exact N.round (i + 1, (((bs.set (4 * i) ((wordB (h.list.getD i 0)).getD 0 0)).set (4 * i + 1) ((wordB (h.list.getD i 0)).getD 1 0)).set (4 * i + 2) ((wordB (h.list.getD i 0)).getD 2 0)).set (4 * i + 3) ((wordB (h.list.getD i 0)).getD 3 0)) ⟨by simp only; omega, by simp only [List.length_set]; exact hl, fun m hm => told_step h bs i h1 hl hb m hm⟩ (by simp only; omega) rfl ⟨ref0 rfl, ref0 rfl, ref0 rfl, ref0 rfl, trivial⟩
  · have h8 : i = 8 := by omega
    have e : bs = toldS h := told_ext h bs hl fun m hm => hb m (by omega)
    focus (
 (refine W.seq (W.region (Jx.lssI rfl rfl rfl (J.nil (N.seq (W.seq (W.cF rfl ?_)))))))
 (refine W.exit (N.seq (W.seq (W.region (Jx.sliceArr rfl rfl ?_)))))
 (refine Jx.bytesStrObj bs rfl 0 rfl hl (fun k hk => by rw [Nat.zero_add]; exact getElem?_map_lt byte bs 0 k (by omega)) rfl ?_)
 (refine Jx.assign rfl rfl (J.nil (N.seq (W.ret ?_))))
 (refine id ?_; rotate_left))
    exact N.retD (rs := [.tmp 2]) (L1 := []) rfl (.tmp rfl .nil) (List.nil_sublist _) ⟨by rw [e]; rfl, rfl⟩
theorem el_byte (m : List UInt8) (j : Nat) (hj : j < m.length) : (elOf encB 0 m j).getD 0 .any = (m.map byte).getD j .any := by
  simp [elOf, encB, List.getD_eq_getElem?_getD, List.getElem?_map, List.getElem?_eq_getElem hj]
set_option maxHeartbeats 4000000 in
theorem blocks_ok (s0 : S8) (l0 : List UInt8) (hl0 : l0.length ≤ 4294967296) : FnC Tryz.prog 93 [.agg s0.cells, bsl l0] [] (fun s L => ∃ v, v.oneCell' = true ∧ s = .tup [.agg (blocksS s0 l0).1.cells, .val v] ∧ L = [.row v tU8 1 (blocksS s0 l0).2.length (elOf encB 0 (blocksS s0 l0).2)]) := by
  refine FnC.intro Tryz.func93 rfl Tryz.ntmps93 rfl fun Z w0 hG => ?_
  focus (
 (refine W.seq (W.region ?_))
 (refine J.boxAg rfl rfl ?_; intro b')
 (refine J.alloc (by simp only [List.map_cons, List.map_nil]; rfl) rfl rfl ?_; intro b')
 (refine Jx.assign rfl rfl (J.nil (N.seq (W.seq (W.block ?_)))))
 (refine id ?_; rotate_left))
  rename_i p2
  refine W.loop (α := S8 × List UInt8) (fun x => [(1, bsl x.2), (2, ptr p2), (4, ptr b')]) (fun x => [.obj b' 111 (S8.cells ⟨0, 0, 0, 0, 0, 0, 0, 0⟩), .obj p2 111 x.1.cells]) (fun x => blocksS x.1 x.2 = blocksS s0 l0 ∧ x.2.length ≤ 4294967296) (fun x => x.2.length) (s0, l0) ⟨rfl, hl0⟩ rfl ⟨ref0 rfl, ref0 rfl, ref0 rfl, trivial⟩ ?_
  rintro ⟨s, l⟩ ⟨he, hl⟩
  simp only at he hl ⊢
  by_cases h1 : 64 ≤ l.length
  · have hlen : (l.take 64).length = 64 := by rw [List.length_take]; omega
    focus (
 (refine W.seq (W.seq (W.region (Jx.move rfl rfl (Jx.lenSl rfl rfl ?_)))))
 (refine Jx.geqI rfl rfl rfl (J.nil (N.seq (W.cT rfl ?_))))
 (refine W.skip (N.seq (W.block (W.seq ?_))))
 (refine W.draw follows ?_)
 (refine JD.upto (n := 6) rfl (by decide +kernel) (by decide +kernel) rfl rfl ?_)
 (refine Cx.loadAll rfl 1 rfl rfl rfl ?_)
 (refine Cx.move rfl rfl ?_)
 (refine Cx.takeL 64 rfl rfl rfl h1 rfl ?_)
 (refine Cx.sliceArrPtr ((l.take 64).map byte) rfl (by omega) (by decide) (by rw [List.length_map]; exact hlen) (fun j hj => el_byte (l.take 64) j (by omega)) rfl ?_)
 (refine Cx.loadPPag rfl (List.take_of_length_le (by rw [List.length_map]; omega)) (by rw [List.length_map]; exact hlen) rfl ?_)
 (refine SegC.q (Qs.call (Lc := []) (block_ok s (l.take 64) hlen) (fun s L' h => h) (List.Perm.refl _) (evs_args rfl)) rfl ?_)
 (refine SegC.nil ?_)
 (refine J.storeAll rfl rfl rfl 1 rfl rfl rfl ?_)
 (refine J.nil (N.seq (W.region (Jx.move rfl rfl ?_))))
 (refine Jx.dropL 64 rfl rfl rfl h1 rfl ?_)
 (refine Jx.assign rfl rfl (J.nil (N.blockNormal ?_)))
 (refine id ?_; rotate_left))
    exact N.round (blockS s (l.take 64), l.drop 64) ⟨by simp only; rw [← blocksS_ge h1, he], by simp only [List.length_drop]; omega⟩ (by simp only [List.length_drop]; omega) rfl ⟨ref0 rfl, ref0 rfl, ref0 rfl, trivial⟩
  · have e2 : blocksS s l = (s, l) := blocksS_lt (by omega)
    rw [e2] at he
    focus (
 (refine W.seq (W.seq (W.region (Jx.move rfl rfl (Jx.lenSl rfl rfl ?_)))))
 (refine Jx.geqI rfl rfl rfl (J.nil (N.seq (W.cF rfl ?_))))
 (refine W.exit (N.seq (W.seq ?_)))
 (refine W.draw follows ?_)
 (refine JD.begin 5 rfl ?_; refine JP.more [0, 1] _ rfl (by decide +kernel) ?_)
 (refine Cx.loadAll rfl 1 rfl rfl rfl ?_)
 (refine Cx.move rfl rfl ?_)
 (refine SegC.nil ?_)
 (refine JP.rowNil tU8 1 (elOf encB 0 []) ?_; refine JP.append (idx := [0, 1]) (m := []) (m2 := l) 2 [18] [1, 2] [0] (by decide +kernel) rfl ?_ rfl (SrcOK.sl rfl) rfl rfl (by simp only [maxLen, List.length_nil]; omega) rfl ?_; rotate_left; intro v' hv'; simp only [List.nil_append]; rotate_left)
 (refine Cx.loadAll rfl 2 rfl rfl rfl ?_)
 (refine Cx.move rfl rfl ?_)
 (refine SegC.nil ?_)
 (refine Ag.cons rfl ?_)
 (refine Ag.cons rfl ?_)
 (refine Ag.nil)
 (refine JP.storeAll (idx := [0]) 3 [4, 17] [0, 1, 2, 3] [] (by decide +kernel) rfl ?_ rfl rfl rfl 1 rfl rfl rfl ?_)
 (refine Cx.loadAll rfl 2 rfl rfl rfl ?_)
 (refine SegC.nil ?_)
 (refine Ag.cons rfl ?_)
 (refine Ag.nil)
 (refine JP.tail (idx := []) 4 (by decide +kernel) (by decide +kernel) rfl rfl ?_ ?_)
 (refine SegC.nil ?_)
 (refine Ag.nil)
 (refine Jx.assign rfl rfl (J.nil (N.seq (W.ret ?_))))
 (refine id ?_; rotate_left))
    refine N.retD (rs := [.cell 4 111, .tmp 5]) (L1 := [.row v' tU8 1 l.length (elOf encB 0 l)]) rfl (.cell rfl 1 rfl inferInstance (.tmp rfl .nil)) (by simp) ⟨v', hv', ?_, ?_⟩
    · rw [← he]; rfl
    · rw [← he]
end Go.Proofs.YtaflklbmdbmjbaaGreatDoor.Sha
namespace Go.Proofs.YtaflklbmdbmjbaaGreatDoor.Sha
open Go Go.Sse
set_option maxRecDepth 10000
set_option linter.unusedVariables false
set_option linter.unusedSimpArgs false
abbrev tHash : Nat := 148
abbrev hraw (b : Nat) (v : Value) (s : S8) (tail : List UInt8) (n : Nat) : List Own :=
  [.row v tU8 1 tail.length (elOf encB 0 tail), .obj b tHash [u32 s.a, u32 s.b, u32 s.c, u32 s.d, u32 s.e, u32 s.f, u32 s.g, u32 s.h, .val v, int n]]
theorem new_ok : FnC Tryz.prog 70 [] [] (fun r L => ∃ b v, r = ptr b ∧ L = hraw b v first8 [] 0) := by
  refine FnC.intro Tryz.func70 rfl Tryz.ntmps70 rfl fun Z w0 hG => ?_
  focus (
 (refine W.seq (W.region (Jx.assign rfl rfl (J.nil (N.seq (W.seq (W.region ?_)))))))
 (refine J.call (first_ok) rfl (evs_args rfl) rfl ?_; rintro _ _ ⟨rfl, rfl⟩; simp only [la1, la2, la3])
 (refine Jx.buildB rfl rfl rfl rfl rfl ?_)
 (refine J.boxAg rfl rfl ?_; intro b')
 (refine Jx.assign rfl rfl (J.nil (N.seq (W.ret ?_))))
 (refine id ?_; rotate_left))
  refine N.rowNil tU8 1 (elOf encB 0 []) ?_
  exact N.ret (rs := [.tmp 0]) rfl (.tmp rfl .nil) ⟨b', .slice none 0 0, rfl, rfl⟩
set_option maxHeartbeats 4000000 in
theorem write_ok (b : Nat) (v : Value) (s : S8) (tail : List UInt8) (n : Nat) (x : List UInt8) (h1 : tail.length < 64) (h2 : n ≤ 2147483648) (h3 : x.length ≤ 2147483648) :
    FnC Tryz.prog 71 [ptr b, str x] (hraw b v s tail n) (fun r L => ∃ v', L = hraw b v' (blocksS s (tail ++ x)).1 (blocksS s (tail ++ x)).2 (n + x.length)) := by
  have c := blocks_ok s (tail ++ x) (by simp only [List.length_append]; omega)
  have hmax : (tail ++ x).length ≤ maxLen := by simp only [List.length_append, maxLen]; omega
  have hb : tail.length + x.length ≤ maxLen ∧ (tail.length + x.length) * 1 ≤ 140737488355328 := by simp only [maxLen]; omega
  generalize blocksS s (tail ++ x) = p at *
  obtain ⟨s2, tl2⟩ := p
  refine FnC.intro Tryz.func71 rfl Tryz.ntmps71 rfl fun Z w0 hG => ?_
  focus (
 (refine W.seq (W.region (Jx.move rfl rfl (Jx.nilCheck rfl rfl ?_))))
 (refine Jx.fieldAddr rfl rfl ?_)
 (refine Jx.load rfl 1 rfl rfl rfl ?_)
 (refine Jx.move rfl rfl (Jx.lenS rfl rfl ?_))
 (refine Jx.add64 rfl rfl (by omega) rfl ?_)
 (refine Jx.nilCheck rfl rfl ?_)
 (refine Jx.fieldAddr rfl rfl ?_)
 (refine J.store rfl rfl (One.val rfl) 1 rfl rfl rfl rfl ?_)
 (refine J.nil (N.seq ?_))
 (refine W.draw follows ?_)
 (refine JD.begin 22 rfl ?_; refine JP.more [0, 1, 2, 3, 4, 5, 6, 7, 8, 9, 10] _ rfl (by decide +kernel) ?_)
 (refine Cx.move rfl rfl ?_)
 (refine Cx.move rfl rfl ?_)
 (refine Cx.move rfl rfl ?_)
 (refine Cx.nilCheck rfl rfl ?_)
 (refine Cx.fieldAddr rfl rfl ?_)
 (refine Cx.loadAg rfl 1 rfl rfl rfl rfl ?_)
 (refine Cx.move rfl rfl ?_)
 (refine Cx.nilCheck rfl rfl ?_)
 (refine Cx.fieldAddr rfl rfl ?_)
 (refine Cx.load rfl 1 rfl rfl rfl ?_)
 (refine Cx.move rfl rfl ?_)
 (refine SegC.nil ?_)
 (refine JP.append (idx := [0, 1, 2, 3, 4, 5, 6, 7, 8, 9, 10]) (m := tail) (m2 := x) 11 [23, 24] [6, 7, 8, 9, 10, 11] [0, 1, 2, 3, 4, 5] (by decide +kernel) rfl ?_ rfl (SrcOK.str rfl) rfl rfl hb rfl ?_; rotate_left; intro v' hv'; refine JP.freeze 25 rfl (by decide +kernel) hmax ?_; rotate_left)
 (refine Cx.move rfl rfl ?_)
 (refine Cx.move rfl rfl ?_)
 (refine Cx.move rfl rfl ?_)
 (refine Cx.nilCheck rfl rfl ?_)
 (refine Cx.fieldAddr rfl rfl ?_)
 (refine Cx.loadAg rfl 1 rfl rfl rfl rfl ?_)
 (refine Cx.move rfl rfl ?_)
 (refine Cx.nilCheck rfl rfl ?_)
 (refine Cx.fieldAddr rfl rfl ?_)
 (refine Cx.load rfl 1 rfl rfl rfl ?_)
 (refine Cx.move rfl rfl ?_)
 (refine SegC.nil ?_)
 (refine Ag.cons rfl ?_)
 (refine Ag.cons rfl ?_)
 (refine Ag.cons rfl ?_)
 (refine Ag.cons rfl ?_)
 (refine Ag.cons rfl ?_)
 (refine Ag.cons rfl ?_)
 (refine Ag.cons rfl ?_)
 (refine Ag.cons rfl ?_)
 (refine Ag.cons rfl ?_)
 (refine Ag.cons rfl ?_)
 (refine Ag.cons rfl ?_)
 (refine Ag.nil)
 (refine JP.call (idx := [0, 1, 2, 3, 4, 5]) (Lc := []) 12 [19, 25] [2, 3, 4, 5, 6, 7, 8, 9, 10, 11, 12] [0, 1] c rfl (by decide +kernel) rfl ?_ (evs_args rfl) rfl ?_; rotate_left; rintro _ _ ⟨v2, hv2, rfl, rfl⟩; simp only [List.cons_append, List.nil_append]; refine JP.more [13, 14, 15, 16, 17] _ rfl (by decide +kernel) ?_; rotate_left)
 (refine Cx.move rfl rfl ?_)
 (refine Cx.move rfl rfl ?_)
 (refine Cx.move rfl rfl ?_)
 (refine Cx.nilCheck rfl rfl ?_)
 (refine Cx.fieldAddr rfl rfl ?_)
 (refine Cx.loadAg rfl 0 rfl rfl rfl rfl ?_)
 (refine SegC.nil ?_)
 (refine Ag.cons rfl ?_)
 (refine Ag.cons rfl ?_)
 (refine Ag.cons rfl ?_)
 (refine Ag.cons rfl ?_)
 (refine Ag.cons rfl ?_)
 (refine Ag.cons rfl ?_)
 (refine Ag.nil)
 (refine Cx.move rfl rfl ?_)
 (refine Cx.extract rfl rfl rfl ?_)
 (refine Cx.extract rfl rfl rfl ?_)
 (refine Cx.nilCheck rfl rfl ?_)
 (refine Cx.fieldAddr rfl rfl ?_)
 (refine SegC.nil ?_)
 (refine JP.storeAg (idx := [0, 1, 13, 14, 15, 16, 17]) 18 [30, 27] [0, 2, 3, 4, 5, 6, 7, 8, 9, 10, 11, 12, 13, 14, 16, 17, 18] [1, 15] (by decide +kernel) rfl ?_ rfl rfl rfl 1 rfl rfl rfl rfl ?_; rotate_left; refine JP.more [19, 20] _ rfl (by decide +kernel) ?_; rotate_left)
 (refine Cx.move rfl rfl ?_)
 (refine Cx.move rfl rfl ?_)
 (refine Cx.move rfl rfl ?_)
 (refine Cx.extract rfl rfl rfl ?_)
 (refine Cx.extract rfl rfl rfl ?_)
 (refine Cx.nilCheck rfl rfl ?_)
 (refine Cx.fieldAddr rfl rfl ?_)
 (refine SegC.nil ?_)
 (refine Ag.cons rfl ?_)
 (refine Ag.cons rfl ?_)
 (refine Ag.cons rfl ?_)
 (refine Ag.cons rfl ?_)
 (refine Ag.cons rfl ?_)
 (refine Ag.cons rfl ?_)
 (refine Ag.cons rfl ?_)
 (refine Ag.nil)
 (refine Cx.nilCheck rfl rfl ?_)
 (refine Cx.fieldAddr rfl rfl ?_)
 (refine SegC.nil ?_)
 (refine JP.store (idx := [1, 15, 19, 20]) 21 [32, 28] [0, 1, 2, 3, 4, 5, 6, 7, 8, 9, 10, 11, 12, 13, 14, 15, 16, 17, 18, 19, 20, 21] [] (by decide +kernel) rfl ?_ rfl rfl (One.val hv2) 1 rfl rfl rfl rfl ?_)
 (refine Cx.move rfl rfl ?_)
 (refine Cx.extract rfl rfl rfl ?_)
 (refine Cx.nilCheck rfl rfl ?_)
 (refine Cx.fieldAddr rfl rfl ?_)
 (refine SegC.nil ?_)
 (refine Ag.cons rfl ?_)
 (refine Ag.cons rfl ?_)
 (refine Ag.cons rfl ?_)
 (refine Ag.cons rfl ?_)
 (refine Ag.nil)
 (refine JP.tail (idx := []) 22 (by decide +kernel) (by decide +kernel) rfl rfl ?_ ?_)
 (refine SegC.nil ?_)
 (refine Ag.nil)
 (refine J.nil ?_)
 (refine id ?_; rotate_left))
  exact N.fin (rs := []) rfl .nil ⟨v2, rfl⟩
end Go.Proofs.YtaflklbmdbmjbaaGreatDoor.Sha
namespace Go.Proofs.YtaflklbmdbmjbaaGreatDoor.Sha
open Go Go.Sse
set_option maxRecDepth 10000
set_option linter.unusedVariables false
set_option linter.unusedSimpArgs false
theorem zeros_stop (n k : Nat) (hk : k ≤ zerosOf n) (r : Nat) (hr : r = n % 64) : ((((r + 1 + k : Nat) : Int)) % 64 = 56) ↔ k = zerosOf n := by
  unfold zerosOf at *
  subst hr
  constructor
  · intro h; omega
  · intro h; subst h; omega
theorem lenB_take (n i : Nat) (h : i < 8) : (lenB n).take i ++ [UInt8.ofNat (n * 8 / 2 ^ (56 - 8 * i))] = (lenB n).take (i + 1) := by
  have hl : i < (lenB n).length := by rw [lenB_len]; exact h
  rw [List.take_add_one, List.getElem?_eq_getElem hl]
  simp [lenB]
theorem zerosOf_lt (n : Nat) : zerosOf n < 64 := Nat.mod_lt _ (by omega)
set_option maxHeartbeats 4000000 in
theorem sum_ok (b : Nat) (v : Value) (s : S8) (tail : List UInt8) (n : Nat) (h1 : tail.length = n % 64) (h2 : n ≤ 4294967296) :
    FnC Tryz.prog 72 [ptr b] (hraw b v s tail n) (fun r L => r = str (toldS (blocksS s (tail ++ padS n)).1) ∧ L = hraw b v s tail n) := by
  have hz := zerosOf_lt n
  have ht : tail.length < 64 := by omega
  have c := blocks_ok s (tail ++ padS n) (by simp only [padS, List.length_append, List.length_cons, List.length_nil, List.length_replicate, lenB_len]; omega)
  have hb0 : tail.length ≤ maxLen ∧ tail.length * 1 ≤ 140737488355328 := by simp only [maxLen]; omega
  have hb1 : tail.length + [(128 : UInt8)].length ≤ maxLen ∧ (tail.length + [(128 : UInt8)].length) * 1 ≤ 140737488355328 := by simp only [maxLen, List.length_cons, List.length_nil]; omega
  have hpad : tail ++ [128] ++ List.replicate (zerosOf n) 0 ++ lenB n = tail ++ padS n := by simp [padS]
  generalize hp : blocksS s (tail ++ padS n) = p at *
  obtain ⟨s2, tl2⟩ := p
  refine FnC.intro Tryz.func72 rfl Tryz.ntmps72 rfl fun Z w0 hG => ?_
  focus (
 (refine W.seq (W.region (Jx.assign rfl rfl (J.nil (N.seq (W.seq (W.region (Jx.move rfl rfl (Jx.nilCheck rfl rfl ?_)))))))))
 (refine Jx.fieldAddr rfl rfl ?_)
 (refine Jx.load rfl 1 rfl rfl rfl ?_)
 (refine J.appendNil (l2 := tail) (SrcOK.row rfl 1 rfl) rfl rfl hb0 rfl ?_; intro v1 hv1)
 (refine Jx.assign rfl rfl (J.nil (N.seq (W.seq (W.region (Jx.move rfl rfl ?_))))))
 (refine J.qs (Qs.buildBytes [128] rfl rfl rfl (by decide) (by decide)) rfl ?_)
 (refine J.appendL (l2 := [128]) rfl (SrcOK.sl rfl) rfl rfl hb1 rfl ?_; intro v2 hv2)
 (refine Jx.assign rfl rfl (J.nil (N.seq (W.seq (W.block ?_)))))
 (refine id ?_; rotate_left))
  refine W.loop (α := Nat × Value) (fun x => [(3, .val x.2), (0, ptr b)]) (fun x => .row x.2 tU8 1 (tail ++ [128] ++ List.replicate x.1 0).length (elOf encB 0 (tail ++ [128] ++ List.replicate x.1 0)) :: hraw b v s tail n) (fun x => x.1 ≤ zerosOf n) (fun x => zerosOf n - x.1) (0, v2) (by simp) (by simp only [List.replicate_zero, List.append_nil]) ⟨ref0 rfl, ref0 rfl, trivial⟩ ?_
  rintro ⟨k, u⟩ hk
  simp only at hk ⊢
  have hst := zeros_stop n k hk tail.length h1
  have hel : (tail ++ [128] ++ List.replicate k (0 : UInt8)).length = tail.length + 1 + k := by simp only [List.length_append, List.length_cons, List.length_nil, List.length_replicate]
  have hb2 : (tail ++ [128] ++ List.replicate k (0 : UInt8)).length + [(0 : UInt8)].length ≤ maxLen ∧ ((tail ++ [128] ++ List.replicate k (0 : UInt8)).length + [(0 : UInt8)].length) * 1 ≤ 140737488355328 := by rw [hel]; simp only [maxLen, List.length_cons, List.length_nil]; omega
  have hnext : tail ++ [128] ++ List.replicate k (0 : UInt8) ++ [0] = tail ++ [128] ++ List.replicate (k + 1) 0 := by rw [List.replicate_succ']; simp
  by_cases hkz : k = zerosOf n
  · have hc : (((tail ++ [128] ++ List.replicate k (0 : UInt8)).length : Nat) : Int) % 64 = 56 := by rw [hel]; exact hst.2 hkz
    rw [hkz] at hc hel ⊢
    generalize hE : tail ++ [128] ++ List.replicate (zerosOf n) (0 : UInt8) = e at *
    focus (
 (refine W.seq (W.seq (W.region (Jx.move rfl rfl (Jx.lenRow rfl 0 rfl rfl ?_)))))
 (refine Jx.rem64 rfl rfl (by omega) (by decide) rfl ?_)
 (refine Jx.neqI rfl rfl rfl (J.nil (N.seq (W.cF rfl ?_))))
 (refine W.exit (N.seq (W.seq (W.region (Jx.move rfl rfl (Jx.nilCheck rfl rfl ?_))))))
 (refine Jx.fieldAddr rfl rfl ?_)
 (refine Jx.load rfl 2 rfl rfl rfl ?_)
 (refine Jx.convU64 n rfl rfl rfl (by omega) rfl ?_)
 (refine Jx.mulU64 8 rfl rfl (by omega) rfl ?_)
 (refine Jx.assign rfl rfl (J.nil (N.seq (W.seq (W.seq (W.region (Jx.move rfl rfl (J.nil (N.seq (W.block ?_))))))))))
 (refine id ?_; rotate_left))
    refine W.loop (α := Nat × Value) (fun x => [(29, int x.1), (3, .val x.2), (4, u64 (n * 8)), (0, ptr b)]) (fun x => .row x.2 tU8 1 (e ++ (lenB n).take x.1).length (elOf encB 0 (e ++ (lenB n).take x.1)) :: hraw b v s tail n) (fun x => x.1 ≤ 8) (fun x => 8 - x.1) (0, u) (by simp) (by simp only [List.take_zero, List.append_nil]) ⟨ref0 rfl, ref0 rfl, ref0 rfl, ref0 rfl, trivial⟩ ?_
    rintro ⟨i, u⟩ hi
    simp only at hi ⊢
    have hlt : ((lenB n).take i).length ≤ 8 := by rw [List.length_take]; omega
    have hel2 : (e ++ (lenB n).take i).length ≤ 200 := by rw [List.length_append]; omega
    by_cases h8 : i < 8
    · have hb3 : (e ++ (lenB n).take i).length + [UInt8.ofNat (n * 8 / 2 ^ (56 - 8 * i))].length ≤ maxLen ∧ ((e ++ (lenB n).take i).length + [UInt8.ofNat (n * 8 / 2 ^ (56 - 8 * i))].length) * 1 ≤ 140737488355328 := by simp only [maxLen, List.length_cons, List.length_nil]; omega
      have hn2 : e ++ (lenB n).take i ++ [UInt8.ofNat (n * 8 / 2 ^ (56 - 8 * i))] = e ++ (lenB n).take (i + 1) := by rw [List.append_assoc, lenB_take n i h8]
      generalize hm : e ++ (lenB n).take i = m at *
      focus (
 (refine W.seq (W.region (Jx.lssI rfl rfl rfl (J.nil (N.seq (W.seq (W.cT rfl ?_)))))))
 (refine W.skip (N.seq (W.seq (W.block (W.seq (W.region (Jx.move rfl rfl (Jx.assign rfl rfl (J.nil (N.seq (W.region (Jx.move rfl rfl (Jx.move rfl rfl (Jx.move rfl rfl ?_))))))))))))))
 (refine Jx.mul64 rfl rfl (by omega) rfl ?_)
 (refine Jx.sub64 rfl rfl (by omega) rfl ?_)
 (refine Jx.shrN (s := 56 - 8 * i) rfl rfl (by omega) (by simp only [IntKind.bits]; omega) rfl ?_)
 (refine Jx.numByte (n * 8 / 2 ^ (56 - 8 * i)) rfl rfl rfl rfl ?_)
 (refine J.qs (Qs.buildBytes [UInt8.ofNat (n * 8 / 2 ^ (56 - 8 * i))] rfl rfl rfl (by decide) (by decide)) rfl ?_)
 (refine J.appendL (l2 := [UInt8.ofNat (n * 8 / 2 ^ (56 - 8 * i))]) rfl (SrcOK.sl rfl) rfl rfl hb3 rfl ?_; intro v3 hv3)
 (refine Jx.assign rfl rfl (J.nil (N.seq (W.region (Jx.add64 rfl rfl (by omega) rfl ?_)))))
 (refine Jx.move rfl rfl (J.nil ?_))
 (refine id ?_; rotate_left))
      exact N.round (i + 1, v3) (by simp only; omega) (by simp only; omega) (by simp only [hn2]) ⟨ref0 rfl, ref0 rfl, ref0 rfl, ref0 rfl, trivial⟩
    · have h8' : i = 8 := by omega
      have hall : e ++ (lenB n).take i = tail ++ padS n := by rw [h8', List.take_of_length_le (by rw [lenB_len]; omega), hpad]
      rw [hall]
      rw [hall] at hel2
      refine W.freeze 3 rfl (by simp only [maxLen]; omega) ?_
      focus (
 (refine W.seq (W.region (Jx.lssI rfl rfl rfl (J.nil (N.seq (W.seq (W.cF rfl ?_)))))))
 (refine W.exit (N.seq (W.seq (W.region (Jx.move rfl rfl (Jx.nilCheck rfl rfl ?_))))))
 (refine Jx.fieldAddr rfl rfl ?_)
 (refine Jx.loadAg rfl 1 rfl rfl rfl rfl ?_)
 (refine Jx.move rfl rfl ?_)
 (refine J.call c rfl (evs_args rfl) rfl ?_; rintro _ _ ⟨v4, hv4, rfl, rfl⟩; simp only [List.cons_append, List.nil_append])
 (refine Jx.move rfl rfl (Jx.extract rfl rfl rfl ?_))
 (refine Jx.extract rfl rfl rfl ?_)
 (refine J.alloc (by simp only [List.map_cons, List.map_nil]; rfl) rfl rfl ?_; intro b')
 (refine J.storeAll rfl rfl rfl 0 rfl rfl rfl ?_)
 (refine Jx.assign rfl rfl (J.nil (N.seq (W.seq (W.region (Jx.loadAll rfl 0 rfl rfl rfl ?_))))))
 (refine J.call (told_ok s2) rfl (evs_args rfl) rfl ?_; rintro _ _ ⟨rfl, rfl⟩; simp only [la1, la2, la3])
 (refine Jx.assign rfl rfl (J.nil (N.seq (W.ret ?_))))
 (refine id ?_; rotate_left))
      exact N.retD (rs := [.tmp 2]) (L1 := hraw b v s tail n) rfl (.tmp rfl .nil) (by simp) ⟨rfl, rfl⟩
  · have hc : ¬ (((tail ++ [128] ++ List.replicate k (0 : UInt8)).length : Nat) : Int) % 64 = 56 := by rw [hel]; exact fun h => hkz (hst.1 h)
    generalize hE : tail ++ [128] ++ List.replicate k (0 : UInt8) = e at *
    focus (
 (refine W.seq (W.seq (W.region (Jx.move rfl rfl (Jx.lenRow rfl 0 rfl rfl ?_)))))
 (refine Jx.rem64 rfl rfl (by omega) (by decide) rfl ?_)
 (refine Jx.neqI rfl rfl rfl (J.nil (N.seq (W.cT rfl ?_))))
 (refine W.skip (N.seq (W.block (W.region (Jx.move rfl rfl ?_)))))
 (refine J.qs (Qs.buildBytes [0] rfl rfl rfl (by decide) (by decide)) rfl ?_)
 (refine J.appendL (l2 := [0]) rfl (SrcOK.sl rfl) rfl rfl hb2 rfl ?_; intro v3 hv3)
 (refine Jx.assign rfl rfl (J.nil (N.blockNormal ?_)))
 (refine id ?_; rotate_left))
    exact N.round (k + 1, v3) (by simp only; omega) (by simp only; omega) (by simp only [hnext]) ⟨ref0 rfl, ref0 rfl, trivial⟩
theorem hsum_ok (x : List UInt8) (hx : x.length ≤ 2147483648) : FnC Tryz.prog 45 [str x] [] (fun r L => r = str (shaS x) ∧ L = []) := by
  have hl := blocksS_left x.length first8 x (Nat.le_refl _)
  have happ := blocksS_app x.length first8 x (padS x.length) (Nat.le_refl _)
  have c2 : ∀ b v, FnC Tryz.prog 71 [ptr b, str x] (hraw b v first8 [] 0) (fun r L => ∃ v', L = hraw b v' (blocksS first8 x).1 (blocksS first8 x).2 x.length) := fun b v => by
    have := write_ok b v first8 [] 0 x (by simp) (by omega) hx
    simpa using this
  have c3 := fun b v => sum_ok b v (blocksS first8 x).1 (blocksS first8 x).2 x.length hl (by omega)
  rw [← happ] at c3
  change ∀ b v, FnC Tryz.prog 72 [ptr b] (hraw b v (blocksS first8 x).1 (blocksS first8 x).2 x.length) (fun r L => r = str (shaS x) ∧ L = hraw b v (blocksS first8 x).1 (blocksS first8 x).2 x.length) at c3
  generalize blocksS first8 x = p at *
  refine FnC.intro Tryz.func45 rfl Tryz.ntmps45 rfl fun Z w0 hG => ?_
  focus (
 (refine W.seq (W.region (Jx.assign rfl rfl (J.nil (N.seq (W.seq (W.region ?_)))))))
 (refine J.call new_ok rfl (evs_args rfl) rfl ?_; rintro _ _ ⟨b, v, rfl, rfl⟩; simp only [la1, la2, la3])
 (refine Jx.assign rfl rfl (J.nil (N.seq (W.seq (W.region (Jx.move rfl rfl (Jx.move rfl rfl ?_)))))))
 (refine J.call (c2 b v) rfl (evs_args rfl) rfl ?_; rintro _ _ ⟨v2, rfl⟩; simp only [la1, la2, la3])
 (refine J.nil (N.seq (W.seq (W.region (Jx.move rfl rfl ?_)))))
 (refine J.call (c3 b v2) rfl (evs_args rfl) rfl ?_; rintro _ _ ⟨rfl, rfl⟩; simp only [la1, la2, la3])
 (refine Jx.assign rfl rfl (J.nil (N.seq (W.ret ?_))))
 (refine id ?_; rotate_left))
  exact N.retD (rs := [.tmp 2]) (L1 := []) rfl (.tmp rfl .nil) (List.nil_sublist _) ⟨rfl, rfl⟩
end Go.Proofs.YtaflklbmdbmjbaaGreatDoor.Sha
namespace Go.Proofs.YtaflklbmdbmjbaaGreatDoor.Sha
open Go Go.Sse
set_option linter.unusedVariables false
set_option linter.unusedSimpArgs false
set_option maxRecDepth 100000
theorem endB_step (n i : Nat) (h : i < 8) : [UInt8.ofNat (n * 8 / 256 ^ i % 256)] ++ (lenB n).drop (8 - i) = (lenB n).drop (8 - (i + 1)) := by
  have hl : 8 - (i + 1) < (lenB n).length := by rw [lenB_len]; omega
  rw [List.drop_eq_getElem_cons hl, show 8 - (i + 1) + 1 = 8 - i by omega]
  simp only [List.singleton_append, List.cons.injEq, and_true]
  simp only [lenB, List.getElem_map, List.getElem_range]
  rw [show 56 - 8 * (8 - (i + 1)) = 8 * i by omega, Nat.pow_mul]
  apply UInt8.toNat_inj.1
  simp
theorem take_drop_ext (all bs : List UInt8) (i : Nat) (hl : bs.length = 64) (hi : i + 64 ≤ all.length) (h : ∀ m, m < 64 → bs.getD m 0 = all.getD (i + m) 0) : bs = (all.drop i).take 64 := by
  refine List.ext_getElem (by rw [hl, List.length_take, List.length_drop]; omega) fun m h1 h2 => ?_
  have := h m (by omega)
  rw [List.getElem_take, List.getElem_drop]
  simpa [List.getD_eq_getElem?_getD, List.getElem?_eq_getElem h1, List.getElem?_eq_getElem (show i + m < all.length by omega)] using this
theorem set_step (all bs : List UInt8) (i k : Nat) (hk : k < 64) (hl : bs.length = 64) (h : ∀ m, m < k → bs.getD m 0 = all.getD (i + m) 0) (m : Nat) (hm : m < k + 1) : (bs.set k (all.getD (i + k) 0)).getD m 0 = all.getD (i + m) 0 := by
  simp only [List.getD_eq_getElem?_getD, List.getElem?_set]
  by_cases e : k = m
  · subst e; simp [hl, hk]
  · rw [if_neg e]
    have := h m (by omega)
    simpa only [List.getD_eq_getElem?_getD] using this
set_option maxHeartbeats 4000000 in
theorem rsum_ok (x : List UInt8) (hx : x.length ≤ 2147483648) : FnC Tryz.prog 35 [str x] [] (fun r L => r = str (shaS x) ∧ L = []) := by
  have hz := zerosOf_lt x.length
  have hze : (119 - (x.length : Int) % 64) % 64 = (zerosOf x.length : Int) := by unfold zerosOf; omega
  have hzl : (List.replicate (zerosOf x.length) (0 : UInt8)).length = zerosOf x.length := by simp
  refine FnC.intro Tryz.func35 rfl Tryz.ntmps35 rfl fun Z w0 hG => ?_
  focus (
 (refine W.seq (W.region (Jx.assign rfl rfl (J.nil (N.seq (W.seq (W.region (Jx.move rfl rfl (Jx.lenS rfl rfl ?_)))))))))
 (refine Jx.rem64 rfl rfl (by omega) (by decide) rfl ?_)
 (refine Jx.sub64 rfl rfl (by omega) rfl ?_)
 (refine Jx.rem64 rfl rfl (by omega) (by decide) rfl ?_)
 (refine Jx.assign rfl rfl (J.nil (N.seq (W.seq (W.region (Jx.move rfl rfl (Jx.lenS rfl rfl ?_)))))))
 (refine Jx.mul64 rfl rfl (by omega) rfl ?_)
 (refine Jx.assign rfl rfl (J.nil (N.seq (W.seq (W.region (Jx.assign rfl rfl (J.nil (N.seq (W.seq (W.seq (W.region (Jx.assign rfl rfl (J.nil (N.seq ?_))))))))))))))
 (refine W.block ?_)
 (refine id ?_; rotate_left))
  refine W.loop (α := Nat) (fun i => [(6, int i), (5, str ((lenB x.length).drop (8 - i))), (4, int ((x.length * 8 / 256 ^ i : Nat) : Int)), (3, int (zerosOf x.length)), (0, str x)]) (fun _ => []) (fun i => i ≤ 8) (fun i => 8 - i) 0 (by omega) rfl ⟨ref0 rfl, ref0 rfl, ⟨_, rfl, Sub.of_eq (by simp)⟩, ⟨_, rfl, Sub.of_eq (by rw [hze])⟩, ref0 rfl, trivial⟩ ?_
  intro i hi
  have hel : ((lenB x.length).drop (8 - i)).length ≤ 8 := by rw [List.length_drop, lenB_len]; omega
  by_cases h1 : i < 8
  · have hst := endB_step x.length i h1
    have hdiv : x.length * 8 / 256 ^ i ≤ x.length * 8 := Nat.div_le_self _ _
    have hnx : x.length * 8 / 256 ^ i / 256 = x.length * 8 / 256 ^ (i + 1) := by rw [Nat.div_div_eq_div_mul, Nat.pow_succ]
    generalize x.length * 8 / 256 ^ i = q at *
    generalize (lenB x.length).drop (8 - i) = e at *
    focus (
 (refine W.seq (W.seq (W.region (Jx.move rfl rfl (Jx.lssI rfl rfl rfl (J.nil (N.seq (W.cT rfl ?_))))))))
 (refine W.skip (N.seq (W.seq (W.block (W.seq (W.region (Jx.move rfl rfl (Jx.rem64 rfl rfl (by omega) (by decide) rfl ?_))))))))
 (refine Jx.numByte (q % 256) rfl rfl (by omega) rfl ?_)
 (refine J.qs (Qs.buildBytes [UInt8.ofNat (q % 256)] rfl rfl rfl (by decide) (by decide)) rfl ?_)
 (refine Jx.bytesStr rfl rfl ?_)
 (refine Jx.move rfl rfl (Jx.cat rfl rfl (by simp only [List.length_cons, List.length_nil]; omega) rfl ?_))
 (refine Jx.assign rfl rfl (J.nil (N.seq (W.region (Jx.move rfl rfl (Jx.quo64 rfl rfl (by omega) (by decide) rfl ?_))))))
 (refine Jx.assign rfl rfl (J.nil (N.seq (W.region (Jx.move rfl rfl (Jx.add64 rfl rfl (by omega) rfl ?_))))))
 (refine Jx.assign rfl rfl (J.nil ?_))
 (refine id ?_; rotate_left))
    exact N.round (i + 1) (by omega) (by omega) rfl ⟨ref0 rfl, ⟨_, rfl, Sub.of_eq (by rw [hst])⟩, ⟨_, rfl, Sub.of_eq (by rw [← hnx]; congr 2)⟩, ref0 rfl, ref0 rfl, trivial⟩
  · have h8 : i = 8 := by omega
    have hall : x ++ [128] ++ List.replicate (zerosOf x.length) 0 ++ (lenB x.length).drop (8 - i) = x ++ padS x.length := by rw [h8]; simp [padS]
    have hlen : (x ++ padS x.length).length ≤ 4294967296 := by simp only [padS, List.length_append, List.length_cons, List.length_nil, List.length_replicate, lenB_len]; omega
    generalize hE : (lenB x.length).drop (8 - i) = e at *
    generalize hZ : List.replicate (zerosOf x.length) (0 : UInt8) = zs at *
    focus (
 (refine W.seq (W.seq (W.region (Jx.move rfl rfl (Jx.lssI rfl rfl rfl (J.nil (N.seq (W.cF rfl ?_))))))))
 (refine W.exit (N.seq (W.seq (W.region (Jx.move rfl rfl (Jx.cat rfl rfl (by simp only [List.length_append, List.length_cons, List.length_nil]; omega) rfl ?_))))))
 (refine Jx.move rfl rfl ?_)
 (refine J.qs (Qs.zeros (n := zerosOf x.length) rfl rfl (by simp only [maxLen]; omega) (by omega)) rfl ?_; refine J.as 36 (bsl zs) rfl (Sub.of_eq (by rw [← hZ])) ?_)
 (refine Jx.bytesStr rfl rfl ?_)
 (refine Jx.cat rfl rfl (by simp only [List.length_append, List.length_cons, List.length_nil]; omega) rfl ?_)
 (refine Jx.move rfl rfl (Jx.cat rfl rfl (by simp only [List.length_append, List.length_cons, List.length_nil]; omega) rfl ?_))
 (refine Jx.assign rfl rfl (J.nil (N.seq (W.seq (W.region ?_)))))
 (refine J.call (rfirst_ok) rfl (evs_args rfl) rfl ?_; rintro _ _ ⟨rfl, rfl⟩; simp only [la1, la2, la3])
 (refine J.alloc (by simp only [List.map_cons, List.map_nil]; rfl) rfl rfl ?_; intro b')
 (refine J.storeAll rfl rfl rfl 0 rfl rfl rfl ?_)
 (refine J.nil (N.seq (W.seq (W.seq (W.region (Jx.assign rfl rfl (J.nil (N.seq (W.block ?_)))))))))
 (refine id ?_; rotate_left))
    generalize hA : x ++ padS x.length = all at *
    refine W.loop (α := Nat × S8) (fun y => [(9, int y.1), (8, ptr b'), (7, str all)]) (fun y => [.obj b' 111 y.2.cells]) (fun y => y.1 ≤ all.length ∧ blocksS y.2 (all.drop y.1) = blocksS first8 all) (fun y => all.length - y.1) (0, first8) ⟨by simp, by simp⟩ rfl ⟨ref0 rfl, ref0 rfl, ⟨_, rfl, Sub.of_eq (by rw [← hall])⟩, trivial⟩ ?_
    rintro ⟨j, s⟩ ⟨hj, hs⟩
    simp only at hj hs ⊢
    by_cases h2 : j + 64 ≤ all.length
    · focus (
 (refine W.seq (W.seq (W.region (Jx.move rfl rfl (Jx.add64 rfl rfl (by omega) rfl ?_)))))
 (refine Jx.move rfl rfl (Jx.lenS rfl rfl ?_))
 (refine Jx.leqI rfl rfl rfl (J.nil (N.seq (W.cT rfl ?_))))
 (refine W.skip (N.seq (W.seq (W.block (W.seq (W.region ?_))))))
 (refine J.alloc (by simp only [List.map_cons, List.map_nil]; rfl) rfl rfl ?_; intro b')
 (refine J.nil (N.seq (W.seq (W.seq (W.region (Jx.assign rfl rfl (J.nil (N.seq (W.block ?_)))))))))
 (refine id ?_; rotate_left))
      rename_i p8
      refine W.loop (α := Nat × List UInt8) (fun y => [(11, int y.1), (10, ptr b'), (9, int j), (8, ptr p8), (7, str all)]) (fun y => [.obj b' 113 (y.2.map byte), .obj p8 111 s.cells]) (fun y => y.1 ≤ 64 ∧ y.2.length = 64 ∧ ∀ m, m < y.1 → y.2.getD m 0 = all.getD (j + m) 0) (fun y => 64 - y.1) (0, List.replicate 64 0) ⟨by simp, rfl, fun m hm => by simp at hm⟩ rfl ⟨ref0 rfl, ref0 rfl, ref0 rfl, ref0 rfl, ref0 rfl, trivial⟩ ?_
      rintro ⟨k, bs⟩ ⟨hk, hl, hb⟩
      simp only at hk hl hb ⊢
      by_cases h3 : k < 64
      · focus (
 (refine W.seq (W.seq (W.region (Jx.move rfl rfl (Jx.lssI rfl rfl rfl (J.nil (N.seq (W.cT rfl ?_))))))))
 (refine W.skip (N.seq (W.seq (W.block (W.region (Jx.move rfl rfl (Jx.move rfl rfl (Jx.move rfl rfl (Jx.move rfl rfl (Jx.add64 rfl rfl (by omega) rfl ?_))))))))))
 (refine Jx.indexS rfl rfl (by omega) (by omega) rfl ?_)
 (refine Jx.index0 k rfl rfl rfl (by omega) rfl ?_)
 (refine J.storeA byte (all.getD (j + k) 0) rfl rfl (One.val rfl) 0 rfl (by omega) rfl ?_)
 (refine J.nil (N.seq (W.region (Jx.move rfl rfl (Jx.add64 rfl rfl (by omega) rfl ?_)))))
 (refine Jx.assign rfl rfl (J.nil ?_))
 (refine id ?_; rotate_left))
        exact N.round (k + 1, bs.set k (all.getD (j + k) 0)) ⟨by simp only; omega, by simp only [List.length_set]; exact hl, fun m hm => set_step all bs j k h3 hl hb m hm⟩ (by simp only; omega) rfl ⟨ref0 rfl, ref0 rfl, ref0 rfl, ref0 rfl, ref0 rfl, trivial⟩
      · have h64 : k = 64 := by omega
        have e : bs = (all.drop j).take 64 := take_drop_ext all bs j hl h2 fun m hm => hb m (by omega)
        focus (
 (refine W.seq (W.seq (W.region (Jx.move rfl rfl (Jx.lssI rfl rfl rfl (J.nil (N.seq (W.cF rfl ?_))))))))
 (refine W.exit (N.seq (W.region (Jx.loadAll rfl 1 rfl rfl rfl ?_))))
 (refine Jx.loadArr (by rw [List.length_map]; exact hl) rfl 0 rfl rfl ?_)
 (refine J.call (rblock_ok s bs hl) rfl (evs_args rfl) rfl ?_; rintro _ _ ⟨rfl, rfl⟩; simp only [la1, la2, la3])
 (refine J.storeAll rfl rfl rfl 1 rfl rfl rfl ?_)
 (refine J.nil (N.seq (W.region (Jx.move rfl rfl (Jx.add64 rfl rfl (by omega) rfl ?_)))))
 (refine Jx.assign rfl rfl (J.nil ?_))
 (refine id ?_; rotate_left))
        refine N.drop (List.sublist_cons_self _ _) ?_
        exact N.round (j + 64, blockS s bs) ⟨by simp only; omega, by simp only; rw [e, ← hs, blocksS_ge (l := all.drop j) (by rw [List.length_drop]; omega), List.drop_drop]⟩ (by simp only; omega) rfl ⟨ref0 rfl, ref0 rfl, ref0 rfl, trivial⟩
    · have e2 : blocksS s (all.drop j) = (s, all.drop j) := blocksS_lt (by rw [List.length_drop]; omega)
      rw [e2] at hs
      focus (
 (refine W.seq (W.seq (W.region (Jx.move rfl rfl (Jx.add64 rfl rfl (by omega) rfl ?_)))))
 (refine Jx.move rfl rfl (Jx.lenS rfl rfl ?_))
 (refine Jx.leqI rfl rfl rfl (J.nil (N.seq (W.cF rfl ?_))))
 (refine W.exit (N.seq (W.seq (W.region (Jx.loadAll rfl 0 rfl rfl rfl ?_)))))
 (refine J.call (rtold_ok s) rfl (evs_args rfl) rfl ?_; rintro _ _ ⟨rfl, rfl⟩; simp only [la1, la2, la3])
 (refine Jx.assign rfl rfl (J.nil (N.seq (W.ret ?_))))
 (refine id ?_; rotate_left))
      refine N.retD (rs := [.tmp 2]) (L1 := []) rfl (.tmp rfl .nil) (List.nil_sublist _) ⟨?_, rfl⟩
      show str (toldS s) = str (shaS x)
      unfold shaS
      rw [hA, ← hs]
def fewB (l : List (List UInt8)) (n e : Int) : Bool := decide ((l.length : Int) ≤ n) && l.all fun s => decide ((s.length : Int) ≤ e)
theorem few_ok (l : List (List UInt8)) (n e : Int) (hn : n ≤ 9223372036854775807) : FnC Tryz.prog 5 [ssl l, int n, int e] [] (fun s L => s = bool (fewB l n e) ∧ L = []) := by
  refine FnC.intro Tryz.func5 rfl Tryz.ntmps5 rfl fun Z w0 hG => ?_
  by_cases h0 : n < (l.length : Int)
  · focus (
 (refine W.seq (W.region (Jx.assign rfl rfl (J.nil (N.seq (W.seq (W.seq (W.region (Jx.move rfl rfl (Jx.lenSl rfl rfl ?_))))))))))
 (refine Jx.move rfl rfl (Jx.gtrI rfl rfl rfl (J.nil (N.seq (W.cT rfl ?_)))))
 (refine W.seq (W.region (Jx.assign rfl rfl (J.nil (N.seq (W.ret (N.seqRet ?_)))))))
 (refine id ?_; rotate_left))
    refine N.ret (rs := [.tmp 6]) rfl (.tmp rfl .nil) ⟨?_, rfl⟩
    simp [oneOr, fewB, show ¬ (l.length : Int) ≤ n by omega]
  · focus (
 (refine W.seq (W.region (Jx.assign rfl rfl (J.nil (N.seq (W.seq (W.seq (W.region (Jx.move rfl rfl (Jx.lenSl rfl rfl ?_))))))))))
 (refine Jx.move rfl rfl (Jx.gtrI rfl rfl rfl (J.nil (N.seq (W.cF rfl ?_)))))
 (refine W.skip (N.seq (W.seq (W.seq (W.region (Jx.assign rfl rfl (J.nil (N.seq (W.block ?_)))))))))
 (refine id ?_; rotate_left))
    refine W.loop (α := Nat) (fun i => [(7, int i), (2, int e), (0, ssl l)]) (fun _ => []) (fun i => i ≤ l.length ∧ ∀ s ∈ l.take i, (s.length : Int) ≤ e) (fun i => l.length - i) 0 ⟨by omega, by simp⟩ rfl ⟨ref0 rfl, ref0 rfl, ref0 rfl, trivial⟩ ?_
    rintro i ⟨hi, hall⟩
    by_cases h1 : i < l.length
    · have hm : l.getD i [] ∈ l := by rw [List.getD_eq_getElem?_getD, List.getElem?_eq_getElem h1]; exact List.getElem_mem _
      have hts : ∀ s ∈ l.take (i + 1), s ∈ l.take i ∨ s = l.getD i [] := fun s hs => by
        rw [List.take_add_one, List.getElem?_eq_getElem h1] at hs
        rw [List.getD_eq_getElem?_getD, List.getElem?_eq_getElem h1]
        simp only [Option.toList_some, List.mem_append, List.mem_singleton] at hs
        exact hs
      by_cases h2 : e < ((l.getD i []).length : Int)
      · focus (
 (refine W.seq (W.seq (W.region (Jx.move rfl rfl (Jx.move rfl rfl (Jx.lenSl rfl rfl ?_))))))
 (refine Jx.lssI rfl rfl rfl (J.nil (N.seq (W.cT rfl ?_))))
 (refine W.skip (N.seq (W.seq (W.block (W.seq (W.region (Jx.move rfl rfl (Jx.move rfl rfl (Jx.indexEl rfl rfl (by assumption) rfl rfl ?_)))))))))
 (refine Jx.loadPP rfl rfl ?_)
 (refine Jx.lenS rfl rfl ?_)
 (refine Jx.move rfl rfl (Jx.gtrI rfl rfl rfl (J.nil (N.seq (W.cT rfl ?_)))))
 (refine W.seq (W.region (Jx.assign rfl rfl (J.nil (N.seq (W.ret (N.blockRet (N.seqRet (N.seqRet (N.blockRet (N.seqRet ?_)))))))))))
 (refine id ?_; rotate_left))
        refine N.ret (rs := [.tmp 6]) rfl (.tmp rfl .nil) ⟨?_, rfl⟩
        have : l.all (fun s => decide ((s.length : Int) ≤ e)) = false := by
          rw [List.all_eq_false]; exact ⟨_, hm, by simp only [decide_eq_true_eq]; omega⟩
        simp [oneOr, fewB, this]
      · focus (
 (refine W.seq (W.seq (W.region (Jx.move rfl rfl (Jx.move rfl rfl (Jx.lenSl rfl rfl ?_))))))
 (refine Jx.lssI rfl rfl rfl (J.nil (N.seq (W.cT rfl ?_))))
 (refine W.skip (N.seq (W.seq (W.block (W.seq (W.region (Jx.move rfl rfl (Jx.move rfl rfl (Jx.indexEl rfl rfl (by assumption) rfl rfl ?_)))))))))
 (refine Jx.loadPP rfl rfl ?_)
 (refine Jx.lenS rfl rfl ?_)
 (refine Jx.move rfl rfl (Jx.gtrI rfl rfl rfl (J.nil (N.seq (W.cF rfl ?_)))))
 (refine W.skip (N.seq (W.region (Jx.move rfl rfl (Jx.add64 rfl rfl (by omega) rfl ?_)))))
 (refine Jx.assign rfl rfl (J.nil ?_))
 (refine id ?_; rotate_left))
        exact N.round (i + 1) ⟨h1, fun s hs => by rcases hts s hs with h | rfl; exact hall s h; omega⟩ (by omega) rfl ⟨ref0 rfl, ref0 rfl, ref0 rfl, trivial⟩
    · have hil : i = l.length := by omega
      focus (
 (refine W.seq (W.seq (W.region (Jx.move rfl rfl (Jx.move rfl rfl (Jx.lenSl rfl rfl ?_))))))
 (refine Jx.lssI rfl rfl rfl (J.nil (N.seq (W.cF rfl ?_))))
 (refine W.exit (N.seq (W.seq (W.region (Jx.assign rfl rfl (J.nil (N.seq (W.ret ?_))))))))
 (refine id ?_; rotate_left))
      refine N.ret (rs := [.tmp 6]) rfl (.tmp rfl .nil) ⟨?_, rfl⟩
      rw [hil, List.take_length] at hall
      have : l.all (fun s => decide ((s.length : Int) ≤ e)) = true := List.all_eq_true.2 fun s hs => by simpa using hall s hs
      simp only [oneOr, fewB, this, Bool.and_true]
      rw [decide_eq_true (by omega)]
end Go.Proofs.YtaflklbmdbmjbaaGreatDoor.Sha
namespace Go.Proofs.YtaflklbmdbmjbaaGreatDoor
open Go Go.Sse Go.ChangeShapes Go.WideShapes Go.ChangeAt Go.RowKit
set_option linter.unusedVariables false
set_option linter.unusedSimpArgs false
abbrev Z0 : Nat → Prop := fun _ => False
structure Rd (P : Program) (T : TypeId) (α : Type) where
  enc : α → List SV
  sz : Nat
  dflt : α
  good : α → Prop
  bulk : α → Nat
  cells : P.cellsOf T = sz
  len : ∀ a, (enc a).length = sz
  read : ∀ {H : Type} {en : TypeId × Value → H} {w : World} {base : Nat} {sp : Nat → Bool} {held : Bool} {fuel : Nat} {cs : List Value} {x : DataW H × List MemPlace},
    DataW.trod en P w base sp held fuel T cs = some x → ∃ a, good a ∧ bulk a ≤ Rows.uptoBulk x.1 ∧ cs.length = sz ∧ (∀ c ∈ cs, c.oneCell' = true) ∧ ∀ j, j < sz → Rel Z0 w ((enc a).getD j .any) (cs.getD j undef)
section
variable {P : Program} {T E : TypeId} {α β : Type}
def Rd.int {k : IntKind} (h : P.underlying T = some (.int k)) (hc : P.cellsOf T = 1) : Rd P T Int where
  enc n := [.val (.int k n)]
  sz := 1
  dflt := 0
  good n := (Lit.int k n).wf = true
  bulk _ := 1
  cells := hc
  len _ := rfl
  read := by
    intro H en w base sp held fuel cs x hx
    obtain ⟨n, rfl, rfl, hw⟩ := DataW.trod_int h hx
    refine ⟨n, hw, by simp [Rows.uptoBulk], rfl, by simp [Value.oneCell'], fun j hj => ?_⟩
    obtain rfl : j = 0 := by omega
    exact .val _
def Rd.bool (h : P.underlying T = some .bool) (hc : P.cellsOf T = 1) : Rd P T Bool where
  enc b := [.val (.bool b)]
  sz := 1
  dflt := false
  good _ := True
  bulk _ := 1
  cells := hc
  len _ := rfl
  read := by
    intro H en w base sp held fuel cs x hx
    obtain ⟨n, rfl, rfl⟩ := DataW.trod_bool h hx
    refine ⟨n, trivial, by simp [Rows.uptoBulk], rfl, by simp [Value.oneCell'], fun j hj => ?_⟩
    obtain rfl : j = 0 := by omega
    exact .val _
def Rd.str (h : P.underlying T = some .string) (hc : P.cellsOf T = 1) : Rd P T (List UInt8) where
  enc s := [Sse.str s]
  sz := 1
  dflt := []
  good s := s.length ≤ maxLen
  bulk s := s.length + 1
  cells := hc
  len _ := rfl
  read := by
    intro H en w base sp held fuel cs x hx
    obtain ⟨s, rfl, rfl, hw⟩ := DataW.trod_string h hx
    have hl : s.data.toList.length = s.size := Array.length_toList
    refine ⟨s.data.toList, by rw [hl]; exact hw, by simp only [Rows.uptoBulk]; exact Nat.le_refl _, rfl, by simp [Value.oneCell'], fun j hj => ?_⟩
    obtain rfl : j = 0 := by omega
    have e : Sse.str s.data.toList = .val (.string s) := rfl
    simp only [List.getD_cons_zero, e]
    exact .val _
theorem exists_list {d : α} {p : Nat → α → Prop} (n : Nat) (h : ∀ i, i < n → ∃ a, p i a) : ∃ l : List α, l.length = n ∧ ∀ i, i < n → p i (l.getD i d) := by
  induction n with
  | zero => exact ⟨[], rfl, fun i hi => by omega⟩
  | succ n ih =>
    obtain ⟨l, hl, hp⟩ := ih fun i hi => h i (by omega)
    obtain ⟨a, ha⟩ := h n (by omega)
    refine ⟨l ++ [a], by simp [hl], fun i hi => ?_⟩
    rw [List.getD_eq_getElem?_getD]
    by_cases hi' : i < n
    · rw [List.getElem?_append_left (by omega)]
      have := hp i hi'
      rwa [List.getD_eq_getElem?_getD] at this
    · obtain rfl : i = n := by omega
      rw [List.getElem?_append_right (by omega), hl, Nat.sub_self]
      exact ha
theorem bulkAll_le {H : Type} (f : α → Nat) (d : α) : ∀ (l : List α) (xs : List (DataW H)), l.length = xs.length → (∀ i, i < l.length → f (l.getD i d) ≤ Rows.uptoBulk (xs.getD i .nil)) → (l.map f).sum ≤ Rows.uptoBulkAll xs
  | [], [], _, _ => by simp
  | a :: l, x :: xs, hl, h => by
    have h0 := h 0 (by simp)
    have hr := bulkAll_le f d l xs (by simpa using hl) fun i hi => by simpa using h (i + 1) (by simpa using hi)
    simp only [List.map_cons, List.sum_cons, Rows.uptoBulkAll]
    simp only [List.getD_cons_zero] at h0
    omega
theorem getD_mem_all {p : α → Prop} {d : α} {l : List α} (h : ∀ i, i < l.length → p (l.getD i d)) : ∀ a ∈ l, p a := by
  intro a ha
  obtain ⟨i, hi, rfl⟩ := List.mem_iff_getElem.1 ha
  have := h i hi
  rwa [List.getD_eq_getElem?_getD, List.getElem?_eq_getElem hi] at this
theorem cells_addr {w : World} {base b off : Nat} {spot : Option Nat} {n : Nat} {cs : List Value} (k : Nat) (h : w.cells? base (Addr.add ⟨b, off, spot⟩ k) n = some cs) : ∀ j, j < n → w.cell? ⟨b, off + k + j, none⟩ = cs[j]? := by
  obtain ⟨_, hl, hc⟩ := World.cells?_some h
  intro j hj
  have := hc j hj
  rw [← this]
  by_cases h0 : k = 0 ∧ j = 0
  · obtain ⟨rfl, rfl⟩ := h0
    simp only [Addr.add, if_true, Nat.add_zero]
    simp only [Addr.add, if_true] at this
    have h1 : cs[0]? ≠ none := by rw [List.getElem?_eq_getElem (by omega)]; simp
    rw [← this] at h1
    unfold World.cell? at h1 ⊢
    simp only at h1 ⊢
    cases hb : w.heap[b]? with
    | none => simp [hb] at h1
    | some o =>
      rw [hb] at h1
      cases o with
      | cells c _ _ =>
        cases spot with
        | none => rfl
        | some _ => simp at h1
      | _ => exact absurd rfl h1
  · by_cases hk : k = 0
    · subst hk
      have hj0 : j ≠ 0 := fun e => h0 ⟨rfl, e⟩
      simp [Addr.add, hj0]
    · by_cases hj0 : j = 0
      · subst hj0; simp [Addr.add, hk]
      · simp [Addr.add, hk, hj0, Nat.add_assoc]
theorem spot_none {w : World} {base b off : Nat} {spot : Option Nat} {n : Nat} {cs : List Value} (hn : 0 < n) (h : w.cells? base (Addr.add ⟨b, off, spot⟩ 0) n = some cs) : spot = none := by
  obtain ⟨_, hl, hc⟩ := World.cells?_some h
  have := hc 0 hn
  simp only [Addr.add, if_true] at this
  cases spot with
  | none => rfl
  | some s =>
    exfalso
    have h1 : cs[0]? ≠ none := by rw [List.getElem?_eq_getElem (by omega)]; simp
    rw [← this] at h1
    unfold World.cell? at h1
    revert h1
    simp only [Option.isSome_some, if_true]
    split <;> simp
def Rd.slice (h : P.underlying T = some (.slice E)) (hc : P.cellsOf T = 1) (r : Rd P E α) (hs : Nat.blt 0 r.sz = true) : Rd P T (List α) where
  enc l := [.sl r.sz l.length (elOf r.enc r.dflt l)]
  sz := 1
  dflt := []
  good l := l.length ≤ maxLen ∧ ∀ a ∈ l, r.good a
  bulk l := (l.map r.bulk).sum + 1
  cells := hc
  len _ := rfl
  read := by
    intro H en w base sp held fuel cs x hx
    have hpos : 0 < r.sz := by simpa [Nat.blt_eq] using hs
    rcases DataW.trod_slice h hx with ⟨rfl, rfl⟩ | ⟨⟨b, off, spot⟩, len, cap, elems, rest, n, _, rfl, rfl, hb, hl, hm, hlen, hel, hsp, hns⟩
    · refine ⟨[], ⟨by simp, by simp⟩, by simp [Rows.uptoBulk], rfl, by simp [Value.oneCell'], fun j hj => ?_⟩
      obtain rfl : j = 0 := by omega
      exact .sl _ _ _ _ _ (fun _ => undef) (by simp) (by simp) (.inl (by simp)) (by simp) (by simp) (by simp)
    · have each : ∀ i, i < len → ∃ a, ∃ cs' x', w.cells? base (Addr.add ⟨b, off, spot⟩ (i * r.sz)) r.sz = some cs' ∧ elems[i]? = some x' ∧ r.good a ∧ r.bulk a ≤ Rows.uptoBulk x'.1 ∧ cs'.length = r.sz ∧ (∀ c ∈ cs', c.oneCell' = true) ∧ ∀ j, j < r.sz → Rel Z0 w ((r.enc a).getD j .any) (cs'.getD j undef) := by
        intro i hi
        have h1 := hel i hi
        rw [r.cells, List.getElem?_eq_getElem (by omega), Option.bind_eq_some_iff] at h1
        obtain ⟨cs', hcs, ht⟩ := h1
        obtain ⟨a, h2, h3, h4, h5, h6⟩ := r.read ht
        exact ⟨a, cs', _, hcs, List.getElem?_eq_getElem (by omega), h2, h3, h4, h5, h6⟩
      obtain ⟨l, hll, hp⟩ := exists_list (d := r.dflt) len each
      have cell : ∀ i j, i < len → j < r.sz → ∃ v, w.cell? ⟨b, off + (i * r.sz + j), none⟩ = some v ∧ v.oneCell' = true ∧ Rel Z0 w ((r.enc (l.getD i r.dflt)).getD j .any) v := by
        intro i j hi hj
        obtain ⟨cs', x', h1, _, _, _, h4, h5, h6⟩ := hp i hi
        have hj' : j < cs'.length := by omega
        refine ⟨cs'[j], ?_, h5 _ (List.getElem_mem _), ?_⟩
        · have := cells_addr (i * r.sz) h1 j hj
          rw [List.getElem?_eq_getElem hj'] at this
          rw [← Nat.add_assoc]; exact this
        · have := h6 j hj
          rwa [List.getD_eq_getElem?_getD (l := cs'), List.getElem?_eq_getElem hj'] at this
      refine ⟨l, ⟨by omega, ?_⟩, ?_, rfl, by simp [Value.oneCell'], fun j hj => ?_⟩
      · refine getD_mem_all (d := r.dflt) fun i hi => ?_
        obtain ⟨_, _, _, _, h2, _⟩ := hp i (by omega)
        exact h2
      · have := bulkAll_le r.bulk r.dflt l (elems.map (·.1)) (by simp [hll, hlen]) fun i hi => by
          obtain ⟨_, x', _, h1, _, h3, _⟩ := hp i (by omega)
          have e : (elems.map (·.1)).getD i .nil = x'.1 := by simp [List.getD_eq_getElem?_getD, h1]
          rw [e]; exact h3
        simp only [Rows.uptoBulk]; omega
      · obtain rfl : j = 0 := by omega
        simp only [List.getD_cons_zero]
        rw [hll]
        have hdec : ∀ k, k < len * r.sz → k / r.sz < len ∧ k % r.sz < r.sz ∧ k / r.sz * r.sz + k % r.sz = k := fun k hk => by
          refine ⟨Nat.div_lt_of_lt_mul (by rw [Nat.mul_comm]; exact hk), Nat.mod_lt _ hpos, ?_⟩
          rw [Nat.mul_comm]; exact Nat.div_add_mod k r.sz
        refine .sl _ _ _ _ _ (fun k => (w.cell? ⟨b, off + k, none⟩).getD undef) hl hm ?_ ?_ (fun i hi => r.len _) ?_
        · rcases Nat.eq_zero_or_pos len with h0 | h0
          · exact .inl (by simp [h0])
          · right
            obtain ⟨cs', _, h1, _⟩ := hp 0 h0
            rw [Nat.zero_mul] at h1
            refine ⟨b, off, by rw [spot_none hpos h1], fun f => f, fun k hk => ?_⟩
            obtain ⟨h2, h3, h4⟩ := hdec k hk
            obtain ⟨v, hv, _⟩ := cell _ _ h2 h3
            rw [h4] at hv
            rw [hv]; rfl
        · intro k hk
          obtain ⟨h2, h3, h4⟩ := hdec k hk
          obtain ⟨v, hv, h5, _⟩ := cell _ _ h2 h3
          rw [h4] at hv
          rw [hv]; exact h5
        · intro i j hi hj
          obtain ⟨v, hv, _, h6⟩ := cell i j hi hj
          rw [hv]; exact h6
def Rd.array {N : Nat} (h : P.underlying T = some (.array N E)) (hc : P.cellsOf T = N) (r : Rd P E α) (enc1 : α → SV) (he : ∀ a, r.enc a = [enc1 a]) (hs : r.sz = 1) : Rd P T { l : List α // l.length = N } where
  enc l := l.1.map enc1
  sz := N
  dflt := ⟨List.replicate N r.dflt, by simp⟩
  good l := ∀ a ∈ l.1, r.good a
  bulk l := (l.1.map r.bulk).sum
  cells := hc
  len l := by rw [List.length_map, l.2]
  read := by
    intro H en w base sp held fuel cs x hx
    obtain ⟨xs, m, _, rfl, hlen, hxl, hel⟩ := DataW.trod_array h hx
    have hce : P.cellsOf E = 1 := by rw [r.cells, hs]
    have each : ∀ i, i < N → ∃ a, ∃ x', xs[i]? = some x' ∧ r.good a ∧ r.bulk a ≤ Rows.uptoBulk x'.1 ∧ ∃ c, cs[i]? = some c ∧ c.oneCell' = true ∧ Rel Z0 w (enc1 a) c := by
      intro i hi
      have h1 := hel i hi
      rw [hce, Nat.mul_one, List.getElem?_eq_getElem (by omega)] at h1
      obtain ⟨a, h2, h3, h4, h5, h6⟩ := r.read h1
      have hic : i < cs.length := by rw [hlen, hc]; exact hi
      have hch : (cs.drop i).take 1 = [cs[i]] := by rw [List.drop_eq_getElem_cons hic]; rfl
      have h7 := h6 0 (by omega)
      rw [he, hch] at h7
      rw [hch] at h5
      exact ⟨a, _, List.getElem?_eq_getElem (by omega), h2, h3, cs[i], List.getElem?_eq_getElem hic, h5 _ (by simp), by simpa using h7⟩
    obtain ⟨l, hll, hp⟩ := exists_list (d := r.dflt) N each
    refine ⟨⟨l, hll⟩, ?_, ?_, by rw [hlen, hc], ?_, fun j hj => ?_⟩
    · refine getD_mem_all (d := r.dflt) fun i hi => ?_
      obtain ⟨_, _, h2, _⟩ := hp i (by simp only at hi; omega)
      exact h2
    · have := bulkAll_le r.bulk r.dflt l (xs.map (·.1)) (by simp [hll, hxl]) fun i hi => by
        obtain ⟨x', h1, _, h3, _⟩ := hp i (by omega)
        have e : (xs.map (·.1)).getD i .nil = x'.1 := by simp [List.getD_eq_getElem?_getD, h1]
        rw [e]; exact h3
      simp only [Rows.uptoBulk]; omega
    · intro c hcm
      obtain ⟨j, hj⟩ := List.mem_iff_getElem?.1 hcm
      have hjl : j < N := by
        have := (List.getElem?_eq_some_iff.1 hj).1
        rw [hlen, hc] at this; exact this
      obtain ⟨_, _, _, _, c', h5, h6, _⟩ := hp j hjl
      rw [hj] at h5; cases h5
      exact h6
    · obtain ⟨_, _, _, _, c', h5, _, h7⟩ := hp j hj
      have hjl : j < l.length := by omega
      simp only [List.getD_eq_getElem?_getD, List.getElem?_map, List.getElem?_eq_getElem hjl, Option.map_some, Option.getD_some, h5]
      rw [List.getD_eq_getElem?_getD, List.getElem?_eq_getElem hjl] at h7
      exact h7
def Rd.as (r : Rd P T α) (g : α → β) (d : β) (enc' : β → List SV) (good' : β → Prop) (bulk' : β → Nat) (he : ∀ a, enc' (g a) = r.enc a) (hl : ∀ b, (enc' b).length = r.sz) (hg : ∀ a, r.good a → good' (g a)) (hb : ∀ a, bulk' (g a) = r.bulk a) : Rd P T β where
  enc := enc'
  sz := r.sz
  dflt := d
  good := good'
  bulk := bulk'
  cells := r.cells
  len := hl
  read := by
    intro H en w base sp held fuel cs x hx
    obtain ⟨a, h1, h2, h3, h4, h5⟩ := r.read hx
    exact ⟨g a, hg a h1, by rw [hb]; exact h2, h3, h4, fun j hj => by rw [he]; exact h5 j hj⟩
structure Fds (P : Program) (off : Nat) (tos : List (TypeId × Nat)) (α : Type) where
  enc : α → List SV
  sz : Nat
  dflt : α
  good : α → Prop
  bulk : α → Nat
  len : ∀ a, (enc a).length = sz
  read : ∀ {H : Type} {en : TypeId × Value → H} {w : World} {base : Nat} {sp : Nat → Bool} {held : Bool} {fuel : Nat} {cs : List Value} {xs : List (DataW H × List MemPlace)}, xs.length = tos.length → off + sz = cs.length →
    (∀ (i : Nat) (f : TypeId × Nat), tos[i]? = some f → DataW.trod en P w base sp held fuel f.1 ((cs.drop f.2).take (P.cellsOf f.1)) = (xs[i]? : Option (DataW H × List MemPlace))) → ∃ a, good a ∧ bulk a ≤ Rows.uptoBulkAll (xs.map (·.1)) ∧
    ∀ j, j < sz → (cs.getD (off + j) undef).oneCell' = true ∧ Rel Z0 w ((enc a).getD j .any) (cs.getD (off + j) undef)
def Fds.nil {off : Nat} : Fds P off [] Unit where
  enc _ := []
  sz := 0
  dflt := ()
  good _ := True
  bulk _ := 0
  len _ := rfl
  read := by
    intro H en w base sp held fuel cs xs hl hs h
    exact ⟨(), trivial, by simp, fun j hj => by omega⟩
def Fds.cons {off : Nat} {t : TypeId} {tos : List (TypeId × Nat)} (r : Rd P t α) (k : Fds P (off + r.sz) tos β) : Fds P off ((t, off) :: tos) (α × β) where
  enc x := r.enc x.1 ++ k.enc x.2
  sz := r.sz + k.sz
  dflt := (r.dflt, k.dflt)
  good x := r.good x.1 ∧ k.good x.2
  bulk x := r.bulk x.1 + k.bulk x.2
  len x := by rw [List.length_append, r.len, k.len]
  read := by
    intro H en w base sp held fuel cs xs hl hs h
    cases xs with
    | nil => simp at hl
    | cons x xs =>
      have h0 := h 0 (t, off) rfl
      simp only [List.getElem?_cons_zero] at h0
      obtain ⟨a, h1, h2, h3, h4, h5⟩ := r.read h0
      obtain ⟨b, g1, g2, g3⟩ := k.read (w := w) (cs := cs) (by simpa using hl) (by omega) fun i f hf => by simpa using h (i + 1) f (by simpa using hf)
      refine ⟨(a, b), ⟨h1, g1⟩, by simp only [List.map_cons, Rows.uptoBulkAll]; omega, fun j hj => ?_⟩
      rw [List.getD_eq_getElem?_getD (l := r.enc a ++ k.enc b)]
      by_cases hj' : j < r.sz
      · rw [List.getElem?_append_left (by rw [r.len]; exact hj')]
        have e : (List.take (P.cellsOf t) (List.drop off cs)).getD j undef = cs.getD (off + j) undef := by
          rw [r.cells]
          simp only [List.getD_eq_getElem?_getD, List.getElem?_take, List.getElem?_drop, hj', if_true]
        have h5' := h5 j hj'
        simp only [e] at h5'
        refine ⟨?_, by rw [← List.getD_eq_getElem?_getD]; exact h5'⟩
        have hlt : off + j < cs.length := by omega
        rw [← e]
        have hm := h4 ((List.take (P.cellsOf t) (List.drop off cs)).getD j undef)
        apply hm
        rw [List.getD_eq_getElem?_getD, List.getElem?_eq_getElem (by simp only [h3]; exact hj')]
        exact List.getElem_mem _
      · rw [List.getElem?_append_right (by rw [r.len]; omega), r.len, ← List.getD_eq_getElem?_getD]
        have := g3 (j - r.sz) (by omega)
        rw [show off + r.sz + (j - r.sz) = off + j by omega] at this
        exact this
def fieldsAt (P : Program) (T : TypeId) : Option (List (TypeId × Nat)) := match P.underlying T with
  | some (.struct fs) => some (fs.toList.map fun f => (f.type, f.offset))
  | _ => none
theorem fieldsAt_spec {tos : List (TypeId × Nat)} (h : fieldsAt P T = some tos) : ∃ fs : Array Field, P.underlying T = some (.struct fs) ∧ tos = fs.toList.map fun f => (f.type, f.offset) := by
  unfold fieldsAt at h
  split at h
  · rename_i fs hu
    exact ⟨fs, hu, (Option.some.inj h).symm⟩
  · cases h
def Rd.struct {tos : List (TypeId × Nat)} (h : fieldsAt P T = some tos) (k : Fds P 0 tos α) (hc : P.cellsOf T = k.sz) : Rd P T α where
  enc := k.enc
  sz := k.sz
  dflt := k.dflt
  good := k.good
  bulk a := k.bulk a + 1
  cells := hc
  len := k.len
  read := by
    intro H en w base sp held fuel cs x hx
    obtain ⟨fs, hu, rfl⟩ := fieldsAt_spec h
    obtain ⟨xs, n, rfl, rfl, hl, hxl, hf⟩ := DataW.trod_struct hu hx
    rw [hc] at hl
    obtain ⟨a, h1, h2, h3⟩ := k.read (w := w) (cs := cs) (xs := xs) (by simp [hxl]) (by omega) fun i f hi => by
      rw [List.getElem?_map, Option.map_eq_some_iff] at hi
      obtain ⟨f', hf', rfl⟩ := hi
      exact hf i f' (by simpa using hf')
    refine ⟨a, h1, by simp only [Rows.uptoBulk]; omega, hl, ?_, fun j hj => by have := (h3 j hj).2; rwa [Nat.zero_add] at this⟩
    intro c hcm
    obtain ⟨i, hi, rfl⟩ := List.mem_iff_getElem.1 hcm
    have := (h3 i (by omega)).1
    rwa [Nat.zero_add, List.getD_eq_getElem?_getD, List.getElem?_eq_getElem hi] at this
structure Rds (P : Program) (ts : List TypeId) (α : Type) where
  svs : α → List SV
  good : α → Prop
  bulk : α → Nat
  len : ∀ a, (svs a).length = ts.length
  read : ∀ {H : Type} {en : TypeId × Value → H} {w : World} {base : Nat} {sp : Nat → Bool} {held : Bool} {vs : List Value} {ds : List (DataW H)} {ps : List MemPlace}, (∀ (j : Nat) t v, ts[j]? = some t → vs[j]? = some v → ∃ b, Value.okWide P w .any b t v) →
    DataW.TrodAll en P w base sp held ts vs ds ps → ∃ a, good a ∧ bulk a ≤ Rows.uptoBulkAll ds ∧ vs.length = ts.length ∧ ∀ j, j < ts.length → Rel Z0 w ((svs a).getD j .any) (vs.getD j undef)
def Rds.nil : Rds P [] Unit where
  svs _ := []
  good _ := True
  bulk _ := 0
  len _ := rfl
  read := by
    intro H en w base sp held vs ds ps hv h
    obtain ⟨rfl, rfl, rfl⟩ := trodAll_nil h
    exact ⟨(), trivial, by simp, rfl, fun j hj => by simp at hj⟩
def isAgg (P : Program) (T : TypeId) : Bool := match P.underlying T with
  | some (.struct _) | some (.array ..) => true
  | _ => false
theorem agg_of (h : isAgg P T = true) {w : World} {b : Nat} {v : Value} (hv : Value.okWide P w .any b T v) : ∃ cs, v = .agg cs := by
  unfold isAgg at h
  unfold Value.okWide at hv
  split at h
  · rename_i hu; rw [hu] at hv; exact ⟨_, hv.choose_spec.1⟩
  · rename_i hu; rw [hu] at hv; exact ⟨_, hv.choose_spec.1⟩
  · cases h
theorem cell_of (h : isAgg P T = false) {w : World} {b : Nat} {v : Value} (hv : Value.okWide P w .any b T v) : v.cells = #[v] := by
  cases v with
  | agg cs =>
    exfalso
    unfold isAgg at h
    unfold Value.okWide at hv
    cases hu : P.underlying T with
    | none => rw [hu] at hv; simp [Cell.okWide, Cell.ok, hu] at hv
    | some d => cases d <;> simp [hu, Cell.okWide, Cell.ok] at hv h
  | _ => rfl
def Rds.cons {ts : List TypeId} (r : Rd P T α) (h1 : r.sz = 1) (hagg : isAgg P T = false) (k : Rds P ts β) : Rds P (T :: ts) (α × β) where
  svs x := (r.enc x.1).getD 0 .any :: k.svs x.2
  good x := r.good x.1 ∧ k.good x.2
  bulk x := r.bulk x.1 + k.bulk x.2
  len x := by simp [k.len]
  read := by
    intro H en w base sp held vs ds ps hv h
    obtain ⟨v, vs, d, ds, p, q, rfl, rfl, rfl, ht, hr⟩ := trodAll_cons h
    obtain ⟨fuel, hf⟩ := ht
    obtain ⟨b, hb⟩ := hv 0 T v rfl rfl
    rw [cell_of hagg hb] at hf
    obtain ⟨a, g1, g2, g3, g4, g5⟩ := r.read hf
    obtain ⟨c, f1, f2, f3, f4⟩ := k.read (fun j t v hj hv' => hv (j + 1) t v (by simpa using hj) (by simpa using hv')) hr
    refine ⟨(a, c), ⟨g1, f1⟩, by simp only [Rows.uptoBulkAll]; exact Nat.add_le_add g2 f2, by simp [f3], fun j hj => ?_⟩
    cases j with
    | zero => exact g5 0 (by omega)
    | succ j => simpa using f4 j (by simpa using hj)
def Rds.consAgg {ts : List TypeId} (r : Rd P T α) (hagg : isAgg P T = true) (k : Rds P ts β) : Rds P (T :: ts) (α × β) where
  svs x := .agg (r.enc x.1) :: k.svs x.2
  good x := r.good x.1 ∧ k.good x.2
  bulk x := r.bulk x.1 + k.bulk x.2
  len x := by simp [k.len]
  read := by
    intro H en w base sp held vs ds ps hv h
    obtain ⟨v, vs, d, ds, p, q, rfl, rfl, rfl, ht, hr⟩ := trodAll_cons h
    obtain ⟨fuel, hf⟩ := ht
    obtain ⟨b, hb⟩ := hv 0 T v rfl rfl
    obtain ⟨cs, rfl⟩ := agg_of hagg hb
    simp only [Value.cells] at hf
    obtain ⟨a, g1, g2, g3, g4, g5⟩ := r.read hf
    obtain ⟨c, f1, f2, f3, f4⟩ := k.read (fun j t v hj hv' => hv (j + 1) t v (by simpa using hj) (by simpa using hv')) hr
    refine ⟨(a, c), ⟨g1, f1⟩, by simp only [Rows.uptoBulkAll]; exact Nat.add_le_add g2 f2, by simp [f3], fun j hj => ?_⟩
    cases j with
    | zero => exact .agg _ cs.toList (by rw [g3, r.len]) g4 fun j hj => g5 j (by rwa [r.len] at hj)
    | succ j => simpa using f4 j (by simpa using hj)
end
theorem grown_of {W W' : World} (hb : Below W.heap.size W W') : (∀ may, W.keptBut W' may) ∧ ∀ a : Addr, a.block < W.heap.size → W'.frozen? a = W.frozen? a := by
  refine ⟨fun may => ⟨hb.os, hb.output, fun i hi => ?_⟩, fun a ha => ?_⟩
  · rw [hb.block i hi]
    split
    · rename_i h1 h2
      rw [h1] at h2; cases h2
      exact ⟨rfl, rfl, rfl, fun _ _ => rfl⟩
    · rename_i h1 h2
      rw [h1] at h2; cases h2
      exact .inr ⟨rfl, rfl⟩
    · rfl
  · unfold World.frozen?
    rw [hb.block a.block ha]
theorem post_same {H : Type} {enc : TypeId × Value → H} {P : Program} {f : Func} {s : ChangeSpec} {apart fresh handsOn again : Bool} {W W' : World} {args : Array Value} {v : Value} {ds gs : List (DataW H)} {before pa pv : List MemPlace}
    (hW : DataW.Whole enc P f.params.toList s.vars apart W args.toList ds gs before)
    (hres : ∀ (b : Nat) (sp : Nat → Bool) (hd : Bool), DataW.TrodAll enc P W' b sp hd f.resultTypes.toList (v.resultList f.resultTypes.size) (s.fn H (ds ++ gs)).results [])
    (hargs : ∀ sp : Nat → Bool, (∀ p ∈ before, sp p.block = true) → DataW.TrodAll enc P W' 0 sp true f.params.toList args.toList (s.fn H (ds ++ gs)).args pa)
    (hvars : ∀ sp : Nat → Bool, (∀ p ∈ before, sp p.block = true) → DataW.TrodVars enc P W' sp s.vars (s.fn H (ds ++ gs)).vars pv)
    (hps : before = pa ++ pv) (hb : Below W.heap.size W W')
    (hok : ∀ (j : Nat) (t : TypeId) (r : Value), f.resultTypes[j]? = some t → (v.resultList f.resultTypes.size)[j]? = some r → Value.okWide P W' .any 0 t r) :
    s.post enc P f apart fresh handsOn again W args v W' := by
  obtain ⟨hk, hfz⟩ := grown_of hb
  have hlt := hW.lt
  have hold : ∀ p ∈ before, (fun b => decide (b < W.heap.size)) p.block = true := fun p hp => by simpa using hlt p hp
  refine ⟨ds, gs, before, [], pa, pv, hW, hres _ _ _, hargs _ hold, hvars _ hold, World.keptBut_mono (fun p hp => ⟨hp, ?_⟩) (hk (· ∈ before)), fun _ => ?_⟩
  · rw [hps, List.mem_append] at hp
    exact Or.inr hp
  · obtain ⟨_, _, _, _, _, hz, hn⟩ := hW
    refine ⟨hok, _, _, ([] ++ pa) ++ pv, ⟨[] ++ pa, pv, trodAll_append (hargs _ (fun _ _ => rfl)) (hres _ _ _), hvars _ (fun _ _ => rfl), rfl, ?_, ?_⟩, ?_⟩
    · intro b off hp
      have hp' : MemPlace.cell b off ∈ before := by rw [hps]; simpa using hp
      rw [hfz _ (hlt _ hp')]
      exact hz b off hp'
    · intro ha
      have := hn ha
      rw [hps] at this
      simpa using this
    · intro p hp _
      rw [hps]
      simpa using hp
theorem stays_all {H : Type} {en : TypeId × Value → H} {P : Program} (hl : laidOutB P = true) {W W' : World} (hb : Below W.heap.size W W') {sp : Nat → Bool} :
    ∀ {ts : List TypeId} {vs : List Value} {ds : List (DataW H)} {ps : List MemPlace}, ts.all (fun t => P.readableRec t && decide (t < P.types.size)) = true → DataW.TrodAll en P W 0 (fun _ => true) true ts vs ds ps → (∀ x ∈ ps, x.block < W.heap.size) → (∀ x ∈ ps, sp x.block = true) →
    DataW.TrodAll en P W' 0 sp true ts vs ds ps
  | [], _, _, _, _, h, _, _ => by
    obtain ⟨rfl, rfl, rfl⟩ := trodAll_nil h
    exact trodAll_mk0
  | t :: ts, _, _, _, hr, h, hlt, hsp => by
    obtain ⟨v, vs, d, ds, p, q, rfl, rfl, rfl, h0, h1⟩ := trodAll_cons h
    simp only [List.all_cons, Bool.and_eq_true, decide_eq_true_eq] at hr
    exact trodAll_cons_mk (WideElems.Trod_stays hl hr.1.1 hr.1.2 h0 (fun x hx => hb.same (hlt x (by simp [hx]))) (fun x hx => hsp x (by simp [hx])))
      (stays_all hl hb (by simpa using hr.2) h1 (fun x hx => hlt x (by simp [hx])) (fun x hx => hsp x (by simp [hx])))
theorem calls_with {H : Type} {en : TypeId × Value → H} {P : Program} [Gl P] {f : Nat} {fn : Func} {ts : List TypeId} {α : Type} (rds : Rds P ts α) {s : ChangeSpec} {tb : TypeId} {apart fresh handsOn again : Bool} (hs : s.vars = []) (hp : fn.params.toList = ts) (hres : fn.resultTypes = #[tb])
    (htb : P.underlying tb = some .bool) (hl : laidOutB P = true) (hread : ts.all (fun t => P.readableRec t && decide (t < P.types.size)) = true)
    (hfn : ∀ ds : List (DataW H), ds.length = ts.length → (s.fn H ds).results = [.lit (.bool true)] ∧ (s.fn H ds).args = ds ∧ (s.fn H ds).vars = [])
    {W : World} {base : Nat} {args : Array Value} {ds gs : List (DataW H)} {before : List MemPlace}
    (hval : ∀ (j : Nat) t v, fn.params[j]? = some t → args[j]? = some v → Value.okWide P W .any base t v)
    (hW : DataW.Whole en P fn.params.toList s.vars apart W args.toList ds gs before)
    (hgl : ∀ x ∈ Gl.gl P, x.1 < W.heap.size ∧ ∀ i v, x.2[i]? = some v → W.cell? ⟨x.1, i, none⟩ = some v)
    (hC : ∀ a, rds.good a → rds.bulk a ≤ Rows.uptoBulkAll ds → (∀ j, j < ts.length → Rel Z0 W ((rds.svs a).getD j .any) (args.toList.getD j undef)) → ∃ R : SV → List Own → Prop, FnC P f (rds.svs a) [] R ∧ ∀ s L, R s L → s = Sse.bool true) :
    Calls P f args W fun e W' => ∃ v, e = .returned v ∧ s.post en P fn apart fresh handsOn again W args v W' := by
  have hW' := hW
  have hlt0 := hW.lt
  obtain ⟨p, q, hA, hV, rfl, hfz, hnd⟩ := hW
  rw [hs] at hV
  obtain ⟨rfl, rfl⟩ := trodVars_none hV
  rw [hp] at hA
  obtain ⟨a, ha, hb, hlen, hrel⟩ := rds.read (fun j t v hj hv => ⟨base, hval j t v (by rw [← hp] at hj; simpa using hj) (by simpa using hv)⟩) hA
  obtain ⟨R, hF, hR⟩ := hC a ha hb hrel
  have hlen' : ds.length = ts.length := by
    have : ∀ {ts : List TypeId} {vs : List Value} {ds : List (DataW H)} {p : List MemPlace}, DataW.TrodAll en P W 0 (fun _ => true) true ts vs ds p → ds.length = ts.length := by
      intro ts
      induction ts with
      | nil => intro vs ds p h; obtain ⟨_, rfl, _⟩ := trodAll_nil h; rfl
      | cons t ts ih => intro vs ds p h; obtain ⟨_, _, _, _, _, _, rfl, rfl, rfl, _, h1⟩ := trodAll_cons h; simp [ih h1]
    exact this hA
  have := hF.go Z0 W args.toList (by rw [hlen, rds.len]) (fun j hj => (hrel j (by rwa [rds.len] at hj)).stable fun b _ _ => ⟨rfl, by simp [ZL, Z0, inF, foots]⟩) (by simp [Z0]) (by simp [foots]) (by simp [inF, foots]) (by simp) (fun x hx => ⟨(hgl x hx).1, by simp [inF, foots], (hgl x hx).2⟩)
  simp only [Array.toArray_toList] at this
  refine this.mono fun e W' ⟨v, sv, L', he, hr, hrv, hw⟩ => ?_
  subst he
  obtain rfl := hR _ _ hr
  obtain rfl : v = .bool true := hrv.val_eq
  have hbel : Below W.heap.size W W' := ⟨hw.os, hw.tape, hw.output, hw.size, fun k hk => hw.keep k hk (by simp [inF, foots])⟩
  obtain ⟨e1, e2, e3⟩ := hfn (ds ++ []) (by simpa using hlen')
  simp only [List.append_nil] at hlt0 hW'
  refine ⟨_, rfl, post_same (pa := p) (pv := []) hW' (fun b sp hd => ?_) (fun sp hsp => ?_) (fun _ _ => ?_) (by simp) hbel (ok_one hres rfl (okWide_bool_mk htb _))⟩
  · rw [e1, hres]; exact trodAll_cons_mk (shut_bool htb _) trodAll_mk0
  · rw [e2, List.append_nil, hp]; exact stays_all hl hbel hread hA hlt0 hsp
  · rw [e3, hs]; rfl
end Go.Proofs.YtaflklbmdbmjbaaGreatDoor
namespace Go.Proofs.YtaflklbmdbmjbaaGreatDoor
open Go Go.Sse Go.ChangeShapes Go.WideShapes Go.ChangeAt Go.RowKit
set_option linter.unusedVariables false
set_option linter.unusedSimpArgs false
set_option maxRecDepth 100000
theorem own : ownKnob Tryz.prog.godebug = none := by kernel_rfl
theorem laidOut : laidOutB Tryz.prog = true := by kernel_rfl
theorem laid_list : (Rows.laid_pharos_sha_k : DataW Unit) = .agg (shaK.map fun (n : Nat) => .lit (.int .u32 (n : Int))) := by rfl
theorem k_cell {W : World} (h : laidMetH Tryz.prog [("pharos/sha.k", Rows.laid_pharos_sha_k)] W) (r : Nat) (hr : r < 64) : W.cell? ⟨0, r, none⟩ = some (.int .u32 ((shaK.getD r 0 : Nat) : Int)) := by
  rw [MakeChecks.laidMetH_plain _ _ _ (by kernel_rfl)] at h
  obtain ⟨ps, ⟨g, t, cs, fuel, p, q, hg, ht, hv, hd, _, _⟩, _, _⟩ := h
  obtain rfl := Option.some.inj ((show Tryz.prog.globalNamed "pharos/sha.k" = some 0 by kernel_rfl).symm.trans hg)
  obtain rfl := Option.some.inj ((show (Tryz.prog.globals[0]?).map (·.type) = some 152 by kernel_rfl).symm.trans ht)
  have hu : Tryz.prog.underlying 152 = some (.array 64 110) := by kernel_rfl
  have hu2 : Tryz.prog.underlying 110 = some (.int .u32) := by kernel_rfl
  obtain ⟨xs, m, _, ex, _, hl, hel⟩ := DataW.trod_array hu hd
  have c5 : Tryz.prog.cellsOf 110 = 1 := by kernel_rfl
  have hE := hel r hr
  rw [c5, Nat.mul_one, List.getElem?_eq_getElem (by omega)] at hE
  obtain ⟨z, e1, e2, _⟩ := DataW.trod_int hu2 hE
  have hlen : shaK.length = 64 := by rfl
  have e3 : (xs.map (·.1)) = shaK.map fun (n : Nat) => .lit (.int .u32 (n : Int)) := by
    have := (Prod.mk.inj ex).1
    rw [laid_list] at this
    exact (DataW.agg.inj this).symm
  have e4 : (xs.map (·.1))[r]? = (shaK.map fun (n : Nat) => (DataW.lit (.int .u32 (n : Int)) : DataW Unit))[r]? := by rw [e3]
  rw [List.getElem?_map, List.getElem?_map, List.getElem?_eq_getElem (by omega : r < xs.length), List.getElem?_eq_getElem (by omega : r < shaK.length), e2] at e4
  have hz : z = ((shaK.getD r 0 : Nat) : Int) := by
    simp only [Option.map_some, Option.some.injEq, DataW.lit.injEq, Lit.int.injEq, true_and] at e4
    rw [e4, List.getD, List.getElem?_eq_getElem (by omega : r < shaK.length)]; rfl
  rw [World.var?_cell hg hv r, ← hz]
  have : cs.toList[r]? = some (.int .u32 z) := by
    have h0 : ((cs.toList.drop r).take 1)[0]? = some (.int .u32 z) := by rw [e1]; rfl
    simpa using h0
  simpa using this
theorem gl_met {W : World} (h : laidMetH Tryz.prog [("pharos/sha.k", Rows.laid_pharos_sha_k)] W) : ∀ x ∈ Gl.gl Tryz.prog, x.1 < W.heap.size ∧ ∀ i v, x.2[i]? = some v → W.cell? ⟨x.1, i, none⟩ = some v := by
  intro x hx
  have hx' : x ∈ [(0, shaK.map fun (n : Nat) => Value.int .u32 (n : Int))] := hx
  obtain rfl := List.mem_singleton.1 hx'
  have hc := k_cell h
  refine ⟨World.block_lt_of_cell? W ⟨0, 0, none⟩ (hc 0 (by omega)), fun i v hv => ?_⟩
  have hi : i < 64 := by
    rcases Nat.lt_or_ge i 64 with h | h
    · exact h
    · rw [List.getElem?_eq_none (by rw [List.length_map]; exact h)] at hv; cases hv
  have hl : i < shaK.length := hi
  rw [List.getElem?_map, List.getElem?_eq_getElem hl] at hv
  rw [hc i hi, ← hv]
  simp [List.getD_eq_getElem?_getD, List.getElem?_eq_getElem hl]
noncomputable def rdStr : Rd Tryz.prog 9 (List UInt8) := Rd.str (by kernel_rfl) (by kernel_rfl)
noncomputable def rdInt : Rd Tryz.prog 3 Int := Rd.int (k := .i64) (by kernel_rfl) (by kernel_rfl)
noncomputable def rdStrs : Rd Tryz.prog 22 (List (List UInt8)) := Rd.slice (by kernel_rfl) (by kernel_rfl) rdStr rfl
noncomputable def rdIso {α β : Type} {T : TypeId} (r : Rd Tryz.prog T α) (g : α → β) (gi : β → α) (h : ∀ a, gi (g a) = a) (enc' : β → List SV) (he : ∀ a, enc' (g a) = r.enc a) (hl : ∀ b, (enc' b).length = r.sz) : Rd Tryz.prog T β :=
  r.as g (g r.dflt) enc' (fun b => r.good (gi b)) (fun b => r.bulk (gi b)) he hl (fun a ha => by rw [h]; exact ha) (fun a => by rw [h])
end Go.Proofs.YtaflklbmdbmjbaaGreatDoor
namespace Go.Proofs.YtaflklbmdbmjbaaGreatDoor
open Go Go.Sse
set_option linter.unusedVariables false
set_option linter.unusedSimpArgs false
set_option maxRecDepth 10000
abbrev Bs := List UInt8
abbrev hiB (b : UInt8) : UInt8 := UInt8.ofNat (b.toNat / 16)
abbrev loB (b : UInt8) : UInt8 := UInt8.ofNat (b.toNat % 16)
def ofN : Bs → Bs
  | [] => []
  | b :: r => hiB b :: loB b :: ofN r
def joinN : Bs → Bs
  | a :: b :: r => UInt8.ofNat (a.toNat * 16 + b.toNat) :: joinN r
  | _ => []
def fitN (p : Bs) : Bool := p.all (fun b => decide (b.toNat ≤ 15))
def comN : Bs → Bs → Nat
  | a :: x, b :: y => if a = b then comN x y + 1 else 0
  | _, _ => 0
def sideN (p m : Bs) : Int :=
  if comN p m = m.length then 1 else if comN p m = p.length then 0 else if (p.getD (comN p m) 0).toNat < (m.getD (comN p m) 0).toNat then -1 else 1
def keyP (p : Bs) : Bs × Int := if fitN p = false then ([], 3) else if p.length % 2 = 1 then ([], 4) else (joinN p, 0)
theorem ofN_len : ∀ k : Bs, (ofN k).length = 2 * k.length
  | [] => rfl
  | b :: r => by simp only [ofN, List.length_cons, ofN_len r]; omega
theorem ofN_fit : ∀ k : Bs, ∀ b ∈ ofN k, b.toNat < 16
  | [], b, h => by simp [ofN] at h
  | a :: r, b, h => by
    simp only [ofN, List.mem_cons] at h
    have := a.toNat_lt
    rcases h with rfl | rfl | h
    · simp; omega
    · simp; omega
    · exact ofN_fit r b h
theorem join_of : ∀ k : Bs, joinN (ofN k) = k
  | [] => rfl
  | b :: r => by
    simp only [ofN, joinN, join_of r]
    congr 1
    have := b.toNat_lt
    apply UInt8.toNat_inj.1
    simp; omega
theorem of_join : ∀ p : Bs, (∀ b ∈ p, b.toNat ≤ 15) → p.length % 2 = 0 → ofN (joinN p) = p
  | [], _, _ => rfl
  | [a], _, h => by simp at h
  | a :: b :: r, hf, h => by
    have ha := hf a (by simp)
    have hb := hf b (by simp)
    simp only [joinN, ofN, of_join r (fun c hc => hf c (by simp [hc])) (by simp only [List.length_cons] at h; omega)]
    congr 1
    · apply UInt8.toNat_inj.1; simp; omega
    · congr 1; apply UInt8.toNat_inj.1; simp; omega
theorem keyP_of {p k : Bs} (h : keyP p = (k, 0)) : p = ofN k := by
  unfold keyP at h
  split at h
  · simp at h
  split at h
  · simp at h
  · rename_i h1 h2
    simp only [Prod.mk.injEq, and_true] at h
    subst h
    rw [of_join p (fun b hb => by
      have := Bool.not_eq_false _ ▸ h1
      simpa using List.all_eq_true.1 this b hb) (by omega)]
theorem keyP_back (k : Bs) : keyP (ofN k) = (k, 0) := by
  unfold keyP
  have h1 : fitN (ofN k) = true := List.all_eq_true.2 fun b hb => by have := ofN_fit k b hb; simp; omega
  rw [if_neg (by rw [h1]; decide), if_neg (by rw [ofN_len]; omega), join_of]
theorem com_le : ∀ a b : Bs, comN a b ≤ a.length ∧ comN a b ≤ b.length
  | [], b => by simp [comN]
  | a :: x, [] => by simp [comN]
  | a :: x, b :: y => by
    have := com_le x y
    unfold comN
    split
    · simp only [List.length_cons]; omega
    · simp
theorem com_all : ∀ a b : Bs, comN a b = a.length ↔ a <+: b
  | [], b => by simp [comN]
  | a :: x, [] => by simp [comN]
  | a :: x, b :: y => by
    unfold comN
    split
    · rename_i h; subst h; rw [List.length_cons, List.cons_prefix_cons]; have := com_all x y; constructor
      · intro h; exact ⟨rfl, this.1 (by omega)⟩
      · rintro ⟨_, h⟩; have := this.2 h; omega
    · rename_i h; rw [List.cons_prefix_cons, List.length_cons]; constructor
      · intro h2; omega
      · rintro ⟨h2, _⟩; exact absurd h2 h
def ltL : Bs → Bs → Prop
  | _, [] => False
  | [], _ :: _ => True
  | a :: x, b :: y => a.toNat < b.toNat ∨ (a = b ∧ ltL x y)
theorem ltL_of : ∀ k m : Bs, ltL (ofN k) (ofN m) ↔ ltL k m
  | [], [] => Iff.rfl
  | [], b :: y => by simp [ofN, ltL]
  | a :: x, [] => by simp [ofN, ltL]
  | a :: x, b :: y => by
    simp only [ofN, ltL, ltL_of x y]
    have ha := a.toNat_lt
    have hb := b.toNat_lt
    have e1 : (hiB a).toNat = a.toNat / 16 := by simp; omega
    have e2 : (hiB b).toNat = b.toNat / 16 := by simp; omega
    have e3 : (loB a).toNat = a.toNat % 16 := by simp; omega
    have e4 : (loB b).toNat = b.toNat % 16 := by simp; omega
    have i1 : hiB a = hiB b ↔ a.toNat / 16 = b.toNat / 16 := by rw [← UInt8.toNat_inj, e1, e2]
    have i2 : loB a = loB b ↔ a.toNat % 16 = b.toNat % 16 := by rw [← UInt8.toNat_inj, e3, e4]
    have i3 : a = b ↔ a.toNat = b.toNat := UInt8.toNat_inj.symm
    rw [e1, e2, e3, e4, i1, i2, i3]
    constructor
    · rintro (h | ⟨h, h2 | ⟨h2, h3⟩⟩)
      · left; omega
      · left; omega
      · right; exact ⟨by omega, h3⟩
    · rintro (h | ⟨h, h3⟩)
      · by_cases q : a.toNat / 16 < b.toNat / 16
        · left; exact q
        · right; exact ⟨by omega, .inl (by omega)⟩
      · right; exact ⟨by omega, .inr ⟨by omega, h3⟩⟩
theorem side_low : ∀ (p m q : Bs), ¬ ltL (p ++ q) m → sideN p m ≠ -1
  | [], m, q, h => by
    unfold sideN; simp only [comN, List.length_nil]
    split
    · simp
    · simp
  | a :: x, [], q, h => by unfold sideN; simp [comN]
  | a :: x, b :: y, q, h => by
    simp only [List.cons_append, ltL, not_or, not_and] at h
    by_cases e : a = b
    · have ih := side_low x y q (h.2 e)
      unfold sideN at ih ⊢
      simp only [comN, e, if_true, List.length_cons, Nat.add_right_cancel_iff]
      simpa using ih
    · unfold sideN
      simp only [comN, e, if_false, List.length_cons]
      rw [if_neg (by omega), if_neg (by omega)]
      simp only [List.getD_cons_zero]
      rw [if_neg h.1]; decide
theorem side_high : ∀ (p m q : Bs), ltL (p ++ q) m → sideN p m ≤ 0
  | [], [], q, h => by cases q <;> simp [ltL] at h
  | [], b :: y, q, h => by unfold sideN; simp [comN]
  | a :: x, [], q, h => by simp [ltL] at h
  | a :: x, b :: y, q, h => by
    simp only [List.cons_append, ltL] at h
    by_cases e : a = b
    · have h2 : ltL (x ++ q) y := by
        rcases h with h | h
        · rw [e] at h; omega
        · exact h.2
      have ih := side_high x y q h2
      unfold sideN at ih ⊢
      simp only [comN, e, if_true, List.length_cons, Nat.add_right_cancel_iff]
      simpa using ih
    · have h1 : a.toNat < b.toNat := by
        rcases h with h | h
        · exact h
        · exact absurd h.1 e
      unfold sideN
      simp only [comN, e, if_false, List.length_cons]
      rw [if_neg (by omega), if_neg (by omega)]
      simp only [List.getD_cons_zero]
      rw [if_pos h1]; decide
end Go.Proofs.YtaflklbmdbmjbaaGreatDoor
namespace Go.Proofs.YtaflklbmdbmjbaaGreatDoor
open Go Go.Sse
set_option linter.unusedVariables false
set_option linter.unusedSimpArgs false
set_option maxRecDepth 10000
structure Nd where
  kind : Int
  path : Bs
  value : Bs
  kids : List Bs
def nd0 : Nd := ⟨0, [], [], List.replicate 16 []⟩
abbrev Nd.kid (n : Nd) (i : Nat) : Bs := n.kids.getD i []
def okNd (n : Nd) : Prop := n.kids.length = 16 ∧ ((n.kind = 1 ∧ (∀ i, n.kid i = []) ∧ n.value ≠ []) ∨ (n.kind = 2 ∧ n.kid 0 ≠ [] ∧ (∀ i, 0 < i → n.kid i = []) ∧ n.value = []) ∨ (n.kind = 3 ∧ n.path = []))
def stepP (n : Nd) (left : Bs) : Bs × Bs :=
  if ¬ n.path <+: left then ([], [])
  else if n.kind = 2 then (n.kid 0, left.drop n.path.length)
  else if n.kind = 1 ∧ n.path.length < left.length then ([], [])
  else if n.kind = 1 ∨ left = [] then ([], n.value)
  else if n.kid (left.headD 0).toNat = [] then ([], [])
  else (n.kid (left.headD 0).toNat, left.tail)
section
variable (sum : Bs → Bs) (dec : Bs → Nd × Int) (lo hi : Bs)
def followP : Bs → Bs → List Bs → Bs × Nat × Bool
  | _, _, [] => ([], 0, false)
  | sought, left, t :: ts =>
    if sum t ≠ sought ∨ (dec t).2 ≠ 0 then ([], 0, false)
    else if (stepP (dec t).1 left).1 = [] then ((stepP (dec t).1 left).2, 1, true)
    else ((followP (stepP (dec t).1 left).1 (stepP (dec t).1 left).2 ts).1, (followP (stepP (dec t).1 left).1 (stepP (dec t).1 left).2 ts).2.1 + 1, (followP (stepP (dec t).1 left).1 (stepP (dec t).1 left).2 ts).2.2)
structure GSt where
  nodes : List Bs
  items : List (Bs × Bs)
def mayP (place : Bs) : Prop := 0 ≤ sideN place (ofN lo) ∧ (hi = [] ∨ sideN place (ofN hi) ≤ 0)
instance (place : Bs) : Decidable (mayP lo hi place) := by unfold mayP; exact inferInstance
def inR (k : Bs) : Prop := ¬ ltL k lo ∧ (hi = [] ∨ ltL k hi)
def badK (p : Bs) : Prop := (keyP p).2 ≠ 0 ∨ (keyP p).1 = [] ∨ 16 < p.length
open Classical in
noncomputable def itemP (p value : Bs) (l : List (Bs × Bs)) : List (Bs × Bs) := if inR lo hi (keyP p).1 then l ++ [((keyP p).1, value)] else l
abbrev atN (n : Nd) (place : Bs) (i : Nat) : Bs := if n.kind = 2 then place ++ n.path else place ++ [UInt8.ofNat i]
def kidsG (g : Bs → Bs → GSt → Bool × GSt) (n : Nd) (place : Bs) : List Nat → GSt → Bool × GSt
  | [], s => (true, s)
  | i :: r, s => if n.kid i = [] then kidsG g n place r s else if (g (n.kid i) (atN n place i) s).1 = true then kidsG g n place r (g (n.kid i) (atN n place i) s).2 else (false, (g (n.kid i) (atN n place i) s).2)
open Classical in
noncomputable def gatherP : Nat → Bs → Bs → GSt → Bool × GSt
  | 0, _, _, s => (false, s)
  | f + 1, sought, place, s =>
    if ¬ mayP lo hi place then (true, s)
    else match s.nodes with
      | [] => (false, s)
      | t :: ts =>
        if sum t ≠ sought ∨ (dec t).2 ≠ 0 then (false, ⟨ts, s.items⟩)
        else if (dec t).1.value ≠ [] ∧ badK (place ++ (dec t).1.path) then (false, ⟨ts, s.items⟩)
        else kidsG (gatherP f) (dec t).1 place (List.range 16) ⟨ts, if (dec t).1.value = [] then s.items else itemP lo hi (place ++ (dec t).1.path) (dec t).1.value s.items⟩
structure GNew (place : Bs) (s s' : GSt) (new : List (Bs × Bs)) : Prop where
  its : s'.items = s.items ++ new
  suf : s'.nodes <:+ s.nodes
  pre : ∀ y ∈ new, place <+: ofN y.1
theorem kids_new {g : Bs → Bs → GSt → Bool × GSt} (hg : ∀ so pl s s', g so pl s = (true, s') → ∃ new, GNew pl s s' new) (n : Nd) (place : Bs) : ∀ (r : List Nat) (s s' : GSt), kidsG g n place r s = (true, s') →
    ∃ new, s'.items = s.items ++ new ∧ s'.nodes <:+ s.nodes ∧ ∀ y ∈ new, ∃ i ∈ r, n.kid i ≠ [] ∧ atN n place i <+: ofN y.1
  | [], s, s', h => by
    simp only [kidsG, Prod.mk.injEq, true_and] at h
    subst h
    exact ⟨[], by simp, List.suffix_refl _, by simp⟩
  | i :: r, s, s', h => by
    unfold kidsG at h
    split at h
    · obtain ⟨new, h1, h2, h3⟩ := kids_new hg n place r s s' h
      exact ⟨new, h1, h2, fun y hy => by obtain ⟨j, hj, h4⟩ := h3 y hy; exact ⟨j, List.mem_cons_of_mem _ hj, h4⟩⟩
    · rename_i hk
      split at h
      · rename_i ht
        obtain ⟨n1, g1⟩ := hg _ _ _ (g (n.kid i) (atN n place i) s).2 (Prod.ext ht rfl)
        obtain ⟨n2, h1, h2, h3⟩ := kids_new hg n place r _ s' h
        refine ⟨n1 ++ n2, by rw [h1, g1.its, List.append_assoc], h2.trans g1.suf, fun y hy => ?_⟩
        rcases List.mem_append.1 hy with hy | hy
        · exact ⟨i, List.mem_cons_self, hk, g1.pre y hy⟩
        · obtain ⟨j, hj, h4⟩ := h3 y hy; exact ⟨j, List.mem_cons_of_mem _ hj, h4⟩
      · simp at h
theorem kids_one {g : Bs → Bs → GSt → Bool × GSt} (hg : ∀ so pl s s', g so pl s = (true, s') → ∃ new, GNew pl s s' new) (n : Nd) (place : Bs) (j : Nat) (hk : n.kid j ≠ []) : ∀ (r : List Nat) (s s' : GSt), r.Nodup → j ∈ r → kidsG g n place r s = (true, s') →
    ∃ (s1 s2 : GSt) (A B C : List (Bs × Bs)), g (n.kid j) (atN n place j) s1 = (true, s2) ∧ s1.nodes <:+ s.nodes ∧ s2.items = s1.items ++ B ∧ s'.items = s.items ++ (A ++ B ++ C) ∧ ∀ y ∈ A ++ C, ∃ i ∈ r, i ≠ j ∧ n.kid i ≠ [] ∧ atN n place i <+: ofN y.1
  | [], s, s', _, hj, h => by simp at hj
  | i :: r, s, s', hn, hj, h => by
    rw [List.nodup_cons] at hn
    by_cases e : i = j
    · subst e
      unfold kidsG at h
      rw [if_neg hk] at h
      split at h
      · rename_i ht
        obtain ⟨n1, g1⟩ := hg _ _ _ (g (n.kid i) (atN n place i) s).2 (Prod.ext ht rfl)
        obtain ⟨n2, h1, h2, h3⟩ := kids_new hg n place r _ s' h
        refine ⟨s, _, [], n1, n2, Prod.ext ht rfl, List.suffix_refl _, g1.its, by rw [h1, g1.its, List.append_assoc]; simp, fun y hy => ?_⟩
        rw [List.nil_append] at hy
        obtain ⟨k, hk1, hk2, hk3⟩ := h3 y hy
        exact ⟨k, List.mem_cons_of_mem _ hk1, fun e => hn.1 (e ▸ hk1), hk2, hk3⟩
      · simp at h
    · have hjr : j ∈ r := by
        rcases List.mem_cons.1 hj with h1 | h1
        · exact absurd h1.symm e
        · exact h1
      unfold kidsG at h
      split at h
      · obtain ⟨s1, s2, A, B, C, h1, h2, h3, h4, h5⟩ := kids_one hg n place j hk r s s' hn.2 hjr h
        exact ⟨s1, s2, A, B, C, h1, h2, h3, h4, fun y hy => by obtain ⟨k, hk1, hk2⟩ := h5 y hy; exact ⟨k, List.mem_cons_of_mem _ hk1, hk2⟩⟩
      · rename_i hki
        split at h
        · rename_i ht
          obtain ⟨n1, g1⟩ := hg _ _ _ (g (n.kid i) (atN n place i) s).2 (Prod.ext ht rfl)
          obtain ⟨s1, s2, A, B, C, h1, h2, h3, h4, h5⟩ := kids_one hg n place j hk r _ s' hn.2 hjr h
          refine ⟨s1, s2, n1 ++ A, B, C, h1, h2.trans g1.suf, h3, by rw [h4, g1.its]; simp only [List.append_assoc], fun y hy => ?_⟩
          rw [List.append_assoc] at hy
          rcases List.mem_append.1 hy with hy | hy
          · exact ⟨i, List.mem_cons_self, e, hki, g1.pre y hy⟩
          · obtain ⟨k, hk1, hk2⟩ := h5 y hy; exact ⟨k, List.mem_cons_of_mem _ hk1, hk2⟩
        · simp at h
theorem item_new (p value : Bs) (l : List (Bs × Bs)) (hb : ¬ badK p) : ∃ new, itemP lo hi p value l = l ++ new ∧ (∀ y ∈ new, ofN y.1 = p ∧ y.2 = value) ∧ (inR lo hi (keyP p).1 → new = [((keyP p).1, value)]) := by
  have hk : ofN (keyP p).1 = p := by
    unfold badK at hb
    have : (keyP p).2 = 0 := by simpa using fun h => hb (.inl h)
    exact (keyP_of (Prod.ext rfl this)).symm
  unfold itemP
  split
  · exact ⟨_, rfl, fun y hy => by rw [List.mem_singleton.1 hy]; exact ⟨hk, rfl⟩, fun _ => rfl⟩
  · rename_i h; exact ⟨[], by simp, by simp, fun h2 => absurd h2 h⟩
theorem at_pre (n : Nd) (place : Bs) (i : Nat) : place <+: atN n place i := by
  unfold atN; split <;> exact List.prefix_append _ _
theorem gather_new : ∀ (f : Nat) (so pl : Bs) (s s' : GSt), gatherP sum dec lo hi f so pl s = (true, s') → ∃ new, GNew pl s s' new
  | 0, so, pl, s, s', h => by simp [gatherP] at h
  | f + 1, so, pl, s, s', h => by
    unfold gatherP at h
    split at h
    · simp only [Prod.mk.injEq, true_and] at h; subst h
      exact ⟨[], by simp, List.suffix_refl _, by simp⟩
    · split at h
      · simp at h
      · rename_i t ts hs
        split at h
        · simp at h
        split at h
        · simp at h
        rename_i hb
        obtain ⟨n2, h1, h2, h3⟩ := kids_new (gather_new f) _ _ _ _ _ h
        have hsuf : s'.nodes <:+ s.nodes := h2.trans (by rw [hs]; exact List.suffix_cons _ _)
        have hpre : ∀ y ∈ n2, pl <+: ofN y.1 := fun y hy => by obtain ⟨i, _, _, h4⟩ := h3 y hy; exact (at_pre _ _ _).trans h4
        by_cases hv : (dec t).1.value = []
        · rw [if_pos hv] at h1
          exact ⟨n2, h1, hsuf, hpre⟩
        · rw [if_neg hv] at h1
          obtain ⟨n1, g1, g2, _⟩ := item_new lo hi (pl ++ (dec t).1.path) (dec t).1.value s.items (fun hh => hb ⟨hv, hh⟩)
          simp only at h1
          rw [g1, List.append_assoc] at h1
          refine ⟨n1 ++ n2, h1, hsuf, fun y hy => ?_⟩
          rcases List.mem_append.1 hy with hy | hy
          · rw [(g2 y hy).1]; exact List.prefix_append _ _
          · exact hpre y hy
theorem may_key {k p q : Bs} (hr : inR lo hi k) (hp : p ++ q = ofN k) : mayP lo hi p := by
  refine ⟨?_, ?_⟩
  · have h1 : ¬ ltL (p ++ q) (ofN lo) := by rw [hp, ltL_of]; exact hr.1
    have h2 := side_low p (ofN lo) q h1
    have h3 : sideN p (ofN lo) = 1 ∨ sideN p (ofN lo) = 0 ∨ sideN p (ofN lo) = -1 := by
      unfold sideN; split
      · exact .inl rfl
      split
      · exact .inr (.inl rfl)
      split
      · exact .inr (.inr rfl)
      · exact .inl rfl
    omega
  · rcases hr.2 with h | h
    · exact .inl h
    · exact .inr (side_high p (ofN hi) q (by rw [hp, ltL_of]; exact h))
theorem point_range (hdec : ∀ t, (dec t).2 = 0 → okNd (dec t).1) (TF TG : List Bs) (hno : ∀ t ∈ TF, ∀ u ∈ TG, sum t = sum u → t = u) (k : Bs) (hr : inR lo hi k) (hk0 : k ≠ []) (hk16 : (ofN k).length ≤ 16) :
    ∀ (ts : List Bs) (sought place left : Bs) (v : Bs) (f : Nat) (s s' : GSt), (∀ t ∈ ts, t ∈ TF) → (∀ t ∈ s.nodes, t ∈ TG) → place ++ left = ofN k → followP sum dec sought left ts = (v, ts.length, true) → gatherP sum dec lo hi f sought place s = (true, s') →
      ∃ new, s'.items = s.items ++ new ∧ (v ≠ [] → (k, v) ∈ new) ∧ ∀ y ∈ new, y.1 = k → v ≠ [] ∧ y.2 = v
  | [], sought, place, left, v, f, s, s', _, _, _, hf, _ => by simp [followP] at hf
  | t :: ts, sought, place, left, v, 0, s, s', _, _, _, _, hg => by simp [gatherP] at hg
  | t :: ts, sought, place, left, v, f + 1, s, s', hTF, hTG, hpl, hf, hg => by
    unfold gatherP at hg
    rw [if_neg (not_not_intro (may_key lo hi hr hpl))] at hg
    split at hg
    · simp at hg
    rename_i u us hs
    split at hg
    · simp at hg
    rename_i h1
    split at hg
    · simp at hg
    rename_i hb
    unfold followP at hf
    split at hf
    · simp at hf
    rename_i h2
    simp only [ne_eq, not_or, Decidable.not_not] at h1 h2
    obtain rfl : t = u := hno t (hTF t List.mem_cons_self) u (hTG u (by rw [hs]; exact List.mem_cons_self)) (h2.1.trans h1.1.symm)
    obtain ⟨hl16, hn⟩ := hdec t h1.2
    generalize (dec t).1 = n at *
    obtain ⟨own, ho1, ho2, ho3⟩ : ∃ own, (if n.value = [] then s.items else itemP lo hi (place ++ n.path) n.value s.items) = s.items ++ own ∧ (∀ y ∈ own, ofN y.1 = place ++ n.path ∧ y.2 = n.value ∧ n.value ≠ []) ∧ (n.value ≠ [] → place ++ n.path = ofN k → own = [(k, n.value)]) := by
      by_cases hv : n.value = []
      · exact ⟨[], by rw [if_pos hv]; simp, by simp, fun h => absurd hv h⟩
      · rw [if_neg hv]
        obtain ⟨n1, g1, g2, g3⟩ := item_new lo hi (place ++ n.path) n.value s.items (fun hh => hb ⟨hv, hh⟩)
        refine ⟨n1, g1, fun y hy => ⟨(g2 y hy).1, (g2 y hy).2, hv⟩, fun _ e => ?_⟩
        have e2 : (keyP (place ++ n.path)).1 = k := by rw [e, keyP_back]
        rw [e2] at g3
        exact g3 hr
    rw [ho1] at hg
    have hown : ∀ y ∈ own, y.1 = k → n.path = left := fun y hy e => by
      have h3 := (ho2 y hy).1
      rw [e, ← hpl] at h3
      exact (List.append_cancel_left h3).symm
    have hnodes : ∀ x ∈ us, x ∈ TG := fun x hx => hTG x (by rw [hs]; exact List.mem_cons_of_mem _ hx)
    obtain ⟨kn, kn1, kn2, kn3⟩ := kids_new (gather_new sum dec lo hi f) _ _ _ _ _ hg
    simp only at kn1
    have hkid : ∀ y ∈ kn, y.1 = k → ∃ i, i < 16 ∧ n.kid i ≠ [] ∧ atN n place i <+: place ++ left := fun y hy e => by
      obtain ⟨i, hi1, hi2, hi3⟩ := kn3 y hy
      rw [e, ← hpl] at hi3
      exact ⟨i, List.mem_range.1 hi1, hi2, hi3⟩
    have hres : s'.items = s.items ++ (own ++ kn) := by rw [kn1, List.append_assoc]
    have hlast : (n.path = left → v = n.value) → (n.path ≠ left → v = []) → (∀ i, i < 16 → n.kid i ≠ [] → ¬ atN n place i <+: place ++ left) → ∃ new, s'.items = s.items ++ new ∧ (v ≠ [] → (k, v) ∈ new) ∧ ∀ y ∈ new, y.1 = k → v ≠ [] ∧ y.2 = v := by
      intro q1 q2 q3
      refine ⟨own ++ kn, hres, fun hv => ?_, fun y hy e => ?_⟩
      · by_cases e : n.path = left
        · have e2 := q1 e
          rw [ho3 (by rw [← e2]; exact hv) (by rw [e, hpl]), e2]
          simp
        · exact absurd (q2 e) hv
      · rcases List.mem_append.1 hy with hy | hy
        · have e2 := q1 (hown y hy e)
          rw [e2]
          exact ⟨(ho2 y hy).2.2, (ho2 y hy).2.1⟩
        · obtain ⟨i, i1, i2, i3⟩ := hkid y hy e
          exact absurd i3 (q3 i i1 i2)
    by_cases hbeg : n.path <+: left
    case neg =>
      have hst : stepP n left = ([], []) := by unfold stepP; rw [if_pos hbeg]
      rw [hst, if_pos rfl] at hf
      simp only [Prod.mk.injEq] at hf
      refine hlast (fun e => absurd (e ▸ List.prefix_refl _) hbeg) (fun _ => hf.1.symm) (fun i hi1 hi2 hi3 => ?_)
      rcases hn with ⟨_, h4, _⟩ | ⟨h4, _⟩ | ⟨_, h4⟩
      · exact hi2 (h4 i)
      · unfold atN at hi3; rw [if_pos h4] at hi3
        exact hbeg ((List.prefix_append_right_inj place).1 hi3)
      · exact hbeg (by rw [h4]; exact List.nil_prefix)
    have hbn : ¬ ¬ n.path <+: left := fun h => h hbeg
    rcases hn with ⟨hk1, hk2, hk3⟩ | ⟨hk1, hk2, hk3, hk4⟩ | ⟨hk1, hk2⟩
    · 
      have hq3 : ∀ i, i < 16 → n.kid i ≠ [] → ¬ atN n place i <+: place ++ left := fun i _ h => absurd (hk2 i) h
      by_cases hlen : n.path.length < left.length
      · have hst : stepP n left = ([], []) := by unfold stepP; rw [if_neg hbn, if_neg (by rw [hk1]; decide), if_pos ⟨hk1, hlen⟩]
        rw [hst, if_pos rfl] at hf
        simp only [Prod.mk.injEq] at hf
        exact hlast (fun e => by rw [e] at hlen; omega) (fun _ => hf.1.symm) hq3
      · have hst : stepP n left = ([], n.value) := by unfold stepP; rw [if_neg hbn, if_neg (by rw [hk1]; decide), if_neg (fun h => hlen h.2), if_pos (.inl hk1)]
        rw [hst, if_pos rfl] at hf
        simp only [Prod.mk.injEq] at hf
        have e : n.path = left := hbeg.eq_of_length (by have := hbeg.length_le; omega)
        exact hlast (fun _ => hf.1.symm) (fun h => absurd e h) hq3
    · 
      have hst : stepP n left = (n.kid 0, left.drop n.path.length) := by unfold stepP; rw [if_neg hbn, if_pos hk1]
      rw [hst, if_neg hk2] at hf
      simp only [Prod.mk.injEq, List.length_cons, Nat.add_right_cancel_iff] at hf
      obtain ⟨s1, s2, A, B, C, g1, g2, g3, g4, g5⟩ := kids_one (gather_new sum dec lo hi f) n place 0 hk2 _ _ _ List.nodup_range (by decide) hg
      have hat : atN n place 0 = place ++ n.path := if_pos hk1
      rw [hat] at g1
      have hpl2 : (place ++ n.path) ++ left.drop n.path.length = ofN k := by
        obtain ⟨r, rfl⟩ := hbeg
        rw [List.drop_left, List.append_assoc]; exact hpl
      obtain ⟨new, i1, i2, i3⟩ := point_range hdec TF TG hno k hr hk0 hk16 ts (n.kid 0) (place ++ n.path) (left.drop n.path.length) v f s1 s2 (fun x hx => hTF x (List.mem_cons_of_mem _ hx)) (fun x hx => hnodes x (g2.subset hx)) hpl2 (by rw [← hf.1, ← hf.2.1, ← hf.2.2]) g1
      obtain rfl : B = new := List.append_cancel_left (g3.symm.trans i1)
      have hAC : ∀ y ∈ A ++ C, False := fun y hy => by
        obtain ⟨i, _, q2, q3, _⟩ := g5 y hy
        exact q3 (hk3 i (by omega))
      have hown0 : own = [] := List.eq_nil_iff_forall_not_mem.2 fun y hy => (ho2 y hy).2.2 hk4
      refine ⟨A ++ B ++ C, by rw [g4]; simp only [hown0, List.append_nil], fun hv => by simp [i2 hv], fun y hy e => ?_⟩
      rcases List.mem_append.1 hy with hy | hy
      · rcases List.mem_append.1 hy with hy | hy
        · exact absurd (hAC y (List.mem_append_left _ hy)) id
        · exact i3 y hy e
      · exact absurd (hAC y (List.mem_append_right _ hy)) id
    · 
      have hk1' : ¬ n.kind = 2 := by rw [hk1]; decide
      have hk1'' : ¬ n.kind = 1 := by rw [hk1]; decide
      have hat : ∀ i, atN n place i = place ++ [UInt8.ofNat i] := fun i => if_neg hk1'
      cases left with
      | nil =>
        have hst : stepP n [] = ([], n.value) := by unfold stepP; rw [if_neg hbn, if_neg hk1', if_neg (fun h => hk1'' h.1), if_pos (.inr rfl)]
        rw [hst, if_pos rfl] at hf
        simp only [Prod.mk.injEq] at hf
        refine hlast (fun _ => hf.1.symm) (fun h => absurd hk2 h) (fun i _ _ hi3 => ?_)
        rw [hat] at hi3
        have := hi3.length_le
        simp only [List.length_append, List.length_cons, List.length_nil] at this
        omega
      | cons c left =>
        have hcl : c.toNat < 16 := ofN_fit k c (by rw [← hpl]; simp)
        have hne : n.path ≠ c :: left := by rw [hk2]; simp
        have hci : ∀ i, i < 16 → atN n place i <+: place ++ (c :: left) → i = c.toNat := fun i hi1 hi3 => by
          rw [hat] at hi3
          have := (List.prefix_append_right_inj place).1 hi3
          rw [List.cons_prefix_cons] at this
          rw [← this.1]
          simp; omega
        by_cases hkc : n.kid c.toNat = []
        · have hst : stepP n (c :: left) = ([], []) := by unfold stepP; rw [if_neg hbn, if_neg hk1', if_neg (fun h => hk1'' h.1), if_neg (by rintro (h | h); exact hk1'' h; simp at h), if_pos (show n.kid ((c :: left).headD 0).toNat = [] from hkc)]
          rw [hst, if_pos rfl] at hf
          simp only [Prod.mk.injEq] at hf
          refine hlast (fun e => absurd e hne) (fun _ => hf.1.symm) (fun i hi1 hi2 hi3 => ?_)
          rw [hci i hi1 hi3] at hi2
          exact hi2 hkc
        · have hst : stepP n (c :: left) = (n.kid c.toNat, left) := by unfold stepP; rw [if_neg hbn, if_neg hk1', if_neg (fun h => hk1'' h.1), if_neg (by rintro (h | h); exact hk1'' h; simp at h), if_neg (show ¬ n.kid ((c :: left).headD 0).toNat = [] from hkc)]; rfl
          rw [hst, if_neg hkc] at hf
          simp only [Prod.mk.injEq, List.length_cons, Nat.add_right_cancel_iff] at hf
          obtain ⟨s1, s2, A, B, C, g1, g2, g3, g4, g5⟩ := kids_one (gather_new sum dec lo hi f) n place c.toNat hkc _ _ _ List.nodup_range (List.mem_range.2 hcl) hg
          rw [hat, show UInt8.ofNat c.toNat = c by simp] at g1
          have hpl2 : (place ++ [c]) ++ left = ofN k := by rw [List.append_assoc]; exact hpl
          obtain ⟨new, i1, i2, i3⟩ := point_range hdec TF TG hno k hr hk0 hk16 ts (n.kid c.toNat) (place ++ [c]) left v f s1 s2 (fun x hx => hTF x (List.mem_cons_of_mem _ hx)) (fun x hx => hnodes x (g2.subset hx)) hpl2 (by rw [← hf.1, ← hf.2.1, ← hf.2.2]) g1
          obtain rfl : B = new := List.append_cancel_left (g3.symm.trans i1)
          have hAC : ∀ y ∈ A ++ C, y.1 = k → False := fun y hy e => by
            obtain ⟨i, q1, q2, q3, q4⟩ := g5 y hy
            rw [e, ← hpl] at q4
            exact q2 (hci i (List.mem_range.1 q1) q4)
          have hown0 : ∀ y ∈ own, y.1 = k → False := fun y hy e => hne (hown y hy e)
          refine ⟨own ++ (A ++ B ++ C), by rw [g4]; simp only [List.append_assoc], fun hv => by simp [i2 hv], fun y hy e => ?_⟩
          rcases List.mem_append.1 hy with hy | hy
          · exact absurd (hown0 y hy e) id
          rcases List.mem_append.1 hy with hy | hy
          · rcases List.mem_append.1 hy with hy | hy
            · exact absurd (hAC y (List.mem_append_left _ hy) e) id
            · exact i3 y hy e
          · exact absurd (hAC y (List.mem_append_right _ hy) e) id
end
end Go.Proofs.YtaflklbmdbmjbaaGreatDoor
namespace Go.Proofs.YtaflklbmdbmjbaaGreatDoor
open Go Go.Sse
set_option maxRecDepth 10000
set_option linter.unusedVariables false
set_option linter.unusedSimpArgs false
def be (n : Nat) : List UInt8 := if h : n = 0 then [] else be (n / 256) ++ [UInt8.ofNat (n % 256)]
termination_by n
decreasing_by omega
theorem be_zero : be 0 = [] := by rw [be, dif_pos rfl]
theorem be_pos {n : Nat} (h : 0 < n) : be n = be (n / 256) ++ [UInt8.ofNat (n % 256)] := by rw [be, dif_neg (by omega)]
theorem be_len : ∀ (k n : Nat), n < 256 ^ k → (be n).length ≤ k
  | 0, n, h => by have : n = 0 := by simpa using h
                  subst this; rw [be_zero]; simp
  | k + 1, n, h => by
    by_cases h0 : n = 0
    · subst h0; rw [be_zero]; simp
    · rw [be_pos (by omega), List.length_append]
      have : n / 256 < 256 ^ k := by rw [Nat.div_lt_iff_lt_mul (by omega), ← Nat.pow_succ]; exact h
      have := be_len k (n / 256) this
      simp only [List.length_cons, List.length_nil]; omega
theorem be_len8 {n : Nat} (h : n < 18446744073709551616) : (be n).length ≤ 8 := be_len 8 n (by simpa using h)
def numB (n : Nat) : List UInt8 := UInt8.ofNat (be n).length :: be n
theorem numB_len {n : Nat} (h : n < 18446744073709551616) : 1 ≤ (numB n).length ∧ (numB n).length ≤ 9 := by
  have := be_len8 h
  simp only [numB, List.length_cons]; omega
def textB (s : List UInt8) : List UInt8 := numB s.length ++ s
end Go.Proofs.YtaflklbmdbmjbaaGreatDoor
namespace Go.Proofs.YtaflklbmdbmjbaaGreatDoor
open Go Go.Sse
set_option linter.unusedVariables false
set_option linter.unusedSimpArgs false
set_option maxRecDepth 10000
abbrev tU8 : Nat := 5
theorem ref0 {F : List (Nat × SV)} {i : Nat} {s : SV} (h : Sse.look F i = some s) : ∃ t, Sse.look F i = some t ∧ Sub t s := ⟨s, h, .refl _⟩
set_option maxHeartbeats 1000000 in
theorem num_ok (n : Nat) (hn : n < 9223372036854775808) : FnC Tryz.prog 100 [int (n : Int)] [] (fun s L => s = str (numB n) ∧ L = []) := by
  have h8 := be_len8 (n := n) (by omega)
  refine FnC.intro Tryz.func100 rfl Tryz.ntmps100 rfl fun Z w0 hG => ?_
  focus (
 (refine W.seq (W.region (Jx.assign rfl rfl (J.nil (N.seq (W.seq (W.region ?_)))))))
 (refine J.alloc (by simp only [List.map_cons, List.map_nil]; rfl) rfl rfl ?_; intro b')
 (refine J.nil (N.seq (W.seq (W.region (Jx.assign rfl rfl (J.nil (N.seq (W.seq (W.block ?_)))))))))
 (refine id ?_; rotate_left))
  refine W.loop (α := Nat × Nat × List UInt8) (fun x => [(4, int x.1), (3, ptr b'), (0, int (x.2.1 : Int))]) (fun x => [.obj b' 159 (x.2.2.map byte)]) (fun x => x.1 ≤ 8 ∧ x.2.2.length = 8 ∧ x.2.1 ≤ n ∧ be n = be x.2.1 ++ x.2.2.drop x.1) (fun x => x.2.1) (8, n, List.replicate 8 0) ⟨by simp, rfl, by simp, by simp⟩ rfl ⟨ref0 rfl, ref0 rfl, ref0 rfl, trivial⟩ ?_
  rintro ⟨a, m, ws⟩ ⟨ha, hl, hm, hb⟩
  simp only at ha hl hm hb ⊢
  have hlen : (be n).length = (be m).length + (8 - a) := by rw [hb, List.length_append, List.length_drop, hl]
  by_cases h0 : 0 < m
  · have hbm := be_pos h0
    have hlm : 1 ≤ (be m).length := by rw [hbm, List.length_append]; simp
    have ha1 : 1 ≤ a := by omega
    focus (
 (refine W.seq (W.seq (W.region (Jx.move rfl rfl (Jx.gtrI rfl rfl rfl (J.nil (N.seq (W.cT rfl ?_))))))))
 (refine W.skip (N.seq (W.seq (W.block (W.seq (W.region (Jx.move rfl rfl (Jx.sub64 rfl rfl (by omega) rfl ?_))))))))
 (refine Jx.assign rfl rfl (J.nil (N.seq (W.region (Jx.move rfl rfl (Jx.move rfl rfl ?_))))))
 (refine Jx.numByte m rfl rfl rfl rfl ?_)
 (refine Jx.index0 (a - 1) rfl rfl (by omega) (by omega) rfl ?_)
 (refine J.storeA byte (UInt8.ofNat m) rfl rfl (One.val rfl) 0 rfl (by omega) rfl ?_)
 (refine J.nil (N.seq (W.region (Jx.move rfl rfl (Jx.shrN (s := 8) rfl rfl rfl (by decide) rfl ?_)))))
 (refine Jx.assign rfl rfl (J.nil ?_))
 (refine id ?_; rotate_left))
    refine N.round (a - 1, m / 256, ws.set (a - 1) (UInt8.ofNat m)) ⟨by simp only; omega, by simp only [List.length_set]; exact hl, by simp only; omega, ?_⟩ (by simp only; omega) rfl ⟨⟨_, rfl, Sub.of_eq (by simp only; congr 2; omega)⟩, ref0 rfl, ⟨_, rfl, Sub.of_eq (by rfl)⟩, trivial⟩
    simp only
    rw [hb, hbm, List.append_assoc]
    congr 1
    have hlt : a - 1 < (ws.set (a - 1) (UInt8.ofNat m)).length := by rw [List.length_set]; omega
    rw [List.drop_eq_getElem_cons hlt, List.getElem_set_self, show a - 1 + 1 = a by omega, List.drop_set_of_lt (by omega)]
    rw [show UInt8.ofNat (m % 256) = UInt8.ofNat m by apply UInt8.toNat_inj.1; simp]
    rfl
  · have hm0 : m = 0 := by omega
    subst hm0
    rw [be_zero, List.nil_append] at hb
    rw [be_zero] at hlen
    simp only [List.length_nil, Nat.zero_add] at hlen
    have hnum : [UInt8.ofNat (8 - a)] ++ ws.drop a = numB n := by rw [← hb, ← hlen]; rfl
    have hcl : [UInt8.ofNat (8 - a)].length + (ws.drop a).length ≤ 9223372036854775807 := by rw [← hb]; simp only [List.length_cons, List.length_nil]; omega
    focus (
 (refine W.seq (W.seq (W.region (Jx.move rfl rfl (Jx.gtrI rfl rfl rfl (J.nil (N.seq (W.cF rfl ?_))))))))
 (refine W.exit (N.seq (W.seq ?_)))
 (refine W.draw follows ?_)
 (refine JD.calm rfl (by decide +kernel) ?_)
 (refine Cx.move rfl rfl ?_)
 (refine Cx.sub64 rfl rfl (by omega) rfl ?_)
 (refine Cx.numByte (8 - a) rfl rfl (by omega) rfl ?_)
 (refine SegC.q (Qs.buildBytes [UInt8.ofNat (8 - a)] rfl rfl rfl (by decide) (by decide)) rfl ?_)
 (refine Cx.bytesStr rfl rfl ?_)
 (refine Cx.move rfl rfl ?_)
 (refine Cx.arrFrom a rfl rfl rfl ha rfl ?_)
 (refine Cx.arrStr ws rfl 0 rfl hl ha rfl ?_)
 (refine Cx.cat rfl rfl hcl rfl ?_)
 (refine Cx.assign rfl rfl ?_)
 (refine SegC.nil ?_)
 (refine N.seq (W.ret ?_))
 (refine id ?_; rotate_left))
    exact N.retD (rs := [.tmp 2]) (L1 := []) rfl (.tmp rfl .nil) (List.nil_sublist _) ⟨by rw [hnum]; rfl, rfl⟩
theorem text_ok (s : List UInt8) (hs : s.length < 4611686018427387904) : FnC Tryz.prog 96 [str s] [] (fun r L => r = str (textB s) ∧ L = []) := by
  have c := num_ok s.length (by omega)
  have h := numB_len (n := s.length) (by omega)
  refine FnC.intro Tryz.func96 rfl Tryz.ntmps96 rfl fun Z w0 hG => ?_
  focus (
 (refine W.seq (W.region (Jx.assign rfl rfl (J.nil (N.seq (W.seq (W.region (Jx.move rfl rfl (Jx.lenS rfl rfl ?_)))))))))
 (refine J.call (c) rfl (evs_args rfl) rfl ?_; rintro _ _ ⟨rfl, rfl⟩; simp only [la1, la2, la3])
 (refine Jx.move rfl rfl (Jx.cat rfl rfl (by omega) rfl ?_))
 (refine Jx.assign rfl rfl (J.nil (N.seq (W.ret ?_))))
 (refine id ?_; rotate_left))
  exact N.ret (rs := [.tmp 2]) rfl (.tmp rfl .nil) ⟨rfl, rfl⟩
end Go.Proofs.YtaflklbmdbmjbaaGreatDoor
namespace Go.Proofs.YtaflklbmdbmjbaaGreatDoor
open Go Go.Sse
set_option linter.unusedVariables false
set_option linter.unusedSimpArgs false
set_option maxRecDepth 10000
def fewB (l : List (List UInt8)) (n e : Int) : Bool := decide ((l.length : Int) ≤ n) && l.all fun s => decide ((s.length : Int) ≤ e)
theorem few_ok (l : List (List UInt8)) (n e : Int) (hn : n ≤ 9223372036854775807) : FnC Tryz.prog 5 [ssl l, int n, int e] [] (fun s L => s = bool (fewB l n e) ∧ L = []) := by
  refine FnC.intro Tryz.func5 rfl Tryz.ntmps5 rfl fun Z w0 hG => ?_
  by_cases h0 : n < (l.length : Int)
  · focus (
 (refine W.seq (W.region (Jx.assign rfl rfl (J.nil (N.seq (W.seq (W.seq (W.region (Jx.move rfl rfl (Jx.lenSl rfl rfl ?_))))))))))
 (refine Jx.move rfl rfl (Jx.gtrI rfl rfl rfl (J.nil (N.seq (W.cT rfl ?_)))))
 (refine W.seq (W.region (Jx.assign rfl rfl (J.nil (N.seq (W.ret (N.seqRet ?_)))))))
 (refine id ?_; rotate_left))
    refine N.ret (rs := [.tmp 6]) rfl (.tmp rfl .nil) ⟨?_, rfl⟩
    simp [oneOr, fewB, show ¬ (l.length : Int) ≤ n by omega]
  · focus (
 (refine W.seq (W.region (Jx.assign rfl rfl (J.nil (N.seq (W.seq (W.seq (W.region (Jx.move rfl rfl (Jx.lenSl rfl rfl ?_))))))))))
 (refine Jx.move rfl rfl (Jx.gtrI rfl rfl rfl (J.nil (N.seq (W.cF rfl ?_)))))
 (refine W.skip (N.seq (W.seq (W.seq (W.region (Jx.assign rfl rfl (J.nil (N.seq (W.block ?_)))))))))
 (refine id ?_; rotate_left))
    refine W.loop (α := Nat) (fun i => [(7, int i), (2, int e), (0, ssl l)]) (fun _ => []) (fun i => i ≤ l.length ∧ ∀ s ∈ l.take i, (s.length : Int) ≤ e) (fun i => l.length - i) 0 ⟨by omega, by simp⟩ rfl ⟨ref0 rfl, ref0 rfl, ref0 rfl, trivial⟩ ?_
    rintro i ⟨hi, hall⟩
    by_cases h1 : i < l.length
    · have hm : l.getD i [] ∈ l := by rw [List.getD_eq_getElem?_getD, List.getElem?_eq_getElem h1]; exact List.getElem_mem _
      have hts : ∀ s ∈ l.take (i + 1), s ∈ l.take i ∨ s = l.getD i [] := fun s hs => by
        rw [List.take_add_one, List.getElem?_eq_getElem h1] at hs
        rw [List.getD_eq_getElem?_getD, List.getElem?_eq_getElem h1]
        simp only [Option.toList_some, List.mem_append, List.mem_singleton] at hs
        exact hs
      by_cases h2 : e < ((l.getD i []).length : Int)
      · focus (
 (refine W.seq (W.seq (W.region (Jx.move rfl rfl (Jx.move rfl rfl (Jx.lenSl rfl rfl ?_))))))
 (refine Jx.lssI rfl rfl rfl (J.nil (N.seq (W.cT rfl ?_))))
 (refine W.skip (N.seq (W.seq (W.block (W.seq (W.region (Jx.move rfl rfl (Jx.move rfl rfl (Jx.indexEl rfl rfl (by assumption) rfl rfl ?_)))))))))
 (refine Jx.loadPP rfl rfl ?_)
 (refine Jx.lenS rfl rfl ?_)
 (refine Jx.move rfl rfl (Jx.gtrI rfl rfl rfl (J.nil (N.seq (W.cT rfl ?_)))))
 (refine W.seq (W.region (Jx.assign rfl rfl (J.nil (N.seq (W.ret (N.blockRet (N.seqRet (N.seqRet (N.blockRet (N.seqRet ?_)))))))))))
 (refine id ?_; rotate_left))
        refine N.ret (rs := [.tmp 6]) rfl (.tmp rfl .nil) ⟨?_, rfl⟩
        have : l.all (fun s => decide ((s.length : Int) ≤ e)) = false := by
          rw [List.all_eq_false]; exact ⟨_, hm, by simp only [decide_eq_true_eq]; omega⟩
        simp [oneOr, fewB, this]
      · focus (
 (refine W.seq (W.seq (W.region (Jx.move rfl rfl (Jx.move rfl rfl (Jx.lenSl rfl rfl ?_))))))
 (refine Jx.lssI rfl rfl rfl (J.nil (N.seq (W.cT rfl ?_))))
 (refine W.skip (N.seq (W.seq (W.block (W.seq (W.region (Jx.move rfl rfl (Jx.move rfl rfl (Jx.indexEl rfl rfl (by assumption) rfl rfl ?_)))))))))
 (refine Jx.loadPP rfl rfl ?_)
 (refine Jx.lenS rfl rfl ?_)
 (refine Jx.move rfl rfl (Jx.gtrI rfl rfl rfl (J.nil (N.seq (W.cF rfl ?_)))))
 (refine W.skip (N.seq (W.region (Jx.move rfl rfl (Jx.add64 rfl rfl (by omega) rfl ?_)))))
 (refine Jx.assign rfl rfl (J.nil ?_))
 (refine id ?_; rotate_left))
        exact N.round (i + 1) ⟨h1, fun s hs => by rcases hts s hs with h | rfl; exact hall s h; omega⟩ (by omega) rfl ⟨ref0 rfl, ref0 rfl, ref0 rfl, trivial⟩
    · have hil : i = l.length := by omega
      focus (
 (refine W.seq (W.seq (W.region (Jx.move rfl rfl (Jx.move rfl rfl (Jx.lenSl rfl rfl ?_))))))
 (refine Jx.lssI rfl rfl rfl (J.nil (N.seq (W.cF rfl ?_))))
 (refine W.exit (N.seq (W.seq (W.region (Jx.assign rfl rfl (J.nil (N.seq (W.ret ?_))))))))
 (refine id ?_; rotate_left))
      refine N.ret (rs := [.tmp 6]) rfl (.tmp rfl .nil) ⟨?_, rfl⟩
      rw [hil, List.take_length] at hall
      have : l.all (fun s => decide ((s.length : Int) ≤ e)) = true := List.all_eq_true.2 fun s hs => by simpa using hall s hs
      simp only [oneOr, fewB, this, Bool.and_true]
      rw [decide_eq_true (by omega)]
theorem few_spec {l : List (List UInt8)} {n e : Nat} (h : fewB l n e = true) : l.length ≤ n ∧ ∀ s ∈ l, s.length ≤ e := by
  unfold fewB at h
  simp only [Bool.and_eq_true, decide_eq_true_eq, List.all_eq_true] at h
  exact ⟨by omega, fun s hs => by have := h.2 s hs; omega⟩
end Go.Proofs.YtaflklbmdbmjbaaGreatDoor
namespace Go.Proofs.YtaflklbmdbmjbaaGreatDoor
open Go Go.Sse
set_option linter.unusedVariables false
set_option linter.unusedSimpArgs false
set_option maxRecDepth 10000
abbrev tRd : Nat := 131
structure Rdr where
  s : List UInt8
  at_ : Nat
  code : Int
structure Rdr.ok (r : Rdr) : Prop where
  le : r.at_ ≤ r.s.length
  mx : r.s.length ≤ 1099511627776
abbrev rdO (b : Nat) (r : Rdr) : Own := .obj b tRd [str r.s, int (r.at_ : Int), int r.code]
theorem read_ok (s : List UInt8) : FnC Tryz.prog 46 [str s] [] (fun r L => ∃ b, r = ptr b ∧ L = [rdO b ⟨s, 0, 0⟩]) := by
  refine FnC.intro Tryz.func46 rfl Tryz.ntmps46 rfl fun Z w0 hG => ?_
  focus (
 (refine W.seq (W.region (Jx.assign rfl rfl (J.nil (N.seq (W.seq (W.region (Jx.move rfl rfl (Jx.buildB rfl rfl rfl rfl rfl ?_)))))))))
 (refine J.boxAg rfl rfl ?_; intro b')
 (refine Jx.assign rfl rfl (J.nil (N.seq (W.ret ?_))))
 (refine id ?_; rotate_left))
  exact N.ret (rs := [.tmp 2]) rfl (.tmp rfl .nil) ⟨b', rfl, rfl⟩
theorem left_ok (b : Nat) (r : Rdr) (h : r.ok) : FnC Tryz.prog 77 [ptr b] [rdO b r] (fun s L => s = int ((r.s.length : Int) - r.at_) ∧ L = [rdO b r]) := by
  have h1 := h.le; have h2 := h.mx
  refine FnC.intro Tryz.func77 rfl Tryz.ntmps77 rfl fun Z w0 hG => ?_
  focus (
 (refine W.seq (W.region (Jx.assign rfl rfl (J.nil (N.seq (W.seq ?_))))))
 (refine W.draw follows ?_)
 (refine JD.calm rfl (by decide +kernel) ?_)
 (refine Cx.move rfl rfl ?_)
 (refine Cx.nilCheck rfl rfl ?_)
 (refine Cx.fieldAddr rfl rfl ?_)
 (refine Cx.load rfl 0 rfl rfl rfl ?_)
 (refine Cx.lenS rfl rfl ?_)
 (refine Cx.move rfl rfl ?_)
 (refine Cx.nilCheck rfl rfl ?_)
 (refine Cx.fieldAddr rfl rfl ?_)
 (refine Cx.load rfl 0 rfl rfl rfl ?_)
 (refine Cx.sub64 rfl rfl (by omega) rfl ?_)
 (refine Cx.assign rfl rfl ?_)
 (refine SegC.nil ?_)
 (refine N.seq (W.ret ?_))
 (refine id ?_; rotate_left))
  exact N.ret (rs := [.tmp 2]) rfl (.tmp rfl .nil) ⟨rfl, rfl⟩
def Rdr.refuse (r : Rdr) (from_ : Nat) (e : Int) : Rdr := if r.code = 0 then { r with at_ := from_, code := e } else r
theorem refused_ok (b : Nat) (r : Rdr) (n : Nat) (e : Int) : FnC Tryz.prog 73 [ptr b, int (n : Int), int e] [rdO b r] (fun s L => L = [rdO b (r.refuse n e)]) := by
  refine FnC.intro Tryz.func73 rfl Tryz.ntmps73 rfl fun Z w0 hG => ?_
  by_cases h : r.code = 0
  · focus (
 (refine W.seq (W.region (Jx.move rfl rfl (Jx.nilCheck rfl rfl ?_))))
 (refine Jx.fieldAddr rfl rfl ?_)
 (refine Jx.load rfl 0 rfl rfl rfl ?_)
 (refine Jx.eqlI rfl rfl rfl (J.nil (N.seq (W.cT rfl ?_))))
 (refine W.region (Jx.move rfl rfl (Jx.move rfl rfl (Jx.move rfl rfl (Jx.move rfl rfl (Jx.nilCheck rfl rfl ?_))))))
 (refine Jx.fieldAddr rfl rfl ?_)
 (refine J.store rfl rfl (by first | exact One.val rfl | exact One.sl | exact One.pp | exact One.slc) 0 rfl rfl rfl rfl ?_)
 (refine Jx.nilCheck rfl rfl ?_)
 (refine Jx.fieldAddr rfl rfl ?_)
 (refine J.store rfl rfl (by first | exact One.val rfl | exact One.sl | exact One.pp | exact One.slc) 0 rfl rfl rfl rfl ?_)
 (refine J.nil ?_)
 (refine id ?_; rotate_left))
    refine N.fin (rs := []) rfl .nil ?_
    simp [Rdr.refuse, h]
  · focus (
 (refine W.seq (W.region (Jx.move rfl rfl (Jx.nilCheck rfl rfl ?_))))
 (refine Jx.fieldAddr rfl rfl ?_)
 (refine Jx.load rfl 0 rfl rfl rfl ?_)
 (refine Jx.eqlI rfl rfl rfl (J.nil (N.seq (W.cF rfl ?_))))
 (refine W.skip ?_)
 (refine id ?_; rotate_left))
    refine N.fin (rs := []) rfl .nil ?_
    simp [Rdr.refuse, h]
theorem take_no (b : Nat) (r : Rdr) (n : Nat) (h : r.ok) (hn : r.s.length < r.at_ + n) : FnC Tryz.prog 74 [ptr b, int (n : Int)] [rdO b r] (fun s L => s = .tup [str [], bool false] ∧ L = [rdO b r]) := by
  have h1 := h.le; have h2 := h.mx
  refine FnC.intro Tryz.func74 rfl Tryz.ntmps74 rfl fun Z w0 hG => ?_
  focus (
 (refine W.seq (W.region (Jx.assign rfl rfl (Jx.assign rfl rfl (J.nil (N.seq (W.seq (W.seq ?_))))))))
 (refine W.draw follows ?_)
 (refine JD.calm rfl (by decide +kernel) ?_)
 (refine Cx.move rfl rfl ?_)
 (refine Cx.move rfl rfl ?_)
 (refine Cx.nilCheck rfl rfl ?_)
 (refine Cx.fieldAddr rfl rfl ?_)
 (refine Cx.load rfl 0 rfl rfl rfl ?_)
 (refine Cx.lenS rfl rfl ?_)
 (refine Cx.move rfl rfl ?_)
 (refine Cx.nilCheck rfl rfl ?_)
 (refine Cx.fieldAddr rfl rfl ?_)
 (refine Cx.load rfl 0 rfl rfl rfl ?_)
 (refine Cx.sub64 rfl rfl (by omega) rfl ?_)
 (refine Cx.gtrI rfl rfl rfl ?_)
 (refine SegC.nil ?_)
 (refine N.seq (W.cT rfl ?_))
 (refine W.seq (W.region (Jx.assign rfl rfl (Jx.assign rfl rfl (J.nil (N.seq (W.ret (N.seqRet ?_))))))))
 (refine id ?_; rotate_left))
  exact N.ret (rs := [.tmp 4, .tmp 5]) rfl (.tmp rfl (.tmp rfl .nil)) ⟨rfl, rfl⟩
theorem take_yes (b : Nat) (r : Rdr) (n : Nat) (h : r.ok) (hn : r.at_ + n ≤ r.s.length) : FnC Tryz.prog 74 [ptr b, int (n : Int)] [rdO b r] (fun s L => s = .tup [str ((r.s.drop r.at_).take n), bool true] ∧ L = [rdO b { r with at_ := r.at_ + n }]) := by
  have h1 := h.le; have h2 := h.mx
  have e : (r.s.take (((r.at_ : Int) + (n : Int))).toNat).drop ((r.at_ : Int)).toNat = (r.s.drop r.at_).take n := by
    rw [show ((r.at_ : Int) + (n : Int)).toNat = r.at_ + n by omega, Int.toNat_natCast, List.drop_take]; congr 1; omega
  refine FnC.intro Tryz.func74 rfl Tryz.ntmps74 rfl fun Z w0 hG => ?_
  focus (
 (refine W.seq (W.region (Jx.assign rfl rfl (Jx.assign rfl rfl (J.nil (N.seq (W.seq (W.seq ?_))))))))
 (refine W.draw follows ?_)
 (refine JD.calm rfl (by decide +kernel) ?_)
 (refine Cx.move rfl rfl ?_)
 (refine Cx.move rfl rfl ?_)
 (refine Cx.nilCheck rfl rfl ?_)
 (refine Cx.fieldAddr rfl rfl ?_)
 (refine Cx.load rfl 0 rfl rfl rfl ?_)
 (refine Cx.lenS rfl rfl ?_)
 (refine Cx.move rfl rfl ?_)
 (refine Cx.nilCheck rfl rfl ?_)
 (refine Cx.fieldAddr rfl rfl ?_)
 (refine Cx.load rfl 0 rfl rfl rfl ?_)
 (refine Cx.sub64 rfl rfl (by omega) rfl ?_)
 (refine Cx.gtrI rfl rfl rfl ?_)
 (refine SegC.nil ?_)
 (refine N.seq (W.cF rfl ?_))
 (refine W.skip (N.seq (W.seq ?_)))
 (refine W.draw follows ?_)
 (refine JD.calm rfl (by decide +kernel) ?_)
 (refine Cx.move rfl rfl ?_)
 (refine Cx.nilCheck rfl rfl ?_)
 (refine Cx.fieldAddr rfl rfl ?_)
 (refine Cx.load rfl 0 rfl rfl rfl ?_)
 (refine Cx.move rfl rfl ?_)
 (refine Cx.nilCheck rfl rfl ?_)
 (refine Cx.fieldAddr rfl rfl ?_)
 (refine Cx.load rfl 0 rfl rfl rfl ?_)
 (refine Cx.move rfl rfl ?_)
 (refine Cx.nilCheck rfl rfl ?_)
 (refine Cx.fieldAddr rfl rfl ?_)
 (refine Cx.load rfl 0 rfl rfl rfl ?_)
 (refine Cx.move rfl rfl ?_)
 (refine Cx.add64 rfl rfl (by omega) rfl ?_)
 (refine Cx.sliceSlh rfl rfl rfl (by omega) (by omega) (by omega) rfl ?_)
 (refine Cx.assign rfl rfl ?_)
 (refine SegC.nil ?_)
 (refine N.seq (W.seq (W.region (Jx.move rfl rfl (Jx.nilCheck rfl rfl ?_)))))
 (refine Jx.fieldAddr rfl rfl ?_)
 (refine Jx.load rfl 0 rfl rfl rfl ?_)
 (refine Jx.move rfl rfl (Jx.add64 rfl rfl (by omega) rfl ?_))
 (refine Jx.nilCheck rfl rfl ?_)
 (refine Jx.fieldAddr rfl rfl ?_)
 (refine J.store rfl rfl (by first | exact One.val rfl | exact One.sl | exact One.pp | exact One.slc) 0 rfl rfl rfl rfl ?_)
 (refine J.nil (N.seq (W.seq (W.region (Jx.move rfl rfl (Jx.assign rfl rfl (Jx.assign rfl rfl (J.nil (N.seq (W.ret ?_))))))))))
 (refine id ?_; rotate_left))
  exact N.ret (rs := [.tmp 4, .tmp 5]) rfl (.tmp rfl (.tmp rfl .nil)) ⟨by rw [e]; rfl, rfl⟩
def valB (l : List UInt8) : Nat := l.foldl (fun n b => n * 256 + b.toNat) 0
theorem valB_snoc (l : List UInt8) (b : UInt8) : valB (l ++ [b]) = valB l * 256 + b.toNat := by simp [valB]
theorem valB_lt : ∀ (k : Nat) (l : List UInt8), l.length = k → valB l < 256 ^ k
  | 0, l, h => by rw [List.eq_nil_of_length_eq_zero h]; simp [valB]
  | k + 1, l, h => by
    obtain ⟨m, b, rfl⟩ : ∃ m b, l = m ++ [b] := ⟨l.dropLast, l.getLast (by intro e; subst e; simp at h), (List.dropLast_concat_getLast _).symm⟩
    rw [valB_snoc, Nat.pow_succ]
    have := valB_lt k m (by simpa using h)
    have hb := b.toNat_lt
    omega
theorem valB_cons : ∀ (k : Nat) (b : UInt8) (l : List UInt8), l.length = k → valB (b :: l) = b.toNat * 256 ^ k + valB l
  | 0, b, l, h => by rw [List.eq_nil_of_length_eq_zero h]; simp [valB]
  | k + 1, b, l, h => by
    obtain ⟨m, c, rfl⟩ : ∃ m c, l = m ++ [c] := ⟨l.dropLast, l.getLast (by intro e; subst e; simp at h), (List.dropLast_concat_getLast _).symm⟩
    rw [← List.cons_append, valB_snoc, valB_snoc, valB_cons k b m (by simpa using h), Nat.pow_succ]
    rw [Nat.add_mul, Nat.mul_assoc]; omega
theorem valB_take (l : List UInt8) (i : Nat) (h : i < l.length) : valB (l.take (i + 1)) = valB (l.take i) * 256 + (l.getD i 0).toNat := by
  rw [List.take_add_one, List.getElem?_eq_getElem h, List.getD_eq_getElem?_getD, List.getElem?_eq_getElem h]
  exact valB_snoc _ _
theorem valB_mono (l : List UInt8) : ∀ (j i : Nat), i + j = l.length → valB (l.take i) ≤ valB l
  | 0, i, h => by rw [List.take_of_length_le (by omega)]; exact Nat.le_refl _
  | j + 1, i, h => by
    have := valB_mono l j (i + 1) (by omega)
    rw [valB_take l i (by omega)] at this
    omega
def readN : List UInt8 → Nat × Nat × Int
  | [] => (0, 0, 20)
  | h :: t =>
    if 8 < h.toNat then (0, 0, 3) else if t.length < h.toNat then (0, 0, 20) else
    if (0 < h.toNat ∧ (t.getD 0 0).toNat = 0) ∨ (h.toNat = 8 ∧ 128 ≤ (t.getD 0 0).toNat) then (0, 0, 3) else (valB (t.take h.toNat), 1 + h.toNat, 0)
theorem getD_take0 (t : List UInt8) (n : Nat) (h : 0 < n) : (t.take n).getD 0 0 = t.getD 0 0 := by
  simp [List.getD_eq_getElem?_getD, List.getElem?_take, h]
theorem val_bound (t : List UInt8) (n : Nat) (h8 : n ≤ 8) (hl : n ≤ t.length) (h : ¬ (n = 8 ∧ 128 ≤ (t.getD 0 0).toNat)) : valB (t.take n) < 9223372036854775808 := by
  have hlen : (t.take n).length = n := by rw [List.length_take]; omega
  by_cases h7 : n ≤ 7
  · have := valB_lt n (t.take n) hlen
    have : 256 ^ n ≤ 256 ^ 7 := Nat.pow_le_pow_right (by omega) h7
    omega
  · obtain rfl : n = 8 := by omega
    match ht : t with
    | [] => simp at hl
    | x :: r =>
      simp only [List.take_succ_cons] at hlen ⊢
      rw [valB_cons 7 x (r.take 7) (by simpa using hlen)]
      have h1 := valB_lt 7 (r.take 7) (by simpa using hlen)
      simp only [List.getD_cons_zero, true_and] at h
      omega
end Go.Proofs.YtaflklbmdbmjbaaGreatDoor
namespace Go.Proofs.YtaflklbmdbmjbaaGreatDoor
open Go Go.Sse
set_option linter.unusedVariables false
set_option linter.unusedSimpArgs false
set_option maxRecDepth 10000
def numOut (r : Rdr) (s : SV) (r' : Rdr) : Prop :=
  s = .tup [int ((readN (r.s.drop r.at_)).1 : Int), int (readN (r.s.drop r.at_)).2.2] ∧ r'.s = r.s ∧ r'.code = r.code ∧ ((readN (r.s.drop r.at_)).2.2 = 0 → r'.at_ = r.at_ + (readN (r.s.drop r.at_)).2.1)
set_option maxHeartbeats 2000000 in
theorem number_bad (b : Nat) (r : Rdr) (h : r.ok) (hc : r.code = 0) (hb : (readN (r.s.drop r.at_)).2.2 ≠ 0) : FnC Tryz.prog 99 [ptr b] [rdO b r] (fun s L => ∃ r', numOut r s r' ∧ L = [rdO b r']) := by
  have h1 := h.le; have h2 := h.mx
  obtain ⟨s, a, c⟩ := r
  simp only at h1 h2 hc hb
  subst hc
  unfold numOut
  simp only
  cases hd : s.drop a with
  | nil =>
    have hlen : s.length ≤ a := by
      have := congrArg List.length hd
      rw [List.length_drop] at this; simp at this; omega
    have c0 := take_no b ⟨s, a, 0⟩ 1 h (by simp only; omega)
    refine FnC.intro Tryz.func99 rfl Tryz.ntmps99 rfl fun Z w0 hG => ?_
    focus (
 (refine W.seq (W.region (Jx.assign rfl rfl (Jx.assign rfl rfl (J.nil (N.seq (W.seq (W.seq (W.region (Jx.move rfl rfl (Jx.nilCheck rfl rfl ?_)))))))))))
 (refine Jx.fieldAddr rfl rfl ?_)
 (refine Jx.load rfl 0 rfl rfl rfl ?_)
 (refine Jx.neqI rfl rfl rfl (J.nil (N.seq (W.cF rfl ?_))))
 (refine W.skip (N.seq (W.seq (W.region (Jx.move rfl rfl ?_)))))
 (refine J.call (c0) rfl (evs_args rfl) rfl ?_; rintro _ _ ⟨rfl, rfl⟩; simp only [la1, la2, la3])
 (refine Jx.move rfl rfl (Jx.extract rfl rfl rfl ?_))
 (refine Jx.extract rfl rfl rfl ?_)
 (refine Jx.assign rfl rfl (Jx.assign rfl rfl (J.nil (N.seq (W.seq (W.seq (W.region (Jx.move rfl rfl (Jx.not rfl rfl (J.nil (N.seq (W.cT rfl ?_))))))))))))
 (refine W.seq (W.region (Jx.assign rfl rfl (Jx.assign rfl rfl (J.nil (N.seq (W.ret (N.seqRet ?_))))))))
 (refine id ?_; rotate_left))
    exact N.ret (rs := [.tmp 2, .tmp 3]) rfl (.tmp rfl (.tmp rfl .nil)) ⟨⟨s, a, 0⟩, ⟨rfl, rfl, rfl, by simp [readN]⟩, rfl⟩
  | cons x t =>
    have hlen : s.length = a + 1 + t.length := by
      have := congrArg List.length hd
      rw [List.length_drop] at this; simp at this; omega
    have c0 := take_yes b ⟨s, a, 0⟩ 1 h (by simp only; omega)
    simp only [hd, List.take_succ_cons, List.take_zero] at c0
    rw [hd] at hb
    have hx := x.toNat_lt
    by_cases h8 : 8 < x.toNat
    · refine FnC.intro Tryz.func99 rfl Tryz.ntmps99 rfl fun Z w0 hG => ?_
      focus (
 (refine W.seq (W.region (Jx.assign rfl rfl (Jx.assign rfl rfl (J.nil (N.seq (W.seq (W.seq (W.region (Jx.move rfl rfl (Jx.nilCheck rfl rfl ?_)))))))))))
 (refine Jx.fieldAddr rfl rfl ?_)
 (refine Jx.load rfl 0 rfl rfl rfl ?_)
 (refine Jx.neqI rfl rfl rfl (J.nil (N.seq (W.cF rfl ?_))))
 (refine W.skip (N.seq (W.seq (W.region (Jx.move rfl rfl ?_)))))
 (refine J.call (c0) rfl (evs_args rfl) rfl ?_; rintro _ _ ⟨rfl, rfl⟩; simp only [la1, la2, la3])
 (refine Jx.move rfl rfl (Jx.extract rfl rfl rfl ?_))
 (refine Jx.extract rfl rfl rfl ?_)
 (refine Jx.assign rfl rfl (Jx.assign rfl rfl (J.nil (N.seq (W.seq (W.seq (W.region (Jx.move rfl rfl (Jx.not rfl rfl (J.nil (N.seq (W.cF rfl ?_))))))))))))
 (refine W.skip (N.seq (W.seq (W.seq (W.region (Jx.move rfl rfl (Jx.indexS rfl rfl (by decide) (by first | (simp; done) | omega) rfl ?_)))))))
 (refine Jx.gtrI rfl rfl rfl (J.nil (N.seq (W.cT rfl ?_))))
 (refine W.seq (W.region (Jx.assign rfl rfl (Jx.assign rfl rfl (J.nil (N.seq (W.ret (N.seqRet ?_))))))))
 (refine id ?_; rotate_left))
      exact N.ret (rs := [.tmp 2, .tmp 3]) rfl (.tmp rfl (.tmp rfl .nil)) ⟨⟨s, a + 1, 0⟩, ⟨by simp [readN, h8, oneOr], rfl, rfl, by simp [readN, h8]⟩, rfl⟩
    · have hok2 : Rdr.ok ⟨s, a + 1, 0⟩ := ⟨by simp only; omega, h2⟩
      have hdt : s.drop (a + 1) = t := by rw [← List.drop_drop, hd]; rfl
      by_cases hs : t.length < x.toNat
      · have c1 := take_no b ⟨s, a + 1, 0⟩ x.toNat hok2 (by simp only; omega)
        refine FnC.intro Tryz.func99 rfl Tryz.ntmps99 rfl fun Z w0 hG => ?_
        focus (
 (refine W.seq (W.region (Jx.assign rfl rfl (Jx.assign rfl rfl (J.nil (N.seq (W.seq (W.seq (W.region (Jx.move rfl rfl (Jx.nilCheck rfl rfl ?_)))))))))))
 (refine Jx.fieldAddr rfl rfl ?_)
 (refine Jx.load rfl 0 rfl rfl rfl ?_)
 (refine Jx.neqI rfl rfl rfl (J.nil (N.seq (W.cF rfl ?_))))
 (refine W.skip (N.seq (W.seq (W.region (Jx.move rfl rfl ?_)))))
 (refine J.call (c0) rfl (evs_args rfl) rfl ?_; rintro _ _ ⟨rfl, rfl⟩; simp only [la1, la2, la3])
 (refine Jx.move rfl rfl (Jx.extract rfl rfl rfl ?_))
 (refine Jx.extract rfl rfl rfl ?_)
 (refine Jx.assign rfl rfl (Jx.assign rfl rfl (J.nil (N.seq (W.seq (W.seq (W.region (Jx.move rfl rfl (Jx.not rfl rfl (J.nil (N.seq (W.cF rfl ?_))))))))))))
 (refine W.skip (N.seq (W.seq (W.seq (W.region (Jx.move rfl rfl (Jx.indexS rfl rfl (by decide) (by first | (simp; done) | omega) rfl ?_)))))))
 (refine Jx.gtrI rfl rfl rfl (J.nil (N.seq (W.cF rfl ?_))))
 (refine W.skip (N.seq (W.seq (W.region (Jx.move rfl rfl (Jx.move rfl rfl (Jx.indexS rfl rfl (by decide) (by first | (simp; done) | omega) rfl ?_)))))))
 (refine Jx.byteNum rfl rfl rfl ?_)
 (refine J.call (c1) rfl (evs_args rfl) rfl ?_; rintro _ _ ⟨rfl, rfl⟩; simp only [la1, la2, la3])
 (refine Jx.move rfl rfl (Jx.extract rfl rfl rfl ?_))
 (refine Jx.extract rfl rfl rfl ?_)
 (refine Jx.assign rfl rfl (Jx.assign rfl rfl (J.nil (N.seq (W.seq (W.seq (W.region (Jx.move rfl rfl (Jx.not rfl rfl (J.nil (N.seq (W.cT rfl ?_))))))))))))
 (refine W.seq (W.region (Jx.assign rfl rfl (Jx.assign rfl rfl (J.nil (N.seq (W.ret (N.seqRet ?_))))))))
 (refine id ?_; rotate_left))
        exact N.ret (rs := [.tmp 2, .tmp 3]) rfl (.tmp rfl (.tmp rfl .nil)) ⟨⟨s, a + 1, 0⟩, ⟨by simp [readN, h8, hs, oneOr], rfl, rfl, by simp [readN, h8, hs]⟩, rfl⟩
      · have c1 := take_yes b ⟨s, a + 1, 0⟩ x.toNat hok2 (by simp only; omega)
        simp only [hdt] at c1
        have hl : (t.take x.toNat).length = x.toNat := by rw [List.length_take]; omega
        have hbad : (0 < x.toNat ∧ (t.getD 0 0).toNat = 0) ∨ (x.toNat = 8 ∧ 128 ≤ (t.getD 0 0).toNat) := Classical.byContradiction fun hn => hb (by simp only [readN, if_neg h8, if_neg hs, if_neg hn])
        have hr : readN (x :: t) = (0, 0, 3) := by simp only [readN, if_neg h8, if_neg hs, if_pos hbad]
        rw [hr]
        have h0 : 0 < x.toNat := by omega
        have hg : ((t.take x.toNat).getD (Int.toNat 0) 0).toNat = (t.getD 0 0).toNat := by rw [show Int.toNat 0 = 0 from rfl, getD_take0 t _ h0]
        generalize t.take x.toNat = bs at *
        generalize (t.getD 0 0).toNat = y at *
        by_cases hy : y = 0
        · refine FnC.intro Tryz.func99 rfl Tryz.ntmps99 rfl fun Z w0 hG => ?_
          focus (
 (refine W.seq (W.region (Jx.assign rfl rfl (Jx.assign rfl rfl (J.nil (N.seq (W.seq (W.seq (W.region (Jx.move rfl rfl (Jx.nilCheck rfl rfl ?_)))))))))))
 (refine Jx.fieldAddr rfl rfl ?_)
 (refine Jx.load rfl 0 rfl rfl rfl ?_)
 (refine Jx.neqI rfl rfl rfl (J.nil (N.seq (W.cF rfl ?_))))
 (refine W.skip (N.seq (W.seq (W.region (Jx.move rfl rfl ?_)))))
 (refine J.call (c0) rfl (evs_args rfl) rfl ?_; rintro _ _ ⟨rfl, rfl⟩; simp only [la1, la2, la3])
 (refine Jx.move rfl rfl (Jx.extract rfl rfl rfl ?_))
 (refine Jx.extract rfl rfl rfl ?_)
 (refine Jx.assign rfl rfl (Jx.assign rfl rfl (J.nil (N.seq (W.seq (W.seq (W.region (Jx.move rfl rfl (Jx.not rfl rfl (J.nil (N.seq (W.cF rfl ?_))))))))))))
 (refine W.skip (N.seq (W.seq (W.seq (W.region (Jx.move rfl rfl (Jx.indexS rfl rfl (by decide) (by first | omega | (simp; done)) rfl ?_)))))))
 (refine Jx.gtrI rfl rfl rfl (J.nil (N.seq (W.cF rfl ?_))))
 (refine W.skip (N.seq (W.seq (W.region (Jx.move rfl rfl (Jx.move rfl rfl (Jx.indexS rfl rfl (by decide) (by first | omega | (simp; done)) rfl ?_)))))))
 (refine Jx.byteNum rfl rfl rfl ?_)
 (refine J.call (c1) rfl (evs_args rfl) rfl ?_; rintro _ _ ⟨rfl, rfl⟩; simp only [la1, la2, la3])
 (refine Jx.move rfl rfl (Jx.extract rfl rfl rfl ?_))
 (refine Jx.extract rfl rfl rfl ?_)
 (refine Jx.assign rfl rfl (Jx.assign rfl rfl (J.nil (N.seq (W.seq (W.seq (W.region (Jx.move rfl rfl (Jx.not rfl rfl (J.nil (N.seq (W.cF rfl ?_))))))))))))
 (refine W.skip (N.seq (W.seq (W.seq (W.region (Jx.move rfl rfl (Jx.lenS rfl rfl ?_)))))))
 (refine Jx.gtrI rfl rfl rfl (Jx.move rfl rfl (J.gY rfl rfl rfl ?_)))
 (refine Jx.move rfl rfl (J.gY rfl rfl rfl ?_))
 (refine Jx.indexS rfl rfl (by decide) (by first | omega | (simp; done)) rfl ?_)
 (refine J.gY rfl rfl rfl ?_)
 (refine Jx.eqlI rfl rfl rfl (Jx.pT rfl rfl rfl ?_))
 (refine Jx.move rfl rfl (J.gN rfl rfl rfl rfl ?_))
 (refine J.gN rfl rfl rfl rfl ?_)
 (refine J.gN rfl rfl rfl rfl ?_)
 (refine J.gN rfl rfl rfl rfl ?_)
 (refine J.guardSkip rfl rfl rfl rfl ?_)
 (refine J.guardSkip rfl rfl rfl rfl ?_)
 (refine J.guardSkip rfl rfl rfl rfl ?_)
 (refine J.gN rfl rfl rfl rfl ?_)
 (refine Jx.pT rfl rfl rfl ?_)
 (refine J.nil (N.seq (W.cT rfl ?_)))
 (refine W.seq (W.region (Jx.assign rfl rfl (Jx.assign rfl rfl (J.nil (N.seq (W.ret (N.seqRet ?_))))))))
 (refine id ?_; rotate_left))
          exact N.ret (rs := [.tmp 2, .tmp 3]) rfl (.tmp rfl (.tmp rfl .nil)) ⟨⟨s, a + 1 + x.toNat, 0⟩, ⟨rfl, rfl, rfl, by simp⟩, rfl⟩
        · have hx8 : x.toNat = 8 := by omega
          refine FnC.intro Tryz.func99 rfl Tryz.ntmps99 rfl fun Z w0 hG => ?_
          focus (
 (refine W.seq (W.region (Jx.assign rfl rfl (Jx.assign rfl rfl (J.nil (N.seq (W.seq (W.seq (W.region (Jx.move rfl rfl (Jx.nilCheck rfl rfl ?_)))))))))))
 (refine Jx.fieldAddr rfl rfl ?_)
 (refine Jx.load rfl 0 rfl rfl rfl ?_)
 (refine Jx.neqI rfl rfl rfl (J.nil (N.seq (W.cF rfl ?_))))
 (refine W.skip (N.seq (W.seq (W.region (Jx.move rfl rfl ?_)))))
 (refine J.call (c0) rfl (evs_args rfl) rfl ?_; rintro _ _ ⟨rfl, rfl⟩; simp only [la1, la2, la3])
 (refine Jx.move rfl rfl (Jx.extract rfl rfl rfl ?_))
 (refine Jx.extract rfl rfl rfl ?_)
 (refine Jx.assign rfl rfl (Jx.assign rfl rfl (J.nil (N.seq (W.seq (W.seq (W.region (Jx.move rfl rfl (Jx.not rfl rfl (J.nil (N.seq (W.cF rfl ?_))))))))))))
 (refine W.skip (N.seq (W.seq (W.seq (W.region (Jx.move rfl rfl (Jx.indexS rfl rfl (by decide) (by first | omega | (simp; done)) rfl ?_)))))))
 (refine Jx.gtrI rfl rfl rfl (J.nil (N.seq (W.cF rfl ?_))))
 (refine W.skip (N.seq (W.seq (W.region (Jx.move rfl rfl (Jx.move rfl rfl (Jx.indexS rfl rfl (by decide) (by first | omega | (simp; done)) rfl ?_)))))))
 (refine Jx.byteNum rfl rfl rfl ?_)
 (refine J.call (c1) rfl (evs_args rfl) rfl ?_; rintro _ _ ⟨rfl, rfl⟩; simp only [la1, la2, la3])
 (refine Jx.move rfl rfl (Jx.extract rfl rfl rfl ?_))
 (refine Jx.extract rfl rfl rfl ?_)
 (refine Jx.assign rfl rfl (Jx.assign rfl rfl (J.nil (N.seq (W.seq (W.seq (W.region (Jx.move rfl rfl (Jx.not rfl rfl (J.nil (N.seq (W.cF rfl ?_))))))))))))
 (refine W.skip (N.seq (W.seq (W.seq (W.region (Jx.move rfl rfl (Jx.lenS rfl rfl ?_)))))))
 (refine Jx.gtrI rfl rfl rfl (Jx.move rfl rfl (J.gY rfl rfl rfl ?_)))
 (refine Jx.move rfl rfl (J.gY rfl rfl rfl ?_))
 (refine Jx.indexS rfl rfl (by decide) (by first | omega | (simp; done)) rfl ?_)
 (refine J.gY rfl rfl rfl ?_)
 (refine Jx.eqlI rfl rfl rfl (Jx.pT rfl rfl rfl ?_))
 (refine Jx.move rfl rfl (J.gY rfl rfl rfl ?_))
 (refine Jx.move rfl rfl (J.gY rfl rfl rfl ?_))
 (refine Jx.lenS rfl rfl ?_)
 (refine J.gY rfl rfl rfl ?_)
 (refine Jx.eqlI rfl rfl rfl (J.gY rfl rfl rfl ?_))
 (refine Jx.move rfl rfl (J.gY rfl rfl rfl ?_))
 (refine Jx.move rfl rfl (J.gY rfl rfl rfl ?_))
 (refine Jx.indexS rfl rfl (by decide) (by first | omega | (simp; done)) rfl ?_)
 (refine J.gY rfl rfl rfl ?_)
 (refine Jx.geqI rfl rfl rfl (J.gY rfl rfl rfl ?_))
 (refine Jx.pT rfl rfl rfl ?_)
 (refine Jx.pF rfl rfl rfl ?_)
 (refine J.nil (N.seq (W.cT rfl ?_)))
 (refine W.seq (W.region (Jx.assign rfl rfl (Jx.assign rfl rfl (J.nil (N.seq (W.ret (N.seqRet ?_))))))))
 (refine id ?_; rotate_left))
          exact N.ret (rs := [.tmp 2, .tmp 3]) rfl (.tmp rfl (.tmp rfl .nil)) ⟨⟨s, a + 1 + x.toNat, 0⟩, ⟨rfl, rfl, rfl, by simp⟩, rfl⟩
set_option maxHeartbeats 2000000 in
theorem number_good (b : Nat) (r : Rdr) (h : r.ok) (hc : r.code = 0) (hb : (readN (r.s.drop r.at_)).2.2 = 0) : FnC Tryz.prog 99 [ptr b] [rdO b r] (fun s L => ∃ r', numOut r s r' ∧ L = [rdO b r']) := by
  have h1 := h.le; have h2 := h.mx
  obtain ⟨s, a, c⟩ := r
  simp only at h1 h2 hc hb
  subst hc
  unfold numOut
  simp only
  cases hd : s.drop a with
  | nil => rw [hd] at hb; simp [readN] at hb
  | cons x t =>
    have hlen : s.length = a + 1 + t.length := by
      have := congrArg List.length hd
      rw [List.length_drop] at this; simp at this; omega
    have c0 := take_yes b ⟨s, a, 0⟩ 1 h (by simp only; omega)
    simp only [hd, List.take_succ_cons, List.take_zero] at c0
    rw [hd] at hb
    have hx := x.toNat_lt
    have h8 : ¬ 8 < x.toNat := fun h => by simp [readN, h] at hb
    have hs : ¬ t.length < x.toNat := fun h => by simp [readN, h8, h] at hb
    have hgood : ¬ ((0 < x.toNat ∧ (t.getD 0 0).toNat = 0) ∨ (x.toNat = 8 ∧ 128 ≤ (t.getD 0 0).toNat)) := fun h => by
      simp only [readN, if_neg h8, if_neg hs, if_pos h] at hb; cases hb
    have hok2 : Rdr.ok ⟨s, a + 1, 0⟩ := ⟨by simp only; omega, h2⟩
    have hdt : s.drop (a + 1) = t := by rw [← List.drop_drop, hd]; rfl
    have c1 := take_yes b ⟨s, a + 1, 0⟩ x.toNat hok2 (by simp only; omega)
    simp only [hdt] at c1
    have hl : (t.take x.toNat).length = x.toNat := by rw [List.length_take]; omega
    have hr : readN (x :: t) = (valB (t.take x.toNat), 1 + x.toNat, 0) := by simp only [readN, if_neg h8, if_neg hs, if_neg hgood]
    rw [hr]
    have hvb := val_bound t x.toNat (by omega) (by omega) (fun h => hgood (.inr h))
    have hg : 0 < x.toNat → ((t.take x.toNat).getD (Int.toNat 0) 0).toNat = (t.getD 0 0).toNat := fun h0 => by rw [show Int.toNat 0 = 0 from rfl, getD_take0 t _ h0]
    generalize t.take x.toNat = bs at *
    by_cases h0 : x.toNat = 0
    · have hbs : bs = [] := List.eq_nil_of_length_eq_zero (by omega)
      subst hbs
      refine FnC.intro Tryz.func99 rfl Tryz.ntmps99 rfl fun Z w0 hG => ?_
      focus (
 (refine W.seq (W.region (Jx.assign rfl rfl (Jx.assign rfl rfl (J.nil (N.seq (W.seq (W.seq (W.region (Jx.move rfl rfl (Jx.nilCheck rfl rfl ?_)))))))))))
 (refine Jx.fieldAddr rfl rfl ?_)
 (refine Jx.load rfl 0 rfl rfl rfl ?_)
 (refine Jx.neqI rfl rfl rfl (J.nil (N.seq (W.cF rfl ?_))))
 (refine W.skip (N.seq (W.seq (W.region (Jx.move rfl rfl ?_)))))
 (refine J.call (c0) rfl (evs_args rfl) rfl ?_; rintro _ _ ⟨rfl, rfl⟩; simp only [la1, la2, la3])
 (refine Jx.move rfl rfl (Jx.extract rfl rfl rfl ?_))
 (refine Jx.extract rfl rfl rfl ?_)
 (refine Jx.assign rfl rfl (Jx.assign rfl rfl (J.nil (N.seq (W.seq (W.seq (W.region (Jx.move rfl rfl (Jx.not rfl rfl (J.nil (N.seq (W.cF rfl ?_))))))))))))
 (refine W.skip (N.seq (W.seq (W.seq (W.region (Jx.move rfl rfl (Jx.indexS rfl rfl (by decide) (by first | omega | (simp; done)) rfl ?_)))))))
 (refine Jx.gtrI rfl rfl rfl (J.nil (N.seq (W.cF rfl ?_))))
 (refine W.skip (N.seq (W.seq (W.region (Jx.move rfl rfl (Jx.move rfl rfl (Jx.indexS rfl rfl (by decide) (by first | omega | (simp; done)) rfl ?_)))))))
 (refine Jx.byteNum rfl rfl rfl ?_)
 (refine J.call (c1) rfl (evs_args rfl) rfl ?_; rintro _ _ ⟨rfl, rfl⟩; simp only [la1, la2, la3])
 (refine Jx.move rfl rfl (Jx.extract rfl rfl rfl ?_))
 (refine Jx.extract rfl rfl rfl ?_)
 (refine Jx.assign rfl rfl (Jx.assign rfl rfl (J.nil (N.seq (W.seq (W.seq (W.region (Jx.move rfl rfl (Jx.not rfl rfl (J.nil (N.seq (W.cF rfl ?_))))))))))))
 (refine W.skip (N.seq (W.seq (W.seq (W.region (Jx.move rfl rfl (Jx.lenS rfl rfl ?_)))))))
 (refine Jx.gtrI rfl rfl rfl (Jx.move rfl rfl ?_))
 (refine J.guardNo rfl rfl rfl (by first | rfl | assumption | (exact decide_eq_true (by first | assumption | omega | rfl)) | (exact decide_eq_false (by first | assumption | omega | rfl)) | (simp; done) | (simp; omega)) rfl ?_)
 (refine J.guardNo rfl rfl rfl (by first | rfl | assumption | (exact decide_eq_true (by first | assumption | omega | rfl)) | (exact decide_eq_false (by first | assumption | omega | rfl)) | (simp; done) | (simp; omega)) rfl ?_)
 (refine J.guardNo rfl rfl rfl (by first | rfl | assumption | (exact decide_eq_true (by first | assumption | omega | rfl)) | (exact decide_eq_false (by first | assumption | omega | rfl)) | (simp; done) | (simp; omega)) rfl ?_)
 (refine Jx.pF rfl rfl rfl ?_)
 (refine Jx.move rfl rfl (J.gY rfl rfl rfl ?_))
 (refine Jx.move rfl rfl (J.gY rfl rfl rfl ?_))
 (refine Jx.lenS rfl rfl ?_)
 (refine J.gY rfl rfl rfl ?_)
 (refine Jx.eqlI rfl rfl rfl (J.gY rfl rfl rfl ?_))
 (refine Jx.move rfl rfl ?_)
 (refine J.guardNo rfl rfl rfl (by first | rfl | assumption | (exact decide_eq_true (by first | assumption | omega | rfl)) | (exact decide_eq_false (by first | assumption | omega | rfl)) | (simp; done) | (simp; omega)) rfl ?_)
 (refine J.guardNo rfl rfl rfl (by first | rfl | assumption | (exact decide_eq_true (by first | assumption | omega | rfl)) | (exact decide_eq_false (by first | assumption | omega | rfl)) | (simp; done) | (simp; omega)) rfl ?_)
 (refine J.guardNo rfl rfl rfl (by first | rfl | assumption | (exact decide_eq_true (by first | assumption | omega | rfl)) | (exact decide_eq_false (by first | assumption | omega | rfl)) | (simp; done) | (simp; omega)) rfl ?_)
 (refine J.gY rfl rfl rfl ?_)
 (refine Jx.pF rfl rfl rfl ?_)
 (refine Jx.pF rfl rfl rfl ?_)
 (refine J.nil (N.seq (W.cF rfl ?_)))
 (refine W.skip (N.seq (W.seq (W.region (Jx.assign rfl rfl (J.nil (N.seq (W.seq (W.seq (W.region (Jx.move rfl rfl (Jx.lenS rfl rfl ?_))))))))))))
 (refine Jx.move rfl rfl (J.nil (N.seq (W.block ?_))))
 (refine id ?_; rotate_left))
      refine W.loop (α := Unit) (fun _ => [(58, int 0), (57, int 0), (7, int 0)]) (fun _ => [rdO b ⟨s, a + 1 + x.toNat, 0⟩]) (fun _ => True) (fun _ => 0) () trivial rfl ⟨ref0 rfl, ref0 rfl, ref0 rfl, trivial⟩ ?_
      intro _ _
      focus (
 (refine W.seq (W.region (Jx.lssI rfl rfl rfl (J.nil (N.seq (W.seq (W.cF rfl ?_)))))))
 (refine W.exit (N.seq (W.seq (W.region (Jx.move rfl rfl (Jx.assign rfl rfl (Jx.assign rfl rfl (J.nil (N.seq (W.ret ?_))))))))))
 (refine id ?_; rotate_left))
      exact N.ret (rs := [.tmp 2, .tmp 3]) rfl (.tmp rfl (.tmp rfl .nil)) ⟨⟨s, a + 1 + x.toNat, 0⟩, ⟨rfl, rfl, rfl, fun _ => by simp only; omega⟩, rfl⟩
    · have hg' := hg (by omega)
      generalize (t.getD 0 0).toNat = y at *
      by_cases hx8 : x.toNat = 8
      · refine FnC.intro Tryz.func99 rfl Tryz.ntmps99 rfl fun Z w0 hG => ?_
        focus (
 (refine W.seq (W.region (Jx.assign rfl rfl (Jx.assign rfl rfl (J.nil (N.seq (W.seq (W.seq (W.region (Jx.move rfl rfl (Jx.nilCheck rfl rfl ?_)))))))))))
 (refine Jx.fieldAddr rfl rfl ?_)
 (refine Jx.load rfl 0 rfl rfl rfl ?_)
 (refine Jx.neqI rfl rfl rfl (J.nil (N.seq (W.cF rfl ?_))))
 (refine W.skip (N.seq (W.seq (W.region (Jx.move rfl rfl ?_)))))
 (refine J.call (c0) rfl (evs_args rfl) rfl ?_; rintro _ _ ⟨rfl, rfl⟩; simp only [la1, la2, la3])
 (refine Jx.move rfl rfl (Jx.extract rfl rfl rfl ?_))
 (refine Jx.extract rfl rfl rfl ?_)
 (refine Jx.assign rfl rfl (Jx.assign rfl rfl (J.nil (N.seq (W.seq (W.seq (W.region (Jx.move rfl rfl (Jx.not rfl rfl (J.nil (N.seq (W.cF rfl ?_))))))))))))
 (refine W.skip (N.seq (W.seq (W.seq (W.region (Jx.move rfl rfl (Jx.indexS rfl rfl (by decide) (by first | omega | (simp; done)) rfl ?_)))))))
 (refine Jx.gtrI rfl rfl rfl (J.nil (N.seq (W.cF rfl ?_))))
 (refine W.skip (N.seq (W.seq (W.region (Jx.move rfl rfl (Jx.move rfl rfl (Jx.indexS rfl rfl (by decide) (by first | omega | (simp; done)) rfl ?_)))))))
 (refine Jx.byteNum rfl rfl rfl ?_)
 (refine J.call (c1) rfl (evs_args rfl) rfl ?_; rintro _ _ ⟨rfl, rfl⟩; simp only [la1, la2, la3])
 (refine Jx.move rfl rfl (Jx.extract rfl rfl rfl ?_))
 (refine Jx.extract rfl rfl rfl ?_)
 (refine Jx.assign rfl rfl (Jx.assign rfl rfl (J.nil (N.seq (W.seq (W.seq (W.region (Jx.move rfl rfl (Jx.not rfl rfl (J.nil (N.seq (W.cF rfl ?_))))))))))))
 (refine W.skip (N.seq (W.seq (W.seq (W.region (Jx.move rfl rfl (Jx.lenS rfl rfl ?_)))))))
 (refine Jx.gtrI rfl rfl rfl (Jx.move rfl rfl (J.gY rfl rfl rfl ?_)))
 (refine Jx.move rfl rfl (J.gY rfl rfl rfl ?_))
 (refine Jx.indexS rfl rfl (by decide) (by first | omega | (simp; done)) rfl ?_)
 (refine J.gY rfl rfl rfl ?_)
 (refine Jx.eqlI rfl rfl rfl (Jx.pT rfl rfl rfl ?_))
 (refine Jx.move rfl rfl (J.gY rfl rfl rfl ?_))
 (refine Jx.move rfl rfl (J.gY rfl rfl rfl ?_))
 (refine Jx.lenS rfl rfl ?_)
 (refine J.gY rfl rfl rfl ?_)
 (refine Jx.eqlI rfl rfl rfl (J.gY rfl rfl rfl ?_))
 (refine Jx.move rfl rfl (J.gY rfl rfl rfl ?_))
 (refine Jx.move rfl rfl (J.gY rfl rfl rfl ?_))
 (refine Jx.indexS rfl rfl (by decide) (by first | omega | (simp; done)) rfl ?_)
 (refine J.gY rfl rfl rfl ?_)
 (refine Jx.geqI rfl rfl rfl (J.gY rfl rfl rfl ?_))
 (refine Jx.pT rfl rfl rfl ?_)
 (refine Jx.pF rfl rfl rfl ?_)
 (refine J.nil (N.seq (W.cF rfl ?_)))
 (refine W.skip (N.seq (W.seq (W.region (Jx.assign rfl rfl (J.nil (N.seq (W.seq (W.seq (W.region (Jx.move rfl rfl (Jx.lenS rfl rfl ?_))))))))))))
 (refine Jx.move rfl rfl (J.nil (N.seq (W.block ?_))))
 (refine id ?_; rotate_left))
        refine W.loop (α := Nat) (fun i => [(58, int i), (57, int bs.length), (7, int (valB (bs.take i) : Int)), (6, str bs)]) (fun _ => [rdO b ⟨s, a + 1 + x.toNat, 0⟩]) (fun i => i ≤ bs.length) (fun i => bs.length - i) 0 (by omega) rfl ⟨ref0 rfl, ref0 rfl, ref0 rfl, ref0 rfl, trivial⟩ ?_
        intro i hi
        by_cases hi1 : i < bs.length
        · have hst := valB_take bs i hi1
          have hmo := valB_mono bs (bs.length - (i + 1)) (i + 1) (by omega)
          have hbb := (bs.getD i 0).toNat_lt
          focus (
 (refine W.seq (W.region (Jx.lssI rfl rfl rfl (J.nil (N.seq (W.seq (W.cT rfl ?_)))))))
 (refine W.skip (N.seq (W.seq (W.block (W.seq (W.region (Jx.move rfl rfl (Jx.assign rfl rfl (J.nil (N.seq (W.region (Jx.move rfl rfl (Jx.shl8 rfl rfl (by omega) rfl ?_)))))))))))))
 (refine Jx.move rfl rfl (Jx.move rfl rfl (Jx.indexS rfl rfl (by omega) (by omega) rfl ?_)))
 (refine Jx.byteNum rfl rfl rfl ?_)
 (refine Jx.orByte (b := (bs.getD i 0).toNat) rfl rfl hbb (by omega) rfl ?_)
 (refine Jx.assign rfl rfl (J.nil (N.seq (W.region (Jx.add64 rfl rfl (by omega) rfl ?_)))))
 (refine Jx.move rfl rfl (J.nil ?_))
 (refine id ?_; rotate_left))
          exact N.round (i + 1) hi1 (by omega) rfl ⟨ref0 rfl, ref0 rfl, ⟨_, rfl, Sub.of_eq (by rw [hst])⟩, ref0 rfl, trivial⟩
        · have hie : bs.take i = bs := List.take_of_length_le (by omega)
          focus (
 (refine W.seq (W.region (Jx.lssI rfl rfl rfl (J.nil (N.seq (W.seq (W.cF rfl ?_)))))))
 (refine W.exit (N.seq (W.seq (W.region (Jx.move rfl rfl (Jx.assign rfl rfl (Jx.assign rfl rfl (J.nil (N.seq (W.ret ?_))))))))))
 (refine id ?_; rotate_left))
          exact N.ret (rs := [.tmp 2, .tmp 3]) rfl (.tmp rfl (.tmp rfl .nil)) ⟨⟨s, a + 1 + x.toNat, 0⟩, ⟨by rw [hie]; rfl, rfl, rfl, fun _ => by simp only; omega⟩, rfl⟩
      · refine FnC.intro Tryz.func99 rfl Tryz.ntmps99 rfl fun Z w0 hG => ?_
        focus (
 (refine W.seq (W.region (Jx.assign rfl rfl (Jx.assign rfl rfl (J.nil (N.seq (W.seq (W.seq (W.region (Jx.move rfl rfl (Jx.nilCheck rfl rfl ?_)))))))))))
 (refine Jx.fieldAddr rfl rfl ?_)
 (refine Jx.load rfl 0 rfl rfl rfl ?_)
 (refine Jx.neqI rfl rfl rfl (J.nil (N.seq (W.cF rfl ?_))))
 (refine W.skip (N.seq (W.seq (W.region (Jx.move rfl rfl ?_)))))
 (refine J.call (c0) rfl (evs_args rfl) rfl ?_; rintro _ _ ⟨rfl, rfl⟩; simp only [la1, la2, la3])
 (refine Jx.move rfl rfl (Jx.extract rfl rfl rfl ?_))
 (refine Jx.extract rfl rfl rfl ?_)
 (refine Jx.assign rfl rfl (Jx.assign rfl rfl (J.nil (N.seq (W.seq (W.seq (W.region (Jx.move rfl rfl (Jx.not rfl rfl (J.nil (N.seq (W.cF rfl ?_))))))))))))
 (refine W.skip (N.seq (W.seq (W.seq (W.region (Jx.move rfl rfl (Jx.indexS rfl rfl (by decide) (by first | omega | (simp; done)) rfl ?_)))))))
 (refine Jx.gtrI rfl rfl rfl (J.nil (N.seq (W.cF rfl ?_))))
 (refine W.skip (N.seq (W.seq (W.region (Jx.move rfl rfl (Jx.move rfl rfl (Jx.indexS rfl rfl (by decide) (by first | omega | (simp; done)) rfl ?_)))))))
 (refine Jx.byteNum rfl rfl rfl ?_)
 (refine J.call (c1) rfl (evs_args rfl) rfl ?_; rintro _ _ ⟨rfl, rfl⟩; simp only [la1, la2, la3])
 (refine Jx.move rfl rfl (Jx.extract rfl rfl rfl ?_))
 (refine Jx.extract rfl rfl rfl ?_)
 (refine Jx.assign rfl rfl (Jx.assign rfl rfl (J.nil (N.seq (W.seq (W.seq (W.region (Jx.move rfl rfl (Jx.not rfl rfl (J.nil (N.seq (W.cF rfl ?_))))))))))))
 (refine W.skip (N.seq (W.seq (W.seq (W.region (Jx.move rfl rfl (Jx.lenS rfl rfl ?_)))))))
 (refine Jx.gtrI rfl rfl rfl (Jx.move rfl rfl (J.gY rfl rfl rfl ?_)))
 (refine Jx.move rfl rfl (J.gY rfl rfl rfl ?_))
 (refine Jx.indexS rfl rfl (by decide) (by first | omega | (simp; done)) rfl ?_)
 (refine J.gY rfl rfl rfl ?_)
 (refine Jx.eqlI rfl rfl rfl (Jx.pT rfl rfl rfl ?_))
 (refine Jx.move rfl rfl (J.gY rfl rfl rfl ?_))
 (refine Jx.move rfl rfl (J.gY rfl rfl rfl ?_))
 (refine Jx.lenS rfl rfl ?_)
 (refine J.gY rfl rfl rfl ?_)
 (refine Jx.eqlI rfl rfl rfl (J.gY rfl rfl rfl ?_))
 (refine Jx.move rfl rfl ?_)
 (refine J.guardNo rfl rfl rfl (by first | rfl | assumption | (exact decide_eq_true (by first | assumption | omega | rfl)) | (exact decide_eq_false (by first | assumption | omega | rfl)) | (simp; done) | (simp; omega)) rfl ?_)
 (refine J.guardNo rfl rfl rfl (by first | rfl | assumption | (exact decide_eq_true (by first | assumption | omega | rfl)) | (exact decide_eq_false (by first | assumption | omega | rfl)) | (simp; done) | (simp; omega)) rfl ?_)
 (refine J.guardNo rfl rfl rfl (by first | rfl | assumption | (exact decide_eq_true (by first | assumption | omega | rfl)) | (exact decide_eq_false (by first | assumption | omega | rfl)) | (simp; done) | (simp; omega)) rfl ?_)
 (refine J.gY rfl rfl rfl ?_)
 (refine Jx.pF rfl rfl rfl ?_)
 (refine Jx.pF rfl rfl rfl ?_)
 (refine J.nil (N.seq (W.cF rfl ?_)))
 (refine W.skip (N.seq (W.seq (W.region (Jx.assign rfl rfl (J.nil (N.seq (W.seq (W.seq (W.region (Jx.move rfl rfl (Jx.lenS rfl rfl ?_))))))))))))
 (refine Jx.move rfl rfl (J.nil (N.seq (W.block ?_))))
 (refine id ?_; rotate_left))
        refine W.loop (α := Nat) (fun i => [(58, int i), (57, int bs.length), (7, int (valB (bs.take i) : Int)), (6, str bs)]) (fun _ => [rdO b ⟨s, a + 1 + x.toNat, 0⟩]) (fun i => i ≤ bs.length) (fun i => bs.length - i) 0 (by omega) rfl ⟨ref0 rfl, ref0 rfl, ref0 rfl, ref0 rfl, trivial⟩ ?_
        intro i hi
        by_cases hi1 : i < bs.length
        · have hst := valB_take bs i hi1
          have hmo := valB_mono bs (bs.length - (i + 1)) (i + 1) (by omega)
          have hbb := (bs.getD i 0).toNat_lt
          focus (
 (refine W.seq (W.region (Jx.lssI rfl rfl rfl (J.nil (N.seq (W.seq (W.cT rfl ?_)))))))
 (refine W.skip (N.seq (W.seq (W.block (W.seq (W.region (Jx.move rfl rfl (Jx.assign rfl rfl (J.nil (N.seq (W.region (Jx.move rfl rfl (Jx.shl8 rfl rfl (by omega) rfl ?_)))))))))))))
 (refine Jx.move rfl rfl (Jx.move rfl rfl (Jx.indexS rfl rfl (by omega) (by omega) rfl ?_)))
 (refine Jx.byteNum rfl rfl rfl ?_)
 (refine Jx.orByte (b := (bs.getD i 0).toNat) rfl rfl hbb (by omega) rfl ?_)
 (refine Jx.assign rfl rfl (J.nil (N.seq (W.region (Jx.add64 rfl rfl (by omega) rfl ?_)))))
 (refine Jx.move rfl rfl (J.nil ?_))
 (refine id ?_; rotate_left))
          exact N.round (i + 1) hi1 (by omega) rfl ⟨ref0 rfl, ref0 rfl, ⟨_, rfl, Sub.of_eq (by rw [hst])⟩, ref0 rfl, trivial⟩
        · have hie : bs.take i = bs := List.take_of_length_le (by omega)
          focus (
 (refine W.seq (W.region (Jx.lssI rfl rfl rfl (J.nil (N.seq (W.seq (W.cF rfl ?_)))))))
 (refine W.exit (N.seq (W.seq (W.region (Jx.move rfl rfl (Jx.assign rfl rfl (Jx.assign rfl rfl (J.nil (N.seq (W.ret ?_))))))))))
 (refine id ?_; rotate_left))
          exact N.ret (rs := [.tmp 2, .tmp 3]) rfl (.tmp rfl (.tmp rfl .nil)) ⟨⟨s, a + 1 + x.toNat, 0⟩, ⟨by rw [hie]; rfl, rfl, rfl, fun _ => by simp only; omega⟩, rfl⟩
end Go.Proofs.YtaflklbmdbmjbaaGreatDoor
namespace Go.Proofs.YtaflklbmdbmjbaaGreatDoor
open Go Go.Sse
set_option linter.unusedVariables false
set_option linter.unusedSimpArgs false
set_option maxRecDepth 10000
theorem number_code (b : Nat) (r : Rdr) (hc : r.code ≠ 0) : FnC Tryz.prog 99 [ptr b] [rdO b r] (fun s L => s = .tup [int 0, int r.code] ∧ L = [rdO b r]) := by
  refine FnC.intro Tryz.func99 rfl Tryz.ntmps99 rfl fun Z w0 hG => ?_
  focus (
 (refine W.seq (W.region (Jx.assign rfl rfl (Jx.assign rfl rfl (J.nil (N.seq (W.seq (W.seq (W.region (Jx.move rfl rfl (Jx.nilCheck rfl rfl ?_)))))))))))
 (refine Jx.fieldAddr rfl rfl ?_)
 (refine Jx.load rfl 0 rfl rfl rfl ?_)
 (refine Jx.neqI rfl rfl rfl (J.nil (N.seq (W.cT rfl ?_))))
 (refine W.seq ?_)
 (refine W.draw follows ?_)
 (refine JD.calm rfl (by decide +kernel) ?_)
 (refine Cx.move rfl rfl ?_)
 (refine Cx.nilCheck rfl rfl ?_)
 (refine Cx.fieldAddr rfl rfl ?_)
 (refine Cx.load rfl 0 rfl rfl rfl ?_)
 (refine Cx.assign rfl rfl ?_)
 (refine Cx.assign rfl rfl ?_)
 (refine SegC.nil ?_)
 (refine N.seq (W.ret (N.seqRet ?_)))
 (refine id ?_; rotate_left))
  exact N.ret (rs := [.tmp 2, .tmp 3]) rfl (.tmp rfl (.tmp rfl .nil)) ⟨rfl, rfl⟩
end Go.Proofs.YtaflklbmdbmjbaaGreatDoor
namespace Go.Proofs.YtaflklbmdbmjbaaGreatDoor
open Go Go.Sse
set_option linter.unusedVariables false
set_option linter.unusedSimpArgs false
set_option maxRecDepth 10000
theorem valB_pos : ∀ (k : Nat) (l : List UInt8), l.length = k → 0 < (l.getD 0 0).toNat → 0 < valB l
  | k, [], _, h => by simp at h
  | k, b :: l, _, h => by
    rw [valB_cons l.length b l rfl]
    simp only [List.getD_cons_zero] at h
    have : 0 < b.toNat * 256 ^ l.length := Nat.mul_pos h (Nat.pow_pos (by omega))
    omega
theorem be_valB : ∀ (k : Nat) (l : List UInt8), l.length = k → (0 < k → 0 < (l.getD 0 0).toNat) → be (valB l) = l
  | 0, l, h, _ => by rw [List.eq_nil_of_length_eq_zero h]; simp only [valB, List.foldl_nil]; exact be_zero
  | k + 1, l, h, hp => by
    obtain ⟨m, c, rfl⟩ : ∃ m c, l = m ++ [c] := ⟨l.dropLast, l.getLast (by intro e; subst e; simp at h), (List.dropLast_concat_getLast _).symm⟩
    have hml : m.length = k := by simpa using h
    have hpos := valB_pos (k + 1) (m ++ [c]) h (hp (by omega))
    have hc := c.toNat_lt
    have ih := be_valB k m hml (fun hk => by
      have := hp (by omega)
      rw [List.getD_eq_getElem?_getD, List.getElem?_append_left (by omega)] at this
      rw [List.getD_eq_getElem?_getD]; exact this)
    rw [be_pos hpos, valB_snoc]
    have e1 : (valB m * 256 + c.toNat) / 256 = valB m := by omega
    have e2 : (valB m * 256 + c.toNat) % 256 = c.toNat := by omega
    rw [e1, e2, ih]
    congr 2
    apply UInt8.toNat_inj.1
    simp
theorem readN_good {s : List UInt8} (h : (readN s).2.2 = 0) : s.take (readN s).2.1 = numB (readN s).1 ∧ (readN s).2.1 ≤ s.length ∧ (readN s).1 < 9223372036854775808 := by
  cases s with
  | nil => simp [readN] at h
  | cons x t =>
    have h8 : ¬ 8 < x.toNat := fun h' => by simp [readN, h'] at h
    have hs : ¬ t.length < x.toNat := fun h' => by simp [readN, h8, h'] at h
    have hgood : ¬ ((0 < x.toNat ∧ (t.getD 0 0).toNat = 0) ∨ (x.toNat = 8 ∧ 128 ≤ (t.getD 0 0).toNat)) := fun h' => by
      simp only [readN, if_neg h8, if_neg hs, if_pos h'] at h; cases h
    have hr : readN (x :: t) = (valB (t.take x.toNat), 1 + x.toNat, 0) := by simp only [readN, if_neg h8, if_neg hs, if_neg hgood]
    rw [hr]
    have hl : (t.take x.toNat).length = x.toNat := by rw [List.length_take]; omega
    have hbe := be_valB x.toNat (t.take x.toNat) hl (fun h0 => by rw [getD_take0 t _ h0]; omega)
    refine ⟨?_, by simp only [List.length_cons]; omega, val_bound t x.toNat (by omega) (by omega) (fun h' => hgood (.inr h'))⟩
    simp only [numB, hbe, hl]
    rw [Nat.add_comm 1, List.take_succ_cons]
    congr 1
    apply UInt8.toNat_inj.1
    simp
end Go.Proofs.YtaflklbmdbmjbaaGreatDoor
namespace Go.Proofs.YtaflklbmdbmjbaaGreatDoor
open Go Go.Sse
set_option linter.unusedVariables false
set_option linter.unusedSimpArgs false
set_option maxRecDepth 10000
theorem bytes_back (b : Nat) (s : List UInt8) (a n : Nat) (h : Rdr.ok ⟨s, a, 0⟩) (hn : a + n ≤ s.length) :
    FnC Tryz.prog 47 [ptr b, int n] [rdO b ⟨s, a, 0⟩] (fun v L => v = str ((s.drop a).take n) ∧ L = [rdO b ⟨s, a + n, 0⟩]) := by
  have c := take_yes b ⟨s, a, 0⟩ n h hn
  simp only at c
  generalize (s.drop a).take n = t at *
  refine FnC.intro Tryz.func47 rfl Tryz.ntmps47 rfl fun Z w0 hG => ?_
  focus (
 (refine W.seq (W.region (Jx.assign rfl rfl (J.nil (N.seq (W.seq (W.seq (W.region (Jx.move rfl rfl (Jx.nilCheck rfl rfl ?_))))))))))
 (refine Jx.fieldAddr rfl rfl ?_)
 (refine Jx.load rfl 0 rfl rfl rfl ?_)
 (refine Jx.neqI rfl rfl rfl (J.nil (N.seq (W.cF rfl ?_))))
 (refine W.skip (N.seq (W.seq (W.seq (W.region (Jx.move rfl rfl (Jx.lssI rfl rfl rfl (J.nil (N.seq (W.cF rfl ?_))))))))))
 (refine W.skip (N.seq (W.seq (W.region (Jx.move rfl rfl (Jx.move rfl rfl ?_))))))
 (refine J.call (c) rfl (evs_args rfl) rfl ?_; rintro _ _ ⟨rfl, rfl⟩; simp only [la1, la2, la3])
 (refine Jx.move rfl rfl (Jx.extract rfl rfl rfl ?_))
 (refine Jx.extract rfl rfl rfl ?_)
 (refine Jx.assign rfl rfl (Jx.assign rfl rfl (J.nil (N.seq (W.seq (W.seq (W.region (Jx.move rfl rfl (Jx.not rfl rfl (J.nil (N.seq (W.cF rfl ?_))))))))))))
 (refine W.skip (N.seq (W.seq (W.region (Jx.move rfl rfl (Jx.assign rfl rfl (J.nil (N.seq (W.ret ?_)))))))))
 (refine id ?_; rotate_left))
  exact N.ret (rs := [.tmp 4]) rfl (.tmp rfl .nil) ⟨rfl, rfl⟩
end Go.Proofs.YtaflklbmdbmjbaaGreatDoor
namespace Go.Proofs.YtaflklbmdbmjbaaGreatDoor
open Go Go.Sse
set_option linter.unusedVariables false
set_option linter.unusedSimpArgs false
set_option maxRecDepth 10000
end Go.Proofs.YtaflklbmdbmjbaaGreatDoor
namespace Go.Proofs.YtaflklbmdbmjbaaGreatDoor
open Go Go.Sse
set_option linter.unusedVariables false
set_option linter.unusedSimpArgs false
set_option maxRecDepth 10000
abbrev PSt := Option (List UInt8)
def numP : PSt → Nat × PSt
  | none => (0, none)
  | some l => if (readN l).2.2 = 0 then ((readN l).1, some (l.drop (readN l).2.1)) else (0, none)
def bytesP (n : Nat) : PSt → List UInt8 × PSt
  | none => ([], none)
  | some l => if n ≤ l.length then (l.take n, some (l.drop n)) else ([], none)
def textP (m : Int) (st : PSt) : List UInt8 × PSt :=
  match numP st with
  | (n, some r) => if (n : Int) ≤ m then bytesP n (some r) else ([], none)
  | (_, none) => ([], none)
theorem numP_good {st : PSt} {n : Nat} {r : List UInt8} (h : numP st = (n, some r)) : st = some (numB n ++ r) ∧ n < 9223372036854775808 := by
  cases st with
  | none => simp [numP] at h
  | some l =>
    simp only [numP] at h
    by_cases he : (readN l).2.2 = 0
    · rw [if_pos he] at h
      obtain ⟨g1, g2, g3⟩ := readN_good he
      simp only [Prod.mk.injEq, Option.some.injEq] at h
      obtain ⟨rfl, rfl⟩ := h
      exact ⟨by rw [← g1, List.take_append_drop], g3⟩
    · rw [if_neg he] at h; simp at h
theorem bytesP_good {st : PSt} {n : Nat} {t r : List UInt8} (h : bytesP n st = (t, some r)) : st = some (t ++ r) ∧ t.length = n := by
  cases st with
  | none => simp [bytesP] at h
  | some l =>
    simp only [bytesP] at h
    by_cases he : n ≤ l.length
    · rw [if_pos he] at h
      simp only [Prod.mk.injEq, Option.some.injEq] at h
      obtain ⟨rfl, rfl⟩ := h
      exact ⟨by rw [List.take_append_drop], by rw [List.length_take]; omega⟩
    · rw [if_neg he] at h; simp at h
theorem textP_good {m : Int} {st : PSt} {t r : List UInt8} (h : textP m st = (t, some r)) : st = some (textB t ++ r) ∧ (t.length : Int) ≤ m ∧ t.length < 9223372036854775808 := by
  unfold textP at h
  split at h
  · rename_i n q hq
    obtain ⟨g1, g2⟩ := numP_good hq
    split at h
    · rename_i hm
      obtain ⟨g3, g4⟩ := bytesP_good h
      subst g4
      simp only [Option.some.injEq] at g3
      subst g3
      exact ⟨by rw [g1, textB, List.append_assoc], hm, g2⟩
    · simp at h
  · simp at h
theorem bytesP_short {n : Nat} {st : PSt} {t : List UInt8} (h : bytesP n st = (t, none)) : t = [] := by
  cases st with
  | none => simp only [bytesP, Prod.mk.injEq] at h; exact h.1.symm
  | some l => simp only [bytesP] at h; split at h <;> simp at h; exact h
theorem textP_short {m : Int} {st : PSt} {t : List UInt8} (h : textP m st = (t, none)) : t = [] := by
  unfold textP at h
  split at h
  · split at h
    · exact bytesP_short h
    · simp only [Prod.mk.injEq] at h; exact h.1.symm
  · simp only [Prod.mk.injEq] at h; exact h.1.symm
end Go.Proofs.YtaflklbmdbmjbaaGreatDoor
namespace Go.Proofs.YtaflklbmdbmjbaaGreatDoor
open Go Go.Sse
set_option linter.unusedVariables false
set_option linter.unusedSimpArgs false
set_option maxRecDepth 10000
def lf (s : List UInt8) (a : Nat) (c : Int) : PSt := if c = 0 then some (s.drop a) else none
theorem lf_no {s : List UInt8} {a : Nat} {c : Int} (h : c ≠ 0) : lf s a c = none := if_neg h
theorem rd_number (b : Nat) (s : List UInt8) (a : Nat) (c : Int) (h1 : a ≤ s.length) (h2 : s.length ≤ 1099511627776) :
    FnC Tryz.prog 99 [ptr b] [rdO b ⟨s, a, c⟩] (fun v L => ∃ (n : Nat) (e : Int) (a' : Nat), v = .tup [int (n : Int), int e] ∧ L = [rdO b ⟨s, a', c⟩] ∧ n < 9223372036854775808 ∧
      (e = 0 → c = 0 ∧ a' ≤ s.length ∧ numP (lf s a c) = (n, some (s.drop a'))) ∧ (e ≠ 0 → numP (lf s a c) = (0, none)) ∧ (c ≠ 0 → a' ≤ s.length)) := by
  by_cases hc : c = 0
  · subst hc
    by_cases he : (readN (s.drop a)).2.2 = 0
    · refine (number_good b ⟨s, a, 0⟩ ⟨h1, h2⟩ rfl he).mono ?_
      rintro v L ⟨⟨s', a', c'⟩, ⟨rfl, hs', hc', ha'⟩, rfl⟩
      simp only at hs' hc' ha'
      obtain ⟨g1, g2, g3⟩ := readN_good he
      have hx := ha' he
      subst hs' hc' hx
      rw [List.length_drop] at g2
      refine ⟨_, _, _, rfl, rfl, g3, fun _ => ⟨rfl, by omega, ?_⟩, fun h => absurd he h, fun h => absurd rfl h⟩
      simp only [numP, lf, if_true, if_pos he, List.drop_drop]
    · refine (number_bad b ⟨s, a, 0⟩ ⟨h1, h2⟩ rfl he).mono ?_
      rintro v L ⟨⟨s', a', c'⟩, ⟨rfl, hs', hc', ha'⟩, rfl⟩
      simp only at hs' hc' ha'
      subst hs' hc'
      have hn : (readN (s'.drop a)).1 = 0 := by
        have : ∀ l, (readN l).2.2 ≠ 0 → (readN l).1 = 0 := fun l hl => by
          cases l with
          | nil => rfl
          | cons x t =>
            simp only [readN] at hl ⊢
            split
            · rfl
            · split
              · rfl
              · split
                · rfl
                · rename_i q1 q2 q3; rw [if_neg q1, if_neg q2, if_neg q3] at hl; exact absurd rfl hl
        exact this _ he
      refine ⟨_, _, _, rfl, rfl, by simp only [hn]; omega, fun h => absurd h he, fun _ => ?_, fun h => absurd rfl h⟩
      simp only [numP, lf, if_true, if_neg he]
  · refine (number_code b ⟨s, a, c⟩ hc).mono ?_
    rintro v L ⟨rfl, rfl⟩
    exact ⟨0, c, a, rfl, rfl, by omega, fun h => absurd h hc, fun _ => by rw [lf_no hc]; rfl, fun _ => h1⟩
theorem rd_refuse (b : Nat) (s : List UInt8) (a : Nat) (c : Int) (n : Nat) (e : Int) (h1 : n ≤ s.length) (he : e ≠ 0) (ha : c ≠ 0 → a ≤ s.length) :
    FnC Tryz.prog 73 [ptr b, int (n : Int), int e] [rdO b ⟨s, a, c⟩] (fun v L => ∃ (a' : Nat) (c' : Int), L = [rdO b ⟨s, a', c'⟩] ∧ a' ≤ s.length ∧ c' ≠ 0) := by
  refine (refused_ok b ⟨s, a, c⟩ n e).mono ?_
  rintro v L rfl
  by_cases hc : c = 0
  · subst hc
    exact ⟨n, e, rfl, h1, he⟩
  · exact ⟨a, c, by simp only [Rdr.refuse, if_neg hc], ha hc, hc⟩
theorem rd_Bytes (b : Nat) (s : List UInt8) (a : Nat) (c : Int) (n : Nat) (h1 : a ≤ s.length) (h2 : s.length ≤ 1099511627776) :
    FnC Tryz.prog 47 [ptr b, int (n : Int)] [rdO b ⟨s, a, c⟩] (fun v L => ∃ (t : List UInt8) (a' : Nat) (c' : Int), v = str t ∧ L = [rdO b ⟨s, a', c'⟩] ∧ a' ≤ s.length ∧ bytesP n (lf s a c) = (t, lf s a' c')) := by
  by_cases hc : c = 0
  · subst hc
    by_cases hn : a + n ≤ s.length
    · refine (bytes_back b s a n ⟨h1, h2⟩ hn).mono ?_
      rintro v L ⟨rfl, rfl⟩
      exact ⟨_, _, _, rfl, rfl, hn, by simp only [bytesP, lf, if_true, List.length_drop, List.drop_drop]; rw [if_pos (by omega)]⟩
    · have c1 := take_no b ⟨s, a, 0⟩ n ⟨h1, h2⟩ (by simp only; omega)
      have c2 := rd_refuse b s a 0 a 20 h1 (by decide) (by intro h; exact absurd rfl h)
      refine FnC.intro Tryz.func47 rfl Tryz.ntmps47 rfl fun Z w0 hG => ?_
      focus (
 (refine W.seq (W.region (Jx.assign rfl rfl (J.nil (N.seq (W.seq (W.seq (W.region (Jx.move rfl rfl (Jx.nilCheck rfl rfl ?_))))))))))
 (refine Jx.fieldAddr rfl rfl ?_)
 (refine Jx.load rfl 0 rfl rfl rfl ?_)
 (refine Jx.neqI rfl rfl rfl (J.nil (N.seq (W.cF rfl ?_))))
 (refine W.skip (N.seq (W.seq (W.seq (W.region (Jx.move rfl rfl (Jx.lssI rfl rfl rfl (J.nil (N.seq (W.cF rfl ?_))))))))))
 (refine W.skip (N.seq (W.seq (W.region (Jx.move rfl rfl (Jx.move rfl rfl ?_))))))
 (refine J.call (c1) rfl (evs_args rfl) rfl ?_; rintro _ _ ⟨rfl, rfl⟩; simp only [la1, la2, la3])
 (refine Jx.move rfl rfl (Jx.extract rfl rfl rfl ?_))
 (refine Jx.extract rfl rfl rfl ?_)
 (refine Jx.assign rfl rfl (Jx.assign rfl rfl (J.nil (N.seq (W.seq (W.seq (W.region (Jx.move rfl rfl (Jx.not rfl rfl (J.nil (N.seq (W.cT rfl ?_))))))))))))
 (refine W.region (Jx.move rfl rfl (Jx.move rfl rfl (Jx.nilCheck rfl rfl ?_))))
 (refine Jx.fieldAddr rfl rfl ?_)
 (refine Jx.load rfl 0 rfl rfl rfl ?_)
 (refine J.call (c2) rfl (evs_args rfl) rfl ?_; rintro _ _ ⟨a', c', rfl, ha', hc'⟩; simp only [la1, la2, la3])
 (refine J.nil (N.seq (W.seq (W.region (Jx.move rfl rfl (Jx.assign rfl rfl (J.nil (N.seq (W.ret ?_)))))))))
 (refine id ?_; rotate_left))
      exact N.ret (rs := [.tmp 4]) rfl (.tmp rfl .nil) ⟨[], a', c', rfl, rfl, ha', by rw [lf_no hc']; simp only [bytesP, lf, if_true, List.length_drop]; rw [if_neg (by omega)]⟩
  · refine FnC.intro Tryz.func47 rfl Tryz.ntmps47 rfl fun Z w0 hG => ?_
    focus (
 (refine W.seq (W.region (Jx.assign rfl rfl (J.nil (N.seq (W.seq (W.seq (W.region (Jx.move rfl rfl (Jx.nilCheck rfl rfl ?_))))))))))
 (refine Jx.fieldAddr rfl rfl ?_)
 (refine Jx.load rfl 0 rfl rfl rfl ?_)
 (refine Jx.neqI rfl rfl rfl (J.nil (N.seq (W.cT rfl ?_))))
 (refine W.seq (W.region (Jx.assign rfl rfl (J.nil (N.seq (W.ret (N.seqRet ?_)))))))
 (refine id ?_; rotate_left))
    exact N.ret (rs := [.tmp 4]) rfl (.tmp rfl .nil) ⟨[], a, c, rfl, rfl, h1, by rw [lf_no hc]; rfl⟩
theorem rd_text (b : Nat) (s : List UInt8) (a : Nat) (c : Int) (m : Int) (h1 : a ≤ s.length) (h2 : s.length ≤ 1099511627776) :
    FnC Tryz.prog 95 [ptr b, int m] [rdO b ⟨s, a, c⟩] (fun v L => ∃ (t : List UInt8) (e : Int) (a' : Nat), v = .tup [str t, int e] ∧ L = [rdO b ⟨s, a', c⟩] ∧
      (e = 0 → c = 0 ∧ a' ≤ s.length ∧ textP m (lf s a c) = (t, some (s.drop a'))) ∧ (e ≠ 0 → textP m (lf s a c) = ([], none))) := by
  have c1 := rd_number b s a c h1 h2
  refine FnC.intro Tryz.func95 rfl Tryz.ntmps95 rfl fun Z w0 hG => ?_
  focus (
 (refine W.seq (W.region (Jx.assign rfl rfl (Jx.assign rfl rfl (J.nil (N.seq (W.seq (W.region (Jx.move rfl rfl ?_)))))))))
 (refine J.call (c1) rfl (evs_args rfl) rfl ?_; rintro _ _ ⟨n, e, a', rfl, rfl, hn, hy, hz, hw⟩; simp only [la1, la2, la3])
 (refine Jx.move rfl rfl (Jx.extract rfl rfl rfl ?_))
 (refine Jx.extract rfl rfl rfl ?_)
 (refine Jx.assign rfl rfl (Jx.assign rfl rfl (J.nil (N.seq (W.seq (W.seq (W.region (Jx.move rfl rfl (Jx.neqI rfl rfl rfl (J.nil (N.seq ?_)))))))))))
 (refine id ?_; rotate_left))
  by_cases he : e = 0
  · obtain ⟨rfl, h3, h4⟩ := hy he
    by_cases hm : m < (n : Int)
    · focus (
 (refine W.cF rfl ?_)
 (refine W.skip (N.seq (W.seq (W.seq (W.region (Jx.move rfl rfl (Jx.move rfl rfl (Jx.gtrI rfl rfl rfl (J.nil (N.seq (W.cT rfl ?_)))))))))))
 (refine W.seq (W.region (Jx.assign rfl rfl (Jx.assign rfl rfl (J.nil (N.seq (W.ret (N.seqRet ?_))))))))
 (refine id ?_; rotate_left))
      refine N.ret (rs := [.tmp 4, .tmp 5]) rfl (.tmp rfl (.tmp rfl .nil)) ⟨[], 2, a', rfl, rfl, by intro h; exact absurd h (by decide), fun _ => ?_⟩
      simp only [textP, h4]
      rw [if_neg (by omega)]
    · by_cases hl : a' + n ≤ s.length
      · have c2 := take_yes b ⟨s, a', 0⟩ n ⟨h3, h2⟩ hl
        simp only at c2
        generalize ht : (s.drop a').take n = t at *
        focus (
 (refine W.cF rfl ?_)
 (refine W.skip (N.seq (W.seq (W.seq (W.region (Jx.move rfl rfl (Jx.move rfl rfl (Jx.gtrI rfl rfl rfl (J.nil (N.seq (W.cF rfl ?_)))))))))))
 (refine W.skip (N.seq (W.seq (W.region (Jx.move rfl rfl (Jx.move rfl rfl ?_))))))
 (refine J.call (c2) rfl (evs_args rfl) rfl ?_; rintro _ _ ⟨rfl, rfl⟩; simp only [la1, la2, la3])
 (refine Jx.move rfl rfl (Jx.extract rfl rfl rfl ?_))
 (refine Jx.extract rfl rfl rfl ?_)
 (refine Jx.assign rfl rfl (Jx.assign rfl rfl (J.nil (N.seq (W.seq (W.seq (W.region (Jx.move rfl rfl (Jx.not rfl rfl (J.nil (N.seq (W.cF rfl ?_))))))))))))
 (refine W.skip (N.seq (W.seq (W.region (Jx.move rfl rfl (Jx.assign rfl rfl (Jx.assign rfl rfl (J.nil (N.seq (W.ret ?_))))))))))
 (refine id ?_; rotate_left))
        refine N.ret (rs := [.tmp 4, .tmp 5]) rfl (.tmp rfl (.tmp rfl .nil)) ⟨t, 0, a' + n, rfl, rfl, fun _ => ⟨by trivial, hl, ?_⟩, by intro h; exact absurd rfl h⟩
        simp only [textP, h4]
        rw [if_pos (by omega)]
        simp only [bytesP, List.length_drop, List.drop_drop, ht]
        rw [if_pos (by omega)]
      · have c2 := take_no b ⟨s, a', 0⟩ n ⟨h3, h2⟩ (by simp only; omega)
        focus (
 (refine W.cF rfl ?_)
 (refine W.skip (N.seq (W.seq (W.seq (W.region (Jx.move rfl rfl (Jx.move rfl rfl (Jx.gtrI rfl rfl rfl (J.nil (N.seq (W.cF rfl ?_)))))))))))
 (refine W.skip (N.seq (W.seq (W.region (Jx.move rfl rfl (Jx.move rfl rfl ?_))))))
 (refine J.call (c2) rfl (evs_args rfl) rfl ?_; rintro _ _ ⟨rfl, rfl⟩; simp only [la1, la2, la3])
 (refine Jx.move rfl rfl (Jx.extract rfl rfl rfl ?_))
 (refine Jx.extract rfl rfl rfl ?_)
 (refine Jx.assign rfl rfl (Jx.assign rfl rfl (J.nil (N.seq (W.seq (W.seq (W.region (Jx.move rfl rfl (Jx.not rfl rfl (J.nil (N.seq (W.cT rfl ?_))))))))))))
 (refine W.seq (W.region (Jx.assign rfl rfl (Jx.assign rfl rfl (J.nil (N.seq (W.ret (N.seqRet ?_))))))))
 (refine id ?_; rotate_left))
        refine N.ret (rs := [.tmp 4, .tmp 5]) rfl (.tmp rfl (.tmp rfl .nil)) ⟨[], 20, a', rfl, rfl, by intro h; exact absurd h (by decide), fun _ => ?_⟩
        simp only [textP, h4]
        rw [if_pos (by omega)]
        simp only [bytesP, List.length_drop]
        rw [if_neg (by omega)]
  · have h4 := hz he
    focus (
 (refine W.cT rfl ?_)
 (refine W.seq (W.region (Jx.move rfl rfl (Jx.assign rfl rfl (Jx.assign rfl rfl (J.nil (N.seq (W.ret (N.seqRet ?_)))))))))
 (refine id ?_; rotate_left))
    refine N.ret (rs := [.tmp 4, .tmp 5]) rfl (.tmp rfl (.tmp rfl .nil)) ⟨[], e, a', rfl, rfl, fun h => absurd h he, fun _ => ?_⟩
    simp only [textP, h4]
theorem rd_Text (b : Nat) (s : List UInt8) (a : Nat) (c : Int) (m : Int) (h1 : a ≤ s.length) (h2 : s.length ≤ 1099511627776) :
    FnC Tryz.prog 75 [ptr b, int m] [rdO b ⟨s, a, c⟩] (fun v L => ∃ (t : List UInt8) (a' : Nat) (c' : Int), v = str t ∧ L = [rdO b ⟨s, a', c'⟩] ∧ a' ≤ s.length ∧ textP m (lf s a c) = (t, lf s a' c')) := by
  by_cases hc : c = 0
  · subst hc
    have c1 := rd_text b s a 0 m h1 h2
    refine FnC.intro Tryz.func75 rfl Tryz.ntmps75 rfl fun Z w0 hG => ?_
    focus (
 (refine W.seq (W.region (Jx.assign rfl rfl (J.nil (N.seq (W.seq (W.region (Jx.move rfl rfl (Jx.nilCheck rfl rfl ?_)))))))))
 (refine Jx.fieldAddr rfl rfl ?_)
 (refine Jx.load rfl 0 rfl rfl rfl ?_)
 (refine Jx.assign rfl rfl (J.nil (N.seq (W.seq (W.region (Jx.move rfl rfl (Jx.move rfl rfl ?_)))))))
 (refine J.call (c1) rfl (evs_args rfl) rfl ?_; rintro _ _ ⟨t, e, a', rfl, rfl, hy, hz⟩; simp only [la1, la2, la3])
 (refine Jx.move rfl rfl (Jx.extract rfl rfl rfl ?_))
 (refine Jx.extract rfl rfl rfl ?_)
 (refine Jx.assign rfl rfl (Jx.assign rfl rfl (J.nil (N.seq (W.seq (W.seq (W.region (Jx.move rfl rfl (Jx.neqI rfl rfl rfl (J.nil (N.seq ?_)))))))))))
 (refine id ?_; rotate_left))
    by_cases he : e = 0
    · obtain ⟨_, h3, h4⟩ := hy he
      focus (
 (refine W.cF rfl ?_)
 (refine W.skip (N.seq (W.seq (W.region (Jx.move rfl rfl (Jx.assign rfl rfl (J.nil (N.seq (W.ret ?_)))))))))
 (refine id ?_; rotate_left))
      exact N.ret (rs := [.tmp 4]) rfl (.tmp rfl .nil) ⟨t, a', 0, rfl, rfl, h3, h4⟩
    · have h4 := hz he
      have c2 := rd_refuse b s a' 0 a e h1 he (by intro h; exact absurd rfl h)
      focus (
 (refine W.cT rfl ?_)
 (refine W.seq (W.region (Jx.move rfl rfl (Jx.move rfl rfl (Jx.move rfl rfl ?_)))))
 (refine J.call (c2) rfl (evs_args rfl) rfl ?_; rintro _ _ ⟨a2, c', rfl, ha', hc'⟩; simp only [la1, la2, la3])
 (refine J.nil (N.seq (W.seq (W.region (Jx.assign rfl rfl (J.nil (N.seq (W.ret (N.seqRet ?_)))))))))
 (refine id ?_; rotate_left))
      exact N.ret (rs := [.tmp 4]) rfl (.tmp rfl .nil) ⟨[], a2, c', rfl, rfl, ha', by rw [lf_no hc', h4]⟩
  · have c1 : FnC Tryz.prog 95 [ptr b, int m] [rdO b ⟨s, a, c⟩] (fun v L => v = .tup [str [], int c] ∧ L = [rdO b ⟨s, a, c⟩]) := by
      have c0 := number_code b ⟨s, a, c⟩ hc
      refine FnC.intro Tryz.func95 rfl Tryz.ntmps95 rfl fun Z w0 hG => ?_
      focus (
 (refine W.seq (W.region (Jx.assign rfl rfl (Jx.assign rfl rfl (J.nil (N.seq (W.seq (W.region (Jx.move rfl rfl ?_)))))))))
 (refine J.call (c0) rfl (evs_args rfl) rfl ?_; rintro _ _ ⟨rfl, rfl⟩; simp only [la1, la2, la3])
 (refine Jx.move rfl rfl (Jx.extract rfl rfl rfl ?_))
 (refine Jx.extract rfl rfl rfl ?_)
 (refine Jx.assign rfl rfl (Jx.assign rfl rfl (J.nil (N.seq (W.seq (W.seq (W.region (Jx.move rfl rfl (Jx.neqI rfl rfl rfl (J.nil (N.seq (W.cT rfl ?_))))))))))))
 (refine W.seq (W.region (Jx.move rfl rfl (Jx.assign rfl rfl (Jx.assign rfl rfl (J.nil (N.seq (W.ret (N.seqRet ?_)))))))))
 (refine id ?_; rotate_left))
      exact N.ret (rs := [.tmp 4, .tmp 5]) rfl (.tmp rfl (.tmp rfl .nil)) ⟨rfl, rfl⟩
    have c2 := rd_refuse b s a c a c h1 hc (fun _ => h1)
    refine FnC.intro Tryz.func75 rfl Tryz.ntmps75 rfl fun Z w0 hG => ?_
    focus (
 (refine W.seq (W.region (Jx.assign rfl rfl (J.nil (N.seq (W.seq (W.region (Jx.move rfl rfl (Jx.nilCheck rfl rfl ?_)))))))))
 (refine Jx.fieldAddr rfl rfl ?_)
 (refine Jx.load rfl 0 rfl rfl rfl ?_)
 (refine Jx.assign rfl rfl (J.nil (N.seq (W.seq (W.region (Jx.move rfl rfl (Jx.move rfl rfl ?_)))))))
 (refine J.call (c1) rfl (evs_args rfl) rfl ?_; rintro _ _ ⟨rfl, rfl⟩; simp only [la1, la2, la3])
 (refine Jx.move rfl rfl (Jx.extract rfl rfl rfl ?_))
 (refine Jx.extract rfl rfl rfl ?_)
 (refine Jx.assign rfl rfl (Jx.assign rfl rfl (J.nil (N.seq (W.seq (W.seq (W.region (Jx.move rfl rfl (Jx.neqI rfl rfl rfl (J.nil (N.seq (W.cT rfl ?_))))))))))))
 (refine W.seq (W.region (Jx.move rfl rfl (Jx.move rfl rfl (Jx.move rfl rfl ?_)))))
 (refine J.call (c2) rfl (evs_args rfl) rfl ?_; rintro _ _ ⟨a2, c', rfl, ha', hc'⟩; simp only [la1, la2, la3])
 (refine J.nil (N.seq (W.seq (W.region (Jx.assign rfl rfl (J.nil (N.seq (W.ret (N.seqRet ?_)))))))))
 (refine id ?_; rotate_left))
    exact N.ret (rs := [.tmp 4]) rfl (.tmp rfl .nil) ⟨[], a2, c', rfl, rfl, ha', by rw [lf_no hc', lf_no hc]; rfl⟩
theorem rd_End (b : Nat) (s : List UInt8) (a : Nat) (c : Int) (h1 : a ≤ s.length) (h2 : s.length ≤ 1099511627776) :
    FnC Tryz.prog 50 [ptr b] [rdO b ⟨s, a, c⟩] (fun v L => ∃ (e : Int) (a' : Nat) (c' : Int), v = int e ∧ L = [rdO b ⟨s, a', c'⟩] ∧ (e = 0 ↔ lf s a c = some [])) := by
  have c1 := left_ok b ⟨s, a, c⟩ ⟨h1, h2⟩
  simp only at c1
  refine FnC.intro Tryz.func50 rfl Tryz.ntmps50 rfl fun Z w0 hG => ?_
  by_cases hl : a < s.length
  · have c2 := rd_refuse b s a c a 3 h1 (by decide) (fun _ => h1)
    focus (
 (refine W.seq (W.region (Jx.assign rfl rfl (J.nil (N.seq (W.seq (W.seq (W.region (Jx.move rfl rfl ?_)))))))))
 (refine J.call (c1) rfl (evs_args rfl) rfl ?_; rintro _ _ ⟨rfl, rfl⟩; simp only [la1, la2, la3])
 (refine Jx.gtrI rfl rfl rfl (J.nil (N.seq (W.cT rfl ?_))))
 (refine W.region (Jx.move rfl rfl (Jx.move rfl rfl (Jx.nilCheck rfl rfl ?_))))
 (refine Jx.fieldAddr rfl rfl ?_)
 (refine Jx.load rfl 0 rfl rfl rfl ?_)
 (refine J.call (c2) rfl (evs_args rfl) rfl ?_; rintro _ _ ⟨a2, c2', rfl, ha2, hc2⟩; simp only [la1, la2, la3])
 (refine J.nil (N.seq (W.seq (W.region (Jx.move rfl rfl (Jx.nilCheck rfl rfl ?_))))))
 (refine Jx.fieldAddr rfl rfl ?_)
 (refine Jx.load rfl 0 rfl rfl rfl ?_)
 (refine Jx.assign rfl rfl (J.nil (N.seq (W.ret ?_))))
 (refine id ?_; rotate_left))
    refine N.ret (rs := [.tmp 2]) rfl (.tmp rfl .nil) ⟨c2', a2, c2', rfl, rfl, fun h => absurd h hc2, fun h => ?_⟩
    unfold lf at h
    split at h
    · simp only [Option.some.injEq] at h
      have := congrArg List.length h
      rw [List.length_drop] at this
      simp only [List.length_nil] at this
      omega
    · cases h
  · focus (
 (refine W.seq (W.region (Jx.assign rfl rfl (J.nil (N.seq (W.seq (W.seq (W.region (Jx.move rfl rfl ?_)))))))))
 (refine J.call (c1) rfl (evs_args rfl) rfl ?_; rintro _ _ ⟨rfl, rfl⟩; simp only [la1, la2, la3])
 (refine Jx.gtrI rfl rfl rfl (J.nil (N.seq (W.cF rfl ?_))))
 (refine W.skip (N.seq (W.seq (W.region (Jx.move rfl rfl (Jx.nilCheck rfl rfl ?_))))))
 (refine Jx.fieldAddr rfl rfl ?_)
 (refine Jx.load rfl 0 rfl rfl rfl ?_)
 (refine Jx.assign rfl rfl (J.nil (N.seq (W.ret ?_))))
 (refine id ?_; rotate_left))
    refine N.ret (rs := [.tmp 2]) rfl (.tmp rfl .nil) ⟨c, a, c, rfl, rfl, fun h => ?_, fun h => ?_⟩
    · subst h
      simp only [lf, if_true, Option.some.injEq]
      exact List.drop_eq_nil_of_le (by omega)
    · exact Classical.byContradiction fun hc => by rw [lf_no hc] at h; cases h
end Go.Proofs.YtaflklbmdbmjbaaGreatDoor
namespace Go.Proofs.YtaflklbmdbmjbaaGreatDoor
open Go Go.Sse
set_option linter.unusedVariables false
set_option linter.unusedSimpArgs false
set_option maxRecDepth 10000
end Go.Proofs.YtaflklbmdbmjbaaGreatDoor
namespace Go.Proofs.YtaflklbmdbmjbaaGreatDoor
open Go Go.Sse
set_option linter.unusedVariables false
set_option linter.unusedSimpArgs false
set_option maxRecDepth 10000
end Go.Proofs.YtaflklbmdbmjbaaGreatDoor
namespace Go.Proofs.YtaflklbmdbmjbaaGreatDoor
open Go Go.Sse
set_option linter.unusedVariables false
set_option linter.unusedSimpArgs false
set_option maxRecDepth 10000
def sumD (tag : Nat) (s : List UInt8) : List UInt8 := Sha.shaS ([UInt8.ofNat tag] ++ s)
theorem sumD_len (tag : Nat) (s : List UInt8) : (sumD tag s).length = 32 := Sha.shaS_len _
theorem dsum_ok (tag : Nat) (s : List UInt8) (h1 : 1 ≤ tag) (h2 : tag ≤ 255) (hs : s.length ≤ 1073741824) : FnC Tryz.prog 29 [int (tag : Int), str s] [] (fun v L => v = .tup [str (sumD tag s), int 0] ∧ L = []) := by
  have c := Sha.hsum_ok ([UInt8.ofNat tag] ++ s) (by simp only [List.length_append, List.length_cons, List.length_nil]; omega)
  have e : sumD tag s = Sha.shaS ([UInt8.ofNat tag] ++ s) := rfl
  rw [e]
  generalize Sha.shaS ([UInt8.ofNat tag] ++ s) = sm at *
  refine FnC.intro Tryz.func29 rfl Tryz.ntmps29 rfl fun Z w0 hG => ?_
  focus (
 (refine W.seq (W.region (Jx.assign rfl rfl (Jx.assign rfl rfl (J.nil (N.seq (W.seq (W.seq (W.region (Jx.move rfl rfl (Jx.lssI rfl rfl rfl (Jx.move rfl rfl (J.gY rfl rfl rfl ?_)))))))))))))
 (refine Jx.move rfl rfl (J.gY rfl rfl rfl ?_))
 (refine Jx.gtrI rfl rfl rfl (Jx.pF rfl rfl rfl ?_))
 (refine J.nil (N.seq (W.cF rfl ?_)))
 (refine W.skip (N.seq (W.seq (W.region (Jx.move rfl rfl ?_)))))
 (refine Jx.numByte tag rfl rfl rfl rfl ?_)
 (refine J.qs (Qs.buildBytes [UInt8.ofNat tag] rfl rfl rfl (by decide) (by decide)) rfl ?_)
 (refine Jx.bytesStr rfl rfl ?_)
 (refine Jx.move rfl rfl (Jx.cat rfl rfl (by first | omega | (simp only [List.length_append, List.length_cons, List.length_nil]; omega)) rfl ?_))
 (refine J.call (c) rfl (evs_args rfl) rfl ?_; rintro _ _ ⟨rfl, rfl⟩; simp only [la1, la2, la3])
 (refine Jx.assign rfl rfl (Jx.assign rfl rfl (J.nil (N.seq (W.ret ?_)))))
 (refine id ?_; rotate_left))
  exact N.ret (rs := [.tmp 4, .tmp 5]) rfl (.tmp rfl (.tmp rfl .nil)) ⟨rfl, rfl⟩
theorem rtagged_ok (tag : Nat) (s : List UInt8) (hs : s.length ≤ 1073741824) : FnC Tryz.prog 21 [int (tag : Int), str s] [] (fun v L => v = str (sumD tag s) ∧ L = []) := by
  have c := Sha.rsum_ok ([UInt8.ofNat tag] ++ s) (by simp only [List.length_append, List.length_cons, List.length_nil]; omega)
  have e : sumD tag s = Sha.shaS ([UInt8.ofNat tag] ++ s) := rfl
  rw [e]
  generalize Sha.shaS ([UInt8.ofNat tag] ++ s) = sm at *
  refine FnC.intro Tryz.func21 rfl Tryz.ntmps21 rfl fun Z w0 hG => ?_
  focus (
 (refine W.seq (W.region (Jx.assign rfl rfl (J.nil (N.seq (W.seq (W.region (Jx.move rfl rfl ?_))))))))
 (refine Jx.numByte tag rfl rfl rfl rfl ?_)
 (refine J.qs (Qs.buildBytes [UInt8.ofNat tag] rfl rfl rfl (by decide) (by decide)) rfl ?_)
 (refine Jx.bytesStr rfl rfl ?_)
 (refine Jx.move rfl rfl (Jx.cat rfl rfl (by first | omega | (simp only [List.length_append, List.length_cons, List.length_nil]; omega)) rfl ?_))
 (refine J.call (c) rfl (evs_args rfl) rfl ?_; rintro _ _ ⟨rfl, rfl⟩; simp only [la1, la2, la3])
 (refine Jx.assign rfl rfl (J.nil (N.seq (W.ret ?_))))
 (refine id ?_; rotate_left))
  exact N.ret (rs := [.tmp 4]) rfl (.tmp rfl .nil) ⟨rfl, rfl⟩
end Go.Proofs.YtaflklbmdbmjbaaGreatDoor
namespace Go.Proofs.YtaflklbmdbmjbaaGreatDoor
open Go Go.Sse
set_option linter.unusedVariables false
set_option linter.unusedSimpArgs false
set_option maxRecDepth 10000
theorem and15 : ∀ m : Fin 256, IntKind.u8.wrap ((BitVec.ofInt IntKind.u8.bits ((m.1 : Nat) : Int) &&& BitVec.ofInt IntKind.u8.bits 15).toNat) = ((m.1 % 16 : Nat) : Int) := by decide +kernel
theorem and1 : ∀ m : Fin 256, IntKind.u8.wrap ((BitVec.ofInt IntKind.u8.bits ((m.1 : Nat) : Int) &&& BitVec.ofInt IntKind.u8.bits 1).toNat) = ((m.1 % 2 : Nat) : Int) := by decide +kernel
theorem and2 : ∀ m : Fin 256, IntKind.u8.wrap ((BitVec.ofInt IntKind.u8.bits ((m.1 : Nat) : Int) &&& BitVec.ofInt IntKind.u8.bits 2).toNat) = ((m.1 / 2 % 2 * 2 : Nat) : Int) := by decide +kernel
theorem shl4 : ∀ m : Fin 16, IntKind.u8.wrap (((m.1 : Nat) : Int) * 2 ^ Min.min (4 : Int).toNat IntKind.u8.bits) = ((m.1 * 16 : Nat) : Int) := by decide +kernel
theorem or4 : ∀ m n : Fin 16, IntKind.u8.wrap ((BitVec.ofInt IntKind.u8.bits ((m.1 * 16 : Nat) : Int) ||| BitVec.ofInt IntKind.u8.bits ((n.1 : Nat) : Int)).toNat) = ((m.1 * 16 + n.1 : Nat) : Int) := by decide +kernel
theorem ofN_app : ∀ a b : Bs, ofN (a ++ b) = ofN a ++ ofN b
  | [], b => rfl
  | x :: a, b => by simp only [List.cons_append, ofN, ofN_app a b]
theorem getD_get' {l : Bs} {i : Nat} (h : i < l.length) : l.getD i 0 = l[i] := by rw [List.getD_eq_getElem?_getD, List.getElem?_eq_getElem h]; rfl
theorem take_snoc' {l : Bs} {i : Nat} (h : i < l.length) : l.take (i + 1) = l.take i ++ [l.getD i 0] := by
  rw [List.take_add_one, List.getElem?_eq_getElem h, getD_get' h]; rfl
set_option maxHeartbeats 4000000 in
theorem of_ok (k : Bs) (hk : k.length ≤ 140737488351232) : FnC Tryz.prog 15 [str k] [] (fun r L => r = str (ofN k) ∧ L = []) := by
  have hmk : 2 * k.length ≤ maxLen := by simp only [maxLen]; omega
  have e0 : (2 : Int) * (k.length : Int) = ((2 * k.length : Nat) : Int) := by omega
  refine FnC.intro Tryz.func15 rfl Tryz.ntmps15 rfl fun Z w0 hG => ?_
  focus (
 (refine W.seq (W.region (Jx.assign rfl rfl (J.nil (N.seq (W.seq (W.region (Jx.move rfl rfl (Jx.lenS rfl rfl ?_)))))))))
 (refine Jx.mul64 rfl rfl (by omega) rfl ?_; rw [e0])
 (refine J.makeRoom rfl rfl hmk (by omega) (elOf encB 0 []) rfl ?_; intro bq)
 (refine Jx.assign rfl rfl (J.nil (N.seq (W.seq (W.seq (W.region (Jx.move rfl rfl (Jx.lenS rfl rfl ?_))))))))
 (refine Jx.move rfl rfl (J.nil (N.seq (W.block ?_))))
 (refine id ?_; rotate_left))
  refine W.loop (α := Nat × Bs) (fun x => [(11, int (x.1 : Int)), (10, int (k.length : Int)), (3, .val (.slice (some ⟨bq, 0, none⟩) x.2.length (2 * k.length))), (0, str k)]) (fun x => [.row (.slice (some ⟨bq, 0, none⟩) x.2.length (2 * k.length)) 5 1 x.2.length (elOf encB 0 x.2)]) (fun x => x.1 ≤ k.length ∧ x.2 = ofN (k.take x.1)) (fun x => k.length - x.1) (0, []) ⟨Nat.zero_le _, rfl⟩ rfl ⟨ref0 rfl, ref0 rfl, ref0 rfl, ref0 rfl, trivial⟩ ?_
  rintro ⟨i, out⟩ ⟨hi, ho⟩
  simp only at hi ho ⊢
  have hol : out.length = 2 * i := by rw [ho, ofN_len, List.length_take]; omega
  by_cases h1 : i < k.length
  · have h1' : (i : Int) < (k.length : Int) := by omega
    have h0 : (0 : Int) ≤ (i : Int) := by omega
    have e1 : (i : Int) + 1 = ((i + 1 : Nat) : Int) := by omega
    have hbi : k.getD (Int.toNat (i : Int)) 0 = k.getD i 0 := by rw [Int.toNat_natCast]
    have ho2 : out ++ ofN [k.getD i 0] = ofN (k.take (i + 1)) := by rw [take_snoc' h1, ofN_app, ho]
    generalize k.getD i 0 = b at *
    have hbl := b.toNat_lt
    have hs1 : ((b.toNat / 2 ^ 4 : Nat) : Int) = ((hiB b).toNat : Int) := by simp; omega
    have ha1 := and15 ⟨b.toNat, hbl⟩
    simp only at ha1
    have hs2 : ((b.toNat % 16 : Nat) : Int) = ((loB b).toNat : Int) := by simp; omega
    rw [hs2] at ha1
    have hroom : out.length + [hiB b, loB b].length ≤ 2 * k.length := by simp only [List.length_cons, List.length_nil]; omega
    focus (
 (refine W.seq (W.region (Jx.lssI rfl rfl rfl (J.nil (N.seq (W.seq (W.cT rfl ?_)))))))
 (refine W.skip (N.seq (W.seq (W.block (W.seq (W.region (Jx.move rfl rfl (Jx.assign rfl rfl (J.nil (N.seq ?_))))))))))
 (refine W.draw follows ?_)
 (refine JD.till (l := [_, _, _, _, _, _, _, _, _, _, ⟨some 24, .call _, _, _, _, none⟩, _]) 10 (by decide +kernel) (by decide +kernel) rfl rfl ?_)
 (refine Cx.move rfl rfl ?_)
 (refine Cx.move rfl rfl ?_)
 (refine Cx.move rfl rfl ?_)
 (refine Cx.indexS rfl rfl h0 h1' rfl ?_; rw [hbi])
 (refine Cx.shrN (n := b.toNat) (s := 4) rfl rfl rfl (by decide) rfl ?_; rw [hs1])
 (refine Cx.move rfl rfl ?_)
 (refine Cx.move rfl rfl ?_)
 (refine Cx.indexS rfl rfl h0 h1' rfl ?_; rw [hbi])
 (refine Cx.band rfl rfl rfl ?_; rw [ha1])
 (refine SegC.q (Qs.buildBytes [hiB b, loB b] rfl rfl rfl (by decide) (by decide)) rfl ?_)
 (refine SegC.nil ?_)
 (refine J.appendRoomL (enc := encB) (l := out) (l2 := [hiB b, loB b]) rfl (SrcOK.sl rfl) hroom rfl ?_)
 (refine Jx.assign rfl rfl (J.nil (N.seq (W.region ?_))))
 (refine Jx.add64 rfl rfl (by omega) rfl ?_; rw [e1])
 (refine Jx.move rfl rfl (J.nil ?_))
 (refine id ?_; rotate_left))
    exact N.round (i + 1, out ++ [hiB b, loB b]) ⟨h1, ho2⟩ (by simp only; omega) rfl ⟨ref0 rfl, ref0 rfl, ref0 rfl, ref0 rfl, trivial⟩
  · have h1' : ¬ (i : Int) < (k.length : Int) := by omega
    rw [List.take_of_length_le (by omega)] at ho
    subst ho
    focus (
 (refine W.seq (W.region (Jx.lssI rfl rfl rfl (J.nil (N.seq (W.seq (W.cF rfl ?_)))))))
 (refine W.exit (N.seq (W.seq (W.region (Jx.move rfl rfl (Jx.bytesStrRow rfl 0 rfl rfl ?_))))))
 (refine Jx.assign rfl rfl (J.nil (N.seq (W.ret ?_))))
 (refine id ?_; rotate_left))
    exact N.retD (rs := [.tmp 2]) (L1 := []) rfl (.tmp rfl .nil) (List.nil_sublist _) ⟨rfl, rfl⟩
theorem com_drop {a b : Bs} {i : Nat} (h1 : i < a.length) (h2 : i < b.length) : comN (a.drop i) (b.drop i) = if a.getD i 0 = b.getD i 0 then comN (a.drop (i + 1)) (b.drop (i + 1)) + 1 else 0 := by
  rw [List.drop_eq_getElem_cons h1, List.drop_eq_getElem_cons h2, getD_get' h1, getD_get' h2]; rfl
theorem com_end {a b : Bs} {i : Nat} (h : a.length ≤ i ∨ b.length ≤ i) : comN (a.drop i) (b.drop i) = 0 := by
  rcases h with h | h
  · rw [List.drop_eq_nil_of_le h]; simp [comN]
  · rw [List.drop_eq_nil_of_le h]; cases a.drop i <;> simp [comN]
set_option maxHeartbeats 4000000 in
theorem common_ok (a b : Bs) (ha : a.length ≤ 1000000) : FnC Tryz.prog 44 [str a, str b] [] (fun r L => r = int (comN a b : Int) ∧ L = []) := by
  refine FnC.intro Tryz.func44 rfl Tryz.ntmps44 rfl fun Z w0 hG => ?_
  focus (
 (refine W.seq (W.region (Jx.assign rfl rfl (J.nil (N.seq (W.seq (W.region (Jx.assign rfl rfl (J.nil (N.seq (W.seq (W.block ?_))))))))))))
 (refine id ?_; rotate_left))
  refine W.loop (α := Nat) (fun i => [(5, int (i : Int)), (0, str a), (1, str b)]) (fun _ => []) (fun i => i ≤ a.length ∧ comN a b = i + comN (a.drop i) (b.drop i)) (fun i => a.length - i) 0 ⟨Nat.zero_le _, by simp⟩ rfl ⟨ref0 rfl, ref0 rfl, ref0 rfl, trivial⟩ ?_
  rintro i ⟨hi, hc⟩
  have h0 : (0 : Int) ≤ (i : Int) := by omega
  have e1 : (i : Int) + 1 = ((i + 1 : Nat) : Int) := by omega
  have hai : a.getD (Int.toNat (i : Int)) 0 = a.getD i 0 := by rw [Int.toNat_natCast]
  have hbi : b.getD (Int.toNat (i : Int)) 0 = b.getD i 0 := by rw [Int.toNat_natCast]
  by_cases h1 : i < a.length
  · have h1' : (i : Int) < (a.length : Int) := by omega
    by_cases h2 : i < b.length
    · have h2' : (i : Int) < (b.length : Int) := by omega
      rw [com_drop h1 h2] at hc
      by_cases h3 : a.getD i 0 = b.getD i 0
      · rw [if_pos h3] at hc
        have h3' : ((a.getD i 0).toNat : Int) = ((b.getD i 0).toNat : Int) := by rw [h3]
        focus (
 (refine W.seq (W.seq ?_))
 (refine W.draw follows ?_)
 (refine JD.calm rfl (by decide +kernel) ?_)
 (refine Cx.move rfl rfl ?_)
 (refine Cx.move rfl rfl ?_)
 (refine Cx.lenS rfl rfl ?_)
 (refine Cx.lssI rfl rfl rfl ?_)
 (refine Cx.move rfl rfl ?_)
 (refine SegC.gY rfl rfl rfl ?_)
 (refine Cx.move rfl rfl ?_)
 (refine SegC.gY rfl rfl rfl ?_)
 (refine Cx.move rfl rfl ?_)
 (refine SegC.gY rfl rfl rfl ?_)
 (refine Cx.lenS rfl rfl ?_)
 (refine SegC.gY rfl rfl rfl ?_)
 (refine Cx.lssI rfl rfl rfl ?_)
 (refine Cx.pickT rfl (by first | rfl | assumption | (exact decide_eq_true (by first | assumption | omega | rfl)) | (exact decide_eq_false (by first | assumption | omega | rfl)) | (simp; done) | (simp; omega)) rfl rfl ?_)
 (refine Cx.move rfl rfl ?_)
 (refine SegC.gY rfl rfl rfl ?_)
 (refine Cx.move rfl rfl ?_)
 (refine SegC.gY rfl rfl rfl ?_)
 (refine Cx.move rfl rfl ?_)
 (refine SegC.gY rfl rfl rfl ?_)
 (refine Cx.indexS rfl rfl h0 h1' rfl ?_; rw [hai])
 (refine SegC.gY rfl rfl rfl ?_)
 (refine Cx.move rfl rfl ?_)
 (refine SegC.gY rfl rfl rfl ?_)
 (refine Cx.move rfl rfl ?_)
 (refine SegC.gY rfl rfl rfl ?_)
 (refine Cx.indexS rfl rfl h0 h2' rfl ?_; rw [hbi])
 (refine SegC.gY rfl rfl rfl ?_)
 (refine Cx.eqlI rfl rfl rfl ?_)
 (refine Cx.pickT rfl (by first | rfl | assumption | (exact decide_eq_true (by first | assumption | omega | rfl)) | (exact decide_eq_false (by first | assumption | omega | rfl)) | (simp; done) | (simp; omega)) rfl rfl ?_)
 (refine SegC.nil ?_)
 (refine N.seq (W.cT rfl ?_))
 (refine W.skip (N.seq (W.block (W.region (Jx.move rfl rfl ?_)))))
 (refine Jx.add64 rfl rfl (by omega) rfl ?_; rw [e1])
 (refine Jx.assign rfl rfl (J.nil (N.noGotoNormal ?_)))
 (refine id ?_; rotate_left))
        exact N.round (i + 1) ⟨h1, by omega⟩ (by omega) rfl ⟨ref0 rfl, ref0 rfl, ref0 rfl, trivial⟩
      · rw [if_neg h3] at hc
        have h3' : ¬ ((a.getD i 0).toNat : Int) = ((b.getD i 0).toNat : Int) := fun e => h3 (UInt8.toNat_inj.1 (by omega))
        rw [hc, Nat.add_zero]
        focus (
 (refine W.seq (W.seq ?_))
 (refine W.draw follows ?_)
 (refine JD.calm rfl (by decide +kernel) ?_)
 (refine Cx.move rfl rfl ?_)
 (refine Cx.move rfl rfl ?_)
 (refine Cx.lenS rfl rfl ?_)
 (refine Cx.lssI rfl rfl rfl ?_)
 (refine Cx.move rfl rfl ?_)
 (refine SegC.gY rfl rfl rfl ?_)
 (refine Cx.move rfl rfl ?_)
 (refine SegC.gY rfl rfl rfl ?_)
 (refine Cx.move rfl rfl ?_)
 (refine SegC.gY rfl rfl rfl ?_)
 (refine Cx.lenS rfl rfl ?_)
 (refine SegC.gY rfl rfl rfl ?_)
 (refine Cx.lssI rfl rfl rfl ?_)
 (refine Cx.pickT rfl (by first | rfl | assumption | (exact decide_eq_true (by first | assumption | omega | rfl)) | (exact decide_eq_false (by first | assumption | omega | rfl)) | (simp; done) | (simp; omega)) rfl rfl ?_)
 (refine Cx.move rfl rfl ?_)
 (refine SegC.gY rfl rfl rfl ?_)
 (refine Cx.move rfl rfl ?_)
 (refine SegC.gY rfl rfl rfl ?_)
 (refine Cx.move rfl rfl ?_)
 (refine SegC.gY rfl rfl rfl ?_)
 (refine Cx.indexS rfl rfl h0 h1' rfl ?_; rw [hai])
 (refine SegC.gY rfl rfl rfl ?_)
 (refine Cx.move rfl rfl ?_)
 (refine SegC.gY rfl rfl rfl ?_)
 (refine Cx.move rfl rfl ?_)
 (refine SegC.gY rfl rfl rfl ?_)
 (refine Cx.indexS rfl rfl h0 h2' rfl ?_; rw [hbi])
 (refine SegC.gY rfl rfl rfl ?_)
 (refine Cx.eqlI rfl rfl rfl ?_)
 (refine Cx.pickT rfl (by first | rfl | assumption | (exact decide_eq_true (by first | assumption | omega | rfl)) | (exact decide_eq_false (by first | assumption | omega | rfl)) | (simp; done) | (simp; omega)) rfl rfl ?_)
 (refine SegC.nil ?_)
 (refine N.seq (W.cF rfl ?_))
 (refine W.exit (N.seq (W.seq (W.region (Jx.move rfl rfl (Jx.assign rfl rfl (J.nil (N.seq (W.ret ?_)))))))))
 (refine id ?_; rotate_left))
        exact N.ret (rs := [.tmp 4]) rfl (.tmp rfl .nil) ⟨rfl, rfl⟩
    · have h2' : ¬ (i : Int) < (b.length : Int) := by omega
      rw [com_end (.inr (by omega))] at hc
      rw [hc, Nat.add_zero]
      focus (
 (refine W.seq (W.seq ?_))
 (refine W.draw follows ?_)
 (refine JD.calm rfl (by decide +kernel) ?_)
 (refine Cx.move rfl rfl ?_)
 (refine Cx.move rfl rfl ?_)
 (refine Cx.lenS rfl rfl ?_)
 (refine Cx.lssI rfl rfl rfl ?_)
 (refine Cx.move rfl rfl ?_)
 (refine SegC.gY rfl rfl rfl ?_)
 (refine Cx.move rfl rfl ?_)
 (refine SegC.gY rfl rfl rfl ?_)
 (refine Cx.move rfl rfl ?_)
 (refine SegC.gY rfl rfl rfl ?_)
 (refine Cx.lenS rfl rfl ?_)
 (refine SegC.gY rfl rfl rfl ?_)
 (refine Cx.lssI rfl rfl rfl ?_)
 (refine Cx.pickT rfl (by first | rfl | assumption | (exact decide_eq_true (by first | assumption | omega | rfl)) | (exact decide_eq_false (by first | assumption | omega | rfl)) | (simp; done) | (simp; omega)) rfl rfl ?_)
 (refine Cx.move rfl rfl ?_)
 (refine SegC.gU rfl rfl rfl rfl ?_)
 (refine SegC.gU rfl rfl rfl rfl ?_)
 (refine SegC.gU rfl rfl rfl rfl ?_)
 (refine SegC.gU rfl rfl rfl rfl ?_)
 (refine SegC.gU rfl rfl rfl rfl ?_)
 (refine SegC.gU rfl rfl rfl rfl ?_)
 (refine SegC.gU rfl rfl rfl rfl ?_)
 (refine Cx.pickF rfl (by first | rfl | assumption | (exact decide_eq_true (by first | assumption | omega | rfl)) | (exact decide_eq_false (by first | assumption | omega | rfl)) | (simp; done) | (simp; omega)) rfl rfl ?_)
 (refine SegC.nil ?_)
 (refine N.seq (W.cF rfl ?_))
 (refine W.exit (N.seq (W.seq (W.region (Jx.move rfl rfl (Jx.assign rfl rfl (J.nil (N.seq (W.ret ?_)))))))))
 (refine id ?_; rotate_left))
      exact N.ret (rs := [.tmp 4]) rfl (.tmp rfl .nil) ⟨rfl, rfl⟩
  · have h1' : ¬ (i : Int) < (a.length : Int) := by omega
    rw [com_end (.inl (by omega))] at hc
    rw [hc, Nat.add_zero]
    focus (
 (refine W.seq (W.seq ?_))
 (refine W.draw follows ?_)
 (refine JD.calm rfl (by decide +kernel) ?_)
 (refine Cx.move rfl rfl ?_)
 (refine Cx.move rfl rfl ?_)
 (refine Cx.lenS rfl rfl ?_)
 (refine Cx.lssI rfl rfl rfl ?_)
 (refine Cx.move rfl rfl ?_)
 (refine SegC.gU rfl rfl rfl rfl ?_)
 (refine SegC.gU rfl rfl rfl rfl ?_)
 (refine SegC.gU rfl rfl rfl rfl ?_)
 (refine SegC.gU rfl rfl rfl rfl ?_)
 (refine Cx.pickF rfl (by first | rfl | assumption | (exact decide_eq_true (by first | assumption | omega | rfl)) | (exact decide_eq_false (by first | assumption | omega | rfl)) | (simp; done) | (simp; omega)) rfl rfl ?_)
 (refine Cx.move rfl rfl ?_)
 (refine SegC.gU rfl rfl rfl rfl ?_)
 (refine SegC.gU rfl rfl rfl rfl ?_)
 (refine SegC.gU rfl rfl rfl rfl ?_)
 (refine SegC.gU rfl rfl rfl rfl ?_)
 (refine SegC.gU rfl rfl rfl rfl ?_)
 (refine SegC.gU rfl rfl rfl rfl ?_)
 (refine SegC.gU rfl rfl rfl rfl ?_)
 (refine Cx.pickF rfl (by first | rfl | assumption | (exact decide_eq_true (by first | assumption | omega | rfl)) | (exact decide_eq_false (by first | assumption | omega | rfl)) | (simp; done) | (simp; omega)) rfl rfl ?_)
 (refine SegC.nil ?_)
 (refine N.seq (W.cF rfl ?_))
 (refine W.exit (N.seq (W.seq (W.region (Jx.move rfl rfl (Jx.assign rfl rfl (J.nil (N.seq (W.ret ?_)))))))))
 (refine id ?_; rotate_left))
    exact N.ret (rs := [.tmp 4]) rfl (.tmp rfl .nil) ⟨rfl, rfl⟩
end Go.Proofs.YtaflklbmdbmjbaaGreatDoor
namespace Go.Proofs.YtaflklbmdbmjbaaGreatDoor
open Go Go.Sse
set_option linter.unusedVariables false
set_option linter.unusedSimpArgs false
set_option maxRecDepth 10000
set_option maxHeartbeats 4000000 in
theorem side_ok (p m : Bs) (hp : p.length ≤ 1000000) : FnC Tryz.prog 52 [str p, str m] [] (fun r L => r = int (sideN p m) ∧ L = []) := by
  have cc := common_ok p m hp
  have hle := com_le p m
  unfold sideN
  generalize comN p m = c at *
  have h0 : (0 : Int) ≤ (c : Int) := by omega
  have hai : p.getD (Int.toNat (c : Int)) 0 = p.getD c 0 := by rw [Int.toNat_natCast]
  have hbi : m.getD (Int.toNat (c : Int)) 0 = m.getD c 0 := by rw [Int.toNat_natCast]
  by_cases h1 : c = m.length
  · have h1' : (c : Int) = (m.length : Int) := by omega
    rw [if_pos h1]
    refine FnC.intro Tryz.func52 rfl Tryz.ntmps52 rfl fun Z w0 hG => ?_
    focus (
 (refine W.seq (W.region (Jx.assign rfl rfl (J.nil (N.seq (W.seq (W.region (Jx.move rfl rfl (Jx.move rfl rfl ?_)))))))))
 (refine J.call (cc) rfl (evs_args rfl) rfl ?_; rintro _ _ ⟨rfl, rfl⟩; simp only [la1, la2, la3])
 (refine Jx.assign rfl rfl (J.nil (N.seq (W.seq (W.block (W.seq (W.region (Jx.move rfl rfl (Jx.move rfl rfl (Jx.lenS rfl rfl ?_))))))))))
 (refine Jx.eqlI rfl rfl rfl (Jx.assign rfl rfl (J.nil (N.seq (W.cT rfl ?_)))))
 (refine W.seq (W.region (Jx.assign rfl rfl (J.nil (N.seq (W.ret (N.noGotoRet (N.noGotoRet ?_))))))))
 (refine id ?_; rotate_left))
    exact N.ret (rs := [.tmp 4]) rfl (.tmp rfl .nil) ⟨rfl, rfl⟩
  have h1' : ¬ (c : Int) = (m.length : Int) := by omega
  rw [if_neg h1]
  by_cases h2 : c = p.length
  · have h2' : (c : Int) = (p.length : Int) := by omega
    rw [if_pos h2]
    refine FnC.intro Tryz.func52 rfl Tryz.ntmps52 rfl fun Z w0 hG => ?_
    focus (
 (refine W.seq (W.region (Jx.assign rfl rfl (J.nil (N.seq (W.seq (W.region (Jx.move rfl rfl (Jx.move rfl rfl ?_)))))))))
 (refine J.call (cc) rfl (evs_args rfl) rfl ?_; rintro _ _ ⟨rfl, rfl⟩; simp only [la1, la2, la3])
 (refine Jx.assign rfl rfl (J.nil (N.seq (W.seq (W.block (W.seq (W.region (Jx.move rfl rfl (Jx.move rfl rfl (Jx.lenS rfl rfl ?_))))))))))
 (refine Jx.eqlI rfl rfl rfl (Jx.assign rfl rfl (J.nil (N.seq (W.cF rfl ?_)))))
 (refine W.seq (W.region (Jx.move rfl rfl (Jx.move rfl rfl (Jx.lenS rfl rfl ?_)))))
 (refine Jx.eqlI rfl rfl rfl (Jx.assign rfl rfl (J.nil (N.seq (W.cT rfl ?_)))))
 (refine W.seq (W.region (Jx.assign rfl rfl (J.nil (N.seq (W.ret (N.noGotoRet (N.noGotoRet ?_))))))))
 (refine id ?_; rotate_left))
    exact N.ret (rs := [.tmp 4]) rfl (.tmp rfl .nil) ⟨rfl, rfl⟩
  have h2' : ¬ (c : Int) = (p.length : Int) := by omega
  rw [if_neg h2]
  have l1 : (c : Int) < (p.length : Int) := by omega
  have l2 : (c : Int) < (m.length : Int) := by omega
  by_cases h3 : (p.getD c 0).toNat < (m.getD c 0).toNat
  · have h3' : ((p.getD c 0).toNat : Int) < ((m.getD c 0).toNat : Int) := by omega
    rw [if_pos h3]
    refine FnC.intro Tryz.func52 rfl Tryz.ntmps52 rfl fun Z w0 hG => ?_
    focus (
 (refine W.seq (W.region (Jx.assign rfl rfl (J.nil (N.seq (W.seq (W.region (Jx.move rfl rfl (Jx.move rfl rfl ?_)))))))))
 (refine J.call (cc) rfl (evs_args rfl) rfl ?_; rintro _ _ ⟨rfl, rfl⟩; simp only [la1, la2, la3])
 (refine Jx.assign rfl rfl (J.nil (N.seq (W.seq (W.block (W.seq (W.region (Jx.move rfl rfl (Jx.move rfl rfl (Jx.lenS rfl rfl ?_))))))))))
 (refine Jx.eqlI rfl rfl rfl (Jx.assign rfl rfl (J.nil (N.seq (W.cF rfl ?_)))))
 (refine W.seq (W.region (Jx.move rfl rfl (Jx.move rfl rfl (Jx.lenS rfl rfl ?_)))))
 (refine Jx.eqlI rfl rfl rfl (Jx.assign rfl rfl (J.nil (N.seq (W.cF rfl ?_)))))
 (refine W.seq ?_)
 (refine W.draw follows ?_)
 (refine JD.calm rfl (by decide +kernel) ?_)
 (refine Cx.move rfl rfl ?_)
 (refine Cx.move rfl rfl ?_)
 (refine Cx.indexS rfl rfl h0 l1 rfl ?_; rw [hai])
 (refine Cx.move rfl rfl ?_)
 (refine Cx.move rfl rfl ?_)
 (refine Cx.indexS rfl rfl h0 l2 rfl ?_; rw [hbi])
 (refine Cx.lssI rfl rfl rfl ?_)
 (refine Cx.assign rfl rfl ?_)
 (refine SegC.nil ?_)
 (refine N.seq (W.cT rfl ?_))
 (refine W.seq (W.region (Jx.assign rfl rfl (J.nil (N.seq (W.ret (N.noGotoRet (N.noGotoRet ?_))))))))
 (refine id ?_; rotate_left))
    exact N.ret (rs := [.tmp 4]) rfl (.tmp rfl .nil) ⟨rfl, rfl⟩
  · have h3' : ¬ ((p.getD c 0).toNat : Int) < ((m.getD c 0).toNat : Int) := by omega
    rw [if_neg h3]
    refine FnC.intro Tryz.func52 rfl Tryz.ntmps52 rfl fun Z w0 hG => ?_
    focus (
 (refine W.seq (W.region (Jx.assign rfl rfl (J.nil (N.seq (W.seq (W.region (Jx.move rfl rfl (Jx.move rfl rfl ?_)))))))))
 (refine J.call (cc) rfl (evs_args rfl) rfl ?_; rintro _ _ ⟨rfl, rfl⟩; simp only [la1, la2, la3])
 (refine Jx.assign rfl rfl (J.nil (N.seq (W.seq (W.block (W.seq (W.region (Jx.move rfl rfl (Jx.move rfl rfl (Jx.lenS rfl rfl ?_))))))))))
 (refine Jx.eqlI rfl rfl rfl (Jx.assign rfl rfl (J.nil (N.seq (W.cF rfl ?_)))))
 (refine W.seq (W.region (Jx.move rfl rfl (Jx.move rfl rfl (Jx.lenS rfl rfl ?_)))))
 (refine Jx.eqlI rfl rfl rfl (Jx.assign rfl rfl (J.nil (N.seq (W.cF rfl ?_)))))
 (refine W.seq ?_)
 (refine W.draw follows ?_)
 (refine JD.calm rfl (by decide +kernel) ?_)
 (refine Cx.move rfl rfl ?_)
 (refine Cx.move rfl rfl ?_)
 (refine Cx.indexS rfl rfl h0 l1 rfl ?_; rw [hai])
 (refine Cx.move rfl rfl ?_)
 (refine Cx.move rfl rfl ?_)
 (refine Cx.indexS rfl rfl h0 l2 rfl ?_; rw [hbi])
 (refine Cx.lssI rfl rfl rfl ?_)
 (refine Cx.assign rfl rfl ?_)
 (refine SegC.nil ?_)
 (refine N.seq (W.cF rfl ?_))
 (refine W.skip (N.seq (W.seq (W.region (Jx.assign rfl rfl (J.nil (N.seq (W.ret ?_))))))))
 (refine id ?_; rotate_left))
    exact N.ret (rs := [.tmp 4]) rfl (.tmp rfl .nil) ⟨rfl, rfl⟩
set_option maxHeartbeats 4000000 in
theorem fit_ok (p : Bs) (hp : p.length ≤ 1000000) : FnC Tryz.prog 81 [str p] [] (fun r L => r = Sse.bool (fitN p) ∧ L = []) := by
  refine FnC.intro Tryz.func81 rfl Tryz.ntmps81 rfl fun Z w0 hG => ?_
  focus (
 (refine W.seq (W.region (Jx.assign rfl rfl (J.nil (N.seq (W.seq (W.seq (W.region (Jx.move rfl rfl (Jx.lenS rfl rfl ?_))))))))))
 (refine Jx.move rfl rfl (J.nil (N.seq (W.block ?_))))
 (refine id ?_; rotate_left))
  refine W.loop (α := Nat) (fun i => [(6, int (i : Int)), (5, int (p.length : Int)), (0, str p)]) (fun _ => []) (fun i => i ≤ p.length ∧ fitN (p.take i) = true) (fun i => p.length - i) 0 ⟨Nat.zero_le _, rfl⟩ rfl ⟨ref0 rfl, ref0 rfl, ref0 rfl, trivial⟩ ?_
  rintro i ⟨hi, hc⟩
  by_cases h1 : i < p.length
  · have h1' : (i : Int) < (p.length : Int) := by omega
    have h0 : (0 : Int) ≤ (i : Int) := by omega
    have e1 : (i : Int) + 1 = ((i + 1 : Nat) : Int) := by omega
    have hai : p.getD (Int.toNat (i : Int)) 0 = p.getD i 0 := by rw [Int.toNat_natCast]
    by_cases h2 : (p.getD i 0).toNat ≤ 15
    · have h2' : ¬ (15 : Int) < ((p.getD i 0).toNat : Int) := by omega
      focus (
 (refine W.seq (W.region (Jx.lssI rfl rfl rfl (J.nil (N.seq (W.seq (W.cT rfl ?_)))))))
 (refine W.skip (N.seq (W.seq (W.block (W.seq (W.region (Jx.move rfl rfl (Jx.assign rfl rfl (J.nil (N.seq (W.seq (W.region (Jx.move rfl rfl (Jx.move rfl rfl ?_))))))))))))))
 (refine Jx.indexS rfl rfl h0 h1' rfl ?_; rw [hai])
 (refine Jx.gtrI rfl rfl rfl (J.nil (N.seq (W.cF rfl ?_))))
 (refine W.skip (N.seq (W.region (Jx.add64 rfl rfl (by omega) rfl ?_))))
 (refine Jx.move rfl rfl (J.nil ?_))
 (refine id ?_; rotate_left))
      refine N.round (i + 1) ⟨h1, ?_⟩ (by omega) rfl ⟨ref0 rfl, ref0 rfl, ref0 rfl, trivial⟩
      rw [take_snoc' h1, fitN, List.all_append]
      simp only [fitN] at hc
      rw [hc]
      simpa using h2
    · have h2' : (15 : Int) < ((p.getD i 0).toNat : Int) := by omega
      have hf : fitN p = false := List.all_eq_false.2 ⟨p[i], List.getElem_mem h1, by rw [getD_get' h1] at h2; simpa using h2⟩
      rw [hf]
      focus (
 (refine W.seq (W.region (Jx.lssI rfl rfl rfl (J.nil (N.seq (W.seq (W.cT rfl ?_)))))))
 (refine W.skip (N.seq (W.seq (W.block (W.seq (W.region (Jx.move rfl rfl (Jx.assign rfl rfl (J.nil (N.seq (W.seq (W.region (Jx.move rfl rfl (Jx.move rfl rfl ?_))))))))))))))
 (refine Jx.indexS rfl rfl h0 h1' rfl ?_; rw [hai])
 (refine Jx.gtrI rfl rfl rfl (J.nil (N.seq (W.cT rfl ?_))))
 (refine W.seq (W.region (Jx.assign rfl rfl (J.nil (N.seq (W.ret (N.noGotoRet (N.noGotoRet (N.noGotoRet (N.noGotoRet (N.noGotoRet ?_)))))))))))
 (refine id ?_; rotate_left))
      exact N.ret (rs := [.tmp 2]) rfl (.tmp rfl .nil) ⟨rfl, rfl⟩
  · have h1' : ¬ (i : Int) < (p.length : Int) := by omega
    rw [List.take_of_length_le (by omega)] at hc
    rw [hc]
    focus (
 (refine W.seq (W.region (Jx.lssI rfl rfl rfl (J.nil (N.seq (W.seq (W.cF rfl ?_)))))))
 (refine W.exit (N.seq (W.seq (W.region (Jx.assign rfl rfl (J.nil (N.seq (W.ret ?_))))))))
 (refine id ?_; rotate_left))
    exact N.ret (rs := [.tmp 2]) rfl (.tmp rfl .nil) ⟨rfl, rfl⟩
theorem join_app : ∀ (a : Bs) (x y : UInt8), a.length % 2 = 0 → joinN (a ++ [x, y]) = joinN a ++ [UInt8.ofNat (x.toNat * 16 + y.toNat)]
  | [], x, y, _ => rfl
  | [_], _, _, h => by simp at h
  | a :: b :: r, x, y, h => by
    simp only [List.cons_append, joinN, join_app r x y (by simp only [List.length_cons] at h; omega)]
theorem join_take : ∀ (p : Bs), joinN (p.take (2 * (p.length / 2))) = joinN p
  | [] => rfl
  | [_] => by simp [joinN]
  | a :: b :: r => by
    have : 2 * ((a :: b :: r).length / 2) = 2 * (r.length / 2) + 2 := by simp only [List.length_cons]; omega
    rw [this]
    simp only [List.take_succ_cons, joinN, join_take r]
theorem joinN_len : ∀ p : Bs, (joinN p).length ≤ p.length
  | [] => Nat.le_refl _
  | [_] => by simp [joinN]
  | a :: b :: r => by simp only [joinN, List.length_cons]; have := joinN_len r; omega
set_option maxHeartbeats 4000000 in
theorem joined_ok (p : Bs) (hp : p.length ≤ 1000000) (hf : fitN p = true) : FnC Tryz.prog 82 [str p] [] (fun r L => r = str (joinN p) ∧ L = []) := by
  have hfe : ∀ i, i < p.length → (p.getD i 0).toNat ≤ 15 := fun i hi => by
    rw [getD_get' hi]; simpa using List.all_eq_true.1 hf p[i] (List.getElem_mem hi)
  have hmk : p.length / 2 ≤ maxLen := by simp only [maxLen]; omega
  have e0 : (p.length : Int) / 2 = ((p.length / 2 : Nat) : Int) := by omega
  refine FnC.intro Tryz.func82 rfl Tryz.ntmps82 rfl fun Z w0 hG => ?_
  focus (
 (refine W.seq (W.region (Jx.assign rfl rfl (J.nil (N.seq (W.seq (W.region (Jx.move rfl rfl (Jx.lenS rfl rfl ?_)))))))))
 (refine Jx.quo64 rfl rfl (by omega) (by decide) rfl ?_; rw [e0])
 (refine J.makeRow rfl rfl hmk (by omega) (elOf encB 0 []) rfl ?_; intro v0 hv0)
 (refine Jx.assign rfl rfl (J.nil (N.seq (W.seq (W.seq (W.region (Jx.move rfl rfl (Jx.lenS rfl rfl ?_))))))))
 (refine Jx.quo64 rfl rfl (by omega) (by decide) rfl ?_; rw [e0])
 (refine Jx.move rfl rfl (J.nil (N.seq (W.block ?_))))
 (refine id ?_; rotate_left))
  refine W.loop (α := Nat × Value × Bs) (fun x => [(12, int (x.1 : Int)), (11, int ((p.length / 2 : Nat) : Int)), (3, .val x.2.1), (0, str p)]) (fun x => [.row x.2.1 5 1 x.2.2.length (elOf encB 0 x.2.2)]) (fun x => x.1 ≤ p.length / 2 ∧ x.2.2 = joinN (p.take (2 * x.1)) ∧ x.2.1.oneCell' = true) (fun x => p.length / 2 - x.1) (0, v0, []) ⟨Nat.zero_le _, rfl, hv0⟩ rfl ⟨ref0 rfl, ref0 rfl, ref0 rfl, ref0 rfl, trivial⟩ ?_
  rintro ⟨i, v, out⟩ ⟨hi, ho, hv⟩
  simp only at hi ho hv ⊢
  have hol : out.length ≤ 2 * i := by rw [ho]; refine Nat.le_trans (joinN_len _) ?_; rw [List.length_take]; omega
  by_cases h1 : i < p.length / 2
  · have h1' : (i : Int) < ((p.length / 2 : Nat) : Int) := by omega
    have e1 : (i : Int) + 1 = ((i + 1 : Nat) : Int) := by omega
    have q0 : (0 : Int) ≤ 2 * (i : Int) := by omega
    have q1 : 2 * (i : Int) < (p.length : Int) := by omega
    have q2 : (0 : Int) ≤ 2 * (i : Int) + 1 := by omega
    have q3 : 2 * (i : Int) + 1 < (p.length : Int) := by omega
    have hai : p.getD (Int.toNat (2 * (i : Int))) 0 = p.getD (2 * i) 0 := by rw [show Int.toNat (2 * (i : Int)) = 2 * i by omega]
    have hbi : p.getD (Int.toNat (2 * (i : Int) + 1)) 0 = p.getD (2 * i + 1) 0 := by rw [show Int.toNat (2 * (i : Int) + 1) = 2 * i + 1 by omega]
    have hx := hfe (2 * i) (by omega)
    have hy := hfe (2 * i + 1) (by omega)
    have ho2 : joinN (p.take (2 * (i + 1))) = out ++ [UInt8.ofNat ((p.getD (2 * i) 0).toNat * 16 + (p.getD (2 * i + 1) 0).toNat)] := by
      rw [show 2 * (i + 1) = 2 * i + 1 + 1 by omega, take_snoc' (by omega), take_snoc' (by omega), List.append_assoc, List.singleton_append, join_app _ _ _ (by rw [List.length_take]; omega), ho]
    generalize p.getD (2 * i) 0 = x at *
    generalize p.getD (2 * i + 1) 0 = y at *
    have a1 := shl4 ⟨x.toNat, by omega⟩
    have a2 := or4 ⟨x.toNat, by omega⟩ ⟨y.toNat, by omega⟩
    simp only at a1 a2
    have hz : ((x.toNat * 16 + y.toNat : Nat) : Int) = ((UInt8.ofNat (x.toNat * 16 + y.toNat)).toNat : Int) := by rw [UInt8.toNat_ofNat']; omega
    rw [hz] at a2
    generalize UInt8.ofNat (x.toNat * 16 + y.toNat) = z at *
    have hmx : out.length + [z].length ≤ maxLen ∧ (out.length + [z].length) * 1 ≤ 140737488355328 := by simp only [maxLen, List.length_cons, List.length_nil]; omega
    focus (
 (refine W.seq (W.region (Jx.lssI rfl rfl rfl (J.nil (N.seq (W.seq (W.cT rfl ?_)))))))
 (refine W.skip (N.seq (W.seq (W.block (W.seq (W.region (Jx.move rfl rfl (Jx.assign rfl rfl (J.nil (N.seq ?_))))))))))
 (refine W.draw follows ?_)
 (refine JD.till (l := [_, _, _, _, _, _, _, _, _, _, _, _, _, ⟨some 28, .call _, _, _, _, none⟩, _]) 13 (by decide +kernel) (by decide +kernel) rfl rfl ?_)
 (refine Cx.move rfl rfl ?_)
 (refine Cx.move rfl rfl ?_)
 (refine Cx.move rfl rfl ?_)
 (refine Cx.mul64 rfl rfl (by omega) rfl ?_)
 (refine Cx.indexS rfl rfl q0 q1 rfl ?_; rw [hai])
 (refine Cx.shl rfl rfl (by decide) rfl ?_; rw [a1])
 (refine Cx.move rfl rfl ?_)
 (refine Cx.move rfl rfl ?_)
 (refine Cx.mul64 rfl rfl (by omega) rfl ?_)
 (refine Cx.add64 rfl rfl (by omega) rfl ?_)
 (refine Cx.indexS rfl rfl q2 q3 rfl ?_; rw [hbi])
 (refine Cx.bor rfl rfl rfl ?_; rw [a2])
 (refine SegC.q (Qs.buildBytes [z] rfl rfl rfl (by decide) (by decide)) rfl ?_)
 (refine SegC.nil ?_)
 (refine J.appendAt (enc := encB) (l := out) (l2 := [z]) 0 rfl rfl (SrcOK.sl rfl) rfl rfl hmx rfl ?_; intro v' hv')
 (refine Jx.assign rfl rfl (J.nil (N.seq (W.region ?_))))
 (refine Jx.add64 rfl rfl (by omega) rfl ?_; rw [e1])
 (refine Jx.move rfl rfl (J.nil ?_))
 (refine id ?_; rotate_left))
    exact N.round (i + 1, v', out ++ [z]) ⟨h1, ho2.symm, hv'⟩ (by simp only; omega) rfl ⟨ref0 rfl, ref0 rfl, ref0 rfl, ref0 rfl, trivial⟩
  · have h1' : ¬ (i : Int) < ((p.length / 2 : Nat) : Int) := by omega
    obtain rfl : i = p.length / 2 := by omega
    rw [join_take] at ho
    subst ho
    focus (
 (refine W.seq (W.region (Jx.lssI rfl rfl rfl (J.nil (N.seq (W.seq (W.cF rfl ?_)))))))
 (refine W.exit (N.seq (W.seq (W.region (Jx.move rfl rfl (Jx.bytesStrRow rfl 0 rfl rfl ?_))))))
 (refine Jx.assign rfl rfl (J.nil (N.seq (W.ret ?_))))
 (refine id ?_; rotate_left))
    exact N.retD (rs := [.tmp 2]) (L1 := []) rfl (.tmp rfl .nil) (List.nil_sublist _) ⟨rfl, rfl⟩
set_option maxHeartbeats 4000000 in
theorem key_ok (p : Bs) (hp : p.length ≤ 1000000) : FnC Tryz.prog 53 [str p] [] (fun r L => r = .tup [str (keyP p).1, int (keyP p).2] ∧ L = []) := by
  have cf := fit_ok p hp
  unfold keyP
  cases hf : fitN p with
  | false =>
    rw [hf] at cf
    rw [if_pos rfl]
    refine FnC.intro Tryz.func53 rfl Tryz.ntmps53 rfl fun Z w0 hG => ?_
    focus (
 (refine W.seq (W.region (Jx.assign rfl rfl (Jx.assign rfl rfl (J.nil (N.seq (W.seq (W.block (W.seq (W.region (Jx.move rfl rfl ?_)))))))))))
 (refine J.call (cf) rfl (evs_args rfl) rfl ?_; rintro _ _ ⟨rfl, rfl⟩; simp only [la1, la2, la3])
 (refine Jx.not rfl rfl (Jx.assign rfl rfl (J.nil (N.seq (W.cT rfl ?_)))))
 (refine W.seq (W.region (Jx.assign rfl rfl (Jx.assign rfl rfl (J.nil (N.seq (W.ret (N.noGotoRet (N.noGotoRet ?_)))))))))
 (refine id ?_; rotate_left))
    exact N.ret (rs := [.tmp 2, .tmp 3]) rfl (.tmp rfl (.tmp rfl .nil)) ⟨rfl, rfl⟩
  | true =>
    rw [hf] at cf
    rw [if_neg (by decide)]
    by_cases h1 : p.length % 2 = 1
    · have h1' : (p.length : Int) % 2 = 1 := by omega
      rw [if_pos h1]
      refine FnC.intro Tryz.func53 rfl Tryz.ntmps53 rfl fun Z w0 hG => ?_
      focus (
 (refine W.seq (W.region (Jx.assign rfl rfl (Jx.assign rfl rfl (J.nil (N.seq (W.seq (W.block (W.seq (W.region (Jx.move rfl rfl ?_)))))))))))
 (refine J.call (cf) rfl (evs_args rfl) rfl ?_; rintro _ _ ⟨rfl, rfl⟩; simp only [la1, la2, la3])
 (refine Jx.not rfl rfl (Jx.assign rfl rfl (J.nil (N.seq (W.cF rfl ?_)))))
 (refine W.seq (W.region (Jx.move rfl rfl (Jx.lenS rfl rfl ?_))))
 (refine Jx.rem64 rfl rfl (by omega) (by decide) rfl ?_)
 (refine Jx.eqlI rfl rfl rfl (Jx.assign rfl rfl (J.nil (N.seq (W.cT rfl ?_)))))
 (refine W.seq (W.region (Jx.assign rfl rfl (Jx.assign rfl rfl (J.nil (N.seq (W.ret (N.noGotoRet (N.noGotoRet ?_)))))))))
 (refine id ?_; rotate_left))
      exact N.ret (rs := [.tmp 2, .tmp 3]) rfl (.tmp rfl (.tmp rfl .nil)) ⟨rfl, rfl⟩
    · have h1' : ¬ (p.length : Int) % 2 = 1 := by omega
      have cj := joined_ok p hp hf
      rw [if_neg h1]
      refine FnC.intro Tryz.func53 rfl Tryz.ntmps53 rfl fun Z w0 hG => ?_
      focus (
 (refine W.seq (W.region (Jx.assign rfl rfl (Jx.assign rfl rfl (J.nil (N.seq (W.seq (W.block (W.seq (W.region (Jx.move rfl rfl ?_)))))))))))
 (refine J.call (cf) rfl (evs_args rfl) rfl ?_; rintro _ _ ⟨rfl, rfl⟩; simp only [la1, la2, la3])
 (refine Jx.not rfl rfl (Jx.assign rfl rfl (J.nil (N.seq (W.cF rfl ?_)))))
 (refine W.seq (W.region (Jx.move rfl rfl (Jx.lenS rfl rfl ?_))))
 (refine Jx.rem64 rfl rfl (by omega) (by decide) rfl ?_)
 (refine Jx.eqlI rfl rfl rfl (Jx.assign rfl rfl (J.nil (N.seq (W.cF rfl ?_)))))
 (refine W.skip (N.seq (W.seq (W.region (Jx.move rfl rfl ?_)))))
 (refine J.call (cj) rfl (evs_args rfl) rfl ?_; rintro _ _ ⟨rfl, rfl⟩; simp only [la1, la2, la3])
 (refine Jx.assign rfl rfl (Jx.assign rfl rfl (J.nil (N.seq (W.ret ?_)))))
 (refine id ?_; rotate_left))
      exact N.ret (rs := [.tmp 2, .tmp 3]) rfl (.tmp rfl (.tmp rfl .nil)) ⟨rfl, rfl⟩
def unpP : Bs → Bs × Bool × Int
  | [] => ([], false, 3)
  | b :: r => if 3 < b.toNat / 16 ∨ (b.toNat / 16 % 2 = 0 ∧ b.toNat % 16 ≠ 0) then ([], false, 3) else (if b.toNat / 16 % 2 = 1 then loB b :: ofN r else ofN r, decide (b.toNat / 16 / 2 % 2 = 1), 0)
set_option maxHeartbeats 4000000 in
theorem unpack_ok (s : Bs) (hs : s.length ≤ 1000000) : FnC Tryz.prog 76 [str s] [] (fun r L => r = .tup [str (unpP s).1, Sse.bool (unpP s).2.1, int (unpP s).2.2] ∧ L = []) := by
  cases s with
  | nil =>
    refine FnC.intro Tryz.func76 rfl Tryz.ntmps76 rfl fun Z w0 hG => ?_
    focus (
 (refine W.seq (W.region (Jx.assign rfl rfl (Jx.assign rfl rfl (Jx.assign rfl rfl (J.nil (N.seq (W.seq (W.seq (W.region (Jx.move rfl rfl (Jx.eqlS rfl rfl rfl (J.nil (N.seq ?_))))))))))))))
 (refine W.cT rfl ?_)
 (refine W.seq (W.region (Jx.assign rfl rfl (Jx.assign rfl rfl (Jx.assign rfl rfl (J.nil (N.seq (W.ret (N.noGotoRet ?_)))))))))
 (refine id ?_; rotate_left))
    exact N.ret (rs := [.tmp 2, .tmp 3, .tmp 4]) rfl (.tmp rfl (.tmp rfl (.tmp rfl .nil))) ⟨rfl, rfl⟩
  | cons b r =>
    have hne : ¬ (b :: r) = [] := by simp
    have hpos : (0 : Int) < ((b :: r).length : Int) := by simp only [List.length_cons]; omega
    have hpos1 : (1 : Int) ≤ ((b :: r).length : Int) := by simp only [List.length_cons]; omega
    have cof := of_ok r (by simp only [List.length_cons] at hs; omega)
    have hbl := b.toNat_lt
    have hb0 : ((b :: r).getD (Int.toNat 0) 0) = b := rfl
    have hd1 : List.drop (Int.toNat 1) (b :: r) = r := rfl
    have a15 := and15 ⟨b.toNat, hbl⟩
    have hd16 : b.toNat / 16 < 16 := by omega
    have a1 := and1 ⟨b.toNat / 16, by omega⟩
    have a2 := and2 ⟨b.toNat / 16, by omega⟩
    simp only at a15 a1 a2
    have hlo : (loB b).toNat = b.toNat % 16 := by simp; omega
    rw [show unpP (b :: r) = if 3 < b.toNat / 16 ∨ (b.toNat / 16 % 2 = 0 ∧ b.toNat % 16 ≠ 0) then ([], false, 3) else (if b.toNat / 16 % 2 = 1 then loB b :: ofN r else ofN r, decide (b.toNat / 16 / 2 % 2 = 1), 0) from rfl]
    obtain ⟨kd, hkd⟩ : ∃ kd, b.toNat / 16 = kd := ⟨_, rfl⟩
    rw [hkd] at a1 a2 hd16 ⊢
    have hs1 : ((b.toNat / 2 ^ 4 : Nat) : Int) = (kd : Int) := by omega
    have hk2 : kd % 2 = 0 ∨ kd % 2 = 1 := by omega
    by_cases h3 : 3 < kd
    · have h3' : (3 : Int) < (kd : Int) := by omega
      rw [if_pos (.inl h3)]
      refine FnC.intro Tryz.func76 rfl Tryz.ntmps76 rfl fun Z w0 hG => ?_
      rcases hk2 with hk | hk
      · rw [hk] at a1
        focus (
 (refine W.seq (W.region (Jx.assign rfl rfl (Jx.assign rfl rfl (Jx.assign rfl rfl (J.nil (N.seq (W.seq (W.seq (W.region (Jx.move rfl rfl (Jx.eqlS rfl rfl rfl (J.nil (N.seq ?_))))))))))))))
 (refine W.cF rfl ?_)
 (refine W.skip (N.seq (W.seq ?_)))
 (refine W.draw follows ?_)
 (refine JD.calm rfl (by decide +kernel) ?_)
 (refine Cx.move rfl rfl ?_)
 (refine Cx.indexS rfl rfl (by decide) hpos rfl ?_; rw [hb0])
 (refine Cx.shrN (n := b.toNat) (s := 4) rfl rfl rfl (by decide) rfl ?_; rw [hs1])
 (refine Cx.move rfl rfl ?_)
 (refine Cx.indexS rfl rfl (by decide) hpos rfl ?_; rw [hb0])
 (refine Cx.band rfl rfl rfl ?_; rw [a15])
 (refine Cx.assign rfl rfl ?_)
 (refine Cx.assign rfl rfl ?_)
 (refine SegC.nil ?_)
 (refine N.seq (W.seq (W.region (Jx.move rfl rfl ?_))))
 (refine Jx.band rfl rfl rfl ?_; rw [a1])
 (refine Jx.neqI rfl rfl rfl (Jx.assign rfl rfl (J.nil (N.seq (W.seq (W.seq (W.region (Jx.move rfl rfl (Jx.gtrI rfl rfl rfl (Jx.move rfl rfl (J.gN rfl rfl rfl rfl ?_)))))))))))
 (refine J.gN rfl rfl rfl rfl ?_)
 (refine J.gN rfl rfl rfl rfl ?_)
 (refine J.guardSkip rfl rfl rfl rfl ?_)
 (refine J.guardSkip rfl rfl rfl rfl ?_)
 (refine J.gN rfl rfl rfl rfl ?_)
 (refine Jx.pT rfl rfl rfl ?_)
 (refine J.nil (N.seq (W.cT rfl ?_)))
 (refine W.seq (W.region (Jx.assign rfl rfl (Jx.assign rfl rfl (Jx.assign rfl rfl (J.nil (N.seq (W.ret (N.noGotoRet ?_)))))))))
 (refine id ?_; rotate_left))
        exact N.ret (rs := [.tmp 2, .tmp 3, .tmp 4]) rfl (.tmp rfl (.tmp rfl (.tmp rfl .nil))) ⟨rfl, rfl⟩
      · rw [hk] at a1
        focus (
 (refine W.seq (W.region (Jx.assign rfl rfl (Jx.assign rfl rfl (Jx.assign rfl rfl (J.nil (N.seq (W.seq (W.seq (W.region (Jx.move rfl rfl (Jx.eqlS rfl rfl rfl (J.nil (N.seq ?_))))))))))))))
 (refine W.cF rfl ?_)
 (refine W.skip (N.seq (W.seq ?_)))
 (refine W.draw follows ?_)
 (refine JD.calm rfl (by decide +kernel) ?_)
 (refine Cx.move rfl rfl ?_)
 (refine Cx.indexS rfl rfl (by decide) hpos rfl ?_; rw [hb0])
 (refine Cx.shrN (n := b.toNat) (s := 4) rfl rfl rfl (by decide) rfl ?_; rw [hs1])
 (refine Cx.move rfl rfl ?_)
 (refine Cx.indexS rfl rfl (by decide) hpos rfl ?_; rw [hb0])
 (refine Cx.band rfl rfl rfl ?_; rw [a15])
 (refine Cx.assign rfl rfl ?_)
 (refine Cx.assign rfl rfl ?_)
 (refine SegC.nil ?_)
 (refine N.seq (W.seq (W.region (Jx.move rfl rfl ?_))))
 (refine Jx.band rfl rfl rfl ?_; rw [a1])
 (refine Jx.neqI rfl rfl rfl (Jx.assign rfl rfl (J.nil (N.seq (W.seq (W.seq (W.region (Jx.move rfl rfl (Jx.gtrI rfl rfl rfl (Jx.move rfl rfl (J.gN rfl rfl rfl rfl ?_)))))))))))
 (refine J.gN rfl rfl rfl rfl ?_)
 (refine J.gN rfl rfl rfl rfl ?_)
 (refine J.guardSkip rfl rfl rfl rfl ?_)
 (refine J.guardSkip rfl rfl rfl rfl ?_)
 (refine J.gN rfl rfl rfl rfl ?_)
 (refine Jx.pT rfl rfl rfl ?_)
 (refine J.nil (N.seq (W.cT rfl ?_)))
 (refine W.seq (W.region (Jx.assign rfl rfl (Jx.assign rfl rfl (Jx.assign rfl rfl (J.nil (N.seq (W.ret (N.noGotoRet ?_)))))))))
 (refine id ?_; rotate_left))
        exact N.ret (rs := [.tmp 2, .tmp 3, .tmp 4]) rfl (.tmp rfl (.tmp rfl (.tmp rfl .nil))) ⟨rfl, rfl⟩
    have h3' : ¬ (3 : Int) < (kd : Int) := by omega
    rcases hk2 with hk | hk
    · rw [hk] at a1
      have hk1 : ¬ kd % 2 = 1 := by omega
      by_cases h4 : b.toNat % 16 = 0
      · have h4' : ((b.toNat % 16 : Nat) : Int) = 0 := by omega
        rw [if_neg (by rintro (h | ⟨_, h⟩); exact h3 h; exact h h4), if_neg hk1]
        refine FnC.intro Tryz.func76 rfl Tryz.ntmps76 rfl fun Z w0 hG => ?_
        by_cases h5 : kd / 2 % 2 = 1
        · rw [decide_eq_true h5]
          rw [h5] at a2
          focus (
 (refine W.seq (W.region (Jx.assign rfl rfl (Jx.assign rfl rfl (Jx.assign rfl rfl (J.nil (N.seq (W.seq (W.seq (W.region (Jx.move rfl rfl (Jx.eqlS rfl rfl rfl (J.nil (N.seq ?_))))))))))))))
 (refine W.cF rfl ?_)
 (refine W.skip (N.seq (W.seq ?_)))
 (refine W.draw follows ?_)
 (refine JD.calm rfl (by decide +kernel) ?_)
 (refine Cx.move rfl rfl ?_)
 (refine Cx.indexS rfl rfl (by decide) hpos rfl ?_; rw [hb0])
 (refine Cx.shrN (n := b.toNat) (s := 4) rfl rfl rfl (by decide) rfl ?_; rw [hs1])
 (refine Cx.move rfl rfl ?_)
 (refine Cx.indexS rfl rfl (by decide) hpos rfl ?_; rw [hb0])
 (refine Cx.band rfl rfl rfl ?_; rw [a15])
 (refine Cx.assign rfl rfl ?_)
 (refine Cx.assign rfl rfl ?_)
 (refine SegC.nil ?_)
 (refine N.seq (W.seq (W.region (Jx.move rfl rfl ?_))))
 (refine Jx.band rfl rfl rfl ?_; rw [a1])
 (refine Jx.neqI rfl rfl rfl (Jx.assign rfl rfl (J.nil (N.seq (W.seq (W.seq (W.region (Jx.move rfl rfl (Jx.gtrI rfl rfl rfl (Jx.move rfl rfl (J.gY rfl rfl rfl ?_)))))))))))
 (refine Jx.move rfl rfl (J.gY rfl rfl rfl ?_))
 (refine Jx.not rfl rfl (J.gY rfl rfl rfl ?_))
 (refine Jx.move rfl rfl (J.gY rfl rfl rfl ?_))
 (refine Jx.move rfl rfl (J.gY rfl rfl rfl ?_))
 (refine Jx.neqI rfl rfl rfl (J.gY rfl rfl rfl ?_))
 (refine Jx.pT rfl rfl rfl ?_)
 (refine Jx.pF rfl rfl rfl ?_)
 (refine J.nil (N.seq (W.cF rfl ?_)))
 (refine W.skip (N.seq (W.seq (W.region (Jx.move rfl rfl ?_)))))
 (refine Jx.sliceSl rfl rfl (by decide) hpos1 rfl ?_; rw [hd1])
 (refine J.call (cof) rfl (evs_args rfl) rfl ?_; rintro _ _ ⟨rfl, rfl⟩; simp only [la1, la2, la3])
 (refine Jx.assign rfl rfl (J.nil (N.seq (W.seq (W.seq (W.region (Jx.move rfl rfl (J.nil (N.seq (W.cF rfl ?_))))))))))
 (refine W.skip (N.seq (W.seq (W.region (Jx.move rfl rfl (Jx.move rfl rfl ?_))))))
 (refine Jx.band rfl rfl rfl ?_; rw [a2])
 (refine Jx.neqI rfl rfl rfl (Jx.assign rfl rfl (Jx.assign rfl rfl (Jx.assign rfl rfl (J.nil (N.seq (W.ret ?_)))))))
 (refine id ?_; rotate_left))
          exact N.ret (rs := [.tmp 2, .tmp 3, .tmp 4]) rfl (.tmp rfl (.tmp rfl (.tmp rfl .nil))) ⟨rfl, rfl⟩
        · rw [decide_eq_false h5]
          rw [show kd / 2 % 2 = 0 by omega] at a2
          focus (
 (refine W.seq (W.region (Jx.assign rfl rfl (Jx.assign rfl rfl (Jx.assign rfl rfl (J.nil (N.seq (W.seq (W.seq (W.region (Jx.move rfl rfl (Jx.eqlS rfl rfl rfl (J.nil (N.seq ?_))))))))))))))
 (refine W.cF rfl ?_)
 (refine W.skip (N.seq (W.seq ?_)))
 (refine W.draw follows ?_)
 (refine JD.calm rfl (by decide +kernel) ?_)
 (refine Cx.move rfl rfl ?_)
 (refine Cx.indexS rfl rfl (by decide) hpos rfl ?_; rw [hb0])
 (refine Cx.shrN (n := b.toNat) (s := 4) rfl rfl rfl (by decide) rfl ?_; rw [hs1])
 (refine Cx.move rfl rfl ?_)
 (refine Cx.indexS rfl rfl (by decide) hpos rfl ?_; rw [hb0])
 (refine Cx.band rfl rfl rfl ?_; rw [a15])
 (refine Cx.assign rfl rfl ?_)
 (refine Cx.assign rfl rfl ?_)
 (refine SegC.nil ?_)
 (refine N.seq (W.seq (W.region (Jx.move rfl rfl ?_))))
 (refine Jx.band rfl rfl rfl ?_; rw [a1])
 (refine Jx.neqI rfl rfl rfl (Jx.assign rfl rfl (J.nil (N.seq (W.seq (W.seq (W.region (Jx.move rfl rfl (Jx.gtrI rfl rfl rfl (Jx.move rfl rfl (J.gY rfl rfl rfl ?_)))))))))))
 (refine Jx.move rfl rfl (J.gY rfl rfl rfl ?_))
 (refine Jx.not rfl rfl (J.gY rfl rfl rfl ?_))
 (refine Jx.move rfl rfl (J.gY rfl rfl rfl ?_))
 (refine Jx.move rfl rfl (J.gY rfl rfl rfl ?_))
 (refine Jx.neqI rfl rfl rfl (J.gY rfl rfl rfl ?_))
 (refine Jx.pT rfl rfl rfl ?_)
 (refine Jx.pF rfl rfl rfl ?_)
 (refine J.nil (N.seq (W.cF rfl ?_)))
 (refine W.skip (N.seq (W.seq (W.region (Jx.move rfl rfl ?_)))))
 (refine Jx.sliceSl rfl rfl (by decide) hpos1 rfl ?_; rw [hd1])
 (refine J.call (cof) rfl (evs_args rfl) rfl ?_; rintro _ _ ⟨rfl, rfl⟩; simp only [la1, la2, la3])
 (refine Jx.assign rfl rfl (J.nil (N.seq (W.seq (W.seq (W.region (Jx.move rfl rfl (J.nil (N.seq (W.cF rfl ?_))))))))))
 (refine W.skip (N.seq (W.seq (W.region (Jx.move rfl rfl (Jx.move rfl rfl ?_))))))
 (refine Jx.band rfl rfl rfl ?_; rw [a2])
 (refine Jx.neqI rfl rfl rfl (Jx.assign rfl rfl (Jx.assign rfl rfl (Jx.assign rfl rfl (J.nil (N.seq (W.ret ?_)))))))
 (refine id ?_; rotate_left))
          exact N.ret (rs := [.tmp 2, .tmp 3, .tmp 4]) rfl (.tmp rfl (.tmp rfl (.tmp rfl .nil))) ⟨rfl, rfl⟩
      · have h4' : ¬ ((b.toNat % 16 : Nat) : Int) = 0 := by omega
        rw [if_pos (.inr ⟨hk, h4⟩)]
        refine FnC.intro Tryz.func76 rfl Tryz.ntmps76 rfl fun Z w0 hG => ?_
        focus (
 (refine W.seq (W.region (Jx.assign rfl rfl (Jx.assign rfl rfl (Jx.assign rfl rfl (J.nil (N.seq (W.seq (W.seq (W.region (Jx.move rfl rfl (Jx.eqlS rfl rfl rfl (J.nil (N.seq ?_))))))))))))))
 (refine W.cF rfl ?_)
 (refine W.skip (N.seq (W.seq ?_)))
 (refine W.draw follows ?_)
 (refine JD.calm rfl (by decide +kernel) ?_)
 (refine Cx.move rfl rfl ?_)
 (refine Cx.indexS rfl rfl (by decide) hpos rfl ?_; rw [hb0])
 (refine Cx.shrN (n := b.toNat) (s := 4) rfl rfl rfl (by decide) rfl ?_; rw [hs1])
 (refine Cx.move rfl rfl ?_)
 (refine Cx.indexS rfl rfl (by decide) hpos rfl ?_; rw [hb0])
 (refine Cx.band rfl rfl rfl ?_; rw [a15])
 (refine Cx.assign rfl rfl ?_)
 (refine Cx.assign rfl rfl ?_)
 (refine SegC.nil ?_)
 (refine N.seq (W.seq (W.region (Jx.move rfl rfl ?_))))
 (refine Jx.band rfl rfl rfl ?_; rw [a1])
 (refine Jx.neqI rfl rfl rfl (Jx.assign rfl rfl (J.nil (N.seq (W.seq (W.seq (W.region (Jx.move rfl rfl (Jx.gtrI rfl rfl rfl (Jx.move rfl rfl (J.gY rfl rfl rfl ?_)))))))))))
 (refine Jx.move rfl rfl (J.gY rfl rfl rfl ?_))
 (refine Jx.not rfl rfl (J.gY rfl rfl rfl ?_))
 (refine Jx.move rfl rfl (J.gY rfl rfl rfl ?_))
 (refine Jx.move rfl rfl (J.gY rfl rfl rfl ?_))
 (refine Jx.neqI rfl rfl rfl (J.gY rfl rfl rfl ?_))
 (refine Jx.pT rfl rfl rfl ?_)
 (refine Jx.pF rfl rfl rfl ?_)
 (refine J.nil (N.seq (W.cT rfl ?_)))
 (refine W.seq (W.region (Jx.assign rfl rfl (Jx.assign rfl rfl (Jx.assign rfl rfl (J.nil (N.seq (W.ret (N.noGotoRet ?_)))))))))
 (refine id ?_; rotate_left))
        exact N.ret (rs := [.tmp 2, .tmp 3, .tmp 4]) rfl (.tmp rfl (.tmp rfl (.tmp rfl .nil))) ⟨rfl, rfl⟩
    · rw [hk] at a1
      rw [← hlo] at a15
      rw [if_neg (by rintro (h | ⟨h, _⟩); exact h3 h; omega), if_pos hk]
      have hcl : [loB b].length + (ofN r).length ≤ 9223372036854775807 := by rw [ofN_len]; simp only [List.length_cons, List.length_nil] at hs ⊢; omega
      refine FnC.intro Tryz.func76 rfl Tryz.ntmps76 rfl fun Z w0 hG => ?_
      by_cases h5 : kd / 2 % 2 = 1
      · rw [decide_eq_true h5]
        rw [h5] at a2
        focus (
 (refine W.seq (W.region (Jx.assign rfl rfl (Jx.assign rfl rfl (Jx.assign rfl rfl (J.nil (N.seq (W.seq (W.seq (W.region (Jx.move rfl rfl (Jx.eqlS rfl rfl rfl (J.nil (N.seq ?_))))))))))))))
 (refine W.cF rfl ?_)
 (refine W.skip (N.seq (W.seq ?_)))
 (refine W.draw follows ?_)
 (refine JD.calm rfl (by decide +kernel) ?_)
 (refine Cx.move rfl rfl ?_)
 (refine Cx.indexS rfl rfl (by decide) hpos rfl ?_; rw [hb0])
 (refine Cx.shrN (n := b.toNat) (s := 4) rfl rfl rfl (by decide) rfl ?_; rw [hs1])
 (refine Cx.move rfl rfl ?_)
 (refine Cx.indexS rfl rfl (by decide) hpos rfl ?_; rw [hb0])
 (refine Cx.band rfl rfl rfl ?_; rw [a15])
 (refine Cx.assign rfl rfl ?_)
 (refine Cx.assign rfl rfl ?_)
 (refine SegC.nil ?_)
 (refine N.seq (W.seq (W.region (Jx.move rfl rfl ?_))))
 (refine Jx.band rfl rfl rfl ?_; rw [a1])
 (refine Jx.neqI rfl rfl rfl (Jx.assign rfl rfl (J.nil (N.seq (W.seq (W.seq (W.region (Jx.move rfl rfl (Jx.gtrI rfl rfl rfl (Jx.move rfl rfl (J.gY rfl rfl rfl ?_)))))))))))
 (refine Jx.move rfl rfl (J.gY rfl rfl rfl ?_))
 (refine Jx.not rfl rfl (J.gY rfl rfl rfl ?_))
 (refine Jx.move rfl rfl (J.gN rfl rfl rfl rfl ?_))
 (refine J.gN rfl rfl rfl rfl ?_)
 (refine J.gY rfl rfl rfl ?_)
 (refine Jx.pF rfl rfl rfl ?_)
 (refine Jx.pF rfl rfl rfl ?_)
 (refine J.nil (N.seq (W.cF rfl ?_)))
 (refine W.skip (N.seq (W.seq (W.region (Jx.move rfl rfl ?_)))))
 (refine Jx.sliceSl rfl rfl (by decide) hpos1 rfl ?_; rw [hd1])
 (refine J.call (cof) rfl (evs_args rfl) rfl ?_; rintro _ _ ⟨rfl, rfl⟩; simp only [la1, la2, la3])
 (refine Jx.assign rfl rfl (J.nil (N.seq (W.seq (W.seq (W.region (Jx.move rfl rfl (J.nil (N.seq (W.cT rfl ?_))))))))))
 (refine W.region (Jx.move rfl rfl ?_))
 (refine J.qs (Qs.buildBytes [loB b] rfl rfl rfl (by decide) (by decide)) rfl ?_)
 (refine Jx.bytesStr rfl rfl ?_)
 (refine Jx.move rfl rfl ?_)
 (refine Jx.cat rfl rfl hcl rfl ?_)
 (refine Jx.assign rfl rfl (J.nil (N.seq (W.seq (W.region (Jx.move rfl rfl (Jx.move rfl rfl ?_)))))))
 (refine Jx.band rfl rfl rfl ?_; rw [a2])
 (refine Jx.neqI rfl rfl rfl (Jx.assign rfl rfl (Jx.assign rfl rfl (Jx.assign rfl rfl (J.nil (N.seq (W.ret ?_)))))))
 (refine id ?_; rotate_left))
        exact N.ret (rs := [.tmp 2, .tmp 3, .tmp 4]) rfl (.tmp rfl (.tmp rfl (.tmp rfl .nil))) ⟨rfl, rfl⟩
      · rw [decide_eq_false h5]
        rw [show kd / 2 % 2 = 0 by omega] at a2
        focus (
 (refine W.seq (W.region (Jx.assign rfl rfl (Jx.assign rfl rfl (Jx.assign rfl rfl (J.nil (N.seq (W.seq (W.seq (W.region (Jx.move rfl rfl (Jx.eqlS rfl rfl rfl (J.nil (N.seq ?_))))))))))))))
 (refine W.cF rfl ?_)
 (refine W.skip (N.seq (W.seq ?_)))
 (refine W.draw follows ?_)
 (refine JD.calm rfl (by decide +kernel) ?_)
 (refine Cx.move rfl rfl ?_)
 (refine Cx.indexS rfl rfl (by decide) hpos rfl ?_; rw [hb0])
 (refine Cx.shrN (n := b.toNat) (s := 4) rfl rfl rfl (by decide) rfl ?_; rw [hs1])
 (refine Cx.move rfl rfl ?_)
 (refine Cx.indexS rfl rfl (by decide) hpos rfl ?_; rw [hb0])
 (refine Cx.band rfl rfl rfl ?_; rw [a15])
 (refine Cx.assign rfl rfl ?_)
 (refine Cx.assign rfl rfl ?_)
 (refine SegC.nil ?_)
 (refine N.seq (W.seq (W.region (Jx.move rfl rfl ?_))))
 (refine Jx.band rfl rfl rfl ?_; rw [a1])
 (refine Jx.neqI rfl rfl rfl (Jx.assign rfl rfl (J.nil (N.seq (W.seq (W.seq (W.region (Jx.move rfl rfl (Jx.gtrI rfl rfl rfl (Jx.move rfl rfl (J.gY rfl rfl rfl ?_)))))))))))
 (refine Jx.move rfl rfl (J.gY rfl rfl rfl ?_))
 (refine Jx.not rfl rfl (J.gY rfl rfl rfl ?_))
 (refine Jx.move rfl rfl (J.gN rfl rfl rfl rfl ?_))
 (refine J.gN rfl rfl rfl rfl ?_)
 (refine J.gY rfl rfl rfl ?_)
 (refine Jx.pF rfl rfl rfl ?_)
 (refine Jx.pF rfl rfl rfl ?_)
 (refine J.nil (N.seq (W.cF rfl ?_)))
 (refine W.skip (N.seq (W.seq (W.region (Jx.move rfl rfl ?_)))))
 (refine Jx.sliceSl rfl rfl (by decide) hpos1 rfl ?_; rw [hd1])
 (refine J.call (cof) rfl (evs_args rfl) rfl ?_; rintro _ _ ⟨rfl, rfl⟩; simp only [la1, la2, la3])
 (refine Jx.assign rfl rfl (J.nil (N.seq (W.seq (W.seq (W.region (Jx.move rfl rfl (J.nil (N.seq (W.cT rfl ?_))))))))))
 (refine W.region (Jx.move rfl rfl ?_))
 (refine J.qs (Qs.buildBytes [loB b] rfl rfl rfl (by decide) (by decide)) rfl ?_)
 (refine Jx.bytesStr rfl rfl ?_)
 (refine Jx.move rfl rfl ?_)
 (refine Jx.cat rfl rfl hcl rfl ?_)
 (refine Jx.assign rfl rfl (J.nil (N.seq (W.seq (W.region (Jx.move rfl rfl (Jx.move rfl rfl ?_)))))))
 (refine Jx.band rfl rfl rfl ?_; rw [a2])
 (refine Jx.neqI rfl rfl rfl (Jx.assign rfl rfl (Jx.assign rfl rfl (Jx.assign rfl rfl (J.nil (N.seq (W.ret ?_)))))))
 (refine id ?_; rotate_left))
        exact N.ret (rs := [.tmp 2, .tmp 3, .tmp 4]) rfl (.tmp rfl (.tmp rfl (.tmp rfl .nil))) ⟨rfl, rfl⟩
end Go.Proofs.YtaflklbmdbmjbaaGreatDoor
