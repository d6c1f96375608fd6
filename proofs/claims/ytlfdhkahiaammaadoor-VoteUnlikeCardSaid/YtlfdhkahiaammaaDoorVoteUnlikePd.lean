/-
  Lemmas for the claim, part 4.
-/
import Derived.Test.YtlfdhkahiaammaaDoorVoteUnlikePc
namespace Go.Proofs.YtlfdhkahiaammaaDoor
open Go Go.Sse Go.ChangeShapes Go.WideShapes Go.ChangeAt Go.RowKit
set_option linter.unusedVariables false
set_option linter.unusedSimpArgs false
set_option maxRecDepth 100000
theorem own : ownKnob Tryd.prog.godebug = none := by kernel_rfl
theorem laidOut : laidOutB Tryd.prog = true := by kernel_rfl
theorem laid_list : (Rows.laid_pharos_sha_k : DataW Unit) = .agg (shaK.map fun (n : Nat) => .lit (.int .u32 (n : Int))) := by rfl
theorem k_cell {W : World} (h : laidMetH Tryd.prog [("pharos/sha.k", Rows.laid_pharos_sha_k)] W) (r : Nat) (hr : r < 64) : W.cell? ⟨1, r, none⟩ = some (.int .u32 ((shaK.getD r 0 : Nat) : Int)) := by
  rw [MakeChecks.laidMetH_plain _ _ _ (by kernel_rfl)] at h
  obtain ⟨ps, ⟨g, t, cs, fuel, p, q, hg, ht, hv, hd, _, _⟩, _, _⟩ := h
  obtain rfl := Option.some.inj ((show Tryd.prog.globalNamed "pharos/sha.k" = some 1 by kernel_rfl).symm.trans hg)
  obtain rfl := Option.some.inj ((show (Tryd.prog.globals[1]?).map (·.type) = some 160 by kernel_rfl).symm.trans ht)
  have hu : Tryd.prog.underlying 160 = some (.array 64 121) := by kernel_rfl
  have hu2 : Tryd.prog.underlying 121 = some (.int .u32) := by kernel_rfl
  obtain ⟨xs, m, _, ex, _, hl, hel⟩ := DataW.trod_array hu hd
  have c5 : Tryd.prog.cellsOf 121 = 1 := by kernel_rfl
  have hE := hel r hr
  rw [c5, Nat.mul_one, List.getElem?_eq_getElem (by omega)] at hE
  obtain ⟨z, e1, e2, _⟩ := DataW.trod_int hu2 hE
  have hlen : shaK.length = 64 := by rfl
  have e3 : (xs.map (·.1)) = shaK.map fun (n : Nat) => .lit (.int .u32 (n : Int)) := by
    have := (Prod.mk.inj ex).1
    rw [laid_list] at this
    exact (DataW.agg.inj this).symm
  have e4 : (xs.map (·.1))[r]? = (shaK.map fun (n : Nat) => (DataW.lit (.int .u32 (n : Int)) : DataW Unit))[r]? := by rw [e3]
  rw [List.getElem?_map, List.getElem?_map, List.getElem?_eq_getElem (by omega : r < xs.length), List.getElem?_eq_getElem (by omega : r < shaK.length), e2] at e4
  have hz : z = ((shaK.getD r 0 : Nat) : Int) := by
    simp only [Option.map_some, Option.some.injEq, DataW.lit.injEq, Lit.int.injEq, true_and] at e4
    rw [e4, List.getD, List.getElem?_eq_getElem (by omega : r < shaK.length)]; rfl
  rw [World.var?_cell hg hv r, ← hz]
  have : cs.toList[r]? = some (.int .u32 z) := by
    have h0 : ((cs.toList.drop r).take 1)[0]? = some (.int .u32 z) := by rw [e1]; rfl
    simpa using h0
  simpa using this
theorem gl_met {W : World} (h : laidMetH Tryd.prog [("pharos/sha.k", Rows.laid_pharos_sha_k)] W) : ∀ x ∈ Gl.gl Tryd.prog, x.1 < W.heap.size ∧ ∀ i v, x.2[i]? = some v → W.cell? ⟨x.1, i, none⟩ = some v := by
  intro x hx
  have hx' : x ∈ [(1, shaK.map fun (n : Nat) => Value.int .u32 (n : Int))] := hx
  obtain rfl := List.mem_singleton.1 hx'
  have hc := k_cell h
  refine ⟨World.block_lt_of_cell? W ⟨1, 0, none⟩ (hc 0 (by omega)), fun i v hv => ?_⟩
  have hi : i < 64 := by
    rcases Nat.lt_or_ge i 64 with h | h
    · exact h
    · rw [List.getElem?_eq_none (by rw [List.length_map]; exact h)] at hv; cases hv
  have hl : i < shaK.length := hi
  rw [List.getElem?_map, List.getElem?_eq_getElem hl] at hv
  rw [hc i hi, ← hv]
  simp [List.getD_eq_getElem?_getD, List.getElem?_eq_getElem hl]
noncomputable def rdStr : Rd Tryd.prog 9 (List UInt8) := Rd.str (by kernel_rfl) (by kernel_rfl)
noncomputable def rdBool : Rd Tryd.prog 4 Bool := Rd.bool (by kernel_rfl) (by kernel_rfl)
noncomputable def rdInt : Rd Tryd.prog 3 Int := Rd.int (k := .i64) (by kernel_rfl) (by kernel_rfl)
noncomputable def rdStrs : Rd Tryd.prog 22 (List (List UInt8)) := Rd.slice (by kernel_rfl) (by kernel_rfl) rdStr rfl
noncomputable def rdIso {α β : Type} {T : TypeId} (r : Rd Tryd.prog T α) (g : α → β) (gi : β → α) (h : ∀ a, gi (g a) = a) (enc' : β → List SV) (he : ∀ a, enc' (g a) = r.enc a) (hl : ∀ b, (enc' b).length = r.sz) : Rd Tryd.prog T β :=
  r.as g (g r.dflt) enc' (fun b => r.good (gi b)) (fun b => r.bulk (gi b)) he hl (fun a ha => by rw [h]; exact ha) (fun a => by rw [h])
noncomputable def rdMb : Rd Tryd.prog 133 Mb :=
  rdIso (Rd.struct (tos := [(9, 0), (3, 1)]) (by kernel_rfl) (Fds.cons rdStr (Fds.cons rdInt Fds.nil)) (by kernel_rfl)) (fun x => ⟨x.1, x.2.1⟩) (fun m => (m.name, m.power, ())) (fun _ => rfl) mbC (fun _ => rfl) (fun _ => rfl)
noncomputable def rdMbs : Rd Tryd.prog 60 (List Mb) := Rd.slice (by kernel_rfl) (by kernel_rfl) rdMb rfl
noncomputable def rdTx : Rd Tryd.prog 62 Tx :=
  rdIso (Rd.struct (tos := [(3, 0), (9, 1), (3, 2), (9, 3), (3, 4), (9, 5), (9, 6), (60, 7)]) (by kernel_rfl)
    (Fds.cons rdInt (Fds.cons rdStr (Fds.cons rdInt (Fds.cons rdStr (Fds.cons rdInt (Fds.cons rdStr (Fds.cons rdStr (Fds.cons rdMbs Fds.nil)))))))) (by kernel_rfl))
    (fun x => ⟨x.1, x.2.1, x.2.2.1, x.2.2.2.1, x.2.2.2.2.1, x.2.2.2.2.2.1, x.2.2.2.2.2.2.1, x.2.2.2.2.2.2.2.1⟩) (fun x => (x.kind, x.from_, x.seq, x.to_, x.amount, x.key, x.value, x.members, ())) (fun _ => rfl) txC (fun _ => rfl) (fun _ => rfl)
noncomputable def rdTxs : Rd Tryd.prog 25 (List Tx) := Rd.slice (by kernel_rfl) (by kernel_rfl) rdTx rfl
end Go.Proofs.YtlfdhkahiaammaaDoor
namespace Go.Proofs.YtlfdhkahiaammaaDoor
open Go Go.Sse
set_option linter.unusedVariables false
set_option linter.unusedSimpArgs false
set_option maxRecDepth 10000
abbrev tTx : Nat := 62
theorem tname_ok (s : List UInt8) : FnC Tryd.prog 97 [str s] [] (fun v L => v = bool (nameB s) ∧ L = []) := by
  refine FnC.intro Tryd.func97 rfl Tryd.ntmps97 rfl fun Z w0 hG => ?_
  focus (
    (refine W.seq ?_)
    (refine W.region ?_)
    (refine Jx.assign rfl rfl ?_)
    (refine J.nil ?_)
    (refine N.seq ?_)
    (refine W.seq ?_)
    (refine W.region ?_)
    (refine Jx.move rfl rfl ?_)
    (refine Jx.neqS rfl rfl rfl ?_)
    (refine Jx.move rfl rfl ?_)
    (refine' J.guardAnd rfl rfl rfl rfl rfl rfl rfl rfl (fun _ => ?_) ?_; rotate_left)
    (refine J.gY rfl rfl rfl ?_)
    (refine Jx.move rfl rfl ?_)
    (refine J.gY rfl rfl rfl ?_)
    (refine Jx.lenS rfl rfl ?_)
    (refine J.gY rfl rfl rfl ?_)
    (refine Jx.leqI rfl rfl rfl ?_)
    (refine J.nil ?_)
    (refine N.joinedN rfl rfl rfl)
    (refine Jx.assign rfl rfl ?_)
    (refine J.nil ?_)
    (refine N.seq ?_)
    (refine W.ret ?_)
    (refine id ?_; rotate_left))
  exact N.ret (rs := [.tmp 2]) rfl (.tmp rfl .nil) ⟨rfl, rfl⟩
theorem tbare_ok (x : Tx) : FnC Tryd.prog 96 [.agg (txC x)] [] (fun v L => v = bool (bareTx x) ∧ L = []) := by
  refine FnC.intro Tryd.func96 rfl Tryd.ntmps96 rfl fun Z w0 hG => ?_
  focus (
    (refine W.seq ?_)
    (refine W.region ?_)
    (refine J.boxAg rfl rfl ?_; intro b')
    (refine Jx.assign rfl rfl ?_)
    (refine J.nil ?_)
    (refine N.seq ?_)
    (refine W.seq ?_)
    (refine W.region ?_)
    (refine Jx.fieldAddr rfl rfl ?_)
    (refine Jx.load rfl 0 rfl rfl rfl ?_)
    (refine Jx.eqlS rfl rfl rfl ?_)
    (refine Jx.move rfl rfl ?_)
    (refine' J.guardAnd rfl rfl rfl rfl rfl rfl rfl rfl (fun _ => ?_) ?_; rotate_left)
    (refine J.gY rfl rfl rfl ?_)
    (refine Jx.fieldAddr rfl rfl ?_)
    (refine J.gY rfl rfl rfl ?_)
    (refine Jx.load rfl 0 rfl rfl rfl ?_)
    (refine J.gY rfl rfl rfl ?_)
    (refine Jx.eqlI rfl rfl rfl ?_)
    (refine J.nil ?_)
    (refine N.joinedN rfl rfl rfl)
    (refine Jx.assign rfl rfl ?_)
    (refine J.nil ?_)
    (refine N.seq ?_)
    (refine W.seq ?_)
    (refine W.region ?_)
    (refine Jx.fieldAddr rfl rfl ?_)
    (refine Jx.load rfl 0 rfl rfl rfl ?_)
    (refine Jx.eqlS rfl rfl rfl ?_)
    (refine Jx.move rfl rfl ?_)
    (refine' J.guardAnd rfl rfl rfl rfl rfl rfl rfl rfl (fun _ => ?_) ?_; rotate_left)
    (refine J.gY rfl rfl rfl ?_)
    (refine Jx.fieldAddr rfl rfl ?_)
    (refine J.gY rfl rfl rfl ?_)
    (refine Jx.load rfl 0 rfl rfl rfl ?_)
    (refine J.gY rfl rfl rfl ?_)
    (refine Jx.eqlS rfl rfl rfl ?_)
    (refine J.nil ?_)
    (refine N.joinedN rfl rfl rfl)
    (refine Jx.assign rfl rfl ?_)
    (refine J.nil ?_)
    (refine N.seq ?_)
    (refine W.seq ?_)
    (refine W.region ?_)
    (refine Jx.fieldAddr rfl rfl ?_)
    (refine Jx.load rfl 0 rfl rfl rfl ?_)
    (refine Jx.lenSl rfl rfl ?_)
    (refine Jx.eqlI rfl rfl rfl ?_)
    (refine Jx.assign rfl rfl ?_)
    (refine J.nil ?_)
    (refine N.seq ?_)
    (refine W.seq ?_)
    (refine W.seq ?_)
    (refine W.region ?_)
    (refine Jx.fieldAddr rfl rfl ?_)
    (refine Jx.load rfl 0 rfl rfl rfl ?_)
    (refine J.nil ?_)
    (refine N.seq ?_)
    (refine W.block ?_)
    (refine W.seq ?_)
    (refine W.region ?_)
    (refine Jx.eqlI rfl rfl rfl ?_)
    (refine Jx.assign rfl rfl ?_)
    (refine J.nil ?_)
    (refine N.seq ?_)
    (refine id ?_; rotate_left))
  refine W.cond rfl (fun h1 => ?_) (fun h1 => ?_)
  · focus (
    (refine W.seq ?_)
    (refine W.region ?_)
    (refine Jx.move rfl rfl ?_)
    (refine Jx.move rfl rfl ?_)
    (refine' J.guardAnd rfl rfl rfl rfl rfl rfl rfl rfl (fun _ => ?_) ?_; rotate_left)
    (refine J.gY rfl rfl rfl ?_)
    (refine Jx.move rfl rfl ?_)
    (refine J.nil ?_)
    (refine N.joinedN rfl rfl rfl)
    (refine Jx.assign rfl rfl ?_)
    (refine J.nil ?_)
    (refine N.seq ?_)
    (refine W.ret ?_)
    (refine N.blockRet ?_)
    (refine N.seqRet ?_)
    (refine id ?_; rotate_left))
    exact N.retD (rs := [.tmp 2]) (L1 := []) rfl (.tmp rfl .nil) (List.nil_sublist _) ⟨by rw [bareTx, if_pos (of_decide_eq_true h1)]; rfl, rfl⟩
  · have h1 := of_decide_eq_false h1
    focus (
    (refine W.seq ?_)
    (refine W.region ?_)
    (refine Jx.eqlI rfl rfl rfl ?_)
    (refine Jx.assign rfl rfl ?_)
    (refine J.nil ?_)
    (refine N.seq ?_)
    (refine id ?_; rotate_left))
    refine W.cond rfl (fun h2 => ?_) (fun h2 => ?_)
    · focus (
    (refine W.seq ?_)
    (refine W.region ?_)
    (refine Jx.move rfl rfl ?_)
    (refine Jx.move rfl rfl ?_)
    (refine' J.guardAnd rfl rfl rfl rfl rfl rfl rfl rfl (fun _ => ?_) ?_; rotate_left)
    (refine J.gY rfl rfl rfl ?_)
    (refine Jx.move rfl rfl ?_)
    (refine J.nil ?_)
    (refine N.joinedN rfl rfl rfl)
    (refine Jx.assign rfl rfl ?_)
    (refine J.nil ?_)
    (refine N.seq ?_)
    (refine W.ret ?_)
    (refine N.blockRet ?_)
    (refine N.seqRet ?_)
    (refine id ?_; rotate_left))
      exact N.retD (rs := [.tmp 2]) (L1 := []) rfl (.tmp rfl .nil) (List.nil_sublist _) ⟨by rw [bareTx, if_neg h1, if_pos (of_decide_eq_true h2)]; rfl, rfl⟩
    · have h2 := of_decide_eq_false h2
      focus (
    (refine W.seq ?_)
    (refine W.region ?_)
    (refine Jx.eqlI rfl rfl rfl ?_)
    (refine Jx.assign rfl rfl ?_)
    (refine J.nil ?_)
    (refine N.seq ?_)
    (refine id ?_; rotate_left))
      refine W.cond rfl (fun h3 => ?_) (fun h3 => ?_)
      · focus (
    (refine W.seq ?_)
    (refine W.region ?_)
    (refine Jx.move rfl rfl ?_)
    (refine Jx.move rfl rfl ?_)
    (refine' J.guardAnd rfl rfl rfl rfl rfl rfl rfl rfl (fun _ => ?_) ?_; rotate_left)
    (refine J.gY rfl rfl rfl ?_)
    (refine Jx.move rfl rfl ?_)
    (refine J.nil ?_)
    (refine N.joinedN rfl rfl rfl)
    (refine Jx.move rfl rfl ?_)
    (refine' J.guardAnd rfl rfl rfl rfl rfl rfl rfl rfl (fun _ => ?_) ?_; rotate_left)
    (refine J.gY rfl rfl rfl ?_)
    (refine Jx.fieldAddr rfl rfl ?_)
    (refine J.gY rfl rfl rfl ?_)
    (refine Jx.load rfl 0 rfl rfl rfl ?_)
    (refine J.gY rfl rfl rfl ?_)
    (refine Jx.eqlS rfl rfl rfl ?_)
    (refine J.nil ?_)
    (refine N.joinedN rfl rfl rfl)
    (refine Jx.assign rfl rfl ?_)
    (refine J.nil ?_)
    (refine N.seq ?_)
    (refine W.ret ?_)
    (refine N.blockRet ?_)
    (refine N.seqRet ?_)
    (refine id ?_; rotate_left))
        exact N.retD (rs := [.tmp 2]) (L1 := []) rfl (.tmp rfl .nil) (List.nil_sublist _) ⟨by rw [bareTx, if_neg h1, if_neg h2, if_pos (of_decide_eq_true h3)]; rfl, rfl⟩
      · have h3 := of_decide_eq_false h3
        focus (
    (refine W.seq ?_)
    (refine W.region ?_)
    (refine Jx.eqlI rfl rfl rfl ?_)
    (refine Jx.assign rfl rfl ?_)
    (refine J.nil ?_)
    (refine N.seq ?_)
    (refine id ?_; rotate_left))
        refine W.cond rfl (fun h4 => ?_) (fun h4 => ?_)
        · focus (
    (refine W.seq ?_)
    (refine W.region ?_)
    (refine Jx.move rfl rfl ?_)
    (refine Jx.move rfl rfl ?_)
    (refine' J.guardAnd rfl rfl rfl rfl rfl rfl rfl rfl (fun _ => ?_) ?_; rotate_left)
    (refine J.gY rfl rfl rfl ?_)
    (refine Jx.move rfl rfl ?_)
    (refine J.nil ?_)
    (refine N.joinedN rfl rfl rfl)
    (refine Jx.assign rfl rfl ?_)
    (refine J.nil ?_)
    (refine N.seq ?_)
    (refine W.ret ?_)
    (refine N.blockRet ?_)
    (refine N.seqRet ?_)
    (refine id ?_; rotate_left))
          exact N.retD (rs := [.tmp 2]) (L1 := []) rfl (.tmp rfl .nil) (List.nil_sublist _) ⟨by rw [bareTx, if_neg h1, if_neg h2, if_neg h3, if_pos (of_decide_eq_true h4)]; rfl, rfl⟩
        · have h4 := of_decide_eq_false h4
          focus (
    (refine W.skip ?_)
    (refine N.seq ?_)
    (refine W.seq ?_)
    (refine W.region ?_)
    (refine Jx.assign rfl rfl ?_)
    (refine J.nil ?_)
    (refine N.seq ?_)
    (refine W.ret ?_)
    (refine id ?_; rotate_left))
          exact N.retD (rs := [.tmp 2]) (L1 := []) rfl (.tmp rfl .nil) (List.nil_sublist _) ⟨by rw [bareTx, if_neg h1, if_neg h2, if_neg h3, if_neg h4]; rfl, rfl⟩
theorem codeB_zero (b : Bool) (e : Int) (he : e ≠ 0) : decide (codeB b e = 0) = b := by cases b <;> simp [he]
set_option maxHeartbeats 1000000 in
theorem tcheck_ok (x : Tx) : FnC Tryd.prog 76 [.agg (txC x)] [] (fun v L => v = int (codeB (fineTx x) 150) ∧ L = []) := by
  have cb := tbare_ok x
  have cn := tname_ok x.from_
  have cn2 := tname_ok x.to_
  have cm := pcheck_ok x.members
  have hz := codeB_zero (fineSet x.members) 50 (by decide)
  refine FnC.intro Tryd.func76 rfl Tryd.ntmps76 rfl fun Z w0 hG => ?_
  focus (
    (refine W.seq ?_)
    (refine W.region ?_)
    (refine J.boxAg rfl rfl ?_; intro b')
    (refine Jx.assign rfl rfl ?_)
    (refine J.nil ?_)
    (refine N.seq ?_)
    (refine W.seq ?_)
    (refine W.seq ?_)
    (refine W.region ?_)
    (refine Jx.loadAll rfl 0 rfl rfl rfl ?_)
    (refine J.call (cb) rfl (evs_args rfl) rfl ?_; rintro _ _ ⟨rfl, rfl⟩; simp only [List.cons_append, List.nil_append, List.append_nil])
    (refine Jx.not rfl rfl ?_)
    (refine Jx.move rfl rfl ?_)
    (refine' J.guardOr rfl rfl rfl rfl rfl rfl rfl rfl (fun _ => ?_) ?_; rotate_left)
    (refine J.gY rfl rfl rfl ?_)
    (refine Jx.fieldAddr rfl rfl ?_)
    (refine J.gY rfl rfl rfl ?_)
    (refine Jx.load rfl 0 rfl rfl rfl ?_)
    (refine J.gY rfl rfl rfl ?_)
    (refine J.call (cn) rfl (evs_args rfl) rfl ?_; rintro _ _ ⟨rfl, rfl⟩; simp only [List.cons_append, List.nil_append, List.append_nil])
    (refine J.gY rfl rfl rfl ?_)
    (refine Jx.not rfl rfl ?_)
    (refine J.nil ?_)
    (refine N.joinedN rfl rfl rfl)
    (refine Jx.move rfl rfl ?_)
    (refine' J.guardOr rfl rfl rfl rfl rfl rfl rfl rfl (fun _ => ?_) ?_; rotate_left)
    (refine J.gY rfl rfl rfl ?_)
    (refine Jx.fieldAddr rfl rfl ?_)
    (refine J.gY rfl rfl rfl ?_)
    (refine Jx.load rfl 0 rfl rfl rfl ?_)
    (refine J.gY rfl rfl rfl ?_)
    (refine Jx.lssI rfl rfl rfl ?_)
    (refine J.nil ?_)
    (refine N.joinedN rfl rfl rfl)
    (refine Jx.move rfl rfl ?_)
    (refine' J.guardOr rfl rfl rfl rfl rfl rfl rfl rfl (fun _ => ?_) ?_; rotate_left)
    (refine J.gY rfl rfl rfl ?_)
    (refine Jx.fieldAddr rfl rfl ?_)
    (refine J.gY rfl rfl rfl ?_)
    (refine Jx.load rfl 0 rfl rfl rfl ?_)
    (refine J.gY rfl rfl rfl ?_)
    (refine Jx.gtrI rfl rfl rfl ?_)
    (refine J.nil ?_)
    (refine N.joinedN rfl rfl rfl)
    (refine J.nil ?_)
    (refine N.seq ?_)
    (refine id ?_; rotate_left))
  refine W.cond rfl (fun hb => ?_) (fun hb => ?_)
  · have hf : fineTx x = false := by rw [fineTx, show badTx x = true from hb]; rfl
    rw [hf]
    focus (
    (refine W.seq ?_)
    (refine W.region ?_)
    (refine Jx.assign rfl rfl ?_)
    (refine J.nil ?_)
    (refine N.seq ?_)
    (refine W.ret ?_)
    (refine N.seqRet ?_)
    (refine id ?_; rotate_left))
    exact N.retD (rs := [.tmp 2]) (L1 := []) rfl (.tmp rfl .nil) (List.nil_sublist _) ⟨rfl, rfl⟩
  · have hf : fineTx x = kindTx x := by rw [fineTx, show badTx x = false from hb]; rfl
    rw [hf]
    clear hb
    focus (
    (refine W.skip ?_)
    (refine N.seq ?_)
    (refine W.seq ?_)
    (refine W.region ?_)
    (refine Jx.assign rfl rfl ?_)
    (refine J.nil ?_)
    (refine N.seq ?_)
    (refine W.seq ?_)
    (refine W.seq ?_)
    (refine W.region ?_)
    (refine Jx.fieldAddr rfl rfl ?_)
    (refine Jx.load rfl 0 rfl rfl rfl ?_)
    (refine J.nil ?_)
    (refine N.seq ?_)
    (refine id ?_; rotate_left))
    refine W.joinE (α := Unit) (fun _ => [(2, int 0), (3, bool (kindTx x))]) (fun _ => [.obj b' tTx (txC x)]) (fun _ => True) ?_ ?_
    · by_cases h1 : x.kind = 1
      · focus (
    (refine W.block ?_)
    (refine W.seq ?_)
    (refine W.block ?_)
    (refine W.seq ?_)
    (refine W.block ?_)
    (refine W.seq ?_)
    (refine W.block ?_)
    (refine W.seq ?_)
    (refine W.block ?_)
    (refine W.seq ?_)
    (refine W.seq ?_)
    (refine W.seq ?_)
    (refine W.region ?_)
    (refine Jx.eqlI rfl rfl rfl ?_)
    (refine Jx.assign rfl rfl ?_)
    (refine J.nil ?_)
    (refine N.seq ?_)
    (refine W.cT rfl ?_)
    (refine W.exit ?_)
    (refine N.seq ?_)
    (refine W.seq ?_)
    (refine W.region ?_)
    (refine Jx.fieldAddr rfl rfl ?_)
    (refine Jx.load rfl 0 rfl rfl rfl ?_)
    (refine J.call (cn2) rfl (evs_args rfl) rfl ?_; rintro _ _ ⟨rfl, rfl⟩; simp only [List.cons_append, List.nil_append, List.append_nil])
    (refine Jx.move rfl rfl ?_)
    (refine' J.guardAnd rfl rfl rfl rfl rfl rfl rfl rfl (fun _ => ?_) ?_; rotate_left)
    (refine J.gY rfl rfl rfl ?_)
    (refine Jx.fieldAddr rfl rfl ?_)
    (refine J.gY rfl rfl rfl ?_)
    (refine Jx.load rfl 0 rfl rfl rfl ?_)
    (refine J.gY rfl rfl rfl ?_)
    (refine Jx.geqI rfl rfl rfl ?_)
    (refine J.nil ?_)
    (refine N.joinedN rfl rfl rfl)
    (refine Jx.move rfl rfl ?_)
    (refine' J.guardAnd rfl rfl rfl rfl rfl rfl rfl rfl (fun _ => ?_) ?_; rotate_left)
    (refine J.gY rfl rfl rfl ?_)
    (refine Jx.fieldAddr rfl rfl ?_)
    (refine J.gY rfl rfl rfl ?_)
    (refine Jx.load rfl 0 rfl rfl rfl ?_)
    (refine J.gY rfl rfl rfl ?_)
    (refine Jx.leqI rfl rfl rfl ?_)
    (refine J.nil ?_)
    (refine N.joinedN rfl rfl rfl)
    (refine Jx.assign rfl rfl ?_)
    (refine J.nil ?_)
    (refine N.seq ?_)
    (refine W.exit ?_)
    (refine N.blockOther rfl ?_)
    (refine N.seqExit ?_)
    (refine N.blockOther rfl ?_)
    (refine N.seqExit ?_)
    (refine N.blockOther rfl ?_)
    (refine N.seqExit ?_)
    (refine N.blockHere ?_)
    (refine id ?_; rotate_left))
        exact N.joinE () trivial rfl ⟨ref0 rfl, ⟨_, rfl, Sub.of_eq (by rw [kindTx, if_pos h1]; rfl)⟩, trivial⟩
      · by_cases h2 : x.kind = 2
        · focus (
    (refine W.block ?_)
    (refine W.seq ?_)
    (refine W.block ?_)
    (refine W.seq ?_)
    (refine W.block ?_)
    (refine W.seq ?_)
    (refine W.block ?_)
    (refine W.seq ?_)
    (refine W.block ?_)
    (refine W.seq ?_)
    (refine W.seq ?_)
    (refine W.seq ?_)
    (refine W.region ?_)
    (refine Jx.eqlI rfl rfl rfl ?_)
    (refine Jx.assign rfl rfl ?_)
    (refine J.nil ?_)
    (refine N.seq ?_)
    (refine W.cF rfl ?_)
    (refine W.skip ?_)
    (refine N.seq ?_)
    (refine W.seq ?_)
    (refine W.seq ?_)
    (refine W.region ?_)
    (refine Jx.eqlI rfl rfl rfl ?_)
    (refine Jx.assign rfl rfl ?_)
    (refine J.nil ?_)
    (refine N.seq ?_)
    (refine W.cT rfl ?_)
    (refine W.exit ?_)
    (refine N.seq ?_)
    (refine W.region ?_)
    (refine Jx.fieldAddr rfl rfl ?_)
    (refine Jx.load rfl 0 rfl rfl rfl ?_)
    (refine Jx.neqS rfl rfl rfl ?_)
    (refine Jx.move rfl rfl ?_)
    (refine' J.guardAnd rfl rfl rfl rfl rfl rfl rfl rfl (fun _ => ?_) ?_; rotate_left)
    (refine J.gY rfl rfl rfl ?_)
    (refine Jx.fieldAddr rfl rfl ?_)
    (refine J.gY rfl rfl rfl ?_)
    (refine Jx.load rfl 0 rfl rfl rfl ?_)
    (refine J.gY rfl rfl rfl ?_)
    (refine Jx.lenS rfl rfl ?_)
    (refine J.gY rfl rfl rfl ?_)
    (refine Jx.leqI rfl rfl rfl ?_)
    (refine J.nil ?_)
    (refine N.joinedN rfl rfl rfl)
    (refine Jx.assign rfl rfl ?_)
    (refine J.nil ?_)
    (refine N.seq ?_)
    (refine W.seq ?_)
    (refine W.region ?_)
    (refine Jx.move rfl rfl ?_)
    (refine Jx.move rfl rfl ?_)
    (refine' J.guardAnd rfl rfl rfl rfl rfl rfl rfl rfl (fun _ => ?_) ?_; rotate_left)
    (refine J.gY rfl rfl rfl ?_)
    (refine Jx.fieldAddr rfl rfl ?_)
    (refine J.gY rfl rfl rfl ?_)
    (refine Jx.load rfl 0 rfl rfl rfl ?_)
    (refine J.gY rfl rfl rfl ?_)
    (refine Jx.neqS rfl rfl rfl ?_)
    (refine J.nil ?_)
    (refine N.joinedN rfl rfl rfl)
    (refine Jx.move rfl rfl ?_)
    (refine' J.guardAnd rfl rfl rfl rfl rfl rfl rfl rfl (fun _ => ?_) ?_; rotate_left)
    (refine J.gY rfl rfl rfl ?_)
    (refine Jx.fieldAddr rfl rfl ?_)
    (refine J.gY rfl rfl rfl ?_)
    (refine Jx.load rfl 0 rfl rfl rfl ?_)
    (refine J.gY rfl rfl rfl ?_)
    (refine Jx.lenS rfl rfl ?_)
    (refine J.gY rfl rfl rfl ?_)
    (refine Jx.leqI rfl rfl rfl ?_)
    (refine J.nil ?_)
    (refine N.joinedN rfl rfl rfl)
    (refine Jx.assign rfl rfl ?_)
    (refine J.nil ?_)
    (refine N.seq ?_)
    (refine W.exit ?_)
    (refine N.blockOther rfl ?_)
    (refine N.seqExit ?_)
    (refine N.blockHere ?_)
    (refine id ?_; rotate_left))
          exact N.joinE () trivial rfl ⟨ref0 rfl, ⟨_, rfl, Sub.of_eq (by rw [kindTx, if_neg h1, if_pos h2]; rfl)⟩, trivial⟩
        · by_cases h3 : x.kind = 3
          · focus (
    (refine W.block ?_)
    (refine W.seq ?_)
    (refine W.block ?_)
    (refine W.seq ?_)
    (refine W.block ?_)
    (refine W.seq ?_)
    (refine W.block ?_)
    (refine W.seq ?_)
    (refine W.block ?_)
    (refine W.seq ?_)
    (refine W.seq ?_)
    (refine W.seq ?_)
    (refine W.region ?_)
    (refine Jx.eqlI rfl rfl rfl ?_)
    (refine Jx.assign rfl rfl ?_)
    (refine J.nil ?_)
    (refine N.seq ?_)
    (refine W.cF rfl ?_)
    (refine W.skip ?_)
    (refine N.seq ?_)
    (refine W.seq ?_)
    (refine W.seq ?_)
    (refine W.region ?_)
    (refine Jx.eqlI rfl rfl rfl ?_)
    (refine Jx.assign rfl rfl ?_)
    (refine J.nil ?_)
    (refine N.seq ?_)
    (refine W.cF rfl ?_)
    (refine W.skip ?_)
    (refine N.seq ?_)
    (refine W.seq ?_)
    (refine W.region ?_)
    (refine Jx.eqlI rfl rfl rfl ?_)
    (refine Jx.assign rfl rfl ?_)
    (refine J.nil ?_)
    (refine N.seq ?_)
    (refine W.cT rfl ?_)
    (refine W.exit ?_)
    (refine N.seq ?_)
    (refine W.seq ?_)
    (refine W.region ?_)
    (refine Jx.move rfl rfl ?_)
    (refine Jx.move rfl rfl ?_)
    (refine J.gY rfl rfl rfl ?_)
    (refine Jx.fieldAddr rfl rfl ?_)
    (refine J.gY rfl rfl rfl ?_)
    (refine Jx.load rfl 0 rfl rfl rfl ?_)
    (refine J.gY rfl rfl rfl ?_)
    (refine Jx.neqS rfl rfl rfl ?_)
    (refine Jx.pT rfl rfl rfl ?_)
    (refine Jx.move rfl rfl ?_)
    (refine' J.guardAnd rfl rfl rfl rfl rfl rfl rfl rfl (fun _ => ?_) ?_; rotate_left)
    (refine J.gY rfl rfl rfl ?_)
    (refine Jx.fieldAddr rfl rfl ?_)
    (refine J.gY rfl rfl rfl ?_)
    (refine Jx.load rfl 0 rfl rfl rfl ?_)
    (refine J.gY rfl rfl rfl ?_)
    (refine Jx.lenS rfl rfl ?_)
    (refine J.gY rfl rfl rfl ?_)
    (refine Jx.leqI rfl rfl rfl ?_)
    (refine J.nil ?_)
    (refine N.joinedN rfl rfl rfl)
    (refine Jx.assign rfl rfl ?_)
    (refine J.nil ?_)
    (refine N.seq ?_)
    (refine W.exit ?_)
    (refine N.blockOther rfl ?_)
    (refine N.seqExit ?_)
    (refine N.blockHere ?_)
    (refine id ?_; rotate_left))
            exact N.joinE () trivial rfl ⟨ref0 rfl, ⟨_, rfl, Sub.of_eq (by rw [kindTx, if_neg h1, if_neg h2, if_pos h3]; rfl)⟩, trivial⟩
          · focus (
    (refine W.block ?_)
    (refine W.seq ?_)
    (refine W.block ?_)
    (refine W.seq ?_)
    (refine W.block ?_)
    (refine W.seq ?_)
    (refine W.block ?_)
    (refine W.seq ?_)
    (refine W.block ?_)
    (refine W.seq ?_)
    (refine W.seq ?_)
    (refine W.seq ?_)
    (refine W.region ?_)
    (refine Jx.eqlI rfl rfl rfl ?_)
    (refine Jx.assign rfl rfl ?_)
    (refine J.nil ?_)
    (refine N.seq ?_)
    (refine W.cF rfl ?_)
    (refine W.skip ?_)
    (refine N.seq ?_)
    (refine W.seq ?_)
    (refine W.seq ?_)
    (refine W.region ?_)
    (refine Jx.eqlI rfl rfl rfl ?_)
    (refine Jx.assign rfl rfl ?_)
    (refine J.nil ?_)
    (refine N.seq ?_)
    (refine W.cF rfl ?_)
    (refine W.skip ?_)
    (refine N.seq ?_)
    (refine W.seq ?_)
    (refine W.region ?_)
    (refine Jx.eqlI rfl rfl rfl ?_)
    (refine Jx.assign rfl rfl ?_)
    (refine J.nil ?_)
    (refine N.seq ?_)
    (refine W.cF rfl ?_)
    (refine W.skip ?_)
    (refine N.seq ?_)
    (refine W.exit ?_)
    (refine N.seq ?_)
    (refine W.seq ?_)
    (refine W.region ?_)
    (refine Jx.fieldAddr rfl rfl ?_)
    (refine Jx.load rfl 0 rfl rfl rfl ?_)
    (refine J.call (cm) rfl (evs_args rfl) rfl ?_; rintro _ _ ⟨rfl, rfl⟩; simp only [List.cons_append, List.nil_append, List.append_nil])
    (refine Jx.eqlI rfl rfl rfl ?_)
    (refine Jx.assign rfl rfl ?_)
    (refine J.nil ?_)
    (refine N.seq ?_)
    (refine W.exit ?_)
    (refine N.blockHere ?_)
    (refine id ?_; rotate_left))
            exact N.joinE () trivial rfl ⟨ref0 rfl, ⟨_, rfl, Sub.of_eq (by rw [kindTx, if_neg h1, if_neg h2, if_neg h3]; exact congrArg bool hz)⟩, trivial⟩
    · intro _ _
      cases hk : kindTx x
      · focus (
    (refine N.seq ?_)
    (refine W.seq ?_)
    (refine W.seq ?_)
    (refine W.region ?_)
    (refine Jx.move rfl rfl ?_)
    (refine Jx.not rfl rfl ?_)
    (refine J.nil ?_)
    (refine N.seq ?_)
    (refine W.cT rfl ?_)
    (refine W.seq ?_)
    (refine W.region ?_)
    (refine Jx.assign rfl rfl ?_)
    (refine J.nil ?_)
    (refine N.seq ?_)
    (refine W.ret ?_)
    (refine N.seqRet ?_)
    (refine id ?_; rotate_left))
        exact N.retD (rs := [.tmp 2]) (L1 := []) rfl (.tmp rfl .nil) (List.nil_sublist _) ⟨rfl, rfl⟩
      · focus (
    (refine N.seq ?_)
    (refine W.seq ?_)
    (refine W.seq ?_)
    (refine W.region ?_)
    (refine Jx.move rfl rfl ?_)
    (refine Jx.not rfl rfl ?_)
    (refine J.nil ?_)
    (refine N.seq ?_)
    (refine W.cF rfl ?_)
    (refine W.skip ?_)
    (refine N.seq ?_)
    (refine W.seq ?_)
    (refine W.region ?_)
    (refine Jx.assign rfl rfl ?_)
    (refine J.nil ?_)
    (refine N.seq ?_)
    (refine W.ret ?_)
    (refine id ?_; rotate_left))
        exact N.retD (rs := [.tmp 2]) (L1 := []) rfl (.tmp rfl .nil) (List.nil_sublist _) ⟨rfl, rfl⟩
set_option maxHeartbeats 1000000 in
theorem tencode_ok (x : Tx) : FnC Tryd.prog 49 [.agg (txC x)] [] (fun v L => v = .tup [str (encO fineTx encTx x), int (codeB (fineTx x) 150)] ∧ L = []) := by
  have c0 := tcheck_ok x
  refine FnC.intro Tryd.func49 rfl Tryd.ntmps49 rfl fun Z w0 hG => ?_
  unfold encO
  cases hf : fineTx x with
  | false =>
    rw [hf] at c0
    focus (
    (refine W.seq ?_)
    (refine W.region ?_)
    (refine J.boxAg rfl rfl ?_; intro b')
    (refine Jx.assign rfl rfl ?_)
    (refine Jx.assign rfl rfl ?_)
    (refine J.nil ?_)
    (refine N.seq ?_)
    (refine W.seq ?_)
    (refine W.seq ?_)
    (refine W.region ?_)
    (refine Jx.loadAll rfl 0 rfl rfl rfl ?_)
    (refine J.call (c0) rfl (evs_args rfl) rfl ?_; rintro _ _ ⟨rfl, rfl⟩; simp only [List.cons_append, List.nil_append, List.append_nil])
    (refine Jx.assign rfl rfl ?_)
    (refine J.nil ?_)
    (refine N.seq ?_)
    (refine W.seq ?_)
    (refine W.region ?_)
    (refine Jx.move rfl rfl ?_)
    (refine Jx.neqI rfl rfl rfl ?_)
    (refine J.nil ?_)
    (refine N.seq ?_)
    (refine W.cT rfl ?_)
    (refine W.seq ?_)
    (refine W.region ?_)
    (refine Jx.move rfl rfl ?_)
    (refine Jx.assign rfl rfl ?_)
    (refine Jx.assign rfl rfl ?_)
    (refine J.nil ?_)
    (refine N.seq ?_)
    (refine W.ret ?_)
    (refine N.seqRet ?_)
    (refine id ?_; rotate_left))
    exact N.retD (rs := [.tmp 2, .tmp 3]) (L1 := []) rfl (.tmp rfl (.tmp rfl .nil)) (List.nil_sublist _) ⟨rfl, rfl⟩
  | true =>
    rw [hf] at c0
    have hF := (fineTx_iff x).1 hf
    have hk := hF.kind
    have f6 := hF.from6
    have fs0 := hF.seq0
    have fsM := hF.seqM
    have c1 := Num_ok x.seq (by omega)
    rw [numR_pos fs0] at c1
    have l1 := numB9 fsM
    have c2 := text_ok x.from_ (by omega)
    have l2 := textB_len f6 (by omega)
    have hkn : x.kind = ((x.kind.toNat : Nat) : Int) := by omega
    have he : encTx x = [UInt8.ofNat x.kind.toNat] ++ textB x.from_ ++ numB x.seq.toNat ++ bodyTx x := rfl
    rw [if_pos rfl, he]
    generalize textB x.from_ = tf at *
    generalize numB x.seq.toNat = nq at *
    focus (
    (refine W.seq ?_)
    (refine W.region ?_)
    (refine J.boxAg rfl rfl ?_; intro b')
    (refine Jx.assign rfl rfl ?_)
    (refine Jx.assign rfl rfl ?_)
    (refine J.nil ?_)
    (refine N.seq ?_)
    (refine W.seq ?_)
    (refine W.seq ?_)
    (refine W.region ?_)
    (refine Jx.loadAll rfl 0 rfl rfl rfl ?_)
    (refine J.call (c0) rfl (evs_args rfl) rfl ?_; rintro _ _ ⟨rfl, rfl⟩; simp only [List.cons_append, List.nil_append, List.append_nil])
    (refine Jx.assign rfl rfl ?_)
    (refine J.nil ?_)
    (refine N.seq ?_)
    (refine W.seq ?_)
    (refine W.region ?_)
    (refine Jx.move rfl rfl ?_)
    (refine Jx.neqI rfl rfl rfl ?_)
    (refine J.nil ?_)
    (refine N.seq ?_)
    (refine W.cF rfl ?_)
    (refine W.skip ?_)
    (refine N.seq ?_)
    (refine W.seq ?_)
    (refine W.region ?_)
    (refine Jx.fieldAddr rfl rfl ?_)
    (refine Jx.load rfl 0 rfl rfl rfl ?_)
    (refine J.call (c1) rfl (evs_args rfl) rfl ?_; rintro _ _ ⟨rfl, rfl⟩; simp only [List.cons_append, List.nil_append, List.append_nil])
    (refine Jx.move rfl rfl ?_)
    (refine Jx.extract rfl rfl rfl ?_)
    (refine Jx.extract rfl rfl rfl ?_)
    (refine Jx.assign rfl rfl ?_)
    (refine Jx.assign rfl rfl ?_)
    (refine J.nil ?_)
    (refine N.seq ?_)
    (refine W.seq ?_)
    (refine W.draw follows ?_)
    (refine JD.calm rfl (by decide +kernel) ?_)
    (refine Cx.fieldAddr rfl rfl ?_)
    (refine Cx.load rfl 0 rfl rfl rfl ?_)
    (refine Cx.numByte x.kind.toNat rfl rfl hkn rfl ?_)
    (refine SegC.q (Qs.buildBytes [UInt8.ofNat x.kind.toNat] rfl rfl rfl (by decide) (by decide)) rfl ?_)
    (refine Cx.bytesStr rfl rfl ?_)
    (refine Cx.fieldAddr rfl rfl ?_)
    (refine Cx.load rfl 0 rfl rfl rfl ?_)
    (refine SegC.q (Qs.call (Lc := []) (c2) (fun s L' h => h) (List.Perm.refl _) (evs_args rfl)) rfl ?_)
    (refine Cx.cat rfl rfl (by first | omega | (simp only [List.length_append, List.length_cons, List.length_nil]; omega)) rfl ?_)
    (refine Cx.move rfl rfl ?_)
    (refine Cx.cat rfl rfl (by first | omega | (simp only [List.length_append, List.length_cons, List.length_nil]; omega)) rfl ?_)
    (refine Cx.assign rfl rfl ?_)
    (refine SegC.nil ?_)
    (refine N.seq ?_)
    (refine W.seq ?_)
    (refine W.seq ?_)
    (refine W.region ?_)
    (refine Jx.fieldAddr rfl rfl ?_)
    (refine Jx.load rfl 0 rfl rfl rfl ?_)
    (refine J.nil ?_)
    (refine N.seq ?_)
    (refine W.block ?_)
    (refine W.seq ?_)
    (refine W.region ?_)
    (refine Jx.eqlI rfl rfl rfl ?_)
    (refine Jx.assign rfl rfl ?_)
    (refine J.nil ?_)
    (refine N.seq ?_)
    (refine id ?_; rotate_left))
    refine W.cond rfl (fun h1 => ?_) (fun h1 => ?_)
    · have h1 := of_decide_eq_true h1
      obtain ⟨⟨a1, a2, a3, a4⟩, _⟩ := hF.k1 h1
      have hb : bodyTx x = textB x.to_ ++ numB x.amount.toNat := by rw [bodyTx, if_pos h1]
      have c3 := Num_ok x.amount (by omega)
      rw [numR_pos (by omega)] at c3
      have c4 := text_ok x.to_ (by omega)
      have l3 := numB9 a4
      have l4 := textB_len a2 (by omega)
      rw [hb]
      generalize textB x.to_ = tt at *
      generalize numB x.amount.toNat = na at *
      focus (
    (refine W.seq ?_)
    (refine W.region ?_)
    (refine Jx.fieldAddr rfl rfl ?_)
    (refine Jx.load rfl 0 rfl rfl rfl ?_)
    (refine J.call (c3) rfl (evs_args rfl) rfl ?_; rintro _ _ ⟨rfl, rfl⟩; simp only [List.cons_append, List.nil_append, List.append_nil])
    (refine Jx.move rfl rfl ?_)
    (refine Jx.extract rfl rfl rfl ?_)
    (refine Jx.extract rfl rfl rfl ?_)
    (refine Jx.assign rfl rfl ?_)
    (refine Jx.assign rfl rfl ?_)
    (refine J.nil ?_)
    (refine N.seq ?_)
    (refine W.region ?_)
    (refine Jx.move rfl rfl ?_)
    (refine Jx.fieldAddr rfl rfl ?_)
    (refine Jx.load rfl 0 rfl rfl rfl ?_)
    (refine J.call (c4) rfl (evs_args rfl) rfl ?_; rintro _ _ ⟨rfl, rfl⟩; simp only [List.cons_append, List.nil_append, List.append_nil])
    (refine Jx.move rfl rfl ?_)
    (refine Jx.cat rfl rfl (by first | omega | (simp only [List.length_append, List.length_cons, List.length_nil]; omega)) rfl ?_)
    (refine Jx.cat rfl rfl (by first | omega | (simp only [List.length_append, List.length_cons, List.length_nil]; omega)) rfl ?_)
    (refine Jx.assign rfl rfl ?_)
    (refine J.nil ?_)
    (refine N.seq ?_)
    (refine W.seq ?_)
    (refine W.region ?_)
    (refine Jx.move rfl rfl ?_)
    (refine Jx.assign rfl rfl ?_)
    (refine Jx.assign rfl rfl ?_)
    (refine J.nil ?_)
    (refine N.seq ?_)
    (refine W.ret ?_)
    (refine id ?_; rotate_left))
      exact N.retD (rs := [.tmp 2, .tmp 3]) (L1 := []) rfl (.tmp rfl (.tmp rfl .nil)) (List.nil_sublist _) ⟨rfl, rfl⟩
    · have h1 := of_decide_eq_false h1
      focus (
    (refine W.seq ?_)
    (refine W.region ?_)
    (refine Jx.eqlI rfl rfl rfl ?_)
    (refine Jx.assign rfl rfl ?_)
    (refine J.nil ?_)
    (refine N.seq ?_)
    (refine id ?_; rotate_left))
      refine W.cond rfl (fun h2 => ?_) (fun h2 => ?_)
      · have h2 := of_decide_eq_true h2
        obtain ⟨⟨a1, a2, a3, a4⟩, _⟩ := hF.k2 h2
        have hb : bodyTx x = textB x.key ++ textB x.value := by rw [bodyTx, if_neg h1, if_pos h2]
        have c3 := text_ok x.key (by omega)
        have c4 := text_ok x.value (by omega)
        have l3 := textB_len a2 (by omega)
        have l4 := textB_len a4 (by omega)
        rw [hb]
        generalize textB x.key = tt at *
        generalize textB x.value = na at *
        focus (
    (refine W.draw follows ?_)
    (refine JD.calm rfl (by decide +kernel) ?_)
    (refine Cx.move rfl rfl ?_)
    (refine Cx.fieldAddr rfl rfl ?_)
    (refine Cx.load rfl 0 rfl rfl rfl ?_)
    (refine SegC.q (Qs.call (Lc := []) (c3) (fun s L' h => h) (List.Perm.refl _) (evs_args rfl)) rfl ?_)
    (refine Cx.fieldAddr rfl rfl ?_)
    (refine Cx.load rfl 0 rfl rfl rfl ?_)
    (refine SegC.q (Qs.call (Lc := []) (c4) (fun s L' h => h) (List.Perm.refl _) (evs_args rfl)) rfl ?_)
    (refine Cx.cat rfl rfl (by first | omega | (simp only [List.length_append, List.length_cons, List.length_nil]; omega)) rfl ?_)
    (refine Cx.cat rfl rfl (by first | omega | (simp only [List.length_append, List.length_cons, List.length_nil]; omega)) rfl ?_)
    (refine Cx.assign rfl rfl ?_)
    (refine SegC.nil ?_)
    (refine N.seq ?_)
    (refine W.seq ?_)
    (refine W.region ?_)
    (refine Jx.move rfl rfl ?_)
    (refine Jx.assign rfl rfl ?_)
    (refine Jx.assign rfl rfl ?_)
    (refine J.nil ?_)
    (refine N.seq ?_)
    (refine W.ret ?_)
    (refine id ?_; rotate_left))
        exact N.retD (rs := [.tmp 2, .tmp 3]) (L1 := []) rfl (.tmp rfl (.tmp rfl .nil)) (List.nil_sublist _) ⟨rfl, rfl⟩
      · have h2 := of_decide_eq_false h2
        focus (
    (refine W.seq ?_)
    (refine W.region ?_)
    (refine Jx.eqlI rfl rfl rfl ?_)
    (refine Jx.assign rfl rfl ?_)
    (refine J.nil ?_)
    (refine N.seq ?_)
    (refine id ?_; rotate_left))
        refine W.cond rfl (fun h3 => ?_) (fun h3 => ?_)
        · have h3 := of_decide_eq_true h3
          obtain ⟨⟨a1, a2⟩, _⟩ := hF.k3 h3
          have hb : bodyTx x = textB x.key := by rw [bodyTx, if_neg h1, if_neg h2, if_pos h3]
          have c3 := text_ok x.key (by omega)
          have l3 := textB_len a2 (by omega)
          rw [hb]
          generalize textB x.key = tt at *
          focus (
    (refine W.region ?_)
    (refine Jx.move rfl rfl ?_)
    (refine Jx.fieldAddr rfl rfl ?_)
    (refine Jx.load rfl 0 rfl rfl rfl ?_)
    (refine J.call (c3) rfl (evs_args rfl) rfl ?_; rintro _ _ ⟨rfl, rfl⟩; simp only [List.cons_append, List.nil_append, List.append_nil])
    (refine Jx.cat rfl rfl (by first | omega | (simp only [List.length_append, List.length_cons, List.length_nil]; omega)) rfl ?_)
    (refine Jx.assign rfl rfl ?_)
    (refine J.nil ?_)
    (refine N.seq ?_)
    (refine W.seq ?_)
    (refine W.region ?_)
    (refine Jx.move rfl rfl ?_)
    (refine Jx.assign rfl rfl ?_)
    (refine Jx.assign rfl rfl ?_)
    (refine J.nil ?_)
    (refine N.seq ?_)
    (refine W.ret ?_)
    (refine id ?_; rotate_left))
          exact N.retD (rs := [.tmp 2, .tmp 3]) (L1 := []) rfl (.tmp rfl (.tmp rfl .nil)) (List.nil_sublist _) ⟨rfl, rfl⟩
        · have h3 := of_decide_eq_false h3
          have h4 : x.kind = 4 := by omega
          have a1 := (hF.k4 h4).1
          have hb : bodyTx x = textB (encSet x.members) := by rw [bodyTx, if_neg h1, if_neg h2, if_neg h3]
          have c3 := pencode_ok x.members
          rw [a1, encO, if_pos a1] at c3
          have hl := encSet_len a1
          have c4 := text_ok (encSet x.members) (by omega)
          have l3 := textB_len hl (by omega)
          rw [hb]
          generalize textB (encSet x.members) = tt at *
          generalize encSet x.members = es at *
          focus (
    (refine W.seq ?_)
    (refine W.region ?_)
    (refine Jx.eqlI rfl rfl rfl ?_)
    (refine Jx.assign rfl rfl ?_)
    (refine J.nil ?_)
    (refine N.seq ?_)
    (refine W.cT rfl ?_)
    (refine W.seq ?_)
    (refine W.region ?_)
    (refine Jx.fieldAddr rfl rfl ?_)
    (refine Jx.load rfl 0 rfl rfl rfl ?_)
    (refine J.call (c3) rfl (evs_args rfl) rfl ?_; rintro _ _ ⟨rfl, rfl⟩; simp only [List.cons_append, List.nil_append, List.append_nil])
    (refine Jx.move rfl rfl ?_)
    (refine Jx.extract rfl rfl rfl ?_)
    (refine Jx.extract rfl rfl rfl ?_)
    (refine Jx.assign rfl rfl ?_)
    (refine Jx.assign rfl rfl ?_)
    (refine J.nil ?_)
    (refine N.seq ?_)
    (refine W.region ?_)
    (refine Jx.move rfl rfl ?_)
    (refine Jx.move rfl rfl ?_)
    (refine J.call (c4) rfl (evs_args rfl) rfl ?_; rintro _ _ ⟨rfl, rfl⟩; simp only [List.cons_append, List.nil_append, List.append_nil])
    (refine Jx.cat rfl rfl (by first | omega | (simp only [List.length_append, List.length_cons, List.length_nil]; omega)) rfl ?_)
    (refine Jx.assign rfl rfl ?_)
    (refine J.nil ?_)
    (refine N.seq ?_)
    (refine W.seq ?_)
    (refine W.region ?_)
    (refine Jx.move rfl rfl ?_)
    (refine Jx.assign rfl rfl ?_)
    (refine Jx.assign rfl rfl ?_)
    (refine J.nil ?_)
    (refine N.seq ?_)
    (refine W.ret ?_)
    (refine id ?_; rotate_left))
          exact N.retD (rs := [.tmp 2, .tmp 3]) (L1 := []) rfl (.tmp rfl (.tmp rfl .nil)) (List.nil_sublist _) ⟨rfl, rfl⟩
end Go.Proofs.YtlfdhkahiaammaaDoor
namespace Go.Proofs.YtlfdhkahiaammaaDoor
open Go Go.Sse
set_option linter.unusedVariables false
set_option linter.unusedSimpArgs false
set_option maxRecDepth 10000
set_option maxHeartbeats 2000000 in
theorem sameT_ok (x y : Tx) (hb : x.members.length ≤ 1048576) : FnC Tryd.prog 46 [.agg (txC x), .agg (txC y)] [] (fun v L => v = bool (decide (x = y)) ∧ L = []) := by
  have c := sameM_ok x.members y.members hb
  refine FnC.intro Tryd.func46 rfl Tryd.ntmps46 rfl fun Z w0 hG => ?_
  focus (
    (refine W.seq ?_)
    (refine W.region ?_)
    (refine J.boxAg rfl rfl ?_; intro b')
    (refine J.boxAg rfl rfl ?_; intro b')
    (refine Jx.assign rfl rfl ?_)
    (refine J.nil ?_)
    (refine N.seq ?_)
    (refine W.seq ?_)
    (refine W.seq ?_)
    (refine W.region ?_)
    (refine Jx.fieldAddr rfl rfl ?_)
    (refine Jx.load rfl 1 rfl rfl rfl ?_)
    (refine Jx.fieldAddr rfl rfl ?_)
    (refine Jx.load rfl 0 rfl rfl rfl ?_)
    (refine Jx.neqI rfl rfl rfl ?_)
    (refine Jx.move rfl rfl ?_)
    (refine' J.guardOr rfl rfl rfl rfl rfl rfl rfl rfl (fun _ => ?_) ?_; rotate_left)
    (refine J.gY rfl rfl rfl ?_)
    (refine Jx.fieldAddr rfl rfl ?_)
    (refine J.gY rfl rfl rfl ?_)
    (refine Jx.load rfl 1 rfl rfl rfl ?_)
    (refine J.gY rfl rfl rfl ?_)
    (refine Jx.fieldAddr rfl rfl ?_)
    (refine J.gY rfl rfl rfl ?_)
    (refine Jx.load rfl 0 rfl rfl rfl ?_)
    (refine J.gY rfl rfl rfl ?_)
    (refine Jx.neqS rfl rfl rfl ?_)
    (refine J.nil ?_)
    (refine N.joinedN rfl rfl rfl)
    (refine Jx.move rfl rfl ?_)
    (refine' J.guardOr rfl rfl rfl rfl rfl rfl rfl rfl (fun _ => ?_) ?_; rotate_left)
    (refine J.gY rfl rfl rfl ?_)
    (refine Jx.fieldAddr rfl rfl ?_)
    (refine J.gY rfl rfl rfl ?_)
    (refine Jx.load rfl 1 rfl rfl rfl ?_)
    (refine J.gY rfl rfl rfl ?_)
    (refine Jx.fieldAddr rfl rfl ?_)
    (refine J.gY rfl rfl rfl ?_)
    (refine Jx.load rfl 0 rfl rfl rfl ?_)
    (refine J.gY rfl rfl rfl ?_)
    (refine Jx.neqI rfl rfl rfl ?_)
    (refine J.nil ?_)
    (refine N.joinedN rfl rfl rfl)
    (refine Jx.move rfl rfl ?_)
    (refine' J.guardOr rfl rfl rfl rfl rfl rfl rfl rfl (fun _ => ?_) ?_; rotate_left)
    (refine J.gY rfl rfl rfl ?_)
    (refine Jx.fieldAddr rfl rfl ?_)
    (refine J.gY rfl rfl rfl ?_)
    (refine Jx.load rfl 1 rfl rfl rfl ?_)
    (refine J.gY rfl rfl rfl ?_)
    (refine Jx.fieldAddr rfl rfl ?_)
    (refine J.gY rfl rfl rfl ?_)
    (refine Jx.load rfl 0 rfl rfl rfl ?_)
    (refine J.gY rfl rfl rfl ?_)
    (refine Jx.neqS rfl rfl rfl ?_)
    (refine J.nil ?_)
    (refine N.joinedN rfl rfl rfl)
    (refine Jx.move rfl rfl ?_)
    (refine' J.guardOr rfl rfl rfl rfl rfl rfl rfl rfl (fun _ => ?_) ?_; rotate_left)
    (refine J.gY rfl rfl rfl ?_)
    (refine Jx.fieldAddr rfl rfl ?_)
    (refine J.gY rfl rfl rfl ?_)
    (refine Jx.load rfl 1 rfl rfl rfl ?_)
    (refine J.gY rfl rfl rfl ?_)
    (refine Jx.fieldAddr rfl rfl ?_)
    (refine J.gY rfl rfl rfl ?_)
    (refine Jx.load rfl 0 rfl rfl rfl ?_)
    (refine J.gY rfl rfl rfl ?_)
    (refine Jx.neqI rfl rfl rfl ?_)
    (refine J.nil ?_)
    (refine N.joinedN rfl rfl rfl)
    (refine Jx.move rfl rfl ?_)
    (refine' J.guardOr rfl rfl rfl rfl rfl rfl rfl rfl (fun _ => ?_) ?_; rotate_left)
    (refine J.gY rfl rfl rfl ?_)
    (refine Jx.fieldAddr rfl rfl ?_)
    (refine J.gY rfl rfl rfl ?_)
    (refine Jx.load rfl 1 rfl rfl rfl ?_)
    (refine J.gY rfl rfl rfl ?_)
    (refine Jx.fieldAddr rfl rfl ?_)
    (refine J.gY rfl rfl rfl ?_)
    (refine Jx.load rfl 0 rfl rfl rfl ?_)
    (refine J.gY rfl rfl rfl ?_)
    (refine Jx.neqS rfl rfl rfl ?_)
    (refine J.nil ?_)
    (refine N.joinedN rfl rfl rfl)
    (refine Jx.move rfl rfl ?_)
    (refine' J.guardOr rfl rfl rfl rfl rfl rfl rfl rfl (fun _ => ?_) ?_; rotate_left)
    (refine J.gY rfl rfl rfl ?_)
    (refine Jx.fieldAddr rfl rfl ?_)
    (refine J.gY rfl rfl rfl ?_)
    (refine Jx.load rfl 1 rfl rfl rfl ?_)
    (refine J.gY rfl rfl rfl ?_)
    (refine Jx.fieldAddr rfl rfl ?_)
    (refine J.gY rfl rfl rfl ?_)
    (refine Jx.load rfl 0 rfl rfl rfl ?_)
    (refine J.gY rfl rfl rfl ?_)
    (refine Jx.neqS rfl rfl rfl ?_)
    (refine J.nil ?_)
    (refine N.joinedN rfl rfl rfl)
    (refine J.nil ?_)
    (refine N.seq ?_)
    (refine id ?_; rotate_left))
  refine W.cond rfl (fun hb => ?_) (fun hb => ?_)
  · have hne : x ≠ y := fun e => by subst e; simp at hb
    focus (
    (refine W.seq ?_)
    (refine W.region ?_)
    (refine Jx.assign rfl rfl ?_)
    (refine J.nil ?_)
    (refine N.seq ?_)
    (refine W.ret ?_)
    (refine N.seqRet ?_)
    (refine id ?_; rotate_left))
    exact N.retD (rs := [.tmp 4]) (L1 := []) rfl (.tmp rfl .nil) (List.nil_sublist _) ⟨by rw [decide_eq_false hne]; rfl, rfl⟩
  · simp only [Bool.or_eq_false_iff, decide_eq_false_iff_not, Classical.not_not] at hb
    obtain ⟨⟨⟨⟨⟨⟨e1, e2⟩, e3⟩, e4⟩, e5⟩, e6⟩, e7⟩ := hb
    have he : decide (x.members = y.members) = decide (x = y) := by
      by_cases h : x.members = y.members
      · rw [decide_eq_true h, decide_eq_true (Tx.ext' e1 e2 e3 e4 e5 e6 e7 h)]
      · rw [decide_eq_false h, decide_eq_false fun e => h (by rw [e])]
    focus (
    (refine W.skip ?_)
    (refine N.seq ?_)
    (refine W.seq ?_)
    (refine W.region ?_)
    (refine Jx.fieldAddr rfl rfl ?_)
    (refine Jx.load rfl 1 rfl rfl rfl ?_)
    (refine Jx.fieldAddr rfl rfl ?_)
    (refine Jx.load rfl 0 rfl rfl rfl ?_)
    (refine J.call (c) rfl (evs_args rfl) rfl ?_; rintro _ _ ⟨rfl, rfl⟩; simp only [List.cons_append, List.nil_append, List.append_nil])
    (refine Jx.assign rfl rfl ?_)
    (refine J.nil ?_)
    (refine N.seq ?_)
    (refine W.ret ?_)
    (refine id ?_; rotate_left))
    exact N.retD (rs := [.tmp 4]) (L1 := []) rfl (.tmp rfl .nil) (List.nil_sublist _) ⟨by rw [he]; rfl, rfl⟩
end Go.Proofs.YtlfdhkahiaammaaDoor
namespace Go.Proofs.YtlfdhkahiaammaaDoor
open Go Go.Sse
set_option linter.unusedVariables false
set_option linter.unusedSimpArgs false
set_option maxRecDepth 10000
abbrev txz : List SV := [int 0, str [], int 0, str [], int 0, str [], str [], .val (.slice none 0 0)]
theorem txz_sub : SubL txz (txC tx0) := .cons (.refl _) (.cons (.refl _) (.cons (.refl _) (.cons (.refl _) (.cons (.refl _) (.cons (.refl _) (.cons (.refl _) (.cons (Sub.nil 2 _) .nil)))))))
theorem tx_sub (k q a : Int) (f t ky v : List UInt8) : SubL [int k, str f, int q, str t, int a, str ky, str v, .val (.slice none 0 0)] (txC ⟨k, f, q, t, a, ky, v, []⟩) := .cons (.refl _) (.cons (.refl _) (.cons (.refl _) (.cons (.refl _) (.cons (.refl _) (.cons (.refl _) (.cons (.refl _) (.cons (Sub.nil 2 _) .nil)))))))
theorem agTx : TAg Tryd.prog tTx 8 := inferInstance
def kdOf (k : List UInt8) : Int := (((k.getD 0 0).toNat : Nat) : Int)
theorem lf_len {s l : List UInt8} {a : Nat} {c : Int} (h : lf s a c = some l) : l.length ≤ s.length := by
  unfold lf at h
  split at h
  · simp only [Option.some.injEq] at h
    rw [← h, List.length_drop]; omega
  · cases h
theorem bound_text {m : Int} {s t : List UInt8} {a : Nat} {c : Int} {st : PSt} (h : textP m (lf s a c) = (t, st)) : t.length ≤ s.length := by
  cases st with
  | none => rw [textP_short h]; simp
  | some r =>
    have h1 := (textP_good h).1
    have h2 := lf_len h1
    rw [List.length_append, textB, List.length_append] at h2
    omega
set_option maxHeartbeats 4000000 in
theorem tdecode_ok (s : List UInt8) (hs : s.length ≤ 1099511627776) : FnC Tryd.prog 90 [str s] [] (fun v L => (∃ o, DecR fineTx encTx s o ∧ v = .tup [.agg (txC (o.getD tx0)), int (codeO o 150)]) ∧ L = []) := by
  have c0 := read_ok s
  have c1 := fun b => rd_Bytes b s 0 0 1 (Nat.zero_le _) hs
  refine FnC.intro Tryd.func90 rfl Tryd.ntmps90 rfl fun Z w0 hG => ?_
  focus (
    (refine W.seq ?_)
    (refine W.region ?_)
    (refine J.alloc (by simp only [List.map_cons, List.map_nil]; rfl) rfl rfl ?_; intro b')
    (refine Jx.assign rfl rfl ?_)
    (refine J.nil ?_)
    (refine N.seq ?_)
    (refine W.seq ?_)
    (refine W.region ?_)
    (refine Jx.move rfl rfl ?_)
    (refine J.call (Lc := []) c0 rfl (evs_args rfl) rfl ?_; rintro _ _ ⟨b, rfl, rfl⟩; simp only [List.cons_append, List.nil_append, List.append_nil])
    (refine Jx.assign rfl rfl ?_)
    (refine J.nil ?_)
    (refine N.seq ?_)
    (refine W.seq ?_)
    (refine W.region ?_)
    (refine J.alloc (by simp only [List.map_cons, List.map_nil]; rfl) rfl rfl ?_; intro b')
    (refine J.nil ?_)
    (refine N.seq ?_)
    (refine W.seq ?_)
    (refine W.seq ?_)
    (refine W.region ?_)
    (refine Jx.move rfl rfl ?_)
    (refine J.call1 1 ((c1 _)) rfl (evs_args rfl) rfl (by rintro _ _ ⟨k, a1, c1', rfl, rfl, ha1, hk⟩; exact ⟨_, rfl⟩) ?_; rintro _ _ ⟨k, a1, c1', rfl, ⟨⟩, ha1, hk⟩; simp only [List.set_cons_zero, List.set_cons_succ])
    (refine Jx.assign rfl rfl ?_)
    (refine J.nil ?_)
    (refine N.seq ?_)
    (refine W.seq ?_)
    (refine W.region ?_)
    (refine Jx.move rfl rfl ?_)
    (refine Jx.neqS rfl rfl rfl ?_)
    (refine J.nil ?_)
    (refine N.seq ?_)
    (refine id ?_; rotate_left))
  rename_i p2
  refine W.joinE (α := Unit) (fun _ => [(4, ptr b), (5, ptr b'), (2, ptr p2)]) (fun _ => [.obj b' tTx [int (kdOf k), str [], int 0, str [], int 0, str [], str [], .val (.slice none 0 0)], rdO b ⟨s, a1, c1'⟩, .obj p2 tTx txz]) (fun _ => True) ?_ ?_
  · refine W.cond rfl (fun h1 => ?_) (fun h1 => ?_)
    · have h1 := of_decide_eq_true h1
      have hl : (0 : Int) < (k.length : Int) := by have := List.length_pos_iff.2 h1; omega
      focus (
    (refine W.region ?_)
    (refine Jx.move rfl rfl ?_)
    (refine Jx.indexS (m := 0) rfl rfl (by decide) hl rfl ?_)
    (refine Jx.byteNum rfl rfl rfl ?_)
    (refine Jx.fieldAddr rfl rfl ?_)
    (refine J.st 0 rfl rfl rfl rfl rfl rfl ?_)
    (refine J.nil ?_)
    (refine id ?_; rotate_left))
      exact N.joinE () trivial rfl ⟨ref0 rfl, ref0 rfl, ref0 rfl, trivial⟩
    · have h1 : k = [] := by have := of_decide_eq_false h1; exact Classical.not_not.1 this
      focus (
    (refine W.skip ?_)
    (refine id ?_; rotate_left))
      exact N.joinE () trivial (by rw [h1]; rfl) ⟨ref0 rfl, ref0 rfl, ref0 rfl, trivial⟩
  · intro _ _
    have c2 := rd_Text b s a1 c1' 6 ha1 hs
    generalize hkd : kdOf k = kd at *
    focus (
    (refine N.seq ?_)
    (refine W.seq ?_)
    (refine W.region ?_)
    (refine Jx.move rfl rfl ?_)
    (refine J.call1 1 (c2) rfl (evs_args rfl) rfl (by rintro _ _ ⟨f, a2, c2', rfl, rfl, ha2, hf⟩; exact ⟨_, rfl⟩) ?_; rintro _ _ ⟨f, a2, c2', rfl, ⟨⟩, ha2, hf⟩; simp only [List.set_cons_zero, List.set_cons_succ])
    (refine Jx.fieldAddr rfl rfl ?_)
    (refine J.st 0 rfl rfl rfl rfl rfl rfl ?_)
    (refine J.nil ?_)
    (refine N.seq ?_)
    (refine W.seq ?_)
    (refine W.region ?_)
    (refine Jx.move rfl rfl ?_)
    (refine J.call1 1 ((rd_Num b s a2 c2' ha2 hs)) rfl (evs_args rfl) rfl (by rintro _ _ ⟨q, a3, c3', rfl, rfl, ha3, hql, hq⟩; exact ⟨_, rfl⟩) ?_; rintro _ _ ⟨q, a3, c3', rfl, ⟨⟩, ha3, hql, hq⟩; simp only [List.set_cons_zero, List.set_cons_succ])
    (refine Jx.fieldAddr rfl rfl ?_)
    (refine J.st 0 rfl rfl rfl rfl rfl rfl ?_)
    (refine J.nil ?_)
    (refine N.seq ?_)
    (refine W.seq ?_)
    (refine W.seq ?_)
    (refine W.region ?_)
    (refine Jx.fieldAddr rfl rfl ?_)
    (refine Jx.load rfl 0 rfl rfl rfl ?_)
    (refine J.nil ?_)
    (refine N.seq ?_)
    (refine id ?_; rotate_left))
    refine W.joinE (α := Tx × Nat × Int) (fun x => [(4, ptr b), (5, ptr b'), (2, ptr p2)]) (fun x => [.obj b' tTx (txC x.1), rdO b ⟨s, x.2.1, x.2.2⟩, .obj p2 tTx txz]) (fun x => x.2.1 ≤ s.length ∧ ReadT 6 6 8 32 65536 s x.1 (lf s x.2.1 x.2.2)) ?_ ?_
    · have mk : ∀ (x : Tx) st, x.kind = kd → x.from_ = f → x.seq = (q : Int) → TailR 6 8 32 65536 x (lf s a3 c3') st → ReadT 6 6 8 32 65536 s x st := fun x st h1 h2 h3 h4 =>
        ⟨k, _, _, _, q, hk, by rw [h1, ← hkd]; rfl, by rw [h2]; exact hf, hq, h3, h4⟩
      by_cases e1 : kd = 1
      · focus (
    (refine W.block ?_)
    (refine W.seq ?_)
    (refine W.region ?_)
    (refine Jx.eqlI rfl rfl rfl ?_)
    (refine Jx.assign rfl rfl ?_)
    (refine J.nil ?_)
    (refine N.seq ?_)
    (refine W.cT rfl ?_)
    (refine W.seq ?_)
    (refine W.region ?_)
    (refine Jx.move rfl rfl ?_)
    (refine J.call1 1 ((rd_Text b s a3 c3' 6 ha3 hs)) rfl (evs_args rfl) rfl (by rintro _ _ ⟨t, a4, c4', rfl, rfl, ha4, ht⟩; exact ⟨_, rfl⟩) ?_; rintro _ _ ⟨t, a4, c4', rfl, ⟨⟩, ha4, ht⟩; simp only [List.set_cons_zero, List.set_cons_succ])
    (refine Jx.fieldAddr rfl rfl ?_)
    (refine J.st 0 rfl rfl rfl rfl rfl rfl ?_)
    (refine J.nil ?_)
    (refine N.seq ?_)
    (refine W.region ?_)
    (refine Jx.move rfl rfl ?_)
    (refine J.call1 1 ((rd_Num b s a4 c4' ha4 hs)) rfl (evs_args rfl) rfl (by rintro _ _ ⟨n, a5, c5', rfl, rfl, ha5, hnl, hn⟩; exact ⟨_, rfl⟩) ?_; rintro _ _ ⟨n, a5, c5', rfl, ⟨⟩, ha5, hnl, hn⟩; simp only [List.set_cons_zero, List.set_cons_succ])
    (refine Jx.fieldAddr rfl rfl ?_)
    (refine J.st 0 rfl rfl rfl rfl rfl rfl ?_)
    (refine J.nil ?_)
    (refine N.blockNormal ?_)
    (refine id ?_; rotate_left))
        refine N.objSub 0 (txC ⟨kd, f, q, t, n, [], [], []⟩) rfl (tx_sub _ _ _ _ _ _ _) rfl ?_
        exact N.joinE (⟨kd, f, q, t, n, [], [], []⟩, a5, c5') ⟨ha5, mk _ _ rfl rfl rfl (by unfold TailR; rw [if_pos (by exact e1)]; exact ⟨⟨_, n, ht, hn, rfl⟩, rfl, rfl, rfl⟩)⟩ rfl ⟨ref0 rfl, ref0 rfl, ref0 rfl, trivial⟩
      · by_cases e2 : kd = 2
        · focus (
    (refine W.block ?_)
    (refine W.seq ?_)
    (refine W.region ?_)
    (refine Jx.eqlI rfl rfl rfl ?_)
    (refine Jx.assign rfl rfl ?_)
    (refine J.nil ?_)
    (refine N.seq ?_)
    (refine W.cF rfl ?_)
    (refine W.seq ?_)
    (refine W.region ?_)
    (refine Jx.eqlI rfl rfl rfl ?_)
    (refine Jx.assign rfl rfl ?_)
    (refine J.nil ?_)
    (refine N.seq ?_)
    (refine W.cT rfl ?_)
    (refine W.seq ?_)
    (refine W.region ?_)
    (refine Jx.move rfl rfl ?_)
    (refine J.call1 1 ((rd_Text b s a3 c3' 8 ha3 hs)) rfl (evs_args rfl) rfl (by rintro _ _ ⟨t, a4, c4', rfl, rfl, ha4, ht⟩; exact ⟨_, rfl⟩) ?_; rintro _ _ ⟨t, a4, c4', rfl, ⟨⟩, ha4, ht⟩; simp only [List.set_cons_zero, List.set_cons_succ])
    (refine Jx.fieldAddr rfl rfl ?_)
    (refine J.st 0 rfl rfl rfl rfl rfl rfl ?_)
    (refine J.nil ?_)
    (refine N.seq ?_)
    (refine W.region ?_)
    (refine Jx.move rfl rfl ?_)
    (refine J.call1 1 ((rd_Text b s a4 c4' 32 ha4 hs)) rfl (evs_args rfl) rfl (by rintro _ _ ⟨n, a5, c5', rfl, rfl, ha5, hn⟩; exact ⟨_, rfl⟩) ?_; rintro _ _ ⟨n, a5, c5', rfl, ⟨⟩, ha5, hn⟩; simp only [List.set_cons_zero, List.set_cons_succ])
    (refine Jx.fieldAddr rfl rfl ?_)
    (refine J.st 0 rfl rfl rfl rfl rfl rfl ?_)
    (refine J.nil ?_)
    (refine N.blockNormal ?_)
    (refine id ?_; rotate_left))
          refine N.objSub 0 (txC ⟨kd, f, q, [], 0, t, n, []⟩) rfl (tx_sub _ _ _ _ _ _ _) rfl ?_
          exact N.joinE (⟨kd, f, q, [], 0, t, n, []⟩, a5, c5') ⟨ha5, mk _ _ rfl rfl rfl (by unfold TailR; rw [if_neg (by exact e1), if_pos (by exact e2)]; exact ⟨⟨_, ht, hn⟩, rfl, rfl, rfl⟩)⟩ rfl ⟨ref0 rfl, ref0 rfl, ref0 rfl, trivial⟩
        · by_cases e3 : kd = 3
          · focus (
    (refine W.block ?_)
    (refine W.seq ?_)
    (refine W.region ?_)
    (refine Jx.eqlI rfl rfl rfl ?_)
    (refine Jx.assign rfl rfl ?_)
    (refine J.nil ?_)
    (refine N.seq ?_)
    (refine W.cF rfl ?_)
    (refine W.seq ?_)
    (refine W.region ?_)
    (refine Jx.eqlI rfl rfl rfl ?_)
    (refine Jx.assign rfl rfl ?_)
    (refine J.nil ?_)
    (refine N.seq ?_)
    (refine W.cF rfl ?_)
    (refine W.seq ?_)
    (refine W.region ?_)
    (refine Jx.eqlI rfl rfl rfl ?_)
    (refine Jx.assign rfl rfl ?_)
    (refine J.nil ?_)
    (refine N.seq ?_)
    (refine W.cT rfl ?_)
    (refine W.region ?_)
    (refine Jx.move rfl rfl ?_)
    (refine J.call1 1 ((rd_Text b s a3 c3' 8 ha3 hs)) rfl (evs_args rfl) rfl (by rintro _ _ ⟨t, a4, c4', rfl, rfl, ha4, ht⟩; exact ⟨_, rfl⟩) ?_; rintro _ _ ⟨t, a4, c4', rfl, ⟨⟩, ha4, ht⟩; simp only [List.set_cons_zero, List.set_cons_succ])
    (refine Jx.fieldAddr rfl rfl ?_)
    (refine J.st 0 rfl rfl rfl rfl rfl rfl ?_)
    (refine J.nil ?_)
    (refine N.blockNormal ?_)
    (refine id ?_; rotate_left))
            refine N.objSub 0 (txC ⟨kd, f, q, [], 0, t, [], []⟩) rfl (tx_sub _ _ _ _ _ _ _) rfl ?_
            exact N.joinE (⟨kd, f, q, [], 0, t, [], []⟩, a4, c4') ⟨ha4, mk _ _ rfl rfl rfl (by unfold TailR; rw [if_neg (by exact e1), if_neg (by exact e2), if_pos (by exact e3)]; exact ⟨ht, rfl, rfl, rfl, rfl⟩)⟩ rfl ⟨ref0 rfl, ref0 rfl, ref0 rfl, trivial⟩
          · by_cases e4 : kd = 4
            · focus (
    (refine W.block ?_)
    (refine W.seq ?_)
    (refine W.region ?_)
    (refine Jx.eqlI rfl rfl rfl ?_)
    (refine Jx.assign rfl rfl ?_)
    (refine J.nil ?_)
    (refine N.seq ?_)
    (refine W.cF rfl ?_)
    (refine W.seq ?_)
    (refine W.region ?_)
    (refine Jx.eqlI rfl rfl rfl ?_)
    (refine Jx.assign rfl rfl ?_)
    (refine J.nil ?_)
    (refine N.seq ?_)
    (refine W.cF rfl ?_)
    (refine W.seq ?_)
    (refine W.region ?_)
    (refine Jx.eqlI rfl rfl rfl ?_)
    (refine Jx.assign rfl rfl ?_)
    (refine J.nil ?_)
    (refine N.seq ?_)
    (refine W.cF rfl ?_)
    (refine W.seq ?_)
    (refine W.region ?_)
    (refine Jx.eqlI rfl rfl rfl ?_)
    (refine Jx.assign rfl rfl ?_)
    (refine J.nil ?_)
    (refine N.seq ?_)
    (refine W.cT rfl ?_)
    (refine W.region ?_)
    (refine Jx.move rfl rfl ?_)
    (refine J.call1 1 ((rd_Text b s a3 c3' 65536 ha3 hs)) rfl (evs_args rfl) rfl (by rintro _ _ ⟨t, a4, c4', rfl, rfl, ha4, ht⟩; exact ⟨_, rfl⟩) ?_; rintro _ _ ⟨t, a4, c4', rfl, ⟨⟩, ha4, ht⟩; simp only [List.set_cons_zero, List.set_cons_succ])
    (refine J.call (Lc := []) (pdecode_ok t (by have := bound_text ht; omega)) rfl (evs_args rfl) rfl ?_; rintro _ _ ⟨⟨o, ho, rfl⟩, rfl⟩; simp only [List.cons_append, List.nil_append, List.append_nil])
    (refine Jx.move rfl rfl ?_)
    (refine Jx.extract rfl rfl rfl ?_)
    (refine Jx.extract rfl rfl rfl ?_)
    (refine Jx.fieldAddr rfl rfl ?_)
    (refine J.st 0 rfl rfl rfl rfl rfl rfl ?_)
    (refine J.nil ?_)
    (refine N.blockNormal ?_)
    (refine id ?_; rotate_left))
              exact N.joinE (⟨kd, f, q, [], 0, [], [], o.getD []⟩, a4, c4') ⟨ha4, mk _ _ rfl rfl rfl (by unfold TailR; rw [if_neg (by exact e1), if_neg (by exact e2), if_neg (by exact e3), if_pos (by exact e4)]; exact ⟨⟨t, o, ht, ho, rfl⟩, rfl, rfl, rfl, rfl⟩)⟩ rfl ⟨ref0 rfl, ref0 rfl, ref0 rfl, trivial⟩
            · focus (
    (refine W.block ?_)
    (refine W.seq ?_)
    (refine W.region ?_)
    (refine Jx.eqlI rfl rfl rfl ?_)
    (refine Jx.assign rfl rfl ?_)
    (refine J.nil ?_)
    (refine N.seq ?_)
    (refine W.cF rfl ?_)
    (refine W.seq ?_)
    (refine W.region ?_)
    (refine Jx.eqlI rfl rfl rfl ?_)
    (refine Jx.assign rfl rfl ?_)
    (refine J.nil ?_)
    (refine N.seq ?_)
    (refine W.cF rfl ?_)
    (refine W.seq ?_)
    (refine W.region ?_)
    (refine Jx.eqlI rfl rfl rfl ?_)
    (refine Jx.assign rfl rfl ?_)
    (refine J.nil ?_)
    (refine N.seq ?_)
    (refine W.cF rfl ?_)
    (refine W.seq ?_)
    (refine W.region ?_)
    (refine Jx.eqlI rfl rfl rfl ?_)
    (refine Jx.assign rfl rfl ?_)
    (refine J.nil ?_)
    (refine N.seq ?_)
    (refine W.cF rfl ?_)
    (refine W.skip ?_)
    (refine N.blockNormal ?_)
    (refine id ?_; rotate_left))
              refine N.objSub 0 (txC ⟨kd, f, q, [], 0, [], [], []⟩) rfl (tx_sub _ _ _ _ _ _ _) rfl ?_
              exact N.joinE (⟨kd, f, q, [], 0, [], [], []⟩, a3, c3') ⟨ha3, mk _ _ rfl rfl rfl (by unfold TailR; rw [if_neg (by exact e1), if_neg (by exact e2), if_neg (by exact e3), if_neg (by exact e4)]; trivial)⟩ rfl ⟨ref0 rfl, ref0 rfl, ref0 rfl, trivial⟩
    · rintro ⟨x, a, c⟩ ⟨ha, hr⟩
      simp only at ha hr ⊢
      have ce := rd_End b s a c ha hs
      have ck := tcheck_ok x
      focus (
    (refine N.seq ?_)
    (refine W.seq ?_)
    (refine W.seq ?_)
    (refine W.region ?_)
    (refine Jx.move rfl rfl ?_)
    (refine J.call1 1 (ce) rfl (evs_args rfl) rfl (by rintro _ _ ⟨e, a4, c4, rfl, rfl, he⟩; exact ⟨_, rfl⟩) ?_; rintro _ _ ⟨e, a4, c4, rfl, ⟨⟩, he⟩; simp only [List.set_cons_zero, List.set_cons_succ])
    (refine Jx.neqI rfl rfl rfl ?_)
    (refine Jx.move rfl rfl ?_)
    (refine' J.guardOr rfl rfl rfl rfl rfl rfl rfl rfl (fun _ => ?_) ?_; rotate_left)
    (refine J.gY rfl rfl rfl ?_)
    (refine Jx.loadAll rfl 0 rfl rfl rfl ?_)
    (refine J.gY rfl rfl rfl ?_)
    (refine J.call (Lc := []) ck rfl (evs_args rfl) rfl ?_; rintro _ _ ⟨rfl, rfl⟩; simp only [List.cons_append, List.nil_append, List.append_nil])
    (refine J.gY rfl rfl rfl ?_)
    (refine Jx.neqI rfl rfl rfl ?_)
    (refine J.nil ?_)
    (refine N.joinedN rfl rfl rfl)
    (refine J.nil ?_)
    (refine N.seq ?_)
    (refine id ?_; rotate_left))
      refine W.cond rfl (fun hb => ?_) (fun hb => ?_)
      · focus (
    (refine W.seq ?_)
    (refine W.region ?_)
    (refine Jx.buildB rfl rfl rfl rfl rfl ?_)
    (refine J.storeAll rfl rfl rfl 2 rfl rfl rfl ?_)
    (refine Jx.assign rfl rfl ?_)
    (refine J.nil ?_)
    (refine N.seq ?_)
    (refine W.ret ?_)
    (refine N.seqRet ?_)
    (refine id ?_; rotate_left))
        refine N.objSub 2 (txC tx0) rfl txz_sub rfl ?_
        refine N.retD (rs := [.cell 2 tTx, .tmp 3]) (L1 := []) rfl (.cell rfl 2 rfl agTx (.tmp rfl .nil)) (List.nil_sublist _) ⟨⟨none, fun y hy hz => ?_, rfl⟩, rfl⟩
        obtain ⟨rfl, h2⟩ := hr.whole (by decide) (by decide) (by decide) (by decide) (by decide) hy hz
        rw [he.2 h2, hy] at hb
        simp at hb
      · focus (
    (refine W.skip ?_)
    (refine N.seq ?_)
    (refine W.seq ?_)
    (refine W.region ?_)
    (refine Jx.loadAll rfl 0 rfl rfl rfl ?_)
    (refine J.storeAll rfl rfl rfl 2 rfl rfl rfl ?_)
    (refine Jx.assign rfl rfl ?_)
    (refine J.nil ?_)
    (refine N.seq ?_)
    (refine W.ret ?_)
    (refine id ?_; rotate_left))
        refine N.retD (rs := [.cell 2 tTx, .tmp 3]) (L1 := []) rfl (.cell rfl 2 rfl agTx (.tmp rfl .nil)) (List.nil_sublist _) ⟨⟨some x, ?_, rfl⟩, rfl⟩
        simp only [Bool.or_eq_false_iff, decide_eq_false_iff_not] at hb
        have hf : fineTx x = true := by
          cases hf : fineTx x with
          | true => rfl
          | false => rw [hf] at hb; simp at hb
        rw [he.1 (by omega)] at hr
        exact ⟨hf, hr.sound hf⟩
end Go.Proofs.YtlfdhkahiaammaaDoor
namespace Go.Proofs.YtlfdhkahiaammaaDoor
open Go Go.Sse
set_option linter.unusedVariables false
set_option linter.unusedSimpArgs false
set_option maxRecDepth 10000
end Go.Proofs.YtlfdhkahiaammaaDoor
namespace Go.Proofs.YtlfdhkahiaammaaDoor
open Go Go.Sse
set_option linter.unusedVariables false
set_option linter.unusedSimpArgs false
set_option maxRecDepth 10000
def sumD (tag : Nat) (s : List UInt8) : List UInt8 := Sha.shaS ([UInt8.ofNat tag] ++ s)
theorem dsum_ok (tag : Nat) (s : List UInt8) (h1 : 1 ≤ tag) (h2 : tag ≤ 255) (hs : s.length ≤ 1073741824) : FnC Tryd.prog 64 [int (tag : Int), str s] [] (fun v L => v = .tup [str (sumD tag s), int 0] ∧ L = []) := by
  have c := Sha.hsum_ok ([UInt8.ofNat tag] ++ s) (by simp only [List.length_append, List.length_cons, List.length_nil]; omega)
  have e : sumD tag s = Sha.shaS ([UInt8.ofNat tag] ++ s) := rfl
  rw [e]
  generalize Sha.shaS ([UInt8.ofNat tag] ++ s) = sm at *
  refine FnC.intro Tryd.func64 rfl Tryd.ntmps64 rfl fun Z w0 hG => ?_
  focus (
    (refine W.seq ?_)
    (refine W.region ?_)
    (refine Jx.assign rfl rfl ?_)
    (refine Jx.assign rfl rfl ?_)
    (refine J.nil ?_)
    (refine N.seq ?_)
    (refine W.seq ?_)
    (refine W.seq ?_)
    (refine W.region ?_)
    (refine Jx.move rfl rfl ?_)
    (refine Jx.lssI rfl rfl rfl ?_)
    (refine Jx.move rfl rfl ?_)
    (refine J.gY rfl rfl rfl ?_)
    (refine Jx.move rfl rfl ?_)
    (refine J.gY rfl rfl rfl ?_)
    (refine Jx.gtrI rfl rfl rfl ?_)
    (refine Jx.pF rfl rfl rfl ?_)
    (refine J.nil ?_)
    (refine N.seq ?_)
    (refine W.cF rfl ?_)
    (refine W.skip ?_)
    (refine N.seq ?_)
    (refine W.seq ?_)
    (refine W.region ?_)
    (refine Jx.move rfl rfl ?_)
    (refine Jx.numByte tag rfl rfl rfl rfl ?_)
    (refine J.qs (Qs.buildBytes [UInt8.ofNat tag] rfl rfl rfl (by decide) (by decide)) rfl ?_)
    (refine Jx.bytesStr rfl rfl ?_)
    (refine Jx.move rfl rfl ?_)
    (refine Jx.cat rfl rfl (by first | omega | (simp only [List.length_append, List.length_cons, List.length_nil]; omega)) rfl ?_)
    (refine J.call (c) rfl (evs_args rfl) rfl ?_; rintro _ _ ⟨rfl, rfl⟩; simp only [List.cons_append, List.nil_append, List.append_nil])
    (refine Jx.assign rfl rfl ?_)
    (refine Jx.assign rfl rfl ?_)
    (refine J.nil ?_)
    (refine N.seq ?_)
    (refine W.ret ?_)
    (refine id ?_; rotate_left))
  exact N.ret (rs := [.tmp 4, .tmp 5]) rfl (.tmp rfl (.tmp rfl .nil)) ⟨rfl, rfl⟩
end Go.Proofs.YtlfdhkahiaammaaDoor
namespace Go.Proofs.YtlfdhkahiaammaaDoor
open Go Go.Sse
set_option linter.unusedVariables false
set_option linter.unusedSimpArgs false
set_option maxRecDepth 10000
theorem encTx_ap {x y : Tx} {r q : List UInt8} (hx : fineTx x = true) (hy : fineTx y = true) (h : encTx x ++ r = encTx y ++ q) : x = y ∧ r = q := by
  have fx := (fineTx_iff x).1 hx
  have fy := (fineTx_iff y).1 hy
  have kx := fx.kind; have ky := fy.kind
  have a1 := fx.from6; have a2 := fy.from6; have a3 := fx.seq0; have a4 := fy.seq0; have a5 := fx.seqM; have a6 := fy.seqM
  simp only [encTx, List.append_assoc, List.cons_append, List.nil_append, List.cons.injEq] at h
  obtain ⟨h0, h⟩ := h
  have hk := congrArg UInt8.toNat h0
  simp only [UInt8.toNat_ofNat'] at hk
  obtain ⟨h1, h⟩ := textB_ap (by omega) (by omega) h
  obtain ⟨h2, h⟩ := numB_ap (by omega) (by omega) h
  have ek : x.kind = y.kind := by omega
  have es : x.seq = y.seq := by omega
  unfold bodyTx at h
  by_cases c1 : y.kind = 1
  · rw [if_pos (by omega), if_pos c1] at h
    obtain ⟨⟨b1, b2, b3, b4⟩, b5, b6, b7⟩ := fx.k1 (by omega)
    obtain ⟨⟨d1, d2, d3, d4⟩, d5, d6, d7⟩ := fy.k1 c1
    rw [List.append_assoc, List.append_assoc] at h
    obtain ⟨h3, h⟩ := textB_ap (by omega) (by omega) h
    obtain ⟨h4, h⟩ := numB_ap (by omega) (by omega) h
    exact ⟨Tx.ext' ek h1 es h3 (by omega) (by rw [b5, d5]) (by rw [b6, d6]) (by rw [b7, d7]), h⟩
  · by_cases c2 : y.kind = 2
    · rw [if_neg (by omega), if_pos (by omega), if_neg c1, if_pos c2] at h
      obtain ⟨⟨b1, b2, b3, b4⟩, b5, b6, b7⟩ := fx.k2 (by omega)
      obtain ⟨⟨d1, d2, d3, d4⟩, d5, d6, d7⟩ := fy.k2 c2
      rw [List.append_assoc, List.append_assoc] at h
      obtain ⟨h3, h⟩ := textB_ap (by omega) (by omega) h
      obtain ⟨h4, h⟩ := textB_ap (by omega) (by omega) h
      exact ⟨Tx.ext' ek h1 es (by rw [b5, d5]) (by rw [b6, d6]) h3 h4 (by rw [b7, d7]), h⟩
    · by_cases c3 : y.kind = 3
      · rw [if_neg (by omega), if_neg (by omega), if_pos (by omega), if_neg c1, if_neg c2, if_pos c3] at h
        obtain ⟨⟨b1, b2⟩, b3, b4, b5, b6⟩ := fx.k3 (by omega)
        obtain ⟨⟨d1, d2⟩, d3, d4, d5, d6⟩ := fy.k3 c3
        obtain ⟨h4, h⟩ := textB_ap (by omega) (by omega) h
        exact ⟨Tx.ext' ek h1 es (by rw [b4, d4]) (by rw [b5, d5]) h4 (by rw [b3, d3]) (by rw [b6, d6]), h⟩
      · have c4 : y.kind = 4 := by omega
        rw [if_neg (by omega), if_neg (by omega), if_neg (by omega), if_neg c1, if_neg c2, if_neg c3] at h
        obtain ⟨b1, b2, b3, b4, b5⟩ := fx.k4 (by omega)
        obtain ⟨d1, d2, d3, d4, d5⟩ := fy.k4 c4
        have l1 := encSet_len b1; have l2 := encSet_len d1
        obtain ⟨h4, h⟩ := textB_ap (by omega) (by omega) h
        exact ⟨Tx.ext' ek h1 es (by rw [b2, d2]) (by rw [b3, d3]) (by rw [b4, d4]) (by rw [b5, d5]) (encSet_inj b1 d1 h4), h⟩
theorem encTx_inj {x y : Tx} (hx : fineTx x = true) (hy : fineTx y = true) (h : encTx x = encTx y) : x = y := (encTx_ap (r := []) (q := []) hx hy (by rw [h])).1
structure Apart {α : Type} (fine : α → Bool) (enc : α → List UInt8) : Prop where
  ap : ∀ x y (r q : List UInt8), fine x = true → fine y = true → enc x ++ r = enc y ++ q → x = y ∧ r = q
theorem Apart.some' {α : Type} {fine : α → Bool} {enc : α → List UInt8} (h : Apart fine enc) {s : List UInt8} {o : Option α} {x : α} (ho : DecR fine enc s o) (h1 : fine x = true) (h2 : enc x = s) : o = some x := by
  cases o with
  | none => exact absurd h2 (ho x h1)
  | some y => rw [(h.ap y x [] [] ho.1 h1 (by rw [ho.2, h2])).1]
theorem Apart.same {α : Type} {fine : α → Bool} {enc : α → List UInt8} (h : Apart fine enc) {s : List UInt8} {o p : Option α} (ho : DecR fine enc s o) (hp : DecR fine enc s p) : o = p := by
  cases p with
  | some y => exact h.some' ho hp.1 hp.2
  | none =>
    cases o with
    | none => rfl
    | some x => exact absurd ho.2 (hp x ho.1)
def fineAll (l : List Tx) : Bool := decide (l.length ≤ 8) && l.all fineTx
def encAll (l : List Tx) : List UInt8 := listB (l.map encTx)
def codeAll (l : List Tx) : Int := if 8 < l.length then 2 else if l.all fineTx then 0 else 150
theorem codeAll_zero (l : List Tx) : codeAll l = 0 ↔ fineAll l = true := by
  unfold codeAll fineAll
  by_cases h : 8 < l.length
  · simp [h]; omega
  · rw [if_neg h]
    cases l.all fineTx <;> simp; omega
theorem fineAll_spec {l : List Tx} (h : fineAll l = true) : l.length ≤ 8 ∧ ∀ x ∈ l, fineTx x = true := by
  simp only [fineAll, Bool.and_eq_true, decide_eq_true_eq, List.all_eq_true] at h
  exact h
theorem map_take {α β : Type} (f : α → β) (d : α) (l : List α) (i : Nat) (h : i < l.length) : (l.take i).map f ++ [f (l.getD i d)] = (l.take (i + 1)).map f := by
  rw [List.take_add_one, List.getElem?_eq_getElem h, List.getD_eq_getElem?_getD, List.getElem?_eq_getElem h]
  simp only [List.map_append, Option.toList_some, List.map_cons, List.map_nil, Option.getD_some]
theorem listB_len' {l : List (List UInt8)} {k n : Nat} (hl : l.length ≤ n) (hn : n ≤ 1048576) (h : ∀ s ∈ l, s.length ≤ k) (hk : k ≤ 1048576) : (listB l).length ≤ 9 + (k + 9) * n := by
  have h1 : (flT textB l).length ≤ (k + 9) * l.length := flT_len fun s hs => textB_len (h s hs) (by omega)
  have h2 := (numB_len (n := l.length) (by omega)).2
  have h3 : (k + 9) * l.length ≤ (k + 9) * n := Nat.mul_le_mul_left _ hl
  have h4 : (listB l).length = (numB l.length).length + (flT textB l).length := by rw [listB, List.length_append]; rfl
  omega
theorem encAll_len {l : List Tx} (h : fineAll l = true) : (encAll l).length ≤ 1769 := by
  obtain ⟨h1, h2⟩ := fineAll_spec h
  have := listB_len' (l := l.map encTx) (k := 211) (n := 8) (by simpa using h1) (by omega) (fun s hs => by obtain ⟨x, hx, rfl⟩ := List.mem_map.1 hs; exact encTx_len ((fineTx_iff x).1 (h2 x hx))) (by omega)
  unfold encAll; omega
set_option maxHeartbeats 1000000 in
theorem tencAll_ok (l : List Tx) : FnC Tryd.prog 19 [txsl l] [] (fun v L => v = .tup [str (encO fineAll encAll l), int (codeAll l)] ∧ L = []) := by
  refine FnC.intro Tryd.func19 rfl Tryd.ntmps19 rfl fun Z w0 hG => ?_
  by_cases h8 : 8 < l.length
  · have hf : fineAll l = false := by rw [fineAll, decide_eq_false (by omega)]; rfl
    have hc : codeAll l = 2 := if_pos h8
    rw [encO, hf, hc]
    focus (
    (refine W.seq ?_)
    (refine W.region ?_)
    (refine Jx.assign rfl rfl ?_)
    (refine Jx.assign rfl rfl ?_)
    (refine J.nil ?_)
    (refine N.seq ?_)
    (refine W.seq ?_)
    (refine W.seq ?_)
    (refine W.region ?_)
    (refine Jx.move rfl rfl ?_)
    (refine Jx.lenSl rfl rfl ?_)
    (refine Jx.gtrI rfl rfl rfl ?_)
    (refine J.nil ?_)
    (refine N.seq ?_)
    (refine W.cT rfl ?_)
    (refine W.seq ?_)
    (refine W.region ?_)
    (refine Jx.assign rfl rfl ?_)
    (refine Jx.assign rfl rfl ?_)
    (refine J.nil ?_)
    (refine N.seq ?_)
    (refine W.ret ?_)
    (refine N.seqRet ?_)
    (refine id ?_; rotate_left))
    exact N.ret (rs := [.tmp 2, .tmp 3]) rfl (.tmp rfl (.tmp rfl .nil)) ⟨rfl, rfl⟩
  · focus (
    (refine W.seq ?_)
    (refine W.region ?_)
    (refine Jx.assign rfl rfl ?_)
    (refine Jx.assign rfl rfl ?_)
    (refine J.nil ?_)
    (refine N.seq ?_)
    (refine W.seq ?_)
    (refine W.seq ?_)
    (refine W.region ?_)
    (refine Jx.move rfl rfl ?_)
    (refine Jx.lenSl rfl rfl ?_)
    (refine Jx.gtrI rfl rfl rfl ?_)
    (refine J.nil ?_)
    (refine N.seq ?_)
    (refine W.cF rfl ?_)
    (refine W.skip ?_)
    (refine N.seq ?_)
    (refine W.seq ?_)
    (refine W.region ?_)
    (refine Jx.assign rfl rfl ?_)
    (refine J.nil ?_)
    (refine N.seq ?_)
    (refine W.seq ?_)
    (refine W.seq ?_)
    (refine W.region ?_)
    (refine Jx.move rfl rfl ?_)
    (refine Jx.lenSl rfl rfl ?_)
    (refine Jx.move rfl rfl ?_)
    (refine J.nil ?_)
    (refine N.seq ?_)
    (refine W.block ?_)
    (refine id ?_; rotate_left))
    refine W.rowNil 9 1 (elOf (fun a => [str a]) [] []) ?_
    refine W.loop (α := Nat × Value) (fun x => [(14, int (x.1 : Int)), (13, int l.length), (12, txsl l), (4, .val x.2)]) (fun x => [.row x.2 9 1 ((l.take x.1).map encTx).length (elOf (fun a => [str a]) [] ((l.take x.1).map encTx))]) (fun x => x.1 ≤ l.length ∧ ∀ y ∈ l.take x.1, fineTx y = true) (fun x => l.length - x.1) (0, .slice none 0 0) ⟨by simp, by simp⟩ (by simp) ⟨ref0 rfl, ref0 rfl, ref0 rfl, ref0 rfl, trivial⟩ ?_
    rintro ⟨i, u⟩ ⟨hi, hall⟩
    simp only at hi hall ⊢
    by_cases h1 : i < l.length
    · have c1 := tencode_ok (l.getD i tx0)
      have hti := map_take encTx tx0 l i h1
      have hlen : ((l.take i).map encTx).length ≤ 8 := by rw [List.length_map, List.length_take]; omega
      cases hf : fineTx (l.getD i tx0) with
      | false =>
        have hna : l.all fineTx = false := List.all_eq_false.2 ⟨_, getD_mem h1, by rw [hf]; simp⟩
        have hfa : fineAll l = false := by rw [fineAll, hna, Bool.and_false]
        have hc : codeAll l = 150 := by rw [codeAll, if_neg h8, hna]; rfl
        rw [encO, hf] at c1
        rw [encO, hfa, hc]
        focus (
    (refine W.seq ?_)
    (refine W.region ?_)
    (refine Jx.lssI rfl rfl rfl ?_)
    (refine J.nil ?_)
    (refine N.seq ?_)
    (refine W.seq ?_)
    (refine W.cT rfl ?_)
    (refine W.skip ?_)
    (refine N.seq ?_)
    (refine W.seq ?_)
    (refine W.block ?_)
    (refine W.seq ?_)
    (refine W.region ?_)
    (refine Jx.indexEl rfl rfl (by assumption) rfl rfl ?_)
    (refine Jx.loadPPall rfl rfl rfl ?_)
    (refine J.alloc (by simp only [List.map_cons, List.map_nil]; rfl) rfl rfl ?_; intro b')
    (refine J.storeAll rfl rfl rfl 0 rfl rfl rfl ?_)
    (refine J.nil ?_)
    (refine N.seq ?_)
    (refine W.seq ?_)
    (refine W.region ?_)
    (refine Jx.loadAll rfl 0 rfl rfl rfl ?_)
    (refine J.call (Lc := []) c1 rfl (evs_args rfl) rfl ?_; rintro _ _ ⟨rfl, rfl⟩; simp only [List.cons_append, List.nil_append, List.append_nil])
    (refine Jx.move rfl rfl ?_)
    (refine Jx.extract rfl rfl rfl ?_)
    (refine Jx.extract rfl rfl rfl ?_)
    (refine Jx.assign rfl rfl ?_)
    (refine Jx.assign rfl rfl ?_)
    (refine J.nil ?_)
    (refine N.seq ?_)
    (refine W.seq ?_)
    (refine W.seq ?_)
    (refine W.region ?_)
    (refine Jx.move rfl rfl ?_)
    (refine Jx.neqI rfl rfl rfl ?_)
    (refine J.nil ?_)
    (refine N.seq ?_)
    (refine W.cT rfl ?_)
    (refine W.seq ?_)
    (refine W.region ?_)
    (refine Jx.move rfl rfl ?_)
    (refine Jx.assign rfl rfl ?_)
    (refine Jx.assign rfl rfl ?_)
    (refine J.nil ?_)
    (refine N.seq ?_)
    (refine W.ret ?_)
    (refine N.seqRet ?_)
    (refine N.blockRet ?_)
    (refine N.seqRet ?_)
    (refine N.seqRet ?_)
    (refine N.blockRet ?_)
    (refine N.seqRet ?_)
    (refine id ?_; rotate_left))
        exact N.retD (rs := [.tmp 2, .tmp 3]) (L1 := []) rfl (.tmp rfl (.tmp rfl .nil)) (List.nil_sublist _) ⟨rfl, rfl⟩
      | true =>
        rw [encO, hf] at c1
        simp only [if_true] at c1
        have hmx : ((l.take i).map encTx).length + [encTx (l.getD i tx0)].length ≤ maxLen ∧ (((l.take i).map encTx).length + [encTx (l.getD i tx0)].length) * 16 ≤ 140737488355328 := by simp only [maxLen, List.length_cons, List.length_nil]; omega
        generalize encTx (l.getD i tx0) = e at *
        focus (
    (refine W.seq ?_)
    (refine W.region ?_)
    (refine Jx.lssI rfl rfl rfl ?_)
    (refine J.nil ?_)
    (refine N.seq ?_)
    (refine W.seq ?_)
    (refine W.cT rfl ?_)
    (refine W.skip ?_)
    (refine N.seq ?_)
    (refine W.seq ?_)
    (refine W.block ?_)
    (refine W.seq ?_)
    (refine W.region ?_)
    (refine Jx.indexEl rfl rfl (by assumption) rfl rfl ?_)
    (refine Jx.loadPPall rfl rfl rfl ?_)
    (refine J.alloc (by simp only [List.map_cons, List.map_nil]; rfl) rfl rfl ?_; intro b')
    (refine J.storeAll rfl rfl rfl 0 rfl rfl rfl ?_)
    (refine J.nil ?_)
    (refine N.seq ?_)
    (refine W.seq ?_)
    (refine W.region ?_)
    (refine Jx.loadAll rfl 0 rfl rfl rfl ?_)
    (refine J.call (Lc := []) c1 rfl (evs_args rfl) rfl ?_; rintro _ _ ⟨rfl, rfl⟩; simp only [List.cons_append, List.nil_append, List.append_nil])
    (refine Jx.move rfl rfl ?_)
    (refine Jx.extract rfl rfl rfl ?_)
    (refine Jx.extract rfl rfl rfl ?_)
    (refine Jx.assign rfl rfl ?_)
    (refine Jx.assign rfl rfl ?_)
    (refine J.nil ?_)
    (refine N.seq ?_)
    (refine W.seq ?_)
    (refine W.seq ?_)
    (refine W.region ?_)
    (refine Jx.move rfl rfl ?_)
    (refine Jx.neqI rfl rfl rfl ?_)
    (refine J.nil ?_)
    (refine N.seq ?_)
    (refine W.cF rfl ?_)
    (refine W.skip ?_)
    (refine N.seq ?_)
    (refine W.region ?_)
    (refine Jx.move rfl rfl ?_)
    (refine Jx.move rfl rfl ?_)
    (refine J.qs (Qs.buildTexts [e] rfl rfl rfl (by decide) (by decide)) rfl ?_)
    (refine J.appendAt (l := (l.take i).map encTx) (l2 := [e]) 1 rfl rfl (SrcOK.sl rfl) rfl rfl hmx rfl ?_; intro v2 hv2)
    (refine Jx.assign rfl rfl ?_)
    (refine J.nil ?_)
    (refine N.seq ?_)
    (refine W.region ?_)
    (refine Jx.add64 rfl rfl (by omega) rfl ?_)
    (refine Jx.move rfl rfl ?_)
    (refine J.nil ?_)
    (refine id ?_; rotate_left))
        refine N.drop (List.sublist_cons_self _ _) ?_
        refine N.round (i + 1, v2) ⟨h1, fun y hy => ?_⟩ (by simp only; omega) (by rw [hti]; rfl) ⟨ref0 rfl, ref0 rfl, ref0 rfl, ref0 rfl, trivial⟩
        rw [List.take_add_one, List.getElem?_eq_getElem h1] at hy
        rcases List.mem_append.1 hy with hy | hy
        · exact hall y hy
        · simp only [Option.toList_some, List.mem_singleton] at hy
          subst hy
          rw [List.getD_eq_getElem?_getD, List.getElem?_eq_getElem h1] at hf
          exact hf
    · have hil : i = l.length := by omega
      subst hil
      rw [List.take_length] at hall ⊢
      have hfa : fineAll l = true := by rw [fineAll, decide_eq_true (by omega), List.all_eq_true.2 hall]; rfl
      have hc : codeAll l = 0 := (codeAll_zero l).2 hfa
      have cl := list_ok (l.map encTx) (by rw [List.length_map]; omega) (fun s hs => by obtain ⟨x, hx, rfl⟩ := List.mem_map.1 hs; have := encTx_len ((fineTx_iff x).1 (hall x hx)); omega)
      rw [encO, hfa, hc, if_pos rfl, encAll]
      refine W.freezeAt 0 4 rfl rfl (by rw [List.length_map]; simp only [maxLen]; omega) ?_
      generalize listB (l.map encTx) = lb at *
      generalize l.map encTx = le at *
      focus (
    (refine W.seq ?_)
    (refine W.region ?_)
    (refine Jx.lssI rfl rfl rfl ?_)
    (refine J.nil ?_)
    (refine N.seq ?_)
    (refine W.seq ?_)
    (refine W.cF rfl ?_)
    (refine W.exit ?_)
    (refine N.seq ?_)
    (refine W.seq ?_)
    (refine W.region ?_)
    (refine Jx.move rfl rfl ?_)
    (refine J.call (Lc := []) cl rfl (evs_args rfl) rfl ?_; rintro _ _ ⟨rfl, rfl⟩; simp only [List.cons_append, List.nil_append, List.append_nil])
    (refine Jx.assign rfl rfl ?_)
    (refine Jx.assign rfl rfl ?_)
    (refine J.nil ?_)
    (refine N.seq ?_)
    (refine W.ret ?_)
    (refine id ?_; rotate_left))
      exact N.retD (rs := [.tmp 2, .tmp 3]) (L1 := []) rfl (.tmp rfl (.tmp rfl .nil)) (List.nil_sublist _) ⟨rfl, rfl⟩
end Go.Proofs.YtlfdhkahiaammaaDoor
namespace Go.Proofs.YtlfdhkahiaammaaDoor
open Go Go.Sse
set_option linter.unusedVariables false
set_option linter.unusedSimpArgs false
set_option maxRecDepth 10000
theorem all_back {m e : Int} {s : List UInt8} {st : PSt} {all : List (List UInt8)} (hm : 8 ≤ m) (he : 211 ≤ e) (h : listP m e (some s) = (all, st)) {l : List Tx} (hf : fineAll l = true) (hs : encAll l = s) : all = l.map encTx ∧ st = some [] := by
  obtain ⟨h1, h2⟩ := fineAll_spec hf
  have h3 := listP_back (m := m) (e := e) (l.map encTx) [] (by rw [List.length_map]; omega) (by rw [List.length_map]; omega) (fun t ht => by
    obtain ⟨x, hx, rfl⟩ := List.mem_map.1 ht
    have := encTx_len ((fineTx_iff x).1 (h2 x hx))
    exact ⟨by omega, by omega⟩)
  rw [List.append_nil, show listB (l.map encTx) = s from hs, h] at h3
  simp only [Prod.mk.injEq] at h3
  exact h3
theorem all_done {m e : Int} {s : List UInt8} {st : PSt} {all : List (List UInt8)} (hm : m = 8) (h : listP m e (some s) = (all, st)) (hst : st = some []) {acc : List Tx} (h1 : acc.map encTx = all) (h2 : ∀ x ∈ acc, fineTx x = true) : DecR fineAll encAll s (some acc) := by
  subst hst
  obtain ⟨g1, g2, g3, g4⟩ := listP_good h
  simp only [Option.some.injEq, List.append_nil] at g1
  refine ⟨?_, by rw [encAll, h1, g1]⟩
  have : acc.length = all.length := by rw [← h1, List.length_map]
  rw [fineAll, decide_eq_true (by omega), List.all_eq_true.2 h2]; rfl
theorem all_no {all : List (List UInt8)} {l : List Tx} (h : all = l.map encTx) (hf : fineAll l = true) {i : Nat} (hi : i < all.length) (hn : DecR fineTx encTx (all.getD i []) none) : False := by
  subst h
  have hi' : i < l.length := by simpa using hi
  refine hn (l.getD i tx0) ((fineAll_spec hf).2 _ (getD_mem hi')) ?_
  rw [List.getD_eq_getElem?_getD, List.getD_eq_getElem?_getD, List.getElem?_map, List.getElem?_eq_getElem hi']; rfl
theorem take_snoc {α : Type} {l : List α} {d : α} {i : Nat} (h : i < l.length) : l.take (i + 1) = l.take i ++ [l.getD i d] := by
  rw [List.take_add_one, List.getElem?_eq_getElem h, List.getD_eq_getElem?_getD, List.getElem?_eq_getElem h]; rfl
theorem listP_mem {m e : Int} {st st' : PSt} {l : List (List UInt8)} (he : 0 ≤ e) (h : listP m e st = (l, st')) : ∀ t ∈ l, (t.length : Int) ≤ e := by
  cases st' with
  | none => rw [listP_short h]; simp
  | some r => exact fun t ht => ((listP_good h).2.2.2 t ht).1
set_option maxHeartbeats 2000000 in
theorem tdecAll_ok (s : List UInt8) (hs : s.length ≤ 1099511627776) : FnC Tryd.prog 66 [str s] [] (fun v L => (∃ o, DecR fineAll encAll s o ∧ v = .tup [txsl (o.getD []), int (codeO o 150)]) ∧ L = []) := by
  have c0 := read_ok s
  have c1 := fun b => rd_List b s 0 0 8 65536 (Nat.zero_le _) hs (by decide)
  refine FnC.intro Tryd.func66 rfl Tryd.ntmps66 rfl fun Z w0 hG => ?_
  focus (
    (refine W.seq ?_)
    (refine W.region ?_)
    (refine Jx.assign rfl rfl ?_)
    (refine Jx.assign rfl rfl ?_)
    (refine J.nil ?_)
    (refine N.seq ?_)
    (refine W.seq ?_)
    (refine W.region ?_)
    (refine Jx.move rfl rfl ?_)
    (refine J.call (Lc := []) c0 rfl (evs_args rfl) rfl ?_; rintro _ _ ⟨b, rfl, rfl⟩; simp only [List.cons_append, List.nil_append, List.append_nil])
    (refine Jx.assign rfl rfl ?_)
    (refine J.nil ?_)
    (refine N.seq ?_)
    (refine W.seq ?_)
    (refine W.region ?_)
    (refine Jx.move rfl rfl ?_)
    (refine J.call ((c1 _)) rfl (evs_args rfl) rfl ?_; rintro _ _ ⟨all, a1, c1', rfl, rfl, ha1, hall⟩; simp only [List.cons_append, List.nil_append, List.append_nil])
    (refine Jx.assign rfl rfl ?_)
    (refine J.nil ?_)
    (refine N.seq ?_)
    (refine W.seq ?_)
    (refine W.seq ?_)
    (refine W.region ?_)
    (refine Jx.move rfl rfl ?_)
    (refine J.call ((rd_End _ s a1 c1' ha1 hs)) rfl (evs_args rfl) rfl ?_; rintro _ _ ⟨e, a2, c2', rfl, rfl, he⟩; simp only [List.cons_append, List.nil_append, List.append_nil])
    (refine Jx.neqI rfl rfl rfl ?_)
    (refine J.nil ?_)
    (refine N.seq ?_)
    (refine id ?_; rotate_left))
  have hall : listP 8 65536 (some s) = (all, lf s a1 c1') := hall
  have hmem := listP_mem (by decide) hall
  refine W.cond rfl (fun hb => ?_) (fun hb => ?_)
  · focus (
    (refine W.seq ?_)
    (refine W.region ?_)
    (refine Jx.assign rfl rfl ?_)
    (refine Jx.assign rfl rfl ?_)
    (refine J.nil ?_)
    (refine N.seq ?_)
    (refine W.ret ?_)
    (refine N.seqRet ?_)
    (refine id ?_; rotate_left))
    refine N.told (G := [(2, txsl []), (3, int 150)]) ⟨⟨_, rfl, Sub.nil 8 _⟩, ref0 rfl, trivial⟩ ?_
    refine N.retD (rs := [.tmp 2, .tmp 3]) (L1 := []) rfl (.tmp rfl (.tmp rfl .nil)) (List.nil_sublist _) ⟨⟨none, fun y hy hz => ?_, rfl⟩, rfl⟩
    have := (all_back (by decide) (by decide) hall hy hz).2
    rw [he.2 this] at hb
    simp at hb
  · have he0 : e = 0 := by simpa using hb
    have hst := he.1 he0
    have h8 : all.length ≤ 8 := by rw [hst] at hall; have := (listP_good hall).2.1; omega
    focus (
    (refine W.skip ?_)
    (refine N.seq ?_)
    (refine W.seq ?_)
    (refine W.region ?_)
    (refine Jx.assign rfl rfl ?_)
    (refine J.nil ?_)
    (refine N.seq ?_)
    (refine W.seq ?_)
    (refine W.seq ?_)
    (refine W.region ?_)
    (refine Jx.move rfl rfl ?_)
    (refine Jx.lenSl rfl rfl ?_)
    (refine Jx.move rfl rfl ?_)
    (refine J.nil ?_)
    (refine N.seq ?_)
    (refine W.block ?_)
    (refine id ?_; rotate_left))
    refine W.rowNil tTx 8 (elOf txC tx0 []) ?_
    refine W.loop (α := Value × List Tx) (fun x => [(20, int (x.2.length : Int)), (19, int all.length), (18, ssl all), (6, .val x.1)]) (fun x => [.row x.1 tTx 8 x.2.length (elOf txC tx0 x.2), rdO b ⟨s, a2, c2'⟩]) (fun x => x.2.length ≤ all.length ∧ x.2.map encTx = all.take x.2.length ∧ ∀ y ∈ x.2, fineTx y = true) (fun x => all.length - x.2.length) (.slice none 0 0, []) ⟨by simp, by simp, by simp⟩ rfl ⟨ref0 rfl, ref0 rfl, ref0 rfl, ref0 rfl, trivial⟩ ?_
    rintro ⟨u, acc⟩ ⟨hi, hm, hf⟩
    simp only at hi hm hf ⊢
    by_cases h1 : acc.length < all.length
    · have c3 := tdecode_ok (all.getD acc.length []) (by have := hmem _ (getD_mem (d := []) h1); omega)
      have hmx : ∀ x : Tx, acc.length + [x].length ≤ maxLen ∧ (acc.length + [x].length) * 112 ≤ 140737488355328 := fun x => by simp only [maxLen, List.length_cons, List.length_nil]; omega
      focus (
    (refine W.seq ?_)
    (refine W.region ?_)
    (refine Jx.lssI rfl rfl rfl ?_)
    (refine J.nil ?_)
    (refine N.seq ?_)
    (refine W.seq ?_)
    (refine W.cT rfl ?_)
    (refine W.skip ?_)
    (refine N.seq ?_)
    (refine W.seq ?_)
    (refine W.block ?_)
    (refine W.seq ?_)
    (refine W.region ?_)
    (refine Jx.indexEl rfl rfl (by assumption) rfl rfl ?_)
    (refine Jx.loadPP rfl rfl ?_)
    (refine Jx.assign rfl rfl ?_)
    (refine J.nil ?_)
    (refine N.seq ?_)
    (refine W.seq ?_)
    (refine W.region ?_)
    (refine Jx.move rfl rfl ?_)
    (refine J.call (Lc := []) c3 rfl (evs_args rfl) rfl ?_; rintro _ _ ⟨⟨o, ho, rfl⟩, rfl⟩; simp only [List.cons_append, List.nil_append, List.append_nil])
    (refine Jx.move rfl rfl ?_)
    (refine Jx.extract rfl rfl rfl ?_)
    (refine Jx.extract rfl rfl rfl ?_)
    (refine J.alloc (by simp only [List.map_cons, List.map_nil]; rfl) rfl rfl ?_; intro b')
    (refine J.storeAll rfl rfl rfl 0 rfl rfl rfl ?_)
    (refine Jx.assign rfl rfl ?_)
    (refine J.nil ?_)
    (refine N.seq ?_)
    (refine W.seq ?_)
    (refine W.seq ?_)
    (refine W.region ?_)
    (refine Jx.move rfl rfl ?_)
    (refine Jx.neqI rfl rfl rfl ?_)
    (refine J.nil ?_)
    (refine N.seq ?_)
    (refine id ?_; rotate_left))
      cases o with
      | none =>
        focus (
    (refine W.cT rfl ?_)
    (refine W.seq ?_)
    (refine W.region ?_)
    (refine Jx.move rfl rfl ?_)
    (refine Jx.assign rfl rfl ?_)
    (refine Jx.assign rfl rfl ?_)
    (refine J.nil ?_)
    (refine N.seq ?_)
    (refine W.ret ?_)
    (refine N.seqRet ?_)
    (refine N.blockRet ?_)
    (refine N.seqRet ?_)
    (refine N.seqRet ?_)
    (refine N.blockRet ?_)
    (refine N.seqRet ?_)
    (refine id ?_; rotate_left))
        refine N.told (G := [(2, txsl []), (3, int 150)]) ⟨⟨_, rfl, Sub.nil 8 _⟩, ref0 rfl, trivial⟩ ?_
        refine N.retD (rs := [.tmp 2, .tmp 3]) (L1 := []) rfl (.tmp rfl (.tmp rfl .nil)) (List.nil_sublist _) ⟨⟨none, fun y hy hz => ?_, rfl⟩, rfl⟩
        exact all_no (all_back (by decide) (by decide) hall hy hz).1 hy h1 ho
      | some x =>
        simp only [Option.getD_some]
        focus (
    (refine W.cF rfl ?_)
    (refine W.skip ?_)
    (refine N.seq ?_)
    (refine W.region ?_)
    (refine Jx.move rfl rfl ?_)
    (refine Jx.loadAll rfl 0 rfl rfl rfl ?_)
    (refine J.qs (Qs.buildOne txC tx0 x rfl rfl rfl rfl rfl rfl rfl) rfl ?_)
    (refine J.appendAt (l := acc) (l2 := [x]) 1 rfl rfl (SrcOK.sl rfl) rfl rfl (hmx x) rfl ?_; intro v2 hv2)
    (refine Jx.assign rfl rfl ?_)
    (refine J.nil ?_)
    (refine N.seq ?_)
    (refine W.region ?_)
    (refine Jx.add64 rfl rfl (by omega) rfl ?_)
    (refine Jx.move rfl rfl ?_)
    (refine J.nil ?_)
    (refine id ?_; rotate_left))
        refine N.drop (List.sublist_cons_self _ _) ?_
        refine N.round (v2, acc ++ [x]) ⟨by simp only [List.length_append, List.length_cons, List.length_nil]; omega, ?_, ?_⟩ (by simp only [List.length_append, List.length_cons, List.length_nil]; omega) rfl ⟨⟨_, rfl, Sub.of_eq (by simp)⟩, ref0 rfl, ref0 rfl, ref0 rfl, trivial⟩
        · simp only [List.length_append, List.length_cons, List.length_nil, List.map_append, List.map_cons, List.map_nil]
          rw [hm, take_snoc (d := []) h1, ho.2]
        · intro y hy
          rcases List.mem_append.1 hy with hy | hy
          · exact hf y hy
          · simp only [List.mem_singleton] at hy; subst hy; exact ho.1
    · refine W.freezeAt 0 6 rfl rfl (by simp only [maxLen]; omega) ?_
      focus (
    (refine W.seq ?_)
    (refine W.region ?_)
    (refine Jx.lssI rfl rfl rfl ?_)
    (refine J.nil ?_)
    (refine N.seq ?_)
    (refine W.seq ?_)
    (refine W.cF rfl ?_)
    (refine W.exit ?_)
    (refine N.seq ?_)
    (refine W.seq ?_)
    (refine W.region ?_)
    (refine Jx.move rfl rfl ?_)
    (refine Jx.assign rfl rfl ?_)
    (refine Jx.assign rfl rfl ?_)
    (refine J.nil ?_)
    (refine N.seq ?_)
    (refine W.ret ?_)
    (refine id ?_; rotate_left))
      refine N.retD (rs := [.tmp 2, .tmp 3]) (L1 := []) rfl (.tmp rfl (.tmp rfl .nil)) (List.nil_sublist _) ⟨⟨some acc, all_done rfl hall hst ?_ hf, rfl⟩, rfl⟩
      rw [hm, List.take_of_length_le (by omega)]
def rootT (l : List Tx) : List UInt8 := if fineAll l then sumD 3 (encAll l) else []
theorem troot_ok (l : List Tx) : FnC Tryd.prog 39 [txsl l] [] (fun v L => v = .tup [str (rootT l), int (codeAll l)] ∧ L = []) := by
  have c := tencAll_ok l
  have hz := codeAll_zero l
  refine FnC.intro Tryd.func39 rfl Tryd.ntmps39 rfl fun Z w0 hG => ?_
  unfold rootT
  cases hf : fineAll l with
  | false =>
    have hc : codeAll l ≠ 0 := fun h => by rw [hz.1 h] at hf; cases hf
    rw [encO, hf] at c
    generalize codeAll l = e at *
    focus (
    (refine W.seq ?_)
    (refine W.region ?_)
    (refine Jx.assign rfl rfl ?_)
    (refine Jx.assign rfl rfl ?_)
    (refine J.nil ?_)
    (refine N.seq ?_)
    (refine W.seq ?_)
    (refine W.region ?_)
    (refine Jx.move rfl rfl ?_)
    (refine J.call (Lc := []) c rfl (evs_args rfl) rfl ?_; rintro _ _ ⟨rfl, rfl⟩; simp only [List.cons_append, List.nil_append, List.append_nil])
    (refine Jx.move rfl rfl ?_)
    (refine Jx.extract rfl rfl rfl ?_)
    (refine Jx.extract rfl rfl rfl ?_)
    (refine Jx.assign rfl rfl ?_)
    (refine Jx.assign rfl rfl ?_)
    (refine J.nil ?_)
    (refine N.seq ?_)
    (refine W.seq ?_)
    (refine W.seq ?_)
    (refine W.region ?_)
    (refine Jx.move rfl rfl ?_)
    (refine Jx.neqI rfl rfl rfl ?_)
    (refine J.nil ?_)
    (refine N.seq ?_)
    (refine W.cT rfl ?_)
    (refine W.seq ?_)
    (refine W.region ?_)
    (refine Jx.move rfl rfl ?_)
    (refine Jx.assign rfl rfl ?_)
    (refine Jx.assign rfl rfl ?_)
    (refine J.nil ?_)
    (refine N.seq ?_)
    (refine W.ret ?_)
    (refine N.seqRet ?_)
    (refine id ?_; rotate_left))
    exact N.ret (rs := [.tmp 2, .tmp 3]) rfl (.tmp rfl (.tmp rfl .nil)) ⟨rfl, rfl⟩
  | true =>
    have hc := hz.2 hf
    rw [encO, if_pos hf, hc] at c
    rw [if_pos rfl, hc]
    have cs := dsum_ok 3 (encAll l) (by decide) (by decide) (by have := encAll_len hf; omega)
    generalize sumD 3 (encAll l) = sm at *
    generalize encAll l = ea at *
    focus (
    (refine W.seq ?_)
    (refine W.region ?_)
    (refine Jx.assign rfl rfl ?_)
    (refine Jx.assign rfl rfl ?_)
    (refine J.nil ?_)
    (refine N.seq ?_)
    (refine W.seq ?_)
    (refine W.region ?_)
    (refine Jx.move rfl rfl ?_)
    (refine J.call (Lc := []) c rfl (evs_args rfl) rfl ?_; rintro _ _ ⟨rfl, rfl⟩; simp only [List.cons_append, List.nil_append, List.append_nil])
    (refine Jx.move rfl rfl ?_)
    (refine Jx.extract rfl rfl rfl ?_)
    (refine Jx.extract rfl rfl rfl ?_)
    (refine Jx.assign rfl rfl ?_)
    (refine Jx.assign rfl rfl ?_)
    (refine J.nil ?_)
    (refine N.seq ?_)
    (refine W.seq ?_)
    (refine W.seq ?_)
    (refine W.region ?_)
    (refine Jx.move rfl rfl ?_)
    (refine Jx.neqI rfl rfl rfl ?_)
    (refine J.nil ?_)
    (refine N.seq ?_)
    (refine W.cF rfl ?_)
    (refine W.skip ?_)
    (refine N.seq ?_)
    (refine W.seq ?_)
    (refine W.region ?_)
    (refine Jx.move rfl rfl ?_)
    (refine J.call (Lc := []) cs rfl (evs_args rfl) rfl ?_; rintro _ _ ⟨rfl, rfl⟩; simp only [List.cons_append, List.nil_append, List.append_nil])
    (refine Jx.extract rfl rfl rfl ?_)
    (refine Jx.extract rfl rfl rfl ?_)
    (refine Jx.assign rfl rfl ?_)
    (refine Jx.assign rfl rfl ?_)
    (refine J.nil ?_)
    (refine N.seq ?_)
    (refine W.ret ?_)
    (refine id ?_; rotate_left))
    exact N.ret (rs := [.tmp 2, .tmp 3]) rfl (.tmp rfl (.tmp rfl .nil)) ⟨rfl, rfl⟩
set_option maxHeartbeats 1000000 in
theorem sameTs_ok (l m : List Tx) (hb : l.length ≤ 1048576) (hm : ∀ x ∈ l, x.members.length ≤ 1048576) : FnC Tryd.prog 17 [txsl l, txsl m] [] (fun v L => v = bool (decide (l = m)) ∧ L = []) := by
  refine FnC.intro Tryd.func17 rfl Tryd.ntmps17 rfl fun Z w0 hG => ?_
  by_cases hl : l.length = m.length
  · focus (
    (refine W.seq ?_)
    (refine W.region ?_)
    (refine Jx.assign rfl rfl ?_)
    (refine J.nil ?_)
    (refine N.seq ?_)
    (refine W.seq ?_)
    (refine W.region ?_)
    (refine Jx.move rfl rfl ?_)
    (refine Jx.lenSl rfl rfl ?_)
    (refine Jx.move rfl rfl ?_)
    (refine Jx.lenSl rfl rfl ?_)
    (refine Jx.eqlI rfl rfl rfl ?_)
    (refine Jx.assign rfl rfl ?_)
    (refine J.nil ?_)
    (refine N.seq ?_)
    (refine W.seq ?_)
    (refine W.seq ?_)
    (refine W.region ?_)
    (refine Jx.assign rfl rfl ?_)
    (refine J.nil ?_)
    (refine N.seq ?_)
    (refine W.block ?_)
    (refine id ?_; rotate_left))
    refine W.loop (α := Nat × Bool) (fun x => [(6, int (x.1 : Int)), (5, bool x.2), (0, txsl l), (1, txsl m)]) (fun _ => []) (fun x => x.1 ≤ l.length ∧ (x.2 = true → l.take x.1 = m.take x.1) ∧ (x.2 = false → l ≠ m)) (fun x => l.length - x.1) (0, true) ⟨by omega, by simp, by simp⟩ rfl ⟨ref0 rfl, ⟨_, rfl, Sub.of_eq (by simp [hl])⟩, ref0 rfl, ref0 rfl, trivial⟩ ?_
    rintro ⟨i, q⟩ ⟨hi, h1, h2⟩
    simp only at hi h1 h2
    cases q with
    | false =>
      focus (
    (refine W.seq ?_)
    (refine W.seq ?_)
    (refine W.region ?_)
    (refine Jx.move rfl rfl ?_)
    (refine Jx.move rfl rfl ?_)
    (refine J.gN rfl rfl rfl rfl ?_)
    (refine J.gN rfl rfl rfl rfl ?_)
    (refine J.gN rfl rfl rfl rfl ?_)
    (refine J.gN rfl rfl rfl rfl ?_)
    (refine Jx.pF rfl rfl rfl ?_)
    (refine J.nil ?_)
    (refine N.seq ?_)
    (refine W.cF rfl ?_)
    (refine W.exit ?_)
    (refine N.seq ?_)
    (refine W.seq ?_)
    (refine W.region ?_)
    (refine Jx.move rfl rfl ?_)
    (refine Jx.assign rfl rfl ?_)
    (refine J.nil ?_)
    (refine N.seq ?_)
    (refine W.ret ?_)
    (refine id ?_; rotate_left))
      exact N.ret (rs := [.tmp 4]) rfl (.tmp rfl .nil) ⟨by rw [decide_eq_false (h2 rfl)]; rfl, rfl⟩
    | true =>
      by_cases h3 : i < l.length
      · have h4 : i < m.length := by omega
        have e1 := take_snoc (d := tx0) h3
        have e2 := take_snoc (d := tx0) h4
        have c := sameT_ok (l.getD i tx0) (m.getD i tx0) (hm _ (getD_mem h3))
        focus (
    (refine W.seq ?_)
    (refine W.seq ?_)
    (refine W.region ?_)
    (refine Jx.move rfl rfl ?_)
    (refine Jx.move rfl rfl ?_)
    (refine J.gY rfl rfl rfl ?_)
    (refine Jx.move rfl rfl ?_)
    (refine J.gY rfl rfl rfl ?_)
    (refine Jx.move rfl rfl ?_)
    (refine J.gY rfl rfl rfl ?_)
    (refine Jx.lenSl rfl rfl ?_)
    (refine J.gY rfl rfl rfl ?_)
    (refine Jx.lssI rfl rfl rfl ?_)
    (refine Jx.pT rfl rfl rfl ?_)
    (refine J.nil ?_)
    (refine N.seq ?_)
    (refine W.cT rfl ?_)
    (refine W.skip ?_)
    (refine N.seq ?_)
    (refine W.seq ?_)
    (refine W.block ?_)
    (refine W.draw follows ?_)
    (refine JD.calm rfl (by decide +kernel) ?_)
    (refine Cx.move rfl rfl ?_)
    (refine Cx.move rfl rfl ?_)
    (refine Cx.indexEl rfl rfl (by assumption) rfl rfl ?_)
    (refine Cx.loadPPall rfl rfl rfl ?_)
    (refine Cx.move rfl rfl ?_)
    (refine Cx.move rfl rfl ?_)
    (refine Cx.indexEl rfl rfl (by assumption) rfl rfl ?_)
    (refine Cx.loadPPall rfl rfl rfl ?_)
    (refine SegC.q (Qs.call (Lc := []) (c) (fun s L' h => h) (List.Perm.refl _) (evs_args rfl)) rfl ?_)
    (refine Cx.assign rfl rfl ?_)
    (refine SegC.nil ?_)
    (refine N.seq ?_)
    (refine W.region ?_)
    (refine Jx.move rfl rfl ?_)
    (refine Jx.add64 rfl rfl (by omega) rfl ?_)
    (refine Jx.assign rfl rfl ?_)
    (refine J.nil ?_)
    (refine id ?_; rotate_left))
        refine N.round (i + 1, decide (l.getD i tx0 = m.getD i tx0)) ⟨h3, fun h => ?_, fun h e => ?_⟩ (by simp only; omega) rfl ⟨ref0 rfl, ref0 rfl, ref0 rfl, ref0 rfl, trivial⟩
        · simp only [decide_eq_true_eq] at h
          rw [e1, e2, h1 rfl, h]
        · simp only [decide_eq_false_iff_not] at h
          exact h (by rw [e])
      · have e := h1 rfl
        rw [List.take_of_length_le (by omega), List.take_of_length_le (by omega)] at e
        focus (
    (refine W.seq ?_)
    (refine W.seq ?_)
    (refine W.region ?_)
    (refine Jx.move rfl rfl ?_)
    (refine Jx.move rfl rfl ?_)
    (refine J.gY rfl rfl rfl ?_)
    (refine Jx.move rfl rfl ?_)
    (refine J.gY rfl rfl rfl ?_)
    (refine Jx.move rfl rfl ?_)
    (refine J.gY rfl rfl rfl ?_)
    (refine Jx.lenSl rfl rfl ?_)
    (refine J.gY rfl rfl rfl ?_)
    (refine Jx.lssI rfl rfl rfl ?_)
    (refine Jx.pT rfl rfl rfl ?_)
    (refine J.nil ?_)
    (refine N.seq ?_)
    (refine W.cF rfl ?_)
    (refine W.exit ?_)
    (refine N.seq ?_)
    (refine W.seq ?_)
    (refine W.region ?_)
    (refine Jx.move rfl rfl ?_)
    (refine Jx.assign rfl rfl ?_)
    (refine J.nil ?_)
    (refine N.seq ?_)
    (refine W.ret ?_)
    (refine id ?_; rotate_left))
        exact N.ret (rs := [.tmp 4]) rfl (.tmp rfl .nil) ⟨by rw [decide_eq_true e]; rfl, rfl⟩
  · have hne : l ≠ m := fun e => hl (by rw [e])
    focus (
    (refine W.seq ?_)
    (refine W.region ?_)
    (refine Jx.assign rfl rfl ?_)
    (refine J.nil ?_)
    (refine N.seq ?_)
    (refine W.seq ?_)
    (refine W.region ?_)
    (refine Jx.move rfl rfl ?_)
    (refine Jx.lenSl rfl rfl ?_)
    (refine Jx.move rfl rfl ?_)
    (refine Jx.lenSl rfl rfl ?_)
    (refine Jx.eqlI rfl rfl rfl ?_)
    (refine Jx.assign rfl rfl ?_)
    (refine J.nil ?_)
    (refine N.seq ?_)
    (refine W.seq ?_)
    (refine W.seq ?_)
    (refine W.region ?_)
    (refine Jx.assign rfl rfl ?_)
    (refine J.nil ?_)
    (refine N.seq ?_)
    (refine W.block ?_)
    (refine id ?_; rotate_left))
    refine W.loop (α := Unit) (fun x => [(5, bool false)]) (fun _ => []) (fun x => True) (fun x => 0) () trivial rfl ⟨⟨_, rfl, Sub.of_eq (by simp; omega)⟩, trivial⟩ ?_
    rintro _ _
    focus (
    (refine W.seq ?_)
    (refine W.seq ?_)
    (refine W.region ?_)
    (refine Jx.move rfl rfl ?_)
    (refine Jx.move rfl rfl ?_)
    (refine J.gN rfl rfl rfl rfl ?_)
    (refine J.gN rfl rfl rfl rfl ?_)
    (refine J.gN rfl rfl rfl rfl ?_)
    (refine J.gN rfl rfl rfl rfl ?_)
    (refine Jx.pF rfl rfl rfl ?_)
    (refine J.nil ?_)
    (refine N.seq ?_)
    (refine W.cF rfl ?_)
    (refine W.exit ?_)
    (refine N.seq ?_)
    (refine W.seq ?_)
    (refine W.region ?_)
    (refine Jx.move rfl rfl ?_)
    (refine Jx.assign rfl rfl ?_)
    (refine J.nil ?_)
    (refine N.seq ?_)
    (refine W.ret ?_)
    (refine id ?_; rotate_left))
    exact N.ret (rs := [.tmp 4]) rfl (.tmp rfl .nil) ⟨by rw [decide_eq_false hne]; rfl, rfl⟩
end Go.Proofs.YtlfdhkahiaammaaDoor
namespace Go.Proofs.YtlfdhkahiaammaaDoor
open Go Go.Sse
set_option linter.unusedVariables false
set_option linter.unusedSimpArgs false
set_option maxRecDepth 10000
structure Ct where
  digest : List UInt8
  signers : List (List UInt8)
theorem Ct.ext' {x y : Ct} (h1 : x.digest = y.digest) (h2 : x.signers = y.signers) : x = y := by cases x; cases y; simp_all
instance : DecidableEq Ct := fun x y => decidable_of_iff (x.digest = y.digest ∧ x.signers = y.signers) ⟨fun h => Ct.ext' h.1 h.2, fun h => by subst h; simp⟩
abbrev ctC (c : Ct) : List SV := [str c.digest, ssl c.signers]
def ct0 : Ct := ⟨[], []⟩
def okN (last s : List UInt8) : Bool := !leB s last && decide (s.length ≤ 6)
def fineN : List UInt8 → List (List UInt8) → Bool
  | _, [] => true
  | last, s :: r => okN last s && fineN s r
def fineCt (c : Ct) : Bool := (decide (c.digest.length = 32) && decide (c.signers.length ≤ 7)) && fineN [] c.signers
def bareCt (c : Ct) : Bool := decide (c.digest = []) && decide ((c.signers.length : Int) = 0)
def encCt (c : Ct) : List UInt8 := c.digest ++ listB c.signers
def lastS (l : List (List UInt8)) (i : Nat) : List UInt8 := if i = 0 then [] else l.getD (i - 1) []
theorem lastS_succ (l : List (List UInt8)) (i : Nat) : lastS l (i + 1) = l.getD i [] := by simp [lastS]
theorem fineN_step (l : List (List UInt8)) (i : Nat) (h : i < l.length) (last : List UInt8) : fineN last (l.drop i) = (okN last (l.getD i []) && fineN (l.getD i []) (l.drop (i + 1))) := by
  rw [List.drop_eq_getElem_cons h, List.getD_eq_getElem?_getD, List.getElem?_eq_getElem h]; rfl
theorem fineN_mem : ∀ {l : List (List UInt8)} {last : List UInt8}, fineN last l = true → ∀ s ∈ l, s.length ≤ 6
  | [], _, _, m, hm => by simp at hm
  | x :: r, last, h, m, hm => by
    simp only [fineN, okN, Bool.and_eq_true, decide_eq_true_eq] at h
    rcases List.mem_cons.1 hm with rfl | hm
    · exact h.1.2
    · exact fineN_mem h.2 m hm
theorem fineCt_spec {c : Ct} (h : fineCt c = true) : c.digest.length = 32 ∧ c.signers.length ≤ 7 ∧ ∀ s ∈ c.signers, s.length ≤ 6 := by
  simp only [fineCt, Bool.and_eq_true, decide_eq_true_eq] at h
  exact ⟨h.1.1, h.1.2, fineN_mem h.2⟩
theorem encCt_len {c : Ct} (h : fineCt c = true) : (encCt c).length ≤ 146 := by
  obtain ⟨h1, h2, h3⟩ := fineCt_spec h
  have := listB_len' (l := c.signers) (k := 6) (n := 7) h2 (by decide) h3 (by decide)
  simp only [encCt, List.length_append]; omega
theorem bare_fine {c : Ct} (h : bareCt c = true) : fineCt c = false := by
  simp only [bareCt, Bool.and_eq_true, decide_eq_true_eq] at h
  simp [fineCt, h.1]
theorem bare_eq {c : Ct} (h : bareCt c = true) : c = ct0 := by
  simp only [bareCt, Bool.and_eq_true, decide_eq_true_eq] at h
  exact Ct.ext' h.1 (List.eq_nil_of_length_eq_zero (by omega))
structure ReadC (m e : Int) (s : List UInt8) (c : Ct) (st : PSt) : Prop where
  go : ∃ s1 : PSt, bytesP 32 (some s) = (c.digest, s1) ∧ listP m e s1 = (c.signers, st)
theorem ReadC.sound {m e : Int} {s : List UInt8} {c : Ct} (h : ReadC m e s c (some [])) : encCt c = s := by
  obtain ⟨s1, e1, e2⟩ := h.go
  obtain ⟨rfl, _⟩ := listP_good e2
  obtain ⟨h1, _⟩ := bytesP_good e1
  simp only [Option.some.injEq, List.append_nil] at h1
  rw [encCt, h1]
theorem readC_back {m e : Int} (hm : 7 ≤ m) (he : 6 ≤ e) {y : Ct} (r : List UInt8) (hf : fineCt y = true) : bytesP 32 (some (encCt y ++ r)) = (y.digest, some (listB y.signers ++ r)) ∧ listP m e (some (listB y.signers ++ r)) = (y.signers, some r) := by
  obtain ⟨h1, h2, h3⟩ := fineCt_spec hf
  refine ⟨by rw [encCt, List.append_assoc]; exact bytesP_back' _ _ h1, listP_back _ _ (by omega) (by omega) fun t ht => ?_⟩
  have := h3 t ht
  omega
theorem ReadC.whole {m e : Int} (hm : 7 ≤ m) (he : 6 ≤ e) {s : List UInt8} {c y : Ct} {st : PSt} (h : ReadC m e s c st) (hf : fineCt y = true) (hs : encCt y = s) : c = y ∧ st = some [] := by
  obtain ⟨s1, e1, e2⟩ := h.go
  obtain ⟨g1, g2⟩ := readC_back hm he [] hf
  rw [List.append_nil, hs, e1] at g1
  simp only [Prod.mk.injEq] at g1
  obtain ⟨k1, rfl⟩ := g1
  rw [e2] at g2
  simp only [Prod.mk.injEq] at g2
  exact ⟨Ct.ext' k1 g2.1, g2.2⟩
theorem apCt : Apart fineCt encCt := ⟨fun x y r q hx hy h => by
  obtain ⟨a1, a2⟩ := readC_back (m := 7) (e := 6) (by decide) (by decide) r hx
  obtain ⟨b1, b2⟩ := readC_back (m := 7) (e := 6) (by decide) (by decide) q hy
  rw [h, b1] at a1
  simp only [Prod.mk.injEq, Option.some.injEq] at a1
  rw [a1.2, a2] at b2
  simp only [Prod.mk.injEq, Option.some.injEq] at b2
  exact ⟨Ct.ext' a1.1.symm b2.1, b2.2⟩⟩
end Go.Proofs.YtlfdhkahiaammaaDoor
namespace Go.Sse
open Go Go.Sse
set_option linter.unusedVariables false
set_option linter.unusedSimpArgs false
set_option maxRecDepth 10000
section
variable {P : Program} {Γ : Ctx} {Q : Exit → Act → World → Prop} {F : List (Nat × SV)} {L : List Own} {α : Type}
def slotInt (a : Act) (i : Nat) : Int := match a.tmps.getD i undef with
  | .int _ n => n
  | _ => 0
def JS (Γ : Ctx) (Fi : α → List (Nat × SV)) (Li : α → List Own) (inv : α → Prop) (a : Act) (w : World) : Prop := ∃ x, inv x ∧ St Γ (Fi x) (Li x) a w
theorem W.scopeJ {c rest : Code} (l : Nat) (Fi : α → List (Nat × SV)) (Li : α → List Own) (inv : α → Prop) (i : Nat) (v : α → Int) (f : Int → Nat) (hf : findLabel c l = some rest) (hv : ∀ x, inv x → look (Fi x) i = some (.val (.int .i64 (v x))))
    (first : W P Γ (Exit.jump l (JS Γ Fi Li inv) Q) F L c)
    (pass : ∀ x, inv x → W P Γ (Exit.jump l (JS Γ Fi Li fun y => inv y ∧ f (v y) < f (v x)) Q) (Fi x) (Li x) rest) : W P Γ Q F L (.scope c) :=
  ⟨fun a w hst => by
    refine wp_scope_jumps l (JS Γ Fi Li inv) (fun a _ => f (slotInt a i)) hf (first.go a w hst) ?_
    rintro a w ⟨x, hx, hs⟩
    have hs1 : slotInt a i = v x := by unfold slotInt; rw [(hs.fr i _ (hv x hx)).val_eq]
    refine wp_mono ((pass x hx).go a w hs) ?_
    intro e a' w' hq
    cases e with
    | goto l' =>
      obtain ⟨h1, y, ⟨hy, hlt⟩, hs'⟩ := hq
      have hs2 : slotInt a' i = v y := by unfold slotInt; rw [(hs'.fr i _ (hv y hy)).val_eq]
      exact ⟨h1, ⟨y, hy, hs'⟩, by rw [hs1, hs2]; exact hlt⟩
    | normal => exact hq
    | exit id => exact hq
    | ret => exact hq
    | panic ch => exact hq
    | outgrown => exact hq⟩
theorem W.label {l : Nat} (h : N Γ (Q .normal) F L) : W P Γ Q F L (.label l) := ⟨fun a w hst => wp_label (h.go a w hst)⟩
theorem W.goto {l : Nat} (h : N Γ (Q (.goto l)) F L) : W P Γ Q F L (.goto l) := ⟨fun a w hst => wp_goto (h.go a w hst)⟩
theorem N.seqGoto {K : Act → World → Prop} {l : Nat} (h : N Γ (Q (.goto l)) F L) : N Γ (Exit.then K Q (.goto l)) F L := ⟨fun a w hst => h.go a w hst⟩
theorem N.jump {J : Act → World → Prop} {l : Nat} (h : N Γ J F L) : N Γ (Exit.jump l J Q (.goto l)) F L := ⟨fun a w hst => ⟨rfl, h.go a w hst⟩⟩
theorem N.atJump {Fi : α → List (Nat × SV)} {Li : α → List Own} {inv : α → Prop} (x : α) (hx : inv x) (hL : L = Li x) (hF : Told F (Fi x)) : N Γ (JS Γ Fi Li inv) F L := ⟨fun a w hst => by subst hL; exact ⟨x, hx, hst.told hF⟩⟩
theorem W.jumpLess {c : Code} {l : Nat} {J1 J2 : Act → World → Prop} (h : ∀ a w, J1 a w → J2 a w) (hw : W P Γ (Exit.jump l J1 Q) F L c) : W P Γ (Exit.jump l J2 Q) F L c :=
  ⟨fun a w hst => wp_mono (hw.go a w hst) (by
    intro e a' w' hq
    cases e with
    | goto l' => exact ⟨hq.1, h _ _ hq.2⟩
    | normal => exact hq
    | exit id => exact hq
    | ret => exact hq
    | panic ch => exact hq
    | outgrown => exact hq)⟩
theorem W.scopeL {c y : Code} (l : Nat) (Fi : α → List (Nat × SV)) (Li : α → List Own) (inv : α → Prop) (i : Nat) (v : α → Int) (f : Int → Nat) (hf : findLabel c l = some (.seq .skip y)) (hv : ∀ x, inv x → look (Fi x) i = some (.val (.int .i64 (v x))))
    (first : (∀ x, inv x → W P Γ (Exit.jump l (JS Γ Fi Li inv) Q) (Fi x) (Li x) y) → W P Γ (Exit.jump l (JS Γ Fi Li inv) Q) F L c)
    (pass : ∀ x, inv x → W P Γ (Exit.jump l (JS Γ Fi Li fun y => inv y ∧ f (v y) < f (v x)) Q) (Fi x) (Li x) y) : W P Γ Q F L (.scope c) :=
  W.scopeJ l Fi Li inv i v f hf hv (first fun x hx => W.jumpLess (fun a w ⟨y, hy, hs⟩ => ⟨y, hy.1, hs⟩) (pass x hx)) fun x hx => W.seq (W.skip (N.seq (pass x hx)))
theorem W.scopeS {c : Code} (h : W P Γ (Exit.noGoto Q) F L c) : W P Γ Q F L (.scope c) := ⟨fun a w hst => wp_scope_straight (h.go a w hst)⟩
theorem N.noGotoRet (h : N Γ (Q .ret) F L) : N Γ (Exit.noGoto Q .ret) F L := ⟨fun a w hst => h.go a w hst⟩
theorem N.noGotoNormal (h : N Γ (Q .normal) F L) : N Γ (Exit.noGoto Q .normal) F L := ⟨fun a w hst => h.go a w hst⟩
end
section
variable {P : Program} {Γ : Ctx} {ops : Array Oper} {Q : Exit → Act → World → Prop} {F G : List (Nat × SV)} {L L' : List Own}
theorem JP.perm {S idx : List Nat} (hp : L.Perm L') (h : JP P Γ ops Q S idx G L') : JP P Γ ops Q S idx G L :=
  ⟨fun k listed a w hq hk => by
    have hin : ∀ b, inF L' b ↔ inF L b := fun b => (hp.flatMap_right _).mem_iff.symm
    exact h.go k listed a w ⟨hq.sz, hq.lo, hq.hi, hq.cl, hq.ws.perm hp, hq.nt, hq.df, fun x s hx hb => (hq.fr x s hx hb).stable fun b _ hn => ⟨rfl, fun hc => hn (by rcases hc with hc | hc; exact .inl hc; exact .inr ((hin b).1 hc))⟩⟩ hk⟩
theorem WSt.rowRel {v : Value} {E sz n : Nat} {el : Nat → List SV} {w : World} (hws : WSt Γ (.row v E sz n el :: L) w) (hmax : n ≤ maxLen) : Rel (ZL Γ.Z L) w (.sl sz n el) v := by
  rcases hws.holds _ (List.mem_cons_self ..) with ⟨rfl, rfl⟩ | ⟨b, cap, cur, fz, rfl, hbk, hu, hnc, hcm, hcs, hone, hell, hrel⟩
  · exact .sl sz 0 el none 0 (fun _ => undef) (Nat.le_refl _) (Nat.zero_le _) (.inl (by simp)) (by simp) (by simp) (by simp)
  · have hle : n * sz ≤ cur.size := by rw [hcs]; exact Nat.mul_le_mul_right _ hnc
    have hnz : ¬ ZL Γ.Z L b := by
      have hnd := hws.nodup
      rw [foots_cons, List.nodup_append] at hnd
      rintro (h | h)
      · exact (hws.foot b (by simp [inF, foots_cons, Own.foot])).1 h
      · exact hnd.2.2 b (by simp [Own.foot]) b h rfl
    refine .sl sz n el (some ⟨b, 0, none⟩) cap (fun k => cur.toList.getD k undef) hnc hcm (.inr ⟨b, 0, rfl, hnz, fun k hk => ?_⟩) (fun k hk => ?_) hell (fun i j hi hj => (hrel i j hi hj).stable fun b' _ hn => ⟨rfl, fun hc => hn ?_⟩)
    · rw [Nat.zero_add, obj_cell hbk]
      have : k < cur.size := by omega
      simp [List.getD_eq_getElem?_getD, this]
    · have : k < cur.size := by omega
      refine hone _ ?_
      simp only [List.getD_eq_getElem?_getD, Array.getElem?_toList, Array.getElem?_eq_getElem this, Option.getD_some]
      exact Array.getElem_mem_toList this
    · rcases hc with hc | hc
      · exact .inl hc
      · refine .inr ?_
        simp only [inF, foots_cons, List.mem_append]
        exact .inr hc
theorem Step.objTell {k b o : Nat} {T : TypeId} {cs : List SV} {s : SV} {v : Value} {w : World} (h : WSt Γ L w) (hi : L[k]? = some (.obj b T cs)) (hc : cs[o]? = some (.val v)) (hr : Rel (ZL Γ.Z L) w s v) : Step Γ L (L.set k (.obj b T (cs.set o s))) w w := by
  refine Step.upd h hi rfl ⟨rfl, rfl, rfl, rfl⟩ (fun _ _ => rfl) ?_
  obtain ⟨vs, fz, hb, hu, h1, h2, h3⟩ := h.holds _ (mem_of_idx hi)
  have hlt : o < cs.length := (List.getElem?_eq_some_iff.1 hc).1
  refine ⟨vs, fz, hb, hu, by rw [List.length_set]; exact h1, h2, fun j hj => ?_⟩
  rw [List.length_set] at hj
  have h4 := h3 j hj
  by_cases ho : o = j
  · subst ho
    simp only [List.getD_eq_getElem?_getD, hc, Option.getD_some] at h4
    have h5 := h4.val_eq
    simp only [List.getD_eq_getElem?_getD, List.getElem?_set_self hlt, Option.getD_some] at h5 ⊢
    rw [h5]; exact hr
  · simp only [List.getD_eq_getElem?_getD, List.getElem?_set_ne ho] at h4 ⊢
    exact h4
theorem St.freezeCell {v : Value} {E sz n k b o : Nat} {T : TypeId} {cs : List SV} {el : Nat → List SV} {a : Act} {w : World} (hst : St Γ F (.row v E sz n el :: L) a w) (hi : L[k]? = some (.obj b T cs)) (hc : cs[o]? = some (.val v)) (hmax : n ≤ maxLen) : St Γ F (L.set k (.obj b T (cs.set o (.sl sz n el)))) a w := by
  have hr := hst.ws.rowRel hmax
  have hs := hst.step (Step.drop hst.ws (List.sublist_cons_self _ _))
  exact hs.step (Step.objTell hs.ws hi hc hr)
theorem W.freezeCell {c : Code} (j k o : Nat) {v : Value} {E sz n b : Nat} {T : TypeId} {cs : List SV} {el : Nat → List SV} (hj : L[j]? = some (.row v E sz n el)) (hi : (L.eraseIdx j)[k]? = some (.obj b T cs)) (hc : cs[o]? = some (.val v)) (hmax : n ≤ maxLen) (hL : (L.eraseIdx j).set k (.obj b T (cs.set o (.sl sz n el))) = L') (h : W P Γ Q F L' c) : W P Γ Q F L c :=
  ⟨fun a w hst => by subst hL; exact h.go a w ((hst.perm (perm_erase hj)).freezeCell hi hc hmax)⟩
theorem N.freezeCell {K : Act → World → Prop} (j k o : Nat) {v : Value} {E sz n b : Nat} {T : TypeId} {cs : List SV} {el : Nat → List SV} (hj : L[j]? = some (.row v E sz n el)) (hi : (L.eraseIdx j)[k]? = some (.obj b T cs)) (hc : cs[o]? = some (.val v)) (hmax : n ≤ maxLen) (hL : (L.eraseIdx j).set k (.obj b T (cs.set o (.sl sz n el))) = L') (h : N Γ K F L') : N Γ K F L :=
  ⟨fun a w hst => by subst hL; exact h.go a w ((hst.perm (perm_erase hj)).freezeCell hi hc hmax)⟩
end
end Go.Sse
namespace Go.Proofs.YtlfdhkahiaammaaDoor
open Go Go.Sse
set_option linter.unusedVariables false
set_option linter.unusedSimpArgs false
set_option maxRecDepth 10000
abbrev isl (l : List Int) : SV := .sl 1 l.length (elOf (fun n => [int n]) 0 l)
def linksTo (n k : Nat) : List Int := ((List.range k).filter (fun j => n % 2 ^ (j + 1) = 0)).map (fun j => (n : Int) - ((2 ^ (j + 1) : Nat) : Int))
def linksI (h : Int) : List Int := if 1 ≤ h ∧ h ≤ 1048576 then linksTo h.toNat 20 else []
theorem linksTo_yes (n k : Nat) (h : n % 2 ^ (k + 1) = 0) : linksTo n (k + 1) = linksTo n k ++ [(n : Int) - ((2 ^ (k + 1) : Nat) : Int)] := by
  simp only [linksTo, List.range_succ, List.filter_append, List.map_append]
  simp [h]
theorem linksTo_no (n k : Nat) (h : ¬ n % 2 ^ (k + 1) = 0) : linksTo n (k + 1) = linksTo n k := by
  simp only [linksTo, List.range_succ, List.filter_append, List.map_append]
  simp [h]
theorem mod_up {n k : Nat} (h : ¬ n % 2 ^ (k + 1) = 0) : ∀ j, ¬ n % 2 ^ (k + 1 + j) = 0
  | 0 => h
  | j + 1 => fun h2 => by
    refine mod_up h j ?_
    have : 2 ^ (k + 1 + (j + 1)) = 2 ^ (k + 1 + j) * 2 := by rw [show k + 1 + (j + 1) = (k + 1 + j) + 1 by omega, Nat.pow_succ]
    rw [this] at h2
    exact Nat.mod_eq_zero_of_dvd (Nat.dvd_trans (Nat.dvd_mul_right _ _) (Nat.dvd_of_mod_eq_zero h2))
theorem linksTo_end {n k : Nat} (h : ¬ n % 2 ^ (k + 1) = 0) : ∀ d, linksTo n (k + d) = linksTo n k
  | 0 => rfl
  | d + 1 => by rw [show k + (d + 1) = (k + d) + 1 by omega, linksTo_no _ _ (by rw [show k + d + 1 = k + 1 + d by omega]; exact mod_up h d), linksTo_end h d]
theorem linksTo_len (n k : Nat) : (linksTo n k).length ≤ k := by
  simp only [linksTo, List.length_map]
  exact Nat.le_trans (List.length_filter_le _ _) (by simp)
theorem linksI_len (h : Int) : (linksI h).length ≤ 20 := by
  unfold linksI
  split
  · exact linksTo_len _ _
  · simp
theorem linksI_zero {h : Int} (h0 : h < 1) : linksI h = [] := by rw [linksI, if_neg (by omega)]
theorem pow_small {n k : Nat} (h1 : 1 ≤ n) (h2 : n ≤ 1048576) (h : n % 2 ^ (k + 1) = 0) : k < 20 ∧ 2 ^ (k + 1) ≤ 1048576 := by
  have hle : 2 ^ (k + 1) ≤ n := Nat.le_of_dvd (by omega) (Nat.dvd_of_mod_eq_zero h)
  refine ⟨?_, by omega⟩
  rcases Nat.lt_or_ge k 20 with hk | hk
  · exact hk
  · have : 2 ^ 21 ≤ 2 ^ (k + 1) := Nat.pow_le_pow_right (by omega) (by omega)
    have h21 : 2 ^ 21 = 2097152 := by decide
    omega
set_option maxHeartbeats 2000000 in
theorem links_ok (h : Int) : FnC Tryd.prog 89 [int h] [] (fun v L => v = isl (linksI h) ∧ L = []) := by
  refine FnC.intro Tryd.func89 rfl Tryd.ntmps89 rfl fun Z w0 hG => ?_
  by_cases hh : 1 ≤ h ∧ h ≤ 1048576
  · obtain ⟨n, rfl⟩ : ∃ n : Nat, h = n := ⟨h.toNat, by omega⟩
    have h1 : 1 ≤ n := by omega
    have h2 : n ≤ 1048576 := by omega
    have hl : linksI (n : Int) = linksTo n 20 := by rw [linksI, if_pos hh, Int.toNat_natCast]
    rw [hl]
    focus (
    (refine W.seq ?_)
    (refine W.region ?_)
    (refine Jx.assign rfl rfl ?_)
    (refine J.nil ?_)
    (refine N.seq ?_)
    (refine id ?_; rotate_left))
    refine W.scopeL (α := Nat × Value) 0 (fun x => [(3, .val x.2), (4, int ((2 ^ (x.1 + 1) : Nat) : Int)), (0, int (n : Int))]) (fun x => [.row x.2 3 1 (linksTo n x.1).length (elOf (fun n => [int n]) 0 (linksTo n x.1))]) (fun x => 2 ^ (x.1 + 1) ≤ 2097152) 4 (fun x => ((2 ^ (x.1 + 1) : Nat) : Int)) (fun m => (4194304 - m).toNat) rfl (fun _ _ => rfl) ?_ ?_
    · intro hr
      focus (
    (refine W.seq ?_)
    (refine W.seq ?_)
    (refine W.region ?_)
    (refine Jx.move rfl rfl ?_)
    (refine Jx.lssI rfl rfl rfl ?_)
    (refine Jx.move rfl rfl ?_)
    (refine J.gY rfl rfl rfl ?_)
    (refine Jx.move rfl rfl ?_)
    (refine J.gY rfl rfl rfl ?_)
    (refine Jx.gtrI rfl rfl rfl ?_)
    (refine Jx.pF rfl rfl rfl ?_)
    (refine J.nil ?_)
    (refine N.seq ?_)
    (refine W.cF rfl ?_)
    (refine W.skip ?_)
    (refine N.seq ?_)
    (refine W.seq ?_)
    (refine W.region ?_)
    (refine Jx.assign rfl rfl ?_)
    (refine J.nil ?_)
    (refine N.seq ?_)
    (refine W.seq ?_)
    (refine W.region ?_)
    (refine Jx.assign rfl rfl ?_)
    (refine J.nil ?_)
    (refine N.seq ?_)
    (refine W.seq ?_)
    (refine id ?_; rotate_left))
      refine W.label ?_
      refine N.seq ?_
      refine W.rowNil 3 1 (elOf (fun n => [int n]) 0 []) ?_
      refine W.told ?_ (hr (0, .slice none 0 0) (by decide))
      exact ⟨ref0 rfl, ref0 rfl, ref0 rfl, trivial⟩
    · rintro ⟨k, u⟩ hk
      simp only at hk ⊢
      have hlen := linksTo_len n k
      have hpos : 0 < 2 ^ (k + 1) := Nat.pow_pos (by omega)
      have hmax : (linksTo n k).length ≤ maxLen := by
        have : k ≤ 2 ^ (k + 1) := Nat.le_of_lt (Nat.lt_of_lt_of_le (Nat.lt_two_pow_self) (Nat.pow_le_pow_right (by omega) (by omega)))
        simp only [maxLen]; omega
      have hm : (n : Int) % ((2 ^ (k + 1) : Nat) : Int) = ((n % 2 ^ (k + 1) : Nat) : Int) := by rw [Int.natCast_emod]
      by_cases h0 : n % 2 ^ (k + 1) = 0
      · obtain ⟨g1, g2⟩ := pow_small h1 h2 h0
        have hy := linksTo_yes n k h0
        have hp : 2 ^ (k + 1 + 1) = 2 ^ (k + 1) * 2 := Nat.pow_succ ..
        have hp2 : (((2 ^ (k + 1) : Nat) : Int)) * 2 = ((2 ^ (k + 1 + 1) : Nat) : Int) := by omega
        have hmx : (linksTo n k).length + [(n : Int) - ((2 ^ (k + 1) : Nat) : Int)].length ≤ maxLen ∧ ((linksTo n k).length + [(n : Int) - ((2 ^ (k + 1) : Nat) : Int)].length) * 8 ≤ 140737488355328 := by simp only [maxLen, List.length_cons, List.length_nil]; omega
        rw [h0] at hm
        generalize 2 ^ (k + 1) = p at *
        generalize linksTo n k = acc at *
        focus (
    (refine W.seq ?_)
    (refine W.seq ?_)
    (refine W.region ?_)
    (refine Jx.move rfl rfl ?_)
    (refine Jx.move rfl rfl ?_)
    (refine Jx.rem64 rfl rfl (by omega) (by omega) rfl ?_; rw [hm])
    (refine Jx.eqlI rfl rfl rfl ?_)
    (refine J.nil ?_)
    (refine N.seq ?_)
    (refine W.cT rfl ?_)
    (refine W.seq ?_)
    (refine W.region ?_)
    (refine Jx.move rfl rfl ?_)
    (refine Jx.move rfl rfl ?_)
    (refine Jx.move rfl rfl ?_)
    (refine Jx.sub64 rfl rfl (by omega) rfl ?_)
    (refine J.qs (Qs.buildL (fun n : Int => int n) 0 [(n : Int) - (p : Int)] (fun _ => .val rfl) rfl rfl rfl (by decide) (by decide) rfl) rfl ?_)
    (refine J.appendAt (l := acc) (l2 := [(n : Int) - (p : Int)]) 0 rfl rfl (SrcOK.sl rfl) rfl rfl hmx rfl ?_; intro v2 hv2)
    (refine Jx.assign rfl rfl ?_)
    (refine J.nil ?_)
    (refine N.seq ?_)
    (refine W.seq ?_)
    (refine W.region ?_)
    (refine Jx.move rfl rfl ?_)
    (refine Jx.mul64 rfl rfl (by omega) rfl ?_)
    (refine Jx.assign rfl rfl ?_)
    (refine J.nil ?_)
    (refine N.seq ?_)
    (refine W.goto ?_)
    (refine N.seqGoto ?_)
    (refine N.jump ?_)
    (refine id ?_; rotate_left))
        exact N.atJump (k + 1, v2) ⟨by simp only; omega, by simp only [hp]; omega⟩ (by rw [hy]; rfl) ⟨ref0 rfl, ⟨_, rfl, Sub.of_eq (by simp only; rw [hp2])⟩, ref0 rfl, trivial⟩
      · have hle : k ≤ 20 := by
          rcases Nat.lt_or_ge 20 k with h | h
          · have : 2 ^ 22 ≤ 2 ^ (k + 1) := Nat.pow_le_pow_right (by omega) (by omega)
            have h22 : 2 ^ 22 = 4194304 := by decide
            omega
          · exact h
        have he : linksTo n 20 = linksTo n k := by rw [show 20 = k + (20 - k) by omega, linksTo_end h0]
        rw [he]
        have hm0 : ¬ ((n % 2 ^ (k + 1) : Nat) : Int) = 0 := by omega
        generalize n % 2 ^ (k + 1) = r at *
        generalize linksTo n k = acc at *
        refine W.freezeAt 0 3 rfl rfl hmax ?_
        focus (
    (refine W.seq ?_)
    (refine W.seq ?_)
    (refine W.region ?_)
    (refine Jx.move rfl rfl ?_)
    (refine Jx.move rfl rfl ?_)
    (refine Jx.rem64 rfl rfl (by omega) (by omega) rfl ?_; rw [hm])
    (refine Jx.eqlI rfl rfl rfl ?_)
    (refine J.nil ?_)
    (refine N.seq ?_)
    (refine W.cF rfl ?_)
    (refine W.skip ?_)
    (refine N.seq ?_)
    (refine W.seq ?_)
    (refine W.region ?_)
    (refine Jx.move rfl rfl ?_)
    (refine Jx.assign rfl rfl ?_)
    (refine J.nil ?_)
    (refine N.seq ?_)
    (refine W.ret ?_)
    (refine N.noGotoRet ?_)
    (refine id ?_; rotate_left))
        exact N.ret (rs := [.tmp 2]) rfl (.tmp rfl .nil) ⟨rfl, rfl⟩
  · have hl : linksI h = [] := if_neg hh
    rw [hl]
    focus (
    (refine W.seq ?_)
    (refine W.region ?_)
    (refine Jx.assign rfl rfl ?_)
    (refine J.nil ?_)
    (refine N.seq ?_)
    (refine id ?_; rotate_left))
    refine W.scopeS ?_
    by_cases h1 : h < 1
    · focus (
    (refine W.seq ?_)
    (refine W.seq ?_)
    (refine W.region ?_)
    (refine Jx.move rfl rfl ?_)
    (refine Jx.lssI rfl rfl rfl ?_)
    (refine Jx.move rfl rfl ?_)
    (refine J.gN rfl rfl rfl rfl ?_)
    (refine J.gN rfl rfl rfl rfl ?_)
    (refine Jx.pT rfl rfl rfl ?_)
    (refine J.nil ?_)
    (refine N.seq ?_)
    (refine W.cT rfl ?_)
    (refine W.seq ?_)
    (refine W.region ?_)
    (refine Jx.assign rfl rfl ?_)
    (refine J.nil ?_)
    (refine N.seq ?_)
    (refine W.ret ?_)
    (refine N.noGotoRet ?_)
    (refine N.noGotoRet ?_)
    (refine id ?_; rotate_left))
      refine N.told (G := [(2, isl [])]) ⟨⟨_, rfl, Sub.nil 1 _⟩, trivial⟩ ?_
      exact N.ret (rs := [.tmp 2]) rfl (.tmp rfl .nil) ⟨rfl, rfl⟩
    · focus (
    (refine W.seq ?_)
    (refine W.seq ?_)
    (refine W.region ?_)
    (refine Jx.move rfl rfl ?_)
    (refine Jx.lssI rfl rfl rfl ?_)
    (refine Jx.move rfl rfl ?_)
    (refine J.gY rfl rfl rfl ?_)
    (refine Jx.move rfl rfl ?_)
    (refine J.gY rfl rfl rfl ?_)
    (refine Jx.gtrI rfl rfl rfl ?_)
    (refine Jx.pF rfl rfl rfl ?_)
    (refine J.nil ?_)
    (refine N.seq ?_)
    (refine W.cT rfl ?_)
    (refine W.seq ?_)
    (refine W.region ?_)
    (refine Jx.assign rfl rfl ?_)
    (refine J.nil ?_)
    (refine N.seq ?_)
    (refine W.ret ?_)
    (refine N.noGotoRet ?_)
    (refine N.noGotoRet ?_)
    (refine id ?_; rotate_left))
      refine N.told (G := [(2, isl [])]) ⟨⟨_, rfl, Sub.nil 1 _⟩, trivial⟩ ?_
      exact N.ret (rs := [.tmp 2]) rfl (.tmp rfl .nil) ⟨rfl, rfl⟩
theorem findIdx_take {α : Type} {p : α → Bool} {l : List α} {i : Nat} (h : ∀ y ∈ l.take i, p y = false) (hi : i < l.length) (d : α) (hp : p (l.getD i d) = true) : l.findIdx? p = some i := by
  rw [List.findIdx?_eq_some_iff_getElem]
  refine ⟨hi, by rw [List.getD_eq_getElem?_getD, List.getElem?_eq_getElem hi] at hp; exact hp, fun j hj => ?_⟩
  have : l[j] ∈ l.take i := by
    rw [List.mem_take_iff_getElem]
    exact ⟨j, by omega, rfl⟩
  rw [h _ this]; simp
end Go.Proofs.YtlfdhkahiaammaaDoor
namespace Go.Proofs.YtlfdhkahiaammaaDoor
open Go Go.Sse
set_option linter.unusedVariables false
set_option linter.unusedSimpArgs false
set_option maxRecDepth 10000
structure Hd where
  height : Int
  epoch : Int
  view : Int
  last : Bool
  parent : List UInt8
  state : List UInt8
  receipts : List UInt8
  txs : List UInt8
  members : List UInt8
  next : List UInt8
  skips : List (List UInt8)
theorem Hd.ext' {x y : Hd} (h1 : x.height = y.height) (h2 : x.epoch = y.epoch) (h3 : x.view = y.view) (h4 : x.last = y.last) (h5 : x.parent = y.parent) (h6 : x.state = y.state) (h7 : x.receipts = y.receipts) (h8 : x.txs = y.txs) (h9 : x.members = y.members) (h10 : x.next = y.next) (h11 : x.skips = y.skips) : x = y := by
  cases x; cases y; simp_all
instance : DecidableEq Hd := fun x y => decidable_of_iff (x.height = y.height ∧ x.epoch = y.epoch ∧ x.view = y.view ∧ x.last = y.last ∧ x.parent = y.parent ∧ x.state = y.state ∧ x.receipts = y.receipts ∧ x.txs = y.txs ∧ x.members = y.members ∧ x.next = y.next ∧ x.skips = y.skips) ⟨fun h => by cases x; cases y; simp_all, fun h => by subst h; simp⟩
abbrev hdC (h : Hd) : List SV := [int h.height, int h.epoch, int h.view, bool h.last, str h.parent, str h.state, str h.receipts, str h.txs, str h.members, str h.next, ssl h.skips]
def hd0 : Hd := ⟨0, 0, 0, false, [], [], [], [], [], [], []⟩
def inB (n : Int) : Bool := decide (0 ≤ n) && decide (n ≤ 1048576)
def sumB (s : List UInt8) : Bool := decide ((s.length : Int) = 32)
def maybeB (s : List UInt8) : Bool := decide (s = []) || sumB s
def numbersH (h : Hd) : Bool := (inB h.height && inB h.epoch) && inB h.view
def firstH (h : Hd) : Bool := if 0 < h.height then sumB h.parent else ((decide (h.parent = []) && decide (h.epoch = 0)) && decide (h.view = 0)) && h.last
def tailH (b : Bool) (h : Hd) : Bool := ((((b && sumB h.txs) && sumB h.members) && sumB h.next) && maybeB h.state) && maybeB h.receipts
def skipsH (h : Hd) : Bool := decide ((h.skips.length : Int) = ((linksI h.height).length : Int)) && !h.skips.any fun s => !sumB s
def sumsH (h : Hd) : Bool := if 0 < h.height then tailH (skipsH h) h else if (h.skips.length : Int) = 0 then tailH true h else false
def badH (h : Hd) : Bool := ((!numbersH h || !firstH h) || !sumsH h) || (!h.last && decide (h.next ≠ h.members))
def fineHd (h : Hd) : Bool := !badH h
structure FineH (h : Hd) : Prop where
  height : 0 ≤ h.height ∧ h.height ≤ 1048576
  epoch : 0 ≤ h.epoch ∧ h.epoch ≤ 1048576
  view : 0 ≤ h.view ∧ h.view ≤ 1048576
  parent : (0 < h.height → h.parent.length = 32) ∧ (h.height = 0 → h.parent = [] ∧ h.epoch = 0 ∧ h.view = 0 ∧ h.last = true)
  txs : h.txs.length = 32
  members : h.members.length = 32
  next : h.next.length = 32
  state : h.state = [] ∨ h.state.length = 32
  receipts : h.receipts = [] ∨ h.receipts.length = 32
  skips : h.skips.length = (linksI h.height).length
  each : ∀ s ∈ h.skips, s.length = 32
  same : h.last = false → h.next = h.members
theorem sumB_iff (s : List UInt8) : sumB s = true ↔ s.length = 32 := by simp only [sumB, decide_eq_true_eq]; omega
theorem maybeB_iff (s : List UInt8) : maybeB s = true ↔ s = [] ∨ s.length = 32 := by simp only [maybeB, Bool.or_eq_true, decide_eq_true_eq, sumB_iff]
theorem inB_iff (n : Int) : inB n = true ↔ 0 ≤ n ∧ n ≤ 1048576 := by simp only [inB, Bool.and_eq_true, decide_eq_true_eq]
theorem tailH_iff (b : Bool) (h : Hd) : tailH b h = true ↔ b = true ∧ h.txs.length = 32 ∧ h.members.length = 32 ∧ h.next.length = 32 ∧ (h.state = [] ∨ h.state.length = 32) ∧ (h.receipts = [] ∨ h.receipts.length = 32) := by
  simp only [tailH, Bool.and_eq_true, sumB_iff, maybeB_iff]
  constructor
  · rintro ⟨⟨⟨⟨⟨a, b⟩, c⟩, d⟩, e⟩, f⟩; exact ⟨a, b, c, d, e, f⟩
  · rintro ⟨a, b, c, d, e, f⟩; exact ⟨⟨⟨⟨⟨a, b⟩, c⟩, d⟩, e⟩, f⟩
theorem skipsH_iff (h : Hd) : skipsH h = true ↔ h.skips.length = (linksI h.height).length ∧ ∀ s ∈ h.skips, s.length = 32 := by
  simp only [skipsH, Bool.and_eq_true, decide_eq_true_eq, Bool.not_eq_true', List.any_eq_false, Bool.not_eq_true]
  constructor
  · rintro ⟨a, b⟩
    refine ⟨by omega, fun s hs => ?_⟩
    have := b s hs
    exact (sumB_iff s).1 (by simpa using this)
  · rintro ⟨a, b⟩
    refine ⟨by omega, fun s hs => ?_⟩
    have := (sumB_iff s).2 (b s hs)
    simp [this]
theorem fineHd_iff (h : Hd) : fineHd h = true ↔ FineH h := by
  simp only [fineHd, badH, Bool.not_eq_true', Bool.or_eq_false_iff, Bool.not_eq_false', Bool.and_eq_false_iff, numbersH, Bool.and_eq_true, inB_iff, decide_eq_false_iff_not, Classical.not_not]
  constructor
  · rintro ⟨⟨⟨⟨⟨n1, n2⟩, n3⟩, hf⟩, hs⟩, hl⟩
    have hsame : h.last = false → h.next = h.members := fun he => by
      rcases hl with h' | h'
      · rw [he] at h'; cases h'
      · exact h'
    by_cases h0 : 0 < h.height
    · rw [firstH, if_pos h0, sumB_iff] at hf
      rw [sumsH, if_pos h0, tailH_iff, skipsH_iff] at hs
      obtain ⟨⟨s1, s2⟩, t1, t2, t3, t4, t5⟩ := hs
      exact ⟨n1, n2, n3, ⟨fun _ => hf, fun h' => by omega⟩, t1, t2, t3, t4, t5, s1, s2, hsame⟩
    · have hz : h.height = 0 := by omega
      rw [firstH, if_neg h0] at hf
      simp only [Bool.and_eq_true, decide_eq_true_eq] at hf
      obtain ⟨⟨⟨f1, f2⟩, f3⟩, f4⟩ := hf
      rw [sumsH, if_neg h0] at hs
      split at hs
      · rename_i hk
        rw [tailH_iff] at hs
        obtain ⟨_, t1, t2, t3, t4, t5⟩ := hs
        have he : h.skips = [] := List.eq_nil_of_length_eq_zero (by omega)
        refine ⟨n1, n2, n3, ⟨fun h' => by omega, fun _ => ⟨f1, f2, f3, f4⟩⟩, t1, t2, t3, t4, t5, ?_, by rw [he]; simp, hsame⟩
        rw [he, linksI_zero (by omega)]; rfl
      · cases hs
  · intro f
    have hl : h.last = true ∨ h.next = h.members := by
      cases hb : h.last with
      | true => exact .inl rfl
      | false => exact .inr (f.same hb)
    refine ⟨⟨⟨⟨⟨f.height, f.epoch⟩, f.view⟩, ?_⟩, ?_⟩, hl⟩
    · by_cases h0 : 0 < h.height
      · rw [firstH, if_pos h0, sumB_iff]; exact f.parent.1 h0
      · have hz : h.height = 0 := by have := f.height; omega
        obtain ⟨p1, p2, p3, p4⟩ := f.parent.2 hz
        rw [firstH, if_neg h0, p1, p2, p3, p4]; rfl
    · by_cases h0 : 0 < h.height
      · rw [sumsH, if_pos h0, tailH_iff, skipsH_iff]
        exact ⟨⟨f.skips, f.each⟩, f.txs, f.members, f.next, f.state, f.receipts⟩
      · have hz : h.height = 0 := by have := f.height; omega
        have hk := f.skips
        rw [linksI_zero (by omega)] at hk
        simp only [List.length_nil] at hk
        rw [sumsH, if_neg h0, if_pos (by omega), tailH_iff]
        exact ⟨rfl, f.txs, f.members, f.next, f.state, f.receipts⟩
def idB (s : List UInt8) : List UInt8 := s
def encHd (h : Hd) : List UInt8 := numB h.height.toNat ++ (numB h.epoch.toNat ++ (numB h.view.toNat ++ (flagB h.last ++ (textB h.parent ++ (textB h.state ++ (textB h.receipts ++ (h.txs ++ (h.members ++ (h.next ++ flT idB h.skips)))))))))
theorem flag_len (f : Bool) : (flagB f).length = 1 := by cases f <;> rfl
theorem FineH.parent32 {h : Hd} (f : FineH h) : h.parent.length ≤ 32 := by
  have := f.height
  by_cases h0 : 0 < h.height
  · have := f.parent.1 h0; omega
  · have := (f.parent.2 (by omega)).1; rw [this]; simp
theorem FineH.state32 {h : Hd} (f : FineH h) : h.state.length ≤ 32 := by rcases f.state with h | h <;> simp [h]
theorem FineH.receipts32 {h : Hd} (f : FineH h) : h.receipts.length ≤ 32 := by rcases f.receipts with h | h <;> simp [h]
theorem FineH.skips20 {h : Hd} (f : FineH h) : h.skips.length ≤ 20 := by rw [f.skips]; exact linksI_len _
theorem flS_len {h : Hd} (f : FineH h) : (flT idB h.skips).length ≤ 640 := by
  have h1 := flT_len (f := idB) (k := 32) (l := h.skips) fun s hs => by rw [idB, f.each s hs]; exact Nat.le_refl _
  have := f.skips20
  omega
theorem numBs {n : Int} (h : n ≤ 1048576) : (numB n.toNat).length ≤ 9 := (numB_len (n := n.toNat) (by omega)).2
theorem encHd_len {h : Hd} (f : FineH h) : (encHd h).length ≤ 887 := by
  have := numBs f.height.2; have := numBs f.epoch.2; have := numBs f.view.2; have := flag_len h.last
  have := textB_len f.parent32 (by omega); have := textB_len f.state32 (by omega); have := textB_len f.receipts32 (by omega)
  have := flS_len f
  simp only [encHd, List.length_append, f.txs, f.members, f.next]
  omega
def reps : Nat → PSt → List (List UInt8) × PSt
  | 0, st => ([], st)
  | n + 1, st => ((bytesP 32 st).1 :: (reps n (bytesP 32 st).2).1, (reps n (bytesP 32 st).2).2)
theorem reps_none : ∀ n, (reps n none).2 = none
  | 0 => rfl
  | n + 1 => by simp only [reps, bytesP]; exact reps_none n
theorem reps_good : ∀ {n : Nat} {st : PSt} {l : List (List UInt8)} {r : List UInt8}, reps n st = (l, some r) → st = some (flT idB l ++ r) ∧ l.length = n ∧ ∀ t ∈ l, t.length = 32
  | 0, st, l, r, h => by
    simp only [reps, Prod.mk.injEq] at h
    obtain ⟨rfl, rfl⟩ := h
    exact ⟨rfl, rfl, by simp⟩
  | n + 1, st, l, r, h => by
    simp only [reps, Prod.mk.injEq] at h
    obtain ⟨rfl, h2⟩ := h
    cases hb : bytesP 32 st with
    | mk t s1 =>
      rw [hb] at h2
      simp only at h2 ⊢
      cases s1 with
      | none => rw [reps_none] at h2; cases h2
      | some q =>
        obtain ⟨g1, g2⟩ := bytesP_good hb
        cases hr : reps n (some q) with
        | mk l2 s2 =>
          rw [hr] at h2
          simp only at h2 ⊢
          subst h2
          obtain ⟨e1, e2, e3⟩ := reps_good hr
          simp only [Option.some.injEq] at e1
          refine ⟨by rw [g1, e1, flT_cons, idB, List.append_assoc], by simp [e2], ?_⟩
          intro u hu
          rcases List.mem_cons.1 hu with rfl | hu
          · exact g2
          · exact e3 u hu
theorem reps_back : ∀ (l : List (List UInt8)) (r : List UInt8), (∀ t ∈ l, t.length = 32) → reps l.length (some (flT idB l ++ r)) = (l, some r)
  | [], r, _ => rfl
  | t :: l, r, h => by
    have h0 := h t (List.mem_cons_self ..)
    simp only [List.length_cons, reps, flT_cons, List.append_assoc]
    rw [show idB t = t from rfl, bytesP_back' t _ h0]
    simp only
    rw [reps_back l r fun u hu => h u (List.mem_cons_of_mem _ hu)]
structure ReadH (s : List UInt8) (h : Hd) (st : PSt) : Prop where
  go : ∃ (n1 n2 n3 : Nat) (s1 s2 s3 s4 s5 s6 s7 s8 s9 s10 : PSt), numP (some s) = (n1, s1) ∧ h.height = n1 ∧ numP s1 = (n2, s2) ∧ h.epoch = n2 ∧ numP s2 = (n3, s3) ∧ h.view = n3 ∧ flagP s3 = (h.last, s4) ∧
    textP 32 s4 = (h.parent, s5) ∧ textP 32 s5 = (h.state, s6) ∧ textP 32 s6 = (h.receipts, s7) ∧ bytesP 32 s7 = (h.txs, s8) ∧ bytesP 32 s8 = (h.members, s9) ∧ bytesP 32 s9 = (h.next, s10) ∧ reps (linksI h.height).length s10 = (h.skips, st)
theorem ReadH.sound {s : List UInt8} {h : Hd} (hr : ReadH s h (some [])) : encHd h = s := by
  obtain ⟨n1, n2, n3, s1, s2, s3, s4, s5, s6, s7, s8, s9, s10, e1, k1, e2, k2, e3, k3, e4, e5, e6, e7, e8, e9, e10, e11⟩ := hr.go
  obtain ⟨rfl, _⟩ := reps_good e11
  obtain ⟨rfl, _⟩ := bytesP_good e10
  obtain ⟨rfl, _⟩ := bytesP_good e9
  obtain ⟨rfl, _⟩ := bytesP_good e8
  obtain ⟨rfl, _⟩ := textP_good e7
  obtain ⟨rfl, _⟩ := textP_good e6
  obtain ⟨rfl, _⟩ := textP_good e5
  obtain rfl := flagP_good e4
  obtain ⟨rfl, _⟩ := numP_good e3
  obtain ⟨rfl, _⟩ := numP_good e2
  obtain ⟨h1, _⟩ := numP_good e1
  simp only [Option.some.injEq] at h1
  rw [h1, encHd, k1, k2, k3]
  simp only [Int.toNat_natCast, List.append_nil]
theorem ReadH.whole {s : List UInt8} {h y : Hd} {st : PSt} (hr : ReadH s h st) (hf : FineH y) (hs : encHd y = s) : h = y ∧ st = some [] := by
  obtain ⟨n1, n2, n3, s1, s2, s3, s4, s5, s6, s7, s8, s9, s10, e1, k1, e2, k2, e3, k3, e4, e5, e6, e7, e8, e9, e10, e11⟩ := hr.go
  have f1 := hf.height; have f2 := hf.epoch; have f3 := hf.view
  have p1 := hf.parent32; have p2 := hf.state32; have p3 := hf.receipts32
  rw [← hs, encHd, numP_back _ (by omega)] at e1
  simp only [Prod.mk.injEq] at e1
  obtain ⟨rfl, rfl⟩ := e1
  rw [numP_back _ (by omega)] at e2
  simp only [Prod.mk.injEq] at e2
  obtain ⟨rfl, rfl⟩ := e2
  rw [numP_back _ (by omega)] at e3
  simp only [Prod.mk.injEq] at e3
  obtain ⟨rfl, rfl⟩ := e3
  rw [flagP_back] at e4
  simp only [Prod.mk.injEq] at e4
  obtain ⟨g4, rfl⟩ := e4
  rw [textP_back _ _ (by omega) (by omega)] at e5
  simp only [Prod.mk.injEq] at e5
  obtain ⟨g5, rfl⟩ := e5
  rw [textP_back _ _ (by omega) (by omega)] at e6
  simp only [Prod.mk.injEq] at e6
  obtain ⟨g6, rfl⟩ := e6
  rw [textP_back _ _ (by omega) (by omega)] at e7
  simp only [Prod.mk.injEq] at e7
  obtain ⟨g7, rfl⟩ := e7
  rw [bytesP_back' _ _ hf.txs] at e8
  simp only [Prod.mk.injEq] at e8
  obtain ⟨g8, rfl⟩ := e8
  rw [bytesP_back' _ _ hf.members] at e9
  simp only [Prod.mk.injEq] at e9
  obtain ⟨g9, rfl⟩ := e9
  rw [bytesP_back' _ _ hf.next] at e10
  simp only [Prod.mk.injEq] at e10
  obtain ⟨g10, rfl⟩ := e10
  have kh : h.height = y.height := by omega
  rw [kh, ← hf.skips, ← List.append_nil (flT idB y.skips), reps_back _ _ hf.each] at e11
  simp only [Prod.mk.injEq] at e11
  obtain ⟨g11, rfl⟩ := e11
  exact ⟨Hd.ext' kh (by omega) (by omega) g4.symm g5.symm g6.symm g7.symm g8.symm g9.symm g10.symm g11.symm, rfl⟩
theorem flS_ap : ∀ {a b : List (List UInt8)} {r q : List UInt8}, a.length = b.length → (∀ s ∈ a, s.length = 32) → (∀ s ∈ b, s.length = 32) → flT idB a ++ r = flT idB b ++ q → a = b ∧ r = q
  | [], [], r, q, _, _, _, h => ⟨rfl, h⟩
  | [], _ :: _, _, _, h, _, _, _ => by simp at h
  | _ :: _, [], _, _, h, _, _, _ => by simp at h
  | x :: a, y :: b, r, q, h, ha, hb, he => by
    rw [flT_cons, flT_cons, List.append_assoc, List.append_assoc] at he
    obtain ⟨e1, he⟩ := List.append_inj he (by rw [idB, idB, ha x (List.mem_cons_self ..), hb y (List.mem_cons_self ..)])
    obtain ⟨e2, e3⟩ := flS_ap (by simpa using h) (fun s hs => ha s (List.mem_cons_of_mem _ hs)) (fun s hs => hb s (List.mem_cons_of_mem _ hs)) he
    rw [show x = y from e1, e2]
    exact ⟨rfl, e3⟩
theorem flag_ap {a b : Bool} {r q : List UInt8} (h : flagB a ++ r = flagB b ++ q) : a = b ∧ r = q := by
  have h1 := flagP_back a r
  rw [h, flagP_back] at h1
  simp only [Prod.mk.injEq, Option.some.injEq] at h1
  exact ⟨h1.1.symm, h1.2.symm⟩
theorem encHd_ap {x y : Hd} {r q : List UInt8} (hx : fineHd x = true) (hy : fineHd y = true) (h : encHd x ++ r = encHd y ++ q) : x = y ∧ r = q := by
  have fx := (fineHd_iff x).1 hx
  have fy := (fineHd_iff y).1 hy
  have f1 := fx.height; have f2 := fx.epoch; have f3 := fx.view; have p1 := fx.parent32; have p2 := fx.state32; have p3 := fx.receipts32
  have g1 := fy.height; have g2 := fy.epoch; have g3 := fy.view; have q1 := fy.parent32; have q2 := fy.state32; have q3 := fy.receipts32
  simp only [encHd, List.append_assoc] at h
  obtain ⟨e1, h⟩ := numB_ap (by omega) (by omega) h
  obtain ⟨e2, h⟩ := numB_ap (by omega) (by omega) h
  obtain ⟨e3, h⟩ := numB_ap (by omega) (by omega) h
  obtain ⟨e4, h⟩ := flag_ap h
  obtain ⟨e5, h⟩ := textB_ap (by omega) (by omega) h
  obtain ⟨e6, h⟩ := textB_ap (by omega) (by omega) h
  obtain ⟨e7, h⟩ := textB_ap (by omega) (by omega) h
  obtain ⟨e8, h⟩ := List.append_inj h (by rw [fx.txs, fy.txs])
  obtain ⟨e9, h⟩ := List.append_inj h (by rw [fx.members, fy.members])
  obtain ⟨e10, h⟩ := List.append_inj h (by rw [fx.next, fy.next])
  have kh : x.height = y.height := by omega
  obtain ⟨e11, h⟩ := flS_ap (by rw [fx.skips, fy.skips, kh]) fx.each fy.each h
  exact ⟨Hd.ext' kh (by omega) (by omega) e4 e5 e6 e7 e8 e9 e10 e11, h⟩
theorem apHd : Apart fineHd encHd := ⟨fun x y r q hx hy h => encHd_ap hx hy h⟩
end Go.Proofs.YtlfdhkahiaammaaDoor
namespace Go.Proofs.YtlfdhkahiaammaaDoor
open Go Go.Sse
set_option linter.unusedVariables false
set_option linter.unusedSimpArgs false
set_option maxRecDepth 10000
theorem encAll_ap {a b : List Tx} {r q : List UInt8} (ha : fineAll a = true) (hb : fineAll b = true) (h : encAll a ++ r = encAll b ++ q) : a = b ∧ r = q := by
  obtain ⟨a1, a2⟩ := fineAll_spec ha
  obtain ⟨b1, b2⟩ := fineAll_spec hb
  have key : ∀ {l : List Tx} (t : List UInt8), fineAll l = true → listP 8 65536 (some (encAll l ++ t)) = (l.map encTx, some t) := fun {l} t hl => by
    obtain ⟨l1, l2⟩ := fineAll_spec hl
    exact listP_back _ _ (by rw [List.length_map]; omega) (by rw [List.length_map]; omega) fun u hu => by
      obtain ⟨x, hx, rfl⟩ := List.mem_map.1 hu
      have := encTx_len ((fineTx_iff x).1 (l2 x hx))
      exact ⟨by omega, by omega⟩
  have h1 := key r ha
  rw [h, key q hb] at h1
  simp only [Prod.mk.injEq, Option.some.injEq] at h1
  obtain ⟨h2, rfl⟩ := h1
  refine ⟨?_, rfl⟩
  clear key h ha hb a1 b1
  induction a generalizing b with
  | nil => cases b with
    | nil => rfl
    | cons y b => simp at h2
  | cons x a ih => cases b with
    | nil => simp at h2
    | cons y b =>
      simp only [List.map_cons, List.cons.injEq] at h2
      rw [encTx_inj (a2 x (List.mem_cons_self ..)) (b2 y (List.mem_cons_self ..)) h2.1.symm, ih (fun z hz => a2 z (List.mem_cons_of_mem _ hz)) (fun z hz => b2 z (List.mem_cons_of_mem _ hz)) h2.2]
theorem apAll : Apart fineAll encAll := ⟨fun x y r q hx hy h => encAll_ap hx hy h⟩
end Go.Proofs.YtlfdhkahiaammaaDoor
namespace Go.Proofs.YtlfdhkahiaammaaDoor
open Go Go.Sse
set_option linter.unusedVariables false
set_option linter.unusedSimpArgs false
set_option maxRecDepth 10000
structure Bk where
  head : Hd
  txs : List Tx
  just : Ct
theorem Bk.ext' {x y : Bk} (h1 : x.head = y.head) (h2 : x.txs = y.txs) (h3 : x.just = y.just) : x = y := by cases x; cases y; simp_all
instance : DecidableEq Bk := fun x y => decidable_of_iff (x.head = y.head ∧ x.txs = y.txs ∧ x.just = y.just) ⟨fun h => Bk.ext' h.1 h.2.1 h.2.2, fun h => by subst h; simp⟩
abbrev bkC (b : Bk) : List SV := [int b.head.height, int b.head.epoch, int b.head.view, bool b.head.last, str b.head.parent, str b.head.state, str b.head.receipts, str b.head.txs, str b.head.members, str b.head.next, ssl b.head.skips, txsl b.txs, str b.just.digest, ssl b.just.signers]
def bk0 : Bk := ⟨hd0, [], ct0⟩
def justB (b : Bk) : Bool := bareCt b.just || (fineCt b.just && decide (b.just.digest = b.head.parent))
def topB (b : Bk) : Bool := ((fineHd b.head && decide (1 ≤ b.head.height)) && fineAll b.txs) && decide (rootT b.txs = b.head.txs)
def fineBk (b : Bk) : Bool := topB b && justB b
def justE (c : Ct) : List UInt8 := if bareCt c then flagB false else flagB true ++ textB (encCt c)
def encBk (b : Bk) : List UInt8 := textB (encHd b.head) ++ (textB (encAll b.txs) ++ justE b.just)
structure FineB (b : Bk) : Prop where
  head : fineHd b.head = true
  high : 1 ≤ b.head.height
  txs : fineAll b.txs = true
  root : rootT b.txs = b.head.txs
  just : bareCt b.just = true ∨ fineCt b.just = true ∧ b.just.digest = b.head.parent
theorem fineBk_iff (b : Bk) : fineBk b = true ↔ FineB b := by
  simp only [fineBk, topB, justB, Bool.and_eq_true, Bool.or_eq_true, decide_eq_true_eq]
  exact ⟨fun ⟨⟨⟨⟨a, b⟩, c⟩, d⟩, e⟩ => ⟨a, b, c, d, e⟩, fun ⟨a, b, c, d, e⟩ => ⟨⟨⟨⟨a, b⟩, c⟩, d⟩, e⟩⟩
theorem FineB.lens {b : Bk} (f : FineB b) : (encHd b.head).length ≤ 887 ∧ (encAll b.txs).length ≤ 1769 ∧ (bareCt b.just = false → fineCt b.just = true ∧ (encCt b.just).length ≤ 146) := by
  refine ⟨encHd_len ((fineHd_iff _).1 f.head), encAll_len f.txs, fun hb => ?_⟩
  have h : fineCt b.just = true := by
    rcases f.just with h | h
    · rw [hb] at h; cases h
    · exact h.1
  exact ⟨h, encCt_len h⟩
theorem justE_len {b : Bk} (f : FineB b) : (justE b.just).length ≤ 156 := by
  unfold justE
  cases hb : bareCt b.just with
  | true => simp [flag_len]
  | false =>
    have := (f.lens.2.2 hb).2
    have h2 := textB_len this (by omega)
    simp only [Bool.false_eq_true, if_false, List.length_append, flag_len]
    omega
theorem encBk_len {b : Bk} (f : FineB b) : (encBk b).length ≤ 2830 := by
  obtain ⟨h1, h2, _⟩ := f.lens
  have := textB_len h1 (by omega); have := textB_len h2 (by omega); have := justE_len f
  simp only [encBk, List.length_append]; omega
structure JustR (m : Int) (st2 : PSt) (c : Ct) (ok : Bool) (st : PSt) : Prop where
  go : ∃ f s3, flagP st2 = (f, s3) ∧ (f = false → c = ct0 ∧ ok = true ∧ st = s3) ∧ (f = true → ∃ t o, textP m s3 = (t, st) ∧ DecR fineCt encCt t o ∧ c = o.getD ct0 ∧ ok = o.isSome)
structure ReadB (m : Int) (s : List UInt8) (b : Bk) (k1 k2 k3 : Bool) (st : PSt) : Prop where
  go : ∃ t1 s1 t2 s2 o1 o2, textP m (some s) = (t1, s1) ∧ DecR fineHd encHd t1 o1 ∧ b.head = o1.getD hd0 ∧ k1 = o1.isSome ∧ textP m s1 = (t2, s2) ∧ DecR fineAll encAll t2 o2 ∧ b.txs = o2.getD [] ∧ k2 = o2.isSome ∧ JustR m s2 b.just k3 st
theorem fine_bare {c : Ct} (h : fineCt c = true) : bareCt c = false := by
  cases hb : bareCt c with
  | false => rfl
  | true => rw [bare_fine hb] at h; cases h
theorem JustR.sound {m : Int} {r : List UInt8} {st2 : PSt} {c : Ct} (h : JustR m st2 c true (some r)) : st2 = some (justE c ++ r) := by
  obtain ⟨f, s3, e1, h1, h2⟩ := h.go
  cases f with
  | false =>
    obtain ⟨rfl, _, h3⟩ := h1 rfl
    subst h3
    rw [flagP_good e1]; rfl
  | true =>
    obtain ⟨t, o, e2, ho, rfl, hs⟩ := h2 rfl
    cases o with
    | none => cases hs
    | some c =>
      obtain ⟨g1, g2, g3⟩ := textP_good e2
      subst g1
      rw [flagP_good e1, justE, if_neg (by rw [Option.getD_some, fine_bare ho.1]; simp), Option.getD_some, ho.2, List.append_assoc]
theorem JustR.whole {m : Int} (hm : 65536 ≤ m) {r : List UInt8} {st st2 : PSt} {c : Ct} {k : Bool} (h : JustR m st2 c k st) {b : Bk} (f : FineB b) (hs : st2 = some (justE b.just ++ r)) : c = b.just ∧ k = true ∧ st = some r := by
  obtain ⟨fl, s3, e1, h1, h2⟩ := h.go
  subst hs
  unfold justE at e1
  cases hb : bareCt b.just with
  | true =>
    rw [hb, if_pos rfl, flagP_back] at e1
    simp only [Prod.mk.injEq] at e1
    obtain ⟨rfl, rfl⟩ := e1
    obtain ⟨rfl, rfl, rfl⟩ := h1 rfl
    exact ⟨(bare_eq hb).symm, rfl, rfl⟩
  | false =>
    obtain ⟨g1, g2⟩ := f.lens.2.2 hb
    rw [hb, if_neg (by simp), List.append_assoc, flagP_back] at e1
    simp only [Prod.mk.injEq] at e1
    obtain ⟨rfl, rfl⟩ := e1
    obtain ⟨t, o, e2, ho, rfl, rfl⟩ := h2 rfl
    rw [textP_back _ _ (by omega) (by omega)] at e2
    simp only [Prod.mk.injEq] at e2
    obtain ⟨rfl, rfl⟩ := e2
    rw [apCt.some' ho g1 rfl]
    exact ⟨rfl, rfl, rfl⟩
theorem ReadB.sound {m : Int} {s : List UInt8} {b : Bk} (h : ReadB m s b true true true (some [])) : encBk b = s := by
  obtain ⟨t1, s1, t2, s2, o1, o2, e1, d1, q1, k1, e2, d2, q2, k2, hj⟩ := h.go
  have h3 := hj.sound
  subst h3
  obtain ⟨h2, _⟩ := textP_good e2
  subst h2
  obtain ⟨h1, _⟩ := textP_good e1
  simp only [Option.some.injEq] at h1
  cases o1 with
  | none => cases k1
  | some x =>
    cases o2 with
    | none => cases k2
    | some l =>
      rw [encBk, q1, q2, Option.getD_some, Option.getD_some, d1.2, d2.2, h1, List.append_nil]
theorem ReadB.whole {m : Int} (hm : 65536 ≤ m) {s : List UInt8} {b y : Bk} {k1 k2 k3 : Bool} {st : PSt} (h : ReadB m s b k1 k2 k3 st) (f : FineB y) {r : List UInt8} (hs : encBk y ++ r = s) : b = y ∧ k1 = true ∧ k2 = true ∧ k3 = true ∧ st = some r := by
  obtain ⟨t1, s1, t2, s2, o1, o2, e1, d1, q1, rfl, e2, d2, q2, rfl, hj⟩ := h.go
  obtain ⟨l1, l2, _⟩ := f.lens
  subst hs
  rw [encBk, List.append_assoc, List.append_assoc, textP_back _ _ (by omega) (by omega)] at e1
  simp only [Prod.mk.injEq] at e1
  obtain ⟨rfl, rfl⟩ := e1
  rw [textP_back _ _ (by omega) (by omega)] at e2
  simp only [Prod.mk.injEq] at e2
  obtain ⟨rfl, rfl⟩ := e2
  obtain ⟨g1, g2, g3⟩ := hj.whole hm f rfl
  rw [apHd.some' d1 f.head rfl] at q1 ⊢
  rw [apAll.some' d2 f.txs rfl] at q2 ⊢
  exact ⟨Bk.ext' q1 q2 g1, rfl, rfl, g2, g3⟩
end Go.Proofs.YtlfdhkahiaammaaDoor
namespace Go.Proofs.YtlfdhkahiaammaaDoor
open Go Go.Sse
set_option linter.unusedVariables false
set_option linter.unusedSimpArgs false
set_option maxRecDepth 10000
structure Ms where
  kind : Int
  who : List UInt8
  epoch : Int
  view : Int
  digest : List UInt8
  block : Bk
  cert : Ct
theorem Ms.ext' {x y : Ms} (h1 : x.kind = y.kind) (h2 : x.who = y.who) (h3 : x.epoch = y.epoch) (h4 : x.view = y.view) (h5 : x.digest = y.digest) (h6 : x.block = y.block) (h7 : x.cert = y.cert) : x = y := by
  cases x; cases y; simp_all
instance : DecidableEq Ms := fun x y => decidable_of_iff ((((((x.kind = y.kind ∧ x.who = y.who) ∧ x.epoch = y.epoch) ∧ x.view = y.view) ∧ x.digest = y.digest) ∧ x.block = y.block) ∧ x.cert = y.cert) ⟨fun h => Ms.ext' h.1.1.1.1.1.1 h.1.1.1.1.1.2 h.1.1.1.1.2 h.1.1.1.2 h.1.1.2 h.1.2 h.2, fun h => by subst h; simp⟩
abbrev msC (m : Ms) : List SV := [int m.kind, str m.who, int m.epoch, int m.view, str m.digest, int m.block.head.height, int m.block.head.epoch, int m.block.head.view, bool m.block.head.last, str m.block.head.parent, str m.block.head.state, str m.block.head.receipts, str m.block.head.txs, str m.block.head.members, str m.block.head.next, ssl m.block.head.skips, txsl m.block.txs, str m.block.just.digest, ssl m.block.just.signers, str m.cert.digest, ssl m.cert.signers]
def ms0 : Ms := ⟨0, [], 0, 0, [], bk0, ct0⟩
def fitsM (m : Ms) : Bool :=
  if m.kind = 1 then (((decide (m.digest = []) && bareCt m.cert) && fineBk m.block) && decide (m.epoch = m.block.head.epoch)) && decide (m.view = m.block.head.view)
  else if m.kind = 2 then (decide (m.digest.length = 32) && bareCt m.cert) && decide (m.block = bk0)
  else if m.kind = 3 then (decide (m.digest = []) && (bareCt m.cert || fineCt m.cert)) && decide (m.block = bk0)
  else if m.kind = 4 then (((decide (m.digest.length = 32) && bareCt m.cert) && decide (m.block = bk0)) && decide (m.epoch = 0)) && decide (m.view = 0)
  else false
def numsM (m : Ms) : Bool := ((decide (0 ≤ m.epoch) && decide (m.epoch ≤ 1048576)) && decide (0 ≤ m.view)) && decide (m.view ≤ 1048576)
def fineMs (m : Ms) : Bool := (nameB m.who && numsM m) && fitsM m
def tailM (m : Ms) : List UInt8 := if m.kind = 1 then textB (encBk m.block) else if m.kind = 3 then justE m.cert else m.digest
def encMs (m : Ms) : List UInt8 := [UInt8.ofNat m.kind.toNat] ++ textB m.who ++ numB m.epoch.toNat ++ numB m.view.toNat ++ tailM m
structure FineM (m : Ms) : Prop where
  kind : 1 ≤ m.kind ∧ m.kind ≤ 4
  who : 1 ≤ m.who.length ∧ m.who.length ≤ 6
  epoch : 0 ≤ m.epoch ∧ m.epoch ≤ 1048576
  view : 0 ≤ m.view ∧ m.view ≤ 1048576
  k1 : m.kind = 1 → m.digest = [] ∧ m.cert = ct0 ∧ fineBk m.block = true
  k2 : m.kind = 2 ∨ m.kind = 4 → m.digest.length = 32 ∧ m.cert = ct0 ∧ m.block = bk0
  k3 : m.kind = 3 → m.digest = [] ∧ (bareCt m.cert = true ∨ fineCt m.cert = true) ∧ m.block = bk0
theorem nameB_len {s : List UInt8} (h : nameB s = true) : 1 ≤ s.length ∧ s.length ≤ 6 := by
  cases s <;> simp [nameB] at h ⊢ <;> omega
theorem fineMs_spec {m : Ms} (h : fineMs m = true) : FineM m := by
  simp only [fineMs, numsM, Bool.and_eq_true, decide_eq_true_eq] at h
  obtain ⟨⟨h1, ⟨⟨h2, h3⟩, h4⟩, h5⟩, h6⟩ := h
  have hn := nameB_len h1
  unfold fitsM at h6
  by_cases e1 : m.kind = 1
  · rw [if_pos e1] at h6
    simp only [Bool.and_eq_true, decide_eq_true_eq] at h6
    exact ⟨by omega, hn, ⟨h2, h3⟩, ⟨h4, h5⟩, fun _ => ⟨h6.1.1.1.1, bare_eq h6.1.1.1.2, h6.1.1.2⟩, fun h => by omega, fun h => by omega⟩
  · rw [if_neg e1] at h6
    by_cases e2 : m.kind = 2
    · rw [if_pos e2] at h6
      simp only [Bool.and_eq_true, decide_eq_true_eq] at h6
      exact ⟨by omega, hn, ⟨h2, h3⟩, ⟨h4, h5⟩, fun h => by omega, fun _ => ⟨h6.1.1, bare_eq h6.1.2, h6.2⟩, fun h => by omega⟩
    · rw [if_neg e2] at h6
      by_cases e3 : m.kind = 3
      · rw [if_pos e3] at h6
        simp only [Bool.and_eq_true, Bool.or_eq_true, decide_eq_true_eq] at h6
        exact ⟨by omega, hn, ⟨h2, h3⟩, ⟨h4, h5⟩, fun h => by omega, fun h => by omega, fun _ => ⟨h6.1.1, h6.1.2, h6.2⟩⟩
      · rw [if_neg e3] at h6
        by_cases e4 : m.kind = 4
        · rw [if_pos e4] at h6
          simp only [Bool.and_eq_true, decide_eq_true_eq] at h6
          exact ⟨by omega, hn, ⟨h2, h3⟩, ⟨h4, h5⟩, fun h => by omega, fun _ => ⟨h6.1.1.1.1, bare_eq h6.1.1.1.2, h6.1.1.2⟩, fun h => by omega⟩
        · rw [if_neg e4] at h6; cases h6
theorem justE_len' {c : Ct} (f : bareCt c = true ∨ fineCt c = true) : (justE c).length ≤ 156 := by
  unfold justE
  cases hb : bareCt c with
  | true => simp [flag_len]
  | false =>
    have hf : fineCt c = true := by
      rcases f with h | h
      · rw [hb] at h; cases h
      · exact h
    have h2 := textB_len (encCt_len hf) (by omega)
    simp only [Bool.false_eq_true, if_false, List.length_append, flag_len]
    omega
theorem tailM_len {m : Ms} (f : FineM m) : (tailM m).length ≤ 2839 := by
  unfold tailM
  by_cases e1 : m.kind = 1
  · rw [if_pos e1]
    exact textB_len (encBk_len ((fineBk_iff _).1 (f.k1 e1).2.2)) (by omega)
  · rw [if_neg e1]
    by_cases e3 : m.kind = 3
    · rw [if_pos e3]
      have := justE_len' (f.k3 e3).2.1
      omega
    · rw [if_neg e3]
      have := (f.k2 (by have := f.kind; omega)).1
      omega
theorem encMs_len {m : Ms} (f : FineM m) : (encMs m).length ≤ 2873 := by
  have h1 := textB_len f.who.2 (by omega)
  have h2 := numB9 (n := m.epoch) (by have := f.epoch; omega)
  have h3 := numB9 (n := m.view) (by have := f.view; omega)
  have h4 := tailM_len f
  simp only [encMs, List.length_append, List.length_cons, List.length_nil]; omega
structure TailM (mx : Int) (m : Ms) (ok : Bool) (st st' : PSt) : Prop where
  k1 : m.kind = 1 → ∃ t o, textP mx st = (t, st') ∧ DecR fineBk encBk t o ∧ m.block = o.getD bk0 ∧ ok = o.isSome ∧ m.cert = ct0 ∧ m.digest = []
  k3 : m.kind = 3 → JustR mx st m.cert ok st' ∧ m.block = bk0 ∧ m.digest = []
  kd : m.kind ≠ 1 → m.kind ≠ 3 → bytesP 32 st = (m.digest, st') ∧ m.block = bk0 ∧ m.cert = ct0 ∧ ok = true
structure ReadM (mn mx : Int) (s : List UInt8) (m : Ms) (ok : Bool) (st : PSt) : Prop where
  go : ∃ k s1 s2 e s3 v s4, bytesP 1 (some s) = (k, s1) ∧ m.kind = ((k.getD 0 0).toNat : Int) ∧ textP mn s1 = (m.who, s2) ∧ numP s2 = (e, s3) ∧ m.epoch = (e : Int) ∧ numP s3 = (v, s4) ∧ m.view = (v : Int) ∧ TailM mx m ok s4 st
theorem TailM.sound {mx : Int} {m : Ms} {st : PSt} {r : List UInt8} (h : TailM mx m true st (some r)) : st = some (tailM m ++ r) := by
  unfold tailM
  by_cases e1 : m.kind = 1
  · obtain ⟨t, o, h1, h2, h3, h4, _⟩ := h.k1 e1
    obtain ⟨g, _⟩ := textP_good h1
    cases o with
    | none => cases h4
    | some b => rw [if_pos e1, g, h3, Option.getD_some, h2.2]
  · by_cases e3 : m.kind = 3
    · rw [if_neg e1, if_pos e3]
      exact (h.k3 e3).1.sound
    · rw [if_neg e1, if_neg e3]
      exact (bytesP_good (h.kd e1 e3).1).1
theorem ReadM.sound {mn mx : Int} {s : List UInt8} {m : Ms} (h : ReadM mn mx s m true (some [])) : encMs m = s := by
  obtain ⟨k, s1, s2, e, s3, v, s4, h1, h2, h3, h4, h5, h6, h7, h8⟩ := h.go
  have h9 := h8.sound
  subst h9
  obtain ⟨rfl, _⟩ := numP_good h6
  obtain ⟨rfl, _⟩ := numP_good h4
  obtain ⟨rfl, _⟩ := textP_good h3
  obtain ⟨g1, g2⟩ := bytesP_good h1
  simp only [Option.some.injEq] at g1
  match k, g2 with
  | [b], _ =>
    have hk : m.kind = ((b.toNat : Nat) : Int) := h2
    rw [g1, encMs, hk, h5, h7]
    simp
theorem JustR.whole' {m : Int} (hm : 65536 ≤ m) {r : List UInt8} {st st2 : PSt} {c y : Ct} {k : Bool} (h : JustR m st2 c k st) (f : bareCt y = true ∨ fineCt y = true) (hs : st2 = some (justE y ++ r)) : c = y ∧ k = true ∧ st = some r := by
  obtain ⟨fl, s3, e1, h1, h2⟩ := h.go
  subst hs
  unfold justE at e1
  cases hb : bareCt y with
  | true =>
    rw [hb, if_pos rfl, flagP_back] at e1
    simp only [Prod.mk.injEq] at e1
    obtain ⟨rfl, rfl⟩ := e1
    obtain ⟨rfl, rfl, rfl⟩ := h1 rfl
    exact ⟨(bare_eq hb).symm, rfl, rfl⟩
  | false =>
    have g1 : fineCt y = true := by
      rcases f with h | h
      · rw [hb] at h; cases h
      · exact h
    have g2 := encCt_len g1
    rw [hb, if_neg (by simp), List.append_assoc, flagP_back] at e1
    simp only [Prod.mk.injEq] at e1
    obtain ⟨rfl, rfl⟩ := e1
    obtain ⟨t, o, e2, ho, rfl, rfl⟩ := h2 rfl
    rw [textP_back _ _ (by omega) (by omega)] at e2
    simp only [Prod.mk.injEq] at e2
    obtain ⟨rfl, rfl⟩ := e2
    rw [apCt.some' ho g1 rfl]
    exact ⟨rfl, rfl, rfl⟩
theorem justR_back {y : Ct} (f : bareCt y = true ∨ fineCt y = true) (r : List UInt8) : JustR 65536 (some (justE y ++ r)) y true (some r) := by
  unfold justE
  cases hb : bareCt y with
  | true => exact ⟨false, some r, by rw [if_pos rfl, flagP_back], fun _ => ⟨bare_eq hb, rfl, rfl⟩, fun h => by cases h⟩
  | false =>
    have g1 : fineCt y = true := by
      rcases f with h | h
      · rw [hb] at h; cases h
      · exact h
    have g2 := encCt_len g1
    exact ⟨true, _, by rw [if_neg (by simp), List.append_assoc, flagP_back], (fun h => by cases h), fun _ => ⟨encCt y, some y, textP_back _ _ (by omega) (by omega), ⟨g1, rfl⟩, rfl, rfl⟩⟩
theorem kind_byte {m : Ms} (f : FineM m) : ((UInt8.ofNat m.kind.toNat).toNat : Int) = m.kind := by
  have := f.kind
  have h : (UInt8.ofNat m.kind.toNat).toNat = m.kind.toNat := by
    rw [UInt8.toNat_ofNat']; omega
  rw [h]; omega
theorem encMs_cut {y : Ms} (r : List UInt8) : encMs y ++ r = [UInt8.ofNat y.kind.toNat] ++ (textB y.who ++ (numB y.epoch.toNat ++ (numB y.view.toNat ++ (tailM y ++ r)))) := by
  simp only [encMs, List.append_assoc]
theorem apBk' : ∀ {t : List UInt8} {o : Option Bk} {x : Bk}, DecR fineBk encBk t o → fineBk x = true → encBk x = t → o = some x := by
  intro t o x ho hf ht
  cases o with
  | none => exact absurd ht (fun h => ho x hf h)
  | some y =>
    obtain ⟨hy, hyt⟩ := ho
    have hb := (fineBk_iff x).1 hf
    obtain ⟨l1, l2, l3⟩ := hb.lens
    have hc := (fineBk_iff y).1 hy
    obtain ⟨m1, m2, m3⟩ := hc.lens
    have e : encBk x = encBk y := by rw [ht, hyt]
    have r1 : ReadB 65536 (encBk x) x true true true (some []) := by
      refine ⟨⟨encHd x.head, _, encAll x.txs, _, some x.head, some x.txs, ?_, ⟨hb.head, rfl⟩, rfl, rfl, textP_back _ (justE x.just) (by omega) (by omega), ⟨hb.txs, rfl⟩, rfl, rfl, ?_⟩⟩
      · rw [encBk]; exact textP_back _ _ (by omega) (by omega)
      · have := justR_back (y := x.just) (by rcases hb.just with h | h; exact .inl h; exact .inr h.1) []
        rwa [List.append_nil] at this
    rw [(r1.whole (by decide) hc (r := []) (by rw [List.append_nil, e])).1]
theorem ReadM.whole {mn mx : Int} (hn : 6 ≤ mn) (hm : 65536 ≤ mx) {s : List UInt8} {m y : Ms} {ok : Bool} {st : PSt} (h : ReadM mn mx s m ok st) (hy : fineMs y = true) {r : List UInt8} (hs : encMs y ++ r = s) : m = y ∧ ok = true ∧ st = some r := by
  have f := fineMs_spec hy
  have f1 := f.who; have f2 := f.epoch; have f3 := f.view
  obtain ⟨k, s1, s2, e, s3, v, s4, h1, h2, h3, h4, h5, h6, h7, h8⟩ := h.go
  subst hs
  rw [encMs_cut, bytesP_back' (n := 1) [UInt8.ofNat y.kind.toNat] _ rfl] at h1
  simp only [Prod.mk.injEq] at h1
  obtain ⟨rfl, rfl⟩ := h1
  rw [textP_back _ _ (by omega) (by omega)] at h3
  simp only [Prod.mk.injEq] at h3
  obtain ⟨h3, rfl⟩ := h3
  rw [numP_back _ (by omega)] at h4
  simp only [Prod.mk.injEq] at h4
  obtain ⟨h4, rfl⟩ := h4
  rw [numP_back _ (by omega)] at h6
  simp only [Prod.mk.injEq] at h6
  obtain ⟨h6, rfl⟩ := h6
  have hk : m.kind = y.kind := by rw [h2]; exact kind_byte f
  have he : m.epoch = y.epoch := by omega
  have hv : m.view = y.view := by omega
  have ht : (m.digest = y.digest ∧ m.block = y.block ∧ m.cert = y.cert) ∧ ok = true ∧ st = some r := by
    by_cases e1 : m.kind = 1
    · obtain ⟨t, o, g1, g2, g3, g4, g5, g6⟩ := h8.k1 e1
      obtain ⟨q1, q2, q3⟩ := f.k1 (by omega)
      have hl := encBk_len ((fineBk_iff _).1 q3)
      rw [tailM, if_pos (by omega), textP_back _ _ (by omega) (by omega)] at g1
      simp only [Prod.mk.injEq] at g1
      obtain ⟨rfl, rfl⟩ := g1
      rw [apBk' g2 q3 rfl] at g3 g4
      exact ⟨⟨by rw [g6, q1], g3, by rw [g5, q2]⟩, g4, rfl⟩
    · by_cases e3 : m.kind = 3
      · obtain ⟨g1, g2, g3⟩ := h8.k3 e3
        obtain ⟨q1, q2, q3⟩ := f.k3 (by omega)
        rw [tailM, if_neg (by omega), if_pos (by omega)] at g1
        obtain ⟨r1, r2, r3⟩ := g1.whole' hm q2 rfl
        exact ⟨⟨by rw [g3, q1], by rw [g2, q3], r1⟩, r2, r3⟩
      · obtain ⟨g1, g2, g3, g4⟩ := h8.kd e1 e3
        obtain ⟨q1, q2, q3⟩ := f.k2 (by have := f.kind; omega)
        rw [tailM, if_neg (by omega), if_neg (by omega), bytesP_back' _ _ q1] at g1
        simp only [Prod.mk.injEq] at g1
        exact ⟨⟨g1.1.symm, by rw [g2, q3], by rw [g3, q2]⟩, g4, g1.2.symm⟩
  obtain ⟨⟨t1, t2, t3⟩, t4, t5⟩ := ht
  exact ⟨Ms.ext' hk h3.symm he hv t1 t2 t3, t4, t5⟩
theorem readM_back {y : Ms} (hy : fineMs y = true) (r : List UInt8) : ReadM 6 65536 (encMs y ++ r) y true (some r) := by
  have f := fineMs_spec hy
  have f1 := f.who; have f2 := f.epoch; have f3 := f.view
  refine ⟨[UInt8.ofNat y.kind.toNat], _, _, y.epoch.toNat, _, y.view.toNat, _, by rw [encMs_cut]; exact bytesP_back' _ _ rfl, (kind_byte f).symm, textP_back _ _ (by omega) (by omega), numP_back _ (by omega) _, by omega, numP_back _ (by omega) _, by omega, fun e1 => ?_, fun e3 => ?_, fun e1 e3 => ?_⟩
  · obtain ⟨q1, q2, q3⟩ := f.k1 e1
    have hl := encBk_len ((fineBk_iff _).1 q3)
    exact ⟨encBk y.block, some y.block, by rw [tailM, if_pos e1]; exact textP_back _ _ (by omega) (by omega), ⟨q3, rfl⟩, rfl, rfl, q2, q1⟩
  · obtain ⟨q1, q2, q3⟩ := f.k3 e3
    rw [tailM, if_neg (by omega), if_pos e3]
    exact ⟨justR_back q2 r, q3, q1⟩
  · obtain ⟨q1, q2, q3⟩ := f.k2 (by have := f.kind; omega)
    rw [tailM, if_neg e1, if_neg e3]
    exact ⟨bytesP_back' _ _ q1, q3, q2, rfl⟩
theorem apMs : Apart fineMs encMs := ⟨fun x y r q hx hy h => by
  have hr := readM_back hx r
  rw [h] at hr
  obtain ⟨e1, _, e2⟩ := hr.whole (by decide) (by decide) hy rfl
  exact ⟨e1, by simpa using e2⟩⟩
end Go.Proofs.YtlfdhkahiaammaaDoor
namespace Go.Proofs.YtlfdhkahiaammaaDoor
open Go Go.Sse
set_option linter.unusedVariables false
set_option linter.unusedSimpArgs false
set_option maxRecDepth 10000
abbrev tCt : Nat := 27
theorem agCt : TAg Tryd.prog tCt 2 := inferInstance
abbrev ctz : List SV := [str [], .val (.slice none 0 0)]
theorem ctz_sub : SubL ctz (ctC ct0) := .cons (.refl _) (.cons (Sub.nil 1 _) .nil)
set_option maxHeartbeats 1000000 in
theorem cmay_ok (c : Ct) : FnC Tryd.prog 71 [.agg (ctC c)] [] (fun v L => v = bool (fineCt c) ∧ L = []) := by
  refine FnC.intro Tryd.func71 rfl Tryd.ntmps71 rfl fun Z w0 hG => ?_
  focus (
    (refine W.seq ?_)
    (refine W.region ?_)
    (refine J.boxAg rfl rfl ?_; intro b')
    (refine Jx.assign rfl rfl ?_)
    (refine J.nil ?_)
    (refine N.seq ?_)
    (refine W.seq ?_)
    (refine W.seq ?_)
    (refine W.region ?_)
    (refine Jx.fieldAddr rfl rfl ?_)
    (refine Jx.load rfl 0 rfl rfl rfl ?_)
    (refine Jx.lenS rfl rfl ?_)
    (refine Jx.neqI rfl rfl rfl ?_)
    (refine Jx.move rfl rfl ?_)
    (refine' J.guardOr rfl rfl rfl rfl rfl rfl rfl rfl (fun _ => ?_) ?_; rotate_left)
    (refine J.gY rfl rfl rfl ?_)
    (refine Jx.fieldAddr rfl rfl ?_)
    (refine J.gY rfl rfl rfl ?_)
    (refine Jx.load rfl 0 rfl rfl rfl ?_)
    (refine J.gY rfl rfl rfl ?_)
    (refine Jx.lenSl rfl rfl ?_)
    (refine J.gY rfl rfl rfl ?_)
    (refine Jx.gtrI rfl rfl rfl ?_)
    (refine J.nil ?_)
    (refine N.joinedN rfl rfl rfl)
    (refine J.nil ?_)
    (refine N.seq ?_)
    (refine id ?_; rotate_left))
  refine W.cond rfl (fun hb => ?_) (fun hb => ?_)
  · have hf : fineCt c = false := by
      simp only [Bool.or_eq_true, decide_eq_true_eq] at hb
      simp only [fineCt, Bool.and_eq_false_iff, decide_eq_false_iff_not]
      omega
    rw [hf]
    focus (
    (refine W.seq ?_)
    (refine W.region ?_)
    (refine Jx.assign rfl rfl ?_)
    (refine J.nil ?_)
    (refine N.seq ?_)
    (refine W.ret ?_)
    (refine N.noGotoRet ?_)
    (refine id ?_; rotate_left))
    exact N.retD (rs := [.tmp 2]) (L1 := []) rfl (.tmp rfl .nil) (List.nil_sublist _) ⟨rfl, rfl⟩
  · simp only [Bool.or_eq_false_iff, decide_eq_false_iff_not] at hb
    have hf : fineCt c = fineN [] c.signers := by
      simp only [fineCt]
      rw [decide_eq_true (by omega), decide_eq_true (by omega)]
      rfl
    focus (
    (refine W.skip ?_)
    (refine N.seq ?_)
    (refine W.seq ?_)
    (refine W.region ?_)
    (refine Jx.assign rfl rfl ?_)
    (refine J.nil ?_)
    (refine N.seq ?_)
    (refine W.seq ?_)
    (refine W.seq ?_)
    (refine W.region ?_)
    (refine Jx.fieldAddr rfl rfl ?_)
    (refine Jx.load rfl 0 rfl rfl rfl ?_)
    (refine Jx.lenSl rfl rfl ?_)
    (refine Jx.move rfl rfl ?_)
    (refine J.nil ?_)
    (refine N.seq ?_)
    (refine W.block ?_)
    (refine id ?_; rotate_left))
    refine W.loop (α := Nat) (fun i => [(19, int (i : Int)), (18, int (c.signers.length : Int)), (17, ssl c.signers), (3, str (lastS c.signers i))]) (fun _ => [.obj b' tCt (ctC c)]) (fun i => i ≤ c.signers.length ∧ fineCt c = fineN (lastS c.signers i) (c.signers.drop i)) (fun i => c.signers.length - i) 0 ⟨by omega, hf⟩ rfl ⟨ref0 rfl, ref0 rfl, ref0 rfl, ref0 rfl, trivial⟩ ?_
    rintro i ⟨hi, hs⟩
    by_cases h1 : i < c.signers.length
    · rw [fineN_step c.signers i h1] at hs
      have hns := lastS_succ c.signers i
      generalize lastS c.signers i = last at *
      focus (
    (refine W.seq ?_)
    (refine W.region ?_)
    (refine Jx.lssI rfl rfl rfl ?_)
    (refine J.nil ?_)
    (refine N.seq ?_)
    (refine W.seq ?_)
    (refine W.cT rfl ?_)
    (refine W.skip ?_)
    (refine N.seq ?_)
    (refine W.seq ?_)
    (refine W.block ?_)
    (refine W.seq ?_)
    (refine W.region ?_)
    (refine Jx.indexEl rfl rfl (by assumption) rfl rfl ?_)
    (refine Jx.loadPP rfl rfl ?_)
    (refine Jx.assign rfl rfl ?_)
    (refine J.nil ?_)
    (refine N.seq ?_)
    (refine W.seq ?_)
    (refine W.seq ?_)
    (refine W.region ?_)
    (refine Jx.move rfl rfl ?_)
    (refine Jx.move rfl rfl ?_)
    (refine Jx.leqS rfl rfl rfl ?_)
    (refine Jx.move rfl rfl ?_)
    (refine' J.guardOr rfl rfl rfl rfl rfl rfl rfl rfl (fun _ => ?_) ?_; rotate_left)
    (refine J.gY rfl rfl rfl ?_)
    (refine Jx.move rfl rfl ?_)
    (refine J.gY rfl rfl rfl ?_)
    (refine Jx.lenS rfl rfl ?_)
    (refine J.gY rfl rfl rfl ?_)
    (refine Jx.gtrI rfl rfl rfl ?_)
    (refine J.nil ?_)
    (refine N.joinedN rfl rfl rfl)
    (refine J.nil ?_)
    (refine N.seq ?_)
    (refine id ?_; rotate_left))
      refine W.cond rfl (fun hb => ?_) (fun hb => ?_)
      · have hf : fineCt c = false := by
          rw [hs]
          cases hk : okN last (c.signers.getD i []) with
          | false => rfl
          | true =>
            simp only [okN, leB, Bool.and_eq_true, decide_eq_true_eq, Bool.not_eq_true', Bool.or_eq_false_iff, decide_eq_false_iff_not] at hk
            obtain ⟨⟨k1, k2⟩, k3⟩ := hk
            simp only [Bool.or_eq_true, decide_eq_true_eq] at hb
            rcases hb with (h | h) | h
            · rw [k1] at h; cases h
            · exact absurd h k2
            · omega
        rw [hf]
        focus (
    (refine W.seq ?_)
    (refine W.region ?_)
    (refine Jx.assign rfl rfl ?_)
    (refine J.nil ?_)
    (refine N.seq ?_)
    (refine W.ret ?_)
    (refine N.noGotoRet ?_)
    (refine N.noGotoRet ?_)
    (refine N.noGotoRet ?_)
    (refine N.noGotoRet ?_)
    (refine N.noGotoRet ?_)
    (refine N.noGotoRet ?_)
    (refine id ?_; rotate_left))
        exact N.retD (rs := [.tmp 2]) (L1 := []) rfl (.tmp rfl .nil) (List.nil_sublist _) ⟨rfl, rfl⟩
      · focus (
    (refine W.skip ?_)
    (refine N.seq ?_)
    (refine W.region ?_)
    (refine Jx.move rfl rfl ?_)
    (refine Jx.assign rfl rfl ?_)
    (refine J.nil ?_)
    (refine N.seq ?_)
    (refine W.region ?_)
    (refine Jx.add64 rfl rfl (by omega) rfl ?_)
    (refine Jx.move rfl rfl ?_)
    (refine J.nil ?_)
    (refine id ?_; rotate_left))
        refine N.round (i + 1) ⟨h1, ?_⟩ (by omega) rfl ⟨ref0 rfl, ref0 rfl, ref0 rfl, ⟨_, rfl, Sub.of_eq (by rw [hns])⟩, trivial⟩
        have : okN last (c.signers.getD i []) = true := by
          simp only [Bool.or_eq_false_iff, decide_eq_false_iff_not] at hb
          simp only [okN, leB, Bool.and_eq_true, decide_eq_true_eq, Bool.not_eq_true', Bool.or_eq_false_iff, decide_eq_false_iff_not]
          exact ⟨hb.1, by omega⟩
        rw [hs, this, hns, Bool.true_and]
    · have hil : i = c.signers.length := by omega
      subst hil
      rw [List.drop_length] at hs
      rw [hs]
      focus (
    (refine W.seq ?_)
    (refine W.region ?_)
    (refine Jx.lssI rfl rfl rfl ?_)
    (refine J.nil ?_)
    (refine N.seq ?_)
    (refine W.seq ?_)
    (refine W.cF rfl ?_)
    (refine W.exit ?_)
    (refine N.seq ?_)
    (refine W.seq ?_)
    (refine W.region ?_)
    (refine Jx.assign rfl rfl ?_)
    (refine J.nil ?_)
    (refine N.seq ?_)
    (refine W.ret ?_)
    (refine id ?_; rotate_left))
      exact N.retD (rs := [.tmp 2]) (L1 := []) rfl (.tmp rfl .nil) (List.nil_sublist _) ⟨rfl, rfl⟩
theorem cencode_ok (c : Ct) : FnC Tryd.prog 43 [.agg (ctC c)] [] (fun v L => v = .tup [str (encO fineCt encCt c), int (codeB (fineCt c) 3)] ∧ L = []) := by
  have c0 := cmay_ok c
  refine FnC.intro Tryd.func43 rfl Tryd.ntmps43 rfl fun Z w0 hG => ?_
  unfold encO
  cases hf : fineCt c with
  | false =>
    rw [hf] at c0
    focus (
    (refine W.seq ?_)
    (refine W.region ?_)
    (refine J.boxAg rfl rfl ?_; intro b')
    (refine Jx.assign rfl rfl ?_)
    (refine Jx.assign rfl rfl ?_)
    (refine J.nil ?_)
    (refine N.seq ?_)
    (refine W.seq ?_)
    (refine W.seq ?_)
    (refine W.region ?_)
    (refine Jx.loadAll rfl 0 rfl rfl rfl ?_)
    (refine J.call (c0) rfl (evs_args rfl) rfl ?_; rintro _ _ ⟨rfl, rfl⟩; simp only [List.cons_append, List.nil_append, List.append_nil])
    (refine Jx.not rfl rfl ?_)
    (refine J.nil ?_)
    (refine N.seq ?_)
    (refine W.cT rfl ?_)
    (refine W.seq ?_)
    (refine W.region ?_)
    (refine Jx.assign rfl rfl ?_)
    (refine Jx.assign rfl rfl ?_)
    (refine J.nil ?_)
    (refine N.seq ?_)
    (refine W.ret ?_)
    (refine N.noGotoRet ?_)
    (refine id ?_; rotate_left))
    exact N.retD (rs := [.tmp 2, .tmp 3]) (L1 := []) rfl (.tmp rfl (.tmp rfl .nil)) (List.nil_sublist _) ⟨rfl, rfl⟩
  | true =>
    rw [hf] at c0
    obtain ⟨h1, h2, h3⟩ := fineCt_spec hf
    have c1 := list_ok c.signers (by omega) (fun s hs => by have := h3 s hs; omega)
    have hlb := listB_len' (l := c.signers) (k := 6) (n := 7) h2 (by decide) h3 (by decide)
    focus (
    (refine W.seq ?_)
    (refine W.region ?_)
    (refine J.boxAg rfl rfl ?_; intro b')
    (refine Jx.assign rfl rfl ?_)
    (refine Jx.assign rfl rfl ?_)
    (refine J.nil ?_)
    (refine N.seq ?_)
    (refine W.seq ?_)
    (refine W.seq ?_)
    (refine W.region ?_)
    (refine Jx.loadAll rfl 0 rfl rfl rfl ?_)
    (refine J.call (c0) rfl (evs_args rfl) rfl ?_; rintro _ _ ⟨rfl, rfl⟩; simp only [List.cons_append, List.nil_append, List.append_nil])
    (refine Jx.not rfl rfl ?_)
    (refine J.nil ?_)
    (refine N.seq ?_)
    (refine W.cF rfl ?_)
    (refine W.skip ?_)
    (refine N.seq ?_)
    (refine W.seq ?_)
    (refine W.draw follows ?_)
    (refine JD.calm rfl (by decide +kernel) ?_)
    (refine Cx.fieldAddr rfl rfl ?_)
    (refine Cx.load rfl 0 rfl rfl rfl ?_)
    (refine Cx.fieldAddr rfl rfl ?_)
    (refine Cx.load rfl 0 rfl rfl rfl ?_)
    (refine SegC.q (Qs.call (Lc := []) (c1) (fun s L' h => h) (List.Perm.refl _) (evs_args rfl)) rfl ?_)
    (refine Cx.cat rfl rfl (by first | omega | (simp only [List.length_append, List.length_cons, List.length_nil]; omega)) rfl ?_)
    (refine Cx.assign rfl rfl ?_)
    (refine Cx.assign rfl rfl ?_)
    (refine SegC.nil ?_)
    (refine N.seq ?_)
    (refine W.ret ?_)
    (refine id ?_; rotate_left))
    exact N.retD (rs := [.tmp 2, .tmp 3]) (L1 := []) rfl (.tmp rfl (.tmp rfl .nil)) (List.nil_sublist _) ⟨rfl, rfl⟩
theorem cdecode_ok (s : List UInt8) (hs : s.length ≤ 1099511627776) : FnC Tryd.prog 54 [str s] [] (fun v L => (∃ o, DecR fineCt encCt s o ∧ v = .tup [.agg (ctC (o.getD ct0)), int (codeO o 3)]) ∧ L = []) := by
  have c0 := read_ok s
  refine FnC.intro Tryd.func54 rfl Tryd.ntmps54 rfl fun Z w0 hG => ?_
  focus (
    (refine W.seq ?_)
    (refine W.region ?_)
    (refine J.alloc (by simp only [List.map_cons, List.map_nil]; rfl) rfl rfl ?_; intro b')
    (refine Jx.assign rfl rfl ?_)
    (refine J.nil ?_)
    (refine N.seq ?_)
    (refine W.seq ?_)
    (refine W.region ?_)
    (refine Jx.move rfl rfl ?_)
    (refine J.call (Lc := []) c0 rfl (evs_args rfl) rfl ?_; rintro _ _ ⟨b, rfl, rfl⟩; simp only [List.cons_append, List.nil_append, List.append_nil])
    (refine Jx.assign rfl rfl ?_)
    (refine J.nil ?_)
    (refine N.seq ?_)
    (refine W.seq ?_)
    (refine W.region ?_)
    (refine Jx.move rfl rfl ?_)
    (refine J.call1 0 ((rd_Bytes b s 0 0 32 (Nat.zero_le _) hs)) rfl (evs_args rfl) rfl (by rintro _ _ ⟨t, a1, c1, rfl, rfl, ha1, e1⟩; exact ⟨_, rfl⟩) ?_; rintro _ _ ⟨t, a1, c1, rfl, ⟨⟩, ha1, e1⟩; simp only [List.set_cons_zero, List.set_cons_succ])
    (refine Jx.move rfl rfl ?_)
    (refine J.call1 0 ((rd_List b s a1 c1 7 6 ha1 hs (by decide))) rfl (evs_args rfl) rfl (by rintro _ _ ⟨l, a2, c2, rfl, rfl, ha2, e2⟩; exact ⟨_, rfl⟩) ?_; rintro _ _ ⟨l, a2, c2, rfl, ⟨⟩, ha2, e2⟩; simp only [List.set_cons_zero, List.set_cons_succ])
    (refine Jx.buildB rfl rfl rfl rfl rfl ?_)
    (refine J.alloc (by simp only [List.map_cons, List.map_nil]; rfl) rfl rfl ?_; intro b')
    (refine J.storeAll rfl rfl rfl 0 rfl rfl rfl ?_)
    (refine J.nil ?_)
    (refine N.seq ?_)
    (refine W.seq ?_)
    (refine W.seq ?_)
    (refine W.region ?_)
    (refine Jx.move rfl rfl ?_)
    (refine J.call1 1 ((rd_End b s a2 c2 ha2 hs)) rfl (evs_args rfl) rfl (by rintro _ _ ⟨e, a3, c3, rfl, rfl, he⟩; exact ⟨_, rfl⟩) ?_; rintro _ _ ⟨e, a3, c3, rfl, ⟨⟩, he⟩; simp only [List.set_cons_zero, List.set_cons_succ])
    (refine Jx.neqI rfl rfl rfl ?_)
    (refine Jx.move rfl rfl ?_)
    (refine' J.guardOr rfl rfl rfl rfl rfl rfl rfl rfl (fun _ => ?_) ?_; rotate_left)
    (refine J.gY rfl rfl rfl ?_)
    (refine Jx.loadAll rfl 0 rfl rfl rfl ?_)
    (refine J.gY rfl rfl rfl ?_)
    (refine J.call (Lc := []) (cmay_ok ⟨t, l⟩) rfl (evs_args rfl) rfl ?_; rintro _ _ ⟨rfl, rfl⟩; simp only [List.cons_append, List.nil_append, List.append_nil])
    (refine J.gY rfl rfl rfl ?_)
    (refine Jx.not rfl rfl ?_)
    (refine J.nil ?_)
    (refine N.joinedN rfl rfl rfl)
    (refine J.nil ?_)
    (refine N.seq ?_)
    (refine id ?_; rotate_left))
  have hr : ReadC 7 6 s ⟨t, l⟩ (lf s a2 c2) := ⟨_, e1, e2⟩
  refine W.cond rfl (fun hb => ?_) (fun hb => ?_)
  · focus (
    (refine W.seq ?_)
    (refine W.region ?_)
    (refine Jx.buildB rfl rfl rfl rfl rfl ?_)
    (refine J.storeAll rfl rfl rfl 2 rfl rfl rfl ?_)
    (refine Jx.assign rfl rfl ?_)
    (refine J.nil ?_)
    (refine N.seq ?_)
    (refine W.ret ?_)
    (refine N.noGotoRet ?_)
    (refine id ?_; rotate_left))
    refine N.objSub 2 (ctC ct0) rfl ctz_sub rfl ?_
    refine N.retD (rs := [.cell 2 tCt, .tmp 3]) (L1 := []) rfl (.cell rfl 2 rfl agCt (.tmp rfl .nil)) (List.nil_sublist _) ⟨⟨none, fun y hy hz => ?_, rfl⟩, rfl⟩
    obtain ⟨rfl, h2⟩ := hr.whole (by decide) (by decide) hy hz
    rw [he.2 h2, hy] at hb
    simp at hb
  · focus (
    (refine W.skip ?_)
    (refine N.seq ?_)
    (refine W.seq ?_)
    (refine W.region ?_)
    (refine Jx.loadAll rfl 0 rfl rfl rfl ?_)
    (refine J.storeAll rfl rfl rfl 2 rfl rfl rfl ?_)
    (refine Jx.assign rfl rfl ?_)
    (refine J.nil ?_)
    (refine N.seq ?_)
    (refine W.ret ?_)
    (refine id ?_; rotate_left))
    refine N.retD (rs := [.cell 2 tCt, .tmp 3]) (L1 := []) rfl (.cell rfl 2 rfl agCt (.tmp rfl .nil)) (List.nil_sublist _) ⟨⟨some ⟨t, l⟩, ?_, rfl⟩, rfl⟩
    simp only [Bool.or_eq_false_iff, decide_eq_false_iff_not, Bool.not_eq_false'] at hb
    rw [he.1 (by omega)] at hr
    exact ⟨hb.2, hr.sound⟩
theorem sameC_ok (x y : Ct) (hb : x.signers.length ≤ 1048576) : FnC Tryd.prog 44 [.agg (ctC x), .agg (ctC y)] [] (fun v L => v = bool (decide (x = y)) ∧ L = []) := by
  have c := same_ok x.signers y.signers hb
  refine FnC.intro Tryd.func44 rfl Tryd.ntmps44 rfl fun Z w0 hG => ?_
  focus (
    (refine W.seq ?_)
    (refine W.region ?_)
    (refine J.boxAg rfl rfl ?_; intro b')
    (refine J.boxAg rfl rfl ?_; intro b')
    (refine Jx.assign rfl rfl ?_)
    (refine J.nil ?_)
    (refine N.seq ?_)
    (refine W.seq ?_)
    (refine W.region ?_)
    (refine Jx.fieldAddr rfl rfl ?_)
    (refine Jx.load rfl 1 rfl rfl rfl ?_)
    (refine Jx.fieldAddr rfl rfl ?_)
    (refine Jx.load rfl 0 rfl rfl rfl ?_)
    (refine Jx.eqlS rfl rfl rfl ?_)
    (refine Jx.move rfl rfl ?_)
    (refine' J.guardAnd rfl rfl rfl rfl rfl rfl rfl rfl (fun _ => ?_) ?_; rotate_left)
    (refine J.gY rfl rfl rfl ?_)
    (refine Jx.fieldAddr rfl rfl ?_)
    (refine J.gY rfl rfl rfl ?_)
    (refine Jx.load rfl 1 rfl rfl rfl ?_)
    (refine J.gY rfl rfl rfl ?_)
    (refine Jx.fieldAddr rfl rfl ?_)
    (refine J.gY rfl rfl rfl ?_)
    (refine Jx.load rfl 0 rfl rfl rfl ?_)
    (refine J.gY rfl rfl rfl ?_)
    (refine J.call (c) rfl (evs_args rfl) rfl ?_; rintro _ _ ⟨rfl, rfl⟩; simp only [List.cons_append, List.nil_append, List.append_nil])
    (refine J.nil ?_)
    (refine N.joinedN rfl rfl rfl)
    (refine Jx.assign rfl rfl ?_)
    (refine J.nil ?_)
    (refine N.seq ?_)
    (refine W.ret ?_)
    (refine id ?_; rotate_left))
  refine N.retD (rs := [.tmp 4]) (L1 := []) rfl (.tmp rfl .nil) (List.nil_sublist _) ⟨congrArg Sse.bool ?_, rfl⟩
  rw [Bool.eq_iff_iff]
  simp only [Bool.and_eq_true, decide_eq_true_eq]
  exact ⟨fun h => Ct.ext' h.1 h.2, fun h => by subst h; exact ⟨rfl, rfl⟩⟩
theorem bbare_ok (c : Ct) : FnC Tryd.prog 41 [.agg (ctC c)] [] (fun v L => v = bool (bareCt c) ∧ L = []) := by
  refine FnC.intro Tryd.func41 rfl Tryd.ntmps41 rfl fun Z w0 hG => ?_
  focus (
    (refine W.seq ?_)
    (refine W.region ?_)
    (refine J.boxAg rfl rfl ?_; intro b')
    (refine Jx.assign rfl rfl ?_)
    (refine J.nil ?_)
    (refine N.seq ?_)
    (refine W.seq ?_)
    (refine W.region ?_)
    (refine Jx.fieldAddr rfl rfl ?_)
    (refine Jx.load rfl 0 rfl rfl rfl ?_)
    (refine Jx.eqlS rfl rfl rfl ?_)
    (refine Jx.move rfl rfl ?_)
    (refine' J.guardAnd rfl rfl rfl rfl rfl rfl rfl rfl (fun _ => ?_) ?_; rotate_left)
    (refine J.gY rfl rfl rfl ?_)
    (refine Jx.fieldAddr rfl rfl ?_)
    (refine J.gY rfl rfl rfl ?_)
    (refine Jx.load rfl 0 rfl rfl rfl ?_)
    (refine J.gY rfl rfl rfl ?_)
    (refine Jx.lenSl rfl rfl ?_)
    (refine J.gY rfl rfl rfl ?_)
    (refine Jx.eqlI rfl rfl rfl ?_)
    (refine J.nil ?_)
    (refine N.joinedN rfl rfl rfl)
    (refine Jx.assign rfl rfl ?_)
    (refine J.nil ?_)
    (refine N.seq ?_)
    (refine W.ret ?_)
    (refine id ?_; rotate_left))
  exact N.retD (rs := [.tmp 2]) (L1 := []) rfl (.tmp rfl .nil) (List.nil_sublist _) ⟨rfl, rfl⟩
theorem vbare_ok (c : Ct) : FnC Tryd.prog 56 [.agg (ctC c)] [] (fun v L => v = bool (bareCt c) ∧ L = []) := by
  refine FnC.intro Tryd.func56 rfl Tryd.ntmps56 rfl fun Z w0 hG => ?_
  focus (
    (refine W.seq ?_)
    (refine W.region ?_)
    (refine J.boxAg rfl rfl ?_; intro b')
    (refine Jx.assign rfl rfl ?_)
    (refine J.nil ?_)
    (refine N.seq ?_)
    (refine W.seq ?_)
    (refine W.region ?_)
    (refine Jx.fieldAddr rfl rfl ?_)
    (refine Jx.load rfl 0 rfl rfl rfl ?_)
    (refine Jx.eqlS rfl rfl rfl ?_)
    (refine Jx.move rfl rfl ?_)
    (refine' J.guardAnd rfl rfl rfl rfl rfl rfl rfl rfl (fun _ => ?_) ?_; rotate_left)
    (refine J.gY rfl rfl rfl ?_)
    (refine Jx.fieldAddr rfl rfl ?_)
    (refine J.gY rfl rfl rfl ?_)
    (refine Jx.load rfl 0 rfl rfl rfl ?_)
    (refine J.gY rfl rfl rfl ?_)
    (refine Jx.lenSl rfl rfl ?_)
    (refine J.gY rfl rfl rfl ?_)
    (refine Jx.eqlI rfl rfl rfl ?_)
    (refine J.nil ?_)
    (refine N.joinedN rfl rfl rfl)
    (refine Jx.assign rfl rfl ?_)
    (refine J.nil ?_)
    (refine N.seq ?_)
    (refine W.ret ?_)
    (refine id ?_; rotate_left))
  exact N.retD (rs := [.tmp 2]) (L1 := []) rfl (.tmp rfl .nil) (List.nil_sublist _) ⟨rfl, rfl⟩
end Go.Proofs.YtlfdhkahiaammaaDoor
namespace Go.Proofs.YtlfdhkahiaammaaDoor
open Go Go.Sse
set_option linter.unusedVariables false
set_option linter.unusedSimpArgs false
set_option maxRecDepth 10000
abbrev tHd : Nat := 24
abbrev fnV (f : Nat) : SV := .val (.func (.func f) #[] #[])
theorem hin_ok (n m : Int) : FnC Tryd.prog 91 [int n, int m] [] (fun v L => v = bool (decide (0 ≤ n) && decide (n ≤ m)) ∧ L = []) := by
  refine FnC.intro Tryd.func91 rfl Tryd.ntmps91 rfl fun Z w0 hG => ?_
  focus (
    (refine W.seq ?_)
    (refine W.region ?_)
    (refine Jx.assign rfl rfl ?_)
    (refine J.nil ?_)
    (refine N.seq ?_)
    (refine W.seq ?_)
    (refine W.region ?_)
    (refine Jx.move rfl rfl ?_)
    (refine Jx.geqI rfl rfl rfl ?_)
    (refine Jx.move rfl rfl ?_)
    (refine' J.guardAnd rfl rfl rfl rfl rfl rfl rfl rfl (fun _ => ?_) ?_; rotate_left)
    (refine J.gY rfl rfl rfl ?_)
    (refine Jx.move rfl rfl ?_)
    (refine J.gY rfl rfl rfl ?_)
    (refine Jx.move rfl rfl ?_)
    (refine J.gY rfl rfl rfl ?_)
    (refine Jx.leqI rfl rfl rfl ?_)
    (refine J.nil ?_)
    (refine N.joinedN rfl rfl rfl)
    (refine Jx.assign rfl rfl ?_)
    (refine J.nil ?_)
    (refine N.seq ?_)
    (refine W.ret ?_)
    (refine id ?_; rotate_left))
  exact N.ret (rs := [.tmp 4]) rfl (.tmp rfl .nil) ⟨rfl, rfl⟩
theorem hsum_ok (s : List UInt8) : FnC Tryd.prog 92 [str s] [] (fun v L => v = bool (sumB s) ∧ L = []) := by
  refine FnC.intro Tryd.func92 rfl Tryd.ntmps92 rfl fun Z w0 hG => ?_
  focus (
    (refine W.seq ?_)
    (refine W.region ?_)
    (refine Jx.assign rfl rfl ?_)
    (refine J.nil ?_)
    (refine N.seq ?_)
    (refine W.seq ?_)
    (refine W.region ?_)
    (refine Jx.move rfl rfl ?_)
    (refine Jx.lenS rfl rfl ?_)
    (refine Jx.eqlI rfl rfl rfl ?_)
    (refine Jx.assign rfl rfl ?_)
    (refine J.nil ?_)
    (refine N.seq ?_)
    (refine W.ret ?_)
    (refine id ?_; rotate_left))
  exact N.ret (rs := [.tmp 2]) rfl (.tmp rfl .nil) ⟨rfl, rfl⟩
theorem hodd_ok (s : List UInt8) : FnC Tryd.prog 93 [str s] [] (fun v L => v = bool (!sumB s) ∧ L = []) := by
  have c := hsum_ok s
  refine FnC.intro Tryd.func93 rfl Tryd.ntmps93 rfl fun Z w0 hG => ?_
  focus (
    (refine W.seq ?_)
    (refine W.region ?_)
    (refine Jx.assign rfl rfl ?_)
    (refine J.nil ?_)
    (refine N.seq ?_)
    (refine W.seq ?_)
    (refine W.region ?_)
    (refine Jx.move rfl rfl ?_)
    (refine J.call (c) rfl (evs_args rfl) rfl ?_; rintro _ _ ⟨rfl, rfl⟩; simp only [List.cons_append, List.nil_append, List.append_nil])
    (refine Jx.not rfl rfl ?_)
    (refine Jx.assign rfl rfl ?_)
    (refine J.nil ?_)
    (refine N.seq ?_)
    (refine W.ret ?_)
    (refine id ?_; rotate_left))
  exact N.ret (rs := [.tmp 2]) rfl (.tmp rfl .nil) ⟨rfl, rfl⟩
theorem hmaybe_ok (s : List UInt8) : FnC Tryd.prog 95 [str s] [] (fun v L => v = bool (maybeB s) ∧ L = []) := by
  have c := hsum_ok s
  refine FnC.intro Tryd.func95 rfl Tryd.ntmps95 rfl fun Z w0 hG => ?_
  focus (
    (refine W.seq ?_)
    (refine W.region ?_)
    (refine Jx.assign rfl rfl ?_)
    (refine J.nil ?_)
    (refine N.seq ?_)
    (refine W.seq ?_)
    (refine W.region ?_)
    (refine Jx.move rfl rfl ?_)
    (refine Jx.eqlS rfl rfl rfl ?_)
    (refine Jx.move rfl rfl ?_)
    (refine' J.guardOr rfl rfl rfl rfl rfl rfl rfl rfl (fun _ => ?_) ?_; rotate_left)
    (refine J.gY rfl rfl rfl ?_)
    (refine Jx.move rfl rfl ?_)
    (refine J.gY rfl rfl rfl ?_)
    (refine J.call (c) rfl (evs_args rfl) rfl ?_; rintro _ _ ⟨rfl, rfl⟩; simp only [List.cons_append, List.nil_append, List.append_nil])
    (refine J.nil ?_)
    (refine N.joinedN rfl rfl rfl)
    (refine Jx.assign rfl rfl ?_)
    (refine J.nil ?_)
    (refine N.seq ?_)
    (refine W.ret ?_)
    (refine id ?_; rotate_left))
  exact N.ret (rs := [.tmp 2]) rfl (.tmp rfl .nil) ⟨rfl, rfl⟩
def idxP (l : List (List UInt8)) (p : List UInt8 → Bool) : Int := match l.findIdx? p with
  | some i => (i : Int)
  | none => -1
theorem indexF_ok (l : List (List UInt8)) (hl : l.length ≤ 1048576) : FnC Tryd.prog 108 [ssl l, fnV 93] [] (fun v L => v = int (idxP l fun s => !sumB s) ∧ L = []) := by
  have c := fun i => hodd_ok (l.getD i [])
  refine FnC.intro Tryd.func108 rfl Tryd.ntmps108 rfl fun Z w0 hG => ?_
  focus (
    (refine W.seq ?_)
    (refine W.region ?_)
    (refine Jx.assign rfl rfl ?_)
    (refine J.nil ?_)
    (refine N.seq ?_)
    (refine W.seq ?_)
    (refine W.seq ?_)
    (refine W.region ?_)
    (refine Jx.move rfl rfl ?_)
    (refine Jx.lenSl rfl rfl ?_)
    (refine Jx.move rfl rfl ?_)
    (refine J.nil ?_)
    (refine N.seq ?_)
    (refine W.block ?_)
    (refine id ?_; rotate_left))
  refine W.loop (α := Nat) (fun i => [(8, int (i : Int)), (7, int l.length), (1, fnV 93), (0, ssl l)]) (fun _ => []) (fun i => i ≤ l.length ∧ ∀ y ∈ l.take i, (!sumB y) = false) (fun i => l.length - i) 0 (by simp) rfl ⟨ref0 rfl, ref0 rfl, ref0 rfl, ref0 rfl, trivial⟩ ?_
  rintro i ⟨hi, hn⟩
  by_cases h1 : i < l.length
  · have ci := c i
    cases h2 : (!sumB (l.getD i [])) with
    | true =>
      rw [h2] at ci
      have := findIdx_take (p := fun s => !sumB s) hn h1 [] h2
      focus (
    (refine W.seq ?_)
    (refine W.region ?_)
    (refine Jx.lssI rfl rfl rfl ?_)
    (refine J.nil ?_)
    (refine N.seq ?_)
    (refine W.seq ?_)
    (refine W.cT rfl ?_)
    (refine W.skip ?_)
    (refine N.seq ?_)
    (refine W.seq ?_)
    (refine W.block ?_)
    (refine W.seq ?_)
    (refine W.region ?_)
    (refine Jx.move rfl rfl ?_)
    (refine Jx.assign rfl rfl ?_)
    (refine J.nil ?_)
    (refine N.seq ?_)
    (refine W.seq ?_)
    (refine W.region ?_)
    (refine Jx.move rfl rfl ?_)
    (refine Jx.move rfl rfl ?_)
    (refine Jx.move rfl rfl ?_)
    (refine Jx.indexEl rfl rfl (by assumption) rfl rfl ?_)
    (refine Jx.loadPP rfl rfl ?_)
    (refine J.callV (us := []) (vs := []) (args := [str (l.getD i [])]) (Lc := []) rfl ci rfl (evs_args rfl) rfl ?_; rintro _ _ ⟨rfl, rfl⟩; simp only [List.cons_append, List.nil_append, List.append_nil])
    (refine J.nil ?_)
    (refine N.seq ?_)
    (refine W.cT rfl ?_)
    (refine W.seq ?_)
    (refine W.region ?_)
    (refine Jx.move rfl rfl ?_)
    (refine Jx.assign rfl rfl ?_)
    (refine J.nil ?_)
    (refine N.seq ?_)
    (refine W.ret ?_)
    (refine N.noGotoRet ?_)
    (refine N.noGotoRet ?_)
    (refine N.noGotoRet ?_)
    (refine N.noGotoRet ?_)
    (refine N.noGotoRet ?_)
    (refine id ?_; rotate_left))
      exact N.ret (rs := [.tmp 4]) rfl (.tmp rfl .nil) ⟨by rw [idxP, this]; rfl, rfl⟩
    | false =>
      rw [h2] at ci
      focus (
    (refine W.seq ?_)
    (refine W.region ?_)
    (refine Jx.lssI rfl rfl rfl ?_)
    (refine J.nil ?_)
    (refine N.seq ?_)
    (refine W.seq ?_)
    (refine W.cT rfl ?_)
    (refine W.skip ?_)
    (refine N.seq ?_)
    (refine W.seq ?_)
    (refine W.block ?_)
    (refine W.seq ?_)
    (refine W.region ?_)
    (refine Jx.move rfl rfl ?_)
    (refine Jx.assign rfl rfl ?_)
    (refine J.nil ?_)
    (refine N.seq ?_)
    (refine W.seq ?_)
    (refine W.region ?_)
    (refine Jx.move rfl rfl ?_)
    (refine Jx.move rfl rfl ?_)
    (refine Jx.move rfl rfl ?_)
    (refine Jx.indexEl rfl rfl (by assumption) rfl rfl ?_)
    (refine Jx.loadPP rfl rfl ?_)
    (refine J.callV (us := []) (vs := []) (args := [str (l.getD i [])]) (Lc := []) rfl ci rfl (evs_args rfl) rfl ?_; rintro _ _ ⟨rfl, rfl⟩; simp only [List.cons_append, List.nil_append, List.append_nil])
    (refine J.nil ?_)
    (refine N.seq ?_)
    (refine W.cF rfl ?_)
    (refine W.skip ?_)
    (refine N.seq ?_)
    (refine W.region ?_)
    (refine Jx.add64 rfl rfl (by omega) rfl ?_)
    (refine Jx.move rfl rfl ?_)
    (refine J.nil ?_)
    (refine id ?_; rotate_left))
      refine N.round (i + 1) ⟨h1, fun y hy => ?_⟩ (by omega) rfl ⟨ref0 rfl, ref0 rfl, ref0 rfl, ref0 rfl, trivial⟩
      rw [List.take_add_one, List.getElem?_eq_getElem h1] at hy
      rcases List.mem_append.1 hy with hy | hy
      · exact hn y hy
      · simp only [Option.toList_some, List.mem_singleton] at hy
        subst hy
        rw [List.getD_eq_getElem?_getD, List.getElem?_eq_getElem h1] at h2
        exact h2
  · have : l.findIdx? (fun s => !sumB s) = none := List.findIdx?_eq_none_iff.2 fun y hy => hn y (by rw [List.take_of_length_le (by omega)]; exact hy)
    focus (
    (refine W.seq ?_)
    (refine W.region ?_)
    (refine Jx.lssI rfl rfl rfl ?_)
    (refine J.nil ?_)
    (refine N.seq ?_)
    (refine W.seq ?_)
    (refine W.cF rfl ?_)
    (refine W.exit ?_)
    (refine N.seq ?_)
    (refine W.seq ?_)
    (refine W.region ?_)
    (refine Jx.assign rfl rfl ?_)
    (refine J.nil ?_)
    (refine N.seq ?_)
    (refine W.ret ?_)
    (refine id ?_; rotate_left))
    exact N.ret (rs := [.tmp 4]) rfl (.tmp rfl .nil) ⟨by rw [idxP, this]; rfl, rfl⟩
theorem idxP_any (l : List (List UInt8)) (p : List UInt8 → Bool) : decide (0 ≤ idxP l p) = l.any p := by
  unfold idxP
  cases h : l.findIdx? p with
  | none =>
    have := List.findIdx?_eq_none_iff.1 h
    have ha : l.any p = false := List.any_eq_false.2 fun x hx => by rw [this x hx]; simp
    rw [ha]; rfl
  | some i =>
    obtain ⟨hi, hp, _⟩ := List.findIdx?_eq_some_iff_getElem.1 h
    have ha : l.any p = true := List.any_eq_true.2 ⟨_, List.getElem_mem hi, hp⟩
    rw [ha]
    exact decide_eq_true (by show (0 : Int) ≤ (i : Int); omega)
theorem contains_ok (l : List (List UInt8)) (hl : l.length ≤ 1048576) : FnC Tryd.prog 94 [ssl l, fnV 93] [] (fun v L => v = bool (l.any fun s => !sumB s) ∧ L = []) := by
  have c := indexF_ok l hl
  have h := idxP_any l fun s => !sumB s
  refine FnC.intro Tryd.func94 rfl Tryd.ntmps94 rfl fun Z w0 hG => ?_
  focus (
    (refine W.seq ?_)
    (refine W.region ?_)
    (refine Jx.assign rfl rfl ?_)
    (refine J.nil ?_)
    (refine N.seq ?_)
    (refine W.seq ?_)
    (refine W.region ?_)
    (refine Jx.move rfl rfl ?_)
    (refine Jx.move rfl rfl ?_)
    (refine J.call (c) rfl (evs_args rfl) rfl ?_; rintro _ _ ⟨rfl, rfl⟩; simp only [List.cons_append, List.nil_append, List.append_nil])
    (refine Jx.geqI rfl rfl rfl ?_)
    (refine Jx.assign rfl rfl ?_)
    (refine J.nil ?_)
    (refine N.seq ?_)
    (refine W.ret ?_)
    (refine id ?_; rotate_left))
  exact N.ret (rs := [.tmp 4]) rfl (.tmp rfl .nil) ⟨congrArg Sse.bool h, rfl⟩
theorem hnumbers_ok (h : Hd) : FnC Tryd.prog 73 [.agg (hdC h)] [] (fun v L => v = bool (numbersH h) ∧ L = []) := by
  have c1 := hin_ok h.height 1048576
  have c2 := hin_ok h.epoch 1048576
  have c3 := hin_ok h.view 1048576
  refine FnC.intro Tryd.func73 rfl Tryd.ntmps73 rfl fun Z w0 hG => ?_
  focus (
    (refine W.seq ?_)
    (refine W.region ?_)
    (refine J.boxAg rfl rfl ?_; intro b')
    (refine Jx.assign rfl rfl ?_)
    (refine J.nil ?_)
    (refine N.seq ?_)
    (refine W.seq ?_)
    (refine W.region ?_)
    (refine Jx.assign rfl rfl ?_)
    (refine J.nil ?_)
    (refine N.seq ?_)
    (refine W.seq ?_)
    (refine W.region ?_)
    (refine Jx.move rfl rfl ?_)
    (refine Jx.fieldAddr rfl rfl ?_)
    (refine Jx.load rfl 0 rfl rfl rfl ?_)
    (refine J.callV (us := []) (vs := []) (args := [int h.height, int 1048576]) (Lc := []) rfl c1 rfl (evs_args rfl) rfl ?_; rintro _ _ ⟨rfl, rfl⟩; simp only [List.cons_append, List.nil_append, List.append_nil])
    (refine Jx.move rfl rfl ?_)
    (refine' J.guardAnd rfl rfl rfl rfl rfl rfl rfl rfl (fun _ => ?_) ?_; rotate_left)
    (refine J.gY rfl rfl rfl ?_)
    (refine Jx.move rfl rfl ?_)
    (refine J.gY rfl rfl rfl ?_)
    (refine Jx.fieldAddr rfl rfl ?_)
    (refine J.gY rfl rfl rfl ?_)
    (refine Jx.load rfl 0 rfl rfl rfl ?_)
    (refine J.gY rfl rfl rfl ?_)
    (refine J.callV (us := []) (vs := []) (args := [int h.epoch, int 1048576]) (Lc := []) rfl c2 rfl (evs_args rfl) rfl ?_; rintro _ _ ⟨rfl, rfl⟩; simp only [List.cons_append, List.nil_append, List.append_nil])
    (refine J.nil ?_)
    (refine N.joinedN rfl rfl rfl)
    (refine Jx.move rfl rfl ?_)
    (refine' J.guardAnd rfl rfl rfl rfl rfl rfl rfl rfl (fun _ => ?_) ?_; rotate_left)
    (refine J.gY rfl rfl rfl ?_)
    (refine Jx.move rfl rfl ?_)
    (refine J.gY rfl rfl rfl ?_)
    (refine Jx.fieldAddr rfl rfl ?_)
    (refine J.gY rfl rfl rfl ?_)
    (refine Jx.load rfl 0 rfl rfl rfl ?_)
    (refine J.gY rfl rfl rfl ?_)
    (refine J.callV (us := []) (vs := []) (args := [int h.view, int 1048576]) (Lc := []) rfl c3 rfl (evs_args rfl) rfl ?_; rintro _ _ ⟨rfl, rfl⟩; simp only [List.cons_append, List.nil_append, List.append_nil])
    (refine J.nil ?_)
    (refine N.joinedN rfl rfl rfl)
    (refine Jx.assign rfl rfl ?_)
    (refine J.nil ?_)
    (refine N.seq ?_)
    (refine W.ret ?_)
    (refine id ?_; rotate_left))
  exact N.retD (rs := [.tmp 2]) (L1 := []) rfl (.tmp rfl .nil) (List.nil_sublist _) ⟨rfl, rfl⟩
theorem hfirst_ok (h : Hd) : FnC Tryd.prog 74 [.agg (hdC h)] [] (fun v L => v = bool (firstH h) ∧ L = []) := by
  have c1 := hsum_ok h.parent
  refine FnC.intro Tryd.func74 rfl Tryd.ntmps74 rfl fun Z w0 hG => ?_
  by_cases h0 : 0 < h.height
  · focus (
    (refine W.seq ?_)
    (refine W.region ?_)
    (refine J.boxAg rfl rfl ?_; intro b')
    (refine Jx.assign rfl rfl ?_)
    (refine J.nil ?_)
    (refine N.seq ?_)
    (refine W.seq ?_)
    (refine W.seq ?_)
    (refine W.region ?_)
    (refine Jx.fieldAddr rfl rfl ?_)
    (refine Jx.load rfl 0 rfl rfl rfl ?_)
    (refine Jx.gtrI rfl rfl rfl ?_)
    (refine J.nil ?_)
    (refine N.seq ?_)
    (refine W.cT rfl ?_)
    (refine W.seq ?_)
    (refine W.region ?_)
    (refine Jx.fieldAddr rfl rfl ?_)
    (refine Jx.load rfl 0 rfl rfl rfl ?_)
    (refine J.call (c1) rfl (evs_args rfl) rfl ?_; rintro _ _ ⟨rfl, rfl⟩; simp only [List.cons_append, List.nil_append, List.append_nil])
    (refine Jx.assign rfl rfl ?_)
    (refine J.nil ?_)
    (refine N.seq ?_)
    (refine W.ret ?_)
    (refine N.noGotoRet ?_)
    (refine id ?_; rotate_left))
    exact N.retD (rs := [.tmp 2]) (L1 := []) rfl (.tmp rfl .nil) (List.nil_sublist _) ⟨by rw [firstH, if_pos h0]; rfl, rfl⟩
  · focus (
    (refine W.seq ?_)
    (refine W.region ?_)
    (refine J.boxAg rfl rfl ?_; intro b')
    (refine Jx.assign rfl rfl ?_)
    (refine J.nil ?_)
    (refine N.seq ?_)
    (refine W.seq ?_)
    (refine W.seq ?_)
    (refine W.region ?_)
    (refine Jx.fieldAddr rfl rfl ?_)
    (refine Jx.load rfl 0 rfl rfl rfl ?_)
    (refine Jx.gtrI rfl rfl rfl ?_)
    (refine J.nil ?_)
    (refine N.seq ?_)
    (refine W.cF rfl ?_)
    (refine W.skip ?_)
    (refine N.seq ?_)
    (refine W.seq ?_)
    (refine W.region ?_)
    (refine Jx.fieldAddr rfl rfl ?_)
    (refine Jx.load rfl 0 rfl rfl rfl ?_)
    (refine Jx.eqlS rfl rfl rfl ?_)
    (refine Jx.move rfl rfl ?_)
    (refine' J.guardAnd rfl rfl rfl rfl rfl rfl rfl rfl (fun _ => ?_) ?_; rotate_left)
    (refine J.gY rfl rfl rfl ?_)
    (refine Jx.fieldAddr rfl rfl ?_)
    (refine J.gY rfl rfl rfl ?_)
    (refine Jx.load rfl 0 rfl rfl rfl ?_)
    (refine J.gY rfl rfl rfl ?_)
    (refine Jx.eqlI rfl rfl rfl ?_)
    (refine J.nil ?_)
    (refine N.joinedN rfl rfl rfl)
    (refine Jx.move rfl rfl ?_)
    (refine' J.guardAnd rfl rfl rfl rfl rfl rfl rfl rfl (fun _ => ?_) ?_; rotate_left)
    (refine J.gY rfl rfl rfl ?_)
    (refine Jx.fieldAddr rfl rfl ?_)
    (refine J.gY rfl rfl rfl ?_)
    (refine Jx.load rfl 0 rfl rfl rfl ?_)
    (refine J.gY rfl rfl rfl ?_)
    (refine Jx.eqlI rfl rfl rfl ?_)
    (refine J.nil ?_)
    (refine N.joinedN rfl rfl rfl)
    (refine Jx.move rfl rfl ?_)
    (refine' J.guardAnd rfl rfl rfl rfl rfl rfl rfl rfl (fun _ => ?_) ?_; rotate_left)
    (refine J.gY rfl rfl rfl ?_)
    (refine Jx.fieldAddr rfl rfl ?_)
    (refine J.gY rfl rfl rfl ?_)
    (refine Jx.load rfl 0 rfl rfl rfl ?_)
    (refine J.nil ?_)
    (refine N.joinedN rfl rfl rfl)
    (refine Jx.assign rfl rfl ?_)
    (refine J.nil ?_)
    (refine N.seq ?_)
    (refine W.ret ?_)
    (refine id ?_; rotate_left))
    exact N.retD (rs := [.tmp 2]) (L1 := []) rfl (.tmp rfl .nil) (List.nil_sublist _) ⟨by rw [firstH, if_neg h0]; rfl, rfl⟩
set_option maxHeartbeats 2000000 in
theorem hsums_ok (h : Hd) (hl : h.skips.length ≤ 1048576) : FnC Tryd.prog 75 [.agg (hdC h)] [] (fun v L => v = bool (sumsH h) ∧ L = []) := by
  have c1 := hsum_ok h.txs
  have c2 := hsum_ok h.members
  have c3 := hsum_ok h.next
  have c4 := hmaybe_ok h.state
  have c5 := hmaybe_ok h.receipts
  have c6 := links_ok h.height
  have c7 := contains_ok h.skips hl
  refine FnC.intro Tryd.func75 rfl Tryd.ntmps75 rfl fun Z w0 hG => ?_
  by_cases h0 : 0 < h.height
  · by_cases h1 : (h.skips.length : Int) = ((linksI h.height).length : Int)
    · focus (
    (refine W.seq ?_)
    (refine W.region ?_)
    (refine J.boxAg rfl rfl ?_; intro b')
    (refine Jx.assign rfl rfl ?_)
    (refine J.nil ?_)
    (refine N.seq ?_)
    (refine W.seq ?_)
    (refine W.region ?_)
    (refine Jx.assign rfl rfl ?_)
    (refine J.nil ?_)
    (refine N.seq ?_)
    (refine W.seq ?_)
    (refine W.region ?_)
    (refine Jx.assign rfl rfl ?_)
    (refine J.nil ?_)
    (refine N.seq ?_)
    (refine W.seq ?_)
    (refine W.block ?_)
    (refine W.seq ?_)
    (refine W.block ?_)
    (refine W.seq ?_)
    (refine W.block ?_)
    (refine W.seq ?_)
    (refine W.seq ?_)
    (refine W.seq ?_)
    (refine W.region ?_)
    (refine Jx.fieldAddr rfl rfl ?_)
    (refine Jx.load rfl 0 rfl rfl rfl ?_)
    (refine Jx.gtrI rfl rfl rfl ?_)
    (refine Jx.assign rfl rfl ?_)
    (refine J.nil ?_)
    (refine N.seq ?_)
    (refine W.cT rfl ?_)
    (refine W.exit ?_)
    (refine N.seq ?_)
    (refine W.draw follows ?_)
    (refine JD.calm rfl (by decide +kernel) ?_)
    (refine Cx.fieldAddr rfl rfl ?_)
    (refine Cx.load rfl 0 rfl rfl rfl ?_)
    (refine Cx.lenSl rfl rfl ?_)
    (refine Cx.fieldAddr rfl rfl ?_)
    (refine Cx.load rfl 0 rfl rfl rfl ?_)
    (refine SegC.q (Qs.call (Lc := []) (c6) (fun s L' h => h) (List.Perm.refl _) (evs_args rfl)) rfl ?_)
    (refine Cx.lenSl rfl rfl ?_)
    (refine Cx.eqlI rfl rfl rfl ?_)
    (refine Cx.move rfl rfl ?_)
    (refine SegC.gY rfl rfl rfl ?_)
    (refine Cx.fieldAddr rfl rfl ?_)
    (refine SegC.gY rfl rfl rfl ?_)
    (refine Cx.load rfl 0 rfl rfl rfl ?_)
    (refine SegC.gY rfl rfl rfl ?_)
    (refine Cx.move rfl rfl ?_)
    (refine SegC.gY rfl rfl rfl ?_)
    (refine SegC.q (Qs.call (Lc := []) (c7) (fun s L' h => h) (List.Perm.refl _) (evs_args rfl)) rfl ?_)
    (refine SegC.gY rfl rfl rfl ?_)
    (refine Cx.not rfl rfl ?_)
    (refine Cx.pickT rfl (by first | rfl | assumption | (exact decide_eq_true (by first | assumption | omega | rfl)) | (exact decide_eq_false (by first | assumption | omega | rfl)) | (simp; done) | (simp; omega)) rfl rfl ?_)
    (refine Cx.assign rfl rfl ?_)
    (refine SegC.nil ?_)
    (refine N.seq ?_)
    (refine W.seq ?_)
    (refine W.seq ?_)
    (refine W.region ?_)
    (refine Jx.move rfl rfl ?_)
    (refine Jx.move rfl rfl ?_)
    (refine' J.guardAnd rfl rfl rfl rfl rfl rfl rfl rfl (fun _ => ?_) ?_; rotate_left)
    (refine J.gY rfl rfl rfl ?_)
    (refine Jx.fieldAddr rfl rfl ?_)
    (refine J.gY rfl rfl rfl ?_)
    (refine Jx.load rfl 0 rfl rfl rfl ?_)
    (refine J.gY rfl rfl rfl ?_)
    (refine J.call (c1) rfl (evs_args rfl) rfl ?_; rintro _ _ ⟨rfl, rfl⟩; simp only [List.cons_append, List.nil_append, List.append_nil])
    (refine J.nil ?_)
    (refine N.joinedN rfl rfl rfl)
    (refine Jx.move rfl rfl ?_)
    (refine' J.guardAnd rfl rfl rfl rfl rfl rfl rfl rfl (fun _ => ?_) ?_; rotate_left)
    (refine J.gY rfl rfl rfl ?_)
    (refine Jx.fieldAddr rfl rfl ?_)
    (refine J.gY rfl rfl rfl ?_)
    (refine Jx.load rfl 0 rfl rfl rfl ?_)
    (refine J.gY rfl rfl rfl ?_)
    (refine J.call (c2) rfl (evs_args rfl) rfl ?_; rintro _ _ ⟨rfl, rfl⟩; simp only [List.cons_append, List.nil_append, List.append_nil])
    (refine J.nil ?_)
    (refine N.joinedN rfl rfl rfl)
    (refine Jx.move rfl rfl ?_)
    (refine' J.guardAnd rfl rfl rfl rfl rfl rfl rfl rfl (fun _ => ?_) ?_; rotate_left)
    (refine J.gY rfl rfl rfl ?_)
    (refine Jx.fieldAddr rfl rfl ?_)
    (refine J.gY rfl rfl rfl ?_)
    (refine Jx.load rfl 0 rfl rfl rfl ?_)
    (refine J.gY rfl rfl rfl ?_)
    (refine J.call (c3) rfl (evs_args rfl) rfl ?_; rintro _ _ ⟨rfl, rfl⟩; simp only [List.cons_append, List.nil_append, List.append_nil])
    (refine J.nil ?_)
    (refine N.joinedN rfl rfl rfl)
    (refine Jx.move rfl rfl ?_)
    (refine' J.guardAnd rfl rfl rfl rfl rfl rfl rfl rfl (fun _ => ?_) ?_; rotate_left)
    (refine J.gY rfl rfl rfl ?_)
    (refine Jx.fieldAddr rfl rfl ?_)
    (refine J.gY rfl rfl rfl ?_)
    (refine Jx.load rfl 0 rfl rfl rfl ?_)
    (refine J.gY rfl rfl rfl ?_)
    (refine J.call (c4) rfl (evs_args rfl) rfl ?_; rintro _ _ ⟨rfl, rfl⟩; simp only [List.cons_append, List.nil_append, List.append_nil])
    (refine J.nil ?_)
    (refine N.joinedN rfl rfl rfl)
    (refine Jx.move rfl rfl ?_)
    (refine' J.guardAnd rfl rfl rfl rfl rfl rfl rfl rfl (fun _ => ?_) ?_; rotate_left)
    (refine J.gY rfl rfl rfl ?_)
    (refine Jx.fieldAddr rfl rfl ?_)
    (refine J.gY rfl rfl rfl ?_)
    (refine Jx.load rfl 0 rfl rfl rfl ?_)
    (refine J.gY rfl rfl rfl ?_)
    (refine J.call (c5) rfl (evs_args rfl) rfl ?_; rintro _ _ ⟨rfl, rfl⟩; simp only [List.cons_append, List.nil_append, List.append_nil])
    (refine J.nil ?_)
    (refine N.joinedN rfl rfl rfl)
    (refine Jx.assign rfl rfl ?_)
    (refine J.nil ?_)
    (refine N.seq ?_)
    (refine W.ret ?_)
    (refine N.noGotoRet ?_)
    (refine N.noGotoRet ?_)
    (refine N.noGotoRet ?_)
    (refine id ?_; rotate_left))
      refine N.retD (rs := [.tmp 2]) (L1 := []) rfl (.tmp rfl .nil) (List.nil_sublist _) ⟨congrArg Sse.bool ?_, rfl⟩
      rw [sumsH, if_pos h0, skipsH, decide_eq_true h1, Bool.true_and]; rfl
    · focus (
    (refine W.seq ?_)
    (refine W.region ?_)
    (refine J.boxAg rfl rfl ?_; intro b')
    (refine Jx.assign rfl rfl ?_)
    (refine J.nil ?_)
    (refine N.seq ?_)
    (refine W.seq ?_)
    (refine W.region ?_)
    (refine Jx.assign rfl rfl ?_)
    (refine J.nil ?_)
    (refine N.seq ?_)
    (refine W.seq ?_)
    (refine W.region ?_)
    (refine Jx.assign rfl rfl ?_)
    (refine J.nil ?_)
    (refine N.seq ?_)
    (refine W.seq ?_)
    (refine W.block ?_)
    (refine W.seq ?_)
    (refine W.block ?_)
    (refine W.seq ?_)
    (refine W.block ?_)
    (refine W.seq ?_)
    (refine W.seq ?_)
    (refine W.seq ?_)
    (refine W.region ?_)
    (refine Jx.fieldAddr rfl rfl ?_)
    (refine Jx.load rfl 0 rfl rfl rfl ?_)
    (refine Jx.gtrI rfl rfl rfl ?_)
    (refine Jx.assign rfl rfl ?_)
    (refine J.nil ?_)
    (refine N.seq ?_)
    (refine W.cT rfl ?_)
    (refine W.exit ?_)
    (refine N.seq ?_)
    (refine W.draw follows ?_)
    (refine JD.calm rfl (by decide +kernel) ?_)
    (refine Cx.fieldAddr rfl rfl ?_)
    (refine Cx.load rfl 0 rfl rfl rfl ?_)
    (refine Cx.lenSl rfl rfl ?_)
    (refine Cx.fieldAddr rfl rfl ?_)
    (refine Cx.load rfl 0 rfl rfl rfl ?_)
    (refine SegC.q (Qs.call (Lc := []) (c6) (fun s L' h => h) (List.Perm.refl _) (evs_args rfl)) rfl ?_)
    (refine Cx.lenSl rfl rfl ?_)
    (refine Cx.eqlI rfl rfl rfl ?_)
    (refine Cx.move rfl rfl ?_)
    (refine SegC.gN rfl rfl rfl rfl ?_)
    (refine SegC.gN rfl rfl rfl rfl ?_)
    (refine SegC.gN rfl rfl rfl rfl ?_)
    (refine SegC.gN rfl rfl rfl rfl ?_)
    (refine SegC.gN rfl rfl rfl rfl ?_)
    (refine Cx.pickF rfl (by first | rfl | assumption | (exact decide_eq_true (by first | assumption | omega | rfl)) | (exact decide_eq_false (by first | assumption | omega | rfl)) | (simp; done) | (simp; omega)) rfl rfl ?_)
    (refine Cx.assign rfl rfl ?_)
    (refine SegC.nil ?_)
    (refine N.seq ?_)
    (refine W.seq ?_)
    (refine W.seq ?_)
    (refine W.region ?_)
    (refine Jx.move rfl rfl ?_)
    (refine Jx.move rfl rfl ?_)
    (refine J.gN rfl rfl rfl rfl ?_)
    (refine J.gN rfl rfl rfl rfl ?_)
    (refine J.gN rfl rfl rfl rfl ?_)
    (refine Jx.pF rfl rfl rfl ?_)
    (refine Jx.move rfl rfl ?_)
    (refine J.gN rfl rfl rfl rfl ?_)
    (refine J.gN rfl rfl rfl rfl ?_)
    (refine J.gN rfl rfl rfl rfl ?_)
    (refine Jx.pF rfl rfl rfl ?_)
    (refine Jx.move rfl rfl ?_)
    (refine J.gN rfl rfl rfl rfl ?_)
    (refine J.gN rfl rfl rfl rfl ?_)
    (refine J.gN rfl rfl rfl rfl ?_)
    (refine Jx.pF rfl rfl rfl ?_)
    (refine Jx.move rfl rfl ?_)
    (refine J.gN rfl rfl rfl rfl ?_)
    (refine J.gN rfl rfl rfl rfl ?_)
    (refine J.gN rfl rfl rfl rfl ?_)
    (refine Jx.pF rfl rfl rfl ?_)
    (refine Jx.move rfl rfl ?_)
    (refine J.gN rfl rfl rfl rfl ?_)
    (refine J.gN rfl rfl rfl rfl ?_)
    (refine J.gN rfl rfl rfl rfl ?_)
    (refine Jx.pF rfl rfl rfl ?_)
    (refine Jx.assign rfl rfl ?_)
    (refine J.nil ?_)
    (refine N.seq ?_)
    (refine W.ret ?_)
    (refine N.noGotoRet ?_)
    (refine N.noGotoRet ?_)
    (refine N.noGotoRet ?_)
    (refine id ?_; rotate_left))
      refine N.retD (rs := [.tmp 2]) (L1 := []) rfl (.tmp rfl .nil) (List.nil_sublist _) ⟨congrArg Sse.bool ?_, rfl⟩
      rw [sumsH, if_pos h0, skipsH, decide_eq_false h1, Bool.false_and]; rfl
  · by_cases h1 : (h.skips.length : Int) = 0
    · focus (
    (refine W.seq ?_)
    (refine W.region ?_)
    (refine J.boxAg rfl rfl ?_; intro b')
    (refine Jx.assign rfl rfl ?_)
    (refine J.nil ?_)
    (refine N.seq ?_)
    (refine W.seq ?_)
    (refine W.region ?_)
    (refine Jx.assign rfl rfl ?_)
    (refine J.nil ?_)
    (refine N.seq ?_)
    (refine W.seq ?_)
    (refine W.region ?_)
    (refine Jx.assign rfl rfl ?_)
    (refine J.nil ?_)
    (refine N.seq ?_)
    (refine W.seq ?_)
    (refine W.block ?_)
    (refine W.seq ?_)
    (refine W.block ?_)
    (refine W.seq ?_)
    (refine W.block ?_)
    (refine W.seq ?_)
    (refine W.seq ?_)
    (refine W.seq ?_)
    (refine W.region ?_)
    (refine Jx.fieldAddr rfl rfl ?_)
    (refine Jx.load rfl 0 rfl rfl rfl ?_)
    (refine Jx.gtrI rfl rfl rfl ?_)
    (refine Jx.assign rfl rfl ?_)
    (refine J.nil ?_)
    (refine N.seq ?_)
    (refine W.cF rfl ?_)
    (refine W.skip ?_)
    (refine N.seq ?_)
    (refine W.seq ?_)
    (refine W.region ?_)
    (refine Jx.fieldAddr rfl rfl ?_)
    (refine Jx.load rfl 0 rfl rfl rfl ?_)
    (refine Jx.lenSl rfl rfl ?_)
    (refine Jx.eqlI rfl rfl rfl ?_)
    (refine Jx.assign rfl rfl ?_)
    (refine J.nil ?_)
    (refine N.seq ?_)
    (refine W.cT rfl ?_)
    (refine W.exit ?_)
    (refine N.seq ?_)
    (refine W.seq ?_)
    (refine W.seq ?_)
    (refine W.region ?_)
    (refine Jx.move rfl rfl ?_)
    (refine Jx.move rfl rfl ?_)
    (refine J.gY rfl rfl rfl ?_)
    (refine Jx.fieldAddr rfl rfl ?_)
    (refine J.gY rfl rfl rfl ?_)
    (refine Jx.load rfl 0 rfl rfl rfl ?_)
    (refine J.gY rfl rfl rfl ?_)
    (refine J.call (c1) rfl (evs_args rfl) rfl ?_; rintro _ _ ⟨rfl, rfl⟩; simp only [List.cons_append, List.nil_append, List.append_nil])
    (refine Jx.pT rfl rfl rfl ?_)
    (refine Jx.move rfl rfl ?_)
    (refine' J.guardAnd rfl rfl rfl rfl rfl rfl rfl rfl (fun _ => ?_) ?_; rotate_left)
    (refine J.gY rfl rfl rfl ?_)
    (refine Jx.fieldAddr rfl rfl ?_)
    (refine J.gY rfl rfl rfl ?_)
    (refine Jx.load rfl 0 rfl rfl rfl ?_)
    (refine J.gY rfl rfl rfl ?_)
    (refine J.call (c2) rfl (evs_args rfl) rfl ?_; rintro _ _ ⟨rfl, rfl⟩; simp only [List.cons_append, List.nil_append, List.append_nil])
    (refine J.nil ?_)
    (refine N.joinedN rfl rfl rfl)
    (refine Jx.move rfl rfl ?_)
    (refine' J.guardAnd rfl rfl rfl rfl rfl rfl rfl rfl (fun _ => ?_) ?_; rotate_left)
    (refine J.gY rfl rfl rfl ?_)
    (refine Jx.fieldAddr rfl rfl ?_)
    (refine J.gY rfl rfl rfl ?_)
    (refine Jx.load rfl 0 rfl rfl rfl ?_)
    (refine J.gY rfl rfl rfl ?_)
    (refine J.call (c3) rfl (evs_args rfl) rfl ?_; rintro _ _ ⟨rfl, rfl⟩; simp only [List.cons_append, List.nil_append, List.append_nil])
    (refine J.nil ?_)
    (refine N.joinedN rfl rfl rfl)
    (refine Jx.move rfl rfl ?_)
    (refine' J.guardAnd rfl rfl rfl rfl rfl rfl rfl rfl (fun _ => ?_) ?_; rotate_left)
    (refine J.gY rfl rfl rfl ?_)
    (refine Jx.fieldAddr rfl rfl ?_)
    (refine J.gY rfl rfl rfl ?_)
    (refine Jx.load rfl 0 rfl rfl rfl ?_)
    (refine J.gY rfl rfl rfl ?_)
    (refine J.call (c4) rfl (evs_args rfl) rfl ?_; rintro _ _ ⟨rfl, rfl⟩; simp only [List.cons_append, List.nil_append, List.append_nil])
    (refine J.nil ?_)
    (refine N.joinedN rfl rfl rfl)
    (refine Jx.move rfl rfl ?_)
    (refine' J.guardAnd rfl rfl rfl rfl rfl rfl rfl rfl (fun _ => ?_) ?_; rotate_left)
    (refine J.gY rfl rfl rfl ?_)
    (refine Jx.fieldAddr rfl rfl ?_)
    (refine J.gY rfl rfl rfl ?_)
    (refine Jx.load rfl 0 rfl rfl rfl ?_)
    (refine J.gY rfl rfl rfl ?_)
    (refine J.call (c5) rfl (evs_args rfl) rfl ?_; rintro _ _ ⟨rfl, rfl⟩; simp only [List.cons_append, List.nil_append, List.append_nil])
    (refine J.nil ?_)
    (refine N.joinedN rfl rfl rfl)
    (refine Jx.assign rfl rfl ?_)
    (refine J.nil ?_)
    (refine N.seq ?_)
    (refine W.ret ?_)
    (refine N.noGotoRet ?_)
    (refine N.noGotoRet ?_)
    (refine N.noGotoRet ?_)
    (refine id ?_; rotate_left))
      refine N.retD (rs := [.tmp 2]) (L1 := []) rfl (.tmp rfl .nil) (List.nil_sublist _) ⟨congrArg Sse.bool ?_, rfl⟩
      rw [sumsH, if_neg h0, if_pos h1]; rfl
    · focus (
    (refine W.seq ?_)
    (refine W.region ?_)
    (refine J.boxAg rfl rfl ?_; intro b')
    (refine Jx.assign rfl rfl ?_)
    (refine J.nil ?_)
    (refine N.seq ?_)
    (refine W.seq ?_)
    (refine W.region ?_)
    (refine Jx.assign rfl rfl ?_)
    (refine J.nil ?_)
    (refine N.seq ?_)
    (refine W.seq ?_)
    (refine W.region ?_)
    (refine Jx.assign rfl rfl ?_)
    (refine J.nil ?_)
    (refine N.seq ?_)
    (refine W.seq ?_)
    (refine W.block ?_)
    (refine W.seq ?_)
    (refine W.block ?_)
    (refine W.seq ?_)
    (refine W.block ?_)
    (refine W.seq ?_)
    (refine W.seq ?_)
    (refine W.seq ?_)
    (refine W.region ?_)
    (refine Jx.fieldAddr rfl rfl ?_)
    (refine Jx.load rfl 0 rfl rfl rfl ?_)
    (refine Jx.gtrI rfl rfl rfl ?_)
    (refine Jx.assign rfl rfl ?_)
    (refine J.nil ?_)
    (refine N.seq ?_)
    (refine W.cF rfl ?_)
    (refine W.skip ?_)
    (refine N.seq ?_)
    (refine W.seq ?_)
    (refine W.region ?_)
    (refine Jx.fieldAddr rfl rfl ?_)
    (refine Jx.load rfl 0 rfl rfl rfl ?_)
    (refine Jx.lenSl rfl rfl ?_)
    (refine Jx.eqlI rfl rfl rfl ?_)
    (refine Jx.assign rfl rfl ?_)
    (refine J.nil ?_)
    (refine N.seq ?_)
    (refine W.cF rfl ?_)
    (refine W.skip ?_)
    (refine N.seq ?_)
    (refine W.exit ?_)
    (refine N.seq ?_)
    (refine W.seq ?_)
    (refine W.region ?_)
    (refine Jx.assign rfl rfl ?_)
    (refine J.nil ?_)
    (refine N.seq ?_)
    (refine W.ret ?_)
    (refine id ?_; rotate_left))
      refine N.retD (rs := [.tmp 2]) (L1 := []) rfl (.tmp rfl .nil) (List.nil_sublist _) ⟨congrArg Sse.bool ?_, rfl⟩
      rw [sumsH, if_neg h0, if_neg h1]
theorem hcheck_ok (h : Hd) (hl : h.skips.length ≤ 1048576) : FnC Tryd.prog 47 [.agg (hdC h)] [] (fun v L => v = int (codeB (fineHd h) 190) ∧ L = []) := by
  have c1 := hnumbers_ok h
  have c2 := hfirst_ok h
  have c3 := hsums_ok h hl
  refine FnC.intro Tryd.func47 rfl Tryd.ntmps47 rfl fun Z w0 hG => ?_
  focus (
    (refine W.seq ?_)
    (refine W.region ?_)
    (refine J.boxAg rfl rfl ?_; intro b')
    (refine Jx.assign rfl rfl ?_)
    (refine J.nil ?_)
    (refine N.seq ?_)
    (refine W.seq ?_)
    (refine W.seq ?_)
    (refine W.region ?_)
    (refine Jx.loadAll rfl 0 rfl rfl rfl ?_)
    (refine J.call (c1) rfl (evs_args rfl) rfl ?_; rintro _ _ ⟨rfl, rfl⟩; simp only [List.cons_append, List.nil_append, List.append_nil])
    (refine Jx.not rfl rfl ?_)
    (refine Jx.move rfl rfl ?_)
    (refine' J.guardOr rfl rfl rfl rfl rfl rfl rfl rfl (fun _ => ?_) ?_; rotate_left)
    (refine J.gY rfl rfl rfl ?_)
    (refine Jx.loadAll rfl 0 rfl rfl rfl ?_)
    (refine J.gY rfl rfl rfl ?_)
    (refine J.call (c2) rfl (evs_args rfl) rfl ?_; rintro _ _ ⟨rfl, rfl⟩; simp only [List.cons_append, List.nil_append, List.append_nil])
    (refine J.gY rfl rfl rfl ?_)
    (refine Jx.not rfl rfl ?_)
    (refine J.nil ?_)
    (refine N.joinedN rfl rfl rfl)
    (refine Jx.move rfl rfl ?_)
    (refine' J.guardOr rfl rfl rfl rfl rfl rfl rfl rfl (fun _ => ?_) ?_; rotate_left)
    (refine J.gY rfl rfl rfl ?_)
    (refine Jx.loadAll rfl 0 rfl rfl rfl ?_)
    (refine J.gY rfl rfl rfl ?_)
    (refine J.call (c3) rfl (evs_args rfl) rfl ?_; rintro _ _ ⟨rfl, rfl⟩; simp only [List.cons_append, List.nil_append, List.append_nil])
    (refine J.gY rfl rfl rfl ?_)
    (refine Jx.not rfl rfl ?_)
    (refine J.nil ?_)
    (refine N.joinedN rfl rfl rfl)
    (refine Jx.move rfl rfl ?_)
    (refine' J.guardOr rfl rfl rfl rfl rfl rfl rfl rfl (fun _ => ?_) ?_; rotate_left)
    (refine J.gY rfl rfl rfl ?_)
    (refine Jx.fieldAddr rfl rfl ?_)
    (refine J.gY rfl rfl rfl ?_)
    (refine Jx.load rfl 0 rfl rfl rfl ?_)
    (refine J.gY rfl rfl rfl ?_)
    (refine Jx.not rfl rfl ?_)
    (refine J.gY rfl rfl rfl ?_)
    (refine Jx.move rfl rfl ?_)
    (refine' J.guardAndG rfl rfl rfl (by first | rfl | assumption | (exact decide_eq_true (by first | assumption | omega | rfl)) | (exact decide_eq_false (by first | assumption | omega | rfl)) | (simp; done) | (simp; omega)) rfl rfl rfl rfl rfl rfl rfl rfl (fun _ => ?_) ?_; rotate_left)
    (refine J.gY rfl rfl rfl ?_)
    (refine Jx.fieldAddr rfl rfl ?_)
    (refine J.gY rfl rfl rfl ?_)
    (refine Jx.load rfl 0 rfl rfl rfl ?_)
    (refine J.gY rfl rfl rfl ?_)
    (refine Jx.fieldAddr rfl rfl ?_)
    (refine J.gY rfl rfl rfl ?_)
    (refine Jx.load rfl 0 rfl rfl rfl ?_)
    (refine J.gY rfl rfl rfl ?_)
    (refine Jx.neqS rfl rfl rfl ?_)
    (refine J.nil ?_)
    (refine N.joinedN rfl rfl rfl)
    (refine J.nil ?_)
    (refine N.joinedN rfl rfl rfl)
    (refine J.nil ?_)
    (refine N.seq ?_)
    (refine id ?_; rotate_left))
  refine W.cond rfl (fun hb => ?_) (fun hb => ?_)
  · have hf : fineHd h = false := by rw [fineHd, show badH h = true from hb]; rfl
    rw [hf]
    focus (
    (refine W.seq ?_)
    (refine W.region ?_)
    (refine Jx.assign rfl rfl ?_)
    (refine J.nil ?_)
    (refine N.seq ?_)
    (refine W.ret ?_)
    (refine N.noGotoRet ?_)
    (refine id ?_; rotate_left))
    exact N.retD (rs := [.tmp 2]) (L1 := []) rfl (.tmp rfl .nil) (List.nil_sublist _) ⟨rfl, rfl⟩
  · have hf : fineHd h = true := by rw [fineHd, show badH h = false from hb]; rfl
    rw [hf]
    focus (
    (refine W.skip ?_)
    (refine N.seq ?_)
    (refine W.seq ?_)
    (refine W.region ?_)
    (refine Jx.assign rfl rfl ?_)
    (refine J.nil ?_)
    (refine N.seq ?_)
    (refine W.ret ?_)
    (refine id ?_; rotate_left))
    exact N.retD (rs := [.tmp 2]) (L1 := []) rfl (.tmp rfl .nil) (List.nil_sublist _) ⟨rfl, rfl⟩
def nB (n : Int) : List UInt8 := numB n.toNat
set_option maxHeartbeats 4000000 in
theorem hencode_ok (h : Hd) (hl : h.skips.length ≤ 1048576) : FnC Tryd.prog 18 [.agg (hdC h)] [] (fun v L => v = .tup [str (encO fineHd encHd h), int (codeB (fineHd h) 190)] ∧ L = []) := by
  have c0 := hcheck_ok h hl
  refine FnC.intro Tryd.func18 rfl Tryd.ntmps18 rfl fun Z w0 hG => ?_
  unfold encO
  cases hf : fineHd h with
  | false =>
    rw [hf] at c0
    focus (
    (refine W.seq ?_)
    (refine W.region ?_)
    (refine J.boxAg rfl rfl ?_; intro b')
    (refine Jx.assign rfl rfl ?_)
    (refine Jx.assign rfl rfl ?_)
    (refine J.nil ?_)
    (refine N.seq ?_)
    (refine W.seq ?_)
    (refine W.seq ?_)
    (refine W.region ?_)
    (refine Jx.loadAll rfl 0 rfl rfl rfl ?_)
    (refine J.call (c0) rfl (evs_args rfl) rfl ?_; rintro _ _ ⟨rfl, rfl⟩; simp only [List.cons_append, List.nil_append, List.append_nil])
    (refine Jx.assign rfl rfl ?_)
    (refine J.nil ?_)
    (refine N.seq ?_)
    (refine W.seq ?_)
    (refine W.region ?_)
    (refine Jx.move rfl rfl ?_)
    (refine Jx.neqI rfl rfl rfl ?_)
    (refine J.nil ?_)
    (refine N.seq ?_)
    (refine W.cT rfl ?_)
    (refine W.seq ?_)
    (refine W.region ?_)
    (refine Jx.move rfl rfl ?_)
    (refine Jx.assign rfl rfl ?_)
    (refine Jx.assign rfl rfl ?_)
    (refine J.nil ?_)
    (refine N.seq ?_)
    (refine W.ret ?_)
    (refine N.noGotoRet ?_)
    (refine id ?_; rotate_left))
    exact N.retD (rs := [.tmp 2, .tmp 3]) (L1 := []) rfl (.tmp rfl (.tmp rfl .nil)) (List.nil_sublist _) ⟨rfl, rfl⟩
  | true =>
    rw [hf] at c0
    rw [if_pos rfl]
    have f := (fineHd_iff h).1 hf
    have f1 := f.height; have f2 := f.epoch; have f3 := f.view
    focus (
    (refine W.seq ?_)
    (refine W.region ?_)
    (refine J.boxAg rfl rfl ?_; intro b')
    (refine Jx.assign rfl rfl ?_)
    (refine Jx.assign rfl rfl ?_)
    (refine J.nil ?_)
    (refine N.seq ?_)
    (refine W.seq ?_)
    (refine W.seq ?_)
    (refine W.region ?_)
    (refine Jx.loadAll rfl 0 rfl rfl rfl ?_)
    (refine J.call (c0) rfl (evs_args rfl) rfl ?_; rintro _ _ ⟨rfl, rfl⟩; simp only [List.cons_append, List.nil_append, List.append_nil])
    (refine Jx.assign rfl rfl ?_)
    (refine J.nil ?_)
    (refine N.seq ?_)
    (refine W.seq ?_)
    (refine W.region ?_)
    (refine Jx.move rfl rfl ?_)
    (refine Jx.neqI rfl rfl rfl ?_)
    (refine J.nil ?_)
    (refine N.seq ?_)
    (refine W.cF rfl ?_)
    (refine W.skip ?_)
    (refine N.seq ?_)
    (refine W.seq ?_)
    (refine W.region ?_)
    (refine Jx.assign rfl rfl ?_)
    (refine J.nil ?_)
    (refine N.seq ?_)
    (refine W.seq ?_)
    (refine W.seq ?_)
    (refine W.region ?_)
    (refine Jx.fieldAddr rfl rfl ?_)
    (refine Jx.load rfl 0 rfl rfl rfl ?_)
    (refine Jx.fieldAddr rfl rfl ?_)
    (refine Jx.load rfl 0 rfl rfl rfl ?_)
    (refine Jx.fieldAddr rfl rfl ?_)
    (refine Jx.load rfl 0 rfl rfl rfl ?_)
    (refine J.qs (Qs.buildL (fun n : Int => int n) 0 [h.height, h.epoch, h.view] (fun _ => .val rfl) rfl rfl rfl (by decide) (by decide) rfl) rfl ?_)
    (refine Jx.lenSl rfl rfl ?_)
    (refine Jx.move rfl rfl ?_)
    (refine J.nil ?_)
    (refine N.seq ?_)
    (refine W.block ?_)
    (refine id ?_; rotate_left))
    refine W.loop (α := Nat) (fun i => [(25, int (i : Int)), (24, int (3 : Nat)), (23, isl [h.height, h.epoch, h.view]), (5, str (flT nB ([h.height, h.epoch, h.view].take i))), (1, ptr b')]) (fun _ => [.obj b' tHd (hdC h)]) (fun i => i ≤ 3) (fun i => 3 - i) 0 (by simp) rfl ⟨ref0 rfl, ref0 rfl, ref0 rfl, ref0 rfl, ref0 rfl, trivial⟩ ?_
    intro i hi
    by_cases h1 : i < 3
    · have hg : [h.height, h.epoch, h.view].getD i 0 ≤ 1048576 ∧ 0 ≤ [h.height, h.epoch, h.view].getD i 0 := by
        match i, h1 with
        | 0, _ => exact ⟨f1.2, f1.1⟩
        | 1, _ => exact ⟨f2.2, f2.1⟩
        | 2, _ => exact ⟨f3.2, f3.1⟩
      have h1' : i < [h.height, h.epoch, h.view].length := h1
      have c1 := Num_ok ([h.height, h.epoch, h.view].getD i 0) (by omega)
      rw [numR_pos hg.2] at c1
      have hst := flT_take nB 0 [h.height, h.epoch, h.view] i h1
      have hlen : (flT nB ([h.height, h.epoch, h.view].take i)).length ≤ 27 := by
        have := flT_len (f := nB) (k := 9) (l := [h.height, h.epoch, h.view].take i) (fun n hn => by
          have hn := List.mem_of_mem_take hn
          simp only [List.mem_cons, List.not_mem_nil, or_false] at hn
          rcases hn with rfl | rfl | rfl
          · exact numBs f1.2
          · exact numBs f2.2
          · exact numBs f3.2)
        have h3 : ([h.height, h.epoch, h.view].take i).length ≤ 3 := by rw [List.length_take]; simp only [List.length_cons, List.length_nil]; omega
        omega
      have hnl := numBs hg.1
      have hnn : nB ([h.height, h.epoch, h.view].getD i 0) = numB ([h.height, h.epoch, h.view].getD i 0).toNat := rfl
      rw [hnn] at hst
      generalize numB ([h.height, h.epoch, h.view].getD i 0).toNat = nb at *
      generalize flT nB ([h.height, h.epoch, h.view].take i) = acc at *
      focus (
    (refine W.seq ?_)
    (refine W.region ?_)
    (refine Jx.lssI rfl rfl rfl ?_)
    (refine J.nil ?_)
    (refine N.seq ?_)
    (refine W.seq ?_)
    (refine W.cT rfl ?_)
    (refine W.skip ?_)
    (refine N.seq ?_)
    (refine W.seq ?_)
    (refine W.block ?_)
    (refine W.seq ?_)
    (refine W.region ?_)
    (refine Jx.indexEl rfl rfl (by assumption) rfl rfl ?_)
    (refine Jx.loadPP rfl rfl ?_)
    (refine Jx.assign rfl rfl ?_)
    (refine J.nil ?_)
    (refine N.seq ?_)
    (refine W.seq ?_)
    (refine W.region ?_)
    (refine Jx.move rfl rfl ?_)
    (refine J.call (c1) rfl (evs_args rfl) rfl ?_; rintro _ _ ⟨rfl, rfl⟩; simp only [List.cons_append, List.nil_append, List.append_nil])
    (refine Jx.move rfl rfl ?_)
    (refine Jx.extract rfl rfl rfl ?_)
    (refine Jx.extract rfl rfl rfl ?_)
    (refine Jx.assign rfl rfl ?_)
    (refine Jx.assign rfl rfl ?_)
    (refine J.nil ?_)
    (refine N.seq ?_)
    (refine W.region ?_)
    (refine Jx.move rfl rfl ?_)
    (refine Jx.move rfl rfl ?_)
    (refine Jx.cat rfl rfl (by first | omega | (simp only [List.length_append, List.length_cons, List.length_nil]; omega)) rfl ?_)
    (refine Jx.assign rfl rfl ?_)
    (refine J.nil ?_)
    (refine N.seq ?_)
    (refine W.region ?_)
    (refine Jx.add64 rfl rfl (by omega) rfl ?_)
    (refine Jx.move rfl rfl ?_)
    (refine J.nil ?_)
    (refine id ?_; rotate_left))
      exact N.round (i + 1) h1 (by omega) rfl ⟨ref0 rfl, ref0 rfl, ref0 rfl, ⟨_, rfl, Sub.of_eq (by rw [hst])⟩, ref0 rfl, trivial⟩
    · have hi3 : i = 3 := by omega
      subst hi3
      have hd : flT nB ([h.height, h.epoch, h.view].take 3) = numB h.height.toNat ++ (numB h.epoch.toNat ++ (numB h.view.toNat ++ [])) := rfl
      rw [hd]
      have n1 := numBs f1.2; have n2 := numBs f2.2; have n3 := numBs f3.2
      have p1 := f.parent32; have p2 := f.state32; have p3 := f.receipts32
      have t1 := textB_len p1 (by omega); have t2 := textB_len p2 (by omega); have t3 := textB_len p3 (by omega)
      have tf := flag_len h.last
      have c2 := flag_ok h.last
      have c3 := text_ok h.parent (by omega)
      have c4 := text_ok h.state (by omega)
      have c5 := text_ok h.receipts (by omega)
      have x1 := f.txs; have x2 := f.members; have x3 := f.next
      have hel := flS_len f
      have he : encHd h = numB h.height.toNat ++ (numB h.epoch.toNat ++ (numB h.view.toNat ++ (flagB h.last ++ (textB h.parent ++ (textB h.state ++ (textB h.receipts ++ (h.txs ++ (h.members ++ (h.next ++ flT idB h.skips))))))))) := rfl
      rw [he]
      have hsk : ∀ i, (flT idB (h.skips.take i)).length ≤ 640 := fun i => by
        have h2 := flT_len (f := idB) (k := 32) (l := h.skips.take i) fun s hs => by rw [idB, f.each s (List.mem_of_mem_take hs)]; exact Nat.le_refl _
        have := f.skips20
        have h3 : (h.skips.take i).length ≤ 20 := by rw [List.length_take]; omega
        omega
      generalize numB h.height.toNat = nb1 at *
      generalize numB h.epoch.toNat = nb2 at *
      generalize numB h.view.toNat = nb3 at *
      generalize flagB h.last = fb at *
      generalize textB h.parent = tp at *
      generalize textB h.state = ts at *
      generalize textB h.receipts = tr at *
      generalize hX : nb1 ++ (nb2 ++ (nb3 ++ [])) ++ (fb ++ tp ++ ts ++ tr ++ h.txs ++ h.members ++ h.next) = X at *
      have hXl : X.length ≤ 300 := by rw [← hX]; simp only [List.length_append, List.length_nil]; omega
      focus (
    (refine W.seq ?_)
    (refine W.region ?_)
    (refine Jx.lssI rfl rfl rfl ?_)
    (refine J.nil ?_)
    (refine N.seq ?_)
    (refine W.seq ?_)
    (refine W.cF rfl ?_)
    (refine W.exit ?_)
    (refine N.seq ?_)
    (refine W.seq ?_)
    (refine W.draw follows ?_)
    (refine JD.calm rfl (by decide +kernel) ?_)
    (refine Cx.move rfl rfl ?_)
    (refine Cx.fieldAddr rfl rfl ?_)
    (refine Cx.load rfl 0 rfl rfl rfl ?_)
    (refine SegC.q (Qs.call (Lc := []) (c2) (fun s L' h => h) (List.Perm.refl _) (evs_args rfl)) rfl ?_)
    (refine Cx.fieldAddr rfl rfl ?_)
    (refine Cx.load rfl 0 rfl rfl rfl ?_)
    (refine SegC.q (Qs.call (Lc := []) (c3) (fun s L' h => h) (List.Perm.refl _) (evs_args rfl)) rfl ?_)
    (refine Cx.cat rfl rfl (by first | omega | (simp only [List.length_append, List.length_cons, List.length_nil]; omega)) rfl ?_)
    (refine Cx.fieldAddr rfl rfl ?_)
    (refine Cx.load rfl 0 rfl rfl rfl ?_)
    (refine SegC.q (Qs.call (Lc := []) (c4) (fun s L' h => h) (List.Perm.refl _) (evs_args rfl)) rfl ?_)
    (refine Cx.cat rfl rfl (by first | omega | (simp only [List.length_append, List.length_cons, List.length_nil]; omega)) rfl ?_)
    (refine Cx.fieldAddr rfl rfl ?_)
    (refine Cx.load rfl 0 rfl rfl rfl ?_)
    (refine SegC.q (Qs.call (Lc := []) (c5) (fun s L' h => h) (List.Perm.refl _) (evs_args rfl)) rfl ?_)
    (refine Cx.cat rfl rfl (by first | omega | (simp only [List.length_append, List.length_cons, List.length_nil]; omega)) rfl ?_)
    (refine Cx.fieldAddr rfl rfl ?_)
    (refine Cx.load rfl 0 rfl rfl rfl ?_)
    (refine Cx.cat rfl rfl (by first | omega | (simp only [List.length_append, List.length_cons, List.length_nil]; omega)) rfl ?_)
    (refine Cx.fieldAddr rfl rfl ?_)
    (refine Cx.load rfl 0 rfl rfl rfl ?_)
    (refine Cx.cat rfl rfl (by first | omega | (simp only [List.length_append, List.length_cons, List.length_nil]; omega)) rfl ?_)
    (refine Cx.fieldAddr rfl rfl ?_)
    (refine Cx.load rfl 0 rfl rfl rfl ?_)
    (refine Cx.cat rfl rfl (by first | omega | (simp only [List.length_append, List.length_cons, List.length_nil]; omega)) rfl ?_)
    (refine Cx.cat rfl rfl (by first | omega | (simp only [List.length_append, List.length_cons, List.length_nil]; omega)) rfl ?_)
    (refine Cx.assign rfl rfl ?_)
    (refine SegC.nil ?_)
    (refine N.seq ?_)
    (refine W.seq ?_)
    (refine W.seq ?_)
    (refine W.region ?_)
    (refine Jx.fieldAddr rfl rfl ?_)
    (refine Jx.load rfl 0 rfl rfl rfl ?_)
    (refine Jx.lenSl rfl rfl ?_)
    (refine Jx.move rfl rfl ?_)
    (refine J.nil ?_)
    (refine N.seq ?_)
    (refine W.block ?_)
    (refine id ?_; rotate_left))
      refine W.loop (α := Nat) (fun i => [(67, int (i : Int)), (66, int h.skips.length), (65, ssl h.skips), (5, str (X ++ flT idB (h.skips.take i)))]) (fun _ => [.obj b' tHd (hdC h)]) (fun i => i ≤ h.skips.length) (fun i => h.skips.length - i) 0 (by simp) rfl ⟨ref0 rfl, ref0 rfl, ref0 rfl, ⟨_, rfl, Sub.of_eq (by rw [hX]; simp [flT])⟩, trivial⟩ ?_
      intro i hi
      by_cases h2 : i < h.skips.length
      · have hst := flT_take idB [] h.skips i h2
        have hsi : (h.skips.getD i []).length = 32 := f.each _ (getD_mem h2)
        have hki := hsk i
        have hst2 : X ++ flT idB (h.skips.take i) ++ h.skips.getD i [] = X ++ flT idB (h.skips.take (i + 1)) := by rw [← hst, List.append_assoc]; rfl
        generalize flT idB (h.skips.take i) = acc at *
        focus (
    (refine W.seq ?_)
    (refine W.region ?_)
    (refine Jx.lssI rfl rfl rfl ?_)
    (refine J.nil ?_)
    (refine N.seq ?_)
    (refine W.seq ?_)
    (refine W.cT rfl ?_)
    (refine W.skip ?_)
    (refine N.seq ?_)
    (refine W.seq ?_)
    (refine W.block ?_)
    (refine W.seq ?_)
    (refine W.region ?_)
    (refine Jx.indexEl rfl rfl (by assumption) rfl rfl ?_)
    (refine Jx.loadPP rfl rfl ?_)
    (refine Jx.assign rfl rfl ?_)
    (refine J.nil ?_)
    (refine N.seq ?_)
    (refine W.region ?_)
    (refine Jx.move rfl rfl ?_)
    (refine Jx.move rfl rfl ?_)
    (refine Jx.cat rfl rfl (by first | omega | (simp only [List.length_append, List.length_cons, List.length_nil]; omega)) rfl ?_)
    (refine Jx.assign rfl rfl ?_)
    (refine J.nil ?_)
    (refine N.seq ?_)
    (refine W.region ?_)
    (refine Jx.add64 rfl rfl (by omega) rfl ?_)
    (refine Jx.move rfl rfl ?_)
    (refine J.nil ?_)
    (refine id ?_; rotate_left))
        exact N.round (i + 1) h2 (by omega) rfl ⟨ref0 rfl, ref0 rfl, ref0 rfl, ⟨_, rfl, Sub.of_eq (by rw [hst2])⟩, trivial⟩
      · rw [List.take_of_length_le (by omega)]
        focus (
    (refine W.seq ?_)
    (refine W.region ?_)
    (refine Jx.lssI rfl rfl rfl ?_)
    (refine J.nil ?_)
    (refine N.seq ?_)
    (refine W.seq ?_)
    (refine W.cF rfl ?_)
    (refine W.exit ?_)
    (refine N.seq ?_)
    (refine W.seq ?_)
    (refine W.region ?_)
    (refine Jx.move rfl rfl ?_)
    (refine Jx.assign rfl rfl ?_)
    (refine Jx.assign rfl rfl ?_)
    (refine J.nil ?_)
    (refine N.seq ?_)
    (refine W.ret ?_)
    (refine id ?_; rotate_left))
        refine N.retD (rs := [.tmp 2, .tmp 3]) (L1 := []) rfl (.tmp rfl (.tmp rfl .nil)) (List.nil_sublist _) ⟨?_, rfl⟩
        rw [← hX]
        simp only [oneOr, List.append_assoc, List.append_nil]
        rfl
end Go.Proofs.YtlfdhkahiaammaaDoor
namespace Go.Proofs.YtlfdhkahiaammaaDoor
open Go Go.Sse
set_option linter.unusedVariables false
set_option linter.unusedSimpArgs false
set_option maxRecDepth 10000
set_option maxHeartbeats 2000000 in
theorem sameH_ok (x y : Hd) (hb : x.skips.length ≤ 1048576) : FnC Tryd.prog 16 [.agg (hdC x), .agg (hdC y)] [] (fun v L => v = bool (decide (x = y)) ∧ L = []) := by
  have c := same_ok x.skips y.skips hb
  refine FnC.intro Tryd.func16 rfl Tryd.ntmps16 rfl fun Z w0 hG => ?_
  focus (
    (refine W.seq ?_)
    (refine W.region ?_)
    (refine J.boxAg rfl rfl ?_; intro b')
    (refine J.boxAg rfl rfl ?_; intro b')
    (refine Jx.assign rfl rfl ?_)
    (refine J.nil ?_)
    (refine N.seq ?_)
    (refine W.seq ?_)
    (refine W.seq ?_)
    (refine W.region ?_)
    (refine Jx.fieldAddr rfl rfl ?_)
    (refine Jx.load rfl 1 rfl rfl rfl ?_)
    (refine Jx.fieldAddr rfl rfl ?_)
    (refine Jx.load rfl 0 rfl rfl rfl ?_)
    (refine Jx.neqI rfl rfl rfl ?_)
    (refine Jx.move rfl rfl ?_)
    (refine' J.guardOr rfl rfl rfl rfl rfl rfl rfl rfl (fun _ => ?_) ?_; rotate_left)
    (refine J.gY rfl rfl rfl ?_)
    (refine Jx.fieldAddr rfl rfl ?_)
    (refine J.gY rfl rfl rfl ?_)
    (refine Jx.load rfl 1 rfl rfl rfl ?_)
    (refine J.gY rfl rfl rfl ?_)
    (refine Jx.fieldAddr rfl rfl ?_)
    (refine J.gY rfl rfl rfl ?_)
    (refine Jx.load rfl 0 rfl rfl rfl ?_)
    (refine J.gY rfl rfl rfl ?_)
    (refine Jx.neqI rfl rfl rfl ?_)
    (refine J.nil ?_)
    (refine N.joinedN rfl rfl rfl)
    (refine Jx.move rfl rfl ?_)
    (refine' J.guardOr rfl rfl rfl rfl rfl rfl rfl rfl (fun _ => ?_) ?_; rotate_left)
    (refine J.gY rfl rfl rfl ?_)
    (refine Jx.fieldAddr rfl rfl ?_)
    (refine J.gY rfl rfl rfl ?_)
    (refine Jx.load rfl 1 rfl rfl rfl ?_)
    (refine J.gY rfl rfl rfl ?_)
    (refine Jx.fieldAddr rfl rfl ?_)
    (refine J.gY rfl rfl rfl ?_)
    (refine Jx.load rfl 0 rfl rfl rfl ?_)
    (refine J.gY rfl rfl rfl ?_)
    (refine Jx.neqI rfl rfl rfl ?_)
    (refine J.nil ?_)
    (refine N.joinedN rfl rfl rfl)
    (refine Jx.move rfl rfl ?_)
    (refine' J.guardOr rfl rfl rfl rfl rfl rfl rfl rfl (fun _ => ?_) ?_; rotate_left)
    (refine J.gY rfl rfl rfl ?_)
    (refine Jx.fieldAddr rfl rfl ?_)
    (refine J.gY rfl rfl rfl ?_)
    (refine Jx.load rfl 1 rfl rfl rfl ?_)
    (refine J.gY rfl rfl rfl ?_)
    (refine Jx.fieldAddr rfl rfl ?_)
    (refine J.gY rfl rfl rfl ?_)
    (refine Jx.load rfl 0 rfl rfl rfl ?_)
    (refine J.gY rfl rfl rfl ?_)
    (refine Jx.neqB rfl rfl rfl ?_)
    (refine J.nil ?_)
    (refine N.joinedN rfl rfl rfl)
    (refine Jx.move rfl rfl ?_)
    (refine' J.guardOr rfl rfl rfl rfl rfl rfl rfl rfl (fun _ => ?_) ?_; rotate_left)
    (refine J.gY rfl rfl rfl ?_)
    (refine Jx.fieldAddr rfl rfl ?_)
    (refine J.gY rfl rfl rfl ?_)
    (refine Jx.load rfl 1 rfl rfl rfl ?_)
    (refine J.gY rfl rfl rfl ?_)
    (refine Jx.fieldAddr rfl rfl ?_)
    (refine J.gY rfl rfl rfl ?_)
    (refine Jx.load rfl 0 rfl rfl rfl ?_)
    (refine J.gY rfl rfl rfl ?_)
    (refine Jx.neqS rfl rfl rfl ?_)
    (refine J.nil ?_)
    (refine N.joinedN rfl rfl rfl)
    (refine Jx.move rfl rfl ?_)
    (refine' J.guardOr rfl rfl rfl rfl rfl rfl rfl rfl (fun _ => ?_) ?_; rotate_left)
    (refine J.gY rfl rfl rfl ?_)
    (refine Jx.fieldAddr rfl rfl ?_)
    (refine J.gY rfl rfl rfl ?_)
    (refine Jx.load rfl 1 rfl rfl rfl ?_)
    (refine J.gY rfl rfl rfl ?_)
    (refine Jx.fieldAddr rfl rfl ?_)
    (refine J.gY rfl rfl rfl ?_)
    (refine Jx.load rfl 0 rfl rfl rfl ?_)
    (refine J.gY rfl rfl rfl ?_)
    (refine Jx.neqS rfl rfl rfl ?_)
    (refine J.nil ?_)
    (refine N.joinedN rfl rfl rfl)
    (refine J.nil ?_)
    (refine N.seq ?_)
    (refine id ?_; rotate_left))
  refine W.cond rfl (fun hb => ?_) (fun hb => ?_)
  · have hne : x ≠ y := fun e => by subst e; simp at hb
    rw [decide_eq_false hne]
    focus (
    (refine W.seq ?_)
    (refine W.region ?_)
    (refine Jx.assign rfl rfl ?_)
    (refine J.nil ?_)
    (refine N.seq ?_)
    (refine W.ret ?_)
    (refine N.noGotoRet ?_)
    (refine id ?_; rotate_left))
    exact N.retD (rs := [.tmp 4]) (L1 := []) rfl (.tmp rfl .nil) (List.nil_sublist _) ⟨rfl, rfl⟩
  · simp only [Bool.or_eq_false_iff, decide_eq_false_iff_not, Classical.not_not, Bool.not_eq_false', beq_iff_eq] at hb
    obtain ⟨⟨⟨⟨⟨e1, e2⟩, e3⟩, e4⟩, e5⟩, e6⟩ := hb
    focus (
    (refine W.skip ?_)
    (refine N.seq ?_)
    (refine W.seq ?_)
    (refine W.region ?_)
    (refine Jx.fieldAddr rfl rfl ?_)
    (refine Jx.load rfl 1 rfl rfl rfl ?_)
    (refine Jx.fieldAddr rfl rfl ?_)
    (refine Jx.load rfl 0 rfl rfl rfl ?_)
    (refine Jx.eqlS rfl rfl rfl ?_)
    (refine Jx.move rfl rfl ?_)
    (refine' J.guardAnd rfl rfl rfl rfl rfl rfl rfl rfl (fun _ => ?_) ?_; rotate_left)
    (refine J.gY rfl rfl rfl ?_)
    (refine Jx.fieldAddr rfl rfl ?_)
    (refine J.gY rfl rfl rfl ?_)
    (refine Jx.load rfl 1 rfl rfl rfl ?_)
    (refine J.gY rfl rfl rfl ?_)
    (refine Jx.fieldAddr rfl rfl ?_)
    (refine J.gY rfl rfl rfl ?_)
    (refine Jx.load rfl 0 rfl rfl rfl ?_)
    (refine J.gY rfl rfl rfl ?_)
    (refine Jx.eqlS rfl rfl rfl ?_)
    (refine J.nil ?_)
    (refine N.joinedN rfl rfl rfl)
    (refine Jx.move rfl rfl ?_)
    (refine' J.guardAnd rfl rfl rfl rfl rfl rfl rfl rfl (fun _ => ?_) ?_; rotate_left)
    (refine J.gY rfl rfl rfl ?_)
    (refine Jx.fieldAddr rfl rfl ?_)
    (refine J.gY rfl rfl rfl ?_)
    (refine Jx.load rfl 1 rfl rfl rfl ?_)
    (refine J.gY rfl rfl rfl ?_)
    (refine Jx.fieldAddr rfl rfl ?_)
    (refine J.gY rfl rfl rfl ?_)
    (refine Jx.load rfl 0 rfl rfl rfl ?_)
    (refine J.gY rfl rfl rfl ?_)
    (refine Jx.eqlS rfl rfl rfl ?_)
    (refine J.nil ?_)
    (refine N.joinedN rfl rfl rfl)
    (refine Jx.move rfl rfl ?_)
    (refine' J.guardAnd rfl rfl rfl rfl rfl rfl rfl rfl (fun _ => ?_) ?_; rotate_left)
    (refine J.gY rfl rfl rfl ?_)
    (refine Jx.fieldAddr rfl rfl ?_)
    (refine J.gY rfl rfl rfl ?_)
    (refine Jx.load rfl 1 rfl rfl rfl ?_)
    (refine J.gY rfl rfl rfl ?_)
    (refine Jx.fieldAddr rfl rfl ?_)
    (refine J.gY rfl rfl rfl ?_)
    (refine Jx.load rfl 0 rfl rfl rfl ?_)
    (refine J.gY rfl rfl rfl ?_)
    (refine Jx.eqlS rfl rfl rfl ?_)
    (refine J.nil ?_)
    (refine N.joinedN rfl rfl rfl)
    (refine Jx.move rfl rfl ?_)
    (refine' J.guardAnd rfl rfl rfl rfl rfl rfl rfl rfl (fun _ => ?_) ?_; rotate_left)
    (refine J.gY rfl rfl rfl ?_)
    (refine Jx.fieldAddr rfl rfl ?_)
    (refine J.gY rfl rfl rfl ?_)
    (refine Jx.load rfl 1 rfl rfl rfl ?_)
    (refine J.gY rfl rfl rfl ?_)
    (refine Jx.fieldAddr rfl rfl ?_)
    (refine J.gY rfl rfl rfl ?_)
    (refine Jx.load rfl 0 rfl rfl rfl ?_)
    (refine J.gY rfl rfl rfl ?_)
    (refine J.call (c) rfl (evs_args rfl) rfl ?_; rintro _ _ ⟨rfl, rfl⟩; simp only [List.cons_append, List.nil_append, List.append_nil])
    (refine J.nil ?_)
    (refine N.joinedN rfl rfl rfl)
    (refine Jx.assign rfl rfl ?_)
    (refine J.nil ?_)
    (refine N.seq ?_)
    (refine W.ret ?_)
    (refine id ?_; rotate_left))
    refine N.retD (rs := [.tmp 4]) (L1 := []) rfl (.tmp rfl .nil) (List.nil_sublist _) ⟨congrArg Sse.bool ?_, rfl⟩
    rw [Bool.eq_iff_iff]
    simp only [Bool.and_eq_true, decide_eq_true_eq]
    constructor
    · rintro ⟨⟨⟨⟨e7, e8⟩, e9⟩, e10⟩, e11⟩
      exact Hd.ext' e1 e2 e3 e4 e5 e6 e7 e8 e9 e10 e11
    · rintro rfl
      exact ⟨⟨⟨⟨rfl, rfl⟩, rfl⟩, rfl⟩, rfl⟩
end Go.Proofs.YtlfdhkahiaammaaDoor
namespace Go.Sse
open Go Go.Sse
set_option linter.unusedVariables false
set_option linter.unusedSimpArgs false
section
variable {P : Program} {Γ : Ctx} {ops : Array Oper} {Q : Exit → Act → World → Prop} {F : List (Nat × SV)} {L : List Own} {rest : List Oper}
variable {dst : Option Tmp} {ty : TypeId} {pos : String} {aft : Array Edge} {g : Option (Nat × Bool)}
theorem Qs.buildAgs {α : Type} {t E sz by' len : Nat} {z : List Value} [ht : TSlice P t E] [hI : TInfo P E sz by' z] {parts : List (Nat × Operand)} (enc : α → List SV) (d : α) (l : List α) (ha : evs F (parts.map (·.2)) = some (l.map fun a => .agg (enc a))) (hi : parts.map (·.1) = List.range' 0 parts.length)
    (hcs : ∀ a, (enc a).length = sz) (hl : l.length = len) (hz' : Nat.beq z.length sz = true) (h0 : 0 < len * sz) (hmax : len * sz ≤ 16777216) (hz1 : z.all (·.oneCell') = true) : Qs P Γ F L ⟨dst, .buildSlice t len parts.toArray, ty, pos, aft, g⟩ (.sl sz l.length (elOf enc d l)) := by
  have hz := Nat.eq_of_beq_eq_true hz'
  have hp := parts_of ha hi (fun s hs => by obtain ⟨a, _, rfl⟩ := List.mem_map.1 hs; exact .agg)
  refine (Qs.buildSlice (sz := sz) (z := z) hp (by simpa using hl) (fun s hs => by obtain ⟨a, _, rfl⟩ := List.mem_map.1 hs; exact hcs a) hz h0 hmax hz1).sub ?_
  subst hl
  refine Sub.slOf (l := l) rfl fun i hi => ?_
  simp only [List.getD_eq_getElem?_getD, List.getElem?_map, List.getElem?_eq_getElem hi, Option.map_some, Option.getD_some]
  rfl
theorem JP.callV [Gl P] [Globs P Γ] {l : List Oper} {S idx : List Nat} {G : List (Nat × SV)} {d f : Nat} [hT : TFunc P f] {t : Operand} {us vs : List Value} {xs : List Operand} {ts : Array TypeId} {args : List SV} {Lc Lr : List Own} {R : SV → List Own → Prop} (i : Nat) (ks S' idx' : List Nat)
    (hF : FnC P f (us.map .val ++ args ++ vs.map .val) Lc R) (hL : L = Lc ++ Lr) (hc : (okIdx l.toArray S idx && okStep l.toArray S idx i ks S' idx') = true)
    (hoi : l[i]? = some ⟨some d, .call { callee := .value t, args := xs.toArray, argTypes := ts }, ty, pos, aft, g⟩) (hre : SegC P Γ l.toArray L G (opsAt l idx) (Ag G idx.length)) (ht : ev (keep ks G) t = some (.val (.func (.func f) us.toArray vs.toArray))) (ha : Args (keep ks G) xs args) (hlt : Nat.blt d Γ.nt = true)
    (k : ∀ s Lc', R s Lc' → JP P Γ l.toArray Q S' idx' ((d, s) :: G) (Lc' ++ Lr)) : JP P Γ l.toArray Q S idx G L :=
  JP.do1 i ks S' idx' hc hoi hre (OpS.callV ht hF hL ha) hlt (by rintro s L' ⟨Lc', hR, rfl⟩; exact k s Lc' hR)
end
end Go.Sse
namespace Go.Proofs.YtlfdhkahiaammaaDoor
open Go Go.Sse
set_option linter.unusedVariables false
set_option linter.unusedSimpArgs false
set_option maxRecDepth 10000
abbrev tBk : Nat := 29
theorem agBk : TAg Tryd.prog tBk 14 := inferInstance
abbrev bkz : List SV := [int 0, int 0, int 0, bool false, str [], str [], str [], str [], str [], str [], .val (.slice none 0 0), .val (.slice none 0 0), str [], .val (.slice none 0 0)]
theorem bkz_sub : SubL bkz (bkC bk0) := .cons (.refl _) (.cons (.refl _) (.cons (.refl _) (.cons (.refl _) (.cons (.refl _) (.cons (.refl _) (.cons (.refl _) (.cons (.refl _) (.cons (.refl _) (.cons (.refl _) (.cons (Sub.nil 1 _) (.cons (Sub.nil 8 _) (.cons (.refl _) (.cons (Sub.nil 1 _) .nil)))))))))))))
theorem topB_spec {b : Bk} (h : topB b = true) : fineHd b.head = true ∧ 1 ≤ b.head.height ∧ fineAll b.txs = true ∧ rootT b.txs = b.head.txs := by
  simp only [topB, Bool.and_eq_true, decide_eq_true_eq] at h
  exact ⟨h.1.1.1, h.1.1.2, h.1.2, h.2⟩
theorem topB_bad {b : Bk} (h : topB b = false) (hb : (((decide (codeB (fineHd b.head) 190 ≠ 0) || decide (codeAll b.txs ≠ 0)) || decide (b.head.height = 0)) || decide (rootT b.txs ≠ b.head.txs)) = false) : False := by
  simp only [Bool.or_eq_false_iff, decide_eq_false_iff_not, Classical.not_not] at hb
  obtain ⟨⟨⟨h1, h2⟩, h3⟩, h4⟩ := hb
  have hf : fineHd b.head = true := by
    cases hf : fineHd b.head with
    | true => rfl
    | false => rw [hf] at h1; simp at h1
  have := ((fineHd_iff _).1 hf).height
  rw [topB, hf, decide_eq_true (by omega), (codeAll_zero _).1 h2, decide_eq_true h4] at h
  cases h
theorem fineBk_top {b : Bk} (h : topB b = false) : fineBk b = false := by rw [fineBk, h]; rfl
set_option maxHeartbeats 2000000 in
theorem bencode_ok (b : Bk) (hl : b.head.skips.length ≤ 1048576) : FnC Tryd.prog 12 [.agg (bkC b)] [] (fun v L => v = .tup [str (encO fineBk encBk b), int (codeB (fineBk b) 210)] ∧ L = []) := by
  have c1 := hencode_ok b.head hl
  have c2 := troot_ok b.txs
  have c3 := tencAll_ok b.txs
  have c4 := bbare_ok b.just
  have c5 := cencode_ok b.just
  refine FnC.intro Tryd.func12 rfl Tryd.ntmps12 rfl fun Z w0 hG => ?_
  unfold encO
  cases ht : topB b with
  | false =>
    rw [fineBk_top ht]
    focus (
    (refine W.seq ?_)
    (refine W.region ?_)
    (refine J.boxAg rfl rfl ?_; intro b')
    (refine Jx.assign rfl rfl ?_)
    (refine Jx.assign rfl rfl ?_)
    (refine J.nil ?_)
    (refine N.seq ?_)
    (refine W.seq ?_)
    (refine W.region ?_)
    (refine Jx.fieldAddr rfl rfl ?_)
    (refine Jx.loadAg rfl 0 rfl rfl rfl rfl ?_)
    (refine J.call (c1) rfl (evs_args rfl) rfl ?_; rintro _ _ ⟨rfl, rfl⟩; simp only [List.cons_append, List.nil_append, List.append_nil])
    (refine Jx.move rfl rfl ?_)
    (refine Jx.extract rfl rfl rfl ?_)
    (refine Jx.extract rfl rfl rfl ?_)
    (refine Jx.assign rfl rfl ?_)
    (refine Jx.assign rfl rfl ?_)
    (refine J.nil ?_)
    (refine N.seq ?_)
    (refine W.seq ?_)
    (refine W.region ?_)
    (refine Jx.fieldAddr rfl rfl ?_)
    (refine Jx.load rfl 0 rfl rfl rfl ?_)
    (refine J.call (c2) rfl (evs_args rfl) rfl ?_; rintro _ _ ⟨rfl, rfl⟩; simp only [List.cons_append, List.nil_append, List.append_nil])
    (refine Jx.move rfl rfl ?_)
    (refine Jx.extract rfl rfl rfl ?_)
    (refine Jx.extract rfl rfl rfl ?_)
    (refine Jx.assign rfl rfl ?_)
    (refine Jx.assign rfl rfl ?_)
    (refine J.nil ?_)
    (refine N.seq ?_)
    (refine W.seq ?_)
    (refine W.seq ?_)
    (refine W.region ?_)
    (refine Jx.move rfl rfl ?_)
    (refine Jx.neqI rfl rfl rfl ?_)
    (refine Jx.move rfl rfl ?_)
    (refine' J.guardOr rfl rfl rfl rfl rfl rfl rfl rfl (fun _ => ?_) ?_; rotate_left)
    (refine J.gY rfl rfl rfl ?_)
    (refine Jx.move rfl rfl ?_)
    (refine J.gY rfl rfl rfl ?_)
    (refine Jx.neqI rfl rfl rfl ?_)
    (refine J.nil ?_)
    (refine N.joinedN rfl rfl rfl)
    (refine Jx.move rfl rfl ?_)
    (refine' J.guardOr rfl rfl rfl rfl rfl rfl rfl rfl (fun _ => ?_) ?_; rotate_left)
    (refine J.gY rfl rfl rfl ?_)
    (refine Jx.fieldAddr rfl rfl ?_)
    (refine J.gY rfl rfl rfl ?_)
    (refine Jx.fieldAddr rfl rfl ?_)
    (refine J.gY rfl rfl rfl ?_)
    (refine Jx.load rfl 0 rfl rfl rfl ?_)
    (refine J.gY rfl rfl rfl ?_)
    (refine Jx.eqlI rfl rfl rfl ?_)
    (refine J.nil ?_)
    (refine N.joinedN rfl rfl rfl)
    (refine Jx.move rfl rfl ?_)
    (refine' J.guardOr rfl rfl rfl rfl rfl rfl rfl rfl (fun _ => ?_) ?_; rotate_left)
    (refine J.gY rfl rfl rfl ?_)
    (refine Jx.move rfl rfl ?_)
    (refine J.gY rfl rfl rfl ?_)
    (refine Jx.fieldAddr rfl rfl ?_)
    (refine J.gY rfl rfl rfl ?_)
    (refine Jx.fieldAddr rfl rfl ?_)
    (refine J.gY rfl rfl rfl ?_)
    (refine Jx.load rfl 0 rfl rfl rfl ?_)
    (refine J.gY rfl rfl rfl ?_)
    (refine Jx.neqS rfl rfl rfl ?_)
    (refine J.nil ?_)
    (refine N.joinedN rfl rfl rfl)
    (refine J.nil ?_)
    (refine N.seq ?_)
    (refine id ?_; rotate_left))
    refine W.cond rfl (fun hb => ?_) (fun hb => ?_)
    · focus (
    (refine W.seq ?_)
    (refine W.region ?_)
    (refine Jx.assign rfl rfl ?_)
    (refine Jx.assign rfl rfl ?_)
    (refine J.nil ?_)
    (refine N.seq ?_)
    (refine W.ret ?_)
    (refine N.noGotoRet ?_)
    (refine id ?_; rotate_left))
      exact N.retD (rs := [.tmp 2, .tmp 3]) (L1 := []) rfl (.tmp rfl (.tmp rfl .nil)) (List.nil_sublist _) ⟨rfl, rfl⟩
    · exact (topB_bad ht hb).elim
  | true =>
    obtain ⟨t1, t2, t3, t4⟩ := topB_spec ht
    have hroot : ¬ rootT b.txs ≠ b.head.txs := fun h => h t4
    have l1 := encHd_len ((fineHd_iff _).1 t1)
    have l2 := encAll_len t3
    have c6 := text_ok (encHd b.head) (by omega)
    have c7 := text_ok (encAll b.txs) (by omega)
    have k1 := textB_len l1 (by omega); have k2 := textB_len l2 (by omega); have kf1 := flag_len true; have kf0 := flag_len false
    rw [encO, t1, if_pos rfl] at c1
    rw [(codeAll_zero _).2 t3] at c2
    rw [encO, t3, if_pos rfl, (codeAll_zero _).2 t3] at c3
    have e0 : encBk b = textB (encHd b.head) ++ (textB (encAll b.txs) ++ justE b.just) := rfl
    have e1 : fineBk b = justB b := by rw [fineBk, ht]; rfl
    rw [e0, e1]
    unfold justE justB
    clear e0 e1
    generalize rootT b.txs = rt at *
    generalize textB (encHd b.head) = th at *
    generalize textB (encAll b.txs) = ta at *
    generalize encHd b.head = eh at *
    generalize encAll b.txs = ea at *
    cases hbare : bareCt b.just with
    | true =>
      rw [hbare] at c4
      focus (
    (refine W.seq ?_)
    (refine W.region ?_)
    (refine J.boxAg rfl rfl ?_; intro b')
    (refine Jx.assign rfl rfl ?_)
    (refine Jx.assign rfl rfl ?_)
    (refine J.nil ?_)
    (refine N.seq ?_)
    (refine W.seq ?_)
    (refine W.region ?_)
    (refine Jx.fieldAddr rfl rfl ?_)
    (refine Jx.loadAg rfl 0 rfl rfl rfl rfl ?_)
    (refine J.call (c1) rfl (evs_args rfl) rfl ?_; rintro _ _ ⟨rfl, rfl⟩; simp only [List.cons_append, List.nil_append, List.append_nil])
    (refine Jx.move rfl rfl ?_)
    (refine Jx.extract rfl rfl rfl ?_)
    (refine Jx.extract rfl rfl rfl ?_)
    (refine Jx.assign rfl rfl ?_)
    (refine Jx.assign rfl rfl ?_)
    (refine J.nil ?_)
    (refine N.seq ?_)
    (refine W.seq ?_)
    (refine W.region ?_)
    (refine Jx.fieldAddr rfl rfl ?_)
    (refine Jx.load rfl 0 rfl rfl rfl ?_)
    (refine J.call (c2) rfl (evs_args rfl) rfl ?_; rintro _ _ ⟨rfl, rfl⟩; simp only [List.cons_append, List.nil_append, List.append_nil])
    (refine Jx.move rfl rfl ?_)
    (refine Jx.extract rfl rfl rfl ?_)
    (refine Jx.extract rfl rfl rfl ?_)
    (refine Jx.assign rfl rfl ?_)
    (refine Jx.assign rfl rfl ?_)
    (refine J.nil ?_)
    (refine N.seq ?_)
    (refine W.seq ?_)
    (refine W.seq ?_)
    (refine W.region ?_)
    (refine Jx.move rfl rfl ?_)
    (refine Jx.neqI rfl rfl rfl ?_)
    (refine Jx.move rfl rfl ?_)
    (refine J.gY rfl rfl rfl ?_)
    (refine Jx.move rfl rfl ?_)
    (refine J.gY rfl rfl rfl ?_)
    (refine Jx.neqI rfl rfl rfl ?_)
    (refine Jx.pF rfl rfl rfl ?_)
    (refine Jx.move rfl rfl ?_)
    (refine J.gY rfl rfl rfl ?_)
    (refine Jx.fieldAddr rfl rfl ?_)
    (refine J.gY rfl rfl rfl ?_)
    (refine Jx.fieldAddr rfl rfl ?_)
    (refine J.gY rfl rfl rfl ?_)
    (refine Jx.load rfl 0 rfl rfl rfl ?_)
    (refine J.gY rfl rfl rfl ?_)
    (refine Jx.eqlI rfl rfl rfl ?_)
    (refine Jx.pF rfl rfl rfl ?_)
    (refine Jx.move rfl rfl ?_)
    (refine J.gY rfl rfl rfl ?_)
    (refine Jx.move rfl rfl ?_)
    (refine J.gY rfl rfl rfl ?_)
    (refine Jx.fieldAddr rfl rfl ?_)
    (refine J.gY rfl rfl rfl ?_)
    (refine Jx.fieldAddr rfl rfl ?_)
    (refine J.gY rfl rfl rfl ?_)
    (refine Jx.load rfl 0 rfl rfl rfl ?_)
    (refine J.gY rfl rfl rfl ?_)
    (refine Jx.neqS rfl rfl rfl ?_)
    (refine Jx.pF rfl rfl rfl ?_)
    (refine J.nil ?_)
    (refine N.seq ?_)
    (refine W.cF rfl ?_)
    (refine W.skip ?_)
    (refine N.seq ?_)
    (refine W.seq ?_)
    (refine W.region ?_)
    (refine Jx.fieldAddr rfl rfl ?_)
    (refine Jx.load rfl 0 rfl rfl rfl ?_)
    (refine J.call (c3) rfl (evs_args rfl) rfl ?_; rintro _ _ ⟨rfl, rfl⟩; simp only [List.cons_append, List.nil_append, List.append_nil])
    (refine Jx.move rfl rfl ?_)
    (refine Jx.extract rfl rfl rfl ?_)
    (refine Jx.extract rfl rfl rfl ?_)
    (refine Jx.assign rfl rfl ?_)
    (refine Jx.assign rfl rfl ?_)
    (refine J.nil ?_)
    (refine N.seq ?_)
    (refine W.seq ?_)
    (refine W.region ?_)
    (refine Jx.move rfl rfl ?_)
    (refine J.call (c6) rfl (evs_args rfl) rfl ?_; rintro _ _ ⟨rfl, rfl⟩; simp only [List.cons_append, List.nil_append, List.append_nil])
    (refine Jx.move rfl rfl ?_)
    (refine J.call (c7) rfl (evs_args rfl) rfl ?_; rintro _ _ ⟨rfl, rfl⟩; simp only [List.cons_append, List.nil_append, List.append_nil])
    (refine Jx.cat rfl rfl (by first | omega | (simp only [List.length_append, List.length_cons, List.length_nil]; omega)) rfl ?_)
    (refine Jx.assign rfl rfl ?_)
    (refine J.nil ?_)
    (refine N.seq ?_)
    (refine W.seq ?_)
    (refine W.seq ?_)
    (refine W.region ?_)
    (refine Jx.fieldAddr rfl rfl ?_)
    (refine Jx.loadAg rfl 0 rfl rfl rfl rfl ?_)
    (refine J.call (c4) rfl (evs_args rfl) rfl ?_; rintro _ _ ⟨rfl, rfl⟩; simp only [List.cons_append, List.nil_append, List.append_nil])
    (refine J.nil ?_)
    (refine N.seq ?_)
    (refine W.cT rfl ?_)
    (refine W.seq ?_)
    (refine W.region ?_)
    (refine Jx.move rfl rfl ?_)
    (refine J.call ((flag_ok false)) rfl (evs_args rfl) rfl ?_; rintro _ _ ⟨rfl, rfl⟩; simp only [List.cons_append, List.nil_append, List.append_nil])
    (refine Jx.cat rfl rfl (by first | omega | (simp only [List.length_append, List.length_cons, List.length_nil]; omega)) rfl ?_)
    (refine Jx.assign rfl rfl ?_)
    (refine Jx.assign rfl rfl ?_)
    (refine J.nil ?_)
    (refine N.seq ?_)
    (refine W.ret ?_)
    (refine N.noGotoRet ?_)
    (refine id ?_; rotate_left))
      exact N.retD (rs := [.tmp 2, .tmp 3]) (L1 := []) rfl (.tmp rfl (.tmp rfl .nil)) (List.nil_sublist _) ⟨by simp [oneOr], rfl⟩
    | false =>
      rw [hbare] at c4
      cases hj : fineCt b.just with
      | false =>
        rw [hj] at c5
        focus (
    (refine W.seq ?_)
    (refine W.region ?_)
    (refine J.boxAg rfl rfl ?_; intro b')
    (refine Jx.assign rfl rfl ?_)
    (refine Jx.assign rfl rfl ?_)
    (refine J.nil ?_)
    (refine N.seq ?_)
    (refine W.seq ?_)
    (refine W.region ?_)
    (refine Jx.fieldAddr rfl rfl ?_)
    (refine Jx.loadAg rfl 0 rfl rfl rfl rfl ?_)
    (refine J.call (c1) rfl (evs_args rfl) rfl ?_; rintro _ _ ⟨rfl, rfl⟩; simp only [List.cons_append, List.nil_append, List.append_nil])
    (refine Jx.move rfl rfl ?_)
    (refine Jx.extract rfl rfl rfl ?_)
    (refine Jx.extract rfl rfl rfl ?_)
    (refine Jx.assign rfl rfl ?_)
    (refine Jx.assign rfl rfl ?_)
    (refine J.nil ?_)
    (refine N.seq ?_)
    (refine W.seq ?_)
    (refine W.region ?_)
    (refine Jx.fieldAddr rfl rfl ?_)
    (refine Jx.load rfl 0 rfl rfl rfl ?_)
    (refine J.call (c2) rfl (evs_args rfl) rfl ?_; rintro _ _ ⟨rfl, rfl⟩; simp only [List.cons_append, List.nil_append, List.append_nil])
    (refine Jx.move rfl rfl ?_)
    (refine Jx.extract rfl rfl rfl ?_)
    (refine Jx.extract rfl rfl rfl ?_)
    (refine Jx.assign rfl rfl ?_)
    (refine Jx.assign rfl rfl ?_)
    (refine J.nil ?_)
    (refine N.seq ?_)
    (refine W.seq ?_)
    (refine W.seq ?_)
    (refine W.region ?_)
    (refine Jx.move rfl rfl ?_)
    (refine Jx.neqI rfl rfl rfl ?_)
    (refine Jx.move rfl rfl ?_)
    (refine J.gY rfl rfl rfl ?_)
    (refine Jx.move rfl rfl ?_)
    (refine J.gY rfl rfl rfl ?_)
    (refine Jx.neqI rfl rfl rfl ?_)
    (refine Jx.pF rfl rfl rfl ?_)
    (refine Jx.move rfl rfl ?_)
    (refine J.gY rfl rfl rfl ?_)
    (refine Jx.fieldAddr rfl rfl ?_)
    (refine J.gY rfl rfl rfl ?_)
    (refine Jx.fieldAddr rfl rfl ?_)
    (refine J.gY rfl rfl rfl ?_)
    (refine Jx.load rfl 0 rfl rfl rfl ?_)
    (refine J.gY rfl rfl rfl ?_)
    (refine Jx.eqlI rfl rfl rfl ?_)
    (refine Jx.pF rfl rfl rfl ?_)
    (refine Jx.move rfl rfl ?_)
    (refine J.gY rfl rfl rfl ?_)
    (refine Jx.move rfl rfl ?_)
    (refine J.gY rfl rfl rfl ?_)
    (refine Jx.fieldAddr rfl rfl ?_)
    (refine J.gY rfl rfl rfl ?_)
    (refine Jx.fieldAddr rfl rfl ?_)
    (refine J.gY rfl rfl rfl ?_)
    (refine Jx.load rfl 0 rfl rfl rfl ?_)
    (refine J.gY rfl rfl rfl ?_)
    (refine Jx.neqS rfl rfl rfl ?_)
    (refine Jx.pF rfl rfl rfl ?_)
    (refine J.nil ?_)
    (refine N.seq ?_)
    (refine W.cF rfl ?_)
    (refine W.skip ?_)
    (refine N.seq ?_)
    (refine W.seq ?_)
    (refine W.region ?_)
    (refine Jx.fieldAddr rfl rfl ?_)
    (refine Jx.load rfl 0 rfl rfl rfl ?_)
    (refine J.call (c3) rfl (evs_args rfl) rfl ?_; rintro _ _ ⟨rfl, rfl⟩; simp only [List.cons_append, List.nil_append, List.append_nil])
    (refine Jx.move rfl rfl ?_)
    (refine Jx.extract rfl rfl rfl ?_)
    (refine Jx.extract rfl rfl rfl ?_)
    (refine Jx.assign rfl rfl ?_)
    (refine Jx.assign rfl rfl ?_)
    (refine J.nil ?_)
    (refine N.seq ?_)
    (refine W.seq ?_)
    (refine W.region ?_)
    (refine Jx.move rfl rfl ?_)
    (refine J.call (c6) rfl (evs_args rfl) rfl ?_; rintro _ _ ⟨rfl, rfl⟩; simp only [List.cons_append, List.nil_append, List.append_nil])
    (refine Jx.move rfl rfl ?_)
    (refine J.call (c7) rfl (evs_args rfl) rfl ?_; rintro _ _ ⟨rfl, rfl⟩; simp only [List.cons_append, List.nil_append, List.append_nil])
    (refine Jx.cat rfl rfl (by first | omega | (simp only [List.length_append, List.length_cons, List.length_nil]; omega)) rfl ?_)
    (refine Jx.assign rfl rfl ?_)
    (refine J.nil ?_)
    (refine N.seq ?_)
    (refine W.seq ?_)
    (refine W.seq ?_)
    (refine W.region ?_)
    (refine Jx.fieldAddr rfl rfl ?_)
    (refine Jx.loadAg rfl 0 rfl rfl rfl rfl ?_)
    (refine J.call (c4) rfl (evs_args rfl) rfl ?_; rintro _ _ ⟨rfl, rfl⟩; simp only [List.cons_append, List.nil_append, List.append_nil])
    (refine J.nil ?_)
    (refine N.seq ?_)
    (refine W.cF rfl ?_)
    (refine W.skip ?_)
    (refine N.seq ?_)
    (refine W.seq ?_)
    (refine W.region ?_)
    (refine Jx.fieldAddr rfl rfl ?_)
    (refine Jx.loadAg rfl 0 rfl rfl rfl rfl ?_)
    (refine J.call (c5) rfl (evs_args rfl) rfl ?_; rintro _ _ ⟨rfl, rfl⟩; simp only [List.cons_append, List.nil_append, List.append_nil])
    (refine Jx.move rfl rfl ?_)
    (refine Jx.extract rfl rfl rfl ?_)
    (refine Jx.extract rfl rfl rfl ?_)
    (refine Jx.assign rfl rfl ?_)
    (refine Jx.assign rfl rfl ?_)
    (refine J.nil ?_)
    (refine N.seq ?_)
    (refine W.seq ?_)
    (refine W.seq ?_)
    (refine W.region ?_)
    (refine Jx.move rfl rfl ?_)
    (refine Jx.neqI rfl rfl rfl ?_)
    (refine Jx.move rfl rfl ?_)
    (refine J.gN rfl rfl rfl rfl ?_)
    (refine J.gN rfl rfl rfl rfl ?_)
    (refine J.gN rfl rfl rfl rfl ?_)
    (refine J.gN rfl rfl rfl rfl ?_)
    (refine J.gN rfl rfl rfl rfl ?_)
    (refine J.gN rfl rfl rfl rfl ?_)
    (refine J.gN rfl rfl rfl rfl ?_)
    (refine Jx.pT rfl rfl rfl ?_)
    (refine J.nil ?_)
    (refine N.seq ?_)
    (refine W.cT rfl ?_)
    (refine W.seq ?_)
    (refine W.region ?_)
    (refine Jx.assign rfl rfl ?_)
    (refine Jx.assign rfl rfl ?_)
    (refine J.nil ?_)
    (refine N.seq ?_)
    (refine W.ret ?_)
    (refine N.noGotoRet ?_)
    (refine id ?_; rotate_left))
        exact N.retD (rs := [.tmp 2, .tmp 3]) (L1 := []) rfl (.tmp rfl (.tmp rfl .nil)) (List.nil_sublist _) ⟨rfl, rfl⟩
      | true =>
        rw [encO, hj, if_pos rfl] at c5
        have l3 := encCt_len hj
        have c8 := text_ok (encCt b.just) (by omega)
        have k3 := textB_len l3 (by omega)
        generalize textB (encCt b.just) = tc at *
        generalize encCt b.just = ec at *
        by_cases hp : b.just.digest = b.head.parent
        · have hp' : ¬ b.just.digest ≠ b.head.parent := fun h => h hp
          focus (
    (refine W.seq ?_)
    (refine W.region ?_)
    (refine J.boxAg rfl rfl ?_; intro b')
    (refine Jx.assign rfl rfl ?_)
    (refine Jx.assign rfl rfl ?_)
    (refine J.nil ?_)
    (refine N.seq ?_)
    (refine W.seq ?_)
    (refine W.region ?_)
    (refine Jx.fieldAddr rfl rfl ?_)
    (refine Jx.loadAg rfl 0 rfl rfl rfl rfl ?_)
    (refine J.call (c1) rfl (evs_args rfl) rfl ?_; rintro _ _ ⟨rfl, rfl⟩; simp only [List.cons_append, List.nil_append, List.append_nil])
    (refine Jx.move rfl rfl ?_)
    (refine Jx.extract rfl rfl rfl ?_)
    (refine Jx.extract rfl rfl rfl ?_)
    (refine Jx.assign rfl rfl ?_)
    (refine Jx.assign rfl rfl ?_)
    (refine J.nil ?_)
    (refine N.seq ?_)
    (refine W.seq ?_)
    (refine W.region ?_)
    (refine Jx.fieldAddr rfl rfl ?_)
    (refine Jx.load rfl 0 rfl rfl rfl ?_)
    (refine J.call (c2) rfl (evs_args rfl) rfl ?_; rintro _ _ ⟨rfl, rfl⟩; simp only [List.cons_append, List.nil_append, List.append_nil])
    (refine Jx.move rfl rfl ?_)
    (refine Jx.extract rfl rfl rfl ?_)
    (refine Jx.extract rfl rfl rfl ?_)
    (refine Jx.assign rfl rfl ?_)
    (refine Jx.assign rfl rfl ?_)
    (refine J.nil ?_)
    (refine N.seq ?_)
    (refine W.seq ?_)
    (refine W.seq ?_)
    (refine W.region ?_)
    (refine Jx.move rfl rfl ?_)
    (refine Jx.neqI rfl rfl rfl ?_)
    (refine Jx.move rfl rfl ?_)
    (refine J.gY rfl rfl rfl ?_)
    (refine Jx.move rfl rfl ?_)
    (refine J.gY rfl rfl rfl ?_)
    (refine Jx.neqI rfl rfl rfl ?_)
    (refine Jx.pF rfl rfl rfl ?_)
    (refine Jx.move rfl rfl ?_)
    (refine J.gY rfl rfl rfl ?_)
    (refine Jx.fieldAddr rfl rfl ?_)
    (refine J.gY rfl rfl rfl ?_)
    (refine Jx.fieldAddr rfl rfl ?_)
    (refine J.gY rfl rfl rfl ?_)
    (refine Jx.load rfl 0 rfl rfl rfl ?_)
    (refine J.gY rfl rfl rfl ?_)
    (refine Jx.eqlI rfl rfl rfl ?_)
    (refine Jx.pF rfl rfl rfl ?_)
    (refine Jx.move rfl rfl ?_)
    (refine J.gY rfl rfl rfl ?_)
    (refine Jx.move rfl rfl ?_)
    (refine J.gY rfl rfl rfl ?_)
    (refine Jx.fieldAddr rfl rfl ?_)
    (refine J.gY rfl rfl rfl ?_)
    (refine Jx.fieldAddr rfl rfl ?_)
    (refine J.gY rfl rfl rfl ?_)
    (refine Jx.load rfl 0 rfl rfl rfl ?_)
    (refine J.gY rfl rfl rfl ?_)
    (refine Jx.neqS rfl rfl rfl ?_)
    (refine Jx.pF rfl rfl rfl ?_)
    (refine J.nil ?_)
    (refine N.seq ?_)
    (refine W.cF rfl ?_)
    (refine W.skip ?_)
    (refine N.seq ?_)
    (refine W.seq ?_)
    (refine W.region ?_)
    (refine Jx.fieldAddr rfl rfl ?_)
    (refine Jx.load rfl 0 rfl rfl rfl ?_)
    (refine J.call (c3) rfl (evs_args rfl) rfl ?_; rintro _ _ ⟨rfl, rfl⟩; simp only [List.cons_append, List.nil_append, List.append_nil])
    (refine Jx.move rfl rfl ?_)
    (refine Jx.extract rfl rfl rfl ?_)
    (refine Jx.extract rfl rfl rfl ?_)
    (refine Jx.assign rfl rfl ?_)
    (refine Jx.assign rfl rfl ?_)
    (refine J.nil ?_)
    (refine N.seq ?_)
    (refine W.seq ?_)
    (refine W.region ?_)
    (refine Jx.move rfl rfl ?_)
    (refine J.call (c6) rfl (evs_args rfl) rfl ?_; rintro _ _ ⟨rfl, rfl⟩; simp only [List.cons_append, List.nil_append, List.append_nil])
    (refine Jx.move rfl rfl ?_)
    (refine J.call (c7) rfl (evs_args rfl) rfl ?_; rintro _ _ ⟨rfl, rfl⟩; simp only [List.cons_append, List.nil_append, List.append_nil])
    (refine Jx.cat rfl rfl (by first | omega | (simp only [List.length_append, List.length_cons, List.length_nil]; omega)) rfl ?_)
    (refine Jx.assign rfl rfl ?_)
    (refine J.nil ?_)
    (refine N.seq ?_)
    (refine W.seq ?_)
    (refine W.seq ?_)
    (refine W.region ?_)
    (refine Jx.fieldAddr rfl rfl ?_)
    (refine Jx.loadAg rfl 0 rfl rfl rfl rfl ?_)
    (refine J.call (c4) rfl (evs_args rfl) rfl ?_; rintro _ _ ⟨rfl, rfl⟩; simp only [List.cons_append, List.nil_append, List.append_nil])
    (refine J.nil ?_)
    (refine N.seq ?_)
    (refine W.cF rfl ?_)
    (refine W.skip ?_)
    (refine N.seq ?_)
    (refine W.seq ?_)
    (refine W.region ?_)
    (refine Jx.fieldAddr rfl rfl ?_)
    (refine Jx.loadAg rfl 0 rfl rfl rfl rfl ?_)
    (refine J.call (c5) rfl (evs_args rfl) rfl ?_; rintro _ _ ⟨rfl, rfl⟩; simp only [List.cons_append, List.nil_append, List.append_nil])
    (refine Jx.move rfl rfl ?_)
    (refine Jx.extract rfl rfl rfl ?_)
    (refine Jx.extract rfl rfl rfl ?_)
    (refine Jx.assign rfl rfl ?_)
    (refine Jx.assign rfl rfl ?_)
    (refine J.nil ?_)
    (refine N.seq ?_)
    (refine W.seq ?_)
    (refine W.seq ?_)
    (refine W.region ?_)
    (refine Jx.move rfl rfl ?_)
    (refine Jx.neqI rfl rfl rfl ?_)
    (refine Jx.move rfl rfl ?_)
    (refine J.gY rfl rfl rfl ?_)
    (refine Jx.fieldAddr rfl rfl ?_)
    (refine J.gY rfl rfl rfl ?_)
    (refine Jx.fieldAddr rfl rfl ?_)
    (refine J.gY rfl rfl rfl ?_)
    (refine Jx.load rfl 0 rfl rfl rfl ?_)
    (refine J.gY rfl rfl rfl ?_)
    (refine Jx.fieldAddr rfl rfl ?_)
    (refine J.gY rfl rfl rfl ?_)
    (refine Jx.fieldAddr rfl rfl ?_)
    (refine J.gY rfl rfl rfl ?_)
    (refine Jx.load rfl 0 rfl rfl rfl ?_)
    (refine J.gY rfl rfl rfl ?_)
    (refine Jx.neqS rfl rfl rfl ?_)
    (refine Jx.pF rfl rfl rfl ?_)
    (refine J.nil ?_)
    (refine N.seq ?_)
    (refine W.cF rfl ?_)
    (refine W.skip ?_)
    (refine N.seq ?_)
    (refine W.seq ?_)
    (refine W.region ?_)
    (refine Jx.move rfl rfl ?_)
    (refine J.call ((flag_ok true)) rfl (evs_args rfl) rfl ?_; rintro _ _ ⟨rfl, rfl⟩; simp only [List.cons_append, List.nil_append, List.append_nil])
    (refine Jx.cat rfl rfl (by first | omega | (simp only [List.length_append, List.length_cons, List.length_nil]; omega)) rfl ?_)
    (refine Jx.move rfl rfl ?_)
    (refine J.call (c8) rfl (evs_args rfl) rfl ?_; rintro _ _ ⟨rfl, rfl⟩; simp only [List.cons_append, List.nil_append, List.append_nil])
    (refine Jx.cat rfl rfl (by first | omega | (simp only [List.length_append, List.length_cons, List.length_nil]; omega)) rfl ?_)
    (refine Jx.assign rfl rfl ?_)
    (refine Jx.assign rfl rfl ?_)
    (refine J.nil ?_)
    (refine N.seq ?_)
    (refine W.ret ?_)
    (refine id ?_; rotate_left))
          exact N.retD (rs := [.tmp 2, .tmp 3]) (L1 := []) rfl (.tmp rfl (.tmp rfl .nil)) (List.nil_sublist _) ⟨by simp [oneOr, hp], rfl⟩
        · rw [decide_eq_false hp]
          focus (
    (refine W.seq ?_)
    (refine W.region ?_)
    (refine J.boxAg rfl rfl ?_; intro b')
    (refine Jx.assign rfl rfl ?_)
    (refine Jx.assign rfl rfl ?_)
    (refine J.nil ?_)
    (refine N.seq ?_)
    (refine W.seq ?_)
    (refine W.region ?_)
    (refine Jx.fieldAddr rfl rfl ?_)
    (refine Jx.loadAg rfl 0 rfl rfl rfl rfl ?_)
    (refine J.call (c1) rfl (evs_args rfl) rfl ?_; rintro _ _ ⟨rfl, rfl⟩; simp only [List.cons_append, List.nil_append, List.append_nil])
    (refine Jx.move rfl rfl ?_)
    (refine Jx.extract rfl rfl rfl ?_)
    (refine Jx.extract rfl rfl rfl ?_)
    (refine Jx.assign rfl rfl ?_)
    (refine Jx.assign rfl rfl ?_)
    (refine J.nil ?_)
    (refine N.seq ?_)
    (refine W.seq ?_)
    (refine W.region ?_)
    (refine Jx.fieldAddr rfl rfl ?_)
    (refine Jx.load rfl 0 rfl rfl rfl ?_)
    (refine J.call (c2) rfl (evs_args rfl) rfl ?_; rintro _ _ ⟨rfl, rfl⟩; simp only [List.cons_append, List.nil_append, List.append_nil])
    (refine Jx.move rfl rfl ?_)
    (refine Jx.extract rfl rfl rfl ?_)
    (refine Jx.extract rfl rfl rfl ?_)
    (refine Jx.assign rfl rfl ?_)
    (refine Jx.assign rfl rfl ?_)
    (refine J.nil ?_)
    (refine N.seq ?_)
    (refine W.seq ?_)
    (refine W.seq ?_)
    (refine W.region ?_)
    (refine Jx.move rfl rfl ?_)
    (refine Jx.neqI rfl rfl rfl ?_)
    (refine Jx.move rfl rfl ?_)
    (refine J.gY rfl rfl rfl ?_)
    (refine Jx.move rfl rfl ?_)
    (refine J.gY rfl rfl rfl ?_)
    (refine Jx.neqI rfl rfl rfl ?_)
    (refine Jx.pF rfl rfl rfl ?_)
    (refine Jx.move rfl rfl ?_)
    (refine J.gY rfl rfl rfl ?_)
    (refine Jx.fieldAddr rfl rfl ?_)
    (refine J.gY rfl rfl rfl ?_)
    (refine Jx.fieldAddr rfl rfl ?_)
    (refine J.gY rfl rfl rfl ?_)
    (refine Jx.load rfl 0 rfl rfl rfl ?_)
    (refine J.gY rfl rfl rfl ?_)
    (refine Jx.eqlI rfl rfl rfl ?_)
    (refine Jx.pF rfl rfl rfl ?_)
    (refine Jx.move rfl rfl ?_)
    (refine J.gY rfl rfl rfl ?_)
    (refine Jx.move rfl rfl ?_)
    (refine J.gY rfl rfl rfl ?_)
    (refine Jx.fieldAddr rfl rfl ?_)
    (refine J.gY rfl rfl rfl ?_)
    (refine Jx.fieldAddr rfl rfl ?_)
    (refine J.gY rfl rfl rfl ?_)
    (refine Jx.load rfl 0 rfl rfl rfl ?_)
    (refine J.gY rfl rfl rfl ?_)
    (refine Jx.neqS rfl rfl rfl ?_)
    (refine Jx.pF rfl rfl rfl ?_)
    (refine J.nil ?_)
    (refine N.seq ?_)
    (refine W.cF rfl ?_)
    (refine W.skip ?_)
    (refine N.seq ?_)
    (refine W.seq ?_)
    (refine W.region ?_)
    (refine Jx.fieldAddr rfl rfl ?_)
    (refine Jx.load rfl 0 rfl rfl rfl ?_)
    (refine J.call (c3) rfl (evs_args rfl) rfl ?_; rintro _ _ ⟨rfl, rfl⟩; simp only [List.cons_append, List.nil_append, List.append_nil])
    (refine Jx.move rfl rfl ?_)
    (refine Jx.extract rfl rfl rfl ?_)
    (refine Jx.extract rfl rfl rfl ?_)
    (refine Jx.assign rfl rfl ?_)
    (refine Jx.assign rfl rfl ?_)
    (refine J.nil ?_)
    (refine N.seq ?_)
    (refine W.seq ?_)
    (refine W.region ?_)
    (refine Jx.move rfl rfl ?_)
    (refine J.call (c6) rfl (evs_args rfl) rfl ?_; rintro _ _ ⟨rfl, rfl⟩; simp only [List.cons_append, List.nil_append, List.append_nil])
    (refine Jx.move rfl rfl ?_)
    (refine J.call (c7) rfl (evs_args rfl) rfl ?_; rintro _ _ ⟨rfl, rfl⟩; simp only [List.cons_append, List.nil_append, List.append_nil])
    (refine Jx.cat rfl rfl (by first | omega | (simp only [List.length_append, List.length_cons, List.length_nil]; omega)) rfl ?_)
    (refine Jx.assign rfl rfl ?_)
    (refine J.nil ?_)
    (refine N.seq ?_)
    (refine W.seq ?_)
    (refine W.seq ?_)
    (refine W.region ?_)
    (refine Jx.fieldAddr rfl rfl ?_)
    (refine Jx.loadAg rfl 0 rfl rfl rfl rfl ?_)
    (refine J.call (c4) rfl (evs_args rfl) rfl ?_; rintro _ _ ⟨rfl, rfl⟩; simp only [List.cons_append, List.nil_append, List.append_nil])
    (refine J.nil ?_)
    (refine N.seq ?_)
    (refine W.cF rfl ?_)
    (refine W.skip ?_)
    (refine N.seq ?_)
    (refine W.seq ?_)
    (refine W.region ?_)
    (refine Jx.fieldAddr rfl rfl ?_)
    (refine Jx.loadAg rfl 0 rfl rfl rfl rfl ?_)
    (refine J.call (c5) rfl (evs_args rfl) rfl ?_; rintro _ _ ⟨rfl, rfl⟩; simp only [List.cons_append, List.nil_append, List.append_nil])
    (refine Jx.move rfl rfl ?_)
    (refine Jx.extract rfl rfl rfl ?_)
    (refine Jx.extract rfl rfl rfl ?_)
    (refine Jx.assign rfl rfl ?_)
    (refine Jx.assign rfl rfl ?_)
    (refine J.nil ?_)
    (refine N.seq ?_)
    (refine W.seq ?_)
    (refine W.seq ?_)
    (refine W.region ?_)
    (refine Jx.move rfl rfl ?_)
    (refine Jx.neqI rfl rfl rfl ?_)
    (refine Jx.move rfl rfl ?_)
    (refine J.gY rfl rfl rfl ?_)
    (refine Jx.fieldAddr rfl rfl ?_)
    (refine J.gY rfl rfl rfl ?_)
    (refine Jx.fieldAddr rfl rfl ?_)
    (refine J.gY rfl rfl rfl ?_)
    (refine Jx.load rfl 0 rfl rfl rfl ?_)
    (refine J.gY rfl rfl rfl ?_)
    (refine Jx.fieldAddr rfl rfl ?_)
    (refine J.gY rfl rfl rfl ?_)
    (refine Jx.fieldAddr rfl rfl ?_)
    (refine J.gY rfl rfl rfl ?_)
    (refine Jx.load rfl 0 rfl rfl rfl ?_)
    (refine J.gY rfl rfl rfl ?_)
    (refine Jx.neqS rfl rfl rfl ?_)
    (refine Jx.pF rfl rfl rfl ?_)
    (refine J.nil ?_)
    (refine N.seq ?_)
    (refine W.cT rfl ?_)
    (refine W.seq ?_)
    (refine W.region ?_)
    (refine Jx.assign rfl rfl ?_)
    (refine Jx.assign rfl rfl ?_)
    (refine J.nil ?_)
    (refine N.seq ?_)
    (refine W.ret ?_)
    (refine N.noGotoRet ?_)
    (refine id ?_; rotate_left))
          exact N.retD (rs := [.tmp 2, .tmp 3]) (L1 := []) rfl (.tmp rfl (.tmp rfl .nil)) (List.nil_sublist _) ⟨rfl, rfl⟩
theorem bcheck_ok (b : Bk) (hl : b.head.skips.length ≤ 1048576) : FnC Tryd.prog 15 [.agg (bkC b)] [] (fun v L => v = int (codeB (fineBk b) 210) ∧ L = []) := by
  have c := bencode_ok b hl
  generalize encO fineBk encBk b = e at *
  refine FnC.intro Tryd.func15 rfl Tryd.ntmps15 rfl fun Z w0 hG => ?_
  focus (
    (refine W.seq ?_)
    (refine W.region ?_)
    (refine J.boxAg rfl rfl ?_; intro b')
    (refine Jx.assign rfl rfl ?_)
    (refine J.nil ?_)
    (refine N.seq ?_)
    (refine W.seq ?_)
    (refine W.region ?_)
    (refine Jx.loadAll rfl 0 rfl rfl rfl ?_)
    (refine J.call (c) rfl (evs_args rfl) rfl ?_; rintro _ _ ⟨rfl, rfl⟩; simp only [List.cons_append, List.nil_append, List.append_nil])
    (refine Jx.move rfl rfl ?_)
    (refine Jx.extract rfl rfl rfl ?_)
    (refine Jx.extract rfl rfl rfl ?_)
    (refine Jx.assign rfl rfl ?_)
    (refine Jx.assign rfl rfl ?_)
    (refine J.nil ?_)
    (refine N.seq ?_)
    (refine W.seq ?_)
    (refine W.region ?_)
    (refine Jx.move rfl rfl ?_)
    (refine Jx.assign rfl rfl ?_)
    (refine J.nil ?_)
    (refine N.seq ?_)
    (refine W.ret ?_)
    (refine id ?_; rotate_left))
  exact N.retD (rs := [.tmp 2]) (L1 := []) rfl (.tmp rfl .nil) (List.nil_sublist _) ⟨rfl, rfl⟩
set_option maxHeartbeats 2000000 in
theorem sameB_ok (x y : Bk) (h1 : x.head.skips.length ≤ 1048576) (h2 : x.txs.length ≤ 1048576) (h3 : ∀ t ∈ x.txs, t.members.length ≤ 1048576) (h4 : x.just.signers.length ≤ 1048576) : FnC Tryd.prog 13 [.agg (bkC x), .agg (bkC y)] [] (fun v L => v = bool (decide (x = y)) ∧ L = []) := by
  have c1 := sameH_ok x.head y.head h1
  have c2 := sameTs_ok x.txs y.txs h2 h3
  have c3 := sameC_ok x.just y.just h4
  refine FnC.intro Tryd.func13 rfl Tryd.ntmps13 rfl fun Z w0 hG => ?_
  focus (
    (refine W.seq ?_)
    (refine W.region ?_)
    (refine J.boxAg rfl rfl ?_; intro b')
    (refine J.boxAg rfl rfl ?_; intro b')
    (refine Jx.assign rfl rfl ?_)
    (refine J.nil ?_)
    (refine N.seq ?_)
    (refine W.seq ?_)
    (refine W.region ?_)
    (refine Jx.fieldAddr rfl rfl ?_)
    (refine Jx.loadAg rfl 1 rfl rfl rfl rfl ?_)
    (refine Jx.fieldAddr rfl rfl ?_)
    (refine Jx.loadAg rfl 0 rfl rfl rfl rfl ?_)
    (refine J.call (c1) rfl (evs_args rfl) rfl ?_; rintro _ _ ⟨rfl, rfl⟩; simp only [List.cons_append, List.nil_append, List.append_nil])
    (refine Jx.move rfl rfl ?_)
    (refine' J.guardAnd rfl rfl rfl rfl rfl rfl rfl rfl (fun _ => ?_) ?_; rotate_left)
    (refine J.gY rfl rfl rfl ?_)
    (refine Jx.fieldAddr rfl rfl ?_)
    (refine J.gY rfl rfl rfl ?_)
    (refine Jx.load rfl 1 rfl rfl rfl ?_)
    (refine J.gY rfl rfl rfl ?_)
    (refine Jx.fieldAddr rfl rfl ?_)
    (refine J.gY rfl rfl rfl ?_)
    (refine Jx.load rfl 0 rfl rfl rfl ?_)
    (refine J.gY rfl rfl rfl ?_)
    (refine J.call (c2) rfl (evs_args rfl) rfl ?_; rintro _ _ ⟨rfl, rfl⟩; simp only [List.cons_append, List.nil_append, List.append_nil])
    (refine J.nil ?_)
    (refine N.joinedN rfl rfl rfl)
    (refine Jx.move rfl rfl ?_)
    (refine' J.guardAnd rfl rfl rfl rfl rfl rfl rfl rfl (fun _ => ?_) ?_; rotate_left)
    (refine J.gY rfl rfl rfl ?_)
    (refine Jx.fieldAddr rfl rfl ?_)
    (refine J.gY rfl rfl rfl ?_)
    (refine Jx.loadAg rfl 1 rfl rfl rfl rfl ?_)
    (refine J.gY rfl rfl rfl ?_)
    (refine Jx.fieldAddr rfl rfl ?_)
    (refine J.gY rfl rfl rfl ?_)
    (refine Jx.loadAg rfl 0 rfl rfl rfl rfl ?_)
    (refine J.gY rfl rfl rfl ?_)
    (refine J.call (c3) rfl (evs_args rfl) rfl ?_; rintro _ _ ⟨rfl, rfl⟩; simp only [List.cons_append, List.nil_append, List.append_nil])
    (refine J.nil ?_)
    (refine N.joinedN rfl rfl rfl)
    (refine Jx.assign rfl rfl ?_)
    (refine J.nil ?_)
    (refine N.seq ?_)
    (refine W.ret ?_)
    (refine id ?_; rotate_left))
  refine N.retD (rs := [.tmp 4]) (L1 := []) rfl (.tmp rfl .nil) (List.nil_sublist _) ⟨congrArg Sse.bool ?_, rfl⟩
  rw [Bool.eq_iff_iff]
  simp only [Bool.and_eq_true, decide_eq_true_eq]
  exact ⟨fun h => Bk.ext' h.1.1 h.1.2 h.2, fun h => by subst h; exact ⟨⟨rfl, rfl⟩, rfl⟩⟩
end Go.Proofs.YtlfdhkahiaammaaDoor
