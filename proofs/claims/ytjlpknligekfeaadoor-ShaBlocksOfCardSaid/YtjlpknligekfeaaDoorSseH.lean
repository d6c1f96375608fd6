/-
  Whole structs written, what is owned told in other words, function values, shifts and bits, in the frame's words.
-/
import Derived.Test.YtjlpknligekfeaaDoorSseG
namespace Go.Sse
open Go
set_option linter.unusedVariables false
set_option linter.unusedSimpArgs false

/-- Cells told in other words. -/
inductive SubL : List SV → List SV → Prop
  | nil : SubL [] []
  | cons {s t : SV} {ss ts : List SV} (h : Sub s t) (hr : SubL ss ts) : SubL (s :: ss) (t :: ts)

theorem SubL.spec : ∀ {cs ds : List SV}, SubL cs ds → cs.length = ds.length ∧ ∀ j, Sub (cs.getD j .any) (ds.getD j .any)
  | _, _, .nil => ⟨rfl, fun _ => Sub.refl _⟩
  | _, _, .cons h hr => ⟨by simp [hr.spec.1], fun j => by
      cases j with
      | zero => simpa using h
      | succ j => simpa using hr.spec.2 j⟩

section
variable {P : Program} {Γ : Ctx} {ops : Array Oper} {Q : Exit → Act → World → Prop} {F : List (Nat × SV)} {L : List Own} {rest : List Oper}
variable {dst : Option Tmp} {ty : TypeId} {pos : String} {aft : Array Edge} {g : Option (Nat × Bool)}

theorem Step.objSub {i b : Nat} {T : TypeId} {cs ds : List SV} {w : World} (h : WSt Γ L w) (hi : L[i]? = some (.obj b T cs)) (hs : SubL cs ds) : Step Γ L (L.set i (.obj b T ds)) w w := by
  refine Step.upd h hi rfl ⟨rfl, rfl, rfl, rfl⟩ (fun _ _ => rfl) ?_
  obtain ⟨vs, fz, hb, hu, h1, h2, h3⟩ := h.holds _ (mem_of_idx hi)
  obtain ⟨hl, hsub⟩ := hs.spec
  exact ⟨vs, fz, hb, hu, by rw [h1, hl], h2, fun j hj => hsub j _ _ _ (h3 j (by omega))⟩

theorem J.objSub {l : List Oper} (i : Nat) {b : Nat} {T : TypeId} {cs : List SV} (ds : List SV) {L' : List Own} (hi : L[i]? = some (.obj b T cs)) (hs : SubL cs ds) (hL : L.set i (.obj b T ds) = L') (h : J P Γ ops Q F L' l) : J P Γ ops Q F L l :=
  ⟨fun a w hst => by subst hL; exact h.go a w (hst.step (Step.objSub hst.ws hi hs))⟩
theorem W.objSub {c : Code} (i : Nat) {b : Nat} {T : TypeId} {cs : List SV} (ds : List SV) {L' : List Own} (hi : L[i]? = some (.obj b T cs)) (hs : SubL cs ds) (hL : L.set i (.obj b T ds) = L') (h : W P Γ Q F L' c) : W P Γ Q F L c :=
  ⟨fun a w hst => by subst hL; exact h.go a w (hst.step (Step.objSub hst.ws hi hs))⟩
theorem N.objSub {K : Act → World → Prop} (i : Nat) {b : Nat} {T : TypeId} {cs : List SV} (ds : List SV) {L' : List Own} (hi : L[i]? = some (.obj b T cs)) (hs : SubL cs ds) (hL : L.set i (.obj b T ds) = L') (h : N Γ K F L') : N Γ K F L :=
  ⟨fun a w hst => by subst hL; exact h.go a w (hst.step (Step.objSub hst.ws hi hs))⟩

theorem run_storeVar_ag {T n : Nat} (h : TAg P T n) (w : World) (b o : Nat) (us : List Value) (hl : us.length = n) (h1 : ∀ u ∈ us, u.oneCell' = true) (vs : Array Value) (T' : TypeId) (fz : Nat × Nat) (hb : w.heap[b]? = some (.cells vs T' fz)) (ho : o + n ≤ vs.size) (hu : Unfrozen fz vs.size) :
    (storeVar T ⟨b, o, none⟩ (.agg us.toArray)).run P w = .ok () (w.setRow b (vs.toList.take o ++ us ++ vs.toList.drop (o + us.length)).toArray) := by
  have hsz := sizeOf_of h.ok.2 w
  have hst := storeCells_un (P := P) b o T' fz us 0 vs w hb hu (by omega) h1
  simp only [Nat.add_zero] at hst
  simp [storeVar, Value.cells, hsz, hl, hst]

/-- A whole struct, or a part that is a struct, is written. -/
theorem OpS.storeAg {T b o n : Nat} [h : TAg P T n] {x y : Operand} {ds : List SV} (hx : ev F x = some (.val (.pointer (some ⟨b, o, none⟩)))) (hy : ev F y = some (.agg ds)) (hn : ds.length = n) (i : Nat) {T' : TypeId} {cs : List SV}
    (hi : L[i]? = some (.obj b T' cs)) (ho : o + n ≤ cs.length) : OpS P Γ ⟨dst, .store T x y, ty, pos, aft, g⟩ F L (fun _ L' => L' = L.set i (.obj b T' (cs.take o ++ ds ++ cs.drop (o + ds.length)))) := by
  intro a w K Q hst hK
  obtain ⟨vs, fz, hb, hu, hr⟩ := hst.ws.holds _ (mem_of_idx hi)
  have hrel := hst.ev hy
  generalize hv : a.eval y = v at hrel
  cases hrel with
  | agg _ us hl h1 hre =>
    have hlen : vs.size = cs.length := by have := hr.1; simpa using this
    have hrun := run_storeVar_ag h w b o us (by omega) h1 vs T' fz hb (by omega) hu
    unfold Oper.wp
    have he : (execOp a.eval ⟨dst, .store T x y, ty, pos, aft, g⟩).run P w = .ok .skip (w.setRow b (vs.toList.take o ++ us ++ vs.toList.drop (o + us.length)).toArray) := by
      simp only [execOp, hst.evv hx, hv, Instr.storeAt, Instr.sureAddr, Sem.run_bind, Sem.run_pure, Result.andThen_ok, hrun]
    rw [he]
    have hsize : (vs.toList.take o ++ us ++ vs.toList.drop (o + us.length)).length = vs.size := by
      simp only [List.length_append, List.length_take, List.length_drop, Array.length_toList]; omega
    have hstep : Step Γ L (L.set i (.obj b T' (cs.take o ++ ds ++ cs.drop (o + ds.length)))) w (w.setRow b (vs.toList.take o ++ us ++ vs.toList.drop (o + us.length)).toArray) := by
      refine Step.upd hst.ws hi rfl ⟨rfl, rfl, rfl, by simp⟩ (fun b' hb' => setRow_other w b b' _ (by simpa [Own.foot] using hb')) ?_
      refine ⟨_, fz, setRow_heap w b vs _ T' fz hb, by simp only [List.size_toArray, hsize]; exact hu, ?_⟩
      have hsp := hr.splice (ds := ds) (us := us) ⟨hl, h1, hre⟩ o (by omega)
      simp only
      exact hsp.stable fun b' hlt hn => ⟨setRow_other w b b' _ (fun e => hn (.inr (by subst e; exact List.mem_flatMap.2 ⟨_, mem_of_idx hi, by simp [Own.foot]⟩))), hn⟩
    exact hK undef _ .any _ rfl hstep (.any _)

theorem J.storeAg {T b o n : Nat} [h : TAg P T n] {x y : Operand} {ds : List SV} (hx : ev F x = some (.val (.pointer (some ⟨b, o, none⟩)))) (hy : ev F y = some (.agg ds)) (hn : ds.length = n) (i : Nat) {T' : TypeId} {cs cs' : List SV} {L' : List Own}
    (hi : L[i]? = some (.obj b T' cs)) (ho : Nat.ble (o + n) cs.length = true) (hcs : cs.take o ++ ds ++ cs.drop (o + ds.length) = cs') (hL : L.set i (.obj b T' cs') = L') (k : J P Γ ops Q F L' rest) : J P Γ ops Q F L (⟨none, .store T x y, ty, pos, aft, none⟩ :: rest) :=
  J.op0 (OpS.storeAg hx hy hn i hi (Nat.le_of_ble_eq_true ho)) rfl rfl (by rintro s L'' rfl; rw [hcs, hL]; exact k)
/-- The whole of a struct. -/
theorem J.storeAll {T b n : Nat} [h : TAg P T n] {x y : Operand} {ds : List SV} (hx : ev F x = some (.val (.pointer (some ⟨b, 0, none⟩)))) (hy : ev F y = some (.agg ds)) (hn' : Nat.beq ds.length n = true) (i : Nat) {T' : TypeId} {cs : List SV} {L' : List Own}
    (hi : L[i]? = some (.obj b T' cs)) (ho' : Nat.beq cs.length n = true) (hL : L.set i (.obj b T' ds) = L') (k : J P Γ ops Q F L' rest) : J P Γ ops Q F L (⟨none, .store T x y, ty, pos, aft, none⟩ :: rest) :=
  have hn : ds.length = n := Nat.eq_of_beq_eq_true hn'
  have ho : cs.length = n := Nat.eq_of_beq_eq_true ho'
  J.storeAg hx hy hn i hi (by rw [ho]; simp) (by rw [hn, ← ho]; simp) hL k
/-- The whole of a struct, read. -/
theorem Pv.loadAll {T b n : Nat} [h : TAg P T n] {x : Operand} (hx : ev F x = some (.val (.pointer (some ⟨b, 0, none⟩)))) (i : Nat) {T' : TypeId} {cs : List SV} (hi : L[i]? = some (.obj b T' cs)) (hn' : Nat.beq cs.length n = true) :
    Pv P Γ F L ⟨dst, .load T x, ty, pos, aft, g⟩ (.agg cs) :=
  have hn : cs.length = n := Nat.eq_of_beq_eq_true hn'
  Pv.loadAg hx i hi (by rw [List.drop_zero, ← hn, List.take_length]) hn
theorem Cx.loadAll {T b n : Nat} [h : TAg P T n] {x : Operand} (hx : ev F x = some (.val (.pointer (some ⟨b, 0, none⟩)))) (i : Nat) {T' : TypeId} {cs : List SV} (hi : L[i]? = some (.obj b T' cs)) (hn' : Nat.beq cs.length n = true) {d0 : Nat} {K : List (Nat × SV) → Prop} (hlt : Nat.blt d0 Γ.nt = true) (hr : SegC P Γ ops L ((d0, (.agg cs)) :: F) rest K) : SegC P Γ ops L F (⟨some d0, .load T x, ty, pos, aft, none⟩ :: rest) K :=
  SegC.q (Qs.pv (by apply Pv.loadAll <;> assumption)) hlt hr
theorem Jx.loadAll {T b n : Nat} [h : TAg P T n] {x : Operand} (hx : ev F x = some (.val (.pointer (some ⟨b, 0, none⟩)))) (i : Nat) {T' : TypeId} {cs : List SV} (hi : L[i]? = some (.obj b T' cs)) (hn' : Nat.beq cs.length n = true) {d0 : Nat} (hlt : Nat.blt d0 Γ.nt = true) (k : J P Γ ops Q ((d0, (.agg cs)) :: F) L rest) : J P Γ ops Q F L (⟨some d0, .load T x, ty, pos, aft, none⟩ :: rest) :=
  J.pv (by apply Pv.loadAll <;> assumption) hlt k

-- function values

theorem Pv.makeFunc {f : FuncId} {xs ys : List Operand} {us vs : List Value} (hx : Args F xs (us.map .val)) (hy : Args F ys (vs.map .val))
    (hrun : ∀ w : World, (Instr.makeFunc (.func f) us.toArray vs.toArray).run P w = .ok (.func (.func f) us.toArray vs.toArray) w) :
    Pv P Γ F L ⟨dst, .makeFunc (.func f) xs.toArray ys.toArray, ty, pos, aft, g⟩ (.val (.func (.func f) us.toArray vs.toArray)) := fun ρ w hst => by
  have key : ∀ {xs : List Operand} {ss : List SV}, Args F xs ss → ∀ {us : List Value}, ss = us.map .val → (∀ x ∈ xs, x ∈ xs → ∀ s, ev F x = some s → Rel (ZL Γ.Z L) w s (ρ x)) → xs.map ρ = us := by
    intro xs ss h
    induction h with
    | nil => intro us hu _; cases us <;> simp_all
    | @cons x s xs ss h hr ih =>
      intro us hu hm
      cases us with
      | nil => simp at hu
      | cons u us =>
        simp only [List.map_cons, List.cons.injEq] at hu
        obtain ⟨rfl, hu⟩ := hu
        have h1 := (hm x (List.mem_cons_self ..) (List.mem_cons_self ..) _ h).val_eq
        have h2 := ih hu (fun y hy _ => hm y (List.mem_cons_of_mem _ hy) (List.mem_cons_of_mem _ hy))
        simp [h1, h2]
    | @sub x s t xs ss h hsub hr ih =>
      intro us hu hm
      cases us with
      | nil => simp at hu
      | cons u us =>
        simp only [List.map_cons, List.cons.injEq] at hu
        obtain ⟨rfl, hu⟩ := hu
        have h1 := (hsub _ _ _ (hm x (List.mem_cons_self ..) (List.mem_cons_self ..) _ h)).val_eq
        have h2 := ih hu (fun y hy _ => hm y (List.mem_cons_of_mem _ hy) (List.mem_cons_of_mem _ hy))
        simp [h1, h2]
  have e1 := key hx rfl (fun x hx' _ => hst.ev x (by simp [Op.operands, hx']))
  have e2 := key hy rfl (fun x hx' _ => hst.ev x (by simp [Op.operands, hx']))
  refine ⟨_, ?_, .val _⟩
  have := hrun w
  simp only [execOp, List.map_toArray, e1, e2, Sem.run_bind, this, Result.andThen_ok, Sem.run_pure]
theorem Cx.makeFunc {f : FuncId} {xs ys : List Operand} {us vs : List Value} (hx : Args F xs (us.map .val)) (hy : Args F ys (vs.map .val))
    (hrun : ∀ w : World, (Instr.makeFunc (.func f) us.toArray vs.toArray).run P w = .ok (.func (.func f) us.toArray vs.toArray) w) {d0 : Nat} {K : List (Nat × SV) → Prop} (hlt : Nat.blt d0 Γ.nt = true) (hr : SegC P Γ ops L ((d0, (.val (.func (.func f) us.toArray vs.toArray))) :: F) rest K) : SegC P Γ ops L F (⟨some d0, .makeFunc (.func f) xs.toArray ys.toArray, ty, pos, aft, none⟩ :: rest) K :=
  SegC.q (Qs.pv (by apply Pv.makeFunc <;> assumption)) hlt hr
theorem Jx.makeFunc {f : FuncId} {xs ys : List Operand} {us vs : List Value} (hx : Args F xs (us.map .val)) (hy : Args F ys (vs.map .val))
    (hrun : ∀ w : World, (Instr.makeFunc (.func f) us.toArray vs.toArray).run P w = .ok (.func (.func f) us.toArray vs.toArray) w) {d0 : Nat} (hlt : Nat.blt d0 Γ.nt = true) (k : J P Γ ops Q ((d0, (.val (.func (.func f) us.toArray vs.toArray))) :: F) L rest) : J P Γ ops Q F L (⟨some d0, .makeFunc (.func f) xs.toArray ys.toArray, ty, pos, aft, none⟩ :: rest) :=
  J.pv (by apply Pv.makeFunc <;> assumption) hlt k

/-- A call of a function value. -/
theorem OpS.callV [Gl P] [Globs P Γ] {f : Nat} [hT : TFunc P f] {t : Operand} {us vs : List Value} {xs : List Operand} {ts : Array TypeId} {args : List SV} {Lc Lr : List Own} {R : SV → List Own → Prop} (ht : ev F t = some (.val (.func (.func f) us.toArray vs.toArray)))
    (hF : FnC P f (us.map .val ++ args ++ vs.map .val) Lc R) (hL : L = Lc ++ Lr) (ha : Args F xs args) :
    OpS P Γ ⟨dst, .call { callee := .value t, args := xs.toArray, argTypes := ts }, ty, pos, aft, g⟩ F L (fun s L' => ∃ Lc', R s Lc' ∧ L' = Lc' ++ Lr) := by
  intro a w K Q hst hK
  subst hL
  obtain ⟨hl, hr⟩ := args_rel hst ha
  unfold Oper.wp
  have he : (execOp a.eval ⟨dst, .call { callee := .value t, args := xs.toArray, argTypes := ts }, ty, pos, aft, g⟩).run P w = .ok (.enter f ((us ++ xs.map a.eval ++ vs).toArray)) w := by
    simp [execOp, resolve, hst.evv ht, Deferred.ofValue, invoke, run_callFunc hT]
  rw [he, Oper.upon_enter]
  refine (calls_at hF hst.ws (by simp [hl]) (fun j hj => ?_)).mono ?_
  · simp only [List.length_append, List.length_map] at hj
    simp only [List.getD_eq_getElem?_getD]
    by_cases h1 : j < us.length
    · rw [List.append_assoc, List.getElem?_append_left (by simpa using h1), List.append_assoc, List.getElem?_append_left h1]
      simp only [List.getElem?_map, List.getElem?_eq_getElem h1, Option.map_some, Option.getD_some]
      exact .val _
    · by_cases h2 : j < us.length + args.length
      · rw [List.append_assoc, List.getElem?_append_right (by simp; omega), List.getElem?_append_left (by simp; omega), List.append_assoc, List.getElem?_append_right (by omega), List.getElem?_append_left (by simp; omega)]
        simpa [List.getD_eq_getElem?_getD] using hr (j - us.length) (by omega)
      · rw [List.getElem?_append_right (by simp; omega), List.getElem?_append_right (by simp; omega)]
        have h3 : j - (us.length + args.length) < vs.length := by omega
        simp only [List.length_append, List.length_map, hl, List.getElem?_map, List.getElem?_eq_getElem h3, Option.map_some, Option.getD_some]
        exact .val _
  · rintro e w' ⟨v, s, L', rfl, hR, hs, hrel⟩
    exact hK v w' s _ ⟨L', hR, rfl⟩ hs hrel

theorem J.callV [Gl P] [Globs P Γ] {d f : Nat} [hT : TFunc P f] {t : Operand} {us vs : List Value} {xs : List Operand} {ts : Array TypeId} {args : List SV} {Lc Lr : List Own} {R : SV → List Own → Prop} (ht : ev F t = some (.val (.func (.func f) us.toArray vs.toArray)))
    (hF : FnC P f (us.map .val ++ args ++ vs.map .val) Lc R) (hL : L = Lc ++ Lr) (ha : Args F xs args) (hlt : Nat.blt d Γ.nt = true) (h : ∀ s Lc', R s Lc' → J P Γ ops Q ((d, s) :: F) (Lc' ++ Lr) rest) :
    J P Γ ops Q F L (⟨some d, .call { callee := .value t, args := xs.toArray, argTypes := ts }, ty, pos, aft, none⟩ :: rest) :=
  J.op (OpS.callV ht hF hL ha) rfl rfl hlt (by rintro s L' ⟨Lc', hR, rfl⟩; exact h s Lc' hR)

-- shifts and bits
section
variable {t t2 : TypeId} {x y : Operand} {k k2 : IntKind} {m n : Int}
theorem Pv.shl (hx : ev F x = some (.val (.int k m))) (hy : ev F y = some (.val (.int k2 n))) (h : 0 ≤ n) : Pv P Γ F L ⟨dst, .binOp .shl t x y t2, ty, pos, aft, g⟩ (.val (.int k (k.wrap (m * 2 ^ Min.min n.toNat k.bits)))) := fun ρ w hst =>
  ⟨_, by simp [execOp, hst.evv (x := x) (by simp [Op.operands]) hx, hst.evv (x := y) (by simp [Op.operands]) hy, eqGuard_none (P := P) (w := w) (u := .int k m) rfl (by simp), binOp, Op.shift, Int.not_lt.2 h], .val _⟩
theorem Cx.shl (hx : ev F x = some (.val (.int k m))) (hy : ev F y = some (.val (.int k2 n))) (h : 0 ≤ n) {d0 : Nat} {K : List (Nat × SV) → Prop} (hlt : Nat.blt d0 Γ.nt = true) (hr : SegC P Γ ops L ((d0, (.val (.int k (k.wrap (m * 2 ^ Min.min n.toNat k.bits))))) :: F) rest K) : SegC P Γ ops L F (⟨some d0, .binOp .shl t x y t2, ty, pos, aft, none⟩ :: rest) K :=
  SegC.q (Qs.pv (by apply Pv.shl <;> assumption)) hlt hr
theorem Jx.shl (hx : ev F x = some (.val (.int k m))) (hy : ev F y = some (.val (.int k2 n))) (h : 0 ≤ n) {d0 : Nat} (hlt : Nat.blt d0 Γ.nt = true) (k : J P Γ ops Q ((d0, (.val (.int k (k.wrap (m * 2 ^ Min.min n.toNat k.bits))))) :: F) L rest) : J P Γ ops Q F L (⟨some d0, .binOp .shl t x y t2, ty, pos, aft, none⟩ :: rest) :=
  J.pv (by apply Pv.shl <;> assumption) hlt k

theorem Pv.shr (hx : ev F x = some (.val (.int k m))) (hy : ev F y = some (.val (.int k2 n))) (h : 0 ≤ n) : Pv P Γ F L ⟨dst, .binOp .shr t x y t2, ty, pos, aft, g⟩ (.val (.int k (m.fdiv (2 ^ Min.min n.toNat k.bits)))) := fun ρ w hst =>
  ⟨_, by simp [execOp, hst.evv (x := x) (by simp [Op.operands]) hx, hst.evv (x := y) (by simp [Op.operands]) hy, eqGuard_none (P := P) (w := w) (u := .int k m) rfl (by simp), binOp, Op.shift, Int.not_lt.2 h], .val _⟩
theorem Cx.shr (hx : ev F x = some (.val (.int k m))) (hy : ev F y = some (.val (.int k2 n))) (h : 0 ≤ n) {d0 : Nat} {K : List (Nat × SV) → Prop} (hlt : Nat.blt d0 Γ.nt = true) (hr : SegC P Γ ops L ((d0, (.val (.int k (m.fdiv (2 ^ Min.min n.toNat k.bits))))) :: F) rest K) : SegC P Γ ops L F (⟨some d0, .binOp .shr t x y t2, ty, pos, aft, none⟩ :: rest) K :=
  SegC.q (Qs.pv (by apply Pv.shr <;> assumption)) hlt hr
theorem Jx.shr (hx : ev F x = some (.val (.int k m))) (hy : ev F y = some (.val (.int k2 n))) (h : 0 ≤ n) {d0 : Nat} (hlt : Nat.blt d0 Γ.nt = true) (k : J P Γ ops Q ((d0, (.val (.int k (m.fdiv (2 ^ Min.min n.toNat k.bits))))) :: F) L rest) : J P Γ ops Q F L (⟨some d0, .binOp .shr t x y t2, ty, pos, aft, none⟩ :: rest) :=
  J.pv (by apply Pv.shr <;> assumption) hlt k

variable (hx : ev F x = some (.val (.int k m))) (hy : ev F y = some (.val (.int k n)))
include hx hy
theorem Pv.band : Pv P Γ F L ⟨dst, .binOp .and t x y t2, ty, pos, aft, g⟩ (.val (.int k (k.wrap (BitVec.ofInt k.bits m &&& BitVec.ofInt k.bits n).toNat))) := Pv.intOp hx hy fun w => by simp [binOp, Op.intBits]
theorem Cx.band  {d0 : Nat} {K : List (Nat × SV) → Prop} (hlt : Nat.blt d0 Γ.nt = true) (hr : SegC P Γ ops L ((d0, (.val (.int k (k.wrap (BitVec.ofInt k.bits m &&& BitVec.ofInt k.bits n).toNat)))) :: F) rest K) : SegC P Γ ops L F (⟨some d0, .binOp .and t x y t2, ty, pos, aft, none⟩ :: rest) K :=
  SegC.q (Qs.pv (by apply Pv.band <;> assumption)) hlt hr
theorem Jx.band  {d0 : Nat} (hlt : Nat.blt d0 Γ.nt = true) (k : J P Γ ops Q ((d0, (.val (.int k (k.wrap (BitVec.ofInt k.bits m &&& BitVec.ofInt k.bits n).toNat)))) :: F) L rest) : J P Γ ops Q F L (⟨some d0, .binOp .and t x y t2, ty, pos, aft, none⟩ :: rest) :=
  J.pv (by apply Pv.band <;> assumption) hlt k

theorem Pv.bor : Pv P Γ F L ⟨dst, .binOp .or t x y t2, ty, pos, aft, g⟩ (.val (.int k (k.wrap (BitVec.ofInt k.bits m ||| BitVec.ofInt k.bits n).toNat))) := Pv.intOp hx hy fun w => by simp [binOp, Op.intBits]
theorem Cx.bor  {d0 : Nat} {K : List (Nat × SV) → Prop} (hlt : Nat.blt d0 Γ.nt = true) (hr : SegC P Γ ops L ((d0, (.val (.int k (k.wrap (BitVec.ofInt k.bits m ||| BitVec.ofInt k.bits n).toNat)))) :: F) rest K) : SegC P Γ ops L F (⟨some d0, .binOp .or t x y t2, ty, pos, aft, none⟩ :: rest) K :=
  SegC.q (Qs.pv (by apply Pv.bor <;> assumption)) hlt hr
theorem Jx.bor  {d0 : Nat} (hlt : Nat.blt d0 Γ.nt = true) (k : J P Γ ops Q ((d0, (.val (.int k (k.wrap (BitVec.ofInt k.bits m ||| BitVec.ofInt k.bits n).toNat)))) :: F) L rest) : J P Γ ops Q F L (⟨some d0, .binOp .or t x y t2, ty, pos, aft, none⟩ :: rest) :=
  J.pv (by apply Pv.bor <;> assumption) hlt k

theorem Pv.bxor : Pv P Γ F L ⟨dst, .binOp .xor t x y t2, ty, pos, aft, g⟩ (.val (.int k (k.wrap (BitVec.ofInt k.bits m ^^^ BitVec.ofInt k.bits n).toNat))) := Pv.intOp hx hy fun w => by simp [binOp, Op.intBits]
theorem Cx.bxor  {d0 : Nat} {K : List (Nat × SV) → Prop} (hlt : Nat.blt d0 Γ.nt = true) (hr : SegC P Γ ops L ((d0, (.val (.int k (k.wrap (BitVec.ofInt k.bits m ^^^ BitVec.ofInt k.bits n).toNat)))) :: F) rest K) : SegC P Γ ops L F (⟨some d0, .binOp .xor t x y t2, ty, pos, aft, none⟩ :: rest) K :=
  SegC.q (Qs.pv (by apply Pv.bxor <;> assumption)) hlt hr
theorem Jx.bxor  {d0 : Nat} (hlt : Nat.blt d0 Γ.nt = true) (k : J P Γ ops Q ((d0, (.val (.int k (k.wrap (BitVec.ofInt k.bits m ^^^ BitVec.ofInt k.bits n).toNat)))) :: F) L rest) : J P Γ ops Q F L (⟨some d0, .binOp .xor t x y t2, ty, pos, aft, none⟩ :: rest) :=
  J.pv (by apply Pv.bxor <;> assumption) hlt k

end
end
end Go.Sse
