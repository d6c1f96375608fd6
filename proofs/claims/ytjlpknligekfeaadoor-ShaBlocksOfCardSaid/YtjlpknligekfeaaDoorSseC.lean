/-
  What a function does, as a contract: its arguments and what it is lent, its result and what it hands back; how a contract is proved and used.
-/
import Derived.Test.YtjlpknligekfeaaDoorSseB
namespace Go.Sse
open Go
set_option linter.unusedVariables false

/-- What stands behind a call: its result, what it hands back, and the world. -/
def RetP (Z : Nat → Prop) (w0 : World) (L0 : List Own) (R : SV → List Own → Prop) (e : Ending) (w : World) : Prop :=
  ∃ v s L, e = .returned v ∧ R s L ∧ Rel (ZL Z L) w s v ∧ WSt ⟨Z, w0, inF L0, 0, []⟩ L w

/-- The package variables that nobody changes: where each lies, and its cells. -/
class Gl (P : Program) where gl : List (Nat × List Value)
/-- They are as they are at a call's beginning, and none of the call's business. -/
class Globs (P : Program) [Gl P] (Γ : Ctx) : Prop where
  ok : ∀ x ∈ Gl.gl P, x.1 < Γ.w0.heap.size ∧ ¬ Γ.Fp x.1 ∧ ∀ i v, x.2[i]? = some v → Γ.w0.cell? ⟨x.1, i, none⟩ = some v

theorem Globs.at {P : Program} [Gl P] {Γ : Ctx} [h : Globs P Γ] {L : List Own} {w : World} (hws : WSt Γ L w) {x : Nat × List Value} (hx : x ∈ Gl.gl P) :
    x.1 < w.heap.size ∧ ¬ inF L x.1 ∧ ∀ i v, x.2[i]? = some v → w.cell? ⟨x.1, i, none⟩ = some v := by
  obtain ⟨h1, h2, h3⟩ := h.ok x hx
  refine ⟨Nat.lt_of_lt_of_le h1 hws.size, fun hi => ?_, fun i v hv => ?_⟩
  · rcases (hws.foot _ hi).2 with h | h
    · exact h2 h
    · omega
  · rw [World.cell?_of_block (w := Γ.w0) (a := ⟨x.1, i, none⟩) (hws.keep x.1 h1 h2)]
    exact h3 i v hv

structure FnC (P : Program) [Gl P] (f : Nat) (args : List SV) (L : List Own) (R : SV → List Own → Prop) : Prop where
  go : ∀ (Z : Nat → Prop) (w : World) (vs : List Value), vs.length = args.length → (∀ j, j < args.length → Rel (ZL Z L) w (args.getD j .any) (vs.getD j undef)) →
    (∀ b, Z b → b < w.heap.size) → (foots L).Nodup → (∀ b, inF L b → ¬ Z b) → (∀ o ∈ L, o.holds (ZL Z L) w) →
    (∀ x ∈ Gl.gl P, x.1 < w.heap.size ∧ ¬ inF L x.1 ∧ ∀ i v, x.2[i]? = some v → w.cell? ⟨x.1, i, none⟩ = some v) → Calls P f vs.toArray w (RetP Z w L R)

theorem FnC.mono {P : Program} [Gl P] {f : Nat} {args : List SV} {L : List Own} {R R' : SV → List Own → Prop} (h : FnC P f args L R) (hr : ∀ s L', R s L' → R' s L') : FnC P f args L R' :=
  ⟨fun Z w vs h1 h2 h3 h4 h5 h6 h7 => (h.go Z w vs h1 h2 h3 h4 h5 h6 h7).mono fun e w' ⟨v, s, L', a, b, c, d⟩ => ⟨v, s, L', a, hr _ _ b, c, d⟩⟩

def argF : Nat → List SV → List (Nat × SV)
  | _, [] => []
  | k, s :: r => (k, s) :: argF (k + 1) r

theorem look_argF : ∀ (l : List SV) (k i : Nat) (s : SV), look (argF k l) i = some s → ∃ j, i = k + j ∧ l[j]? = some s
  | [], k, i, s, h => by simp [argF, look] at h
  | t :: r, k, i, s, h => by
    simp only [argF, look] at h
    cases hb : Nat.beq k i with
    | true =>
      rw [hb] at h
      simp only [cond_true, Option.some.injEq] at h
      exact ⟨0, by have := Nat.eq_of_beq_eq_true hb; omega, by simp [h]⟩
    | false =>
      rw [hb] at h
      obtain ⟨j, hj, hs⟩ := look_argF r (k + 1) i s h
      exact ⟨j + 1, by omega, by simpa using hs⟩

theorem FnC.intro {P : Program} [Gl P] {f : Nat} {fn : Func} {c : Code} {args : List SV} {L : List Own} {R : SV → List Own → Prop} {n : Nat} (hf : P.funcs[f]? = some fn) (hb : fn.body = some c)
    (hn : fn.ntmps = n) (ha : Nat.ble args.length n = true) (h : ∀ Z w0, Globs P ⟨Z, w0, inF L, n, []⟩ → W P ⟨Z, w0, inF L, n, []⟩ (bodyPost P fn (RetP Z w0 L R)) (argF 0 args) L c) : FnC P f args L R := by
  have ha := Nat.le_of_ble_eq_true ha
  refine ⟨fun Z w vs hl hr hz hnd hd ho hgl => calls_of_wp hf hb ?_⟩
  refine (h Z w ⟨hgl⟩).go _ _ ⟨⟨rfl, rfl, rfl, Nat.le_refl _, fun _ _ _ => rfl, hz, hnd, fun b hi => ⟨hd b hi, .inl hi⟩, ho⟩, ?_, rfl, ?_⟩
  · subst hn; simp; omega
  · intro i s hi
    obtain ⟨j, rfl, hj⟩ := look_argF args 0 i s hi
    have hlt : j < args.length := by
      rcases Nat.lt_or_ge j args.length with h | h
      · exact h
      · simp [List.getElem?_eq_none h] at hj
    have := hr j hlt
    rw [List.getD_eq_getElem?_getD, hj] at this
    have hg : (vs.toArray ++ Array.replicate (fn.ntmps - vs.toArray.size) undef).getD (0 + j) undef = vs.getD j undef := by
      rw [Array.getD_eq_getD_getElem?, Array.getElem?_append_left (by simp; omega)]
      simp [List.getD_eq_getElem?_getD]
    show Rel _ _ _ ((vs.toArray ++ Array.replicate (fn.ntmps - vs.toArray.size) undef).getD (0 + j) undef)
    rw [hg]
    exact this

/-- A function's results. -/
inductive ResOK (P : Program) (F : List (Nat × SV)) (L : List Own) : List ResultVar → List SV → Prop
  | nil : ResOK P F L [] []
  | tmp {t : Nat} {s : SV} {r : List ResultVar} {ss : List SV} (h : look F t = some s) (hr : ResOK P F L r ss) : ResOK P F L (.tmp t :: r) (s :: ss)
  | cell {t ty b : Nat} {T : TypeId} {cs : List SV} {r : List ResultVar} {ss : List SV} (h : look F t = some (.val (.pointer (some ⟨b, 0, none⟩)))) (i : Nat) (hi : L[i]? = some (.obj b T cs))
      (hag : TAg P ty cs.length) (hr : ResOK P F L r ss) : ResOK P F L (.cell t ty :: r) (.agg cs :: ss)
  | cell1 {t ty b : Nat} {T : TypeId} {s : SV} {r : List ResultVar} {ss : List SV} (h : look F t = some (.val (.pointer (some ⟨b, 0, none⟩)))) (i : Nat) (hi : L[i]? = some (.obj b T [s]))
      (hsc : TSc P ty) (hr : ResOK P F L r ss) : ResOK P F L (.cell t ty :: r) (s :: ss)

theorem isAgg_of_ag {P : Program} {T n : Nat} (h : TAg P T n) (w : World) : (isAgg T).run P w = .ok true w := by
  obtain ⟨h1, h2⟩ := h.ok
  cases hu : P.underlying T with
  | none => simp [hu] at h1
  | some d =>
    rw [hu] at h1
    unfold isAgg
    rw [Sem.run_bind, run_underlying hu w]
    cases d <;> simp_all
theorem sizeOf_of {P : Program} {T n : Nat} (h : (P.info? T).map (·.size) = some n) (w : World) : (sizeOf T).run P w = .ok n w := by
  cases hq : P.info? T with
  | none => simp [hq] at h
  | some i => simp [hq] at h; simp [sizeOf, typeInfo, hq, h]
theorem isAgg_of_sc {P : Program} {T : Nat} (h : TSc P T) (w : World) : (isAgg T).run P w = .ok false w := by
  obtain ⟨h1, h2⟩ := h.ok
  cases hu : P.underlying T with
  | none => simp [hu] at h1
  | some d =>
    rw [hu] at h1
    unfold isAgg
    rw [Sem.run_bind, run_underlying hu w]
    cases d <;> simp_all

/-- A whole variable, or a part of one, read. -/
theorem run_loadVar_agg {P : Program} {T n : Nat} (h : TAg P T n) (w : World) (b o : Nat) (cs : List Value) (hl : cs.length = n) (hc : ∀ j, j < n → w.cell? ⟨b, o + j, none⟩ = some (cs.getD j undef)) :
    (loadVar T ⟨b, o, none⟩).run P w = .ok (.agg cs.toArray) w := by
  have hload : (loadCells ⟨b, o, none⟩ cs.length).run P w = .ok cs.toArray w :=
    run_loadCells_list (P := P) w ⟨b, o, none⟩ cs (fun j v hv => by
      have hlt : j < cs.length := by
        rcases Nat.lt_or_ge j cs.length with h | h
        · exact h
        · simp [List.getElem?_eq_none h] at hv
      rw [add_plain, hc j (by omega), List.getD_eq_getElem?_getD, hv]; rfl)
  rw [hl] at hload
  simp [loadVar, isAgg_of_ag h, sizeOf_of h.ok.2, hload]
theorem run_loadVar_sc {P : Program} {T : Nat} (h : TSc P T) (w : World) (a : Addr) (v : Value) (hc : w.cell? a = some v) : (loadVar T a).run P w = .ok v w := by
  simp [loadVar, isAgg_of_sc h, hc]

theorem obj_cell {w : World} {b : Nat} {vs : Array Value} {T : TypeId} {fz : Nat × Nat} (h : w.heap[b]? = some (.cells vs T fz)) (o : Nat) : w.cell? ⟨b, o, none⟩ = vs[o]? := cell_of_row w b o vs T fz h

theorem mem_of_idx {L : List Own} {i : Nat} {o : Own} (h : L[i]? = some o) : o ∈ L := List.mem_of_getElem? h

def resOf (tmps : Array Value) : ResultVar → Sem Value
  | .tmp t => pure (tmps.getD t undef)
  | .cell x t => do loadVar t (← asAddr (tmps.getD x undef))
theorem results_eq (fn : Func) (tmps : Array Value) : results fn tmps = (do let vs ← fn.results.mapM (resOf tmps); pure (if h : vs.size = 1 then vs[0] else .tuple vs)) := by
  unfold results
  congr 1

theorem res_run {P : Program} {Γ : Ctx} {F : List (Nat × SV)} {L : List Own} {a : Act} {w : World} (hst : St Γ F L a w) :
    ∀ {rs : List ResultVar} {ss : List SV}, ResOK P F L rs ss → ∃ vs : List Value, vs.length = ss.length ∧
      ((rs.mapM (resOf a.tmps)).run P w = .ok vs w) ∧
      ∀ j, j < ss.length → Rel (ZL Γ.Z L) w (ss.getD j .any) (vs.getD j undef) := by
  intro rs ss h
  induction h with
  | nil => exact ⟨[], rfl, by simp, by simp⟩
  | @tmp t s r ss hl hr ih =>
    obtain ⟨vs, h1, h2, h3⟩ := ih
    refine ⟨a.tmps.getD t undef :: vs, by simp [h1], ?_, ?_⟩
    · simp only [List.mapM_cons, resOf, Sem.run_bind, Sem.run_pure, Result.andThen_ok, h2]
    · intro j hj
      cases j with
      | zero => simpa using hst.fr t s hl
      | succ j => simpa using h3 j (by simpa using hj)
  | @cell t ty b T cs r ss hl i hi hag hr ih =>
    obtain ⟨vs, h1, h2, h3⟩ := ih
    obtain ⟨us, fz, hb, hu, hrl⟩ := hst.ws.holds _ (mem_of_idx hi)
    have hp := (hst.fr t _ hl).val_eq
    have hload : (loadVar ty ⟨b, 0, none⟩).run P w = .ok (.agg us.toList.toArray) w :=
      run_loadVar_agg hag w b 0 us.toList hrl.1 (fun j hj => by
        rw [Nat.zero_add, obj_cell hb]
        have : j < us.size := by have := hrl.1; simp at this; omega
        simp [this])
    refine ⟨.agg us.toList.toArray :: vs, by simp [h1], ?_, ?_⟩
    · have hr1 : (resOf a.tmps (.cell t ty)).run P w = .ok (.agg us.toList.toArray) w := by simp only [resOf, hp, asAddr, Sem.run_bind, Sem.run_pure, Result.andThen_ok, hload]
      simp only [List.mapM_cons, Sem.run_bind, Sem.run_pure, Result.andThen_ok, h2, hr1]
    · intro j hj
      cases j with
      | zero => simpa using Rel.agg cs us.toList hrl.1 hrl.2.1 hrl.2.2
      | succ j => simpa using h3 j (by simpa using hj)
  | @cell1 t ty b T s r ss hl i hi hsc hr ih =>
    obtain ⟨vs, h1, h2, h3⟩ := ih
    obtain ⟨us, fz, hb, hu, hrl⟩ := hst.ws.holds _ (mem_of_idx hi)
    have hp := (hst.fr t _ hl).val_eq
    have hlen : us.size = 1 := by simpa using hrl.1
    have hload : (loadVar ty ⟨b, 0, none⟩).run P w = .ok (us.toList.getD 0 undef) w :=
      run_loadVar_sc hsc w _ _ (by
        rw [obj_cell hb]
        simp [hlen])
    refine ⟨us.toList.getD 0 undef :: vs, by simp [h1], ?_, ?_⟩
    · have hr1 : (resOf a.tmps (.cell t ty)).run P w = .ok (us.toList.getD 0 undef) w := by simp only [resOf, hp, asAddr, Sem.run_bind, Sem.run_pure, Result.andThen_ok, hload]
      simp only [List.mapM_cons, Sem.run_bind, Sem.run_pure, Result.andThen_ok, h2, hr1]
    · intro j hj
      cases j with
      | zero => simpa using hrl.2.2 0 (by simp)
      | succ j => simpa using h3 j (by simpa using hj)

def oneOr : List SV → SV
  | [s] => s
  | ss => .tup ss

theorem run_results {P : Program} {Γ : Ctx} {F : List (Nat × SV)} {L : List Own} {a : Act} {w : World} (hst : St Γ F L a w) {fn : Func} {ss : List SV} (h : ResOK P F L fn.results.toList ss) :
    ∃ v, (results fn a.tmps).run P w = .ok v w ∧ Rel (ZL Γ.Z L) w (oneOr ss) v := by
  obtain ⟨vs, h1, h2, h3⟩ := res_run hst h
  have hm : (fn.results.mapM (resOf a.tmps)).run P w = .ok vs.toArray w := by
    rw [Array.mapM_eq_mapM_toList]
    simp only [Sem.run_map, h2, Result.andThen_ok]
  have h4 : (results fn a.tmps).run P w = .ok (if h : vs.toArray.size = 1 then vs.toArray[0] else .tuple vs.toArray) w := by
    rw [results_eq, Sem.run_bind, hm]
    rfl
  refine ⟨_, h4, ?_⟩
  match ss, vs, h1, h3 with
  | [s], [v], _, h3 => simpa [oneOr] using h3 0 (by simp)
  | [], [], _, h3 => simpa [oneOr] using Rel.tup (Z := ZL Γ.Z L) (w := w) [] [] rfl (by simp)
  | s :: t :: r, v :: u :: q, h1, h3 =>
    have : ¬ (v :: u :: q).toArray.size = 1 := by simp
    rw [dif_neg this]
    exact Rel.tup _ _ h1 h3

section
variable {P : Program} {Z : Nat → Prop} {w0 : World} {n : Nat} {F : List (Nat × SV)} {L L0 : List Own} {R : SV → List Own → Prop} {fn : Func} {ss : List SV}
theorem N.ret {rs : List ResultVar} (hrs : fn.results = rs.toArray) (h : ResOK P F L rs ss) (hR : R (oneOr ss) L) : N ⟨Z, w0, inF L0, n, []⟩ (bodyPost P fn (RetP Z w0 L0 R) .ret) F L :=
  ⟨fun a w hst => by
    obtain ⟨v, h1, h2⟩ := run_results hst (fn := fn) (ss := ss) (by rw [hrs]; exact h)
    exact ⟨hst.df, v, h1, v, _, L, rfl, hR, h2, ⟨hst.ws.os, hst.ws.tape, hst.ws.output, hst.ws.size, hst.ws.keep, hst.ws.zlt, hst.ws.nodup, hst.ws.foot, hst.ws.holds⟩⟩⟩
theorem N.fin {rs : List ResultVar} (hrs : fn.results = rs.toArray) (h : ResOK P F L rs ss) (hR : R (oneOr ss) L) : N ⟨Z, w0, inF L0, n, []⟩ (bodyPost P fn (RetP Z w0 L0 R) .normal) F L :=
  ⟨fun a w hst => by
    obtain ⟨v, h1, h2⟩ := run_results hst (fn := fn) (ss := ss) (by rw [hrs]; exact h)
    exact ⟨hst.df, v, h1, v, _, L, rfl, hR, h2, ⟨hst.ws.os, hst.ws.tape, hst.ws.output, hst.ws.size, hst.ws.keep, hst.ws.zlt, hst.ws.nodup, hst.ws.foot, hst.ws.holds⟩⟩⟩
end

theorem rel_less {Z : Nat → Prop} {L1 L : List Own} (hs : ∀ b, inF L1 b → inF L b) {w : World} {s : SV} {v : Value} (h : Rel (ZL Z L) w s v) : Rel (ZL Z L1) w s v :=
  h.stable fun b _ hn => ⟨rfl, fun hc => hn (by rcases hc with hc | hc; exact .inl hc; exact .inr (hs b hc))⟩

-- a call

theorem inF_append {A B : List Own} {b : Nat} : inF (A ++ B) b ↔ inF A b ∨ inF B b := by simp [inF, foots_append]

/-- A contract at work: from the caller's state to the caller's state. -/
theorem call_step {P : Program} {Γ : Ctx} {Lc Lr : List Own} {w w' : World} {v : Value} {s : SV} {L' : List Own} {R : SV → List Own → Prop} (hws : WSt Γ (Lc ++ Lr) w)
    (hrel : Rel (ZL (ZL Γ.Z Lr) L') w' s v) (hp : WSt ⟨ZL Γ.Z Lr, w, inF Lc, 0, []⟩ L' w') : Step Γ (Lc ++ Lr) (L' ++ Lr) w w' ∧ Rel (ZL Γ.Z (L' ++ Lr)) w' s v := by
  have hz : ∀ (A : List Own) b, ZL (ZL Γ.Z Lr) A b ↔ ZL Γ.Z (A ++ Lr) b := by
    intro A b
    simp only [ZL, inF_append]
    constructor
    · rintro ((h | h) | h) <;> simp [h]
    · rintro (h | h | h) <;> simp [h]
  have hsame : ∀ b, b < w.heap.size → ¬ inF Lc b → w'.heap[b]? = w.heap[b]? := fun b hb hi => hp.keep b hb hi
  have hnd := hws.nodup
  rw [foots_append, List.nodup_append] at hnd
  obtain ⟨hndc, hndr, hdis⟩ := hnd
  have hfresh : ∀ b, inF L' b → inF Lc b ∨ w.heap.size ≤ b := fun b hb => (hp.foot b hb).2
  have hr' : ∀ {s v}, Rel (ZL (ZL Γ.Z Lr) L') w' s v → Rel (ZL Γ.Z (L' ++ Lr)) w' s v := fun h => h.stable fun b hb hn => ⟨rfl, fun hc => hn ((hz L' b).2 hc)⟩
  have hstay : ∀ b, b < w.heap.size → ¬ ZL Γ.Z (Lc ++ Lr) b → w'.heap[b]? = w.heap[b]? ∧ ¬ ZL Γ.Z (L' ++ Lr) b := by
    intro b hb hn
    have hc : ¬ inF Lc b := fun h => hn (.inr (inF_append.2 (.inl h)))
    refine ⟨hsame b hb hc, ?_⟩
    rintro (h | h)
    · exact hn (.inl h)
    · rcases inF_append.1 h with h | h
      · rcases hfresh b h with h | h
        · exact hc h
        · omega
      · exact hn (.inr (inF_append.2 (.inr h)))
  refine ⟨⟨?_, hp.size, ?_, ?_⟩, hr' hrel⟩
  · refine ⟨hp.os.trans hws.os, hp.tape.trans hws.tape, hp.output.trans hws.output, Nat.le_trans hws.size hp.size, ?_, hws.zlt, ?_, ?_, ?_⟩
    · intro b hb hF
      have hlt : b < w.heap.size := Nat.lt_of_lt_of_le hb hws.size
      have hc : ¬ inF Lc b := fun h => by
        rcases (hws.foot b (inF_append.2 (.inl h))).2 with h | h
        · exact hF h
        · omega
      exact (hsame b hlt hc).trans (hws.keep b hb hF)
    · rw [foots_append, List.nodup_append]
      refine ⟨hp.nodup, hndr, ?_⟩
      intro x hx y hy hxy
      subst hxy
      rcases hfresh x hx with h | h
      · exact hdis x h x hy rfl
      · have := hws.foot_lt (inF_append.2 (.inr hy) : inF (Lc ++ Lr) x); omega
    · intro b hb
      rcases inF_append.1 hb with h | h
      · have h1 := hp.foot b h
        refine ⟨fun hZ => h1.1 (.inl hZ), ?_⟩
        rcases h1.2 with h2 | h2
        · exact (hws.foot b (inF_append.2 (.inl h2))).2
        · exact .inr (Nat.le_trans hws.size h2)
      · exact hws.foot b (inF_append.2 (.inr h))
    · intro o ho
      rcases List.mem_append.1 ho with h | h
      · refine Own.stable (hp.holds o h) (fun _ _ => rfl) (Nat.le_refl _) (fun b hb hn => ⟨rfl, fun hc => hn ((hz L' b).2 hc)⟩)
      · refine Own.stable (hws.holds o (List.mem_append.2 (.inr h))) (fun b hb => ?_) hp.size hstay
        have hin : inF Lr b := List.mem_flatMap.2 ⟨o, h, hb⟩
        refine hsame b (hws.foot_lt (inF_append.2 (.inr hin) : inF (Lc ++ Lr) b)) (fun hc => hdis b hc b hin rfl)
  · intro b hb hn
    exact hsame b hb (fun h => hn (inF_append.2 (.inl h)))
  · intro b hb
    rcases inF_append.1 hb with h | h
    · rcases hfresh b h with h | h
      · exact .inl (inF_append.2 (.inl h))
      · exact .inr h
    · exact .inl (inF_append.2 (.inr h))

/-- What is offered to a call. -/
inductive Args (F : List (Nat × SV)) : List Operand → List SV → Prop
  | nil : Args F [] []
  | cons {x : Operand} {s : SV} {xs : List Operand} {ss : List SV} (h : ev F x = some s) (hr : Args F xs ss) : Args F (x :: xs) (s :: ss)
  | sub {x : Operand} {s t : SV} {xs : List Operand} {ss : List SV} (h : ev F x = some t) (hs : Sub t s) (hr : Args F xs ss) : Args F (x :: xs) (s :: ss)

theorem args_rel {Γ : Ctx} {F : List (Nat × SV)} {L : List Own} {a : Act} {w : World} (hst : St Γ F L a w) : ∀ {xs : List Operand} {ss : List SV}, Args F xs ss →
    xs.length = ss.length ∧ ∀ j, j < ss.length → Rel (ZL Γ.Z L) w (ss.getD j .any) ((xs.map a.eval).getD j undef) := by
  intro xs ss h
  induction h with
  | nil => exact ⟨rfl, by simp⟩
  | cons h hr ih =>
    refine ⟨by simp [ih.1], fun j hj => ?_⟩
    cases j with
    | zero => simpa using hst.ev h
    | succ j => simpa using ih.2 j (by simpa using hj)
  | sub h hs hr ih =>
    refine ⟨by simp [ih.1], fun j hj => ?_⟩
    cases j with
    | zero => simpa using hs _ _ _ (hst.ev h)
    | succ j => simpa using ih.2 j (by simpa using hj)

theorem calls_at {P : Program} [Gl P] {Γ : Ctx} [hG : Globs P Γ] {Lc Lr : List Own} {w : World} {f : Nat} {args : List SV} {R : SV → List Own → Prop} {vs : List Value} (hF : FnC P f args Lc R) (hws : WSt Γ (Lc ++ Lr) w)
    (hl : vs.length = args.length) (hr : ∀ j, j < args.length → Rel (ZL Γ.Z (Lc ++ Lr)) w (args.getD j .any) (vs.getD j undef)) :
    Calls P f vs.toArray w fun e w' => ∃ v s L', e = .returned v ∧ R s L' ∧ Step Γ (Lc ++ Lr) (L' ++ Lr) w w' ∧ Rel (ZL Γ.Z (L' ++ Lr)) w' s v := by
  have hz : ∀ b, ZL (ZL Γ.Z Lr) Lc b → ZL Γ.Z (Lc ++ Lr) b := by
    intro b
    simp only [ZL, inF_append]
    rintro ((h | h) | h) <;> simp [h]
  have hnd := hws.nodup
  rw [foots_append, List.nodup_append] at hnd
  have hw : ∀ b, b < w.heap.size → ¬ ZL Γ.Z (Lc ++ Lr) b → w.heap[b]? = w.heap[b]? ∧ ¬ ZL (ZL Γ.Z Lr) Lc b := fun b _ hn => ⟨rfl, fun h => hn (hz b h)⟩
  refine (hF.go (ZL Γ.Z Lr) w vs hl (fun j hj => (hr j hj).stable hw) ?_ hnd.1 ?_ ?_ (fun x hx => ?_)).mono ?_
  · rintro b (h | h)
    · exact Nat.lt_of_lt_of_le (hws.zlt b h) hws.size
    · exact hws.foot_lt (inF_append.2 (.inr h) : inF (Lc ++ Lr) b)
  · rintro b h (h' | h')
    · exact (hws.foot b (inF_append.2 (.inl h))).1 h'
    · exact hnd.2.2 b h b h' rfl
  · exact fun o ho => Own.stable (hws.holds o (List.mem_append.2 (.inl ho))) (fun _ _ => rfl) (Nat.le_refl _) hw
  · obtain ⟨h1, h2, h3⟩ := Globs.at (P := P) hws hx
    exact ⟨h1, fun hi => h2 (inF_append.2 (.inl hi)), h3⟩
  · rintro e w' ⟨v, s, L', rfl, hR, hrel, hp⟩
    obtain ⟨h1, h2⟩ := call_step (P := P) (R := R) hws hrel hp
    exact ⟨v, s, L', rfl, hR, h1, h2⟩

theorem plain_call {P : Program} {f : FuncId} {fn : Func} (hf : P.funcs[f]? = some fn) (hb : fn.body.isSome = true) (hn : (fn.name == "runtime.NumGoroutine") = false) (args : Array Value) (w : World) :
    (callFunc f args).run P w = .ok (.enter f args) w := by
  have h1 : ¬ fn.body = none := by simpa [Option.isSome_iff_ne_none] using hb
  have h2 : ¬ fn.name = "runtime.NumGoroutine" := by simpa using hn
  simp [callFunc, hf, h1, h2]

/-- That a function can be called: it has a body. -/
class TFunc (P : Program) (f : Nat) : Prop where ok : (P.funcs[f]?).any (fun fn => fn.body.isSome && !(fn.name == "runtime.NumGoroutine")) = true

theorem run_callFunc {P : Program} {f : Nat} (h : TFunc P f) (args : Array Value) (w : World) : (callFunc f args).run P w = .ok (.enter f args) w := by
  have h1 := h.ok
  cases hf : P.funcs[f]? with
  | none => simp [hf] at h1
  | some fn =>
    simp only [hf, Option.any_some, Bool.and_eq_true, Bool.not_eq_true'] at h1
    exact plain_call hf h1.1 h1.2 args w

section
variable {P : Program} [Gl P] {Γ : Ctx} [Globs P Γ] {ops : Array Oper} {Q : Exit → Act → World → Prop} {F : List (Nat × SV)} {L : List Own} {rest : List Oper}
variable {dst : Option Tmp} {ty : TypeId} {pos : String} {aft : Array Edge} {g : Option (Nat × Bool)}

theorem OpS.call {f : Nat} [hT : TFunc P f] {xs : List Operand} {ts : Array TypeId} {args : List SV} {Lc Lr : List Own} {R : SV → List Own → Prop} (hF : FnC P f args Lc R) (hL : L = Lc ++ Lr) (ha : Args F xs args) :
    OpS P Γ ⟨dst, .call { callee := .value (.func f), args := xs.toArray, argTypes := ts }, ty, pos, aft, g⟩ F L (fun s L' => ∃ Lc', R s Lc' ∧ L' = Lc' ++ Lr) := by
  intro a w K Q hst hK
  subst hL
  obtain ⟨hl, hr⟩ := args_rel hst ha
  unfold Oper.wp
  have he : (execOp a.eval ⟨dst, .call { callee := .value (.func f), args := xs.toArray, argTypes := ts }, ty, pos, aft, g⟩).run P w = .ok (.enter f ((xs.map a.eval).toArray)) w := by
    simp [execOp, resolve, Act.eval, Deferred.ofValue, invoke, run_callFunc hT]
  rw [he, Oper.upon_enter]
  refine (calls_at hF hst.ws (by simp [hl]) hr).mono ?_
  rintro e w' ⟨v, s, L', rfl, hR, hs, hrel⟩
  exact hK v w' s _ ⟨L', hR, rfl⟩ hs hrel

theorem J.call {d f : Nat} [hT : TFunc P f] {xs : List Operand} {ts : Array TypeId} {args : List SV} {Lc Lr : List Own} {R : SV → List Own → Prop} (hF : FnC P f args Lc R) (hL : L = Lc ++ Lr) (ha : Args F xs args)
    (hlt : Nat.blt d Γ.nt = true) (h : ∀ s Lc', R s Lc' → J P Γ ops Q ((d, s) :: F) (Lc' ++ Lr) rest) :
    J P Γ ops Q F L (⟨some d, .call { callee := .value (.func f), args := xs.toArray, argTypes := ts }, ty, pos, aft, none⟩ :: rest) :=
  J.op (OpS.call hF hL ha) rfl rfl hlt (by rintro s L' ⟨Lc', hR, rfl⟩; exact h s Lc' hR)

theorem J.call0 {f : Nat} [hT : TFunc P f] {xs : List Operand} {ts : Array TypeId} {args : List SV} {Lc Lr : List Own} {R : SV → List Own → Prop} (hF : FnC P f args Lc R) (hL : L = Lc ++ Lr) (ha : Args F xs args)
    (h : ∀ s Lc', R s Lc' → J P Γ ops Q F (Lc' ++ Lr) rest) :
    J P Γ ops Q F L (⟨none, .call { callee := .value (.func f), args := xs.toArray, argTypes := ts }, ty, pos, aft, none⟩ :: rest) :=
  J.op0 (OpS.call hF hL ha) rfl rfl (by rintro s L' ⟨Lc', hR, rfl⟩; exact h s Lc' hR)
end
end Go.Sse
