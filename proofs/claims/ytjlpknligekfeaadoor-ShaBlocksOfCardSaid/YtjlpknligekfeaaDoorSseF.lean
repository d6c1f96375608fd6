/-
  Statements whose order Go leaves open: a run of operations that turn nothing that is owned gives, in whatever order, what it gives in the order of the text.
-/
import Derived.Test.YtjlpknligekfeaaDoorSseE
namespace Go.Sse
open Go
set_option linter.unusedVariables false
set_option linter.unusedSimpArgs false

theorem args_rel' {Γ : Ctx} {F : List (Nat × SV)} {L : List Own} {a : Act} {w : World} : ∀ {xs : List Operand} {ss : List SV}, Args F xs ss → (∀ x, x ∈ xs → ∀ s, ev F x = some s → Rel (ZL Γ.Z L) w s (a.eval x)) →
    xs.length = ss.length ∧ ∀ j, j < ss.length → Rel (ZL Γ.Z L) w (ss.getD j .any) ((xs.map a.eval).getD j undef) := by
  intro xs ss h
  induction h with
  | nil => exact fun _ => ⟨rfl, by simp⟩
  | cons h hr ih =>
    intro hx
    obtain ⟨i1, i2⟩ := ih (fun x hm => hx x (List.mem_cons_of_mem _ hm))
    refine ⟨by simp [i1], fun j hj => ?_⟩
    cases j with
    | zero => simpa using hx _ (List.mem_cons_self ..) _ h
    | succ j => simpa using i2 j (by simpa using hj)
  | sub h hs hr ih =>
    intro hx
    obtain ⟨i1, i2⟩ := ih (fun x hm => hx x (List.mem_cons_of_mem _ hm))
    refine ⟨by simp [i1], fun j hj => ?_⟩
    cases j with
    | zero => simpa using hs _ _ _ (hx _ (List.mem_cons_self ..) _ h)
    | succ j => simpa using i2 j (by simpa using hj)

theorem Qs.call {P : Program} [Gl P] {Γ : Ctx} [Globs P Γ] {F : List (Nat × SV)} {L : List Own} {dst : Option Tmp} {ty : TypeId} {pos : String} {aft : Array Edge} {g : Option (Nat × Bool)} {f : Nat} [hT : TFunc P f] {xs : List Operand} {ts : Array TypeId} {args : List SV} {Lc Lr : List Own}
    {R : SV → List Own → Prop} {sv : SV} (hF : FnC P f args Lc R) (hR : ∀ s L', R s L' → s = sv ∧ L' = Lc) (hL : L.Perm (Lc ++ Lr)) (ha : Args F xs args) :
    Qs P Γ F L ⟨dst, .call { callee := .value (.func f), args := xs.toArray, argTypes := ts }, ty, pos, aft, g⟩ sv := by
  intro a w K Q hws hx hK
  have hin : ∀ b, inF (Lc ++ Lr) b ↔ inF L b := fun b => (hL.flatMap_right _).mem_iff.symm
  have hst : ∀ b, b < w.heap.size → ¬ ZL Γ.Z L b → w.heap[b]? = w.heap[b]? ∧ ¬ ZL Γ.Z (Lc ++ Lr) b := fun b _ hn => ⟨rfl, fun hc => hn (by rcases hc with hc | hc; exact .inl hc; exact .inr ((hin b).1 hc))⟩
  obtain ⟨hl, hr⟩ := args_rel' (Γ := Γ) (L := L) (a := a) (w := w) ha (fun x hm => hx x (by simp [Op.operands, Call.operands, hm]))
  unfold Oper.wp
  have he : (execOp a.eval ⟨dst, .call { callee := .value (.func f), args := xs.toArray, argTypes := ts }, ty, pos, aft, g⟩).run P w = .ok (.enter f ((xs.map a.eval).toArray)) w := by
    simp [execOp, resolve, Act.eval, Deferred.ofValue, invoke, run_callFunc hT]
  rw [he, Oper.upon_enter]
  refine (calls_at hF (hws.perm hL) (by simp [hl]) (fun j hj => (hr j hj).stable hst)).mono ?_
  rintro e w' ⟨v, s, L', rfl, hRs, hs, hrel⟩
  obtain ⟨rfl, rfl⟩ := hR _ _ hRs
  have hws' := hs.ws.perm hL.symm
  have hst' : ∀ b, b < w'.heap.size → ¬ ZL Γ.Z (L' ++ Lr) b → w'.heap[b]? = w'.heap[b]? ∧ ¬ ZL Γ.Z L b := fun b _ hn => ⟨rfl, fun hc => hn (by rcases hc with hc | hc; exact .inl hc; exact .inr ((hin b).2 hc))⟩
  exact hK v w' ⟨hws', hs.size, fun b hb hn => hs.same b hb (fun h => hn ((hin b).1 h)), fun b hb => (hs.fresh b ((hin b).2 hb)).imp (hin b).1 id⟩ (hrel.stable hst')

-- the order of a region's operations

def rd (ops : Array Oper) (o : Oper) : List Nat :=
  (o.op.operands.toList.filterMap fun | .tmp t => some t | _ => none) ++ (match o.guard with | some (j, _) => (match ops[j]? with | some og => og.dst.toList | none => []) | none => [])

def dstAt (ops : Array Oper) (i : Nat) : Option Nat := (ops[i]?).bind (·.dst)

def chk (ops : Array Oper) (n0 n1 : Nat) : Bool :=
  Nat.ble n0 n1 && Nat.ble n1 ops.size &&
  ((List.range n0).all fun i => match ops[i]? with | none => false | some o => o.after.all fun e => !Region.binds .any e || Nat.blt e.on i) &&
  ((List.range' n0 (n1 - n0)).all fun i => match ops[i]? with
    | none => false
    | some o => (o.after.all fun e => !Region.binds .any e || Nat.blt e.on i) &&
      ((List.range' n0 (n1 - n0)).all fun j => Nat.beq j i || (!(dstAt ops j == dstAt ops i) &&
        (match dstAt ops j with
          | some t => if (rd ops o).contains t then (if Nat.blt j i then ((Region.before ops).getD i 0).testBit j else ((Region.before ops).getD j 0).testBit i) else true
          | none => true)))) &&
  ((List.range' n1 (ops.size - n1)).all fun k => (List.range' n0 (n1 - n0)).all fun i => ((Region.before ops).getD k 0).testBit i)

/-- Which operations are done, closed downwards. -/
def Closed (ops : Array Oper) (S : Nat → Bool) : Prop := ∀ i o, ops[i]? = some o → S i = true → ∀ e ∈ o.after, Region.binds .any e = true → S e.on = true

def beforeStep (acc : Array Nat) (o : Oper) : Nat := o.after.foldl (fun s e => if Region.binds .any e then s ||| 2 ^ e.on ||| acc.getD e.on 0 else s) 0

theorem beforeStep_bit (acc : Array Nat) (o : Oper) (j : Nat) (h : (beforeStep acc o).testBit j = true) : ∃ e ∈ o.after, Region.binds .any e = true ∧ (e.on = j ∨ (acc.getD e.on 0).testBit j = true) := by
  unfold beforeStep at h
  rw [← Array.foldl_toList] at h
  have key : ∀ (l : List Edge) (s : Nat), (l.foldl (fun s e => if Region.binds .any e then s ||| 2 ^ e.on ||| acc.getD e.on 0 else s) s).testBit j = true →
      s.testBit j = true ∨ ∃ e ∈ l, Region.binds .any e = true ∧ (e.on = j ∨ (acc.getD e.on 0).testBit j = true) := by
    intro l
    induction l with
    | nil => intro s hs; exact .inl hs
    | cons e l ih =>
      intro s hs
      simp only [List.foldl_cons] at hs
      rcases ih _ hs with h1 | ⟨e', he', h1⟩
      · by_cases hb : Region.binds .any e = true
        · simp only [hb, if_true, Nat.testBit_or, Bool.or_eq_true] at h1
          rcases h1 with (h1 | h1) | h1
          · exact .inl h1
          · rw [Nat.testBit_two_pow] at h1
            exact .inr ⟨e, List.mem_cons_self .., hb, .inl (by simpa using h1)⟩
          · exact .inr ⟨e, List.mem_cons_self .., hb, .inr h1⟩
        · rw [if_neg hb] at h1
          exact .inl h1
      · exact .inr ⟨e', List.mem_cons_of_mem _ he', h1⟩
  rcases key o.after.toList 0 h with h1 | ⟨e, he, h1⟩
  · simp at h1
  · exact ⟨e, by simpa using he, h1⟩

theorem before_bit (ops : Array Oper) : ∀ i j, ((Region.before ops).getD i 0).testBit j = true → ∃ o, ops[i]? = some o ∧ ∃ e ∈ o.after, Region.binds .any e = true ∧ (e.on = j ∨ (e.on < i ∧ ((Region.before ops).getD e.on 0).testBit j = true)) := by
  have key : ∀ (l : List Oper) (done : List Oper) (acc : Array Nat), acc.size = done.length →
      (∀ i j, (acc.getD i 0).testBit j = true → ∃ o, done[i]? = some o ∧ ∃ e ∈ o.after, Region.binds .any e = true ∧ (e.on = j ∨ (e.on < i ∧ (acc.getD e.on 0).testBit j = true))) →
      ∀ i j, ((l.foldl (fun acc o => acc.push (beforeStep acc o)) acc).getD i 0).testBit j = true → ∃ o, (done ++ l)[i]? = some o ∧ ∃ e ∈ o.after, Region.binds .any e = true ∧
        (e.on = j ∨ (e.on < i ∧ ((l.foldl (fun acc o => acc.push (beforeStep acc o)) acc).getD e.on 0).testBit j = true)) := by
    intro l
    induction l with
    | nil => intro done acc _ h i j hb; simpa using h i j hb
    | cons o l ih =>
      intro done acc hsz h i j hb
      have hpush : ∀ k, k < acc.size → (acc.push (beforeStep acc o)).getD k 0 = acc.getD k 0 := by
        intro k hk
        simp only [Array.getD_eq_getD_getElem?, Array.getElem?_push]
        rw [if_neg (by omega)]
      have := ih (done ++ [o]) (acc.push (beforeStep acc o)) (by simp [hsz]) (by
        intro i j hb
        rcases Nat.lt_trichotomy i acc.size with hi | hi | hi
        · rw [hpush i hi] at hb
          obtain ⟨o', ho', e, he, hbe, h1⟩ := h i j hb
          refine ⟨o', by rw [List.getElem?_append_left (by omega)]; exact ho', e, he, hbe, ?_⟩
          rcases h1 with h1 | ⟨h1, h2⟩
          · exact .inl h1
          · exact .inr ⟨h1, by rw [hpush _ (by omega)]; exact h2⟩
        · subst hi
          have : (acc.push (beforeStep acc o)).getD acc.size 0 = beforeStep acc o := by simp [Array.getD_eq_getD_getElem?]
          rw [this] at hb
          obtain ⟨e, he, hbe, h1⟩ := beforeStep_bit acc o j hb
          refine ⟨o, by rw [hsz]; simp, e, he, hbe, ?_⟩
          rcases h1 with h1 | h1
          · exact .inl h1
          · have hlt : e.on < acc.size := by
              rcases Nat.lt_or_ge e.on acc.size with h2 | h2
              · exact h2
              · simp [Array.getD_eq_getD_getElem?, Array.getElem?_eq_none h2] at h1
            exact .inr ⟨hlt, by rw [hpush _ hlt]; exact h1⟩
        · have : (acc.push (beforeStep acc o)).getD i 0 = 0 := by simp only [Array.getD_eq_getD_getElem?]; rw [Array.getElem?_eq_none (by simp; omega)]; rfl
          rw [this] at hb
          simp at hb) i j (by simpa using hb)
      simpa using this
  intro i j hb
  have he : Region.before ops = ops.toList.foldl (fun acc o => acc.push (beforeStep acc o)) #[] := by
    unfold Region.before
    rw [← Array.foldl_toList]
    rfl
  rw [he] at hb ⊢
  have := key ops.toList [] #[] rfl (by intro i j h; simp [Array.getD_eq_getD_getElem?] at h) i j hb
  simpa using this

/-- What stands ahead of an operation that is done, or may be done, is done. -/
theorem before_done {ops : Array Oper} {S : Nat → Bool} (hS : Closed ops S) : ∀ i, (∀ o, ops[i]? = some o → ∀ e ∈ o.after, Region.binds .any e = true → S e.on = true) → ∀ j, ((Region.before ops).getD i 0).testBit j = true → S j = true := by
  intro i
  induction i using Nat.strongRecOn with
  | _ i ih =>
    intro hd j hb
    obtain ⟨o, ho, e, he, hbe, h1⟩ := before_bit ops i j hb
    have hSe := hd o ho e he hbe
    rcases h1 with rfl | ⟨hlt, h1⟩
    · exact hSe
    · exact ih e.on hlt (fun o' ho' e' he' hb' => hS e.on o' ho' hSe e' he' hb') j h1

section
variable {P : Program} {Γ : Ctx} {ops : Array Oper} {Q : Exit → Act → World → Prop} {F : List (Nat × SV)} {L : List Own}

/-- The operations below n are done, no other. -/
def Up (ops : Array Oper) (n : Nat) (listed : Array Bool) : Prop := listed.size = ops.size ∧ ∀ i, i < ops.size → listed.getD i true = decide (i < n)

/-- What the operations from n on do, in whatever order. -/
structure JD (P : Program) (Γ : Ctx) (ops : Array Oper) (Q : Exit → Act → World → Prop) (n : Nat) (F : List (Nat × SV)) (L : List Own) : Prop where
  go : ∀ a w listed, Up ops n listed → St Γ F L a w → wpAny P .any ops Q (ops.size - n) listed a w

theorem W.draw {id : Nat} {l : List Oper} (hf : P.follows .mixedOrders = true) (h : JD P Γ l.toArray Q 0 F L) : W P Γ Q F L (.region id l.toArray true) :=
  ⟨fun a w hst => wp_region_any hf (by
    have hup : Up l.toArray 0 (Array.replicate l.toArray.size false) := by
      refine ⟨by simp, fun i hi => ?_⟩
      have hi' : i < l.length := by simpa using hi
      simp [Array.getD_eq_getD_getElem?, Array.getElem?_replicate, hi']
    have := h.go a w.drew _ hup (hst.step (Step.drew hst.ws))
    simpa using this)⟩

theorem ready_nil_of_up {listed : Array Bool} (h : Up ops ops.size listed) : Region.ready .any ops listed = [] := by
  unfold Region.ready
  rw [List.filter_eq_nil_iff]
  intro i hi
  have := h.2 i (List.mem_range.1 hi)
  rw [this]
  simp [List.mem_range.1 hi]

theorem JD.nil {n : Nat} (hn : Nat.beq n ops.size = true) (h : N Γ (Q .normal) F L) : JD P Γ ops Q n F L := by
  have hn := Nat.eq_of_beq_eq_true hn
  subst hn
  refine ⟨fun a w listed hup hst => ?_⟩
  rw [Nat.sub_self]
  exact ⟨ready_nil_of_up hup, h.go a w hst⟩

theorem JD.told {n : Nat} {G : List (Nat × SV)} (hT : Told F G) (h : JD P Γ ops Q n G L) : JD P Γ ops Q n F L := ⟨fun a w l hu hst => h.go a w l hu (hst.told hT)⟩
theorem JD.perm {n : Nat} {L' : List Own} (hp : L.Perm L') (h : JD P Γ ops Q n F L') : JD P Γ ops Q n F L := ⟨fun a w l hu hst => h.go a w l hu (hst.perm hp)⟩
theorem JD.split {n : Nat} (i : Nat) {b : Bool} (hv : look F i = some (.val (.bool b))) (ht : b = true → JD P Γ ops Q n ((i, .val (.bool true)) :: F) L)
    (hf : b = false → JD P Γ ops Q n ((i, .val (.bool false)) :: F) L) : JD P Γ ops Q n F L := by
  refine ⟨fun a w l hu hst => ?_⟩
  have hst' : St Γ ((i, .val (.bool b)) :: F) L a w := by
    refine ⟨hst.ws, hst.nt, hst.df, fun j s hj => ?_⟩
    simp only [look] at hj
    cases hb : Nat.beq i j with
    | true => rw [hb] at hj; simp only [cond_true, Option.some.injEq] at hj; subst hj; have := Nat.eq_of_beq_eq_true hb; subst this; exact hst.fr i _ hv
    | false => rw [hb] at hj; exact hst.fr j s hj
  cases b with
  | true => exact (ht rfl).go a w l hu hst'
  | false => exact (hf rfl).go a w l hu hst'

/-- A run of operations, in the order of the text. -/
inductive Seg (P : Program) (Γ : Ctx) (ops : Array Oper) (L : List Own) : List (Nat × SV) → Nat → List (Nat × SV) → Prop
  | nil {F : List (Nat × SV)} {i : Nat} : Seg P Γ ops L F i []
  | cons {F : List (Nat × SV)} {i : Nat} {o : Oper} {d : Nat} {sv : SV} {r : List (Nat × SV)} (ho : ops[i]? = some o) (hd : o.dst = some d) (hlt : Nat.blt d Γ.nt = true) (hi : Item P Γ ops F L o sv) (hr : Seg P Γ ops L ((d, sv) :: F) (i + 1) r) :
      Seg P Γ ops L F i ((d, sv) :: r)

theorem SegL.seg {P : Program} {Γ : Ctx} {ops : Array Oper} {L : List Own} : ∀ {F : List (Nat × SV)} {l : List Oper} {r : List (Nat × SV)} (n : Nat), SegL P Γ ops L F l r → (∀ j, j < l.length → ops[n + j]? = l[j]?) → Seg P Γ ops L F n r ∧ r.length = l.length
  | _, _, _, n, .nil, _ => ⟨.nil, rfl⟩
  | _, _, _, n, .cons hd hlt hi hr, h => by
    obtain ⟨h1, h2⟩ := SegL.seg (n + 1) hr (fun j hj => by
      have := h (j + 1) (by simpa using hj)
      rw [show n + 1 + j = n + (j + 1) by omega, this]; rfl)
    exact ⟨.cons (by simpa using h 0 (by simp)) hd hlt hi h1, by simp [h2]⟩

theorem look_pushAll : ∀ (items F : List (Nat × SV)) (x : Nat) (s : SV), look (pushAll F items) x = some s → (∃ (j : Nat) (p : Nat × SV), items[j]? = some p ∧ p.1 = x ∧ p.2 = s ∧ ∀ (k : Nat) (q : Nat × SV), j < k → items[k]? = some q → q.1 ≠ x) ∨ ((∀ (j : Nat) (p : Nat × SV), items[j]? = some p → p.1 ≠ x) ∧ look F x = some s)
  | [], F, x, s, h => .inr ⟨by simp, h⟩
  | p :: r, F, x, s, h => by
    rcases look_pushAll r (p :: F) x s h with ⟨j, q, hq, h1, h2, h3⟩ | ⟨h1, h2⟩
    · refine .inl ⟨j + 1, q, by simpa using hq, h1, h2, fun k q' hk hq' => ?_⟩
      cases k with
      | zero => omega
      | succ k => exact h3 k q' (by omega) (by simpa using hq')
    · simp only [look] at h2
      cases hb : Nat.beq p.1 x with
      | true =>
        rw [hb] at h2
        simp only [cond_true, Option.some.injEq] at h2
        exact .inl ⟨0, p, rfl, Nat.eq_of_beq_eq_true hb, h2, fun k q hk hq => by
          cases k with
          | zero => omega
          | succ k => exact h1 k q (by simpa using hq)⟩
      | false =>
        rw [hb] at h2
        refine .inr ⟨fun j q hq => ?_, h2⟩
        cases j with
        | zero => simp at hq; subst hq; intro e; subst e; simp at hb
        | succ j => exact h1 j q (by simpa using hq)

theorem Seg.at : ∀ {items F : List (Nat × SV)} {n : Nat}, Seg P Γ ops L F n items → ∀ j p, items[j]? = some p → ∃ o, ops[n + j]? = some o ∧ o.dst = some p.1 ∧ Nat.blt p.1 Γ.nt = true ∧ Item P Γ ops (pushAll F (items.take j)) L o p.2
  | _, _, _, .nil, j, p, hp => by simp at hp
  | _, _, n, .cons ho hd hlt hi hr, j, p, hp => by
    cases j with
    | zero => simp at hp; subst hp; exact ⟨_, ho, hd, hlt, hi⟩
    | succ j =>
      obtain ⟨o, h1, h2, h3, h4⟩ := hr.at j p (by simpa using hp)
      exact ⟨o, by rw [← h1]; congr 1; omega, h2, h3, by simpa [pushAll] using h4⟩

theorem chk_spec {n0 n1 : Nat} (h : chk ops n0 n1 = true) : (∀ i, i < n0 → ∀ o, ops[i]? = some o → ∀ e ∈ o.after, Region.binds .any e = true → e.on < i) ∧ n0 ≤ n1 ∧ n1 ≤ ops.size ∧
    (∀ i, n0 ≤ i → i < n1 → ∃ o, ops[i]? = some o ∧ (∀ e ∈ o.after, Region.binds .any e = true → e.on < i) ∧
      ∀ j, n0 ≤ j → j < n1 → j ≠ i → dstAt ops j ≠ dstAt ops i ∧ ∀ t, dstAt ops j = some t → t ∈ rd ops o → (j < i → ((Region.before ops).getD i 0).testBit j = true) ∧ (i < j → ((Region.before ops).getD j 0).testBit i = true)) ∧
    ∀ k, n1 ≤ k → k < ops.size → ∀ i, n0 ≤ i → i < n1 → ((Region.before ops).getD k 0).testBit i = true := by
  unfold chk at h
  simp only [Bool.and_eq_true, List.all_eq_true] at h
  obtain ⟨⟨⟨⟨h1, h2⟩, h0⟩, h3⟩, h4⟩ := h
  have h1' := Nat.le_of_ble_eq_true h1
  have h2' := Nat.le_of_ble_eq_true h2
  refine ⟨?_, h1', h2', ?_, ?_⟩
  · intro i hi o ho e he hb
    have hm := h0 i (List.mem_range.2 hi)
    simp only [ho] at hm
    have := (Array.all_eq_true_iff_forall_mem.1 hm) e he
    simp only [hb, Bool.not_true, Bool.false_or] at this
    exact Nat.le_of_ble_eq_true this
  · intro i hi0 hi1
    have hm := h3 i (by rw [List.mem_range'_1]; omega)
    cases ho : ops[i]? with
    | none => simp [ho] at hm
    | some o =>
      simp only [ho, Bool.and_eq_true] at hm
      refine ⟨o, rfl, fun e he hb => ?_, fun j hj0 hj1 hne => ?_⟩
      · have := (Array.all_eq_true_iff_forall_mem.1 hm.1) e he
        simp only [hb, Bool.not_true, Bool.false_or] at this
        exact Nat.le_of_ble_eq_true this
      · have hj := (List.all_eq_true.1 hm.2) j (by rw [List.mem_range'_1]; omega)
        have hbe : Nat.beq j i = false := by
          cases hb : Nat.beq j i with
          | true => exact absurd (Nat.eq_of_beq_eq_true hb) hne
          | false => rfl
        rw [hbe, Bool.false_or, Bool.and_eq_true] at hj
        refine ⟨by simpa using hj.1, fun t ht hrd => ?_⟩
        have hq := hj.2
        rw [ht] at hq
        have hc : (rd ops o).contains t = true := by simpa using hrd
        simp only [hc, if_true] at hq
        constructor
        · intro hlt
          have : Nat.blt j i = true := Nat.ble_eq_true_of_le hlt
          simpa [this] using hq
        · intro hlt
          have : Nat.blt j i = false := by
            cases hb : Nat.blt j i with
            | true => have := Nat.le_of_ble_eq_true hb; omega
            | false => rfl
          simpa [this] using hq
  · intro k hk0 hk1 i hi0 hi1
    exact h4 k (by rw [List.mem_range'_1]; omega) i (by rw [List.mem_range'_1]; omega)

/-- The state in the middle of a run. -/
structure Mid (Γ : Ctx) (F items : List (Nat × SV)) (L : List Own) (n0 : Nat) (S : Nat → Bool) (a : Act) (w : World) : Prop where
  ws : WSt Γ L w
  nt : a.tmps.size = Γ.nt
  df : a.defers = Γ.df
  done : ∀ j p, items[j]? = some p → S (n0 + j) = true → Rel (ZL Γ.Z L) w p.2 (a.tmps.getD p.1 undef)
  base : ∀ x s, look F x = some s → (∀ j p, items[j]? = some p → S (n0 + j) = true → p.1 ≠ x) → Rel (ZL Γ.Z L) w s (a.tmps.getD x undef)

theorem seg_run {n0 n1 : Nat} {items : List (Nat × SV)} (hseg : Seg P Γ ops L F n0 items) (hlen : items.length = n1 - n0) (hc : chk ops n0 n1 = true)
    (h : ∀ a w listed, Up ops n1 listed → St Γ (pushAll F items) L a w → wpAny P .any ops Q (ops.size - n1) listed a w) :
    ∀ (k : Nat) (listed : Array Bool) (a : Act) (w : World), listed.size = ops.size → (∀ i, i < n0 → listed.getD i true = true) → (∀ i, n1 ≤ i → i < ops.size → listed.getD i true = false) →
      Closed ops (fun i => listed.getD i false) → ((List.range' n0 (n1 - n0)).filter fun i => !listed.getD i true).length = k → Mid Γ F items L n0 (fun i => listed.getD i false) a w →
      wpAny P .any ops Q (k + (ops.size - n1)) listed a w := by
  obtain ⟨hed0, h01, h1s, hin, hout⟩ := chk_spec hc
  have hgd : ∀ (l : Array Bool) i, l.size = ops.size → i < ops.size → l.getD i true = l.getD i false := by
    intro l i hl hi
    simp [Array.getD_eq_getD_getElem?, Array.getElem?_eq_getElem (show i < l.size by omega)]
  have hitem : ∀ i, n0 ≤ i → i < n1 → ∃ p, items[i - n0]? = some p := fun i h1 h2 => ⟨items[i - n0]'(by omega), List.getElem?_eq_getElem (by omega)⟩
  have hdst : ∀ j p, items[j]? = some p → dstAt ops (n0 + j) = some p.1 := by
    intro j p hp
    obtain ⟨o, ho, hd, _⟩ := hseg.at j p hp
    simp [dstAt, ho, hd]
  have hjlt : ∀ j p, items[j]? = some p → n0 + j < n1 := by
    intro j p hp
    have : j < items.length := by
      rcases Nat.lt_or_ge j items.length with h | h
      · exact h
      · simp [List.getElem?_eq_none h] at hp
    omega
  intro k
  induction k with
  | zero =>
    intro listed a w hsz hlo hhi hcl hk hm
    have hall : ∀ i, n0 ≤ i → i < n1 → listed.getD i true = true := by
      intro i hi0 hi1
      have := List.filter_eq_nil_iff.1 (List.eq_nil_of_length_eq_zero hk) i (by rw [List.mem_range'_1]; omega)
      simpa using this
    rw [Nat.zero_add]
    refine h a w listed ⟨hsz, fun i hi => ?_⟩ ⟨hm.ws, hm.nt, hm.df, fun x s hl => ?_⟩
    · by_cases h2 : i < n0
      · rw [hlo i h2]; simp; omega
      · by_cases h3 : i < n1
        · rw [hall i (by omega) h3]; simp [h3]
        · rw [hhi i (by omega) hi]; simp [h3]
    · have hS : ∀ j p, items[j]? = some p → listed.getD (n0 + j) false = true := fun j p hp => by
        have := hjlt j p hp
        rw [← hgd listed _ hsz (by omega)]; exact hall _ (by omega) this
      rcases look_pushAll items F x s hl with ⟨j, p, hp, rfl, rfl, _⟩ | ⟨h2, h3⟩
      · exact hm.done j p hp (hS j p hp)
      · exact hm.base x s h3 (fun j p hp _ => h2 j p hp)
  | succ k ih =>
    intro listed a w hsz hlo hhi hcl hk hm
    have hfe : k + 1 + (ops.size - n1) = (k + (ops.size - n1)) + 1 := by omega
    rw [hfe]
    have hready : ∀ i, i ∈ Region.ready .any ops listed ↔ i < ops.size ∧ listed.getD i true = false ∧ ∃ o, ops[i]? = some o ∧ ∀ e ∈ o.after, Region.binds .any e = true → listed.getD e.on false = true := by
      intro i
      unfold Region.ready
      simp only [List.mem_filter, List.mem_range, Bool.and_eq_true, Bool.not_eq_true']
      constructor
      · rintro ⟨h1, h2, h3⟩
        refine ⟨h1, h2, ?_⟩
        cases ho : ops[i]? with
        | none => simp [ho] at h3
        | some o =>
          simp only [ho, Option.map_some, Option.getD_some] at h3
          refine ⟨o, rfl, fun e he hb => ?_⟩
          have := (Array.all_eq_true_iff_forall_mem.1 h3) e he
          simpa [hb] using this
      · rintro ⟨h1, h2, o, ho, h3⟩
        refine ⟨h1, h2, ?_⟩
        simp only [ho, Option.map_some, Option.getD_some]
        refine Array.all_eq_true_iff_forall_mem.2 fun e he => ?_
        cases hb : Region.binds .any e with
        | false => simp
        | true => simpa using h3 e he hb
    -- somebody of the run is still to come
    have hne : ∃ i, n0 ≤ i ∧ i < n1 ∧ listed.getD i true = false := by
      have : 0 < ((List.range' n0 (n1 - n0)).filter fun i => !listed.getD i true).length := by omega
      obtain ⟨i, hi⟩ := List.exists_mem_of_length_pos this
      rw [List.mem_filter, List.mem_range'_1] at hi
      exact ⟨i, hi.1.1, by omega, by simpa using hi.2⟩
    constructor
    · intro hnil
      exfalso
      -- the least one of them could run
      have : ∃ i, n0 ≤ i ∧ i < n1 ∧ listed.getD i true = false ∧ ∀ j, n0 ≤ j → j < i → listed.getD j true = true := by
        obtain ⟨i, hi⟩ := hne
        induction i using Nat.strongRecOn with
        | _ i ih2 =>
          by_cases hl : ∃ j, n0 ≤ j ∧ j < i ∧ listed.getD j true = false
          · obtain ⟨j, hj0, hji, hjf⟩ := hl
            exact ih2 j hji ⟨hj0, by omega, hjf⟩
          · refine ⟨i, hi.1, hi.2.1, hi.2.2, fun j hj0 hji => ?_⟩
            cases hq : listed.getD j true with
            | true => rfl
            | false => exact absurd ⟨j, hj0, hji, hq⟩ hl
      obtain ⟨i, hi0, hi1, hif, hmin⟩ := this
      obtain ⟨o, ho, he, _⟩ := hin i hi0 hi1
      have : i ∈ Region.ready .any ops listed := (hready i).2 ⟨by omega, hif, o, ho, fun e hem hb => by
        have hlt := he e hem hb
        rw [← hgd listed e.on hsz (by omega)]
        by_cases h2 : e.on < n0
        · exact hlo _ h2
        · exact hmin _ (by omega) hlt⟩
      rw [hnil] at this
      simp at this
    · intro i hi
      obtain ⟨his, hif, o, ho, hed⟩ := (hready i).1 hi
      have hbd := before_done hcl i (fun o' ho' e he hb => by rw [ho] at ho'; cases ho'; exact hed e he hb)
      have hi0 : n0 ≤ i := by
        rcases Nat.lt_or_ge i n0 with h2 | h2
        · rw [hlo i h2] at hif; simp at hif
        · exact h2
      have hi1 : i < n1 := by
        rcases Nat.lt_or_ge i n1 with h2 | h2
        · exact h2
        · obtain ⟨j, hj0, hj1, hjf⟩ := hne
          have := hbd j (hout i h2 his j hj0 hj1)
          rw [← hgd listed j hsz (by omega), hjf] at this
          simp at this
      obtain ⟨p, hp⟩ := hitem i hi0 hi1
      obtain ⟨o', ho', hd, hlt, hitm⟩ := hseg.at (i - n0) p hp
      have hii : n0 + (i - n0) = i := by omega
      rw [hii, ho] at ho'
      cases ho'
      obtain ⟨o'', ho'', he, hoth⟩ := hin i hi0 hi1
      rw [ho] at ho''
      cases ho''
      -- what a slot that is read holds
      have hslot : ∀ t s, t ∈ rd ops o → look (pushAll F (items.take (i - n0))) t = some s → Rel (ZL Γ.Z L) w s (a.tmps.getD t undef) := by
        intro t s ht hl
        have hitk : ∀ j q, (items.take (i - n0))[j]? = some q → j < i - n0 ∧ items[j]? = some q := by
          intro j q hq
          rw [List.getElem?_take] at hq
          split at hq
          · exact ⟨by assumption, hq⟩
          · simp at hq
        rcases look_pushAll _ F t s hl with ⟨j, q, hq, rfl, rfl, _⟩ | ⟨h2, h3⟩
        · obtain ⟨hj, hq⟩ := hitk j q hq
          refine hm.done j q hq (hbd _ ((hoth (n0 + j) (by omega) (by omega) (by omega)).2 q.1 (hdst j q hq) ht |>.1 (by omega)))
        · refine hm.base t s h3 (fun j q hq hS hqt => ?_)
          have hjn := hjlt j q hq
          rcases Nat.lt_trichotomy j (i - n0) with hj | hj | hj
          · exact h2 j q (by rw [List.getElem?_take, if_pos hj]; exact hq) hqt
          · subst hj
            rw [hii, ← hgd listed i hsz his, hif] at hS
            simp at hS
          · have hb := ((hoth (n0 + j) (by omega) hjn (by omega)).2 q.1 (hdst j q hq) (hqt ▸ ht)).2 (by omega)
            have hjs : n0 + j < ops.size := by omega
            have := before_done hcl (n0 + j) (fun oj hoj e hem hbe => hcl (n0 + j) oj hoj hS e hem hbe) i hb
            rw [← hgd listed i hsz his, hif] at this
            simp at this
      have hops : ∀ x, x ∈ o.op.operands.toList → ∀ s, ev (pushAll F (items.take (i - n0))) x = some s → Rel (ZL Γ.Z L) w s (a.eval x) := by
        intro x hx s hs
        cases x with
        | tmp t => exact hslot t s (by unfold rd; exact List.mem_append_left _ (List.mem_filterMap.2 ⟨.tmp t, hx, rfl⟩)) hs
        | const v => simp only [ev, Option.some.injEq] at hs; subst hs; exact .val v
        | global g => simp only [ev, Option.some.injEq] at hs; subst hs; exact .val _
        | func f => simp only [ev, Option.some.injEq] at hs; subst hs; exact .val _
      -- behind the operation
      have hpd : p.1 < a.tmps.size := by rw [hm.nt]; exact Nat.le_of_ble_eq_true hlt
      have next : ∀ v w', Step Γ L L w w' → Rel (ZL Γ.Z L) w' p.2 v → wpAny P .any ops Q (k + (ops.size - n1)) (listed.setIfInBounds i true) (a.put o.dst v) w' := by
        intro v w' hs hrel
        have hset : ∀ (d : Bool) j, (listed.setIfInBounds i true).getD j d = if j = i then true else listed.getD j d := by
          intro d j
          simp only [Array.getD_eq_getD_getElem?, Array.getElem?_setIfInBounds]
          by_cases hji : i = j
          · subst hji; simp [hsz, his]
          · have : ¬ j = i := fun e => hji e.symm
            simp [hji, this]
        refine ih _ _ _ (by simpa using hsz) (fun j hj => ?_) (fun j hj hjs => ?_) ?_ ?_ ⟨hs.ws, ?_, ?_, ?_, ?_⟩
        · rw [hset]; split
          · rfl
          · exact hlo j hj
        · rw [hset, if_neg (by omega)]; exact hhi j hj hjs
        · intro j oj hoj hS e hem hbe
          simp only [hset] at hS ⊢
          split
          · rfl
          · by_cases hji : j = i
            · subst hji
              rw [ho] at hoj; cases hoj
              exact hed e hem hbe
            · rw [if_neg hji] at hS
              exact hcl j oj hoj hS e hem hbe
        · have hmem : i ∈ (List.range' n0 (n1 - n0)).filter fun i => !listed.getD i true := by
            rw [List.mem_filter, List.mem_range'_1]; exact ⟨by omega, by simp [hif]⟩
          have hnd : ((List.range' n0 (n1 - n0)).filter fun i => !listed.getD i true).Nodup := List.Sublist.nodup List.filter_sublist (List.nodup_range' ..)
          have hfe2 : ((List.range' n0 (n1 - n0)).filter fun j => !(listed.setIfInBounds i true).getD j true) = ((List.range' n0 (n1 - n0)).filter fun i => !listed.getD i true).erase i := by
            rw [hnd.erase_eq_filter, List.filter_filter]
            refine List.filter_congr fun j _ => ?_
            rw [hset]
            by_cases hji : j = i
            · subst hji; simp
            · simp [hji]
          rw [hfe2, List.length_erase_of_mem hmem, hk]
          rfl
        · rw [hd]; simpa [Act.put] using hm.nt
        · rw [hd]; exact hm.df
        · intro j q hq hS
          rw [hd]
          show Rel _ _ _ ((a.tmps.setIfInBounds p.1 v).getD q.1 undef)
          rw [getD_set _ _ _ _ hpd]
          by_cases hji : n0 + j = i
          · have : j = i - n0 := by omega
            subst this
            rw [hp] at hq; cases hq
            simpa using hrel
          · have hjn := hjlt j q hq
            have hne2 : q.1 ≠ p.1 := by
              intro e
              have h5 := (hoth (n0 + j) (by omega) hjn hji).1
              apply h5
              rw [hdst j q hq]
              have := hdst (i - n0) p hp
              rw [hii] at this
              rw [this, e]
            rw [if_neg hne2]
            simp only [hset, if_neg hji] at hS
            exact hs.rel (hm.done j q hq hS)
        · intro x s hl hno
          rw [hd]
          show Rel _ _ _ ((a.tmps.setIfInBounds p.1 v).getD x undef)
          rw [getD_set _ _ _ _ hpd]
          have hne2 : ¬ x = p.1 := fun e => hno (i - n0) p hp (by simp only [hset]; rw [if_pos hii]) e.symm
          rw [if_neg hne2]
          refine hs.rel (hm.base x s hl fun j q hq hS => hno j q hq ?_)
          simp only [hset]
          split
          · rfl
          · exact hS
      unfold wpOp
      simp only [ho]
      have hgslot : ∀ {j d : Nat} {want b : Bool} {og : Oper}, o.guard = some (j, want) → ops[j]? = some og → og.dst = some d → look (pushAll F (items.take (i - n0))) d = some (.val (.bool b)) → a.tmps.getD d undef = .bool b := by
        intro j d want b og hg hoj hdj hv
        refine (hslot d _ ?_ hv).val_eq
        unfold rd
        refine List.mem_append_right _ ?_
        simp [hg, hoj, hdj]
      cases hitm with
      | run hg hq =>
        rw [if_pos (by simp [Region.wanted, hg])]
        exact .inl (hq a w _ Q hm.ws hops next)
      | yes hg hoj hdj hv hb hq =>
        rw [if_pos (by rw [wanted_guard hg hoj hdj (hgslot hg hoj hdj hv)]; subst hb; simp)]
        exact .inl (hq a w _ Q hm.ws hops next)
      | no hg hoj hdj hv hb hsv =>
        rw [if_neg (by rw [wanted_guard hg hoj hdj (hgslot hg hoj hdj hv)]; subst hb; simp)]
        exact next undef w (Step.refl hm.ws) (by rw [hsv]; exact .any _)

/-- A run of operations that turn nothing that is owned. -/
theorem JD.seg {n0 n1 : Nat} {items : List (Nat × SV)} (n1' : Nat) (hseg : Seg P Γ ops L F n0 items) (hlen : items.length = n1 - n0) (hc : chk ops n0 n1 = true) {G : List (Nat × SV)} (hG : pushAll F items = G) (h : JD P Γ ops Q n1 G L) : JD P Γ ops Q n0 F L := by
  subst hG
  obtain ⟨hed0, h01, h1s, hin, hout⟩ := chk_spec hc
  refine ⟨fun a w listed hup hst => ?_⟩
  have hgd : ∀ i, i < ops.size → listed.getD i true = listed.getD i false := by
    intro i hi
    simp [Array.getD_eq_getD_getElem?, Array.getElem?_eq_getElem (show i < listed.size by rw [hup.1]; exact hi)]
  have hsub : ops.size - n0 = (n1 - n0) + (ops.size - n1) := by omega
  rw [hsub]
  refine seg_run hseg hlen hc h.go (n1 - n0) listed a w hup.1 (fun i hi => ?_) (fun i hi his => ?_) ?_ ?_ ⟨hst.ws, hst.nt, hst.df, ?_, fun x s hl _ => hst.fr x s hl⟩
  · rw [hup.2 i (by omega)]; simp [hi]
  · rw [hup.2 i his]; simp; omega
  · intro i o ho hS e he hb
    have his : i < ops.size := (Array.getElem?_eq_some_iff.1 ho).1
    simp only at hS ⊢
    rw [← hgd i his, hup.2 i his] at hS
    have hi : i < n0 := by simpa using hS
    have hlt := hed0 i hi o ho e he hb
    rw [← hgd e.on (by omega), hup.2 _ (by omega)]
    simp; omega
  · rw [List.filter_eq_self.2]
    · simp
    · intro i hi
      rw [List.mem_range'_1] at hi
      rw [hup.2 i (by omega)]; simp; omega
  · intro j p hp hS
    exfalso
    have hjl : j < items.length := by
      rcases Nat.lt_or_ge j items.length with h | h
      · exact h
      · simp [List.getElem?_eq_none h] at hp
    rw [← hgd (n0 + j) (by omega), hup.2 _ (by omega)] at hS
    simp at hS
    omega

def chkTail (ops : Array Oper) (n : Nat) : Bool := (List.range' n (ops.size - n)).all fun m => chk ops m (m + 1)

theorem tail_any : ∀ (k n : Nat) (listed : Array Bool) (a : Act) (w : World), n + k = ops.size → (∀ m, n ≤ m → m < ops.size → chk ops m (m + 1) = true) → Up ops n listed → wpList P ops Q (ops.toList.drop n) a w → wpAny P .any ops Q k listed a w := by
  intro k
  induction k with
  | zero =>
    intro n listed a w hn _ hup h
    have hn : n = ops.size := by omega
    subst hn
    rw [List.drop_eq_nil_of_le (by simp)] at h
    exact ⟨ready_nil_of_up hup, h⟩
  | succ k ih =>
    intro n listed a w hn hc hup h
    have hns : n < ops.size := by omega
    obtain ⟨hed0, h01, h1s, hin, hout⟩ := chk_spec (hc n (Nat.le_refl _) hns)
    obtain ⟨o, ho, he, _⟩ := hin n (Nat.le_refl _) (by omega)
    have hgd : ∀ i, i < ops.size → listed.getD i true = listed.getD i false := by
      intro i hi
      simp [Array.getD_eq_getD_getElem?, Array.getElem?_eq_getElem (show i < listed.size by rw [hup.1]; exact hi)]
    have hcl : Closed ops (fun i => listed.getD i false) := by
      intro i oi hoi hS e hem hb
      have his : i < ops.size := (Array.getElem?_eq_some_iff.1 hoi).1
      simp only at hS ⊢
      rw [← hgd i his, hup.2 i his] at hS
      have hi : i < n := by simpa using hS
      have hlt := hed0 i hi oi hoi e hem hb
      rw [← hgd e.on (by omega), hup.2 _ (by omega)]
      simp; omega
    have hnf : listed.getD n true = false := by rw [hup.2 n hns]; simp
    have hmem : n ∈ Region.ready .any ops listed := by
      unfold Region.ready
      simp only [List.mem_filter, List.mem_range, Bool.and_eq_true, Bool.not_eq_true']
      refine ⟨hns, hnf, ?_⟩
      simp only [ho, Option.map_some, Option.getD_some]
      refine Array.all_eq_true_iff_forall_mem.2 fun e hem => ?_
      cases hb : Region.binds .any e with
      | false => simp
      | true =>
        have hlt := he e hem hb
        rw [← hgd e.on (by omega), hup.2 _ (by omega)]
        simp; omega
    refine ⟨fun hnil => by rw [hnil] at hmem; simp at hmem, fun i hi => ?_⟩
    have hi' : i = n := by
      unfold Region.ready at hi
      simp only [List.mem_filter, List.mem_range, Bool.and_eq_true, Bool.not_eq_true'] at hi
      obtain ⟨his, hif, hed⟩ := hi
      rcases Nat.lt_trichotomy i n with h2 | h2 | h2
      · rw [hup.2 i his] at hif; simp at hif; omega
      · exact h2
      · exfalso
        cases hoi : ops[i]? with
        | none => simp [hoi] at hed
        | some oi =>
          simp only [hoi, Option.map_some, Option.getD_some] at hed
          have := before_done hcl i (fun o' ho' e hem hb => by
            rw [hoi] at ho'; cases ho'
            have := (Array.all_eq_true_iff_forall_mem.1 hed) e hem
            simpa [hb] using this) n (hout i (by omega) his n (Nat.le_refl _) (by omega))
          rw [← hgd n hns, hnf] at this
          simp at this
    subst hi'
    have hdrop : ops.toList.drop i = o :: ops.toList.drop (i + 1) := by
      have hlt : i < ops.toList.length := by simpa using hns
      rw [List.drop_eq_getElem_cons hlt]
      congr 1
      have : ops[i]? = some ops[i] := Array.getElem?_eq_getElem hns
      rw [this] at ho
      simpa using ho
    rw [hdrop] at h
    have hup' : Up ops (i + 1) (listed.setIfInBounds i true) := by
      refine ⟨by simp [hup.1], fun j hj => ?_⟩
      simp only [Array.getD_eq_getD_getElem?, Array.getElem?_setIfInBounds]
      by_cases hji : i = j
      · subst hji; simp [hup.1, hj]
      · have := hup.2 j hj
        simp only [Array.getD_eq_getD_getElem?] at this
        simp only [hji, if_false, this]
        congr 1
        simp; omega
    have hmono : ∀ a' w', wpList P ops Q (ops.toList.drop (i + 1)) a' w' → wpAny P .any ops Q k (listed.setIfInBounds i true) a' w' :=
      fun a' w' h' => ih (i + 1) _ a' w' (by omega) (fun m hm hms => hc m (by omega) hms) hup' h'
    unfold wpOp
    simp only [ho]
    unfold wpList at h
    split at h
    · rename_i hw
      rw [if_pos hw]
      exact h.imp (Oper.wp_mono hmono) id
    · rename_i hw
      rw [if_neg hw]
      exact hmono _ _ h

/-- What is left of a region, each operation behind the one ahead of it. -/
theorem JD.tail {n : Nat} {l : List Oper} (hc : chkTail ops n = true) (hn : Nat.ble n ops.size = true) (hl : ops.toList.drop n = l) (h : J P Γ ops Q F L l) : JD P Γ ops Q n F L := by
  subst hl
  have hn := Nat.le_of_ble_eq_true hn
  refine ⟨fun a w listed hup hst => tail_any (ops.size - n) n listed a w (by omega) (fun m hm hms => ?_) hup (h.go a w hst)⟩
  exact List.all_eq_true.1 hc m (by rw [List.mem_range'_1]; omega)
end
end Go.Sse
