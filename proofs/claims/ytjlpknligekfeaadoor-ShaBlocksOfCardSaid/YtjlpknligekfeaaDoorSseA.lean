/-
  A frame for walks: values told by meaning (SV), blocks that a call owns (Own), and what a piece of code does to them. No program of any kind stands in it.
-/
import Derived.WalkKit
import Derived.Deep.LoopGhost
namespace Go.Sse
open Go
set_option linter.unusedVariables false

/-- A value by its meaning: just this value; a slice of so many members that nobody changes any more, each of sz cells; a struct's or an array's cells; a tuple; a pointer to cells that nobody changes any more; a slice of that kind without room behind its end; any. -/
inductive SV where
  | val (v : Value)
  | sl (sz n : Nat) (el : Nat → List SV)
  | agg (cs : List SV)
  | tup (cs : List SV)
  | pp (cs : List SV)
  | slc (sz n : Nat) (el : Nat → List SV)
  | any

inductive Rel (Z : Nat → Prop) (w : World) : SV → Value → Prop
  | val (v : Value) : Rel Z w (.val v) v
  | any (v : Value) : Rel Z w .any v
  | sl (sz n : Nat) (el : Nat → List SV) (a : Option Addr) (cap : Nat) (cs : Nat → Value) (hcap : n ≤ cap) (hmax : cap ≤ maxLen)
      (hb : n * sz = 0 ∨ ∃ b off, a = some ⟨b, off, none⟩ ∧ ¬ Z b ∧ ∀ k, k < n * sz → w.cell? ⟨b, off + k, none⟩ = some (cs k))
      (h1 : ∀ k, k < n * sz → (cs k).oneCell' = true)
      (hl : ∀ i, i < n → (el i).length = sz)
      (hr : ∀ i j, i < n → j < sz → Rel Z w ((el i).getD j .any) (cs (i * sz + j))) : Rel Z w (.sl sz n el) (.slice a n cap)
  | agg (cs : List SV) (vs : List Value) (hl : vs.length = cs.length) (h1 : ∀ v ∈ vs, v.oneCell' = true)
      (hr : ∀ j, j < cs.length → Rel Z w (cs.getD j .any) (vs.getD j undef)) : Rel Z w (.agg cs) (.agg vs.toArray)
  | slc (sz n : Nat) (el : Nat → List SV) (a : Option Addr) (h : Rel Z w (.sl sz n el) (.slice a n n)) : Rel Z w (.slc sz n el) (.slice a n n)
  | pp (cs : List SV) (b off : Nat) (vs : Nat → Value) (h0 : 0 < cs.length) (hz : ¬ Z b) (hc : ∀ j, j < cs.length → w.cell? ⟨b, off + j, none⟩ = some (vs j))
      (h1 : ∀ j, j < cs.length → (vs j).oneCell' = true) (hr : ∀ j, j < cs.length → Rel Z w (cs.getD j .any) (vs j)) : Rel Z w (.pp cs) (.pointer (some ⟨b, off, none⟩))
  | tup (cs : List SV) (vs : List Value) (hl : vs.length = cs.length)
      (hr : ∀ j, j < cs.length → Rel Z w (cs.getD j .any) (vs.getD j undef)) : Rel Z w (.tup cs) (.tuple vs.toArray)

theorem cell_lt {w : World} {b o : Nat} {v : Value} (h : w.cell? ⟨b, o, none⟩ = some v) : b < w.heap.size := World.block_lt_of_cell? w ⟨b, o, none⟩ h

/-- What holds of a value stays, where the blocks that it leans on stay. -/
theorem Rel.stable {Z Z' : Nat → Prop} {w w' : World} {s : SV} {v : Value} (h : Rel Z w s v)
    (hs : ∀ b, b < w.heap.size → ¬ Z b → w'.heap[b]? = w.heap[b]? ∧ ¬ Z' b) : Rel Z' w' s v := by
  induction h with
  | val v => exact .val v
  | any v => exact .any v
  | sl sz n el a cap cs hcap hmax hb h1 hl hr ih =>
    refine .sl sz n el a cap cs hcap hmax ?_ h1 hl ih
    rcases hb with hb | ⟨b, off, rfl, hz, hc⟩
    · exact .inl hb
    · rcases Nat.eq_zero_or_pos (n * sz) with h0 | h0
      · exact .inl h0
      · have hlt : b < w.heap.size := cell_lt (hc 0 h0)
        obtain ⟨hsame, hz'⟩ := hs b hlt hz
        exact .inr ⟨b, off, rfl, hz', fun k hk => (World.cell?_of_block (w := w) (a := ⟨b, off + k, none⟩) hsame).trans (hc k hk)⟩
  | agg cs vs hl h1 hr ih => exact .agg cs vs hl h1 ih
  | tup cs vs hl hr ih => exact .tup cs vs hl ih
  | slc sz n el a h ih => exact .slc sz n el a ih
  | pp cs b off vs h0 hz hc h1 hr ih =>
    obtain ⟨hsame, hz'⟩ := hs b (cell_lt (hc 0 h0)) hz
    exact .pp cs b off vs h0 hz' (fun j hj => (World.cell?_of_block (w := w) (a := ⟨b, off + j, none⟩) hsame).trans (hc j hj)) h1 ih

/-- The cells of a row of values. -/
def RelL (Z : Nat → Prop) (w : World) (cs : List SV) (vs : List Value) : Prop :=
  vs.length = cs.length ∧ (∀ v ∈ vs, v.oneCell' = true) ∧ ∀ j, j < cs.length → Rel Z w (cs.getD j .any) (vs.getD j undef)

theorem RelL.stable {Z Z' : Nat → Prop} {w w' : World} {cs : List SV} {vs : List Value} (h : RelL Z w cs vs)
    (hs : ∀ b, b < w.heap.size → ¬ Z b → w'.heap[b]? = w.heap[b]? ∧ ¬ Z' b) : RelL Z' w' cs vs :=
  ⟨h.1, h.2.1, fun j hj => (h.2.2 j hj).stable hs⟩

/-- No cell of a block of so many is one that a string shares. -/
def Unfrozen (fz : Nat × Nat) (n : Nat) : Prop := ∀ i, i < n → ¬ (fz.1 ≤ i ∧ i < fz.2)

/-- What a call owns alone: a block of cells (a variable, a struct, an array); a slice that may grow, with its whole row; a map's block. -/
inductive Own where
  | obj (b : Nat) (T : TypeId) (cs : List SV)
  | row (v : Value) (E : TypeId) (sz n : Nat) (el : Nat → List SV)
  | map (b : Nat) (es : List MapEntry)
  | sem (fs : List Nat) (p : (Nat → Prop) → World → Prop)

def Own.foot : Own → List Nat
  | .obj b _ _ => [b]
  | .row (.slice (some a) _ _) _ _ _ _ => [a.block]
  | .row _ _ _ _ _ => []
  | .map b _ => [b]
  | .sem fs _ => fs

def foots (L : List Own) : List Nat := L.flatMap Own.foot

theorem foots_cons (o : Own) (L : List Own) : foots (o :: L) = o.foot ++ foots L := rfl
theorem foots_nil : foots [] = [] := rfl
theorem foots_append (A B : List Own) : foots (A ++ B) = foots A ++ foots B := by simp [foots]

def Own.holds (Z : Nat → Prop) (w : World) : Own → Prop
  | .obj b T cs => ∃ vs fz, w.heap[b]? = some (.cells vs T fz) ∧ Unfrozen fz vs.size ∧ RelL Z w cs vs.toList
  | .row v E sz n el => (v = .slice none 0 0 ∧ n = 0) ∨ ∃ b cap cur fz, v = .slice (some ⟨b, 0, none⟩) n cap ∧ w.heap[b]? = some (.cells cur E fz) ∧ Unfrozen fz cur.size ∧
      n ≤ cap ∧ cap ≤ maxLen ∧ cur.size = cap * sz ∧ (∀ u ∈ cur.toList, u.oneCell' = true) ∧ (∀ i, i < n → (el i).length = sz) ∧
      ∀ i j, i < n → j < sz → Rel Z w ((el i).getD j .any) (cur.toList.getD (i * sz + j) undef)
  | .map b es => ∃ clock, w.heap[b]? = some (.map es.toArray clock)
  | .sem fs p => p Z w ∧ (∀ Z' w', (∀ b, b ∈ fs → w'.heap[b]? = w.heap[b]?) → (∀ b, b < w.heap.size → ¬ Z b → w'.heap[b]? = w.heap[b]? ∧ ¬ Z' b) → p Z' w') ∧ ∀ b ∈ fs, b < w.heap.size

theorem Own.foot_lt {Z : Nat → Prop} {w : World} {o : Own} (h : o.holds Z w) : ∀ b ∈ o.foot, b < w.heap.size := by
  intro x hx
  have lt : ∀ {b : Nat} {q : Obj}, w.heap[b]? = some q → b < w.heap.size := fun h => (Array.getElem?_eq_some_iff.1 h).1
  cases o with
  | obj b T cs => obtain ⟨vs, fz, hb, _⟩ := h; simp [Own.foot] at hx; subst hx; exact lt hb
  | row v E sz n el =>
    rcases h with ⟨rfl, _⟩ | ⟨b, cap, cur, fz, rfl, hb, _⟩
    · simp [Own.foot] at hx
    · simp [Own.foot] at hx; subst hx; exact lt hb
  | map b es => obtain ⟨c, hb⟩ := h; simp [Own.foot] at hx; subst hx; exact lt hb
  | sem fs p => exact h.2.2 x hx

/-- An owned thing stays, where its own blocks and those that its parts lean on stay. -/
theorem Own.stable {Z Z' : Nat → Prop} {w w' : World} {o : Own} (h : o.holds Z w) (hf : ∀ b ∈ o.foot, w'.heap[b]? = w.heap[b]?) (hsz : w.heap.size ≤ w'.heap.size)
    (hs : ∀ b, b < w.heap.size → ¬ Z b → w'.heap[b]? = w.heap[b]? ∧ ¬ Z' b) : o.holds Z' w' := by
  cases o with
  | obj b T cs =>
    obtain ⟨vs, fz, hb, hu, hr⟩ := h
    exact ⟨vs, fz, (hf b (by simp [Own.foot])).trans hb, hu, hr.stable hs⟩
  | row v E sz n el =>
    rcases h with ⟨rfl, h0⟩ | ⟨b, cap, cur, fz, rfl, hb, h1, h2, h3, h4, h5, h6, h7⟩
    · exact .inl ⟨rfl, h0⟩
    · exact .inr ⟨b, cap, cur, fz, rfl, (hf b (by simp [Own.foot])).trans hb, h1, h2, h3, h4, h5, h6, fun i j hi hj => (h7 i j hi hj).stable hs⟩
  | map b es =>
    obtain ⟨c, hb⟩ := h
    exact ⟨c, (hf b (by simp [Own.foot])).trans hb⟩
  | sem fs p =>
    obtain ⟨hp, hst, hlt⟩ := h
    have hf' : ∀ b ∈ fs, w'.heap[b]? = w.heap[b]? := hf
    refine ⟨hst Z' w' hf' hs, ?_, fun b hb => Nat.lt_of_lt_of_le (hlt b hb) hsz⟩
    intro Z2 w2 hf2 hs2
    refine hst Z2 w2 (fun b hb => (hf2 b hb).trans (hf' b hb)) (fun b hb hz => ?_)
    obtain ⟨e1, z1⟩ := hs b hb hz
    obtain ⟨e2, z2⟩ := hs2 b (Nat.lt_of_lt_of_le hb hsz) z1
    exact ⟨e2.trans e1, z2⟩

/-- What stays fixed while one call runs: the blocks that are none of its business, the world at its beginning, the blocks that were there and that it may change, how many slots, what is deferred. -/
structure Ctx where
  Z : Nat → Prop
  w0 : World
  Fp : Nat → Prop
  nt : Nat
  df : List Deferred

def inF (L : List Own) (b : Nat) : Prop := b ∈ foots L
def ZL (Z : Nat → Prop) (L : List Own) (b : Nat) : Prop := Z b ∨ inF L b

structure WSt (Γ : Ctx) (L : List Own) (w : World) : Prop where
  os : w.os = Γ.w0.os
  tape : w.tape = Γ.w0.tape
  output : w.output = Γ.w0.output
  size : Γ.w0.heap.size ≤ w.heap.size
  keep : ∀ b, b < Γ.w0.heap.size → ¬ Γ.Fp b → w.heap[b]? = Γ.w0.heap[b]?
  zlt : ∀ b, Γ.Z b → b < Γ.w0.heap.size
  nodup : (foots L).Nodup
  foot : ∀ b, inF L b → ¬ Γ.Z b ∧ (Γ.Fp b ∨ Γ.w0.heap.size ≤ b)
  holds : ∀ o ∈ L, o.holds (ZL Γ.Z L) w

theorem WSt.foot_lt {Γ : Ctx} {L : List Own} {w : World} (h : WSt Γ L w) {b : Nat} (hb : inF L b) : b < w.heap.size := by
  obtain ⟨o, ho, hbo⟩ := List.mem_flatMap.1 hb
  exact Own.foot_lt (h.holds o ho) b hbo

/-- The world's way from one step to the next. -/
structure Step (Γ : Ctx) (L L' : List Own) (w w' : World) : Prop where
  ws : WSt Γ L' w'
  size : w.heap.size ≤ w'.heap.size
  same : ∀ b, b < w.heap.size → ¬ inF L b → w'.heap[b]? = w.heap[b]?
  fresh : ∀ b, inF L' b → inF L b ∨ w.heap.size ≤ b

theorem Step.refl {Γ : Ctx} {L : List Own} {w : World} (h : WSt Γ L w) : Step Γ L L w w := ⟨h, Nat.le_refl _, fun _ _ _ => rfl, fun _ h => .inl h⟩

theorem Step.keepsRel {Γ : Ctx} {L L' : List Own} {w w' : World} (h : Step Γ L L' w w') : ∀ b, b < w.heap.size → ¬ ZL Γ.Z L b → w'.heap[b]? = w.heap[b]? ∧ ¬ ZL Γ.Z L' b := by
  intro b hb hz
  refine ⟨h.same b hb (fun hi => hz (.inr hi)), ?_⟩
  rintro (hZ | hi)
  · exact hz (.inl hZ)
  · rcases h.fresh b hi with h1 | h1
    · exact hz (.inr h1)
    · omega

theorem Step.rel {Γ : Ctx} {L L' : List Own} {w w' : World} {s : SV} {v : Value} (h : Step Γ L L' w w') (hr : Rel (ZL Γ.Z L) w s v) : Rel (ZL Γ.Z L') w' s v :=
  hr.stable h.keepsRel

/-- The slots: what is known of each. -/
def look : List (Nat × SV) → Nat → Option SV
  | [], _ => none
  | (i, s) :: r, x => bif Nat.beq i x then some s else look r x

def cv : Value → SV
  | .agg cs => .agg (cs.toList.map .val)
  | v => .val v

def ev (F : List (Nat × SV)) : Operand → Option SV
  | .tmp t => look F t
  | .const v => some (.val v)
  | .global g => some (.val (.pointer (some ⟨g, 0, none⟩)))
  | .func f => some (.val (.func (.func f) #[] #[]))

structure St (Γ : Ctx) (F : List (Nat × SV)) (L : List Own) (a : Act) (w : World) : Prop where
  ws : WSt Γ L w
  nt : a.tmps.size = Γ.nt
  df : a.defers = Γ.df
  fr : ∀ i s, look F i = some s → Rel (ZL Γ.Z L) w s (a.tmps.getD i undef)

theorem St.ev {Γ : Ctx} {F : List (Nat × SV)} {L : List Own} {a : Act} {w : World} (h : St Γ F L a w) {x : Operand} {s : SV} (hx : ev F x = some s) :
    Rel (ZL Γ.Z L) w s (a.eval x) := by
  cases x with
  | tmp t => exact h.fr t s hx
  | const v => simp only [Sse.ev, Option.some.injEq] at hx; subst hx; exact .val v
  | global g => simp only [Sse.ev, Option.some.injEq] at hx; subst hx; exact .val _
  | func f => simp only [Sse.ev, Option.some.injEq] at hx; subst hx; exact .val _

theorem Rel.val_eq {Z : Nat → Prop} {w : World} {u v : Value} (h : Rel Z w (.val u) v) : v = u := by cases h; rfl

theorem St.evv {Γ : Ctx} {F : List (Nat × SV)} {L : List Own} {a : Act} {w : World} (h : St Γ F L a w) {x : Operand} {v : Value} (hx : Sse.ev F x = some (.val v)) : a.eval x = v :=
  (h.ev hx).val_eq

theorem getD_set (xs : Array Value) (d i : Nat) (v : Value) (hd : d < xs.size) : (xs.setIfInBounds d v).getD i undef = if i = d then v else xs.getD i undef := by
  by_cases h : i = d
  · subst h; simp [Array.getD, hd]
  · simp only [h, if_false]
    have : d ≠ i := fun e => h e.symm
    simp only [Array.getD_eq_getD_getElem?, Array.getElem?_setIfInBounds_ne this]

theorem St.put {Γ : Ctx} {F : List (Nat × SV)} {L L' : List Own} {a : Act} {w w' : World} (h : St Γ F L a w) (hs : Step Γ L L' w w') {d : Nat} (hd : Nat.blt d Γ.nt = true)
    {v : Value} {sv : SV} (hr : Rel (ZL Γ.Z L') w' sv v) : St Γ ((d, sv) :: F) L' (a.put (some d) v) w' := by
  have hd' : d < a.tmps.size := by rw [h.nt]; exact Nat.le_of_ble_eq_true hd
  refine ⟨hs.ws, by simp [Act.put, h.nt], h.df, ?_⟩
  intro i s hl
  show Rel _ _ s ((a.tmps.setIfInBounds d v).getD i undef)
  rw [getD_set _ _ _ _ hd']
  simp only [look] at hl
  by_cases hi : i = d
  · subst hi
    simp at hl
    subst hl
    simpa using hr
  · have : Nat.beq d i = false := by
      cases hb : Nat.beq d i
      · rfl
      · exact absurd (Nat.eq_of_beq_eq_true hb).symm hi
    rw [this] at hl
    simp only [cond_false] at hl
    simp only [hi, if_false]
    exact hs.rel (h.fr i s hl)

theorem St.step {Γ : Ctx} {F : List (Nat × SV)} {L L' : List Own} {a : Act} {w w' : World} (h : St Γ F L a w) (hs : Step Γ L L' w w') : St Γ F L' a w' :=
  ⟨hs.ws, h.nt, h.df, fun i s hl => hs.rel (h.fr i s hl)⟩

/-- One value says all that another one says. -/
def Sub (s t : SV) : Prop := ∀ Z w v, Rel Z w s v → Rel Z w t v
theorem Sub.refl (s : SV) : Sub s s := fun _ _ _ h => h
theorem Sub.of_eq {s t : SV} (h : s = t) : Sub s t := h ▸ Sub.refl s
theorem Sub.any (s : SV) : Sub s .any := fun _ _ _ _ => .any _
theorem Sub.trans {s t u : SV} (h : Sub s t) (k : Sub t u) : Sub s u := fun Z w v q => k Z w v (h Z w v q)
theorem Sub.nil (sz : Nat) (el : Nat → List SV) : Sub (.val (.slice none 0 0)) (.sl sz 0 el) := by
  intro Z w v h
  cases h
  exact .sl sz 0 el none 0 (fun _ => undef) (Nat.le_refl _) (Nat.zero_le _) (.inl (by simp)) (by simp) (by simp) (by simp)
theorem Sub.slc {sz n : Nat} {el : Nat → List SV} : Sub (.slc sz n el) (.sl sz n el) := by
  intro Z w v hr
  cases hr with
  | slc _ _ _ a h => exact h
theorem Sub.sl {sz n : Nat} {el el' : Nat → List SV} (h : ∀ i, i < n → el i = el' i) : Sub (.sl sz n el) (.sl sz n el') := by
  intro Z w v hr
  cases hr with
  | sl _ _ _ a cap cs hcap hmax hb h1 hl hr =>
    exact .sl sz n el' a cap cs hcap hmax hb h1 (fun i hi => h i hi ▸ hl i hi) (fun i j hi hj => h i hi ▸ hr i j hi hj)

/-- The slots of G are told by F. -/
def Told (F : List (Nat × SV)) : List (Nat × SV) → Prop
  | [] => True
  | (i, s) :: r => (∃ t, look F i = some t ∧ Sub t s) ∧ Told F r

theorem Told.look {F : List (Nat × SV)} : ∀ {G : List (Nat × SV)}, Told F G → ∀ i s, look G i = some s → ∃ t, Sse.look F i = some t ∧ Sub t s
  | [], _, i, s, h => by simp [Sse.look] at h
  | (j, u) :: r, hT, i, s, h => by
    simp only [Sse.look] at h
    cases hb : Nat.beq j i with
    | true =>
      rw [hb] at h
      simp only [cond_true, Option.some.injEq] at h
      subst h
      have := Nat.eq_of_beq_eq_true hb
      subst this
      exact hT.1
    | false =>
      rw [hb] at h
      exact Told.look hT.2 i s h

theorem St.told {Γ : Ctx} {F G : List (Nat × SV)} {L : List Own} {a : Act} {w : World} (h : St Γ F L a w) (hT : Told F G) : St Γ G L a w :=
  ⟨h.ws, h.nt, h.df, fun i s hl => by
    obtain ⟨t, ht, hs⟩ := hT.look i s hl
    exact hs _ _ _ (h.fr i t ht)⟩

/-- What a list of operations does. -/
structure J (P : Program) (Γ : Ctx) (ops : Array Oper) (Q : Exit → Act → World → Prop) (F : List (Nat × SV)) (L : List Own) (l : List Oper) : Prop where
  go : ∀ a w, St Γ F L a w → wpList P ops Q l a w
/-- What a piece of code does. -/
structure W (P : Program) (Γ : Ctx) (Q : Exit → Act → World → Prop) (F : List (Nat × SV)) (L : List Own) (c : Code) : Prop where
  go : ∀ a w, St Γ F L a w → c.wp P Q a w
/-- What stands at the end of a piece of code. -/
structure N (Γ : Ctx) (K : Act → World → Prop) (F : List (Nat × SV)) (L : List Own) : Prop where
  go : ∀ a w, St Γ F L a w → K a w

/-- What one operation does, whatever stands behind it. -/
def OpS (P : Program) (Γ : Ctx) (o : Oper) (F : List (Nat × SV)) (L : List Own) (R : SV → List Own → Prop) : Prop :=
  ∀ a w (K : Act → World → Prop) (Q : Exit → Act → World → Prop), St Γ F L a w →
    (∀ v w' sv L', R sv L' → Step Γ L L' w w' → Rel (ZL Γ.Z L') w' sv v → K (a.put o.dst v) w') → o.wp P a w K Q

section
variable {P : Program} {Γ : Ctx} {ops : Array Oper} {Q : Exit → Act → World → Prop} {F : List (Nat × SV)} {L : List Own} {rest : List Oper}

theorem J.op {o : Oper} {d : Nat} {R : SV → List Own → Prop} (hS : OpS P Γ o F L R) (hg : o.guard = none) (hd : o.dst = some d) (hlt : Nat.blt d Γ.nt = true)
    (h : ∀ sv L', R sv L' → J P Γ ops Q ((d, sv) :: F) L' rest) : J P Γ ops Q F L (o :: rest) :=
  ⟨fun a w hst => wpList_plain hg fun K hK => hS a w K Q hst fun v w' sv L' hR hs hr => hK _ _ ((h sv L' hR).go _ _ (hd ▸ hst.put hs hlt hr))⟩

theorem J.op0 {o : Oper} {R : SV → List Own → Prop} (hS : OpS P Γ o F L R) (hg : o.guard = none) (hd : o.dst = none)
    (h : ∀ sv L', R sv L' → J P Γ ops Q F L' rest) : J P Γ ops Q F L (o :: rest) :=
  ⟨fun a w hst => wpList_plain hg fun K hK => hS a w K Q hst fun v w' sv L' hR hs _ => hK _ _ ((h sv L' hR).go _ _ (by rw [hd]; exact hst.step hs))⟩

theorem J.nil (h : N Γ (Q .normal) F L) : J P Γ ops Q F L [] := ⟨fun a w hst => h.go a w hst⟩

theorem J.told {G : List (Nat × SV)} {l : List Oper} (hT : Told F G) (h : J P Γ ops Q G L l) : J P Γ ops Q F L l := ⟨fun a w hst => h.go a w (hst.told hT)⟩
theorem W.told {G : List (Nat × SV)} {c : Code} (hT : Told F G) (h : W P Γ Q G L c) : W P Γ Q F L c := ⟨fun a w hst => h.go a w (hst.told hT)⟩
theorem N.told {G : List (Nat × SV)} {K : Act → World → Prop} (hT : Told F G) (h : N Γ K G L) : N Γ K F L := ⟨fun a w hst => h.go a w (hst.told hT)⟩

/-- A slot is told in other words. -/
theorem J.as {l : List Oper} (i : Nat) {s : SV} (t : SV) (hs : look F i = some s) (ht : Sub s t) (h : J P Γ ops Q ((i, t) :: F) L l) : J P Γ ops Q F L l :=
  ⟨fun a w hst => h.go a w ⟨hst.ws, hst.nt, hst.df, fun j u hj => by
    simp only [look] at hj
    cases hb : Nat.beq i j with
    | true =>
      rw [hb] at hj
      simp only [cond_true, Option.some.injEq] at hj
      subst hj
      have := Nat.eq_of_beq_eq_true hb
      subst this
      exact ht _ _ _ (hst.fr i s hs)
    | false => rw [hb] at hj; exact hst.fr j u hj⟩⟩

theorem wanted_guard {ops : Array Oper} {o og : Oper} {a : Act} {j d : Nat} {want b : Bool} (hg : o.guard = some (j, want)) (ho : ops[j]? = some og) (hd : og.dst = some d)
    (hv : a.tmps.getD d undef = .bool b) : Region.wanted o (yielded ops a.tmps) = (b == want) := by
  have hlt : d < a.tmps.size := by
    rcases Nat.lt_or_ge d a.tmps.size with h | h
    · exact h
    · simp [Array.getD, Nat.not_lt.2 h, undef] at hv
  have hq : a.tmps[d]? = some (.bool b) := by
    rw [Array.getElem?_eq_getElem hlt]
    simpa [Array.getD, hlt] using hv
  have hy : yielded ops a.tmps j = some b := by simp [yielded, ho, hd, hq]
  unfold Region.wanted
  simp only [hg, hy]
  cases b <;> cases want <;> rfl

/-- An operation under a guard that says yes. -/
theorem J.guardYes {dst : Option Tmp} {op : Op} {ty : TypeId} {pos : String} {aft : Array Edge} {j d : Nat} {want b : Bool} {og : Oper}
    (ho : ops[j]? = some og) (hd : og.dst = some d) (hv : look F d = some (.val (.bool b))) (hb : b = want)
    (h : J P Γ ops Q F L (⟨dst, op, ty, pos, aft, none⟩ :: rest)) : J P Γ ops Q F L (⟨dst, op, ty, pos, aft, some (j, want)⟩ :: rest) :=
  ⟨fun a w hst => by
    have hw := wanted_guard (o := ⟨dst, op, ty, pos, aft, some (j, want)⟩) rfl ho hd (hst.fr d _ hv).val_eq
    have := h.go a w hst
    unfold wpList at this ⊢
    rw [if_pos (by rw [hw]; subst hb; simp)]
    rw [if_pos (by simp [Region.wanted])] at this
    exact this⟩

/-- An operation under a guard that says no: its slot holds nothing. -/
theorem J.guardNo {dst : Tmp} {op : Op} {ty : TypeId} {pos : String} {aft : Array Edge} {j d : Nat} {want b : Bool} {og : Oper}
    (ho : ops[j]? = some og) (hd : og.dst = some d) (hv : look F d = some (.val (.bool b))) (hb : b = !want) (hlt : Nat.blt dst Γ.nt = true)
    (h : J P Γ ops Q ((dst, .any) :: F) L rest) : J P Γ ops Q F L (⟨some dst, op, ty, pos, aft, some (j, want)⟩ :: rest) :=
  ⟨fun a w hst => by
    have hw := wanted_guard (o := ⟨some dst, op, ty, pos, aft, some (j, want)⟩) rfl ho hd (hst.fr d _ hv).val_eq
    unfold wpList
    rw [if_neg (by rw [hw]; subst hb; cases want <;> simp)]
    exact h.go _ _ (hst.put (Step.refl hst.ws) hlt (.any _))⟩

theorem J.guardNo0 {op : Op} {ty : TypeId} {pos : String} {aft : Array Edge} {j d : Nat} {want b : Bool} {og : Oper}
    (ho : ops[j]? = some og) (hd : og.dst = some d) (hv : look F d = some (.val (.bool b))) (hb : b = !want)
    (h : J P Γ ops Q F L rest) : J P Γ ops Q F L (⟨none, op, ty, pos, aft, some (j, want)⟩ :: rest) :=
  ⟨fun a w hst => by
    have hw := wanted_guard (o := ⟨none, op, ty, pos, aft, some (j, want)⟩) rfl ho hd (hst.fr d _ hv).val_eq
    unfold wpList
    rw [if_neg (by rw [hw]; subst hb; cases want <;> simp)]
    exact h.go _ _ hst⟩

/-- At a guard that may say either: both ways. -/
theorem J.split {l : List Oper} (i : Nat) {b : Bool} (hv : look F i = some (.val (.bool b))) (ht : b = true → J P Γ ops Q ((i, .val (.bool true)) :: F) L l)
    (hf : b = false → J P Γ ops Q ((i, .val (.bool false)) :: F) L l) : J P Γ ops Q F L l := by
  cases b with
  | true => exact .as i _ hv (Sub.refl _) (ht rfl)
  | false => exact .as i _ hv (Sub.refl _) (hf rfl)

-- the code

theorem W.seq {x y : Code} (h : W P Γ (Exit.then (y.wp P Q) Q) F L x) : W P Γ Q F L (.seq x y) := ⟨fun a w hst => wp_seq (h.go a w hst)⟩
theorem W.skip (h : N Γ (Q .normal) F L) : W P Γ Q F L .skip := ⟨fun a w hst => wp_skip (h.go a w hst)⟩
theorem W.exit {id : Nat} (h : N Γ (Q (.exit id)) F L) : W P Γ Q F L (.exit id) := ⟨fun a w hst => wp_exit (h.go a w hst)⟩
theorem W.ret (h : N Γ (Q .ret) F L) : W P Γ Q F L .ret := ⟨fun a w hst => wp_ret (h.go a w hst)⟩
theorem W.block {id : Nat} {c : Code} (h : W P Γ (Exit.inBlock id Q) F L c) : W P Γ Q F L (.block id c) := ⟨fun a w hst => wp_block (h.go a w hst)⟩
theorem W.region {id : Nat} {l : List Oper} (h : J P Γ l.toArray Q F L l) : W P Γ Q F L (.region id l.toArray false) := ⟨fun a w hst => wp_region_lit (h.go a w hst)⟩
theorem W.cond {c : Operand} {x y : Code} {b : Bool} (hc : ev F c = some (.val (.bool b))) (ht : b = true → W P Γ Q F L x) (hf : b = false → W P Γ Q F L y) : W P Γ Q F L (.cond c x y) :=
  ⟨fun a w hst => wp_cond_split (hst.evv hc) (fun e => (ht e).go a w hst) (fun e => (hf e).go a w hst)⟩
theorem W.condT {c : Operand} {x y : Code} {b : Bool} (hc : ev F c = some (.val (.bool b))) (hb : b = true) (ht : W P Γ Q F L x) : W P Γ Q F L (.cond c x y) :=
  W.cond hc (fun _ => ht) (fun e => by simp [hb] at e)
theorem W.condF {c : Operand} {x y : Code} {b : Bool} (hc : ev F c = some (.val (.bool b))) (hb : b = false) (hf : W P Γ Q F L y) : W P Γ Q F L (.cond c x y) :=
  W.cond hc (fun e => by simp [hb] at e) (fun _ => hf)

/-- What stands behind the first of two pieces. -/
theorem N.seq {y : Code} (h : W P Γ Q F L y) : N Γ (Exit.then (y.wp P Q) Q .normal) F L := ⟨fun a w hst => h.go a w hst⟩
theorem N.seqRet {K : Act → World → Prop} (h : N Γ (Q .ret) F L) : N Γ (Exit.then K Q .ret) F L := ⟨fun a w hst => h.go a w hst⟩
theorem N.seqExit {K : Act → World → Prop} {id : Nat} (h : N Γ (Q (.exit id)) F L) : N Γ (Exit.then K Q (.exit id)) F L := ⟨fun a w hst => h.go a w hst⟩
theorem N.blockNormal {id : Nat} (h : N Γ (Q .normal) F L) : N Γ (Exit.inBlock id Q .normal) F L := ⟨fun a w hst => h.go a w hst⟩
theorem N.blockRet {id : Nat} (h : N Γ (Q .ret) F L) : N Γ (Exit.inBlock id Q .ret) F L := ⟨fun a w hst => h.go a w hst⟩
theorem N.blockHere {id : Nat} (h : N Γ (Q .normal) F L) : N Γ (Exit.inBlock id Q (.exit id)) F L := ⟨fun a w hst => by simpa [Exit.inBlock] using h.go a w hst⟩
theorem N.blockOther {id id' : Nat} (hne : Nat.beq id' id = false) (h : N Γ (Q (.exit id')) F L) : N Γ (Exit.inBlock id Q (.exit id')) F L :=
  ⟨fun a w hst => by
    have : id' ≠ id := fun e => by subst e; simp at hne
    simpa [Exit.inBlock, this] using h.go a w hst⟩

/-- What a round of a loop has to hand on. -/
def Round {α : Type} (Γ : Ctx) (Fi : α → List (Nat × SV)) (Li : α → List Own) (inv : α → Prop) (m : α → Nat) (x : α) (a : Act) (w : World) : Prop :=
  ∃ y, inv y ∧ m y < m x ∧ St Γ (Fi y) (Li y) a w

theorem W.loop {α : Type} {c : Code} (Fi : α → List (Nat × SV)) (Li : α → List Own) (inv : α → Prop) (m : α → Nat) (x0 : α) (h0 : inv x0) (hL : L = Li x0) (hF : Told F (Fi x0))
    (round : ∀ x, inv x → W P Γ (Exit.then (Round Γ Fi Li inv m x) Q) (Fi x) (Li x) c) : W P Γ Q F L (.loop c) :=
  ⟨fun a w hst => by
    subst hL
    refine wp_loop_ghost (fun n a w => ∃ x, inv x ∧ m x = n ∧ St Γ (Fi x) (Li x) a w) (m x0) ⟨x0, h0, rfl, hst.told hF⟩ ?_
    rintro n a w ⟨x, hx, rfl, hst⟩
    refine wp_mono ((round x hx).go a w hst) ?_
    intro e a w hq
    cases e with
    | normal =>
      obtain ⟨y, hy, hlt, hs⟩ := hq
      exact ⟨m y, hlt, y, hy, rfl, hs⟩
    | exit id => exact hq
    | goto l => exact hq
    | ret => exact hq
    | panic ch => exact hq
    | outgrown => exact hq⟩

theorem N.round {α : Type} {Fi : α → List (Nat × SV)} {Li : α → List Own} {inv : α → Prop} {m : α → Nat} {x : α} (y : α) (hy : inv y) (hlt : m y < m x) (hL : L = Li y) (hF : Told F (Fi y)) :
    N Γ (Exit.then (Round Γ Fi Li inv m x) Q .normal) F L :=
  ⟨fun a w hst => by subst hL; exact ⟨y, hy, hlt, hst.told hF⟩⟩
end
end Go.Sse
