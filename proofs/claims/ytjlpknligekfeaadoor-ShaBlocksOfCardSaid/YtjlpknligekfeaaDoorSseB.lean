/-
  What single operations do, in the frame's words: those that turn no memory.
-/
import Derived.Test.YtjlpknligekfeaaDoorSseA
namespace Go.Sse
open Go
set_option linter.unusedVariables false
set_option linter.unusedSimpArgs false

-- facts on a program's types, one by one
class TStr (P : Program) (T : Nat) : Prop where ok : P.underlying T = some .string
class TBool (P : Program) (T : Nat) : Prop where ok : P.underlying T = some .bool
class TInt (P : Program) (T : Nat) (k : outParam IntKind) : Prop where ok : P.underlying T = some (.int k)
class TSlice (P : Program) (T : Nat) (E : outParam Nat) : Prop where ok : P.underlying T = some (.slice E)
class TArr (P : Program) (T : Nat) (n E : outParam Nat) : Prop where ok : P.underlying T = some (.array n E)
class TPtr (P : Program) (T : Nat) (E : outParam Nat) : Prop where ok : P.underlying T = some (.pointer E)
class TMap (P : Program) (T : Nat) (K V : outParam Nat) : Prop where ok : P.underlying T = some (.map K V)
/-- Of one cell, no struct and no array. -/
class TSc (P : Program) (T : Nat) : Prop where ok : ((P.underlying T).any fun d => match d with | .struct _ | .array _ _ => false | _ => true) = true ∧ (P.info? T).map (·.size) = some 1
/-- A struct or an array, of so many cells. -/
class TAg (P : Program) (T : Nat) (n : outParam Nat) : Prop where ok : ((P.underlying T).any fun d => match d with | .struct _ | .array _ _ => true | _ => false) = true ∧ (P.info? T).map (·.size) = some n
/-- How many cells, how many bytes, which cells at the beginning. -/
class TInfo (P : Program) (T : Nat) (sz bytes : outParam Nat) (z : outParam (List Value)) : Prop where
  ok : (P.info? T).map (fun i => (i.size, i.bytes, i.zero.map fun v => v.cells.toList)) = some (sz, bytes, some z)

def fldAt (P : Program) (T f : Nat) : Option (Nat × Nat × Nat) :=
  match P.underlying T with
  | some (.struct fs) => match fs[f]? with
    | some fd => match P.info? fd.type with
      | some i => some (fd.offset, fd.type, i.size)
      | none => none
    | none => none
  | _ => none
/-- A struct's field: where it lies, its type, its size. -/
class TFld (P : Program) (T f : Nat) (off FT sz : outParam Nat) : Prop where ok : fldAt P T f = some (off, FT, sz) ∧ 0 < sz

/-- What is known of an operation's operands. -/
structure Ox (Γ : Ctx) (F : List (Nat × SV)) (L : List Own) (o : Oper) (ρ : Operand → Value) (w : World) : Prop where
  ws : WSt Γ L w
  ev : ∀ x, x ∈ o.op.operands.toList → ∀ s, Sse.ev F x = some s → Rel (ZL Γ.Z L) w s (ρ x)

theorem Ox.evv {Γ : Ctx} {F : List (Nat × SV)} {L : List Own} {o : Oper} {ρ : Operand → Value} {w : World} (h : Ox Γ F L o ρ w) {x : Operand} (hm : x ∈ o.op.operands.toList) {v : Value} (hx : Sse.ev F x = some (.val v)) :
    ρ x = v := (h.ev x hm _ hx).val_eq

theorem St.ox {Γ : Ctx} {F : List (Nat × SV)} {L : List Own} {a : Act} {w : World} (h : St Γ F L a w) (o : Oper) : Ox Γ F L o a.eval w := ⟨h.ws, fun x _ s hx => h.ev hx⟩

def Pv (P : Program) (Γ : Ctx) (F : List (Nat × SV)) (L : List Own) (o : Oper) (sv : SV) : Prop :=
  ∀ (ρ : Operand → Value) w, Ox Γ F L o ρ w → ∃ v, (execOp ρ o).run P w = .ok (.value v) w ∧ Rel (ZL Γ.Z L) w sv v

/-- An operation that turns nothing that is owned, told by its operands alone. -/
def Qs (P : Program) (Γ : Ctx) (F : List (Nat × SV)) (L : List Own) (o : Oper) (sv : SV) : Prop :=
  ∀ a w (K : Act → World → Prop) (Q : Exit → Act → World → Prop), WSt Γ L w → (∀ x, x ∈ o.op.operands.toList → ∀ s, ev F x = some s → Rel (ZL Γ.Z L) w s (a.eval x)) →
    (∀ v w', Step Γ L L w w' → Rel (ZL Γ.Z L) w' sv v → K (a.put o.dst v) w') → o.wp P a w K Q

theorem Qs.pv {P : Program} {Γ : Ctx} {F : List (Nat × SV)} {L : List Own} {o : Oper} {sv : SV} (h : Pv P Γ F L o sv) : Qs P Γ F L o sv := by
  intro a w K Q hws hx hK
  obtain ⟨v, hr, hv⟩ := h a.eval w ⟨hws, hx⟩
  unfold Oper.wp
  rw [hr]
  exact hK v w (Step.refl hws) hv

/-- How an operation of a run is told: it runs; its guard says no. -/
inductive Item (P : Program) (Γ : Ctx) (ops : Array Oper) (F : List (Nat × SV)) (L : List Own) : Oper → SV → Prop
  | run {o : Oper} {sv : SV} (hg : o.guard = none) (h : Qs P Γ F L o sv) : Item P Γ ops F L o sv
  | yes {o : Oper} {sv : SV} {j d : Nat} {want b : Bool} {og : Oper} (hg : o.guard = some (j, want)) (ho : ops[j]? = some og) (hd : og.dst = some d) (hv : look F d = some (.val (.bool b))) (hb : b = want) (h : Qs P Γ F L o sv) : Item P Γ ops F L o sv
  | no {o : Oper} {sv : SV} {j d : Nat} {want b : Bool} {og : Oper} (hg : o.guard = some (j, want)) (ho : ops[j]? = some og) (hd : og.dst = some d) (hv : look F d = some (.val (.bool b))) (hb : b = !want) (hs : sv = .any) : Item P Γ ops F L o sv

/-- A run of operations, by their list. -/
inductive SegL (P : Program) (Γ : Ctx) (ops : Array Oper) (L : List Own) : List (Nat × SV) → List Oper → List (Nat × SV) → Prop
  | nil {F : List (Nat × SV)} : SegL P Γ ops L F [] []
  | cons {F : List (Nat × SV)} {o : Oper} {l : List Oper} {d : Nat} {sv : SV} {r : List (Nat × SV)} (hd : o.dst = some d) (hlt : Nat.blt d Γ.nt = true) (hi : Item P Γ ops F L o sv) (hr : SegL P Γ ops L ((d, sv) :: F) l r) : SegL P Γ ops L F (o :: l) ((d, sv) :: r)

theorem SegL.q {P : Program} {Γ : Ctx} {ops : Array Oper} {L : List Own} {F : List (Nat × SV)} {l : List Oper} {r : List (Nat × SV)} {d : Nat} {op : Op} {ty : TypeId} {pos : String} {aft : Array Edge} {sv : SV}
    (hq : Qs P Γ F L ⟨some d, op, ty, pos, aft, none⟩ sv) (hlt : Nat.blt d Γ.nt = true) (hr : SegL P Γ ops L ((d, sv) :: F) l r) : SegL P Γ ops L F (⟨some d, op, ty, pos, aft, none⟩ :: l) ((d, sv) :: r) := .cons rfl hlt (.run rfl hq) hr

theorem SegL.yes {P : Program} {Γ : Ctx} {ops : Array Oper} {L : List Own} {F : List (Nat × SV)} {l : List Oper} {r : List (Nat × SV)} {dst : Option Tmp} {op : Op} {ty : TypeId} {pos : String} {aft : Array Edge} {j e : Nat} {want b : Bool} {og : Oper}
    (hog : ops[j]? = some og) (hod : og.dst = some e) (hv : look F e = some (.val (.bool b))) (hb : b = want) (h : SegL P Γ ops L F (⟨dst, op, ty, pos, aft, none⟩ :: l) r) : SegL P Γ ops L F (⟨dst, op, ty, pos, aft, some (j, want)⟩ :: l) r := by
  generalize hl : (⟨dst, op, ty, pos, aft, none⟩ : Oper) :: l = l' at h
  cases h with
  | nil => cases hl
  | cons hd hlt hi hr =>
    cases hl
    refine .cons hd hlt ?_ hr
    cases hi with
    | run hg hq => exact .yes rfl hog hod hv hb (fun a w K Q => hq a w K Q)
    | yes hg => cases hg
    | no hg => cases hg

theorem SegL.no {P : Program} {Γ : Ctx} {ops : Array Oper} {L : List Own} {F : List (Nat × SV)} {l : List Oper} {r : List (Nat × SV)} {d : Nat} {op : Op} {ty : TypeId} {pos : String} {aft : Array Edge} {j e : Nat} {want b : Bool} {og : Oper}
    (hog : ops[j]? = some og) (hod : og.dst = some e) (hv : look F e = some (.val (.bool b))) (hb : b = !want) (hlt : Nat.blt d Γ.nt = true) (hr : SegL P Γ ops L ((d, .any) :: F) l r) : SegL P Γ ops L F (⟨some d, op, ty, pos, aft, some (j, want)⟩ :: l) ((d, .any) :: r) :=
  .cons rfl hlt (.no rfl hog hod hv hb rfl) hr

def pushAll : List (Nat × SV) → List (Nat × SV) → List (Nat × SV)
  | F, [] => F
  | F, p :: r => pushAll (p :: F) r

/-- A run of operations, and what stands behind it. -/
structure SegC (P : Program) (Γ : Ctx) (ops : Array Oper) (L : List Own) (F : List (Nat × SV)) (l : List Oper) (K : List (Nat × SV) → Prop) : Prop where
  go : ∃ items, SegL P Γ ops L F l items ∧ K (pushAll F items)

section
variable {P : Program} {Γ : Ctx} {ops : Array Oper} {L : List Own} {F : List (Nat × SV)} {l : List Oper} {K : List (Nat × SV) → Prop} {d : Nat} {op : Op} {ty : TypeId} {pos : String} {aft : Array Edge} {sv : SV}
theorem SegC.nil (h : K F) : SegC P Γ ops L F [] K := ⟨[], .nil, h⟩
theorem SegC.q (hq : Qs P Γ F L ⟨some d, op, ty, pos, aft, none⟩ sv) (hlt : Nat.blt d Γ.nt = true) (hr : SegC P Γ ops L ((d, sv) :: F) l K) : SegC P Γ ops L F (⟨some d, op, ty, pos, aft, none⟩ :: l) K := by
  obtain ⟨its, h1, h2⟩ := hr
  exact ⟨_, SegL.q hq hlt h1, h2⟩
theorem SegC.yes {dst : Option Tmp} {j e : Nat} {want b : Bool} {og : Oper}
    (hog : ops[j]? = some og) (hod : og.dst = some e) (hv : look F e = some (.val (.bool b))) (hb : b = want) (h : SegC P Γ ops L F (⟨dst, op, ty, pos, aft, none⟩ :: l) K) : SegC P Γ ops L F (⟨dst, op, ty, pos, aft, some (j, want)⟩ :: l) K := by
  obtain ⟨its, h1, h2⟩ := h
  exact ⟨its, SegL.yes hog hod hv hb h1, h2⟩
theorem SegC.no {j e : Nat} {want b : Bool} {og : Oper}
    (hog : ops[j]? = some og) (hod : og.dst = some e) (hv : look F e = some (.val (.bool b))) (hb : b = !want) (hlt : Nat.blt d Γ.nt = true) (hr : SegC P Γ ops L ((d, .any) :: F) l K) : SegC P Γ ops L F (⟨some d, op, ty, pos, aft, some (j, want)⟩ :: l) K := by
  obtain ⟨its, h1, h2⟩ := hr
  exact ⟨_, SegL.no hog hod hv hb hlt h1, h2⟩
end

section
variable {P : Program} {Γ : Ctx} {ops : Array Oper} {Q : Exit → Act → World → Prop} {F : List (Nat × SV)} {L : List Own} {rest : List Oper}
variable {dst : Option Tmp} {ty : TypeId} {pos : String} {aft : Array Edge} {g : Option (Nat × Bool)}

theorem OpS.of_pv {o : Oper} {sv : SV} (h : Pv P Γ F L o sv) : OpS P Γ o F L (fun s L' => s = sv ∧ L' = L) := by
  intro a w K Q hst hK
  obtain ⟨v, hr, hv⟩ := h a.eval w (hst.ox o)
  unfold Oper.wp
  rw [hr]
  exact hK v w sv L ⟨rfl, rfl⟩ (Step.refl hst.ws) hv

theorem J.pv {d : Nat} {op : Op} {sv : SV} (h : Pv P Γ F L ⟨some d, op, ty, pos, aft, none⟩ sv) (hlt : Nat.blt d Γ.nt = true) (k : J P Γ ops Q ((d, sv) :: F) L rest) :
    J P Γ ops Q F L (⟨some d, op, ty, pos, aft, none⟩ :: rest) :=
  J.op (OpS.of_pv h) rfl rfl hlt (by rintro s L' ⟨rfl, rfl⟩; exact k)

theorem Pv.sub {o : Oper} {s t : SV} (h : Pv P Γ F L o s) (hs : Sub s t) : Pv P Γ F L o t := fun ρ w hst => by
  obtain ⟨v, hr, hv⟩ := h ρ w hst
  exact ⟨v, hr, hs _ _ _ hv⟩

theorem Pv.move {x : Operand} {s : SV} (hx : ev F x = some s) : Pv P Γ F L ⟨dst, .move x, ty, pos, aft, g⟩ s :=
  fun ρ w hst => ⟨ρ x, by simp [execOp], hst.ev _ (by simp [Op.operands, Call.operands]) _ hx⟩
theorem Cx.move {x : Operand} {s : SV} (hx : ev F x = some s) {d0 : Nat} {K : List (Nat × SV) → Prop} (hlt : Nat.blt d0 Γ.nt = true) (hr : SegC P Γ ops L ((d0, s) :: F) rest K) : SegC P Γ ops L F (⟨some d0, .move x, ty, pos, aft, none⟩ :: rest) K :=
  SegC.q (Qs.pv (by apply Pv.move <;> assumption)) hlt hr
theorem Jx.move {x : Operand} {s : SV} (hx : ev F x = some s) {d0 : Nat} (hlt : Nat.blt d0 Γ.nt = true) (k : J P Γ ops Q ((d0, s) :: F) L rest) : J P Γ ops Q F L (⟨some d0, .move x, ty, pos, aft, none⟩ :: rest) :=
  J.pv (by apply Pv.move <;> assumption) hlt k

theorem Pv.assign {x : Operand} {s : SV} (hx : ev F x = some s) : Pv P Γ F L ⟨dst, .assign x, ty, pos, aft, g⟩ s :=
  fun ρ w hst => ⟨ρ x, by simp [execOp], hst.ev _ (by simp [Op.operands, Call.operands]) _ hx⟩
theorem Cx.assign {x : Operand} {s : SV} (hx : ev F x = some s) {d0 : Nat} {K : List (Nat × SV) → Prop} (hlt : Nat.blt d0 Γ.nt = true) (hr : SegC P Γ ops L ((d0, s) :: F) rest K) : SegC P Γ ops L F (⟨some d0, .assign x, ty, pos, aft, none⟩ :: rest) K :=
  SegC.q (Qs.pv (by apply Pv.assign <;> assumption)) hlt hr
theorem Jx.assign {x : Operand} {s : SV} (hx : ev F x = some s) {d0 : Nat} (hlt : Nat.blt d0 Γ.nt = true) (k : J P Γ ops Q ((d0, s) :: F) L rest) : J P Γ ops Q F L (⟨some d0, .assign x, ty, pos, aft, none⟩ :: rest) :=
  J.pv (by apply Pv.assign <;> assumption) hlt k

theorem Pv.pickT {c x y : Operand} {s : SV} {b : Bool} (hc : ev F c = some (.val (.bool b))) (hb : b = true) (hx : ev F x = some s) : Pv P Γ F L ⟨dst, .pick c x y, ty, pos, aft, g⟩ s :=
  fun ρ w hst => ⟨ρ x, by subst hb; simp [execOp, hst.evv (by simp [Op.operands, Call.operands]) hc, asBool], hst.ev _ (by simp [Op.operands, Call.operands]) _ hx⟩
theorem Cx.pickT {c x y : Operand} {s : SV} {b : Bool} (hc : ev F c = some (.val (.bool b))) (hb : b = true) (hx : ev F x = some s) {d0 : Nat} {K : List (Nat × SV) → Prop} (hlt : Nat.blt d0 Γ.nt = true) (hr : SegC P Γ ops L ((d0, s) :: F) rest K) : SegC P Γ ops L F (⟨some d0, .pick c x y, ty, pos, aft, none⟩ :: rest) K :=
  SegC.q (Qs.pv (by apply Pv.pickT <;> assumption)) hlt hr
theorem Jx.pickT {c x y : Operand} {s : SV} {b : Bool} (hc : ev F c = some (.val (.bool b))) (hb : b = true) (hx : ev F x = some s) {d0 : Nat} (hlt : Nat.blt d0 Γ.nt = true) (k : J P Γ ops Q ((d0, s) :: F) L rest) : J P Γ ops Q F L (⟨some d0, .pick c x y, ty, pos, aft, none⟩ :: rest) :=
  J.pv (by apply Pv.pickT <;> assumption) hlt k

theorem Pv.pickF {c x y : Operand} {s : SV} {b : Bool} (hc : ev F c = some (.val (.bool b))) (hb : b = false) (hy : ev F y = some s) : Pv P Γ F L ⟨dst, .pick c x y, ty, pos, aft, g⟩ s :=
  fun ρ w hst => ⟨ρ y, by subst hb; simp [execOp, hst.evv (by simp [Op.operands, Call.operands]) hc, asBool], hst.ev _ (by simp [Op.operands, Call.operands]) _ hy⟩
theorem Cx.pickF {c x y : Operand} {s : SV} {b : Bool} (hc : ev F c = some (.val (.bool b))) (hb : b = false) (hy : ev F y = some s) {d0 : Nat} {K : List (Nat × SV) → Prop} (hlt : Nat.blt d0 Γ.nt = true) (hr : SegC P Γ ops L ((d0, s) :: F) rest K) : SegC P Γ ops L F (⟨some d0, .pick c x y, ty, pos, aft, none⟩ :: rest) K :=
  SegC.q (Qs.pv (by apply Pv.pickF <;> assumption)) hlt hr
theorem Jx.pickF {c x y : Operand} {s : SV} {b : Bool} (hc : ev F c = some (.val (.bool b))) (hb : b = false) (hy : ev F y = some s) {d0 : Nat} (hlt : Nat.blt d0 Γ.nt = true) (k : J P Γ ops Q ((d0, s) :: F) L rest) : J P Γ ops Q F L (⟨some d0, .pick c x y, ty, pos, aft, none⟩ :: rest) :=
  J.pv (by apply Pv.pickF <;> assumption) hlt k

theorem Pv.nilCheck {x : Operand} {p : Addr} (hx : ev F x = some (.val (.pointer (some p)))) : Pv P Γ F L ⟨dst, .nilCheck x, ty, pos, aft, g⟩ (.val (.pointer (some p))) :=
  fun ρ w hst => ⟨.pointer (some p), by simp [execOp, hst.evv (by simp [Op.operands, Call.operands]) hx], .val _⟩
theorem Cx.nilCheck {x : Operand} {p : Addr} (hx : ev F x = some (.val (.pointer (some p)))) {d0 : Nat} {K : List (Nat × SV) → Prop} (hlt : Nat.blt d0 Γ.nt = true) (hr : SegC P Γ ops L ((d0, (.val (.pointer (some p)))) :: F) rest K) : SegC P Γ ops L F (⟨some d0, .nilCheck x, ty, pos, aft, none⟩ :: rest) K :=
  SegC.q (Qs.pv (by apply Pv.nilCheck <;> assumption)) hlt hr
theorem Jx.nilCheck {x : Operand} {p : Addr} (hx : ev F x = some (.val (.pointer (some p)))) {d0 : Nat} (hlt : Nat.blt d0 Γ.nt = true) (k : J P Γ ops Q ((d0, (.val (.pointer (some p)))) :: F) L rest) : J P Γ ops Q F L (⟨some d0, .nilCheck x, ty, pos, aft, none⟩ :: rest) :=
  J.pv (by apply Pv.nilCheck <;> assumption) hlt k

theorem Pv.nilCheckF {x : Operand} {f : FuncId} {A B : Array Value} (hx : ev F x = some (.val (.func (.func f) A B))) : Pv P Γ F L ⟨dst, .nilCheck x, ty, pos, aft, g⟩ (.val (.func (.func f) A B)) :=
  fun ρ w hst => ⟨_, by simp [execOp, hst.evv (by simp [Op.operands, Call.operands]) hx], .val _⟩
theorem Cx.nilCheckF {x : Operand} {f : FuncId} {A B : Array Value} (hx : ev F x = some (.val (.func (.func f) A B))) {d0 : Nat} {K : List (Nat × SV) → Prop} (hlt : Nat.blt d0 Γ.nt = true) (hr : SegC P Γ ops L ((d0, (.val (.func (.func f) A B))) :: F) rest K) : SegC P Γ ops L F (⟨some d0, .nilCheck x, ty, pos, aft, none⟩ :: rest) K :=
  SegC.q (Qs.pv (by apply Pv.nilCheckF <;> assumption)) hlt hr
theorem Jx.nilCheckF {x : Operand} {f : FuncId} {A B : Array Value} (hx : ev F x = some (.val (.func (.func f) A B))) {d0 : Nat} (hlt : Nat.blt d0 Γ.nt = true) (k : J P Γ ops Q ((d0, (.val (.func (.func f) A B))) :: F) L rest) : J P Γ ops Q F L (⟨some d0, .nilCheck x, ty, pos, aft, none⟩ :: rest) :=
  J.pv (by apply Pv.nilCheckF <;> assumption) hlt k

theorem eqGuard_none {op : BinOp} {t : TypeId} {x y : Operand} {u v : Value} {w : World} (hu : u.oneCell' = true) (hn : u ≠ .nilIface) :
    (eqGuard op t x y u v).run P w = .ok () w := by
  unfold eqGuard
  cases op <;> simp <;> cases u <;> simp_all [Value.oneCell']

/-- Two integers. -/
theorem Pv.intOp {op : BinOp} {t t2 : TypeId} {x y : Operand} {k : IntKind} {m n : Int} {r : Value} (hx : ev F x = some (.val (.int k m))) (hy : ev F y = some (.val (.int k n)))
    (hr : ∀ w : World, (binOp op t (.int k m) (.int k n)).run P w = .ok r w) : Pv P Γ F L ⟨dst, .binOp op t x y t2, ty, pos, aft, g⟩ (.val r) :=
  fun ρ w hst => ⟨r, by simp [execOp, hst.evv (by simp [Op.operands, Call.operands]) hx, hst.evv (by simp [Op.operands, Call.operands]) hy, eqGuard_none (P := P) (w := w) (u := .int k m) rfl (by simp), hr w], .val _⟩
theorem Cx.intOp {op : BinOp} {t t2 : TypeId} {x y : Operand} {k : IntKind} {m n : Int} {r : Value} (hx : ev F x = some (.val (.int k m))) (hy : ev F y = some (.val (.int k n)))
    (hr : ∀ w : World, (binOp op t (.int k m) (.int k n)).run P w = .ok r w) {d0 : Nat} {K : List (Nat × SV) → Prop} (hlt : Nat.blt d0 Γ.nt = true) (hr : SegC P Γ ops L ((d0, (.val r)) :: F) rest K) : SegC P Γ ops L F (⟨some d0, .binOp op t x y t2, ty, pos, aft, none⟩ :: rest) K :=
  SegC.q (Qs.pv (by apply Pv.intOp <;> assumption)) hlt hr
theorem Jx.intOp {op : BinOp} {t t2 : TypeId} {x y : Operand} {k : IntKind} {m n : Int} {r : Value} (hx : ev F x = some (.val (.int k m))) (hy : ev F y = some (.val (.int k n)))
    (hr : ∀ w : World, (binOp op t (.int k m) (.int k n)).run P w = .ok r w) {d0 : Nat} (hlt : Nat.blt d0 Γ.nt = true) (k : J P Γ ops Q ((d0, (.val r)) :: F) L rest) : J P Γ ops Q F L (⟨some d0, .binOp op t x y t2, ty, pos, aft, none⟩ :: rest) :=
  J.pv (by apply Pv.intOp <;> assumption) hlt k

section
variable {t t2 : TypeId} {x y : Operand} {k : IntKind} {m n : Int} (hx : ev F x = some (.val (.int k m))) (hy : ev F y = some (.val (.int k n)))
include hx hy
theorem Pv.add : Pv P Γ F L ⟨dst, .binOp .add t x y t2, ty, pos, aft, g⟩ (.val (.int k (k.wrap (m + n)))) := Pv.intOp hx hy fun w => by simp [binOp, Op.intArith]
theorem Cx.add  {d0 : Nat} {K : List (Nat × SV) → Prop} (hlt : Nat.blt d0 Γ.nt = true) (hr : SegC P Γ ops L ((d0, (.val (.int k (k.wrap (m + n))))) :: F) rest K) : SegC P Γ ops L F (⟨some d0, .binOp .add t x y t2, ty, pos, aft, none⟩ :: rest) K :=
  SegC.q (Qs.pv (by apply Pv.add <;> assumption)) hlt hr
theorem Jx.add  {d0 : Nat} (hlt : Nat.blt d0 Γ.nt = true) (k : J P Γ ops Q ((d0, (.val (.int k (k.wrap (m + n))))) :: F) L rest) : J P Γ ops Q F L (⟨some d0, .binOp .add t x y t2, ty, pos, aft, none⟩ :: rest) :=
  J.pv (by apply Pv.add <;> assumption) hlt k

theorem Pv.sub' : Pv P Γ F L ⟨dst, .binOp .sub t x y t2, ty, pos, aft, g⟩ (.val (.int k (k.wrap (m - n)))) := Pv.intOp hx hy fun w => by simp [binOp, Op.intArith]
theorem Cx.sub'  {d0 : Nat} {K : List (Nat × SV) → Prop} (hlt : Nat.blt d0 Γ.nt = true) (hr : SegC P Γ ops L ((d0, (.val (.int k (k.wrap (m - n))))) :: F) rest K) : SegC P Γ ops L F (⟨some d0, .binOp .sub t x y t2, ty, pos, aft, none⟩ :: rest) K :=
  SegC.q (Qs.pv (by apply Pv.sub' <;> assumption)) hlt hr
theorem Jx.sub'  {d0 : Nat} (hlt : Nat.blt d0 Γ.nt = true) (k : J P Γ ops Q ((d0, (.val (.int k (k.wrap (m - n))))) :: F) L rest) : J P Γ ops Q F L (⟨some d0, .binOp .sub t x y t2, ty, pos, aft, none⟩ :: rest) :=
  J.pv (by apply Pv.sub' <;> assumption) hlt k

theorem Pv.mul : Pv P Γ F L ⟨dst, .binOp .mul t x y t2, ty, pos, aft, g⟩ (.val (.int k (k.wrap (m * n)))) := Pv.intOp hx hy fun w => by simp [binOp, Op.intArith]
theorem Cx.mul  {d0 : Nat} {K : List (Nat × SV) → Prop} (hlt : Nat.blt d0 Γ.nt = true) (hr : SegC P Γ ops L ((d0, (.val (.int k (k.wrap (m * n))))) :: F) rest K) : SegC P Γ ops L F (⟨some d0, .binOp .mul t x y t2, ty, pos, aft, none⟩ :: rest) K :=
  SegC.q (Qs.pv (by apply Pv.mul <;> assumption)) hlt hr
theorem Jx.mul  {d0 : Nat} (hlt : Nat.blt d0 Γ.nt = true) (k : J P Γ ops Q ((d0, (.val (.int k (k.wrap (m * n))))) :: F) L rest) : J P Γ ops Q F L (⟨some d0, .binOp .mul t x y t2, ty, pos, aft, none⟩ :: rest) :=
  J.pv (by apply Pv.mul <;> assumption) hlt k

theorem Pv.quo (h : n ≠ 0) : Pv P Γ F L ⟨dst, .binOp .quo t x y t2, ty, pos, aft, g⟩ (.val (.int k (k.wrap (m.tdiv n)))) := Pv.intOp hx hy fun w => by simp [binOp, Op.intDiv, h]
theorem Cx.quo (h : n ≠ 0) {d0 : Nat} {K : List (Nat × SV) → Prop} (hlt : Nat.blt d0 Γ.nt = true) (hr : SegC P Γ ops L ((d0, (.val (.int k (k.wrap (m.tdiv n))))) :: F) rest K) : SegC P Γ ops L F (⟨some d0, .binOp .quo t x y t2, ty, pos, aft, none⟩ :: rest) K :=
  SegC.q (Qs.pv (by apply Pv.quo <;> assumption)) hlt hr
theorem Jx.quo (h : n ≠ 0) {d0 : Nat} (hlt : Nat.blt d0 Γ.nt = true) (k : J P Γ ops Q ((d0, (.val (.int k (k.wrap (m.tdiv n))))) :: F) L rest) : J P Γ ops Q F L (⟨some d0, .binOp .quo t x y t2, ty, pos, aft, none⟩ :: rest) :=
  J.pv (by apply Pv.quo <;> assumption) hlt k

theorem Pv.rem (h : n ≠ 0) : Pv P Γ F L ⟨dst, .binOp .rem t x y t2, ty, pos, aft, g⟩ (.val (.int k (m.tmod n))) := Pv.intOp hx hy fun w => by simp [binOp, Op.intDiv, h]
theorem Cx.rem (h : n ≠ 0) {d0 : Nat} {K : List (Nat × SV) → Prop} (hlt : Nat.blt d0 Γ.nt = true) (hr : SegC P Γ ops L ((d0, (.val (.int k (m.tmod n)))) :: F) rest K) : SegC P Γ ops L F (⟨some d0, .binOp .rem t x y t2, ty, pos, aft, none⟩ :: rest) K :=
  SegC.q (Qs.pv (by apply Pv.rem <;> assumption)) hlt hr
theorem Jx.rem (h : n ≠ 0) {d0 : Nat} (hlt : Nat.blt d0 Γ.nt = true) (k : J P Γ ops Q ((d0, (.val (.int k (m.tmod n)))) :: F) L rest) : J P Γ ops Q F L (⟨some d0, .binOp .rem t x y t2, ty, pos, aft, none⟩ :: rest) :=
  J.pv (by apply Pv.rem <;> assumption) hlt k

theorem Pv.eqlI : Pv P Γ F L ⟨dst, .binOp .eql t x y t2, ty, pos, aft, g⟩ (.val (.bool (decide (m = n)))) := Pv.intOp hx hy fun w => by simp [binOp, Op.intCmp]; rfl
theorem Cx.eqlI  {d0 : Nat} {K : List (Nat × SV) → Prop} (hlt : Nat.blt d0 Γ.nt = true) (hr : SegC P Γ ops L ((d0, (.val (.bool (decide (m = n))))) :: F) rest K) : SegC P Γ ops L F (⟨some d0, .binOp .eql t x y t2, ty, pos, aft, none⟩ :: rest) K :=
  SegC.q (Qs.pv (by apply Pv.eqlI <;> assumption)) hlt hr
theorem Jx.eqlI  {d0 : Nat} (hlt : Nat.blt d0 Γ.nt = true) (k : J P Γ ops Q ((d0, (.val (.bool (decide (m = n))))) :: F) L rest) : J P Γ ops Q F L (⟨some d0, .binOp .eql t x y t2, ty, pos, aft, none⟩ :: rest) :=
  J.pv (by apply Pv.eqlI <;> assumption) hlt k

theorem Pv.neqI : Pv P Γ F L ⟨dst, .binOp .neq t x y t2, ty, pos, aft, g⟩ (.val (.bool (decide (m ≠ n)))) := Pv.intOp hx hy fun w => by
  simp [binOp, Op.intCmp, bne]
  by_cases h : m = n <;> simp [h]
theorem Cx.neqI  {d0 : Nat} {K : List (Nat × SV) → Prop} (hlt : Nat.blt d0 Γ.nt = true) (hr : SegC P Γ ops L ((d0, (.val (.bool (decide (m ≠ n))))) :: F) rest K) : SegC P Γ ops L F (⟨some d0, .binOp .neq t x y t2, ty, pos, aft, none⟩ :: rest) K :=
  SegC.q (Qs.pv (by apply Pv.neqI <;> assumption)) hlt hr
theorem Jx.neqI  {d0 : Nat} (hlt : Nat.blt d0 Γ.nt = true) (k : J P Γ ops Q ((d0, (.val (.bool (decide (m ≠ n))))) :: F) L rest) : J P Γ ops Q F L (⟨some d0, .binOp .neq t x y t2, ty, pos, aft, none⟩ :: rest) :=
  J.pv (by apply Pv.neqI <;> assumption) hlt k

theorem Pv.lssI : Pv P Γ F L ⟨dst, .binOp .lss t x y t2, ty, pos, aft, g⟩ (.val (.bool (decide (m < n)))) := Pv.intOp hx hy fun w => by simp [binOp, Op.intCmp]
theorem Cx.lssI  {d0 : Nat} {K : List (Nat × SV) → Prop} (hlt : Nat.blt d0 Γ.nt = true) (hr : SegC P Γ ops L ((d0, (.val (.bool (decide (m < n))))) :: F) rest K) : SegC P Γ ops L F (⟨some d0, .binOp .lss t x y t2, ty, pos, aft, none⟩ :: rest) K :=
  SegC.q (Qs.pv (by apply Pv.lssI <;> assumption)) hlt hr
theorem Jx.lssI  {d0 : Nat} (hlt : Nat.blt d0 Γ.nt = true) (k : J P Γ ops Q ((d0, (.val (.bool (decide (m < n))))) :: F) L rest) : J P Γ ops Q F L (⟨some d0, .binOp .lss t x y t2, ty, pos, aft, none⟩ :: rest) :=
  J.pv (by apply Pv.lssI <;> assumption) hlt k

theorem Pv.leqI : Pv P Γ F L ⟨dst, .binOp .leq t x y t2, ty, pos, aft, g⟩ (.val (.bool (decide (m ≤ n)))) := Pv.intOp hx hy fun w => by simp [binOp, Op.intCmp]
theorem Cx.leqI  {d0 : Nat} {K : List (Nat × SV) → Prop} (hlt : Nat.blt d0 Γ.nt = true) (hr : SegC P Γ ops L ((d0, (.val (.bool (decide (m ≤ n))))) :: F) rest K) : SegC P Γ ops L F (⟨some d0, .binOp .leq t x y t2, ty, pos, aft, none⟩ :: rest) K :=
  SegC.q (Qs.pv (by apply Pv.leqI <;> assumption)) hlt hr
theorem Jx.leqI  {d0 : Nat} (hlt : Nat.blt d0 Γ.nt = true) (k : J P Γ ops Q ((d0, (.val (.bool (decide (m ≤ n))))) :: F) L rest) : J P Γ ops Q F L (⟨some d0, .binOp .leq t x y t2, ty, pos, aft, none⟩ :: rest) :=
  J.pv (by apply Pv.leqI <;> assumption) hlt k

theorem Pv.gtrI : Pv P Γ F L ⟨dst, .binOp .gtr t x y t2, ty, pos, aft, g⟩ (.val (.bool (decide (n < m)))) := Pv.intOp hx hy fun w => by simp [binOp, Op.intCmp]
theorem Cx.gtrI  {d0 : Nat} {K : List (Nat × SV) → Prop} (hlt : Nat.blt d0 Γ.nt = true) (hr : SegC P Γ ops L ((d0, (.val (.bool (decide (n < m))))) :: F) rest K) : SegC P Γ ops L F (⟨some d0, .binOp .gtr t x y t2, ty, pos, aft, none⟩ :: rest) K :=
  SegC.q (Qs.pv (by apply Pv.gtrI <;> assumption)) hlt hr
theorem Jx.gtrI  {d0 : Nat} (hlt : Nat.blt d0 Γ.nt = true) (k : J P Γ ops Q ((d0, (.val (.bool (decide (n < m))))) :: F) L rest) : J P Γ ops Q F L (⟨some d0, .binOp .gtr t x y t2, ty, pos, aft, none⟩ :: rest) :=
  J.pv (by apply Pv.gtrI <;> assumption) hlt k

theorem Pv.geqI : Pv P Γ F L ⟨dst, .binOp .geq t x y t2, ty, pos, aft, g⟩ (.val (.bool (decide (n ≤ m)))) := Pv.intOp hx hy fun w => by simp [binOp, Op.intCmp]
theorem Cx.geqI  {d0 : Nat} {K : List (Nat × SV) → Prop} (hlt : Nat.blt d0 Γ.nt = true) (hr : SegC P Γ ops L ((d0, (.val (.bool (decide (n ≤ m))))) :: F) rest K) : SegC P Γ ops L F (⟨some d0, .binOp .geq t x y t2, ty, pos, aft, none⟩ :: rest) K :=
  SegC.q (Qs.pv (by apply Pv.geqI <;> assumption)) hlt hr
theorem Jx.geqI  {d0 : Nat} (hlt : Nat.blt d0 Γ.nt = true) (k : J P Γ ops Q ((d0, (.val (.bool (decide (n ≤ m))))) :: F) L rest) : J P Γ ops Q F L (⟨some d0, .binOp .geq t x y t2, ty, pos, aft, none⟩ :: rest) :=
  J.pv (by apply Pv.geqI <;> assumption) hlt k

end

theorem wrap_i64 {n : Int} (h : -9223372036854775808 ≤ n ∧ n ≤ 9223372036854775807) : IntKind.i64.wrap n = n := IntWalk.i64_in n h

section
variable {t t2 : TypeId} {x y : Operand} {m n : Int} (hx : ev F x = some (.val (.int .i64 m))) (hy : ev F y = some (.val (.int .i64 n)))
include hx hy
theorem Pv.add64 (h : -9223372036854775808 ≤ m + n ∧ m + n ≤ 9223372036854775807) : Pv P Γ F L ⟨dst, .binOp .add t x y t2, ty, pos, aft, g⟩ (.val (.int .i64 (m + n))) := by
  have := Pv.add (P := P) (Γ := Γ) (L := L) (dst := dst) (ty := ty) (pos := pos) (aft := aft) (g := g) (t := t) (t2 := t2) hx hy
  rwa [wrap_i64 h] at this
theorem Cx.add64 (h : -9223372036854775808 ≤ m + n ∧ m + n ≤ 9223372036854775807) {d0 : Nat} {K : List (Nat × SV) → Prop} (hlt : Nat.blt d0 Γ.nt = true) (hr : SegC P Γ ops L ((d0, (.val (.int .i64 (m + n)))) :: F) rest K) : SegC P Γ ops L F (⟨some d0, .binOp .add t x y t2, ty, pos, aft, none⟩ :: rest) K :=
  SegC.q (Qs.pv (by apply Pv.add64 <;> assumption)) hlt hr
theorem Jx.add64 (h : -9223372036854775808 ≤ m + n ∧ m + n ≤ 9223372036854775807) {d0 : Nat} (hlt : Nat.blt d0 Γ.nt = true) (k : J P Γ ops Q ((d0, (.val (.int .i64 (m + n)))) :: F) L rest) : J P Γ ops Q F L (⟨some d0, .binOp .add t x y t2, ty, pos, aft, none⟩ :: rest) :=
  J.pv (by apply Pv.add64 <;> assumption) hlt k

theorem Pv.sub64 (h : -9223372036854775808 ≤ m - n ∧ m - n ≤ 9223372036854775807) : Pv P Γ F L ⟨dst, .binOp .sub t x y t2, ty, pos, aft, g⟩ (.val (.int .i64 (m - n))) := by
  have := Pv.sub' (P := P) (Γ := Γ) (L := L) (dst := dst) (ty := ty) (pos := pos) (aft := aft) (g := g) (t := t) (t2 := t2) hx hy
  rwa [wrap_i64 h] at this
theorem Cx.sub64 (h : -9223372036854775808 ≤ m - n ∧ m - n ≤ 9223372036854775807) {d0 : Nat} {K : List (Nat × SV) → Prop} (hlt : Nat.blt d0 Γ.nt = true) (hr : SegC P Γ ops L ((d0, (.val (.int .i64 (m - n)))) :: F) rest K) : SegC P Γ ops L F (⟨some d0, .binOp .sub t x y t2, ty, pos, aft, none⟩ :: rest) K :=
  SegC.q (Qs.pv (by apply Pv.sub64 <;> assumption)) hlt hr
theorem Jx.sub64 (h : -9223372036854775808 ≤ m - n ∧ m - n ≤ 9223372036854775807) {d0 : Nat} (hlt : Nat.blt d0 Γ.nt = true) (k : J P Γ ops Q ((d0, (.val (.int .i64 (m - n)))) :: F) L rest) : J P Γ ops Q F L (⟨some d0, .binOp .sub t x y t2, ty, pos, aft, none⟩ :: rest) :=
  J.pv (by apply Pv.sub64 <;> assumption) hlt k

theorem Pv.mul64 (h : -9223372036854775808 ≤ m * n ∧ m * n ≤ 9223372036854775807) : Pv P Γ F L ⟨dst, .binOp .mul t x y t2, ty, pos, aft, g⟩ (.val (.int .i64 (m * n))) := by
  have := Pv.mul (P := P) (Γ := Γ) (L := L) (dst := dst) (ty := ty) (pos := pos) (aft := aft) (g := g) (t := t) (t2 := t2) hx hy
  rwa [wrap_i64 h] at this
theorem Cx.mul64 (h : -9223372036854775808 ≤ m * n ∧ m * n ≤ 9223372036854775807) {d0 : Nat} {K : List (Nat × SV) → Prop} (hlt : Nat.blt d0 Γ.nt = true) (hr : SegC P Γ ops L ((d0, (.val (.int .i64 (m * n)))) :: F) rest K) : SegC P Γ ops L F (⟨some d0, .binOp .mul t x y t2, ty, pos, aft, none⟩ :: rest) K :=
  SegC.q (Qs.pv (by apply Pv.mul64 <;> assumption)) hlt hr
theorem Jx.mul64 (h : -9223372036854775808 ≤ m * n ∧ m * n ≤ 9223372036854775807) {d0 : Nat} (hlt : Nat.blt d0 Γ.nt = true) (k : J P Γ ops Q ((d0, (.val (.int .i64 (m * n)))) :: F) L rest) : J P Γ ops Q F L (⟨some d0, .binOp .mul t x y t2, ty, pos, aft, none⟩ :: rest) :=
  J.pv (by apply Pv.mul64 <;> assumption) hlt k

theorem Pv.quo64 (h0 : 0 ≤ m ∧ m ≤ 9223372036854775807) (h : 0 < n) : Pv P Γ F L ⟨dst, .binOp .quo t x y t2, ty, pos, aft, g⟩ (.val (.int .i64 (m / n))) := by
  have := Pv.quo (P := P) (Γ := Γ) (L := L) (dst := dst) (ty := ty) (pos := pos) (aft := aft) (g := g) (t := t) (t2 := t2) hx hy (by omega)
  rw [Int.tdiv_eq_ediv_of_nonneg h0.1] at this
  have h1 : 0 ≤ m / n := Int.ediv_nonneg h0.1 (by omega)
  have h2 : m / n ≤ m := Int.ediv_le_self n h0.1
  rwa [wrap_i64 (by omega)] at this
theorem Cx.quo64 (h0 : 0 ≤ m ∧ m ≤ 9223372036854775807) (h : 0 < n) {d0 : Nat} {K : List (Nat × SV) → Prop} (hlt : Nat.blt d0 Γ.nt = true) (hr : SegC P Γ ops L ((d0, (.val (.int .i64 (m / n)))) :: F) rest K) : SegC P Γ ops L F (⟨some d0, .binOp .quo t x y t2, ty, pos, aft, none⟩ :: rest) K :=
  SegC.q (Qs.pv (by apply Pv.quo64 <;> assumption)) hlt hr
theorem Jx.quo64 (h0 : 0 ≤ m ∧ m ≤ 9223372036854775807) (h : 0 < n) {d0 : Nat} (hlt : Nat.blt d0 Γ.nt = true) (k : J P Γ ops Q ((d0, (.val (.int .i64 (m / n)))) :: F) L rest) : J P Γ ops Q F L (⟨some d0, .binOp .quo t x y t2, ty, pos, aft, none⟩ :: rest) :=
  J.pv (by apply Pv.quo64 <;> assumption) hlt k

theorem Pv.rem64 (h0 : 0 ≤ m) (h : 0 < n) : Pv P Γ F L ⟨dst, .binOp .rem t x y t2, ty, pos, aft, g⟩ (.val (.int .i64 (m % n))) := by
  have := Pv.rem (P := P) (Γ := Γ) (L := L) (dst := dst) (ty := ty) (pos := pos) (aft := aft) (g := g) (t := t) (t2 := t2) hx hy (by omega)
  rwa [Int.tmod_eq_emod_of_nonneg h0] at this
theorem Cx.rem64 (h0 : 0 ≤ m) (h : 0 < n) {d0 : Nat} {K : List (Nat × SV) → Prop} (hlt : Nat.blt d0 Γ.nt = true) (hr : SegC P Γ ops L ((d0, (.val (.int .i64 (m % n)))) :: F) rest K) : SegC P Γ ops L F (⟨some d0, .binOp .rem t x y t2, ty, pos, aft, none⟩ :: rest) K :=
  SegC.q (Qs.pv (by apply Pv.rem64 <;> assumption)) hlt hr
theorem Jx.rem64 (h0 : 0 ≤ m) (h : 0 < n) {d0 : Nat} (hlt : Nat.blt d0 Γ.nt = true) (k : J P Γ ops Q ((d0, (.val (.int .i64 (m % n)))) :: F) L rest) : J P Γ ops Q F L (⟨some d0, .binOp .rem t x y t2, ty, pos, aft, none⟩ :: rest) :=
  J.pv (by apply Pv.rem64 <;> assumption) hlt k

end

/-- A text by its bytes. -/
abbrev sv (l : List UInt8) : Value := .string ⟨l.toArray⟩
abbrev str (l : List UInt8) : SV := .val (sv l)

theorem Pv.strOp {op : BinOp} {t t2 : TypeId} {x y : Operand} {m n : List UInt8} {r : Value} (hx : ev F x = some (str m)) (hy : ev F y = some (str n))
    (hr : ∀ w : World, (binOp op t (sv m) (sv n)).run P w = .ok r w) : Pv P Γ F L ⟨dst, .binOp op t x y t2, ty, pos, aft, g⟩ (.val r) :=
  fun ρ w hst => ⟨r, by simp [execOp, hst.evv (by simp [Op.operands, Call.operands]) hx, hst.evv (by simp [Op.operands, Call.operands]) hy, eqGuard_none (P := P) (w := w) (u := sv m) rfl (by simp), hr w], .val _⟩
theorem Cx.strOp {op : BinOp} {t t2 : TypeId} {x y : Operand} {m n : List UInt8} {r : Value} (hx : ev F x = some (str m)) (hy : ev F y = some (str n))
    (hr : ∀ w : World, (binOp op t (sv m) (sv n)).run P w = .ok r w) {d0 : Nat} {K : List (Nat × SV) → Prop} (hlt : Nat.blt d0 Γ.nt = true) (hr : SegC P Γ ops L ((d0, (.val r)) :: F) rest K) : SegC P Γ ops L F (⟨some d0, .binOp op t x y t2, ty, pos, aft, none⟩ :: rest) K :=
  SegC.q (Qs.pv (by apply Pv.strOp <;> assumption)) hlt hr
theorem Jx.strOp {op : BinOp} {t t2 : TypeId} {x y : Operand} {m n : List UInt8} {r : Value} (hx : ev F x = some (str m)) (hy : ev F y = some (str n))
    (hr : ∀ w : World, (binOp op t (sv m) (sv n)).run P w = .ok r w) {d0 : Nat} (hlt : Nat.blt d0 Γ.nt = true) (k : J P Γ ops Q ((d0, (.val r)) :: F) L rest) : J P Γ ops Q F L (⟨some d0, .binOp op t x y t2, ty, pos, aft, none⟩ :: rest) :=
  J.pv (by apply Pv.strOp <;> assumption) hlt k

theorem decide_beq_bytes (m n : List UInt8) : (m == n) = decide (m = n) := by
  by_cases h : m = n <;> simp [h]

section
variable {t t2 : TypeId} {x y : Operand} {m n : List UInt8} (hx : ev F x = some (str m)) (hy : ev F y = some (str n))
include hx hy
theorem Pv.cat (h : m.length + n.length ≤ 9223372036854775807) : Pv P Γ F L ⟨dst, .binOp .add t x y t2, ty, pos, aft, g⟩ (str (m ++ n)) := Pv.strOp hx hy fun w => by
  simp only [binOp]
  rw [run_string_add_sum (P := P) w ⟨m.toArray⟩ ⟨n.toArray⟩ (by simpa [ByteArray.size] using h)]
  rw [ByteArray.mk_append_mk]
theorem Cx.cat (h : m.length + n.length ≤ 9223372036854775807) {d0 : Nat} {K : List (Nat × SV) → Prop} (hlt : Nat.blt d0 Γ.nt = true) (hr : SegC P Γ ops L ((d0, (str (m ++ n))) :: F) rest K) : SegC P Γ ops L F (⟨some d0, .binOp .add t x y t2, ty, pos, aft, none⟩ :: rest) K :=
  SegC.q (Qs.pv (by apply Pv.cat <;> assumption)) hlt hr
theorem Jx.cat (h : m.length + n.length ≤ 9223372036854775807) {d0 : Nat} (hlt : Nat.blt d0 Γ.nt = true) (k : J P Γ ops Q ((d0, (str (m ++ n))) :: F) L rest) : J P Γ ops Q F L (⟨some d0, .binOp .add t x y t2, ty, pos, aft, none⟩ :: rest) :=
  J.pv (by apply Pv.cat <;> assumption) hlt k

theorem Pv.eqlS : Pv P Γ F L ⟨dst, .binOp .eql t x y t2, ty, pos, aft, g⟩ (.val (.bool (decide (m = n)))) := Pv.strOp hx hy fun w => by simp [binOp, Op.stringOp, decide_beq_bytes]
theorem Cx.eqlS  {d0 : Nat} {K : List (Nat × SV) → Prop} (hlt : Nat.blt d0 Γ.nt = true) (hr : SegC P Γ ops L ((d0, (.val (.bool (decide (m = n))))) :: F) rest K) : SegC P Γ ops L F (⟨some d0, .binOp .eql t x y t2, ty, pos, aft, none⟩ :: rest) K :=
  SegC.q (Qs.pv (by apply Pv.eqlS <;> assumption)) hlt hr
theorem Jx.eqlS  {d0 : Nat} (hlt : Nat.blt d0 Γ.nt = true) (k : J P Γ ops Q ((d0, (.val (.bool (decide (m = n))))) :: F) L rest) : J P Γ ops Q F L (⟨some d0, .binOp .eql t x y t2, ty, pos, aft, none⟩ :: rest) :=
  J.pv (by apply Pv.eqlS <;> assumption) hlt k

theorem Pv.neqS : Pv P Γ F L ⟨dst, .binOp .neq t x y t2, ty, pos, aft, g⟩ (.val (.bool (decide (m ≠ n)))) := Pv.strOp hx hy fun w => by simp [binOp, Op.stringOp, decide_beq_bytes]
theorem Cx.neqS  {d0 : Nat} {K : List (Nat × SV) → Prop} (hlt : Nat.blt d0 Γ.nt = true) (hr : SegC P Γ ops L ((d0, (.val (.bool (decide (m ≠ n))))) :: F) rest K) : SegC P Γ ops L F (⟨some d0, .binOp .neq t x y t2, ty, pos, aft, none⟩ :: rest) K :=
  SegC.q (Qs.pv (by apply Pv.neqS <;> assumption)) hlt hr
theorem Jx.neqS  {d0 : Nat} (hlt : Nat.blt d0 Γ.nt = true) (k : J P Γ ops Q ((d0, (.val (.bool (decide (m ≠ n))))) :: F) L rest) : J P Γ ops Q F L (⟨some d0, .binOp .neq t x y t2, ty, pos, aft, none⟩ :: rest) :=
  J.pv (by apply Pv.neqS <;> assumption) hlt k

theorem Pv.lssS : Pv P Γ F L ⟨dst, .binOp .lss t x y t2, ty, pos, aft, g⟩ (.val (.bool (Op.bytesLess m n))) := Pv.strOp hx hy fun w => by simp [binOp, Op.stringOp]
theorem Cx.lssS  {d0 : Nat} {K : List (Nat × SV) → Prop} (hlt : Nat.blt d0 Γ.nt = true) (hr : SegC P Γ ops L ((d0, (.val (.bool (Op.bytesLess m n)))) :: F) rest K) : SegC P Γ ops L F (⟨some d0, .binOp .lss t x y t2, ty, pos, aft, none⟩ :: rest) K :=
  SegC.q (Qs.pv (by apply Pv.lssS <;> assumption)) hlt hr
theorem Jx.lssS  {d0 : Nat} (hlt : Nat.blt d0 Γ.nt = true) (k : J P Γ ops Q ((d0, (.val (.bool (Op.bytesLess m n)))) :: F) L rest) : J P Γ ops Q F L (⟨some d0, .binOp .lss t x y t2, ty, pos, aft, none⟩ :: rest) :=
  J.pv (by apply Pv.lssS <;> assumption) hlt k

theorem Pv.leqS : Pv P Γ F L ⟨dst, .binOp .leq t x y t2, ty, pos, aft, g⟩ (.val (.bool (Op.bytesLess m n || decide (m = n)))) := Pv.strOp hx hy fun w => by simp [binOp, Op.stringOp, decide_beq_bytes]
theorem Cx.leqS  {d0 : Nat} {K : List (Nat × SV) → Prop} (hlt : Nat.blt d0 Γ.nt = true) (hr : SegC P Γ ops L ((d0, (.val (.bool (Op.bytesLess m n || decide (m = n))))) :: F) rest K) : SegC P Γ ops L F (⟨some d0, .binOp .leq t x y t2, ty, pos, aft, none⟩ :: rest) K :=
  SegC.q (Qs.pv (by apply Pv.leqS <;> assumption)) hlt hr
theorem Jx.leqS  {d0 : Nat} (hlt : Nat.blt d0 Γ.nt = true) (k : J P Γ ops Q ((d0, (.val (.bool (Op.bytesLess m n || decide (m = n))))) :: F) L rest) : J P Γ ops Q F L (⟨some d0, .binOp .leq t x y t2, ty, pos, aft, none⟩ :: rest) :=
  J.pv (by apply Pv.leqS <;> assumption) hlt k

theorem Pv.gtrS : Pv P Γ F L ⟨dst, .binOp .gtr t x y t2, ty, pos, aft, g⟩ (.val (.bool (!(Op.bytesLess m n || decide (m = n))))) := Pv.strOp hx hy fun w => by simp [binOp, Op.stringOp, decide_beq_bytes]
theorem Cx.gtrS  {d0 : Nat} {K : List (Nat × SV) → Prop} (hlt : Nat.blt d0 Γ.nt = true) (hr : SegC P Γ ops L ((d0, (.val (.bool (!(Op.bytesLess m n || decide (m = n)))))) :: F) rest K) : SegC P Γ ops L F (⟨some d0, .binOp .gtr t x y t2, ty, pos, aft, none⟩ :: rest) K :=
  SegC.q (Qs.pv (by apply Pv.gtrS <;> assumption)) hlt hr
theorem Jx.gtrS  {d0 : Nat} (hlt : Nat.blt d0 Γ.nt = true) (k : J P Γ ops Q ((d0, (.val (.bool (!(Op.bytesLess m n || decide (m = n)))))) :: F) L rest) : J P Γ ops Q F L (⟨some d0, .binOp .gtr t x y t2, ty, pos, aft, none⟩ :: rest) :=
  J.pv (by apply Pv.gtrS <;> assumption) hlt k

theorem Pv.geqS : Pv P Γ F L ⟨dst, .binOp .geq t x y t2, ty, pos, aft, g⟩ (.val (.bool (!(Op.bytesLess m n)))) := Pv.strOp hx hy fun w => by simp [binOp, Op.stringOp]
theorem Cx.geqS  {d0 : Nat} {K : List (Nat × SV) → Prop} (hlt : Nat.blt d0 Γ.nt = true) (hr : SegC P Γ ops L ((d0, (.val (.bool (!(Op.bytesLess m n))))) :: F) rest K) : SegC P Γ ops L F (⟨some d0, .binOp .geq t x y t2, ty, pos, aft, none⟩ :: rest) K :=
  SegC.q (Qs.pv (by apply Pv.geqS <;> assumption)) hlt hr
theorem Jx.geqS  {d0 : Nat} (hlt : Nat.blt d0 Γ.nt = true) (k : J P Γ ops Q ((d0, (.val (.bool (!(Op.bytesLess m n))))) :: F) L rest) : J P Γ ops Q F L (⟨some d0, .binOp .geq t x y t2, ty, pos, aft, none⟩ :: rest) :=
  J.pv (by apply Pv.geqS <;> assumption) hlt k

end

section
variable {t t2 : TypeId} {x y : Operand} [TBool P t] {m n : Bool} (hx : ev F x = some (.val (.bool m))) (hy : ev F y = some (.val (.bool n)))
include hx hy
theorem Pv.eqlB : Pv P Γ F L ⟨dst, .binOp .eql t x y t2, ty, pos, aft, g⟩ (.val (.bool (m == n))) :=
  fun ρ w hst => ⟨.bool (m == n), by simp [execOp, hst.evv (by simp [Op.operands, Call.operands]) hx, hst.evv (by simp [Op.operands, Call.operands]) hy, eqGuard_none (P := P) (w := w) (u := .bool m) rfl (by simp), run_eql_bool (P := P) w t m n TBool.ok], .val _⟩
theorem Cx.eqlB  {d0 : Nat} {K : List (Nat × SV) → Prop} (hlt : Nat.blt d0 Γ.nt = true) (hr : SegC P Γ ops L ((d0, (.val (.bool (m == n)))) :: F) rest K) : SegC P Γ ops L F (⟨some d0, .binOp .eql t x y t2, ty, pos, aft, none⟩ :: rest) K :=
  SegC.q (Qs.pv (by apply Pv.eqlB <;> assumption)) hlt hr
theorem Jx.eqlB  {d0 : Nat} (hlt : Nat.blt d0 Γ.nt = true) (k : J P Γ ops Q ((d0, (.val (.bool (m == n)))) :: F) L rest) : J P Γ ops Q F L (⟨some d0, .binOp .eql t x y t2, ty, pos, aft, none⟩ :: rest) :=
  J.pv (by apply Pv.eqlB <;> assumption) hlt k

theorem Pv.neqB : Pv P Γ F L ⟨dst, .binOp .neq t x y t2, ty, pos, aft, g⟩ (.val (.bool (!(m == n)))) :=
  fun ρ w hst => ⟨.bool (!(m == n)), by simp [execOp, hst.evv (by simp [Op.operands, Call.operands]) hx, hst.evv (by simp [Op.operands, Call.operands]) hy, eqGuard_none (P := P) (w := w) (u := .bool m) rfl (by simp), run_neq_bool (P := P) w t m n TBool.ok], .val _⟩
theorem Cx.neqB  {d0 : Nat} {K : List (Nat × SV) → Prop} (hlt : Nat.blt d0 Γ.nt = true) (hr : SegC P Γ ops L ((d0, (.val (.bool (!(m == n))))) :: F) rest K) : SegC P Γ ops L F (⟨some d0, .binOp .neq t x y t2, ty, pos, aft, none⟩ :: rest) K :=
  SegC.q (Qs.pv (by apply Pv.neqB <;> assumption)) hlt hr
theorem Jx.neqB  {d0 : Nat} (hlt : Nat.blt d0 Γ.nt = true) (k : J P Γ ops Q ((d0, (.val (.bool (!(m == n))))) :: F) L rest) : J P Γ ops Q F L (⟨some d0, .binOp .neq t x y t2, ty, pos, aft, none⟩ :: rest) :=
  J.pv (by apply Pv.neqB <;> assumption) hlt k

end

theorem pointee_of {t E : Nat} (h : TPtr P t E) : P.underlying t = some (.pointer (P.pointee t)) := by
  have := h.ok
  simp [Program.pointee, this]

section
variable {t t2 : TypeId} {x : Operand} {E : Nat} [hP : TPtr P t E] {p : Option Addr} (hx : ev F x = some (.val (.pointer p)))
include hP hx
theorem Pv.eqlNil : Pv P Γ F L ⟨dst, .binOp .eql t x (.const (.pointer none)) t2, ty, pos, aft, g⟩ (.val (.bool p.isNone)) :=
  fun ρ w hst => ⟨.bool p.isNone, by simp [execOp, hst.evv (by simp [Op.operands, Call.operands]) hx, hst.evv (x := .const (.pointer none)) (by simp [Op.operands, Call.operands]) rfl, eqGuard_none (P := P) (w := w) (u := .pointer p) rfl (by simp), run_eql_pointer_nil (P := P) w t p (pointee_of hP)], .val _⟩
theorem Cx.eqlNil  {d0 : Nat} {K : List (Nat × SV) → Prop} (hlt : Nat.blt d0 Γ.nt = true) (hr : SegC P Γ ops L ((d0, (.val (.bool p.isNone))) :: F) rest K) : SegC P Γ ops L F (⟨some d0, .binOp .eql t x (.const (.pointer none)) t2, ty, pos, aft, none⟩ :: rest) K :=
  SegC.q (Qs.pv (by apply Pv.eqlNil <;> assumption)) hlt hr
theorem Jx.eqlNil  {d0 : Nat} (hlt : Nat.blt d0 Γ.nt = true) (k : J P Γ ops Q ((d0, (.val (.bool p.isNone))) :: F) L rest) : J P Γ ops Q F L (⟨some d0, .binOp .eql t x (.const (.pointer none)) t2, ty, pos, aft, none⟩ :: rest) :=
  J.pv (by apply Pv.eqlNil <;> assumption) hlt k

theorem Pv.neqNil : Pv P Γ F L ⟨dst, .binOp .neq t x (.const (.pointer none)) t2, ty, pos, aft, g⟩ (.val (.bool (!p.isNone))) :=
  fun ρ w hst => ⟨.bool (!p.isNone), by simp [execOp, hst.evv (by simp [Op.operands, Call.operands]) hx, hst.evv (x := .const (.pointer none)) (by simp [Op.operands, Call.operands]) rfl, eqGuard_none (P := P) (w := w) (u := .pointer p) rfl (by simp), run_neq_pointer_nil (P := P) w t p (pointee_of hP)], .val _⟩
theorem Cx.neqNil  {d0 : Nat} {K : List (Nat × SV) → Prop} (hlt : Nat.blt d0 Γ.nt = true) (hr : SegC P Γ ops L ((d0, (.val (.bool (!p.isNone)))) :: F) rest K) : SegC P Γ ops L F (⟨some d0, .binOp .neq t x (.const (.pointer none)) t2, ty, pos, aft, none⟩ :: rest) K :=
  SegC.q (Qs.pv (by apply Pv.neqNil <;> assumption)) hlt hr
theorem Jx.neqNil  {d0 : Nat} (hlt : Nat.blt d0 Γ.nt = true) (k : J P Γ ops Q ((d0, (.val (.bool (!p.isNone)))) :: F) L rest) : J P Γ ops Q F L (⟨some d0, .binOp .neq t x (.const (.pointer none)) t2, ty, pos, aft, none⟩ :: rest) :=
  J.pv (by apply Pv.neqNil <;> assumption) hlt k

end

theorem Pv.not {t : TypeId} {x : Operand} {b : Bool} (hx : ev F x = some (.val (.bool b))) : Pv P Γ F L ⟨dst, .unOp .not t x, ty, pos, aft, g⟩ (.val (.bool (!b))) :=
  fun ρ w hst => ⟨.bool (!b), by simp [execOp, hst.evv (by simp [Op.operands, Call.operands]) hx, Op.unary], .val _⟩
theorem Cx.not {t : TypeId} {x : Operand} {b : Bool} (hx : ev F x = some (.val (.bool b))) {d0 : Nat} {K : List (Nat × SV) → Prop} (hlt : Nat.blt d0 Γ.nt = true) (hr : SegC P Γ ops L ((d0, (.val (.bool (!b)))) :: F) rest K) : SegC P Γ ops L F (⟨some d0, .unOp .not t x, ty, pos, aft, none⟩ :: rest) K :=
  SegC.q (Qs.pv (by apply Pv.not <;> assumption)) hlt hr
theorem Jx.not {t : TypeId} {x : Operand} {b : Bool} (hx : ev F x = some (.val (.bool b))) {d0 : Nat} (hlt : Nat.blt d0 Γ.nt = true) (k : J P Γ ops Q ((d0, (.val (.bool (!b)))) :: F) L rest) : J P Γ ops Q F L (⟨some d0, .unOp .not t x, ty, pos, aft, none⟩ :: rest) :=
  J.pv (by apply Pv.not <;> assumption) hlt k

theorem Pv.neg64 {t : TypeId} {x : Operand} {n : Int} (hx : ev F x = some (.val (.int .i64 n))) : Pv P Γ F L ⟨dst, .unOp .neg t x, ty, pos, aft, g⟩ (.val (.int .i64 (IntKind.i64.wrap (0 - n)))) :=
  fun ρ w hst => ⟨_, by simp [execOp, hst.evv (by simp [Op.operands, Call.operands]) hx, Op.unary, Op.intArith], .val _⟩
theorem Cx.neg64 {t : TypeId} {x : Operand} {n : Int} (hx : ev F x = some (.val (.int .i64 n))) {d0 : Nat} {K : List (Nat × SV) → Prop} (hlt : Nat.blt d0 Γ.nt = true) (hr : SegC P Γ ops L ((d0, (.val (.int .i64 (IntKind.i64.wrap (0 - n))))) :: F) rest K) : SegC P Γ ops L F (⟨some d0, .unOp .neg t x, ty, pos, aft, none⟩ :: rest) K :=
  SegC.q (Qs.pv (by apply Pv.neg64 <;> assumption)) hlt hr
theorem Jx.neg64 {t : TypeId} {x : Operand} {n : Int} (hx : ev F x = some (.val (.int .i64 n))) {d0 : Nat} (hlt : Nat.blt d0 Γ.nt = true) (k : J P Γ ops Q ((d0, (.val (.int .i64 (IntKind.i64.wrap (0 - n))))) :: F) L rest) : J P Γ ops Q F L (⟨some d0, .unOp .neg t x, ty, pos, aft, none⟩ :: rest) :=
  J.pv (by apply Pv.neg64 <;> assumption) hlt k

/-- A field of a struct behind a pointer. -/
theorem add_plain (b off n : Nat) : (⟨b, off, none⟩ : Addr).add n = ⟨b, off + n, none⟩ := by
  unfold Addr.add
  split
  · subst_vars; simp
  · rfl

theorem run_fieldAt {T f off FT sz : Nat} (h : TFld P T f off FT sz) (b o : Nat) (w : World) : (Instr.fieldAt T (.pointer (some ⟨b, o, none⟩)) f).run P w = .ok (.pointer (some ⟨b, o + off, none⟩)) w := by
  obtain ⟨h1, h2⟩ := h.ok
  unfold fldAt at h1
  split at h1
  · rename_i fs hu
    split at h1
    · rename_i fd hf
      split at h1
      · rename_i i hi
        simp only [Option.some.injEq, Prod.mk.injEq] at h1
        obtain ⟨rfl, rfl, rfl⟩ := h1
        have hsz : (sizeOf fd.type).run P w = .ok i.size w := by simp [sizeOf, typeInfo, hi]
        have hne : ¬ i.size = 0 := by omega
        simp [Instr.fieldAt, run_underlying hu, hf, Instr.sureAddr, fieldPlace, hsz, hne, add_plain]
      · simp at h1
    · simp at h1
  · simp at h1

theorem Pv.fieldAddr {T f off FT sz : Nat} [h : TFld P T f off FT sz] {x : Operand} {b o : Nat} (hx : ev F x = some (.val (.pointer (some ⟨b, o, none⟩)))) :
    Pv P Γ F L ⟨dst, .fieldAddr T x f, ty, pos, aft, g⟩ (.val (.pointer (some ⟨b, o + off, none⟩))) :=
  fun ρ w hst => ⟨_, by simp [execOp, hst.evv (by simp [Op.operands, Call.operands]) hx, run_fieldAt h b o w], .val _⟩
theorem Cx.fieldAddr {T f off FT sz : Nat} [h : TFld P T f off FT sz] {x : Operand} {b o : Nat} (hx : ev F x = some (.val (.pointer (some ⟨b, o, none⟩)))) {d0 : Nat} {K : List (Nat × SV) → Prop} (hlt : Nat.blt d0 Γ.nt = true) (hr : SegC P Γ ops L ((d0, (.val (.pointer (some ⟨b, o + off, none⟩)))) :: F) rest K) : SegC P Γ ops L F (⟨some d0, .fieldAddr T x f, ty, pos, aft, none⟩ :: rest) K :=
  SegC.q (Qs.pv (by apply Pv.fieldAddr <;> assumption)) hlt hr
theorem Jx.fieldAddr {T f off FT sz : Nat} [h : TFld P T f off FT sz] {x : Operand} {b o : Nat} (hx : ev F x = some (.val (.pointer (some ⟨b, o, none⟩)))) {d0 : Nat} (hlt : Nat.blt d0 Γ.nt = true) (k : J P Γ ops Q ((d0, (.val (.pointer (some ⟨b, o + off, none⟩)))) :: F) L rest) : J P Γ ops Q F L (⟨some d0, .fieldAddr T x f, ty, pos, aft, none⟩ :: rest) :=
  J.pv (by apply Pv.fieldAddr <;> assumption) hlt k

-- conversions between integers
theorem Pv.convI {src d : Nat} {x : Operand} {k k' : IntKind} [h : TInt P d k] {n : Int} (hs : (P.underlying src).isSome = true) (hx : ev F x = some (.val (.int k' n))) :
    Pv P Γ F L ⟨dst, .convert src d x, ty, pos, aft, g⟩ (.val (.int k (k.wrap n))) :=
  fun ρ w hst => by
    obtain ⟨ds, hds⟩ := Option.isSome_iff_exists.1 hs
    refine ⟨_, ?_, .val _⟩
    simp only [execOp, hst.evv (by simp [Op.operands, Call.operands]) hx, convert, run_underlying hds, run_underlying h.ok, Sem.run_bind, Sem.run_pure, Result.andThen_ok]
    cases ds <;> simp [Conv.intToInt] <;> rfl
theorem Cx.convI {src d : Nat} {x : Operand} {k k' : IntKind} [h : TInt P d k] {n : Int} (hs : (P.underlying src).isSome = true) (hx : ev F x = some (.val (.int k' n))) {d0 : Nat} {K : List (Nat × SV) → Prop} (hlt : Nat.blt d0 Γ.nt = true) (hr : SegC P Γ ops L ((d0, (.val (.int k (k.wrap n)))) :: F) rest K) : SegC P Γ ops L F (⟨some d0, .convert src d x, ty, pos, aft, none⟩ :: rest) K :=
  SegC.q (Qs.pv (by apply Pv.convI <;> assumption)) hlt hr
theorem Jx.convI {src d : Nat} {x : Operand} {k k' : IntKind} [h : TInt P d k] {n : Int} (hs : (P.underlying src).isSome = true) (hx : ev F x = some (.val (.int k' n))) {d0 : Nat} (hlt : Nat.blt d0 Γ.nt = true) (k : J P Γ ops Q ((d0, (.val (.int k (k.wrap n)))) :: F) L rest) : J P Γ ops Q F L (⟨some d0, .convert src d x, ty, pos, aft, none⟩ :: rest) :=
  J.pv (by apply Pv.convI <;> assumption) hlt k

-- len
theorem Pv.lenS {T : Nat} [h : TStr P T] {x : Operand} {l : List UInt8} (hx : ev F x = some (str l)) :
    Pv P Γ F L ⟨dst, .call { callee := .builtin .len, args := #[x], argTypes := #[T] }, ty, pos, aft, g⟩ (.val (.int .i64 l.length)) :=
  fun ρ w hst => ⟨_, by simp only [execOp, resolve, invoke, builtin, hst.evv (by simp [Op.operands, Call.operands]) hx, List.map_toArray, List.map_cons, List.map_nil, Sem.run_bind, Sem.run_pure, Result.andThen_ok, run_len_string (P := P) w T ty ⟨l.toArray⟩ h.ok]; rfl, .val _⟩
theorem Cx.lenS {T : Nat} [h : TStr P T] {x : Operand} {l : List UInt8} (hx : ev F x = some (str l)) {d0 : Nat} {K : List (Nat × SV) → Prop} (hlt : Nat.blt d0 Γ.nt = true) (hr : SegC P Γ ops L ((d0, (.val (.int .i64 l.length))) :: F) rest K) : SegC P Γ ops L F (⟨some d0, .call { callee := .builtin .len, args := #[x], argTypes := #[T] }, ty, pos, aft, none⟩ :: rest) K :=
  SegC.q (Qs.pv (by apply Pv.lenS <;> assumption)) hlt hr
theorem Jx.lenS {T : Nat} [h : TStr P T] {x : Operand} {l : List UInt8} (hx : ev F x = some (str l)) {d0 : Nat} (hlt : Nat.blt d0 Γ.nt = true) (k : J P Γ ops Q ((d0, (.val (.int .i64 l.length))) :: F) L rest) : J P Γ ops Q F L (⟨some d0, .call { callee := .builtin .len, args := #[x], argTypes := #[T] }, ty, pos, aft, none⟩ :: rest) :=
  J.pv (by apply Pv.lenS <;> assumption) hlt k

theorem Pv.lenSl {T E : Nat} [h : TSlice P T E] {x : Operand} {sz n : Nat} {el : Nat → List SV} (hx : ev F x = some (.sl sz n el)) :
    Pv P Γ F L ⟨dst, .call { callee := .builtin .len, args := #[x], argTypes := #[T] }, ty, pos, aft, g⟩ (.val (.int .i64 n)) :=
  fun ρ w hst => by
    have hr := hst.ev _ (by simp [Op.operands, Call.operands]) _ hx
    generalize hv : ρ x = v at hr
    cases hr
    exact ⟨_, by simp [execOp, resolve, invoke, builtin, hv, Builtin.len_, run_underlying h.ok, goInt], .val _⟩
theorem Cx.lenSl {T E : Nat} [h : TSlice P T E] {x : Operand} {sz n : Nat} {el : Nat → List SV} (hx : ev F x = some (.sl sz n el)) {d0 : Nat} {K : List (Nat × SV) → Prop} (hlt : Nat.blt d0 Γ.nt = true) (hr : SegC P Γ ops L ((d0, (.val (.int .i64 n))) :: F) rest K) : SegC P Γ ops L F (⟨some d0, .call { callee := .builtin .len, args := #[x], argTypes := #[T] }, ty, pos, aft, none⟩ :: rest) K :=
  SegC.q (Qs.pv (by apply Pv.lenSl <;> assumption)) hlt hr
theorem Jx.lenSl {T E : Nat} [h : TSlice P T E] {x : Operand} {sz n : Nat} {el : Nat → List SV} (hx : ev F x = some (.sl sz n el)) {d0 : Nat} (hlt : Nat.blt d0 Γ.nt = true) (k : J P Γ ops Q ((d0, (.val (.int .i64 n))) :: F) L rest) : J P Γ ops Q F L (⟨some d0, .call { callee := .builtin .len, args := #[x], argTypes := #[T] }, ty, pos, aft, none⟩ :: rest) :=
  J.pv (by apply Pv.lenSl <;> assumption) hlt k

theorem Pv.lenV {T E : Nat} [h : TSlice P T E] {x : Operand} {b : Option Addr} {n c : Nat} (hx : ev F x = some (.val (.slice b n c))) :
    Pv P Γ F L ⟨dst, .call { callee := .builtin .len, args := #[x], argTypes := #[T] }, ty, pos, aft, g⟩ (.val (.int .i64 n)) :=
  fun ρ w hst => ⟨_, by simp [execOp, resolve, invoke, builtin, hst.evv (by simp [Op.operands, Call.operands]) hx, Builtin.len_, run_underlying h.ok, goInt], .val _⟩
theorem Cx.lenV {T E : Nat} [h : TSlice P T E] {x : Operand} {b : Option Addr} {n c : Nat} (hx : ev F x = some (.val (.slice b n c))) {d0 : Nat} {K : List (Nat × SV) → Prop} (hlt : Nat.blt d0 Γ.nt = true) (hr : SegC P Γ ops L ((d0, (.val (.int .i64 n))) :: F) rest K) : SegC P Γ ops L F (⟨some d0, .call { callee := .builtin .len, args := #[x], argTypes := #[T] }, ty, pos, aft, none⟩ :: rest) K :=
  SegC.q (Qs.pv (by apply Pv.lenV <;> assumption)) hlt hr
theorem Jx.lenV {T E : Nat} [h : TSlice P T E] {x : Operand} {b : Option Addr} {n c : Nat} (hx : ev F x = some (.val (.slice b n c))) {d0 : Nat} (hlt : Nat.blt d0 Γ.nt = true) (k : J P Γ ops Q ((d0, (.val (.int .i64 n))) :: F) L rest) : J P Γ ops Q F L (⟨some d0, .call { callee := .builtin .len, args := #[x], argTypes := #[T] }, ty, pos, aft, none⟩ :: rest) :=
  J.pv (by apply Pv.lenV <;> assumption) hlt k

theorem Pv.max {x y : Operand} {ts : Array TypeId} {k k' : IntKind} {m n : Int} (hx : ev F x = some (.val (.int k m))) (hy : ev F y = some (.val (.int k' n))) :
    Pv P Γ F L ⟨dst, .call { callee := .builtin .max, args := #[x, y], argTypes := ts }, ty, pos, aft, g⟩ (.val (.int k (if n > m then n else m))) :=
  fun ρ w hst => ⟨_, by simp [execOp, resolve, invoke, builtin, hst.evv (by simp [Op.operands, Call.operands]) hx, hst.evv (by simp [Op.operands, Call.operands]) hy, run_max_int2], .val _⟩
theorem Cx.max {x y : Operand} {ts : Array TypeId} {k k' : IntKind} {m n : Int} (hx : ev F x = some (.val (.int k m))) (hy : ev F y = some (.val (.int k' n))) {d0 : Nat} {K : List (Nat × SV) → Prop} (hlt : Nat.blt d0 Γ.nt = true) (hr : SegC P Γ ops L ((d0, (.val (.int k (if n > m then n else m)))) :: F) rest K) : SegC P Γ ops L F (⟨some d0, .call { callee := .builtin .max, args := #[x, y], argTypes := ts }, ty, pos, aft, none⟩ :: rest) K :=
  SegC.q (Qs.pv (by apply Pv.max <;> assumption)) hlt hr
theorem Jx.max {x y : Operand} {ts : Array TypeId} {k k' : IntKind} {m n : Int} (hx : ev F x = some (.val (.int k m))) (hy : ev F y = some (.val (.int k' n))) {d0 : Nat} (hlt : Nat.blt d0 Γ.nt = true) (k : J P Γ ops Q ((d0, (.val (.int k (if n > m then n else m)))) :: F) L rest) : J P Γ ops Q F L (⟨some d0, .call { callee := .builtin .max, args := #[x, y], argTypes := ts }, ty, pos, aft, none⟩ :: rest) :=
  J.pv (by apply Pv.max <;> assumption) hlt k

theorem Pv.min {x y : Operand} {ts : Array TypeId} {k k' : IntKind} {m n : Int} (hx : ev F x = some (.val (.int k m))) (hy : ev F y = some (.val (.int k' n))) :
    Pv P Γ F L ⟨dst, .call { callee := .builtin .min, args := #[x, y], argTypes := ts }, ty, pos, aft, g⟩ (.val (.int k (if n < m then n else m))) :=
  fun ρ w hst => ⟨_, by simp [execOp, resolve, invoke, builtin, hst.evv (by simp [Op.operands, Call.operands]) hx, hst.evv (by simp [Op.operands, Call.operands]) hy, run_min_int2], .val _⟩
theorem Cx.min {x y : Operand} {ts : Array TypeId} {k k' : IntKind} {m n : Int} (hx : ev F x = some (.val (.int k m))) (hy : ev F y = some (.val (.int k' n))) {d0 : Nat} {K : List (Nat × SV) → Prop} (hlt : Nat.blt d0 Γ.nt = true) (hr : SegC P Γ ops L ((d0, (.val (.int k (if n < m then n else m)))) :: F) rest K) : SegC P Γ ops L F (⟨some d0, .call { callee := .builtin .min, args := #[x, y], argTypes := ts }, ty, pos, aft, none⟩ :: rest) K :=
  SegC.q (Qs.pv (by apply Pv.min <;> assumption)) hlt hr
theorem Jx.min {x y : Operand} {ts : Array TypeId} {k k' : IntKind} {m n : Int} (hx : ev F x = some (.val (.int k m))) (hy : ev F y = some (.val (.int k' n))) {d0 : Nat} (hlt : Nat.blt d0 Γ.nt = true) (k : J P Γ ops Q ((d0, (.val (.int k (if n < m then n else m)))) :: F) L rest) : J P Γ ops Q F L (⟨some d0, .call { callee := .builtin .min, args := #[x, y], argTypes := ts }, ty, pos, aft, none⟩ :: rest) :=
  J.pv (by apply Pv.min <;> assumption) hlt k

-- parts of strings
theorem Pv.indexS {T : Nat} [h : TStr P T] {x i : Operand} {k : IntKind} {l : List UInt8} {m : Int} (hx : ev F x = some (str l)) (hi : ev F i = some (.val (.int k m))) (h0 : 0 ≤ m) (h1 : m < l.length) :
    Pv P Γ F L ⟨dst, .index T x i, ty, pos, aft, g⟩ (.val (.int .u8 (l.getD m.toNat 0).toNat)) :=
  fun ρ w hst => by
    refine ⟨_, ?_, .val _⟩
    have hlt : m.toNat < l.length := by omega
    have hg : (⟨l.toArray⟩ : ByteArray)[m.toNat]? = some (l.getD m.toNat 0) := by
      rw [ByteArray.getElem?_lt' _ _ (by simpa [ByteArray.size] using hlt)]
      simp [ByteArray.getElem_eq_getElem_data, hlt]
    simp only [execOp, hst.evv (by simp [Op.operands, Call.operands]) hx, hst.evv (by simp [Op.operands, Call.operands]) hi, Instr.index, asIntOf, run_underlying h.ok, Sem.run_bind, Sem.run_pure, Result.andThen_ok, h0, if_true, hg]
theorem Cx.indexS {T : Nat} [h : TStr P T] {x i : Operand} {k : IntKind} {l : List UInt8} {m : Int} (hx : ev F x = some (str l)) (hi : ev F i = some (.val (.int k m))) (h0 : 0 ≤ m) (h1 : m < l.length) {d0 : Nat} {K : List (Nat × SV) → Prop} (hlt : Nat.blt d0 Γ.nt = true) (hr : SegC P Γ ops L ((d0, (.val (.int .u8 (l.getD m.toNat 0).toNat))) :: F) rest K) : SegC P Γ ops L F (⟨some d0, .index T x i, ty, pos, aft, none⟩ :: rest) K :=
  SegC.q (Qs.pv (by apply Pv.indexS <;> assumption)) hlt hr
theorem Jx.indexS {T : Nat} [h : TStr P T] {x i : Operand} {k : IntKind} {l : List UInt8} {m : Int} (hx : ev F x = some (str l)) (hi : ev F i = some (.val (.int k m))) (h0 : 0 ≤ m) (h1 : m < l.length) {d0 : Nat} (hlt : Nat.blt d0 Γ.nt = true) (k : J P Γ ops Q ((d0, (.val (.int .u8 (l.getD m.toNat 0).toNat))) :: F) L rest) : J P Γ ops Q F L (⟨some d0, .index T x i, ty, pos, aft, none⟩ :: rest) :=
  J.pv (by apply Pv.indexS <;> assumption) hlt k

theorem extract_mk (l : List UInt8) (i j : Nat) : (⟨l.toArray⟩ : ByteArray).extract i j = ⟨((l.take j).drop i).toArray⟩ := by
  apply ByteArray.ext
  rw [ByteArray.data_extract]
  simp [List.extract_eq_take_drop, List.drop_take]

theorem run_sliceBoundNat {k : IntKind} {i : Int} {y : Nat} {code : BoundsCode} {w : World} (h0 : 0 ≤ i) (h1 : i ≤ y) : (Instr.sliceBound (.int k i) y code).run P w = .ok i.toNat w := by
  simp [Instr.sliceBound, asIntOf, h0, h1]

section
variable {T : Nat} [h : TStr P T] {x i j : Operand} {k k' : IntKind} {l : List UInt8} {m n : Int} (hx : ev F x = some (str l))
include h hx
theorem Pv.sliceSlh (hi : ev F i = some (.val (.int k m))) (hj : ev F j = some (.val (.int k' n))) (h0 : 0 ≤ m) (h1 : m ≤ n) (h2 : n ≤ l.length) :
    Pv P Γ F L ⟨dst, .slice T x (some i) (some j) none, ty, pos, aft, g⟩ (str ((l.take n.toNat).drop m.toNat)) :=
  fun ρ w hst => by
    refine ⟨_, ?_, .val _⟩
    have e1 := run_sliceBoundNat (P := P) (k := k') (i := n) (y := l.length) (code := .sliceAlen) (w := w) (by omega) h2
    have e2 := run_sliceBoundNat (P := P) (k := k) (i := m) (y := n.toNat) (code := .sliceB) (w := w) h0 (by omega)
    simp [execOp, hst.evv (by simp [Op.operands, Call.operands]) hx, hst.evv (by simp [Op.operands, Call.operands]) hi, hst.evv (by simp [Op.operands, Call.operands]) hj, Instr.sliceAt, Instr.slice, Instr.sliceBounds, run_underlying h.ok, ByteArray.size_mk', e1, e2, extract_mk]
theorem Cx.sliceSlh (hi : ev F i = some (.val (.int k m))) (hj : ev F j = some (.val (.int k' n))) (h0 : 0 ≤ m) (h1 : m ≤ n) (h2 : n ≤ l.length) {d0 : Nat} {K : List (Nat × SV) → Prop} (hlt : Nat.blt d0 Γ.nt = true) (hr : SegC P Γ ops L ((d0, (str ((l.take n.toNat).drop m.toNat))) :: F) rest K) : SegC P Γ ops L F (⟨some d0, .slice T x (some i) (some j) none, ty, pos, aft, none⟩ :: rest) K :=
  SegC.q (Qs.pv (by apply Pv.sliceSlh <;> assumption)) hlt hr
theorem Jx.sliceSlh (hi : ev F i = some (.val (.int k m))) (hj : ev F j = some (.val (.int k' n))) (h0 : 0 ≤ m) (h1 : m ≤ n) (h2 : n ≤ l.length) {d0 : Nat} (hlt : Nat.blt d0 Γ.nt = true) (k : J P Γ ops Q ((d0, (str ((l.take n.toNat).drop m.toNat))) :: F) L rest) : J P Γ ops Q F L (⟨some d0, .slice T x (some i) (some j) none, ty, pos, aft, none⟩ :: rest) :=
  J.pv (by apply Pv.sliceSlh <;> assumption) hlt k

theorem Pv.sliceSh (hj : ev F j = some (.val (.int k' n))) (h0 : 0 ≤ n) (h2 : n ≤ l.length) :
    Pv P Γ F L ⟨dst, .slice T x none (some j) none, ty, pos, aft, g⟩ (str (l.take n.toNat)) :=
  fun ρ w hst => by
    refine ⟨_, ?_, .val _⟩
    have e1 := run_sliceBoundNat (P := P) (k := k') (i := n) (y := l.length) (code := .sliceAlen) (w := w) (by omega) h2
    simp [execOp, hst.evv (by simp [Op.operands, Call.operands]) hx, hst.evv (by simp [Op.operands, Call.operands]) hj, Instr.sliceAt, Instr.slice, Instr.sliceBounds, run_underlying h.ok, ByteArray.size_mk', e1, extract_mk]
theorem Cx.sliceSh (hj : ev F j = some (.val (.int k' n))) (h0 : 0 ≤ n) (h2 : n ≤ l.length) {d0 : Nat} {K : List (Nat × SV) → Prop} (hlt : Nat.blt d0 Γ.nt = true) (hr : SegC P Γ ops L ((d0, (str (l.take n.toNat))) :: F) rest K) : SegC P Γ ops L F (⟨some d0, .slice T x none (some j) none, ty, pos, aft, none⟩ :: rest) K :=
  SegC.q (Qs.pv (by apply Pv.sliceSh <;> assumption)) hlt hr
theorem Jx.sliceSh (hj : ev F j = some (.val (.int k' n))) (h0 : 0 ≤ n) (h2 : n ≤ l.length) {d0 : Nat} (hlt : Nat.blt d0 Γ.nt = true) (k : J P Γ ops Q ((d0, (str (l.take n.toNat))) :: F) L rest) : J P Γ ops Q F L (⟨some d0, .slice T x none (some j) none, ty, pos, aft, none⟩ :: rest) :=
  J.pv (by apply Pv.sliceSh <;> assumption) hlt k

theorem Pv.sliceSl (hi : ev F i = some (.val (.int k m))) (h0 : 0 ≤ m) (h2 : m ≤ l.length) :
    Pv P Γ F L ⟨dst, .slice T x (some i) none none, ty, pos, aft, g⟩ (str (l.drop m.toNat)) :=
  fun ρ w hst => by
    refine ⟨_, ?_, .val _⟩
    have e1 := run_sliceBoundNat (P := P) (k := k) (i := m) (y := l.length) (code := .sliceB) (w := w) (by omega) h2
    simp [execOp, hst.evv (by simp [Op.operands, Call.operands]) hx, hst.evv (by simp [Op.operands, Call.operands]) hi, Instr.sliceAt, Instr.slice, Instr.sliceBounds, run_underlying h.ok, ByteArray.size_mk', e1, extract_mk]
theorem Cx.sliceSl (hi : ev F i = some (.val (.int k m))) (h0 : 0 ≤ m) (h2 : m ≤ l.length) {d0 : Nat} {K : List (Nat × SV) → Prop} (hlt : Nat.blt d0 Γ.nt = true) (hr : SegC P Γ ops L ((d0, (str (l.drop m.toNat))) :: F) rest K) : SegC P Γ ops L F (⟨some d0, .slice T x (some i) none none, ty, pos, aft, none⟩ :: rest) K :=
  SegC.q (Qs.pv (by apply Pv.sliceSl <;> assumption)) hlt hr
theorem Jx.sliceSl (hi : ev F i = some (.val (.int k m))) (h0 : 0 ≤ m) (h2 : m ≤ l.length) {d0 : Nat} (hlt : Nat.blt d0 Γ.nt = true) (k : J P Γ ops Q ((d0, (str (l.drop m.toNat))) :: F) L rest) : J P Γ ops Q F L (⟨some d0, .slice T x (some i) none none, ty, pos, aft, none⟩ :: rest) :=
  J.pv (by apply Pv.sliceSl <;> assumption) hlt k

end

-- tuples
theorem getD_toArray (l : List Value) (i : Nat) : l.toArray.getD i undef = l.getD i undef := by simp [Array.getD_eq_getD_getElem?, List.getD_eq_getElem?_getD]
theorem Pv.extract {x : Operand} {cs : List SV} {i : Nat} {s : SV} (hx : ev F x = some (.tup cs)) (hi : cs[i]? = some s) : Pv P Γ F L ⟨dst, .extract x i, ty, pos, aft, g⟩ s :=
  fun ρ w hst => by
    have hr := hst.ev _ (by simp [Op.operands, Call.operands]) _ hx
    generalize hv : ρ x = v at hr
    cases hr with
    | tup _ vs hl hr =>
      have hlt : i < cs.length := by
        rcases Nat.lt_or_ge i cs.length with h | h
        · exact h
        · simp [List.getElem?_eq_none h] at hi
      have hg := hr i hlt
      have e1 : cs.getD i .any = s := by simp [List.getD_eq_getElem?_getD, hi]
      rw [e1] at hg
      have hlt' : i < vs.length := by omega
      refine ⟨vs.getD i undef, ?_, hg⟩
      simp [execOp, hv, Instr.extract, hlt']
theorem Cx.extract {x : Operand} {cs : List SV} {i : Nat} {s : SV} (hx : ev F x = some (.tup cs)) (hi : cs[i]? = some s) {d0 : Nat} {K : List (Nat × SV) → Prop} (hlt : Nat.blt d0 Γ.nt = true) (hr : SegC P Γ ops L ((d0, s) :: F) rest K) : SegC P Γ ops L F (⟨some d0, .extract x i, ty, pos, aft, none⟩ :: rest) K :=
  SegC.q (Qs.pv (by apply Pv.extract <;> assumption)) hlt hr
theorem Jx.extract {x : Operand} {cs : List SV} {i : Nat} {s : SV} (hx : ev F x = some (.tup cs)) (hi : cs[i]? = some s) {d0 : Nat} (hlt : Nat.blt d0 Γ.nt = true) (k : J P Γ ops Q ((d0, s) :: F) L rest) : J P Γ ops Q F L (⟨some d0, .extract x i, ty, pos, aft, none⟩ :: rest) :=
  J.pv (by apply Pv.extract <;> assumption) hlt k

end
end Go.Sse
