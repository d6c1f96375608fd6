/-
  More rules over values: building with all parts found by reckoning.
-/
import Derived.Test.YtjlpknligekfeaaDoorSseH
import Derived.Laws.MakeOwn
namespace Go.Sse
open Go Go.Sse
set_option linter.unusedVariables false
set_option linter.unusedSimpArgs false

/-- What a list of operands holds. -/
def evs (F : List (Nat × SV)) : List Operand → Option (List SV)
  | [] => some []
  | x :: xs => match ev F x with
    | none => none
    | some s => match evs F xs with
      | none => none
      | some ss => some (s :: ss)

theorem evs_args {F : List (Nat × SV)} : ∀ {xs : List Operand} {ss : List SV}, evs F xs = some ss → Args F xs ss
  | [], ss, h => by simp only [evs, Option.some.injEq] at h; subst h; exact .nil
  | x :: xs, ss, h => by
    simp only [evs] at h
    split at h
    · cases h
    · rename_i s hs
      split at h
      · cases h
      · rename_i ss' hss
        simp only [Option.some.injEq] at h; subst h
        exact .cons hs (evs_args hss)

def partB : SV → Bool
  | .val v => v.oneCell'
  | .sl .. => true
  | .pp .. => true
  | .slc .. => true
  | .agg .. => true
  | _ => false

def partsB : List SV → Bool
  | [] => true
  | s :: r => partB s && partsB r

theorem partsB_ok : ∀ {ss : List SV}, partsB ss = true → AllOK ss
  | [], _ => .nil
  | s :: r, h => by
    simp only [partsB, Bool.and_eq_true] at h
    refine .cons ?_ (partsB_ok h.2)
    cases s <;> simp only [partB] at h <;> first | exact .agg | exact .one .sl | exact .one .pp | exact .one .slc | exact .one (.val h.1) | (cases h.1)

section
variable {P : Program} {Γ : Ctx} {ops : Array Oper} {Q : Exit → Act → World → Prop} {F : List (Nat × SV)} {L : List Own} {rest : List Oper}
variable {dst : Option Tmp} {ty : TypeId} {pos : String} {aft : Array Edge} {g : Option (Nat × Bool)}
theorem Pv.buildB {T sz by' : Nat} {z : List Value} {pl : List (Nat × Nat)} [hI : TInfo P T sz by' z] [hB : TBuild P T pl] {parts : List (Nat × Operand)} {ss cs' : List SV} (ha : evs F (parts.map (·.2)) = some ss) (hok : partsB ss = true)
    (hz1 : z.all (·.oneCell') = true) (hf : fillS pl (z.map .val) ((parts.map (·.1)).zip ss) = some cs') : Pv P Γ F L ⟨dst, .build T parts.toArray, ty, pos, aft, g⟩ (.agg cs') := Pv.build (evs_args ha) (partsB_ok hok) hz1 hf
theorem Cx.buildB {T sz by' : Nat} {z : List Value} {pl : List (Nat × Nat)} [hI : TInfo P T sz by' z] [hB : TBuild P T pl] {parts : List (Nat × Operand)} {ss cs' : List SV} (ha : evs F (parts.map (·.2)) = some ss) (hok : partsB ss = true)
    (hz1 : z.all (·.oneCell') = true) (hf : fillS pl (z.map .val) ((parts.map (·.1)).zip ss) = some cs') {d0 : Nat} {K : List (Nat × SV) → Prop} (hlt : Nat.blt d0 Γ.nt = true) (hr : SegC P Γ ops L ((d0, (.agg cs')) :: F) rest K) : SegC P Γ ops L F (⟨some d0, .build T parts.toArray, ty, pos, aft, none⟩ :: rest) K :=
  SegC.q (Qs.pv (by apply Pv.buildB <;> assumption)) hlt hr
theorem Jx.buildB {T sz by' : Nat} {z : List Value} {pl : List (Nat × Nat)} [hI : TInfo P T sz by' z] [hB : TBuild P T pl] {parts : List (Nat × Operand)} {ss cs' : List SV} (ha : evs F (parts.map (·.2)) = some ss) (hok : partsB ss = true)
    (hz1 : z.all (·.oneCell') = true) (hf : fillS pl (z.map .val) ((parts.map (·.1)).zip ss) = some cs') {d0 : Nat} (hlt : Nat.blt d0 Γ.nt = true) (k : J P Γ ops Q ((d0, (.agg cs')) :: F) L rest) : J P Γ ops Q F L (⟨some d0, .build T parts.toArray, ty, pos, aft, none⟩ :: rest) :=
  J.pv (by apply Pv.buildB <;> assumption) hlt k

/-- A list's member. -/
theorem Pv.indexEl {T E sz n : Nat} [h : TSlice P T E] {by' : Nat} {z : List Value} [hI : TInfo P E sz by' z] {x i : Operand} {k : IntKind} {α : Type} {enc : α → List SV} {d : α} {l : List α} {j : Nat} (hx : ev F x = some (.sl sz n (elOf enc d l)))
    (hi : ev F i = some (.val (.int k (j : Int)))) (h1 : j < n) (hsz : Nat.blt 0 sz = true) : Pv P Γ F L ⟨dst, .indexAddr T x i, ty, pos, aft, g⟩ (.pp (enc (l.getD j d))) :=
  Pv.indexSl (el := elOf enc d l) hx hi (by omega) (by omega) (by simpa [Nat.blt_eq] using hsz)
theorem Cx.indexEl {T E sz n : Nat} [h : TSlice P T E] {by' : Nat} {z : List Value} [hI : TInfo P E sz by' z] {x i : Operand} {k : IntKind} {α : Type} {enc : α → List SV} {d : α} {l : List α} {j : Nat} (hx : ev F x = some (.sl sz n (elOf enc d l)))
    (hi : ev F i = some (.val (.int k (j : Int)))) (h1 : j < n) (hsz : Nat.blt 0 sz = true) {d0 : Nat} {K : List (Nat × SV) → Prop} (hlt : Nat.blt d0 Γ.nt = true) (hr : SegC P Γ ops L ((d0, (.pp (enc (l.getD j d)))) :: F) rest K) : SegC P Γ ops L F (⟨some d0, .indexAddr T x i, ty, pos, aft, none⟩ :: rest) K :=
  SegC.q (Qs.pv (by apply Pv.indexEl <;> assumption)) hlt hr
theorem Jx.indexEl {T E sz n : Nat} [h : TSlice P T E] {by' : Nat} {z : List Value} [hI : TInfo P E sz by' z] {x i : Operand} {k : IntKind} {α : Type} {enc : α → List SV} {d : α} {l : List α} {j : Nat} (hx : ev F x = some (.sl sz n (elOf enc d l)))
    (hi : ev F i = some (.val (.int k (j : Int)))) (h1 : j < n) (hsz : Nat.blt 0 sz = true) {d0 : Nat} (hlt : Nat.blt d0 Γ.nt = true) (k : J P Γ ops Q ((d0, (.pp (enc (l.getD j d)))) :: F) L rest) : J P Γ ops Q F L (⟨some d0, .indexAddr T x i, ty, pos, aft, none⟩ :: rest) :=
  J.pv (by apply Pv.indexEl <;> assumption) hlt k

theorem Pv.fieldEl {T f off FT sz : Nat} [h : TFld P T f off FT sz] {x : Operand} {cs : List SV} {s : SV} {ds : List SV} (hx : ev F x = some (.pp cs)) (hd : cs.drop off = s :: ds) :
    Pv P Γ F L ⟨dst, .fieldAddr T x f, ty, pos, aft, g⟩ (.pp (s :: ds)) := Pv.fieldPP hx hd (by simp)
theorem Cx.fieldEl {T f off FT sz : Nat} [h : TFld P T f off FT sz] {x : Operand} {cs : List SV} {s : SV} {ds : List SV} (hx : ev F x = some (.pp cs)) (hd : cs.drop off = s :: ds) {d0 : Nat} {K : List (Nat × SV) → Prop} (hlt : Nat.blt d0 Γ.nt = true) (hr : SegC P Γ ops L ((d0, (.pp (s :: ds))) :: F) rest K) : SegC P Γ ops L F (⟨some d0, .fieldAddr T x f, ty, pos, aft, none⟩ :: rest) K :=
  SegC.q (Qs.pv (by apply Pv.fieldEl <;> assumption)) hlt hr
theorem Jx.fieldEl {T f off FT sz : Nat} [h : TFld P T f off FT sz] {x : Operand} {cs : List SV} {s : SV} {ds : List SV} (hx : ev F x = some (.pp cs)) (hd : cs.drop off = s :: ds) {d0 : Nat} (hlt : Nat.blt d0 Γ.nt = true) (k : J P Γ ops Q ((d0, (.pp (s :: ds))) :: F) L rest) : J P Γ ops Q F L (⟨some d0, .fieldAddr T x f, ty, pos, aft, none⟩ :: rest) :=
  J.pv (by apply Pv.fieldEl <;> assumption) hlt k

/-- A row of noughts. -/
theorem Qs.zeros {t e by' : Nat} [hd : TSlice P t e] [hI : TInfo P e 1 by' [.int .u8 0]] {x y : Operand} {n : Nat} {k k' : IntKind} (hx : ev F x = some (.val (.int k (n : Int)))) (hy : ev F y = some (.val (.int k' (n : Int)))) (hm : n ≤ maxLen) (hby : by' * n ≤ 281474976710656) :
    Qs P Γ F L ⟨dst, .makeSlice t x y, ty, pos, aft, g⟩ (bsl (List.replicate n 0)) := by
  intro a w K Q hws hops hK
  have hxv := (hops x (by simp [Op.operands]) _ hx).val_eq
  have hyv := (hops y (by simp [Op.operands]) _ hy).val_eq
  obtain ⟨z, hzr, hzc, i, hi, hsz, hb, hiz⟩ := run_zero hI w
  have hml : (n : Int) ≤ 9223372036854775807 := Int.ofNat_le.2 (Nat.le_trans hm (by decide : maxLen ≤ 9223372036854775807))
  have hb' : (i.bytes : Int) * (n : Int) ≤ 281474976710656 := by rw [hb, ← Int.natCast_mul]; exact Int.ofNat_le.2 hby
  have hr := run_make (P := P) w t e i z hd.ok hi hiz k k' (n : Int) (n : Int) (by omega) (Int.le_refl _) hb' hml
  simp only [Int.toNat_natCast, hsz, Nat.mul_one] at hr
  unfold Oper.wp
  have he : (execOp a.eval ⟨dst, .makeSlice t x y, ty, pos, aft, g⟩).run P w = .ok (.value (.slice (some ⟨w.heap.size, 0, none⟩) n n)) (w.alloc (.cells (madeCells z.cells n) e)) := by
    simp only [execOp, hxv, hyv, Sem.run_bind, hr, Result.andThen_ok, Sem.run_pure]
  rw [he]
  have hcl : (List.replicate n (0 : UInt8)).length = n := List.length_replicate
  refine hK _ _ (Step.alloc0 hws _) ?_
  unfold bsl
  rw [hcl]
  refine .sl 1 n _ _ n (fun _ => .int .u8 0) (Nat.le_refl _) hm (.inr ⟨w.heap.size, 0, rfl, hws.fresh, fun j hj => ?_⟩) (fun _ _ => rfl) (fun _ _ => rfl) (fun i j hi hj => ?_)
  · have hc := obj_cell (b := w.heap.size) (heap_alloc_new w (.cells (madeCells z.cells n) e)) j
    rw [Nat.zero_add, hc]
    have hz1 : z.cells = #[.int .u8 0] := by rw [← Array.toList_inj, hzc]
    have hj' : j < n := by omega
    simp [madeCells, hz1, hj', Nat.mod_one]
  · have : j = 0 := by omega
    subst this
    simp only [elOf, encB, List.getD_cons_zero, List.getD_eq_getElem?_getD, List.getElem?_replicate, hi, if_true, Option.getD_some]
    exact .val _
end

section
variable {P : Program} {Γ : Ctx} {ops : Array Oper} {Q : Exit → Act → World → Prop} {F : List (Nat × SV)} {L : List Own} {rest : List Oper}
def isStore (o : Oper) : Bool := match o.op with
  | .store .. | .mapUpdate .. | .insert .. | .entryStore .. => true
  | _ => false
/-- Where a region's first writing operation stands. -/
def firstStore : List Oper → Nat
  | [] => 0
  | o :: r => if isStore o then 0 else firstStore r + 1
/-- A drawn region without writing. -/
theorem JD.calm {l : List Oper} (hs : Nat.beq (firstStore l) l.length = true) (hc : chk l.toArray 0 l.toArray.size = true) (h : SegC P Γ l.toArray L F l (fun G => N Γ (Q .normal) G L)) : JD P Γ l.toArray Q 0 F L := by
  obtain ⟨its, h1, h2⟩ := h
  exact JD.all h1 hc rfl h2
/-- A drawn region that writes at its end. -/
theorem JD.upto {l l' : List Oper} {n : Nat} (hs : firstStore l = n) (hc : chk l.toArray 0 n = true) (hc2 : chkTail l.toArray n = true) (hle : Nat.ble n l.length = true) (hl : l.drop n = l')
    (h : SegC P Γ l.toArray L F (l.take n) (fun G => J P Γ l.toArray Q G L l')) : JD P Γ l.toArray Q 0 F L := by
  obtain ⟨its, h1, h2⟩ := h
  exact JD.some n h1 hc rfl (JD.tail hc2 (by simpa using hle) (by simpa using hl) h2)
/-- The same, up to whatever operation. -/
theorem JD.till {l l' : List Oper} (n : Nat) (hc : chk l.toArray 0 n = true) (hc2 : chkTail l.toArray n = true) (hle : Nat.ble n l.length = true) (hl : l.drop n = l')
    (h : SegC P Γ l.toArray L F (l.take n) (fun G => J P Γ l.toArray Q G L l')) : JD P Γ l.toArray Q 0 F L := by
  obtain ⟨its, h1, h2⟩ := h
  exact JD.some n h1 hc rfl (JD.tail hc2 (by simpa using hle) (by simpa using hl) h2)
end
end Go.Sse
