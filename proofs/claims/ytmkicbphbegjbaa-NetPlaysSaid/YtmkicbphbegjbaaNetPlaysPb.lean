/-
  Lemmas for the claim, part 2.
-/
import Derived.Test.YtmkicbphbegjbaaNetPlaysPa
namespace Go.Sse
open Go Go.Sse
set_option linter.unusedVariables false
set_option linter.unusedSimpArgs false
inductive Leaf where
  | b | i (k : IntKind) | s
def leafFields (P : Program) (g : TypeId → Option (List Leaf)) : List Field → Nat → Option (List Leaf)
  | [], _ => some []
  | f :: fs, off => if f.offset = off ∧ f.name ≠ "_" then
      match g f.type with
      | some l => if P.cellsOf f.type = l.length then (leafFields P g fs (off + l.length)).map (l ++ ·) else none
      | none => none
    else none
def leavesAt (P : Program) : Nat → TypeId → Option (List Leaf)
  | 0, _ => none
  | d + 1, t => match P.underlying t with
    | some .bool => some [.b]
    | some (.int k) => some [.i k]
    | some .string => some [.s]
    | some (.array n e) => match leavesAt P d e with
      | some l => if P.cellsOf e = l.length then some (List.replicate n l).flatten else none
      | none => none
    | some (.struct fs) => if P.stoodInHeld t = true then none else leafFields P (leavesAt P d) fs.toList 0
    | _ => none
def isAggD : Option TypeDesc → Bool
  | some (.struct _) | some (.array _ _) => true
  | _ => false
section
variable {P : Program}
end
class TLeaf (P : Program) (t : Nat) (ls : outParam (List Leaf)) : Prop where
  ok : leavesAt P 20 t = some ls ∧ isAggD (P.underlying t) = true ∧ P.eqGuardType P.depth t = false
def unval : SV → Option Value
  | .val v => some v
  | _ => none
def unvals : List SV → Option (List Value)
  | [] => some []
  | s :: r => match unval s, unvals r with
    | some v, some vs => some (v :: vs)
    | _, _ => none
theorem unvals_rel {Z : Nat → Prop} {w : World} : ∀ {cs : List SV} {us vs : List Value}, unvals cs = some us → vs.length = cs.length → (∀ j, j < cs.length → Rel Z w (cs.getD j .any) (vs.getD j undef)) → vs = us
  | [], us, vs, h, hl, _ => by
    simp only [unvals, Option.some.injEq] at h
    subst h
    exact List.eq_nil_of_length_eq_zero (by simpa using hl)
  | s :: r, us, [], h, hl, _ => by simp at hl
  | s :: r, us, v :: vs, h, hl, hr => by
    simp only [unvals] at h
    cases hs : unval s with
    | none => rw [hs] at h; simp at h
    | some u =>
      cases ht : unvals r with
      | none => rw [hs, ht] at h; simp at h
      | some us' =>
        rw [hs, ht] at h
        simp only [Option.some.injEq] at h
        subst h
        have h0 := hr 0 (by simp)
        simp only [List.getD_cons_zero] at h0
        have hsv : s = .val u := by cases s <;> simp [unval] at hs; rw [hs]
        rw [hsv] at h0
        have h9 : vs = us' := unvals_rel ht (by simpa using hl) fun j hj => by simpa using hr (j + 1) (by simpa using hj)
        rw [h0.val_eq, h9]
section
variable {P : Program} {Γ : Ctx} {ops : Array Oper} {Q : Exit → Act → World → Prop} {F : List (Nat × SV)} {L : List Own} {rest : List Oper}
variable {dst : Option Tmp} {ty : TypeId} {pos : String} {aft : Array Edge} {g : Option (Nat × Bool)}
theorem agg_vals {Γ : Ctx} {L : List Own} {w : World} {cs : List SV} {us : List Value} {v : Value} (h : Rel (ZL Γ.Z L) w (.agg cs) v) (hu : unvals cs = some us) : v = .agg us.toArray := by
  cases h with
  | agg _ vs hl h1 hr => rw [unvals_rel hu hl hr]
section
variable {t t2 : TypeId} {ls : List Leaf} [h : TLeaf P t ls] {x y : Operand} {cs ds : List SV} {us vs : List Value} (b : Bool)
end
end
end Go.Sse
namespace Go.Sse
open Go Go.Sse
set_option linter.unusedVariables false
set_option linter.unusedSimpArgs false
set_option maxRecDepth 10000
section
variable {P : Program} {Γ : Ctx} {ops : Array Oper} {Q : Exit → Act → World → Prop} {F : List (Nat × SV)} {L : List Own} {rest : List Oper}
variable {dst : Option Tmp} {ty : TypeId} {pos : String} {aft : Array Edge} {g : Option (Nat × Bool)}
theorem J.guardNoU {dst : Tmp} {op : Op} {ty : TypeId} {pos : String} {aft : Array Edge} {j d : Nat} {want b : Bool} {og : Oper}
    (ho : ops[j]? = some og) (hd : og.dst = some d) (hv : look F d = some (.val (.bool b))) (hb : b = !want) (hlt : Nat.blt dst Γ.nt = true)
    (h : J P Γ ops Q ((dst, .val undef) :: F) L rest) : J P Γ ops Q F L (⟨some dst, op, ty, pos, aft, some (j, want)⟩ :: rest) :=
  ⟨fun a w hst => by
    have hw := wanted_guard (o := ⟨some dst, op, ty, pos, aft, some (j, want)⟩) rfl ho hd (hst.fr d _ hv).val_eq
    unfold wpList
    rw [if_neg (by rw [hw]; subst hb; cases want <;> simp)]
    exact h.go _ _ (hst.put (Step.refl hst.ws) hlt (.val _))⟩
end
end Go.Sse
namespace Go.Sse
open Go Go.Sse
set_option linter.unusedVariables false
set_option linter.unusedSimpArgs false
set_option maxRecDepth 10000
section
variable {P : Program} {Γ : Ctx} {ops : Array Oper} {Q : Exit → Act → World → Prop} {F : List (Nat × SV)} {L : List Own} {rest : List Oper}
variable {dst : Option Tmp} {ty : TypeId} {pos : String} {aft : Array Edge} {g : Option (Nat × Bool)}
end
end Go.Sse
namespace Go.Sse
open Go Go.Sse
set_option linter.unusedVariables false
set_option linter.unusedSimpArgs false
set_option maxRecDepth 10000
def mapO (b : Nat) (kv : List (Value × Value)) : Own := .sem [b] (fun _ w => ∃ es clock, w.heap[b]? = some (.map es clock) ∧ es.toList.map (fun e => (e.key, e.val)) = kv)
theorem mapO_mk {Z : Nat → Prop} {w : World} {b : Nat} {kv : List (Value × Value)} {es : Array MapEntry} {clock : Nat} (h : w.heap[b]? = some (.map es clock)) (hk : es.toList.map (fun e => (e.key, e.val)) = kv) : (mapO b kv).holds Z w := by
  refine ⟨⟨es, clock, h, hk⟩, ?_, ?_⟩
  · rintro Z' w' hf _
    exact ⟨es, clock, (hf b (by simp)).trans h, hk⟩
  · intro b' hb'
    simp only [List.mem_singleton] at hb'
    subst hb'
    exact (Array.getElem?_eq_some_iff.1 h).1
class TZero (P : Program) (E : Nat) (zv : outParam Value) : Prop where ok : (P.info? E).bind (·.zero) = some zv
theorem run_zeroV {P : Program} {E : Nat} {zv : Value} (h : TZero P E zv) (w : World) : (zeroValue E).run P w = .ok zv w := by
  have h1 := h.ok
  cases hq : P.info? E with
  | none => simp [hq] at h1
  | some i =>
    rw [hq] at h1
    simp only [Option.bind_some] at h1
    simp [zeroValue, typeInfo, hq, h1]
def lk {α β : Type} [DecidableEq α] (l : List (α × β)) (k : α) : Option β := (l.find? (fun p => decide (p.1 = k))).map (·.2)
theorem sv_beq (a b : List UInt8) : ((⟨a.toArray⟩ : ByteArray) == ⟨b.toArray⟩) = decide (a = b) := by
  rw [beq_toListBytes, ByteArray.toList_eq, ByteArray.toList_eq]
  by_cases h : a = b
  · subst h; simp
  · rw [decide_eq_false h, beq_eq_false_iff_ne]; simpa using h
theorem findNow_str (k : List UInt8) : ∀ (es : List MapEntry) (l : List (List UInt8 × Value)) (i : Nat), es.map (fun e => (e.key, e.val)) = l.map (fun p => (sv p.1, p.2)) → ∃ r, Instr.findNow .string (sv k) es i = some r ∧ r.map (·.2) = lk l k
  | [], [], i, _ => ⟨none, rfl, rfl⟩
  | [], p :: l, i, h => by simp at h
  | e :: es, [], i, h => by simp at h
  | e :: es, p :: l, i, h => by
    simp only [List.map_cons, List.cons.injEq, Prod.mk.injEq] at h
    obtain ⟨⟨h1, h2⟩, h3⟩ := h
    have hs : Instr.sameNow .string (sv k) e.key = some (decide (p.1 = k)) := by
      rw [h1]
      show some ((⟨k.toArray⟩ : ByteArray) == ⟨p.1.toArray⟩) = _
      rw [sv_beq]
      congr 1
      exact decide_eq_decide.2 ⟨Eq.symm, Eq.symm⟩
    by_cases hk : p.1 = k
    · refine ⟨some (i, e.val), ?_, ?_⟩
      · simp [Instr.findNow, hs, hk]
      · simp [lk, hk, h2]
    · obtain ⟨r, hr1, hr2⟩ := findNow_str k es l (i + 1) h3
      refine ⟨r, ?_, ?_⟩
      · simp [Instr.findNow, hs, hk, hr1]
      · rw [hr2]; simp [lk, hk]
section
variable {P : Program} {Γ : Ctx} {ops : Array Oper} {Q : Exit → Act → World → Prop} {F : List (Nat × SV)} {L : List Own} {rest : List Oper}
variable {dst : Option Tmp} {ty : TypeId} {pos : String} {aft : Array Edge} {g : Option (Nat × Bool)}
theorem mapO_at {L : List Own} {Γ : Ctx} {w : World} {i b : Nat} {kv : List (Value × Value)} (h : WSt Γ L w) (hi : L[i]? = some (mapO b kv)) : ∃ es clock, w.heap[b]? = some (.map es clock) ∧ es.toList.map (fun e => (e.key, e.val)) = kv :=
  (h.holds _ (mem_of_idx hi)).1
theorem run_checkKey_str {K : Nat} [hK : TStr P K] (w : World) (e : Bool) (n : Nat) (k : List UInt8) : (Instr.checkKey e (n + 1) K (sv k)).run P w = .ok () w := by
  simp [Instr.checkKey, run_underlying hK.ok, sv]
theorem run_findKey_str {K : Nat} [hK : TStr P K] (w : World) (k : List UInt8) (es : List MapEntry) (l : List (List UInt8 × Value)) (h : es.map (fun e => (e.key, e.val)) = l.map (fun p => (sv p.1, p.2))) :
    ∃ r, (Instr.findKey K (sv k) es).run P w = .ok r w ∧ r.map (·.2) = lk l k := by
  obtain ⟨r, h1, h2⟩ := findNow_str k es l 0 h
  exact ⟨r, by simp [Instr.findKey, run_underlying hK.ok, h1], h2⟩
theorem Pv.lookupS {T K E : Nat} {zv : Value} [hT : TMap P T K E] [hK : TStr P K] [hI : TZero P E zv] {x y : Operand} {b : Nat} {k : List UInt8} {l : List (List UInt8 × Value)} (hx : ev F x = some (.val (.map (some b)))) (hy : ev F y = some (str k)) (i : Nat)
    (hi : L[i]? = some (mapO b (l.map fun p => (sv p.1, p.2)))) : Pv P Γ F L ⟨dst, .lookup T x y true, ty, pos, aft, g⟩ (.tup [.val ((lk l k).getD zv), bool (lk l k).isSome]) := fun ρ w hst => by
  obtain ⟨es, clock, hb, hk⟩ := mapO_at hst.ws hi
  have hxv := hst.evv (x := x) (by simp [Op.operands]) hx
  have hyv := hst.evv (x := y) (by simp [Op.operands]) hy
  obtain ⟨r, hr, hr2⟩ := run_findKey_str (P := P) (K := K) w k es.toList l hk
  have hv := run_zeroV hI w
  have hgo := run_getObj_map (P := P) (w := w) b es clock hb
  refine ⟨.tuple [(lk l k).getD zv, .bool (lk l k).isSome].toArray, ?_, .tup _ _ rfl fun j hj => ?_⟩
  · rw [← hr2]
    cases r with
    | none => simp [execOp, hxv, hyv, Instr.lookup, run_underlying hT.ok, hgo, run_checkKey_str, hr, hv]
    | some q => obtain ⟨q1, q2⟩ := q; simp [execOp, hxv, hyv, Instr.lookup, run_underlying hT.ok, hgo, run_checkKey_str, hr]
  · match j, hj with
    | 0, _ => exact .val _
    | 1, _ => exact .val _
theorem Jx.lookupS {T K E : Nat} {zv : Value} [hT : TMap P T K E] [hK : TStr P K] [hI : TZero P E zv] {x y : Operand} {b : Nat} {k : List UInt8} {l : List (List UInt8 × Value)} (hx : ev F x = some (.val (.map (some b)))) (hy : ev F y = some (str k)) (i : Nat)
    (hi : L[i]? = some (mapO b (l.map fun p => (sv p.1, p.2)))) {d0 : Nat} (hlt : Nat.blt d0 Γ.nt = true) (k : J P Γ ops Q ((d0, (.tup [.val ((lk l k).getD zv), bool (lk l k).isSome])) :: F) L rest) : J P Γ ops Q F L (⟨some d0, .lookup T x y true, ty, pos, aft, none⟩ :: rest) :=
  J.pv (by apply Pv.lookupS <;> assumption) hlt k
theorem push_map {es : Array MapEntry} {k v : Value} {c : Nat} {kv : List (Value × Value)} (h : es.toList.map (fun e => (e.key, e.val)) = kv) : (es.push ⟨k, v, c⟩).toList.map (fun e => (e.key, e.val)) = kv ++ [(k, v)] := by
  rw [Array.toList_push, List.map_append, h]; rfl
theorem run_mapUpdateS {T K E : Nat} [hT : TMap P T K E] [hK : TStr P K] (w : World) (b : Nat) (es : Array MapEntry) (clock : Nat) (hb : w.heap[b]? = some (.map es clock)) (k : List UInt8) (v : Value) (l : List (List UInt8 × Value))
    (hk : es.toList.map (fun e => (e.key, e.val)) = l.map (fun p => (sv p.1, p.2))) (hn : lk l k = none) :
    (Instr.mapUpdate T (.map (some b)) (sv k) v).run P w = .ok () { w with heap := w.heap.setIfInBounds b (.map (es.push ⟨sv k, v, clock⟩) (clock + 1)) } := by
  obtain ⟨r, hr, hr2⟩ := run_findKey_str (P := P) (K := K) w k es.toList l hk
  have hgo := run_getObj_map (P := P) (w := w) b es clock hb
  have hso : (setObj b (.map (es.push ⟨sv k, v, clock⟩) (clock + 1))).run P w = .ok () { w with heap := w.heap.setIfInBounds b (.map (es.push ⟨sv k, v, clock⟩) (clock + 1)) } := by simp [setObj, Sem.run, hb]
  rw [hn] at hr2
  have hr0 : r = none := by cases r <;> simp_all
  subst hr0
  simp [Instr.mapUpdate, run_underlying hT.ok, hgo, run_checkKey_str, hr, hso]
theorem setMap_other (w : World) (b b' : Nat) (o : Obj) (h : b' ≠ b) : ({ w with heap := w.heap.setIfInBounds b o } : World).heap[b']? = w.heap[b']? := by
  show (w.heap.setIfInBounds b o)[b']? = _
  rw [Array.getElem?_setIfInBounds]
  simp [Ne.symm h]
theorem setMap_same {w : World} {b : Nat} {q : Obj} (o : Obj) (h : w.heap[b]? = some q) : ({ w with heap := w.heap.setIfInBounds b o } : World).heap[b]? = some o := by
  show (w.heap.setIfInBounds b o)[b]? = _
  have := (Array.getElem?_eq_some_iff.1 h).1
  rw [Array.getElem?_setIfInBounds]
  simp [this]
theorem Step.mapSet {w : World} {i b : Nat} {kv kv' : List (Value × Value)} {q : Obj} (h : WSt Γ L w) (hi : L[i]? = some (mapO b kv)) (hb : w.heap[b]? = some q) (es : Array MapEntry) (c : Nat) (hk : es.toList.map (fun e => (e.key, e.val)) = kv') : Step Γ L (L.set i (mapO b kv')) w { w with heap := w.heap.setIfInBounds b (.map es c) } :=
  Step.upd h hi rfl ⟨rfl, rfl, rfl, by simp⟩ (fun b' hb' => setMap_other w b b' _ (by simpa [Own.foot, mapO] using hb')) (mapO_mk (setMap_same _ hb) hk)
theorem OpS.mapUpdS {T K E : Nat} [hT : TMap P T K E] [hK : TStr P K] {x y z : Operand} {b : Nat} {k : List UInt8} {v : Value} {l : List (List UInt8 × Value)} (hx : ev F x = some (.val (.map (some b)))) (hy : ev F y = some (str k)) (hz : ev F z = some (.val v)) (i : Nat)
    (hi : L[i]? = some (mapO b (l.map fun p => (sv p.1, p.2)))) (hn : lk l k = none) : OpS P Γ ⟨dst, .mapUpdate T x y z, ty, pos, aft, g⟩ F L (fun _ L' => L' = L.set i (mapO b ((l ++ [(k, v)]).map fun p => (sv p.1, p.2)))) := by
  intro a w K' Q hst hK'
  obtain ⟨es, clock, hb, hk⟩ := mapO_at hst.ws hi
  have hrun := run_mapUpdateS (P := P) (T := T) w b es clock hb k v l hk hn
  unfold Oper.wp
  have he : (execOp a.eval ⟨dst, .mapUpdate T x y z, ty, pos, aft, g⟩).run P w = .ok .skip { w with heap := w.heap.setIfInBounds b (.map (es.push ⟨sv k, v, clock⟩) (clock + 1)) } := by
    simp [execOp, hst.evv hx, hst.evv hy, hst.evv hz, hrun]
  rw [he]
  exact hK' undef _ .any _ rfl (Step.mapSet hst.ws hi hb _ _ (by rw [push_map hk, List.map_append]; rfl)) (.any _)
theorem J.mapUpdS {T K E : Nat} [hT : TMap P T K E] [hK : TStr P K] {x y z : Operand} {b : Nat} {k : List UInt8} {v : Value} {l : List (List UInt8 × Value)} {L' : List Own} (hx : ev F x = some (.val (.map (some b)))) (hy : ev F y = some (str k)) (hz : ev F z = some (.val v)) (i : Nat)
    (hi : L[i]? = some (mapO b (l.map fun p => (sv p.1, p.2)))) (hn : lk l k = none) (hL : L.set i (mapO b ((l ++ [(k, v)]).map fun p => (sv p.1, p.2))) = L') (h : J P Γ ops Q F L' rest) : J P Γ ops Q F L (⟨none, .mapUpdate T x y z, ty, pos, aft, none⟩ :: rest) :=
  J.op0 (OpS.mapUpdS hx hy hz i hi hn) rfl rfl (by rintro s L'' rfl; rw [hL]; exact h)
theorem OpS.makeMap {T : Nat} : OpS P Γ ⟨dst, .makeMap T none, ty, pos, aft, g⟩ F L (fun s L' => ∃ b, s = .val (.map (some b)) ∧ L' = mapO b [] :: L) := by
  intro a w K' Q hst hK'
  unfold Oper.wp
  have he : (execOp a.eval ⟨dst, .makeMap T none, ty, pos, aft, g⟩).run P w = .ok (.value (.map (some w.heap.size))) (w.alloc (.map #[] 0)) := by
    simp [execOp, Instr.makeMap]
  rw [he]
  exact hK' _ _ _ _ ⟨w.heap.size, rfl, rfl⟩ (Step.alloc hst.ws _ _ rfl (mapO_mk (heap_alloc_new w _) rfl)) (.val _)
theorem J.makeMap {T d : Nat} (hlt : Nat.blt d Γ.nt = true) (k : ∀ b, J P Γ ops Q ((d, .val (.map (some b))) :: F) (mapO b [] :: L) rest) : J P Γ ops Q F L (⟨some d, .makeMap T none, ty, pos, aft, none⟩ :: rest) :=
  J.op OpS.makeMap rfl rfl hlt (by rintro s L' ⟨b, rfl, rfl⟩; exact k b)
end
end Go.Sse
namespace Go.Sse
open Go Go.Sse
set_option linter.unusedVariables false
set_option linter.unusedSimpArgs false
set_option maxRecDepth 10000
section
variable {P : Program} {Γ : Ctx} {ops : Array Oper} {Q : Exit → Act → World → Prop} {F : List (Nat × SV)} {L : List Own} {rest : List Oper}
variable {dst : Option Tmp} {ty : TypeId} {pos : String} {aft : Array Edge} {g : Option (Nat × Bool)}
theorem W.rowView {c : Code} {v : Value} {E sz n : Nat} {el : Nat → List SV} (i : Nat) (hi : L[i]? = some (.row v E sz n el)) (hn : 0 < n) (h : ∀ b cap, v = .slice (some ⟨b, 0, none⟩) n cap → n ≤ cap → cap ≤ maxLen → W P Γ Q F L c) : W P Γ Q F L c :=
  ⟨fun a w hst => by
    rcases hst.ws.holds _ (mem_of_idx hi) with ⟨_, h0⟩ | ⟨b, cap, cur, fz, hv, _, _, h1, h2, _⟩
    · omega
    · exact (h b cap hv h1 h2).go a w hst⟩
theorem J.rowView {l : List Oper} {v : Value} {E sz n : Nat} {el : Nat → List SV} (i : Nat) (hi : L[i]? = some (.row v E sz n el)) (hn : 0 < n) (h : ∀ b cap, v = .slice (some ⟨b, 0, none⟩) n cap → n ≤ cap → cap ≤ maxLen → J P Γ ops Q F L l) : J P Γ ops Q F L l :=
  ⟨fun a w hst => by
    rcases hst.ws.holds _ (mem_of_idx hi) with ⟨_, h0⟩ | ⟨b, cap, cur, fz, hv, _, _, h1, h2, _⟩
    · omega
    · exact (h b cap hv h1 h2).go a w hst⟩
theorem Pv.indexRow {T E sz by' n cap : Nat} {z : List Value} [h : TSlice P T E] [hI : TInfo P E sz by' z] {x i : Operand} {k : IntKind} {b : Nat} {m : Int} (j : Nat) (hx : ev F x = some (.val (.slice (some ⟨b, 0, none⟩) n cap)))
    (hi : ev F i = some (.val (.int k m))) (hm : m = (j : Int)) (h1 : j < n) : Pv P Γ F L ⟨dst, .indexAddr T x i, ty, pos, aft, g⟩ (.val (.pointer (some ⟨b, j * sz, none⟩))) := fun ρ w hst => by
  subst hm
  have hxv := hst.evv (x := x) (by simp [Op.operands]) hx
  have hiv := hst.evv (x := i) (by simp [Op.operands]) hi
  have hs : (sizeOf E).run P w = .ok sz w := sizeOf_of (by have := hI.ok; cases hq : P.info? E <;> simp_all) w
  have h1' : (j : Int) < (n : Int) := by omega
  refine ⟨_, ?_, .val _⟩
  simp [execOp, hxv, hiv, Instr.indexAt, asIntOf, run_underlying h.ok, h1', hs, add_plain]
  intro hh; omega
theorem Cx.indexRow {T E sz by' n cap : Nat} {z : List Value} [h : TSlice P T E] [hI : TInfo P E sz by' z] {x i : Operand} {k : IntKind} {b : Nat} {m : Int} (j : Nat) (hx : ev F x = some (.val (.slice (some ⟨b, 0, none⟩) n cap)))
    (hi : ev F i = some (.val (.int k m))) (hm : m = (j : Int)) (h1 : j < n) {d0 : Nat} {K : List (Nat × SV) → Prop} (hlt : Nat.blt d0 Γ.nt = true) (hr : SegC P Γ ops L ((d0, (.val (.pointer (some ⟨b, j * sz, none⟩)))) :: F) rest K) : SegC P Γ ops L F (⟨some d0, .indexAddr T x i, ty, pos, aft, none⟩ :: rest) K :=
  SegC.q (Qs.pv (by apply Pv.indexRow <;> assumption)) hlt hr
theorem Jx.indexRow {T E sz by' n cap : Nat} {z : List Value} [h : TSlice P T E] [hI : TInfo P E sz by' z] {x i : Operand} {k : IntKind} {b : Nat} {m : Int} (j : Nat) (hx : ev F x = some (.val (.slice (some ⟨b, 0, none⟩) n cap)))
    (hi : ev F i = some (.val (.int k m))) (hm : m = (j : Int)) (h1 : j < n) {d0 : Nat} (hlt : Nat.blt d0 Γ.nt = true) (k : J P Γ ops Q ((d0, (.val (.pointer (some ⟨b, j * sz, none⟩)))) :: F) L rest) : J P Γ ops Q F L (⟨some d0, .indexAddr T x i, ty, pos, aft, none⟩ :: rest) :=
  J.pv (by apply Pv.indexRow <;> assumption) hlt k
theorem row_at {w : World} {i b n cap E sz : Nat} {el : Nat → List SV} (h : WSt Γ L w) (hi : L[i]? = some (.row (.slice (some ⟨b, 0, none⟩) n cap) E sz n el)) : ∃ cur fz, w.heap[b]? = some (.cells cur E fz) ∧ Unfrozen fz cur.size ∧ n ≤ cap ∧ cap ≤ maxLen ∧ cur.size = cap * sz ∧ (∀ u ∈ cur.toList, u.oneCell' = true) ∧ (∀ i, i < n → (el i).length = sz) ∧
      ∀ i j, i < n → j < sz → Rel (ZL Γ.Z L) w ((el i).getD j .any) (cur.toList.getD (i * sz + j) undef) := by
  rcases h.holds _ (mem_of_idx hi) with ⟨h0, _⟩ | ⟨b', cap', cur, fz, hv, hb, h1, h2, h3, h4, h5, h6, h7⟩
  · simp at h0
  · simp only [Value.slice.injEq, Option.some.injEq, Addr.mk.injEq, and_true, true_and] at hv
    obtain ⟨rfl, rfl⟩ := hv
    exact ⟨cur, fz, hb, h1, h2, h3, h4, h5, h6, h7⟩
theorem Pv.loadRow {T b o n cap E sz : Nat} [h : TSc P T] {x : Operand} (hx : ev F x = some (.val (.pointer (some ⟨b, o, none⟩)))) (i : Nat) {el : Nat → List SV} (hi : L[i]? = some (.row (.slice (some ⟨b, 0, none⟩) n cap) E sz n el)) (k j : Nat) (ho : o = k * sz + j) (hk : k < n) (hj : j < sz) {s : SV} (hs : (el k).getD j .any = s) :
    Pv P Γ F L ⟨dst, .load T x, ty, pos, aft, g⟩ s := fun ρ w hst => by
  subst ho; subst hs
  obtain ⟨cur, fz, hb, hu, h2, h3, h4, h5, h6, h7⟩ := row_at hst.ws hi
  have hlt : k * sz + j < cur.size := by
    have := idx_lt hk hj
    have : n * sz ≤ cap * sz := Nat.mul_le_mul_right _ h2
    omega
  refine ⟨cur.toList.getD (k * sz + j) undef, ?_, h7 k j hk hj⟩
  have := run_loadVar_sc h w ⟨b, k * sz + j, none⟩ (cur.toList.getD (k * sz + j) undef) (by rw [obj_cell hb]; simp [List.getD_eq_getElem?_getD, hlt])
  simp [execOp, hst.evv (x := x) (by simp [Op.operands]) hx, Instr.loadAt, Instr.sureAddr, this]
theorem Cx.loadRow {T b o n cap E sz : Nat} [h : TSc P T] {x : Operand} (hx : ev F x = some (.val (.pointer (some ⟨b, o, none⟩)))) (i : Nat) {el : Nat → List SV} (hi : L[i]? = some (.row (.slice (some ⟨b, 0, none⟩) n cap) E sz n el)) (k j : Nat) (ho : o = k * sz + j) (hk : k < n) (hj : j < sz) {s : SV} (hs : (el k).getD j .any = s) {d0 : Nat} {K : List (Nat × SV) → Prop} (hlt : Nat.blt d0 Γ.nt = true) (hr : SegC P Γ ops L ((d0, s) :: F) rest K) : SegC P Γ ops L F (⟨some d0, .load T x, ty, pos, aft, none⟩ :: rest) K :=
  SegC.q (Qs.pv (by apply Pv.loadRow <;> assumption)) hlt hr
theorem Jx.loadRow {T b o n cap E sz : Nat} [h : TSc P T] {x : Operand} (hx : ev F x = some (.val (.pointer (some ⟨b, o, none⟩)))) (i : Nat) {el : Nat → List SV} (hi : L[i]? = some (.row (.slice (some ⟨b, 0, none⟩) n cap) E sz n el)) (k j : Nat) (ho : o = k * sz + j) (hk : k < n) (hj : j < sz) {s : SV} (hs : (el k).getD j .any = s) {d0 : Nat} (hlt : Nat.blt d0 Γ.nt = true) (k : J P Γ ops Q ((d0, s) :: F) L rest) : J P Γ ops Q F L (⟨some d0, .load T x, ty, pos, aft, none⟩ :: rest) :=
  J.pv (by apply Pv.loadRow <;> assumption) hlt k
theorem idx_split {sz i j i' j' : Nat} (hj : j < sz) (hj' : j' < sz) (h : i * sz + j = i' * sz + j') : i = i' ∧ j = j' := by
  rcases Nat.lt_trichotomy i i' with h1 | h1 | h1
  · have : (i + 1) * sz ≤ i' * sz := Nat.mul_le_mul_right _ h1
    rw [Nat.add_mul, Nat.one_mul] at this; omega
  · subst h1; exact ⟨rfl, by omega⟩
  · have : (i' + 1) * sz ≤ i * sz := Nat.mul_le_mul_right _ h1
    rw [Nat.add_mul, Nat.one_mul] at this; omega
theorem OpS.storeRow {T b o n cap E sz : Nat} [h : TSc P T] {x y : Operand} {s : SV} (hx : ev F x = some (.val (.pointer (some ⟨b, o, none⟩)))) (hy : ev F y = some s) (h1 : One s) (i : Nat) {el el' : Nat → List SV} (hi : L[i]? = some (.row (.slice (some ⟨b, 0, none⟩) n cap) E sz n el)) (k j : Nat) (ho : o = k * sz + j) (hk : k < n) (hj : j < sz)
    (he1 : el' k = (el k).set j s) (he2 : ∀ m, m < n → m ≠ k → el' m = el m) : OpS P Γ ⟨dst, .store T x y, ty, pos, aft, g⟩ F L (fun _ L' => L' = L.set i (.row (.slice (some ⟨b, 0, none⟩) n cap) E sz n el')) := by
  intro a w K' Q hst hK
  subst ho
  obtain ⟨cur, fz, hb, hu, h2, h3, h4, h5, h6, h7⟩ := row_at hst.ws hi
  have hlt : k * sz + j < cur.size := by
    have := idx_lt hk hj
    have : n * sz ≤ cap * sz := Nat.mul_le_mul_right _ h2
    omega
  have hrel := hst.ev hy
  have hone := h1.cell hrel
  have hrun := run_storeVar_sc h w b (k * sz + j) (a.eval y) hone cur E fz hb hlt hu
  unfold Oper.wp
  have he : (execOp a.eval ⟨dst, .store T x y, ty, pos, aft, g⟩).run P w = .ok .skip (w.setCell ⟨b, k * sz + j, none⟩ (a.eval y)) := by
    simp [execOp, hst.evv hx, Instr.storeAt, Instr.sureAddr, hrun]
  rw [he]
  have hstep : Step Γ L (L.set i (.row (.slice (some ⟨b, 0, none⟩) n cap) E sz n el')) w (w.setCell ⟨b, k * sz + j, none⟩ (a.eval y)) := by
    have hstab : ∀ b', b' < w.heap.size → ¬ ZL Γ.Z L b' → (w.setCell ⟨b, k * sz + j, none⟩ (a.eval y)).heap[b']? = w.heap[b']? ∧ ¬ ZL Γ.Z L b' := fun b' _ hn => ⟨heap_setCell_other w ⟨b, k * sz + j, none⟩ b' _ (fun e => hn (.inr (by subst e; exact List.mem_flatMap.2 ⟨_, mem_of_idx hi, by simp [Own.foot]⟩))), hn⟩
    refine Step.upd hst.ws hi rfl (setCell_same w b _ _) (fun b' hb' => heap_setCell_other w ⟨b, k * sz + j, none⟩ b' _ (by simpa [Own.foot] using hb')) ?_
    refine .inr ⟨b, cap, cur.setIfInBounds (k * sz + j) (a.eval y), fz, rfl, heap_setCell w b _ _ cur E fz hb, by simpa using hu, h2, h3, by simpa using h4, ?_, ?_, ?_⟩
    · intro u hu'
      simp only [Array.toList_setIfInBounds] at hu'
      rcases List.mem_or_eq_of_mem_set hu' with h8 | rfl
      · exact h5 u h8
      · exact hone
    · intro m hm
      by_cases e : m = k
      · subst e; rw [he1, List.length_set]; exact h6 _ hm
      · rw [he2 m hm e]; exact h6 m hm
    · intro m q hm hq
      simp only [Array.toList_setIfInBounds]
      by_cases e : m = k ∧ q = j
      · obtain ⟨rfl, rfl⟩ := e
        have e1 : (el' m).getD q .any = s := by rw [he1]; simp [List.getD_eq_getElem?_getD, List.getElem?_set, h6 m hm, hq]
        have e2 : (cur.toList.set (m * sz + q) (a.eval y)).getD (m * sz + q) undef = a.eval y := by simp [List.getD_eq_getElem?_getD, List.getElem?_set, hlt]
        rw [e1, e2]
        exact hrel.stable hstab
      · have hne : ¬ k * sz + j = m * sz + q := fun e' => e (by have := idx_split hj hq e'; exact ⟨this.1.symm, this.2.symm⟩)
        have e1 : (el' m).getD q .any = (el m).getD q .any := by
          by_cases e3 : m = k
          · subst e3
            have : ¬ j = q := fun e4 => e ⟨rfl, e4.symm⟩
            rw [he1]; simp [List.getD_eq_getElem?_getD, List.getElem?_set, this]
          · rw [he2 m hm e3]
        have e2 : (cur.toList.set (k * sz + j) (a.eval y)).getD (m * sz + q) undef = cur.toList.getD (m * sz + q) undef := by simp [List.getD_eq_getElem?_getD, List.getElem?_set, hne]
        rw [e1, e2]
        exact (h7 m q hm hq).stable hstab
  exact hK undef _ .any _ rfl hstep (.any _)
theorem J.storeRowL {α : Type} {T b o cap E sz : Nat} [h : TSc P T] {x y : Operand} {s : SV} {enc : α → List SV} {d : α} {l : List α} (k j : Nat) (a' : α) (hx : ev F x = some (.val (.pointer (some ⟨b, o, none⟩)))) (hy : ev F y = some s) (h1 : One s) (i : Nat)
    (hi : L[i]? = some (.row (.slice (some ⟨b, 0, none⟩) l.length cap) E sz l.length (elOf enc d l))) (ho : o = k * sz + j) (hk : k < l.length) (hj : j < sz) (he : enc a' = (enc (l.getD k d)).set j s) {L' : List Own}
    (hL : L.set i (.row (.slice (some ⟨b, 0, none⟩) l.length cap) E sz l.length (elOf enc d (l.set k a'))) = L') (kk : J P Γ ops Q F L' rest) : J P Γ ops Q F L (⟨none, .store T x y, ty, pos, aft, none⟩ :: rest) :=
  J.op0 (OpS.storeRow (el' := elOf enc d (l.set k a')) hx hy h1 i hi k j ho hk hj (by simp [elOf, List.getD_eq_getElem?_getD, List.getElem?_set, hk] at he ⊢; exact he) (fun m hm hne => by simp [elOf, List.getD_eq_getElem?_getD, List.getElem?_set, Ne.symm hne])) rfl rfl (by rintro s L'' rfl; rw [hL]; exact kk)
end
end Go.Sse
namespace Go.Sse
open Go Go.Sse
set_option linter.unusedVariables false
set_option linter.unusedSimpArgs false
set_option maxRecDepth 10000
section
variable {P : Program} {Γ : Ctx} {ops : Array Oper} {Q : Exit → Act → World → Prop} {F : List (Nat × SV)} {L : List Own} {rest : List Oper}
variable {dst : Option Tmp} {ty : TypeId} {pos : String} {aft : Array Edge} {g : Option (Nat × Bool)}
end
end Go.Sse
namespace Go.Sse
open Go Go.Sse
set_option linter.unusedVariables false
set_option linter.unusedSimpArgs false
set_option maxRecDepth 10000
section
variable {P : Program} {Γ : Ctx} {l : List Oper} {Q : Exit → Act → World → Prop} {G : List (Nat × SV)} {L : List Own} {S idx : List Nat}
theorem JP.alloc {d E sz by' : Nat} {z : List Value} [h : TInfo P E sz by' z] {cs : List SV} {ty : TypeId} {pos : String} {aft : Array Edge} {g : Option (Nat × Bool)} (i : Nat) (ks S' idx' : List Nat) (hc : (okIdx l.toArray S idx && okStep l.toArray S idx i ks S' idx') = true)
    (hoi : l[i]? = some ⟨some d, .alloc E, ty, pos, aft, g⟩) (hre : SegC P Γ l.toArray L G (opsAt l idx) (Ag G idx.length)) (hz : z.map .val = cs) (h1 : z.all (·.oneCell') = true) (hlt : Nat.blt d Γ.nt = true)
    (k : ∀ b, JP P Γ l.toArray Q S' idx' ((d, .val (.pointer (some ⟨b, 0, none⟩))) :: G) (.obj b E cs :: L)) : JP P Γ l.toArray Q S idx G L :=
  JP.do1 i ks S' idx' hc hoi hre (OpS.newObj (ρ' := fun _ => True) (E := E) (cs := cs) (fun a w hst => by
    obtain ⟨v, hv, hc, _⟩ := run_zero h w
    refine ⟨z, ?_, hz ▸ RelL.vals z (by simpa [List.all_eq_true] using h1)⟩
    have : v.cells = z.toArray := by rw [← hc]
    simp [execOp, Instr.alloc, hv, newVar, newRow, this])) hlt (by rintro s L' ⟨b, rfl, rfl⟩; exact k b)
end
end Go.Sse
namespace Go.Sse
open Go Go.Sse
set_option linter.unusedVariables false
set_option linter.unusedSimpArgs false
set_option maxRecDepth 10000
theorem Sub.agg {cs ds : List SV} (h : SubL cs ds) : Sub (.agg cs) (.agg ds) := by
  intro Z w v hr
  obtain ⟨h1, h2⟩ := h.spec
  cases hr with
  | agg _ vs hl hone hrel => exact .agg ds vs (by omega) hone fun j hj => h2 j Z w _ (hrel j (by omega))
theorem SubL.refl : ∀ (cs : List SV), SubL cs cs
  | [] => .nil
  | s :: cs => .cons (Sub.refl s) (SubL.refl cs)
section
variable {P : Program} {Γ : Ctx} {ops : Array Oper} {Q : Exit → Act → World → Prop} {F : List (Nat × SV)} {L : List Own} {rest : List Oper}
variable {dst : Option Tmp} {ty : TypeId} {pos : String} {aft : Array Edge} {g : Option (Nat × Bool)}
theorem Pv.loadPPall {T n : Nat} [h : TAg P T n] {x : Operand} {cs : List SV} (hx : ev F x = some (.pp cs)) (hn' : Nat.beq cs.length n = true) : Pv P Γ F L ⟨dst, .load T x, ty, pos, aft, g⟩ (.agg cs) :=
  have hn : cs.length = n := Nat.eq_of_beq_eq_true hn'
  Pv.loadPPag hx (by rw [← hn, List.take_length]) hn
theorem Jx.loadPPall {T n : Nat} [h : TAg P T n] {x : Operand} {cs : List SV} (hx : ev F x = some (.pp cs)) (hn' : Nat.beq cs.length n = true) {d0 : Nat} (hlt : Nat.blt d0 Γ.nt = true) (k : J P Γ ops Q ((d0, (.agg cs)) :: F) L rest) : J P Γ ops Q F L (⟨some d0, .load T x, ty, pos, aft, none⟩ :: rest) :=
  J.pv (by apply Pv.loadPPall <;> assumption) hlt k
theorem Qs.buildOne {α : Type} {t E sz by' : Nat} {z : List Value} [ht : TSlice P t E] [hI : TInfo P E sz by' z] {x : Operand} {cs : List SV} (enc : α → List SV) (d a : α) (hx : ev F x = some (.agg cs)) (hcs' : Nat.beq cs.length sz = true) (he : enc a = cs)
    (hz' : Nat.beq z.length sz = true) (h0' : Nat.blt 0 sz = true) (hmax' : Nat.ble sz 16777216 = true) (hz1 : z.all (·.oneCell') = true) : Qs P Γ F L ⟨dst, .buildSlice t 1 [(0, x)].toArray, ty, pos, aft, g⟩ (.sl sz [a].length (elOf enc d [a])) := by
  have hcs := Nat.eq_of_beq_eq_true hcs'
  have hz := Nat.eq_of_beq_eq_true hz'
  have h0 : 0 < sz := Nat.le_of_ble_eq_true h0'
  have hmax := Nat.le_of_ble_eq_true hmax'
  refine (Qs.buildSlice (len := 1) (ss := [.agg cs]) (sz := sz) (z := z) (.cons hx .agg .nil) rfl (by intro s hs; simp only [List.mem_singleton] at hs; subst hs; exact hcs) hz (by omega) (by omega) hz1).sub ?_
  refine Sub.slOf (l := [a]) rfl fun i hi => ?_
  have : i = 0 := by omega
  subst this
  simp only [List.getD_cons_zero, cellsS]
  exact he.symm
end
end Go.Sse
namespace Go.Sse
open Go Go.Sse
set_option linter.unusedVariables false
set_option linter.unusedSimpArgs false
set_option maxRecDepth 10000
theorem operWp_less {P : Program} {o : Oper} {a : Act} {w : World} {K K' : Act → World → Prop} {Q Q' : Exit → Act → World → Prop} (h : ∀ a w, K a w → K' a w) (hq : ∀ e a w, e ≠ .normal → Q e a w → Q' e a w)
    (hh : o.wp P a w K Q) : o.wp P a w K' Q' := by
  unfold Oper.wp at *
  generalize (execOp a.eval o).run P w = r at *
  cases r with
  | ok n w' =>
    cases n <;> simp only [Oper.upon] at hh ⊢ <;>
      first
        | exact h _ _ hh
        | exact Calls.mono hh (fun e w'' he => by
            cases e
            · exact h _ _ he
            · exact hq _ _ _ (by simp) he
            · obtain ⟨a2, w2, h2⟩ := he; exact ⟨a2, w2, hq _ _ _ (by simp) h2⟩)
        | exact Rows.mono hh (fun _ _ he => h _ _ he)
  | halt x w' => cases x <;> simp only [Oper.upon] at hh ⊢ <;> first | exact hh | exact hq _ _ _ (by simp) hh
theorem wpList_join {P : Program} {ops : Array Oper} {Q Q' : Exit → Act → World → Prop} {rest : List Oper} (hn : ∀ a w, Q' .normal a w → wpList P ops Q rest a w) (hq : ∀ e a w, e ≠ .normal → Q' e a w → Q e a w) :
    ∀ (l : List Oper) a w, wpList P ops Q' l a w → wpList P ops Q (l ++ rest) a w
  | [], a, w, h => hn a w h
  | o :: l, a, w, h => by
    rw [List.cons_append]
    unfold wpList at h ⊢
    split
    · rename_i hw
      rw [if_pos hw] at h
      rcases h with h | ⟨h1, a2, w2, h2⟩
      · exact .inl (operWp_less (wpList_join hn hq l) hq h)
      · exact .inr ⟨h1, a2, w2, hq _ _ _ (by simp) h2⟩
    · rename_i hw
      rw [if_neg hw] at h
      exact wpList_join hn hq l _ _ h
def inG (j : Nat) (o : Oper) : Bool := match o.guard with
  | some (k, _) => Nat.ble j k
  | none => false
def gTake (j : Nat) : List Oper → List Oper
  | [] => []
  | o :: l => bif inG j o then o :: gTake j l else []
def gDrop (j : Nat) : List Oper → List Oper
  | [] => []
  | o :: l => bif inG j o then gDrop j l else o :: l
theorem gSplit (j : Nat) : ∀ l, gTake j l ++ gDrop j l = l
  | [] => rfl
  | o :: l => by
    simp only [gTake, gDrop]
    cases inG j o with
    | true => simp only [cond_true, List.cons_append, gSplit j l]
    | false => rfl
def hasKey (F : List (Nat × SV)) (x : Nat) : Bool := match F with
  | [] => false
  | p :: r => Nat.beq p.1 x || hasKey r x
theorem look_none : ∀ {F : List (Nat × SV)} {x : Nat}, hasKey F x = false → look F x = none
  | [], x, _ => rfl
  | p :: r, x, h => by
    simp only [hasKey, Bool.or_eq_false_iff] at h
    simp only [look, h.1, cond_false]
    exact look_none h.2
def okSkip (ops : Array Oper) (F : List (Nat × SV)) (nt j : Nat) (want : Bool) : List Nat → List Oper → Bool
  | _, [] => true
  | acc, o :: l => match o.dst, o.guard with
    | some d, some (k, w) => Nat.blt d nt && !hasKey F d && ((Nat.beq k j && (w == want)) || (match ops[k]? with
      | some og => (match og.dst with | some e => acc.contains e | none => false)
      | none => false)) && okSkip ops F nt j want (d :: acc) l
    | _, _ => false
theorem skip_run {P : Program} {Γ : Ctx} {ops : Array Oper} {Q : Exit → Act → World → Prop} {F : List (Nat × SV)} {L : List Own} {rest : List Oper} {j d : Nat} {want : Bool} {og : Oper}
    (ho : ops[j]? = some og) (hod : og.dst = some d) (hd : look F d = some (.val (.bool (!want)))) (k : J P Γ ops Q F L rest) :
    ∀ (l : List Oper) (acc : List Nat) (a : Act) (w : World), okSkip ops F Γ.nt j want acc l = true → St Γ F L a w → (∀ e ∈ acc, a.tmps.getD e undef = undef) → wpList P ops Q (l ++ rest) a w
  | [], acc, a, w, _, hst, _ => k.go a w hst
  | o :: l, acc, a, w, h, hst, hacc => by
    obtain ⟨dst, op, ty, pos, aft, g⟩ := o
    cases dst with
    | none => simp [okSkip] at h
    | some t =>
      cases g with
      | none => simp [okSkip] at h
      | some g =>
        obtain ⟨i, w'⟩ := g
        simp only [okSkip, Bool.and_eq_true, Bool.or_eq_true, Bool.not_eq_true'] at h
        obtain ⟨⟨⟨h1, h2⟩, h3⟩, h4⟩ := h
        have hw : Region.wanted ⟨some t, op, ty, pos, aft, some (i, w')⟩ (yielded ops a.tmps) = false := by
          rcases h3 with ⟨h3, h5⟩ | h3
          · have : i = j := Nat.eq_of_beq_eq_true h3
            subst this
            have hw' : w' = want := by simpa using h5
            subst hw'
            rw [wanted_guard rfl ho hod (hst.fr d _ hd).val_eq]
            cases w' <;> rfl
          · split at h3
            · rename_i og' hog'
              split at h3
              · rename_i e he
                exact wanted_undef rfl hog' he (hacc e (by simpa using h3))
              · cases h3
            · cases h3
        rw [List.cons_append]
        unfold wpList
        rw [if_neg (by rw [hw]; simp)]
        have hst2 : St Γ F L (a.put (some t) undef) w := by
          have := hst.put (Step.refl hst.ws) h1 (.any undef)
          refine ⟨this.ws, this.nt, this.df, fun x s hl => this.fr x s ?_⟩
          simp only [look]
          cases hb : Nat.beq t x with
          | true =>
            have := Nat.eq_of_beq_eq_true hb
            subst this
            rw [look_none h2] at hl; cases hl
          | false => exact hl
        have hlt : t < a.tmps.size := by rw [hst.nt]; exact Nat.le_of_ble_eq_true h1
        refine skip_run ho hod hd k l (t :: acc) _ _ h4 hst2 fun e he => ?_
        show (a.tmps.setIfInBounds t undef).getD e undef = undef
        rw [getD_set _ _ _ _ hlt]
        split
        · rfl
        · rcases List.mem_cons.1 he with rfl | he
          · rename_i hne; exact absurd rfl hne
          · exact hacc e he
def Qj (Γ : Ctx) (F : List (Nat × SV)) (L : List Own) (t : Nat) (q : Bool) : Exit → Act → World → Prop := fun e a w => e = .normal ∧ St Γ F L a w ∧ a.tmps.getD t undef = .bool q
def keysOff (F : List (Nat × SV)) : List (Nat × SV) → Bool
  | [] => true
  | p :: r => !hasKey F p.1 && keysOff F r
theorem look_off : ∀ {F : List (Nat × SV)} (X : List (Nat × SV)), keysOff F X = true → ∀ x s, look F x = some s → look (X ++ F) x = some s
  | F, [], _, x, s, hl => hl
  | F, p :: X, h, x, s, hl => by
    simp only [keysOff, Bool.and_eq_true, Bool.not_eq_true'] at h
    simp only [List.cons_append, look]
    cases hb : Nat.beq p.1 x with
    | true =>
      have := Nat.eq_of_beq_eq_true hb
      subst this
      rw [look_none h.1] at hl; cases hl
    | false => exact look_off X h.2 x s hl
theorem N.joined {Γ : Ctx} {F F' : List (Nat × SV)} {L : List Own} {t : Nat} {q : Bool} (X : List (Nat × SV)) (hl : look F' t = some (.val (.bool q))) (hX : F' = X ++ F) (hk : keysOff F X = true) : N Γ (Qj Γ F L t q .normal) F' L :=
  ⟨fun a w hst => ⟨rfl, ⟨hst.ws, hst.nt, hst.df, fun x s h => hst.fr x s (by rw [hX]; exact look_off X hk x s h)⟩, (hst.fr t _ hl).val_eq⟩⟩
theorem N.joinedN {Γ : Ctx} {F F' : List (Nat × SV)} {L : List Own} {t : Nat} {q : Bool} (hl : look F' t = some (.val (.bool q))) (hX : F'.drop (F'.length - F.length) = F) (hk : keysOff F (F'.take (F'.length - F.length)) = true) : N Γ (Qj Γ F L t q .normal) F' L :=
  N.joined (F'.take (F'.length - F.length)) hl ((List.take_append_drop (F'.length - F.length) F').symm.trans (congrArg _ hX)) hk
section
variable {P : Program} {Γ : Ctx} {ops : Array Oper} {Q : Exit → Act → World → Prop} {F : List (Nat × SV)} {L : List Own} {rest l : List Oper}
variable {dst : Option Tmp} {op : Op} {ty ty0 : TypeId} {pos pos0 : String} {aft aft0 : Array Edge} {g : Option (Nat × Bool)}
theorem St.told1 {a : Act} {w : World} {t : Nat} {s : SV} (h : St Γ F L a w) (hr : Rel (ZL Γ.Z L) w s (a.tmps.getD t undef)) : St Γ ((t, s) :: F) L a w :=
  ⟨h.ws, h.nt, h.df, fun x u hl => by
    simp only [look] at hl
    cases hb : Nat.beq t x with
    | true =>
      rw [hb] at hl
      simp only [cond_true, Option.some.injEq] at hl
      subst hl
      have := Nat.eq_of_beq_eq_true hb
      subst this
      exact hr
    | false => rw [hb] at hl; exact h.fr x u hl⟩
theorem told_off {t y : Nat} {s u : SV} (hy : hasKey F y = false) {a : Act} {w : World} (h : St Γ ((t, s) :: (y, u) :: F) L a w) : St Γ ((t, s) :: F) L a w :=
  ⟨h.ws, h.nt, h.df, fun x v hl => h.fr x v (by
    simp only [look] at hl ⊢
    cases hb : Nat.beq t x with
    | true => rw [hb] at hl; exact hl
    | false =>
      rw [hb] at hl
      simp only [cond_false] at hl ⊢
      cases hc : Nat.beq y x with
      | true =>
        have := Nat.eq_of_beq_eq_true hc
        subst this
        rw [look_none hy] at hl; cases hl
      | false => exact hl)⟩
theorem ev_off {y : Nat} {s u : SV} {c : Operand} (hy : hasKey F y = false) (hc : ev F c = some s) : ev ((y, u) :: F) c = some s := by
  cases c with
  | tmp x =>
    simp only [ev, look] at hc ⊢
    cases hb : Nat.beq y x with
    | true =>
      have := Nat.eq_of_beq_eq_true hb
      subst this
      rw [look_none hy] at hc; cases hc
    | false => exact hc
  | const v => exact hc
  | global g => exact hc
  | func f => exact hc
theorem J.ofSt {l : List Oper} (h : ∀ a w, St Γ F L a w → wpList P ops Q l a w) : J P Γ ops Q F L l := ⟨h⟩
theorem J.guardAnd {q b : Bool} {j d t y : Nat} {c : Operand} {og : Oper} (ho : ops[j]? = some og) (hod : og.dst = some d) (hv : look F d = some (.val (.bool b)))
    (hdrop : gDrop j (⟨dst, op, ty0, pos0, aft0, some (j, true)⟩ :: l) = ⟨some t, .pick c (.tmp y) (.const (.bool false)), ty, pos, aft, none⟩ :: rest) (hc : ev F c = some (.val (.bool b)))
    (hsk : okSkip ops F Γ.nt j true [] (gTake j (⟨dst, op, ty0, pos0, aft0, some (j, true)⟩ :: l)) = true) (hy : hasKey F y = false) (hlt : Nat.blt t Γ.nt = true)
    (hyes : b = true → J P Γ ops (Qj Γ F L y q) F L (gTake j (⟨dst, op, ty0, pos0, aft0, some (j, true)⟩ :: l)))
    (k : J P Γ ops Q ((t, .val (.bool (b && q))) :: F) L rest) : J P Γ ops Q F L (⟨dst, op, ty0, pos0, aft0, some (j, true)⟩ :: l) := by
  rw [← gSplit j (⟨dst, op, ty0, pos0, aft0, some (j, true)⟩ :: l), hdrop]
  cases b with
  | true =>
    refine ⟨fun a w hst => wpList_join ?_ ?_ _ a w ((hyes rfl).go a w hst)⟩
    · rintro a w ⟨_, h1, h2⟩
      exact (Jx.pickT (c := c) (b := true) (x := .tmp y) (y := .const (.bool false)) (s := .val (.bool q)) (ev_off hy hc) rfl (by simp [ev, look]) hlt (J.ofSt fun a w h => k.go a w (told_off hy h))).go a w (h1.told1 (t := y) (s := .val (.bool q)) (by rw [h2]; exact .val _))
    · rintro e a w he ⟨h, _⟩; exact absurd h he
  | false =>
    exact ⟨fun a w hst => skip_run (want := true) ho hod hv (Jx.pickF (c := c) (b := false) (x := .tmp y) (y := .const (.bool false)) (s := .val (.bool false)) hc rfl rfl hlt k) _ [] a w hsk hst (by simp)⟩
theorem J.gY {dst : Option Tmp} {op : Op} {ty : TypeId} {pos : String} {aft : Array Edge} {j d : Nat} {want b : Bool} {og : Oper}
    (ho : ops[j]? = some og) (hd : og.dst = some d) (hv : look F d = some (.val (.bool b)))
    (h : J P Γ ops Q F L (⟨dst, op, ty, pos, aft, none⟩ :: rest)) (hb : b = want := by first | rfl | assumption | (exact decide_eq_true (by first | assumption | omega | rfl)) | (exact decide_eq_false (by first | assumption | omega | rfl)) | (simp; done) | (simp; omega)) : J P Γ ops Q F L (⟨dst, op, ty, pos, aft, some (j, want)⟩ :: rest) := J.guardYes ho hd hv hb h
theorem J.gN {dst : Tmp} {op : Op} {ty : TypeId} {pos : String} {aft : Array Edge} {j d : Nat} {want b : Bool} {og : Oper}
    (ho : ops[j]? = some og) (hd : og.dst = some d) (hv : look F d = some (.val (.bool b))) (hlt : Nat.blt dst Γ.nt = true)
    (h : J P Γ ops Q ((dst, .val undef) :: F) L rest) (hb : b = !want := by first | rfl | assumption | (exact decide_eq_true (by first | assumption | omega | rfl)) | (exact decide_eq_false (by first | assumption | omega | rfl)) | (simp; done) | (simp; omega)) : J P Γ ops Q F L (⟨some dst, op, ty, pos, aft, some (j, want)⟩ :: rest) := J.guardNoU ho hd hv hb hlt h
theorem Jx.pT {c x y : Operand} {s : SV} {b : Bool} {d0 : Nat} (hc : ev F c = some (.val (.bool b))) (hx : ev F x = some s) (hlt : Nat.blt d0 Γ.nt = true) (k : J P Γ ops Q ((d0, s) :: F) L rest) (hb : b = true := by first | rfl | assumption | (exact decide_eq_true (by first | assumption | omega | rfl)) | (exact decide_eq_false (by first | assumption | omega | rfl)) | (simp; done) | (simp; omega)) :
    J P Γ ops Q F L (⟨some d0, .pick c x y, ty, pos, aft, none⟩ :: rest) := Jx.pickT hc hb hx hlt k
theorem Jx.pF {c x y : Operand} {s : SV} {b : Bool} {d0 : Nat} (hc : ev F c = some (.val (.bool b))) (hy : ev F y = some s) (hlt : Nat.blt d0 Γ.nt = true) (k : J P Γ ops Q ((d0, s) :: F) L rest) (hb : b = false := by first | rfl | assumption | (exact decide_eq_true (by first | assumption | omega | rfl)) | (exact decide_eq_false (by first | assumption | omega | rfl)) | (simp; done) | (simp; omega)) :
    J P Γ ops Q F L (⟨some d0, .pick c x y, ty, pos, aft, none⟩ :: rest) := Jx.pickF hc hb hy hlt k
theorem W.cT {c : Operand} {x y : Code} {b : Bool} (hc : ev F c = some (.val (.bool b))) (ht : W P Γ Q F L x) (hb : b = true := by first | rfl | assumption | (exact decide_eq_true (by first | assumption | omega | rfl)) | (exact decide_eq_false (by first | assumption | omega | rfl)) | (simp; done) | (simp; omega)) : W P Γ Q F L (.cond c x y) := W.condT hc hb ht
theorem W.cF {c : Operand} {x y : Code} {b : Bool} (hc : ev F c = some (.val (.bool b))) (hf : W P Γ Q F L y) (hb : b = false := by first | rfl | assumption | (exact decide_eq_true (by first | assumption | omega | rfl)) | (exact decide_eq_false (by first | assumption | omega | rfl)) | (simp; done) | (simp; omega)) : W P Γ Q F L (.cond c x y) := W.condF hc hb hf
theorem J.st {T b o : Nat} [h : TSc P T] {x y : Operand} {s : SV} (i : Nat) (hx : ev F x = some (.val (.pointer (some ⟨b, o, none⟩)))) (hy : ev F y = some s) {T' : TypeId} {cs cs' : List SV} {L' : List Own}
    (hi : L[i]? = some (.obj b T' cs)) (ho : Nat.blt o cs.length = true) (hcs : cs.set o s = cs') (hL : L.set i (.obj b T' cs') = L') (k : J P Γ ops Q F L' rest) (h1 : One s := by first | exact One.val rfl | exact One.sl | exact One.pp | exact One.slc) :
    J P Γ ops Q F L (⟨none, .store T x y, ty, pos, aft, none⟩ :: rest) := J.store hx hy h1 i hi ho hcs hL k
theorem SegC.gY {K : List (Nat × SV) → Prop} {dst : Option Tmp} {j e : Nat} {want b : Bool} {og : Oper}
    (hog : ops[j]? = some og) (hod : og.dst = some e) (hv : look F e = some (.val (.bool b))) (h : SegC P Γ ops L F (⟨dst, op, ty, pos, aft, none⟩ :: l) K) (hb : b = want := by first | rfl | assumption | (exact decide_eq_true (by first | assumption | omega | rfl)) | (exact decide_eq_false (by first | assumption | omega | rfl)) | (simp; done) | (simp; omega)) : SegC P Γ ops L F (⟨dst, op, ty, pos, aft, some (j, want)⟩ :: l) K := SegC.yes hog hod hv hb h
end
section
variable {P : Program} {Γ : Ctx} {Q : Exit → Act → World → Prop} {F : List (Nat × SV)} {L : List Own} {α : Type}
end
section
variable {P : Program} {Γ : Ctx} {Q : Exit → Act → World → Prop} {F : List (Nat × SV)} {L : List Own} {α : Type}
end
end Go.Sse
namespace Go.Sse
open Go Go.Sse
set_option linter.unusedVariables false
set_option linter.unusedSimpArgs false
set_option maxRecDepth 10000
section
variable {P : Program} {Γ : Ctx} {Q : Exit → Act → World → Prop} {F : List (Nat × SV)} {L : List Own} {α : Type}
theorem N.noGotoRet (h : N Γ (Q .ret) F L) : N Γ (Exit.noGoto Q .ret) F L := ⟨fun a w hst => h.go a w hst⟩
theorem N.noGotoNormal (h : N Γ (Q .normal) F L) : N Γ (Exit.noGoto Q .normal) F L := ⟨fun a w hst => h.go a w hst⟩
end
section
variable {P : Program} {Γ : Ctx} {ops : Array Oper} {Q : Exit → Act → World → Prop} {F G : List (Nat × SV)} {L L' : List Own}
theorem JP.perm {S idx : List Nat} (hp : L.Perm L') (h : JP P Γ ops Q S idx G L') : JP P Γ ops Q S idx G L :=
  ⟨fun k listed a w hq hk => by
    have hin : ∀ b, inF L' b ↔ inF L b := fun b => (hp.flatMap_right _).mem_iff.symm
    exact h.go k listed a w ⟨hq.sz, hq.lo, hq.hi, hq.cl, hq.ws.perm hp, hq.nt, hq.df, fun x s hx hb => (hq.fr x s hx hb).stable fun b _ hn => ⟨rfl, fun hc => hn (by rcases hc with hc | hc; exact .inl hc; exact .inr ((hin b).1 hc))⟩⟩ hk⟩
theorem WSt.rowRel {v : Value} {E sz n : Nat} {el : Nat → List SV} {w : World} (hws : WSt Γ (.row v E sz n el :: L) w) (hmax : n ≤ maxLen) : Rel (ZL Γ.Z L) w (.sl sz n el) v := by
  rcases hws.holds _ (List.mem_cons_self ..) with ⟨rfl, rfl⟩ | ⟨b, cap, cur, fz, rfl, hbk, hu, hnc, hcm, hcs, hone, hell, hrel⟩
  · exact .sl sz 0 el none 0 (fun _ => undef) (Nat.le_refl _) (Nat.zero_le _) (.inl (by simp)) (by simp) (by simp) (by simp)
  · have hle : n * sz ≤ cur.size := by rw [hcs]; exact Nat.mul_le_mul_right _ hnc
    have hnz : ¬ ZL Γ.Z L b := by
      have hnd := hws.nodup
      rw [foots_cons, List.nodup_append] at hnd
      rintro (h | h)
      · exact (hws.foot b (by simp [inF, foots_cons, Own.foot])).1 h
      · exact hnd.2.2 b (by simp [Own.foot]) b h rfl
    refine .sl sz n el (some ⟨b, 0, none⟩) cap (fun k => cur.toList.getD k undef) hnc hcm (.inr ⟨b, 0, rfl, hnz, fun k hk => ?_⟩) (fun k hk => ?_) hell (fun i j hi hj => (hrel i j hi hj).stable fun b' _ hn => ⟨rfl, fun hc => hn ?_⟩)
    · rw [Nat.zero_add, obj_cell hbk]
      have : k < cur.size := by omega
      simp [List.getD_eq_getElem?_getD, this]
    · have : k < cur.size := by omega
      refine hone _ ?_
      simp only [List.getD_eq_getElem?_getD, Array.getElem?_toList, Array.getElem?_eq_getElem this, Option.getD_some]
      exact Array.getElem_mem_toList this
    · rcases hc with hc | hc
      · exact .inl hc
      · refine .inr ?_
        simp only [inF, foots_cons, List.mem_append]
        exact .inr hc
theorem Step.objTell {k b o : Nat} {T : TypeId} {cs : List SV} {s : SV} {v : Value} {w : World} (h : WSt Γ L w) (hi : L[k]? = some (.obj b T cs)) (hc : cs[o]? = some (.val v)) (hr : Rel (ZL Γ.Z L) w s v) : Step Γ L (L.set k (.obj b T (cs.set o s))) w w := by
  refine Step.upd h hi rfl ⟨rfl, rfl, rfl, rfl⟩ (fun _ _ => rfl) ?_
  obtain ⟨vs, fz, hb, hu, h1, h2, h3⟩ := h.holds _ (mem_of_idx hi)
  have hlt : o < cs.length := (List.getElem?_eq_some_iff.1 hc).1
  refine ⟨vs, fz, hb, hu, by rw [List.length_set]; exact h1, h2, fun j hj => ?_⟩
  rw [List.length_set] at hj
  have h4 := h3 j hj
  by_cases ho : o = j
  · subst ho
    simp only [List.getD_eq_getElem?_getD, hc, Option.getD_some] at h4
    have h5 := h4.val_eq
    simp only [List.getD_eq_getElem?_getD, List.getElem?_set_self hlt, Option.getD_some] at h5 ⊢
    rw [h5]; exact hr
  · simp only [List.getD_eq_getElem?_getD, List.getElem?_set_ne ho] at h4 ⊢
    exact h4
theorem St.freezeCell {v : Value} {E sz n k b o : Nat} {T : TypeId} {cs : List SV} {el : Nat → List SV} {a : Act} {w : World} (hst : St Γ F (.row v E sz n el :: L) a w) (hi : L[k]? = some (.obj b T cs)) (hc : cs[o]? = some (.val v)) (hmax : n ≤ maxLen) : St Γ F (L.set k (.obj b T (cs.set o (.sl sz n el)))) a w := by
  have hr := hst.ws.rowRel hmax
  have hs := hst.step (Step.drop hst.ws (List.sublist_cons_self _ _))
  exact hs.step (Step.objTell hs.ws hi hc hr)
theorem W.freezeCell {c : Code} (j k o : Nat) {v : Value} {E sz n b : Nat} {T : TypeId} {cs : List SV} {el : Nat → List SV} (hj : L[j]? = some (.row v E sz n el)) (hi : (L.eraseIdx j)[k]? = some (.obj b T cs)) (hc : cs[o]? = some (.val v)) (hmax : n ≤ maxLen) (hL : (L.eraseIdx j).set k (.obj b T (cs.set o (.sl sz n el))) = L') (h : W P Γ Q F L' c) : W P Γ Q F L c :=
  ⟨fun a w hst => by subst hL; exact h.go a w ((hst.perm (perm_erase hj)).freezeCell hi hc hmax)⟩
theorem N.freezeCell {K : Act → World → Prop} (j k o : Nat) {v : Value} {E sz n b : Nat} {T : TypeId} {cs : List SV} {el : Nat → List SV} (hj : L[j]? = some (.row v E sz n el)) (hi : (L.eraseIdx j)[k]? = some (.obj b T cs)) (hc : cs[o]? = some (.val v)) (hmax : n ≤ maxLen) (hL : (L.eraseIdx j).set k (.obj b T (cs.set o (.sl sz n el))) = L') (h : N Γ K F L') : N Γ K F L :=
  ⟨fun a w hst => by subst hL; exact h.go a w ((hst.perm (perm_erase hj)).freezeCell hi hc hmax)⟩
end
end Go.Sse
namespace Go.Sse
open Go Go.Sse
set_option linter.unusedVariables false
set_option linter.unusedSimpArgs false
section
variable {P : Program} {Γ : Ctx} {ops : Array Oper} {Q : Exit → Act → World → Prop} {F : List (Nat × SV)} {L : List Own} {rest : List Oper}
variable {dst : Option Tmp} {ty : TypeId} {pos : String} {aft : Array Edge} {g : Option (Nat × Bool)}
end
end Go.Sse
namespace Go.Sse
open Go
set_option linter.unusedVariables false
set_option linter.unusedSimpArgs false
structure FnD (P : Program) [Gl P] (f : Nat) (args : List SV) (L : List Own) (R : SV → List Own → Prop) : Prop where
  go : ∀ (Z : Nat → Prop) (w : World) (vs : List Value), vs.length = args.length → (∀ j, j < args.length → Rel (ZL Z L) w (args.getD j .any) (vs.getD j undef)) →
    (∀ b, Z b → b < w.heap.size) → (foots L).Nodup → (∀ b, inF L b → ¬ Z b) → (∀ o ∈ L, o.holds (ZL Z L) w) →
    (∀ x ∈ Gl.gl P, x.1 < w.heap.size ∧ ¬ inF L x.1 ∧ ∀ i v, x.2[i]? = some v → w.cell? ⟨x.1, i, none⟩ = some v) → ∀ u, CallsD P f vs.toArray u w (fun e u' w' => u' = u ∧ RetP Z w L R e w')
instance {P : Program} [Gl P] {Z Fp : Nat → Prop} {w0 : World} {n : Nat} {d : Deferred} {df : List Deferred} [h : Globs P ⟨Z, w0, Fp, n, []⟩] : Globs P ⟨Z, w0, Fp, n, d :: df⟩ := ⟨h.ok⟩
theorem WSt.df {Z Fp : Nat → Prop} {w0 : World} {n : Nat} {df df' : List Deferred} {L : List Own} {w : World} (h : WSt ⟨Z, w0, Fp, n, df⟩ L w) : WSt ⟨Z, w0, Fp, n, df'⟩ L w :=
  ⟨h.os, h.tape, h.output, h.size, h.keep, h.zlt, h.nodup, h.foot, h.holds⟩
section
variable {P : Program} {ops : Array Oper} {Q : Exit → Act → World → Prop} {F : List (Nat × SV)} {L : List Own} {rest : List Oper} {Z Fp : Nat → Prop} {w0 : World} {n : Nat} {df : List Deferred}
variable {L0 : List Own} {R : SV → List Own → Prop} {fn : Func}
end
end Go.Sse
namespace Go.Sse
open Go Go.Sse
set_option linter.unusedVariables false
set_option linter.unusedSimpArgs false
set_option maxRecDepth 10000
def leafTy (P : Program) (t : TypeId) : Leaf → Bool
  | .b => match P.underlying t with | some .bool => true | _ => false
  | .i k => match P.underlying t with | some (.int k') => decide (k = k') | _ => false
  | .s => match P.underlying t with | some .string => true | _ => false
def flatF (P : Program) : List Field → Nat → List Leaf → Bool
  | [], _, [] => true
  | f :: fs, off, l :: ls => decide (f.offset = off) && (decide (f.name ≠ "_") && (leafTy P f.type l && flatF P fs (off + 1) ls))
  | _, _, _ => false
class TKey (P : Program) (K : Nat) (ls : outParam (List Leaf)) : Prop where
  leaf : TLeaf P K ls
  ok : (match P.underlying K with | some (.struct fs) => flatF P fs.toList 0 ls | _ => false) = true
section
variable {P : Program} {α : Type} [DecidableEq α] (enc : α → List Value) (inj : ∀ a b, enc a = enc b → a = b)
end
section
variable {P : Program} {Γ : Ctx} {ops : Array Oper} {Q : Exit → Act → World → Prop} {F : List (Nat × SV)} {L : List Own} {rest : List Oper}
variable {dst : Option Tmp} {ty : TypeId} {pos : String} {aft : Array Edge} {g : Option (Nat × Bool)}
variable {α : Type} [DecidableEq α] (enc : α → List Value)
end
end Go.Sse
namespace Go.Sse
open Go Go.Sse
set_option linter.unusedVariables false
set_option linter.unusedSimpArgs false
set_option maxRecDepth 10000
section
variable {P : Program} {Γ : Ctx} {ops : Array Oper} {Q : Exit → Act → World → Prop} {F : List (Nat × SV)} {L : List Own} {rest : List Oper}
variable {dst : Option Tmp} {ty : TypeId} {pos : String} {aft : Array Edge} {g : Option (Nat × Bool)}
end
end Go.Sse
namespace Go.Sse
open Go Go.Sse
set_option linter.unusedVariables false
set_option linter.unusedSimpArgs false
set_option maxRecDepth 10000
section
variable {P : Program} {Γ : Ctx} {ops : Array Oper} {Q : Exit → Act → World → Prop} {F G : List (Nat × SV)} {L : List Own} {l rest : List Oper} {S idx : List Nat}
variable {dst : Option Tmp} {ty : TypeId} {pos : String} {aft : Array Edge} {g : Option (Nat × Bool)}
theorem JP.storeRowL {α : Type} {T b o cap E sz : Nat} [h : TSc P T] {x y : Operand} {s : SV} {enc : α → List SV} {d : α} {ll : List α} (i : Nat) (ks S' idx' : List Nat) (hc : (okIdx l.toArray S idx && okStep l.toArray S idx i ks S' idx') = true) (hoi : l[i]? = some ⟨none, .store T x y, ty, pos, aft, g⟩)
    (hre : SegC P Γ l.toArray L G (opsAt l idx) (Ag G idx.length)) (k j : Nat) (a' : α) (hx : ev (keep ks G) x = some (.val (.pointer (some ⟨b, o, none⟩)))) (hy : ev (keep ks G) y = some s) (h1 : One s) (q : Nat)
    (hi : L[q]? = some (.row (.slice (some ⟨b, 0, none⟩) ll.length cap) E sz ll.length (elOf enc d ll))) (ho : o = k * sz + j) (hk : k < ll.length) (hj : j < sz) (he : enc a' = (enc (ll.getD k d)).set j s) {L' : List Own}
    (hL : L.set q (.row (.slice (some ⟨b, 0, none⟩) ll.length cap) E sz ll.length (elOf enc d (ll.set k a'))) = L') (kk : JP P Γ l.toArray Q S' idx' G L') : JP P Γ l.toArray Q S idx G L :=
  JP.do0 i ks S' idx' hc hoi hre (OpS.storeRow (el' := elOf enc d (ll.set k a')) hx hy h1 q hi k j ho hk hj (by simp [elOf, List.getD_eq_getElem?_getD, List.getElem?_set, hk] at he ⊢; exact he) (fun m hm hne => by simp [elOf, List.getD_eq_getElem?_getD, List.getElem?_set, Ne.symm hne])) (by rintro sv L'' rfl; rw [hL]; exact kk)
end
end Go.Sse
namespace Go.Sse
open Go Go.Sse
set_option linter.unusedVariables false
set_option linter.unusedSimpArgs false
set_option maxRecDepth 10000
class TMeth (P : Program) (T : Nat) (name : String) (f : outParam Nat) (pr : outParam Bool) : Prop where
  ok : ((P.info? T).bind fun i => (i.methods.find? (fun m => m.name == name)).bind fun m => if m.path.isEmpty then m.func else none) = some (f, pr)
theorem run_typeInfo {P : Program} {T : Nat} {i : TypeInfo} (h : P.info? T = some i) (w : World) : (typeInfo T).run P w = .ok i w := by
  simp [typeInfo, h]
theorem TMeth.get {P : Program} {T : Nat} {name : String} {f : Nat} {pr : Bool} (h : TMeth P T name f pr) : ∃ i m, P.info? T = some i ∧ i.methods.find? (fun m => m.name == name) = some m ∧ m.path = #[] ∧ m.func = some (f, pr) := by
  have h1 := h.ok
  cases hi : P.info? T with
  | none => rw [hi] at h1; cases h1
  | some i =>
    rw [hi] at h1
    simp only [Option.bind_some] at h1
    cases hm : i.methods.find? (fun m => m.name == name) with
    | none => rw [hm] at h1; cases h1
    | some m =>
      rw [hm] at h1
      simp only [Option.bind_some] at h1
      split at h1
      · rename_i hp
        exact ⟨i, m, rfl, hm, by simpa using hp, h1⟩
      · cases h1
theorem run_methodP {P : Program} {T E : Nat} [hT : TPtr P T E] {name : String} {f : Nat} (h : TMeth P T name f true) (n : Nat) (v : Value) (w : World) : (method (n + 1) T v name).run P w = .ok (f, v) w := by
  obtain ⟨i, m, h1, h2, h3, h4⟩ := h.get
  simp [method, run_typeInfo h1, h2, h3, h4, follow, receiverAt, run_underlying hT.ok, Place.get]
theorem run_wrapNil {P : Program} (T : Nat) (s t : String) (a : Addr) (w : World) : (Builtin.ssaWrapNilChk_ #[T] T #[.pointer (some a), strVal s, strVal t]).run P w = .ok (.pointer (some a)) w := rfl
theorem run_methodV {P : Program} {T E : Nat} [hT : TPtr P T E] {name : String} {f : Nat} (h : TMeth P T name f false) (n : Nat) (a : Addr) (u : Value) (w : World) (hl : (loadVar E a).run P w = .ok u w) : (method (n + 1) T (.pointer (some a)) name).run P w = .ok (f, u) w := by
  obtain ⟨i, m, h1, h2, h3, h4⟩ := h.get
  simp [method, run_typeInfo h1, h2, h3, h4, follow, receiverAt, run_underlying hT.ok, Place.get, run_wrapNil, asAddr, hl]
section
variable {P : Program} {Γ : Ctx} {ops : Array Oper} {Q : Exit → Act → World → Prop} {F : List (Nat × SV)} {L : List Own} {rest : List Oper}
variable {dst : Option Tmp} {ty : TypeId} {pos : String} {aft : Array Edge} {g : Option (Nat × Bool)}
theorem Pv.mkIface {T E : Nat} [hT : TPtr P T E] {x : Operand} {v : Value} (hx : ev F x = some (.val v)) : Pv P Γ F L ⟨dst, .makeInterface T x, ty, pos, aft, g⟩ (.val (.iface T v)) := fun ρ w hst => by
  have hxv := hst.evv (x := x) (by simp [Op.operands]) hx
  exact ⟨_, by simp [execOp, Instr.makeInterface, run_underlying hT.ok, hxv], .val _⟩
theorem Cx.mkIface {T E : Nat} [hT : TPtr P T E] {x : Operand} {v : Value} (hx : ev F x = some (.val v)) {d0 : Nat} {K : List (Nat × SV) → Prop} (hlt : Nat.blt d0 Γ.nt = true) (hr : SegC P Γ ops L ((d0, (.val (.iface T v))) :: F) rest K) : SegC P Γ ops L F (⟨some d0, .makeInterface T x, ty, pos, aft, none⟩ :: rest) K :=
  SegC.q (Qs.pv (by apply Pv.mkIface <;> assumption)) hlt hr
theorem Jx.mkIface {T E : Nat} [hT : TPtr P T E] {x : Operand} {v : Value} (hx : ev F x = some (.val v)) {d0 : Nat} (hlt : Nat.blt d0 Γ.nt = true) (k : J P Γ ops Q ((d0, (.val (.iface T v))) :: F) L rest) : J P Γ ops Q F L (⟨some d0, .makeInterface T x, ty, pos, aft, none⟩ :: rest) :=
  J.pv (by apply Pv.mkIface <;> assumption) hlt k
theorem Pv.asIface {T xT E : Nat} [hT : TPtr P T E] {x : Operand} {v : Value} (hx : ev F x = some (.val (.iface T v))) : Pv P Γ F L ⟨dst, .typeAssert x xT T false, ty, pos, aft, g⟩ (.val v) := fun ρ w hst => by
  have hxv := hst.evv (x := x) (by simp [Op.operands]) hx
  exact ⟨_, by simp [execOp, Instr.typeAssert, run_underlying hT.ok, hxv], .val _⟩
theorem Jx.asIface {T xT E : Nat} [hT : TPtr P T E] {x : Operand} {v : Value} (hx : ev F x = some (.val (.iface T v))) {d0 : Nat} (hlt : Nat.blt d0 Γ.nt = true) (k : J P Γ ops Q ((d0, (.val v)) :: F) L rest) : J P Γ ops Q F L (⟨some d0, .typeAssert x xT T false, ty, pos, aft, none⟩ :: rest) :=
  J.pv (by apply Pv.asIface <;> assumption) hlt k
end
section
variable {P : Program} [Gl P] {Γ : Ctx} [Globs P Γ] {ops : Array Oper} {Q : Exit → Act → World → Prop} {F : List (Nat × SV)} {L : List Own} {rest : List Oper}
variable {dst : Option Tmp} {ty : TypeId} {pos : String} {aft : Array Edge} {g : Option (Nat × Bool)}
theorem OpS.invP {T E f : Nat} [hT : TPtr P T E] {name : String} [hm : TMeth P T name f true] [hf : TFunc P f] {x : Operand} {v : Value} {xs : List Operand} {ts : Array TypeId} {args : List SV} {Lc Lr : List Own} {R : SV → List Own → Prop} (hx : ev F x = some (.val (.iface T v)))
    (hF : FnC P f (.val v :: args) Lc R) (hL : L = Lc ++ Lr) (ha : Args F xs args) :
    OpS P Γ ⟨dst, .call { callee := .invoke x name, args := xs.toArray, argTypes := ts }, ty, pos, aft, g⟩ F L (fun s L' => ∃ Lc', R s Lc' ∧ L' = Lc' ++ Lr) := by
  intro a w K Q hst hK
  subst hL
  obtain ⟨hl, hr⟩ := args_rel hst ha
  have hxv := hst.evv hx
  unfold Oper.wp
  have hn : P.types.size + Made.depth = (P.types.size + Made.depth - 1) + 1 := by
    have : 0 < Made.depth := by decide
    omega
  have he : (execOp a.eval ⟨dst, .call { callee := .invoke x name, args := xs.toArray, argTypes := ts }, ty, pos, aft, g⟩).run P w = .ok (.enter f ((v :: xs.map a.eval).toArray)) w := by
    have hmm := run_methodP (P := P) (T := T) hm (P.types.size + Made.depth - 1) v w
    rw [← hn] at hmm
    simp [execOp, resolve, invoke, callMethod, hxv, hmm, run_callFunc hf]
    rw [List.take_of_length_le (by simp)]
  rw [he, Oper.upon_enter]
  refine (calls_at hF hst.ws (by simp [hl]) ?_).mono ?_
  · intro j hj
    cases j with
    | zero => exact .val _
    | succ j => simpa using hr j (by simpa using hj)
  · rintro e w' ⟨v, s, L', rfl, hR, hs, hrel⟩
    exact hK v w' s _ ⟨L', hR, rfl⟩ hs hrel
theorem OpS.invV {T E f : Nat} [hT : TPtr P T E] [hE : TSc P E] {name : String} [hm : TMeth P T name f false] [hf : TFunc P f] {x : Operand} {b o : Nat} {u : Value} {xs : List Operand} {ts : Array TypeId} {args : List SV} {Lc Lr : List Own} {R : SV → List Own → Prop} (hx : ev F x = some (.val (.iface T (.pointer (some ⟨b, o, none⟩)))))
    (i : Nat) {T' : TypeId} {cs : List SV} (hi : L[i]? = some (.obj b T' cs)) (hc : cs[o]? = some (.val u)) (hF : FnC P f (.val u :: args) Lc R) (hL : L = Lc ++ Lr) (ha : Args F xs args) :
    OpS P Γ ⟨dst, .call { callee := .invoke x name, args := xs.toArray, argTypes := ts }, ty, pos, aft, g⟩ F L (fun s L' => ∃ Lc', R s Lc' ∧ L' = Lc' ++ Lr) := by
  intro a w K Q hst hK
  obtain ⟨vs, fz, hb, hu, h1, h2, h3⟩ := hst.ws.holds _ (mem_of_idx hi)
  have hlt : o < cs.length := (List.getElem?_eq_some_iff.1 hc).1
  have hcell : w.cell? ⟨b, o, none⟩ = some u := by
    rw [obj_cell hb]
    have h4 := h3 o hlt
    rw [List.getD_eq_getElem?_getD, hc] at h4
    have h5 := h4.val_eq
    simp only [Array.length_toList] at h1
    simp only [List.getD_eq_getElem?_getD, Array.getElem?_toList] at h5
    rw [Array.getElem?_eq_getElem (by omega)] at h5 ⊢
    simpa using h5
  subst hL
  obtain ⟨hl, hr⟩ := args_rel hst ha
  have hxv := hst.evv hx
  unfold Oper.wp
  have hn : P.types.size + Made.depth = (P.types.size + Made.depth - 1) + 1 := by
    have : 0 < Made.depth := by decide
    omega
  have he : (execOp a.eval ⟨dst, .call { callee := .invoke x name, args := xs.toArray, argTypes := ts }, ty, pos, aft, g⟩).run P w = .ok (.enter f ((u :: xs.map a.eval).toArray)) w := by
    have hmm := run_methodV (P := P) (T := T) hm (P.types.size + Made.depth - 1) ⟨b, o, none⟩ u w (run_loadVar_sc hE w _ u hcell)
    rw [← hn] at hmm
    simp [execOp, resolve, invoke, callMethod, hxv, hmm, run_callFunc hf]
    rw [List.take_of_length_le (by simp)]
  rw [he, Oper.upon_enter]
  refine (calls_at hF hst.ws (by simp [hl]) ?_).mono ?_
  · intro j hj
    cases j with
    | zero => exact .val _
    | succ j => simpa using hr j (by simpa using hj)
  · rintro e w' ⟨v, s, L', rfl, hR, hs, hrel⟩
    exact hK v w' s _ ⟨L', hR, rfl⟩ hs hrel
theorem J.invP {T E f d : Nat} [hT : TPtr P T E] {name : String} [hm : TMeth P T name f true] [hf : TFunc P f] {x : Operand} {v : Value} {xs : List Operand} {ts : Array TypeId} {args : List SV} {Lc Lr : List Own} {R : SV → List Own → Prop} (hx : ev F x = some (.val (.iface T v)))
    (hF : FnC P f (.val v :: args) Lc R) (hL : L = Lc ++ Lr) (ha : Args F xs args) (hlt : Nat.blt d Γ.nt = true) (h : ∀ s Lc', R s Lc' → J P Γ ops Q ((d, s) :: F) (Lc' ++ Lr) rest) :
    J P Γ ops Q F L (⟨some d, .call { callee := .invoke x name, args := xs.toArray, argTypes := ts }, ty, pos, aft, none⟩ :: rest) :=
  J.op (OpS.invP hx hF hL ha) rfl rfl hlt (by rintro s L' ⟨Lc', hR, rfl⟩; exact h s Lc' hR)
theorem J.invV {T E f d : Nat} [hT : TPtr P T E] [hE : TSc P E] {name : String} [hm : TMeth P T name f false] [hf : TFunc P f] {x : Operand} {b o : Nat} {u : Value} {xs : List Operand} {ts : Array TypeId} {args : List SV} {Lc Lr : List Own} {R : SV → List Own → Prop} (hx : ev F x = some (.val (.iface T (.pointer (some ⟨b, o, none⟩)))))
    (i : Nat) {T' : TypeId} {cs : List SV} (hi : L[i]? = some (.obj b T' cs)) (hc : cs[o]? = some (.val u)) (hF : FnC P f (.val u :: args) Lc R) (hL : L = Lc ++ Lr) (ha : Args F xs args) (hlt : Nat.blt d Γ.nt = true) (h : ∀ s Lc', R s Lc' → J P Γ ops Q ((d, s) :: F) (Lc' ++ Lr) rest) :
    J P Γ ops Q F L (⟨some d, .call { callee := .invoke x name, args := xs.toArray, argTypes := ts }, ty, pos, aft, none⟩ :: rest) :=
  J.op (OpS.invV hx i hi hc hF hL ha) rfl rfl hlt (by rintro s L' ⟨Lc', hR, rfl⟩; exact h s Lc' hR)
end
section
variable {P : Program} {Γ : Ctx} {ops : Array Oper} {Q : Exit → Act → World → Prop} {F : List (Nat × SV)} {L : List Own} {rest : List Oper}
variable {dst : Option Tmp} {ty : TypeId} {pos : String} {aft : Array Edge} {g : Option (Nat × Bool)}
def unk {α β : Type} [DecidableEq α] : List (α × β) → α → List (α × β)
  | [], _ => []
  | p :: l, k => if p.1 = k then l else p :: unk l k
theorem findNow_at (k : List UInt8) : ∀ (es : List MapEntry) (l : List (List UInt8 × Value)) (i : Nat), es.map (fun e => (e.key, e.val)) = l.map (fun p => (sv p.1, p.2)) →
    ∃ r, Instr.findNow .string (sv k) es i = some r ∧ ((r = none ∧ unk l k = l) ∨ ∃ j v, r = some (i + j, v) ∧ j < es.length ∧ (es.eraseIdx j).map (fun e => (e.key, e.val)) = (unk l k).map (fun p => (sv p.1, p.2)))
  | [], [], i, _ => ⟨none, rfl, .inl ⟨rfl, rfl⟩⟩
  | [], _ :: _, _, h => by cases h
  | _ :: _, [], _, h => by cases h
  | e :: es, p :: l, i, h => by
    simp only [List.map_cons, List.cons.injEq, Prod.mk.injEq] at h
    obtain ⟨⟨h1, h2⟩, h3⟩ := h
    have hs : Instr.sameNow .string (sv k) e.key = some (decide (p.1 = k)) := by
      rw [h1]
      show some ((⟨k.toArray⟩ : ByteArray) == ⟨p.1.toArray⟩) = _
      rw [sv_beq]
      congr 1
      exact decide_eq_decide.2 ⟨Eq.symm, Eq.symm⟩
    by_cases hk : p.1 = k
    · refine ⟨some (i, e.val), ?_, .inr ⟨0, e.val, by simp, by simp, ?_⟩⟩
      · simp [Instr.findNow, hs, hk]
      · simp [unk, hk, h3]
    · obtain ⟨r, hr1, hr2⟩ := findNow_at k es l (i + 1) h3
      refine ⟨r, ?_, ?_⟩
      · simp [Instr.findNow, hs, hk, hr1]
      · rcases hr2 with ⟨e1, e2⟩ | ⟨j, v, e1, e2, e3⟩
        · exact .inl ⟨e1, by simp [unk, hk, e2]⟩
        · refine .inr ⟨j + 1, v, by rw [e1]; congr 2; omega, by simpa using e2, ?_⟩
          simp only [List.eraseIdx_cons_succ, List.map_cons, unk, hk, if_false, e3, h1, h2]
theorem run_deleteS {T K E : Nat} [hT : TMap P T K E] [hK : TStr P K] (w : World) (kt ty : TypeId) (b : Nat) (es : Array MapEntry) (clock : Nat) (hb : w.heap[b]? = some (.map es clock)) (k : List UInt8) (l : List (List UInt8 × Value))
    (hk : es.toList.map (fun e => (e.key, e.val)) = l.map (fun p => (sv p.1, p.2))) :
    ∃ es', es'.toList.map (fun e => (e.key, e.val)) = (unk l k).map (fun p => (sv p.1, p.2)) ∧ (Builtin.delete_ #[T, kt] ty #[.map (some b), sv k]).run P w = .ok (.tuple #[]) { w with heap := w.heap.setIfInBounds b (.map es' clock) } := by
  obtain ⟨r, hr, hr2⟩ := findNow_at k es.toList l 0 hk
  have hf : (Instr.findKey K (sv k) es.toList).run P w = .ok r w := by simp [Instr.findKey, run_underlying hK.ok, hr]
  have hgo := run_getObj_map (P := P) (w := w) b es clock hb
  have hso : ∀ e : Array MapEntry, (setObj b (.map e clock)).run P w = .ok () { w with heap := w.heap.setIfInBounds b (.map e clock) } := fun e => by simp [setObj, Sem.run, hb]
  rcases hr2 with ⟨rfl, e2⟩ | ⟨j, v, rfl, e2, e3⟩
  · refine ⟨es, by rw [e2]; exact hk, ?_⟩
    simp [Builtin.delete_, run_underlying hT.ok, hgo, run_checkKey_str, hf, hso]
  · refine ⟨es.eraseIdxIfInBounds j, ?_, ?_⟩
    · rw [Array.toList_eraseIdxIfInBounds]; exact e3
    · simp [Builtin.delete_, run_underlying hT.ok, hgo, run_checkKey_str, hf, hso]
theorem OpS.deleteS {T K E kt : Nat} [hT : TMap P T K E] [hK : TStr P K] {x y : Operand} {b : Nat} {k : List UInt8} {l : List (List UInt8 × Value)} (hx : ev F x = some (.val (.map (some b)))) (hy : ev F y = some (str k)) (i : Nat)
    (hi : L[i]? = some (mapO b (l.map fun p => (sv p.1, p.2)))) : OpS P Γ ⟨dst, .call { callee := .builtin .delete, args := #[x, y], argTypes := #[T, kt] }, ty, pos, aft, g⟩ F L (fun _ L' => L' = L.set i (mapO b ((unk l k).map fun p => (sv p.1, p.2)))) := by
  intro a w K' Q hst hK'
  obtain ⟨es, clock, hb, hk⟩ := mapO_at hst.ws hi
  obtain ⟨es', he', hrun⟩ := run_deleteS (P := P) (T := T) w kt ty b es clock hb k l hk
  unfold Oper.wp
  have he : (execOp a.eval ⟨dst, .call { callee := .builtin .delete, args := #[x, y], argTypes := #[T, kt] }, ty, pos, aft, g⟩).run P w = .ok (.value (.tuple #[])) { w with heap := w.heap.setIfInBounds b (.map es' clock) } := by
    simp [execOp, resolve, invoke, builtin, hst.evv hx, hst.evv hy, hrun]
  rw [he]
  exact hK' _ _ .any _ rfl (Step.mapSet hst.ws hi hb _ _ he') (.any _)
theorem J.deleteS {T K E kt : Nat} [hT : TMap P T K E] [hK : TStr P K] {x y : Operand} {b : Nat} {k : List UInt8} {l : List (List UInt8 × Value)} {L' : List Own} (hx : ev F x = some (.val (.map (some b)))) (hy : ev F y = some (str k)) (i : Nat)
    (hi : L[i]? = some (mapO b (l.map fun p => (sv p.1, p.2)))) (hL : L.set i (mapO b ((unk l k).map fun p => (sv p.1, p.2))) = L') (h : J P Γ ops Q F L' rest) : J P Γ ops Q F L (⟨none, .call { callee := .builtin .delete, args := #[x, y], argTypes := #[T, kt] }, ty, pos, aft, none⟩ :: rest) :=
  J.op0 (OpS.deleteS hx hy i hi) rfl rfl (by rintro s L'' rfl; rw [hL]; exact h)
end
end Go.Sse
namespace Go.Sse
open Go Go.Sse
set_option linter.unusedVariables false
set_option linter.unusedSimpArgs false
set_option maxRecDepth 10000
theorem lk_cons {α β : Type} [DecidableEq α] (p : α × β) (l : List (α × β)) (k : α) : lk (p :: l) k = if p.1 = k then some p.2 else lk l k := by
  by_cases h : p.1 = k <;> simp [lk, h]
section
variable {P : Program} {Γ : Ctx} {ops : Array Oper} {Q : Exit → Act → World → Prop} {F : List (Nat × SV)} {L : List Own} {rest : List Oper}
variable {dst : Option Tmp} {ty : TypeId} {pos : String} {aft : Array Edge} {g : Option (Nat × Bool)}
end
end Go.Sse
namespace Go.Sse
open Go Go.Sse
set_option linter.unusedVariables false
set_option linter.unusedSimpArgs false
set_option maxRecDepth 10000
section
variable {P : Program} {Γ : Ctx} {ops : Array Oper} {Q : Exit → Act → World → Prop} {F : List (Nat × SV)} {L : List Own} {rest : List Oper}
variable {dst : Option Tmp} {ty : TypeId} {pos : String} {aft : Array Edge} {g : Option (Nat × Bool)}
theorem getD_map_val (us : List Value) (j : Nat) : (us.map SV.val).getD j .any = if j < us.length then .val (us.getD j undef) else .any := by
  by_cases h : j < us.length
  · rw [if_pos h]; simp [List.getD_eq_getElem?_getD, List.getElem?_eq_getElem h]
  · rw [if_neg h]; simp [List.getD_eq_getElem?_getD, List.getElem?_eq_none (Nat.le_of_not_lt h)]
theorem Pv.lookupG {T K E : Nat} [hT : TMap P T K E] [hK : TStr P K] {x y : Operand} {b : Nat} {k : List UInt8} {l : List (List UInt8 × Value)} (hx : ev F x = some (.val (.map (some b)))) (hy : ev F y = some (str k)) (i : Nat)
    (hi : L[i]? = some (mapO b (l.map fun p => (sv p.1, p.2)))) (us : List Value) (hl : lk l k = some (.agg us.toArray)) (h1 : us.all (·.oneCell') = true) : Pv P Γ F L ⟨dst, .lookup T x y false, ty, pos, aft, g⟩ (.agg (us.map .val)) := fun ρ w hst => by
  obtain ⟨es, clock, hb, hk⟩ := mapO_at hst.ws hi
  have hxv := hst.evv (x := x) (by simp [Op.operands]) hx
  have hyv := hst.evv (x := y) (by simp [Op.operands]) hy
  obtain ⟨r, hr, hr2⟩ := run_findKey_str (P := P) (K := K) w k es.toList l hk
  have hgo := run_getObj_map (P := P) (w := w) b es clock hb
  rw [hl] at hr2
  cases r with
  | none => simp at hr2
  | some q =>
    obtain ⟨q1, q2⟩ := q
    simp only [Option.map_some, Option.some.injEq] at hr2
    subst hr2
    refine ⟨.agg us.toArray, ?_, .agg _ _ (by simp) (fun v hv => List.all_eq_true.1 h1 v hv) fun j hj => ?_⟩
    · simp [execOp, hxv, hyv, Instr.lookup, run_underlying hT.ok, hgo, run_checkKey_str, hr]
    · rw [getD_map_val, if_pos (by simpa using hj)]; exact .val _
theorem Jx.lookupG {T K E : Nat} [hT : TMap P T K E] [hK : TStr P K] {x y : Operand} {b : Nat} {k : List UInt8} {l : List (List UInt8 × Value)} (hx : ev F x = some (.val (.map (some b)))) (hy : ev F y = some (str k)) (i : Nat)
    (hi : L[i]? = some (mapO b (l.map fun p => (sv p.1, p.2)))) (us : List Value) (hl : lk l k = some (.agg us.toArray)) (h1 : us.all (·.oneCell') = true) {d0 : Nat} (hlt : Nat.blt d0 Γ.nt = true) (k : J P Γ ops Q ((d0, (.agg (us.map .val))) :: F) L rest) : J P Γ ops Q F L (⟨some d0, .lookup T x y false, ty, pos, aft, none⟩ :: rest) :=
  J.pv (by apply Pv.lookupG <;> assumption) hlt k
theorem OpS.mapUpdG {T K E : Nat} [hT : TMap P T K E] [hK : TStr P K] {x y z : Operand} {b : Nat} {k : List UInt8} {cs : List SV} {us : List Value} {l : List (List UInt8 × Value)} (hx : ev F x = some (.val (.map (some b)))) (hy : ev F y = some (str k)) (hz : ev F z = some (.agg cs)) (hu : unvals cs = some us) (i : Nat)
    (hi : L[i]? = some (mapO b (l.map fun p => (sv p.1, p.2)))) (hn : lk l k = none) : OpS P Γ ⟨dst, .mapUpdate T x y z, ty, pos, aft, g⟩ F L (fun _ L' => L' = L.set i (mapO b ((l ++ [(k, Value.agg us.toArray)]).map fun p => (sv p.1, p.2)))) := by
  intro a w K' Q hst hK'
  obtain ⟨es, clock, hb, hk⟩ := mapO_at hst.ws hi
  have hzv : a.eval z = .agg us.toArray := agg_vals (hst.ev hz) hu
  have hrun := run_mapUpdateS (P := P) (T := T) w b es clock hb k (.agg us.toArray) l hk hn
  unfold Oper.wp
  have he : (execOp a.eval ⟨dst, .mapUpdate T x y z, ty, pos, aft, g⟩).run P w = .ok .skip { w with heap := w.heap.setIfInBounds b (.map (es.push ⟨sv k, .agg us.toArray, clock⟩) (clock + 1)) } := by
    simp [execOp, hst.evv hx, hst.evv hy, hzv, hrun]
  rw [he]
  exact hK' undef _ .any _ rfl (Step.mapSet hst.ws hi hb _ _ (by rw [push_map hk, List.map_append]; rfl)) (.any _)
theorem J.mapUpdG {T K E : Nat} [hT : TMap P T K E] [hK : TStr P K] {x y z : Operand} {b : Nat} {k : List UInt8} {cs : List SV} {us : List Value} {l : List (List UInt8 × Value)} {L' : List Own} (hx : ev F x = some (.val (.map (some b)))) (hy : ev F y = some (str k)) (hz : ev F z = some (.agg cs)) (hu : unvals cs = some us) (i : Nat)
    (hi : L[i]? = some (mapO b (l.map fun p => (sv p.1, p.2)))) (hn : lk l k = none) (hL : L.set i (mapO b ((l ++ [(k, Value.agg us.toArray)]).map fun p => (sv p.1, p.2))) = L') (h : J P Γ ops Q F L' rest) : J P Γ ops Q F L (⟨none, .mapUpdate T x y z, ty, pos, aft, none⟩ :: rest) :=
  J.op0 (OpS.mapUpdG hx hy hz hu i hi hn) rfl rfl (by rintro s L'' rfl; rw [hL]; exact h)
end
end Go.Sse
namespace Go.Sse
open Go Go.Sse
set_option linter.unusedVariables false
set_option linter.unusedSimpArgs false
set_option maxRecDepth 10000
section
variable {P : Program} {Γ : Ctx} {ops : Array Oper} {Q : Exit → Act → World → Prop} {F : List (Nat × SV)} {L L2 : List Own} {rest : List Oper}
variable {dst : Option Tmp} {ty : TypeId} {pos : String} {aft : Array Edge} {g : Option (Nat × Bool)}
theorem Step.permL {L' : List Own} {w w' : World} (h : Step Γ L2 L' w w') (hp : L.Perm L2) : Step Γ L L' w w' := by
  have hin : ∀ b, inF L b ↔ inF L2 b := fun b => (hp.flatMap_right _).mem_iff
  exact ⟨h.ws, h.size, fun b hb hn => h.same b hb fun hi => hn ((hin b).2 hi), fun b hb => (h.fresh b hb).imp (fun hi => (hin b).2 hi) id⟩
theorem OpS.permL {o : Oper} {R : SV → List Own → Prop} (h : OpS P Γ o F L2 R) (hp : L.Perm L2) : OpS P Γ o F L R :=
  fun a w K Q hst hK => h a w K Q (hst.perm hp) fun v w' sv L' hR hs hrel => hK v w' sv L' hR (hs.permL hp) hrel
theorem JP.callP [Gl P] [Globs P Γ] {l : List Oper} {S idx : List Nat} {G : List (Nat × SV)} {d f : Nat} [hT : TFunc P f] {xs : List Operand} {ts : Array TypeId} {args : List SV} {Lc Lr : List Own} {R : SV → List Own → Prop} (i : Nat) (ks S' idx' : List Nat) (hF : FnC P f args Lc R) (hL : L.Perm (Lc ++ Lr)) (hc : (okIdx l.toArray S idx && okStep l.toArray S idx i ks S' idx') = true)
    (hoi : l[i]? = some ⟨some d, .call { callee := .value (.func f), args := xs.toArray, argTypes := ts }, ty, pos, aft, g⟩) (hre : SegC P Γ l.toArray L G (opsAt l idx) (Ag G idx.length)) (ha : Args (keep ks G) xs args) (hlt : Nat.blt d Γ.nt = true)
    (k : ∀ s Lc', R s Lc' → JP P Γ l.toArray Q S' idx' ((d, s) :: G) (Lc' ++ Lr)) : JP P Γ l.toArray Q S idx G L :=
  JP.do1 i ks S' idx' hc hoi hre ((OpS.call hF rfl ha).permL hL) hlt (by rintro s L' ⟨Lc', hR, rfl⟩; exact k s Lc' hR)
end
end Go.Sse
namespace Go.Proofs.Ytmkicbphbegjbaa
open Go Go.Sse
set_option linter.unusedVariables false
instance : TSc Try.prog 0 := ⟨by kernel_rfl, by kernel_rfl⟩
instance : TSc Try.prog 1 := ⟨by kernel_rfl, by kernel_rfl⟩
instance : TInfo Try.prog 1 1 8 [.nilFunc] := ⟨by kernel_rfl⟩
instance : TInt Try.prog 2 .i64 := ⟨by kernel_rfl⟩
instance : TSc Try.prog 2 := ⟨by kernel_rfl, by kernel_rfl⟩
instance : TInfo Try.prog 2 1 8 [.int .i64 0] := ⟨by kernel_rfl⟩
instance : TInt Try.prog 3 .i64 := ⟨by kernel_rfl⟩
instance : TSc Try.prog 3 := ⟨by kernel_rfl, by kernel_rfl⟩
instance : TInfo Try.prog 3 1 8 [.int .i64 0] := ⟨by kernel_rfl⟩
instance : TBool Try.prog 4 := ⟨by kernel_rfl⟩
instance : TSc Try.prog 4 := ⟨by kernel_rfl, by kernel_rfl⟩
instance : TInfo Try.prog 4 1 1 [.bool false] := ⟨by kernel_rfl⟩
instance : TInt Try.prog 5 .u8 := ⟨by kernel_rfl⟩
instance : TSc Try.prog 5 := ⟨by kernel_rfl, by kernel_rfl⟩
instance : TInfo Try.prog 5 1 1 [.int .u8 0] := ⟨by kernel_rfl⟩
instance : TInt Try.prog 6 .u8 := ⟨by kernel_rfl⟩
instance : TSc Try.prog 6 := ⟨by kernel_rfl, by kernel_rfl⟩
instance : TInfo Try.prog 6 1 1 [.int .u8 0] := ⟨by kernel_rfl⟩
instance : TFld Try.prog 7 0 0 2 1 := ⟨by kernel_rfl, by decide⟩
instance : TFld Try.prog 7 1 1 3 1 := ⟨by kernel_rfl, by decide⟩
instance : TFld Try.prog 7 2 2 4 1 := ⟨by kernel_rfl, by decide⟩
instance : TFld Try.prog 7 3 3 6 1 := ⟨by kernel_rfl, by decide⟩
instance : TBuild Try.prog 7 [(0, 1), (1, 1), (2, 1), (3, 1)] := ⟨by kernel_rfl⟩
instance : TAg Try.prog 7 4 := ⟨by kernel_rfl, by kernel_rfl⟩
instance : TLeaf Try.prog 7 [.i .i64, .i .i64, .b, .i .u8] := ⟨by kernel_rfl, by kernel_rfl, by kernel_rfl⟩
instance : TInfo Try.prog 7 4 24 [.int .i64 0, .int .i64 0, .bool false, .int .u8 0] := ⟨by kernel_rfl⟩
instance : TFld Try.prog 8 0 0 2 1 := ⟨by kernel_rfl, by decide⟩
instance : TFld Try.prog 8 1 1 3 1 := ⟨by kernel_rfl, by decide⟩
instance : TFld Try.prog 8 2 2 4 1 := ⟨by kernel_rfl, by decide⟩
instance : TFld Try.prog 8 3 3 6 1 := ⟨by kernel_rfl, by decide⟩
instance : TBuild Try.prog 8 [(0, 1), (1, 1), (2, 1), (3, 1)] := ⟨by kernel_rfl⟩
instance : TAg Try.prog 8 4 := ⟨by kernel_rfl, by kernel_rfl⟩
instance : TLeaf Try.prog 8 [.i .i64, .i .i64, .b, .i .u8] := ⟨by kernel_rfl, by kernel_rfl, by kernel_rfl⟩
instance : TInfo Try.prog 8 4 24 [.int .i64 0, .int .i64 0, .bool false, .int .u8 0] := ⟨by kernel_rfl⟩
instance : TStr Try.prog 9 := ⟨by kernel_rfl⟩
instance : TSc Try.prog 9 := ⟨by kernel_rfl, by kernel_rfl⟩
instance : TInfo Try.prog 9 1 16 [.string ⟨#[]⟩] := ⟨by kernel_rfl⟩
instance : TStr Try.prog 10 := ⟨by kernel_rfl⟩
instance : TSc Try.prog 10 := ⟨by kernel_rfl, by kernel_rfl⟩
instance : TInfo Try.prog 10 1 16 [.string ⟨#[]⟩] := ⟨by kernel_rfl⟩
instance : TStr Try.prog 11 := ⟨by kernel_rfl⟩
instance : TSc Try.prog 11 := ⟨by kernel_rfl, by kernel_rfl⟩
instance : TInfo Try.prog 11 1 16 [.string ⟨#[]⟩] := ⟨by kernel_rfl⟩
instance : TInt Try.prog 12 .u64 := ⟨by kernel_rfl⟩
instance : TSc Try.prog 12 := ⟨by kernel_rfl, by kernel_rfl⟩
instance : TInfo Try.prog 12 1 8 [.int .u64 0] := ⟨by kernel_rfl⟩
instance : TFld Try.prog 13 0 0 9 1 := ⟨by kernel_rfl, by decide⟩
instance : TFld Try.prog 13 1 1 12 1 := ⟨by kernel_rfl, by decide⟩
instance : TBuild Try.prog 13 [(0, 1), (1, 1)] := ⟨by kernel_rfl⟩
instance : TAg Try.prog 13 2 := ⟨by kernel_rfl, by kernel_rfl⟩
instance : TInfo Try.prog 13 2 24 [.string ⟨#[]⟩, .int .u64 0] := ⟨by kernel_rfl⟩
instance : TFld Try.prog 14 0 0 9 1 := ⟨by kernel_rfl, by decide⟩
instance : TFld Try.prog 14 1 1 12 1 := ⟨by kernel_rfl, by decide⟩
instance : TBuild Try.prog 14 [(0, 1), (1, 1)] := ⟨by kernel_rfl⟩
instance : TAg Try.prog 14 2 := ⟨by kernel_rfl, by kernel_rfl⟩
instance : TInfo Try.prog 14 2 24 [.string ⟨#[]⟩, .int .u64 0] := ⟨by kernel_rfl⟩
instance : TPtr Try.prog 15 118 := ⟨by kernel_rfl⟩
instance : TSc Try.prog 15 := ⟨by kernel_rfl, by kernel_rfl⟩
instance : TInfo Try.prog 15 1 8 [.pointer none] := ⟨by kernel_rfl⟩
instance : TPtr Try.prog 16 121 := ⟨by kernel_rfl⟩
instance : TSc Try.prog 16 := ⟨by kernel_rfl, by kernel_rfl⟩
instance : TInfo Try.prog 16 1 8 [.pointer none] := ⟨by kernel_rfl⟩
instance : TPtr Try.prog 17 130 := ⟨by kernel_rfl⟩
instance : TSc Try.prog 17 := ⟨by kernel_rfl, by kernel_rfl⟩
instance : TInfo Try.prog 17 1 8 [.pointer none] := ⟨by kernel_rfl⟩
instance : TFld Try.prog 18 0 0 17 1 := ⟨by kernel_rfl, by decide⟩
instance : TBuild Try.prog 18 [(0, 1)] := ⟨by kernel_rfl⟩
instance : TAg Try.prog 18 1 := ⟨by kernel_rfl, by kernel_rfl⟩
instance : TInfo Try.prog 18 1 8 [.pointer none] := ⟨by kernel_rfl⟩
instance : TFld Try.prog 19 0 0 17 1 := ⟨by kernel_rfl, by decide⟩
instance : TBuild Try.prog 19 [(0, 1)] := ⟨by kernel_rfl⟩
instance : TAg Try.prog 19 1 := ⟨by kernel_rfl, by kernel_rfl⟩
instance : TInfo Try.prog 19 1 8 [.pointer none] := ⟨by kernel_rfl⟩
instance : TSc Try.prog 20 := ⟨by kernel_rfl, by kernel_rfl⟩
instance : TInfo Try.prog 20 1 16 [.nilIface] := ⟨by kernel_rfl⟩
instance : TInt Try.prog 21 .i32 := ⟨by kernel_rfl⟩
instance : TSc Try.prog 21 := ⟨by kernel_rfl, by kernel_rfl⟩
instance : TInfo Try.prog 21 1 4 [.int .i32 0] := ⟨by kernel_rfl⟩
instance : TSlice Try.prog 22 39 := ⟨by kernel_rfl⟩
instance : TSc Try.prog 22 := ⟨by kernel_rfl, by kernel_rfl⟩
instance : TInfo Try.prog 22 1 24 [.slice none 0 0] := ⟨by kernel_rfl⟩
instance : TSlice Try.prog 23 3 := ⟨by kernel_rfl⟩
instance : TSc Try.prog 23 := ⟨by kernel_rfl, by kernel_rfl⟩
instance : TInfo Try.prog 23 1 24 [.slice none 0 0] := ⟨by kernel_rfl⟩
instance : TSc Try.prog 24 := ⟨by kernel_rfl, by kernel_rfl⟩
instance : TInfo Try.prog 24 1 8 [.nilFunc] := ⟨by kernel_rfl⟩
instance : TPtr Try.prog 25 85 := ⟨by kernel_rfl⟩
instance : TSc Try.prog 25 := ⟨by kernel_rfl, by kernel_rfl⟩
instance : TInfo Try.prog 25 1 8 [.pointer none] := ⟨by kernel_rfl⟩
instance : TSc Try.prog 26 := ⟨by kernel_rfl, by kernel_rfl⟩
instance : TInfo Try.prog 26 1 8 [.nilFunc] := ⟨by kernel_rfl⟩
instance : TSlice Try.prog 27 9 := ⟨by kernel_rfl⟩
instance : TSc Try.prog 27 := ⟨by kernel_rfl, by kernel_rfl⟩
instance : TInfo Try.prog 27 1 24 [.slice none 0 0] := ⟨by kernel_rfl⟩
instance : TSc Try.prog 28 := ⟨by kernel_rfl, by kernel_rfl⟩
instance : TInfo Try.prog 28 1 8 [.nilFunc] := ⟨by kernel_rfl⟩
instance : TSc Try.prog 29 := ⟨by kernel_rfl, by kernel_rfl⟩
instance : TInfo Try.prog 29 1 8 [.nilFunc] := ⟨by kernel_rfl⟩
instance : TSc Try.prog 30 := ⟨by kernel_rfl, by kernel_rfl⟩
instance : TInfo Try.prog 30 1 8 [.nilFunc] := ⟨by kernel_rfl⟩
instance : TSc Try.prog 31 := ⟨by kernel_rfl, by kernel_rfl⟩
instance : TInfo Try.prog 31 1 8 [.nilFunc] := ⟨by kernel_rfl⟩
instance : TInt Try.prog 32 .i64 := ⟨by kernel_rfl⟩
instance : TSc Try.prog 32 := ⟨by kernel_rfl, by kernel_rfl⟩
instance : TInfo Try.prog 32 1 8 [.int .i64 0] := ⟨by kernel_rfl⟩
instance : TSc Try.prog 33 := ⟨by kernel_rfl, by kernel_rfl⟩
instance : TInfo Try.prog 33 1 8 [.nilFunc] := ⟨by kernel_rfl⟩
instance : TSc Try.prog 34 := ⟨by kernel_rfl, by kernel_rfl⟩
instance : TInfo Try.prog 34 1 8 [.nilFunc] := ⟨by kernel_rfl⟩
instance : TSc Try.prog 35 := ⟨by kernel_rfl, by kernel_rfl⟩
instance : TInfo Try.prog 35 1 8 [.nilFunc] := ⟨by kernel_rfl⟩
instance : TSc Try.prog 36 := ⟨by kernel_rfl, by kernel_rfl⟩
instance : TInfo Try.prog 36 1 8 [.nilFunc] := ⟨by kernel_rfl⟩
instance : TSlice Try.prog 37 98 := ⟨by kernel_rfl⟩
instance : TSc Try.prog 37 := ⟨by kernel_rfl, by kernel_rfl⟩
instance : TInfo Try.prog 37 1 24 [.slice none 0 0] := ⟨by kernel_rfl⟩
instance : TFld Try.prog 38 0 0 3 1 := ⟨by kernel_rfl, by decide⟩
instance : TFld Try.prog 38 1 1 9 1 := ⟨by kernel_rfl, by decide⟩
instance : TFld Try.prog 38 2 2 3 1 := ⟨by kernel_rfl, by decide⟩
instance : TBuild Try.prog 38 [(0, 1), (1, 1), (2, 1)] := ⟨by kernel_rfl⟩
instance : TAg Try.prog 38 3 := ⟨by kernel_rfl, by kernel_rfl⟩
instance : TLeaf Try.prog 38 [.i .i64, .s, .i .i64] := ⟨by kernel_rfl, by kernel_rfl, by kernel_rfl⟩
instance : TInfo Try.prog 38 3 32 [.int .i64 0, .string ⟨#[]⟩, .int .i64 0] := ⟨by kernel_rfl⟩
instance : TFld Try.prog 39 0 0 3 1 := ⟨by kernel_rfl, by decide⟩
instance : TFld Try.prog 39 1 1 9 1 := ⟨by kernel_rfl, by decide⟩
instance : TFld Try.prog 39 2 2 3 1 := ⟨by kernel_rfl, by decide⟩
instance : TBuild Try.prog 39 [(0, 1), (1, 1), (2, 1)] := ⟨by kernel_rfl⟩
instance : TAg Try.prog 39 3 := ⟨by kernel_rfl, by kernel_rfl⟩
instance : TLeaf Try.prog 39 [.i .i64, .s, .i .i64] := ⟨by kernel_rfl, by kernel_rfl, by kernel_rfl⟩
instance : TInfo Try.prog 39 3 32 [.int .i64 0, .string ⟨#[]⟩, .int .i64 0] := ⟨by kernel_rfl⟩
instance : TSc Try.prog 40 := ⟨by kernel_rfl, by kernel_rfl⟩
instance : TSc Try.prog 41 := ⟨by kernel_rfl, by kernel_rfl⟩
instance : TInfo Try.prog 41 1 8 [.nilFunc] := ⟨by kernel_rfl⟩
instance : TSc Try.prog 42 := ⟨by kernel_rfl, by kernel_rfl⟩
instance : TInfo Try.prog 42 1 8 [.nilFunc] := ⟨by kernel_rfl⟩
instance : TSc Try.prog 43 := ⟨by kernel_rfl, by kernel_rfl⟩
instance : TSc Try.prog 44 := ⟨by kernel_rfl, by kernel_rfl⟩
instance : TInfo Try.prog 44 1 8 [.nilFunc] := ⟨by kernel_rfl⟩
instance : TSc Try.prog 45 := ⟨by kernel_rfl, by kernel_rfl⟩
instance : TInfo Try.prog 45 1 8 [.nilFunc] := ⟨by kernel_rfl⟩
instance : TSc Try.prog 46 := ⟨by kernel_rfl, by kernel_rfl⟩
instance : TInfo Try.prog 46 1 8 [.nilFunc] := ⟨by kernel_rfl⟩
instance : TSc Try.prog 47 := ⟨by kernel_rfl, by kernel_rfl⟩
instance : TInfo Try.prog 47 1 8 [.nilFunc] := ⟨by kernel_rfl⟩
instance : TMap Try.prog 48 9 3 := ⟨by kernel_rfl⟩
instance : TSc Try.prog 48 := ⟨by kernel_rfl, by kernel_rfl⟩
instance : TInfo Try.prog 48 1 8 [.map none] := ⟨by kernel_rfl⟩
instance : TSc Try.prog 49 := ⟨by kernel_rfl, by kernel_rfl⟩
instance : TSc Try.prog 50 := ⟨by kernel_rfl, by kernel_rfl⟩
instance : TInfo Try.prog 50 1 8 [.nilFunc] := ⟨by kernel_rfl⟩
instance : TSc Try.prog 51 := ⟨by kernel_rfl, by kernel_rfl⟩
instance : TInfo Try.prog 51 1 8 [.nilFunc] := ⟨by kernel_rfl⟩
instance : TSc Try.prog 52 := ⟨by kernel_rfl, by kernel_rfl⟩
instance : TInfo Try.prog 52 1 8 [.nilFunc] := ⟨by kernel_rfl⟩
instance : TPtr Try.prog 53 102 := ⟨by kernel_rfl⟩
instance : TSc Try.prog 53 := ⟨by kernel_rfl, by kernel_rfl⟩
instance : TInfo Try.prog 53 1 8 [.pointer none] := ⟨by kernel_rfl⟩
instance : TSc Try.prog 54 := ⟨by kernel_rfl, by kernel_rfl⟩
instance : TInfo Try.prog 54 1 8 [.nilFunc] := ⟨by kernel_rfl⟩
instance : TArr Try.prog 55 80 3 := ⟨by kernel_rfl⟩
instance : TAg Try.prog 55 80 := ⟨by kernel_rfl, by kernel_rfl⟩
instance : TLeaf Try.prog 55 [.i .i64, .i .i64, .i .i64, .i .i64, .i .i64, .i .i64, .i .i64, .i .i64, .i .i64, .i .i64, .i .i64, .i .i64, .i .i64, .i .i64, .i .i64, .i .i64, .i .i64, .i .i64, .i .i64, .i .i64, .i .i64, .i .i64, .i .i64, .i .i64, .i .i64, .i .i64, .i .i64, .i .i64, .i .i64, .i .i64, .i .i64, .i .i64, .i .i64, .i .i64, .i .i64, .i .i64, .i .i64, .i .i64, .i .i64, .i .i64, .i .i64, .i .i64, .i .i64, .i .i64, .i .i64, .i .i64, .i .i64, .i .i64, .i .i64, .i .i64, .i .i64, .i .i64, .i .i64, .i .i64, .i .i64, .i .i64, .i .i64, .i .i64, .i .i64, .i .i64, .i .i64, .i .i64, .i .i64, .i .i64, .i .i64, .i .i64, .i .i64, .i .i64, .i .i64, .i .i64, .i .i64, .i .i64, .i .i64, .i .i64, .i .i64, .i .i64, .i .i64, .i .i64, .i .i64, .i .i64] := ⟨by kernel_rfl, by kernel_rfl, by kernel_rfl⟩
instance : TInfo Try.prog 55 80 640 [.int .i64 0, .int .i64 0, .int .i64 0, .int .i64 0, .int .i64 0, .int .i64 0, .int .i64 0, .int .i64 0, .int .i64 0, .int .i64 0, .int .i64 0, .int .i64 0, .int .i64 0, .int .i64 0, .int .i64 0, .int .i64 0, .int .i64 0, .int .i64 0, .int .i64 0, .int .i64 0, .int .i64 0, .int .i64 0, .int .i64 0, .int .i64 0, .int .i64 0, .int .i64 0, .int .i64 0, .int .i64 0, .int .i64 0, .int .i64 0, .int .i64 0, .int .i64 0, .int .i64 0, .int .i64 0, .int .i64 0, .int .i64 0, .int .i64 0, .int .i64 0, .int .i64 0, .int .i64 0, .int .i64 0, .int .i64 0, .int .i64 0, .int .i64 0, .int .i64 0, .int .i64 0, .int .i64 0, .int .i64 0, .int .i64 0, .int .i64 0, .int .i64 0, .int .i64 0, .int .i64 0, .int .i64 0, .int .i64 0, .int .i64 0, .int .i64 0, .int .i64 0, .int .i64 0, .int .i64 0, .int .i64 0, .int .i64 0, .int .i64 0, .int .i64 0, .int .i64 0, .int .i64 0, .int .i64 0, .int .i64 0, .int .i64 0, .int .i64 0, .int .i64 0, .int .i64 0, .int .i64 0, .int .i64 0, .int .i64 0, .int .i64 0, .int .i64 0, .int .i64 0, .int .i64 0, .int .i64 0] := ⟨by kernel_rfl⟩
instance : TSc Try.prog 56 := ⟨by kernel_rfl, by kernel_rfl⟩
instance : TInfo Try.prog 56 1 8 [.nilFunc] := ⟨by kernel_rfl⟩
instance : TSlice Try.prog 57 5 := ⟨by kernel_rfl⟩
instance : TSc Try.prog 57 := ⟨by kernel_rfl, by kernel_rfl⟩
instance : TInfo Try.prog 57 1 24 [.slice none 0 0] := ⟨by kernel_rfl⟩
instance : TFld Try.prog 58 0 0 9 1 := ⟨by kernel_rfl, by decide⟩
instance : TFld Try.prog 58 1 1 9 1 := ⟨by kernel_rfl, by decide⟩
instance : TFld Try.prog 58 2 2 9 1 := ⟨by kernel_rfl, by decide⟩
instance : TBuild Try.prog 58 [(0, 1), (1, 1), (2, 1)] := ⟨by kernel_rfl⟩
instance : TAg Try.prog 58 3 := ⟨by kernel_rfl, by kernel_rfl⟩
instance : TLeaf Try.prog 58 [.s, .s, .s] := ⟨by kernel_rfl, by kernel_rfl, by kernel_rfl⟩
instance : TInfo Try.prog 58 3 48 [.string ⟨#[]⟩, .string ⟨#[]⟩, .string ⟨#[]⟩] := ⟨by kernel_rfl⟩
instance : TFld Try.prog 59 0 0 9 1 := ⟨by kernel_rfl, by decide⟩
instance : TFld Try.prog 59 1 1 9 1 := ⟨by kernel_rfl, by decide⟩
instance : TFld Try.prog 59 2 2 9 1 := ⟨by kernel_rfl, by decide⟩
instance : TBuild Try.prog 59 [(0, 1), (1, 1), (2, 1)] := ⟨by kernel_rfl⟩
instance : TAg Try.prog 59 3 := ⟨by kernel_rfl, by kernel_rfl⟩
instance : TLeaf Try.prog 59 [.s, .s, .s] := ⟨by kernel_rfl, by kernel_rfl, by kernel_rfl⟩
instance : TInfo Try.prog 59 3 48 [.string ⟨#[]⟩, .string ⟨#[]⟩, .string ⟨#[]⟩] := ⟨by kernel_rfl⟩
instance : TSc Try.prog 60 := ⟨by kernel_rfl, by kernel_rfl⟩
instance : TInfo Try.prog 60 1 8 [.nilFunc] := ⟨by kernel_rfl⟩
instance : TSc Try.prog 61 := ⟨by kernel_rfl, by kernel_rfl⟩
instance : TInfo Try.prog 61 1 8 [.nilFunc] := ⟨by kernel_rfl⟩
instance : TPtr Try.prog 62 55 := ⟨by kernel_rfl⟩
instance : TSc Try.prog 62 := ⟨by kernel_rfl, by kernel_rfl⟩
instance : TInfo Try.prog 62 1 8 [.pointer none] := ⟨by kernel_rfl⟩
instance : TSlice Try.prog 63 59 := ⟨by kernel_rfl⟩
instance : TSc Try.prog 63 := ⟨by kernel_rfl, by kernel_rfl⟩
instance : TInfo Try.prog 63 1 24 [.slice none 0 0] := ⟨by kernel_rfl⟩
instance : TSc Try.prog 64 := ⟨by kernel_rfl, by kernel_rfl⟩
instance : TInfo Try.prog 64 1 8 [.nilFunc] := ⟨by kernel_rfl⟩
instance : TSc Try.prog 65 := ⟨by kernel_rfl, by kernel_rfl⟩
instance : TInfo Try.prog 65 1 8 [.nilFunc] := ⟨by kernel_rfl⟩
instance : TSlice Try.prog 66 71 := ⟨by kernel_rfl⟩
instance : TSc Try.prog 66 := ⟨by kernel_rfl, by kernel_rfl⟩
instance : TInfo Try.prog 66 1 24 [.slice none 0 0] := ⟨by kernel_rfl⟩
instance : TSlice Try.prog 67 75 := ⟨by kernel_rfl⟩
instance : TSc Try.prog 67 := ⟨by kernel_rfl, by kernel_rfl⟩
instance : TInfo Try.prog 67 1 24 [.slice none 0 0] := ⟨by kernel_rfl⟩
instance : TFld Try.prog 68 0 0 9 1 := ⟨by kernel_rfl, by decide⟩
instance : TFld Try.prog 68 1 1 3 1 := ⟨by kernel_rfl, by decide⟩
instance : TFld Try.prog 68 2 2 67 1 := ⟨by kernel_rfl, by decide⟩
instance : TBuild Try.prog 68 [(0, 1), (1, 1), (2, 1)] := ⟨by kernel_rfl⟩
instance : TAg Try.prog 68 3 := ⟨by kernel_rfl, by kernel_rfl⟩
instance : TInfo Try.prog 68 3 48 [.string ⟨#[]⟩, .int .i64 0, .slice none 0 0] := ⟨by kernel_rfl⟩
instance : TFld Try.prog 69 0 0 9 1 := ⟨by kernel_rfl, by decide⟩
instance : TFld Try.prog 69 1 1 3 1 := ⟨by kernel_rfl, by decide⟩
instance : TFld Try.prog 69 2 2 67 1 := ⟨by kernel_rfl, by decide⟩
instance : TBuild Try.prog 69 [(0, 1), (1, 1), (2, 1)] := ⟨by kernel_rfl⟩
instance : TAg Try.prog 69 3 := ⟨by kernel_rfl, by kernel_rfl⟩
instance : TInfo Try.prog 69 3 48 [.string ⟨#[]⟩, .int .i64 0, .slice none 0 0] := ⟨by kernel_rfl⟩
instance : TFld Try.prog 70 0 0 3 1 := ⟨by kernel_rfl, by decide⟩
instance : TFld Try.prog 70 1 1 59 3 := ⟨by kernel_rfl, by decide⟩
instance : TBuild Try.prog 70 [(0, 1), (1, 3)] := ⟨by kernel_rfl⟩
instance : TAg Try.prog 70 4 := ⟨by kernel_rfl, by kernel_rfl⟩
instance : TLeaf Try.prog 70 [.i .i64, .s, .s, .s] := ⟨by kernel_rfl, by kernel_rfl, by kernel_rfl⟩
instance : TInfo Try.prog 70 4 56 [.int .i64 0, .string ⟨#[]⟩, .string ⟨#[]⟩, .string ⟨#[]⟩] := ⟨by kernel_rfl⟩
instance : TFld Try.prog 71 0 0 3 1 := ⟨by kernel_rfl, by decide⟩
instance : TFld Try.prog 71 1 1 59 3 := ⟨by kernel_rfl, by decide⟩
instance : TBuild Try.prog 71 [(0, 1), (1, 3)] := ⟨by kernel_rfl⟩
instance : TAg Try.prog 71 4 := ⟨by kernel_rfl, by kernel_rfl⟩
instance : TLeaf Try.prog 71 [.i .i64, .s, .s, .s] := ⟨by kernel_rfl, by kernel_rfl, by kernel_rfl⟩
instance : TInfo Try.prog 71 4 56 [.int .i64 0, .string ⟨#[]⟩, .string ⟨#[]⟩, .string ⟨#[]⟩] := ⟨by kernel_rfl⟩
instance : TSc Try.prog 72 := ⟨by kernel_rfl, by kernel_rfl⟩
instance : TSc Try.prog 73 := ⟨by kernel_rfl, by kernel_rfl⟩
instance : TInfo Try.prog 73 1 8 [.nilFunc] := ⟨by kernel_rfl⟩
instance : TFld Try.prog 74 0 0 9 1 := ⟨by kernel_rfl, by decide⟩
instance : TFld Try.prog 74 1 1 9 1 := ⟨by kernel_rfl, by decide⟩
instance : TFld Try.prog 74 2 2 9 1 := ⟨by kernel_rfl, by decide⟩
instance : TFld Try.prog 74 3 3 3 1 := ⟨by kernel_rfl, by decide⟩
instance : TBuild Try.prog 74 [(0, 1), (1, 1), (2, 1), (3, 1)] := ⟨by kernel_rfl⟩
instance : TAg Try.prog 74 4 := ⟨by kernel_rfl, by kernel_rfl⟩
instance : TLeaf Try.prog 74 [.s, .s, .s, .i .i64] := ⟨by kernel_rfl, by kernel_rfl, by kernel_rfl⟩
instance : TInfo Try.prog 74 4 56 [.string ⟨#[]⟩, .string ⟨#[]⟩, .string ⟨#[]⟩, .int .i64 0] := ⟨by kernel_rfl⟩
instance : TFld Try.prog 75 0 0 9 1 := ⟨by kernel_rfl, by decide⟩
instance : TFld Try.prog 75 1 1 9 1 := ⟨by kernel_rfl, by decide⟩
instance : TFld Try.prog 75 2 2 9 1 := ⟨by kernel_rfl, by decide⟩
instance : TFld Try.prog 75 3 3 3 1 := ⟨by kernel_rfl, by decide⟩
instance : TBuild Try.prog 75 [(0, 1), (1, 1), (2, 1), (3, 1)] := ⟨by kernel_rfl⟩
instance : TAg Try.prog 75 4 := ⟨by kernel_rfl, by kernel_rfl⟩
instance : TLeaf Try.prog 75 [.s, .s, .s, .i .i64] := ⟨by kernel_rfl, by kernel_rfl, by kernel_rfl⟩
instance : TInfo Try.prog 75 4 56 [.string ⟨#[]⟩, .string ⟨#[]⟩, .string ⟨#[]⟩, .int .i64 0] := ⟨by kernel_rfl⟩
instance : TSc Try.prog 76 := ⟨by kernel_rfl, by kernel_rfl⟩
instance : TSc Try.prog 77 := ⟨by kernel_rfl, by kernel_rfl⟩
instance : TInfo Try.prog 77 1 8 [.nilFunc] := ⟨by kernel_rfl⟩
instance : TSc Try.prog 78 := ⟨by kernel_rfl, by kernel_rfl⟩
instance : TInfo Try.prog 78 1 8 [.nilFunc] := ⟨by kernel_rfl⟩
instance : TSc Try.prog 79 := ⟨by kernel_rfl, by kernel_rfl⟩
instance : TInfo Try.prog 79 1 8 [.nilFunc] := ⟨by kernel_rfl⟩
instance : TSc Try.prog 80 := ⟨by kernel_rfl, by kernel_rfl⟩
instance : TInfo Try.prog 80 1 8 [.nilFunc] := ⟨by kernel_rfl⟩
instance : TSlice Try.prog 81 88 := ⟨by kernel_rfl⟩
instance : TSc Try.prog 81 := ⟨by kernel_rfl, by kernel_rfl⟩
instance : TInfo Try.prog 81 1 24 [.slice none 0 0] := ⟨by kernel_rfl⟩
instance : TSlice Try.prog 82 88 := ⟨by kernel_rfl⟩
instance : TSc Try.prog 82 := ⟨by kernel_rfl, by kernel_rfl⟩
instance : TInfo Try.prog 82 1 24 [.slice none 0 0] := ⟨by kernel_rfl⟩
instance : TMap Try.prog 83 9 88 := ⟨by kernel_rfl⟩
instance : TSc Try.prog 83 := ⟨by kernel_rfl, by kernel_rfl⟩
instance : TInfo Try.prog 83 1 8 [.map none] := ⟨by kernel_rfl⟩
instance : TFld Try.prog 84 0 0 82 1 := ⟨by kernel_rfl, by decide⟩
instance : TFld Try.prog 84 1 1 83 1 := ⟨by kernel_rfl, by decide⟩
instance : TFld Try.prog 84 2 2 3 1 := ⟨by kernel_rfl, by decide⟩
instance : TBuild Try.prog 84 [(0, 1), (1, 1), (2, 1)] := ⟨by kernel_rfl⟩
instance : TAg Try.prog 84 3 := ⟨by kernel_rfl, by kernel_rfl⟩
instance : TInfo Try.prog 84 3 40 [.slice none 0 0, .map none, .int .i64 0] := ⟨by kernel_rfl⟩
instance : TFld Try.prog 85 0 0 82 1 := ⟨by kernel_rfl, by decide⟩
instance : TFld Try.prog 85 1 1 83 1 := ⟨by kernel_rfl, by decide⟩
instance : TFld Try.prog 85 2 2 3 1 := ⟨by kernel_rfl, by decide⟩
instance : TBuild Try.prog 85 [(0, 1), (1, 1), (2, 1)] := ⟨by kernel_rfl⟩
instance : TAg Try.prog 85 3 := ⟨by kernel_rfl, by kernel_rfl⟩
instance : TInfo Try.prog 85 3 40 [.slice none 0 0, .map none, .int .i64 0] := ⟨by kernel_rfl⟩
instance : TFld Try.prog 86 0 0 9 1 := ⟨by kernel_rfl, by decide⟩
instance : TFld Try.prog 86 1 1 3 1 := ⟨by kernel_rfl, by decide⟩
instance : TFld Try.prog 86 2 2 3 1 := ⟨by kernel_rfl, by decide⟩
instance : TFld Try.prog 86 3 3 3 1 := ⟨by kernel_rfl, by decide⟩
instance : TBuild Try.prog 86 [(0, 1), (1, 1), (2, 1), (3, 1)] := ⟨by kernel_rfl⟩
instance : TAg Try.prog 86 4 := ⟨by kernel_rfl, by kernel_rfl⟩
instance : TLeaf Try.prog 86 [.s, .i .i64, .i .i64, .i .i64] := ⟨by kernel_rfl, by kernel_rfl, by kernel_rfl⟩
instance : TInfo Try.prog 86 4 40 [.string ⟨#[]⟩, .int .i64 0, .int .i64 0, .int .i64 0] := ⟨by kernel_rfl⟩
instance : TFld Try.prog 87 0 0 9 1 := ⟨by kernel_rfl, by decide⟩
instance : TFld Try.prog 87 1 1 3 1 := ⟨by kernel_rfl, by decide⟩
instance : TFld Try.prog 87 2 2 3 1 := ⟨by kernel_rfl, by decide⟩
instance : TFld Try.prog 87 3 3 3 1 := ⟨by kernel_rfl, by decide⟩
instance : TBuild Try.prog 87 [(0, 1), (1, 1), (2, 1), (3, 1)] := ⟨by kernel_rfl⟩
instance : TAg Try.prog 87 4 := ⟨by kernel_rfl, by kernel_rfl⟩
instance : TLeaf Try.prog 87 [.s, .i .i64, .i .i64, .i .i64] := ⟨by kernel_rfl, by kernel_rfl, by kernel_rfl⟩
instance : TInfo Try.prog 87 4 40 [.string ⟨#[]⟩, .int .i64 0, .int .i64 0, .int .i64 0] := ⟨by kernel_rfl⟩
instance : TPtr Try.prog 88 87 := ⟨by kernel_rfl⟩
instance : TSc Try.prog 88 := ⟨by kernel_rfl, by kernel_rfl⟩
instance : TInfo Try.prog 88 1 8 [.pointer none] := ⟨by kernel_rfl⟩
instance : TSc Try.prog 89 := ⟨by kernel_rfl, by kernel_rfl⟩
instance : TInfo Try.prog 89 1 8 [.nilFunc] := ⟨by kernel_rfl⟩
instance : TPtr Try.prog 90 82 := ⟨by kernel_rfl⟩
instance : TSc Try.prog 90 := ⟨by kernel_rfl, by kernel_rfl⟩
instance : TInfo Try.prog 90 1 8 [.pointer none] := ⟨by kernel_rfl⟩
instance : TSc Try.prog 91 := ⟨by kernel_rfl, by kernel_rfl⟩
instance : TSc Try.prog 92 := ⟨by kernel_rfl, by kernel_rfl⟩
instance : TInfo Try.prog 92 1 8 [.nilFunc] := ⟨by kernel_rfl⟩
instance : TSc Try.prog 93 := ⟨by kernel_rfl, by kernel_rfl⟩
instance : TInfo Try.prog 93 1 8 [.nilFunc] := ⟨by kernel_rfl⟩
instance : TSc Try.prog 94 := ⟨by kernel_rfl, by kernel_rfl⟩
instance : TInfo Try.prog 94 1 8 [.nilFunc] := ⟨by kernel_rfl⟩
instance : TSc Try.prog 95 := ⟨by kernel_rfl, by kernel_rfl⟩
instance : TInfo Try.prog 95 1 8 [.nilFunc] := ⟨by kernel_rfl⟩
instance : TSc Try.prog 96 := ⟨by kernel_rfl, by kernel_rfl⟩
instance : TInfo Try.prog 96 1 8 [.nilFunc] := ⟨by kernel_rfl⟩
instance : TFld Try.prog 97 0 0 9 1 := ⟨by kernel_rfl, by decide⟩
instance : TFld Try.prog 97 1 1 3 1 := ⟨by kernel_rfl, by decide⟩
instance : TBuild Try.prog 97 [(0, 1), (1, 1)] := ⟨by kernel_rfl⟩
instance : TAg Try.prog 97 2 := ⟨by kernel_rfl, by kernel_rfl⟩
instance : TLeaf Try.prog 97 [.s, .i .i64] := ⟨by kernel_rfl, by kernel_rfl, by kernel_rfl⟩
instance : TInfo Try.prog 97 2 24 [.string ⟨#[]⟩, .int .i64 0] := ⟨by kernel_rfl⟩
instance : TFld Try.prog 98 0 0 9 1 := ⟨by kernel_rfl, by decide⟩
instance : TFld Try.prog 98 1 1 3 1 := ⟨by kernel_rfl, by decide⟩
instance : TBuild Try.prog 98 [(0, 1), (1, 1)] := ⟨by kernel_rfl⟩
instance : TAg Try.prog 98 2 := ⟨by kernel_rfl, by kernel_rfl⟩
instance : TLeaf Try.prog 98 [.s, .i .i64] := ⟨by kernel_rfl, by kernel_rfl, by kernel_rfl⟩
instance : TInfo Try.prog 98 2 24 [.string ⟨#[]⟩, .int .i64 0] := ⟨by kernel_rfl⟩
instance : TSc Try.prog 99 := ⟨by kernel_rfl, by kernel_rfl⟩
instance : TInfo Try.prog 99 1 8 [.nilFunc] := ⟨by kernel_rfl⟩
instance : TMap Try.prog 100 9 59 := ⟨by kernel_rfl⟩
instance : TSc Try.prog 100 := ⟨by kernel_rfl, by kernel_rfl⟩
instance : TInfo Try.prog 100 1 8 [.map none] := ⟨by kernel_rfl⟩
instance : TFld Try.prog 101 0 0 9 1 := ⟨by kernel_rfl, by decide⟩
instance : TFld Try.prog 101 1 1 3 1 := ⟨by kernel_rfl, by decide⟩
instance : TFld Try.prog 101 2 2 3 1 := ⟨by kernel_rfl, by decide⟩
instance : TFld Try.prog 101 3 3 25 1 := ⟨by kernel_rfl, by decide⟩
instance : TFld Try.prog 101 4 4 100 1 := ⟨by kernel_rfl, by decide⟩
instance : TBuild Try.prog 101 [(0, 1), (1, 1), (2, 1), (3, 1), (4, 1)] := ⟨by kernel_rfl⟩
instance : TAg Try.prog 101 5 := ⟨by kernel_rfl, by kernel_rfl⟩
instance : TInfo Try.prog 101 5 48 [.string ⟨#[]⟩, .int .i64 0, .int .i64 0, .pointer none, .map none] := ⟨by kernel_rfl⟩
instance : TFld Try.prog 102 0 0 9 1 := ⟨by kernel_rfl, by decide⟩
instance : TFld Try.prog 102 1 1 3 1 := ⟨by kernel_rfl, by decide⟩
instance : TFld Try.prog 102 2 2 3 1 := ⟨by kernel_rfl, by decide⟩
instance : TFld Try.prog 102 3 3 25 1 := ⟨by kernel_rfl, by decide⟩
instance : TFld Try.prog 102 4 4 100 1 := ⟨by kernel_rfl, by decide⟩
instance : TBuild Try.prog 102 [(0, 1), (1, 1), (2, 1), (3, 1), (4, 1)] := ⟨by kernel_rfl⟩
instance : TAg Try.prog 102 5 := ⟨by kernel_rfl, by kernel_rfl⟩
instance : TInfo Try.prog 102 5 48 [.string ⟨#[]⟩, .int .i64 0, .int .i64 0, .pointer none, .map none] := ⟨by kernel_rfl⟩
instance : TSc Try.prog 103 := ⟨by kernel_rfl, by kernel_rfl⟩
instance : TInfo Try.prog 103 1 8 [.nilFunc] := ⟨by kernel_rfl⟩
instance : TSc Try.prog 104 := ⟨by kernel_rfl, by kernel_rfl⟩
instance : TInfo Try.prog 104 1 8 [.nilFunc] := ⟨by kernel_rfl⟩
instance : TInt Try.prog 105 .u64 := ⟨by kernel_rfl⟩
instance : TSc Try.prog 105 := ⟨by kernel_rfl, by kernel_rfl⟩
instance : TInfo Try.prog 105 1 8 [.int .u64 0] := ⟨by kernel_rfl⟩
instance : TSc Try.prog 106 := ⟨by kernel_rfl, by kernel_rfl⟩
instance : TInfo Try.prog 106 1 8 [.nilFunc] := ⟨by kernel_rfl⟩
instance : TSc Try.prog 107 := ⟨by kernel_rfl, by kernel_rfl⟩
instance : TInfo Try.prog 107 1 16 [.nilIface] := ⟨by kernel_rfl⟩
instance : TSc Try.prog 108 := ⟨by kernel_rfl, by kernel_rfl⟩
instance : TInfo Try.prog 108 1 16 [.nilIface] := ⟨by kernel_rfl⟩
instance : TSc Try.prog 109 := ⟨by kernel_rfl, by kernel_rfl⟩
instance : TInfo Try.prog 109 1 8 [.nilFunc] := ⟨by kernel_rfl⟩
instance : TSc Try.prog 110 := ⟨by kernel_rfl, by kernel_rfl⟩
instance : TInfo Try.prog 110 1 8 [.nilFunc] := ⟨by kernel_rfl⟩
instance : TSc Try.prog 111 := ⟨by kernel_rfl, by kernel_rfl⟩
instance : TInfo Try.prog 111 1 8 [.nilFunc] := ⟨by kernel_rfl⟩
instance : TSc Try.prog 112 := ⟨by kernel_rfl, by kernel_rfl⟩
instance : TInfo Try.prog 112 1 8 [.nilFunc] := ⟨by kernel_rfl⟩
instance : TSc Try.prog 113 := ⟨by kernel_rfl, by kernel_rfl⟩
instance : TInfo Try.prog 113 1 8 [.nilFunc] := ⟨by kernel_rfl⟩
instance : TSc Try.prog 114 := ⟨by kernel_rfl, by kernel_rfl⟩
instance : TInfo Try.prog 114 1 8 [.nilFunc] := ⟨by kernel_rfl⟩
instance : TArr Try.prog 115 8 5 := ⟨by kernel_rfl⟩
instance : TAg Try.prog 115 8 := ⟨by kernel_rfl, by kernel_rfl⟩
instance : TLeaf Try.prog 115 [.i .u8, .i .u8, .i .u8, .i .u8, .i .u8, .i .u8, .i .u8, .i .u8] := ⟨by kernel_rfl, by kernel_rfl, by kernel_rfl⟩
instance : TInfo Try.prog 115 8 8 [.int .u8 0, .int .u8 0, .int .u8 0, .int .u8 0, .int .u8 0, .int .u8 0, .int .u8 0, .int .u8 0] := ⟨by kernel_rfl⟩
instance : TSc Try.prog 116 := ⟨by kernel_rfl, by kernel_rfl⟩
instance : TInfo Try.prog 116 1 8 [.nilFunc] := ⟨by kernel_rfl⟩
instance : TFld Try.prog 117 0 0 17 1 := ⟨by kernel_rfl, by decide⟩
instance : TFld Try.prog 117 1 1 17 1 := ⟨by kernel_rfl, by decide⟩
instance : TFld Try.prog 117 2 2 17 1 := ⟨by kernel_rfl, by decide⟩
instance : TFld Try.prog 117 3 3 9 1 := ⟨by kernel_rfl, by decide⟩
instance : TBuild Try.prog 117 [(0, 1), (1, 1), (2, 1), (3, 1)] := ⟨by kernel_rfl⟩
instance : TAg Try.prog 117 4 := ⟨by kernel_rfl, by kernel_rfl⟩
instance : TInfo Try.prog 117 4 40 [.pointer none, .pointer none, .pointer none, .string ⟨#[]⟩] := ⟨by kernel_rfl⟩
instance : TFld Try.prog 118 0 0 17 1 := ⟨by kernel_rfl, by decide⟩
instance : TFld Try.prog 118 1 1 17 1 := ⟨by kernel_rfl, by decide⟩
instance : TFld Try.prog 118 2 2 17 1 := ⟨by kernel_rfl, by decide⟩
instance : TFld Try.prog 118 3 3 9 1 := ⟨by kernel_rfl, by decide⟩
instance : TBuild Try.prog 118 [(0, 1), (1, 1), (2, 1), (3, 1)] := ⟨by kernel_rfl⟩
instance : TAg Try.prog 118 4 := ⟨by kernel_rfl, by kernel_rfl⟩
instance : TInfo Try.prog 118 4 40 [.pointer none, .pointer none, .pointer none, .string ⟨#[]⟩] := ⟨by kernel_rfl⟩
instance : TArr Try.prog 119 0 16 := ⟨by kernel_rfl⟩
instance : TBuild Try.prog 120 [(0, 0)] := ⟨by kernel_rfl⟩
instance : TBuild Try.prog 121 [(0, 0)] := ⟨by kernel_rfl⟩
instance : TInt Try.prog 122 .u32 := ⟨by kernel_rfl⟩
instance : TSc Try.prog 122 := ⟨by kernel_rfl, by kernel_rfl⟩
instance : TInfo Try.prog 122 1 4 [.int .u32 0] := ⟨by kernel_rfl⟩
instance : TInt Try.prog 123 .u8 := ⟨by kernel_rfl⟩
instance : TSc Try.prog 123 := ⟨by kernel_rfl, by kernel_rfl⟩
instance : TInfo Try.prog 123 1 1 [.int .u8 0] := ⟨by kernel_rfl⟩
instance : TInt Try.prog 124 .u8 := ⟨by kernel_rfl⟩
instance : TSc Try.prog 124 := ⟨by kernel_rfl, by kernel_rfl⟩
instance : TInfo Try.prog 124 1 1 [.int .u8 0] := ⟨by kernel_rfl⟩
instance : TSc Try.prog 125 := ⟨by kernel_rfl, by kernel_rfl⟩
instance : TInfo Try.prog 125 1 8 [.nilFunc] := ⟨by kernel_rfl⟩
instance : TPtr Try.prog 126 5 := ⟨by kernel_rfl⟩
instance : TSc Try.prog 126 := ⟨by kernel_rfl, by kernel_rfl⟩
instance : TInfo Try.prog 126 1 8 [.pointer none] := ⟨by kernel_rfl⟩
instance : TInt Try.prog 127 .i32 := ⟨by kernel_rfl⟩
instance : TSc Try.prog 127 := ⟨by kernel_rfl, by kernel_rfl⟩
instance : TInfo Try.prog 127 1 4 [.int .i32 0] := ⟨by kernel_rfl⟩
instance : TInt Try.prog 128 .i32 := ⟨by kernel_rfl⟩
instance : TSc Try.prog 128 := ⟨by kernel_rfl, by kernel_rfl⟩
instance : TInfo Try.prog 128 1 4 [.int .i32 0] := ⟨by kernel_rfl⟩
instance : TFld Try.prog 129 0 0 12 1 := ⟨by kernel_rfl, by decide⟩
instance : TFld Try.prog 129 1 1 12 1 := ⟨by kernel_rfl, by decide⟩
instance : TFld Try.prog 129 2 2 122 1 := ⟨by kernel_rfl, by decide⟩
instance : TFld Try.prog 129 3 3 123 1 := ⟨by kernel_rfl, by decide⟩
instance : TFld Try.prog 129 4 4 5 1 := ⟨by kernel_rfl, by decide⟩
instance : TFld Try.prog 129 5 5 5 1 := ⟨by kernel_rfl, by decide⟩
instance : TFld Try.prog 129 6 6 124 1 := ⟨by kernel_rfl, by decide⟩
instance : TFld Try.prog 129 7 7 125 1 := ⟨by kernel_rfl, by decide⟩
instance : TFld Try.prog 129 8 8 126 1 := ⟨by kernel_rfl, by decide⟩
instance : TFld Try.prog 129 9 9 127 1 := ⟨by kernel_rfl, by decide⟩
instance : TFld Try.prog 129 10 10 128 1 := ⟨by kernel_rfl, by decide⟩
instance : TBuild Try.prog 129 [(0, 1), (1, 1), (2, 1), (3, 1), (4, 1), (5, 1), (6, 1), (7, 1), (8, 1), (9, 1), (10, 1)] := ⟨by kernel_rfl⟩
instance : TAg Try.prog 129 11 := ⟨by kernel_rfl, by kernel_rfl⟩
instance : TInfo Try.prog 129 11 48 [.int .u64 0, .int .u64 0, .int .u32 0, .int .u8 0, .int .u8 0, .int .u8 0, .int .u8 0, .nilFunc, .pointer none, .int .i32 0, .int .i32 0] := ⟨by kernel_rfl⟩
instance : TFld Try.prog 130 0 0 12 1 := ⟨by kernel_rfl, by decide⟩
instance : TFld Try.prog 130 1 1 12 1 := ⟨by kernel_rfl, by decide⟩
instance : TFld Try.prog 130 2 2 122 1 := ⟨by kernel_rfl, by decide⟩
instance : TFld Try.prog 130 3 3 123 1 := ⟨by kernel_rfl, by decide⟩
instance : TFld Try.prog 130 4 4 5 1 := ⟨by kernel_rfl, by decide⟩
instance : TFld Try.prog 130 5 5 5 1 := ⟨by kernel_rfl, by decide⟩
instance : TFld Try.prog 130 6 6 124 1 := ⟨by kernel_rfl, by decide⟩
instance : TFld Try.prog 130 7 7 125 1 := ⟨by kernel_rfl, by decide⟩
instance : TFld Try.prog 130 8 8 126 1 := ⟨by kernel_rfl, by decide⟩
instance : TFld Try.prog 130 9 9 127 1 := ⟨by kernel_rfl, by decide⟩
instance : TFld Try.prog 130 10 10 128 1 := ⟨by kernel_rfl, by decide⟩
instance : TBuild Try.prog 130 [(0, 1), (1, 1), (2, 1), (3, 1), (4, 1), (5, 1), (6, 1), (7, 1), (8, 1), (9, 1), (10, 1)] := ⟨by kernel_rfl⟩
instance : TAg Try.prog 130 11 := ⟨by kernel_rfl, by kernel_rfl⟩
instance : TInfo Try.prog 130 11 48 [.int .u64 0, .int .u64 0, .int .u32 0, .int .u8 0, .int .u8 0, .int .u8 0, .int .u8 0, .nilFunc, .pointer none, .int .i32 0, .int .i32 0] := ⟨by kernel_rfl⟩
instance : TSc Try.prog 131 := ⟨by kernel_rfl, by kernel_rfl⟩
instance : TInfo Try.prog 131 1 8 [.pointer none] := ⟨by kernel_rfl⟩
instance : TFunc Try.prog 2 := ⟨by kernel_rfl⟩
instance : TFunc Try.prog 3 := ⟨by kernel_rfl⟩
instance : TFunc Try.prog 4 := ⟨by kernel_rfl⟩
instance : TFunc Try.prog 5 := ⟨by kernel_rfl⟩
instance : TFunc Try.prog 6 := ⟨by kernel_rfl⟩
instance : TFunc Try.prog 7 := ⟨by kernel_rfl⟩
instance : TFunc Try.prog 8 := ⟨by kernel_rfl⟩
instance : TFunc Try.prog 9 := ⟨by kernel_rfl⟩
instance : TFunc Try.prog 10 := ⟨by kernel_rfl⟩
instance : TFunc Try.prog 11 := ⟨by kernel_rfl⟩
instance : TFunc Try.prog 12 := ⟨by kernel_rfl⟩
instance : TFunc Try.prog 13 := ⟨by kernel_rfl⟩
instance : TFunc Try.prog 14 := ⟨by kernel_rfl⟩
instance : TFunc Try.prog 15 := ⟨by kernel_rfl⟩
instance : TFunc Try.prog 16 := ⟨by kernel_rfl⟩
instance : TFunc Try.prog 17 := ⟨by kernel_rfl⟩
instance : TFunc Try.prog 18 := ⟨by kernel_rfl⟩
instance : TFunc Try.prog 19 := ⟨by kernel_rfl⟩
instance : TFunc Try.prog 20 := ⟨by kernel_rfl⟩
instance : TFunc Try.prog 21 := ⟨by kernel_rfl⟩
instance : TFunc Try.prog 22 := ⟨by kernel_rfl⟩
instance : TFunc Try.prog 23 := ⟨by kernel_rfl⟩
instance : TFunc Try.prog 24 := ⟨by kernel_rfl⟩
instance : TFunc Try.prog 25 := ⟨by kernel_rfl⟩
instance : TFunc Try.prog 26 := ⟨by kernel_rfl⟩
instance : TFunc Try.prog 27 := ⟨by kernel_rfl⟩
instance : TFunc Try.prog 28 := ⟨by kernel_rfl⟩
instance : TFunc Try.prog 29 := ⟨by kernel_rfl⟩
instance : TFunc Try.prog 30 := ⟨by kernel_rfl⟩
instance : TFunc Try.prog 31 := ⟨by kernel_rfl⟩
instance : TFunc Try.prog 32 := ⟨by kernel_rfl⟩
instance : TFunc Try.prog 33 := ⟨by kernel_rfl⟩
instance : TFunc Try.prog 34 := ⟨by kernel_rfl⟩
instance : TFunc Try.prog 35 := ⟨by kernel_rfl⟩
instance : TFunc Try.prog 36 := ⟨by kernel_rfl⟩
instance : TFunc Try.prog 37 := ⟨by kernel_rfl⟩
instance : TFunc Try.prog 38 := ⟨by kernel_rfl⟩
instance : TFunc Try.prog 39 := ⟨by kernel_rfl⟩
instance : TFunc Try.prog 40 := ⟨by kernel_rfl⟩
instance : TFunc Try.prog 41 := ⟨by kernel_rfl⟩
instance : TFunc Try.prog 42 := ⟨by kernel_rfl⟩
instance : TFunc Try.prog 43 := ⟨by kernel_rfl⟩
instance : TFunc Try.prog 44 := ⟨by kernel_rfl⟩
instance : TFunc Try.prog 45 := ⟨by kernel_rfl⟩
instance : TFunc Try.prog 46 := ⟨by kernel_rfl⟩
instance : TFunc Try.prog 47 := ⟨by kernel_rfl⟩
instance : TFunc Try.prog 48 := ⟨by kernel_rfl⟩
instance : TFunc Try.prog 49 := ⟨by kernel_rfl⟩
instance : TFunc Try.prog 67 := ⟨by kernel_rfl⟩
instance : TFunc Try.prog 68 := ⟨by kernel_rfl⟩
instance : TFunc Try.prog 69 := ⟨by kernel_rfl⟩
instance : TFunc Try.prog 70 := ⟨by kernel_rfl⟩
instance : TFunc Try.prog 71 := ⟨by kernel_rfl⟩
instance globs : Gl Try.prog := ⟨[]⟩
theorem follows : Try.prog.follows .mixedOrders = true := by kernel_rfl
end Go.Proofs.Ytmkicbphbegjbaa
namespace Go.Proofs.Ytmkicbphbegjbaa
open Go Go.Sse Go.ChangeShapes Go.WideShapes Go.ChangeAt Go.RowKit
set_option linter.unusedVariables false
set_option linter.unusedSimpArgs false
abbrev Z0 : Nat → Prop := fun _ => False
structure Rd (P : Program) (T : TypeId) (α : Type) where
  enc : α → List SV
  sz : Nat
  dflt : α
  good : α → Prop
  bulk : α → Nat
  cells : P.cellsOf T = sz
  len : ∀ a, (enc a).length = sz
  read : ∀ {H : Type} {en : TypeId × Value → H} {w : World} {base : Nat} {sp : Nat → Bool} {held : Bool} {fuel : Nat} {cs : List Value} {x : DataW H × List MemPlace},
    DataW.trod en P w base sp held fuel T cs = some x → ∃ a, good a ∧ bulk a ≤ Rows.uptoBulk x.1 ∧ cs.length = sz ∧ (∀ c ∈ cs, c.oneCell' = true) ∧ ∀ j, j < sz → Rel Z0 w ((enc a).getD j .any) (cs.getD j undef)
section
variable {P : Program} {T E : TypeId} {α β : Type}
def Rd.int {k : IntKind} (h : P.underlying T = some (.int k)) (hc : P.cellsOf T = 1) : Rd P T Int where
  enc n := [.val (.int k n)]
  sz := 1
  dflt := 0
  good n := (Lit.int k n).wf = true
  bulk _ := 1
  cells := hc
  len _ := rfl
  read := by
    intro H en w base sp held fuel cs x hx
    obtain ⟨n, rfl, rfl, hw⟩ := DataW.trod_int h hx
    refine ⟨n, hw, by simp [Rows.uptoBulk], rfl, by simp [Value.oneCell'], fun j hj => ?_⟩
    obtain rfl : j = 0 := by omega
    exact .val _
def Rd.bool (h : P.underlying T = some .bool) (hc : P.cellsOf T = 1) : Rd P T Bool where
  enc b := [.val (.bool b)]
  sz := 1
  dflt := false
  good _ := True
  bulk _ := 1
  cells := hc
  len _ := rfl
  read := by
    intro H en w base sp held fuel cs x hx
    obtain ⟨n, rfl, rfl⟩ := DataW.trod_bool h hx
    refine ⟨n, trivial, by simp [Rows.uptoBulk], rfl, by simp [Value.oneCell'], fun j hj => ?_⟩
    obtain rfl : j = 0 := by omega
    exact .val _
def Rd.str (h : P.underlying T = some .string) (hc : P.cellsOf T = 1) : Rd P T (List UInt8) where
  enc s := [Sse.str s]
  sz := 1
  dflt := []
  good s := s.length ≤ maxLen
  bulk s := s.length + 1
  cells := hc
  len _ := rfl
  read := by
    intro H en w base sp held fuel cs x hx
    obtain ⟨s, rfl, rfl, hw⟩ := DataW.trod_string h hx
    have hl : s.data.toList.length = s.size := Array.length_toList
    refine ⟨s.data.toList, by rw [hl]; exact hw, by simp only [Rows.uptoBulk]; exact Nat.le_refl _, rfl, by simp [Value.oneCell'], fun j hj => ?_⟩
    obtain rfl : j = 0 := by omega
    have e : Sse.str s.data.toList = .val (.string s) := rfl
    simp only [List.getD_cons_zero, e]
    exact .val _
theorem exists_list {d : α} {p : Nat → α → Prop} (n : Nat) (h : ∀ i, i < n → ∃ a, p i a) : ∃ l : List α, l.length = n ∧ ∀ i, i < n → p i (l.getD i d) := by
  induction n with
  | zero => exact ⟨[], rfl, fun i hi => by omega⟩
  | succ n ih =>
    obtain ⟨l, hl, hp⟩ := ih fun i hi => h i (by omega)
    obtain ⟨a, ha⟩ := h n (by omega)
    refine ⟨l ++ [a], by simp [hl], fun i hi => ?_⟩
    rw [List.getD_eq_getElem?_getD]
    by_cases hi' : i < n
    · rw [List.getElem?_append_left (by omega)]
      have := hp i hi'
      rwa [List.getD_eq_getElem?_getD] at this
    · obtain rfl : i = n := by omega
      rw [List.getElem?_append_right (by omega), hl, Nat.sub_self]
      exact ha
theorem bulkAll_le {H : Type} (f : α → Nat) (d : α) : ∀ (l : List α) (xs : List (DataW H)), l.length = xs.length → (∀ i, i < l.length → f (l.getD i d) ≤ Rows.uptoBulk (xs.getD i .nil)) → (l.map f).sum ≤ Rows.uptoBulkAll xs
  | [], [], _, _ => by simp
  | a :: l, x :: xs, hl, h => by
    have h0 := h 0 (by simp)
    have hr := bulkAll_le f d l xs (by simpa using hl) fun i hi => by simpa using h (i + 1) (by simpa using hi)
    simp only [List.map_cons, List.sum_cons, Rows.uptoBulkAll]
    simp only [List.getD_cons_zero] at h0
    omega
theorem getD_mem_all {p : α → Prop} {d : α} {l : List α} (h : ∀ i, i < l.length → p (l.getD i d)) : ∀ a ∈ l, p a := by
  intro a ha
  obtain ⟨i, hi, rfl⟩ := List.mem_iff_getElem.1 ha
  have := h i hi
  rwa [List.getD_eq_getElem?_getD, List.getElem?_eq_getElem hi] at this
theorem cells_addr {w : World} {base b off : Nat} {spot : Option Nat} {n : Nat} {cs : List Value} (k : Nat) (h : w.cells? base (Addr.add ⟨b, off, spot⟩ k) n = some cs) : ∀ j, j < n → w.cell? ⟨b, off + k + j, none⟩ = cs[j]? := by
  obtain ⟨_, hl, hc⟩ := World.cells?_some h
  intro j hj
  have := hc j hj
  rw [← this]
  by_cases h0 : k = 0 ∧ j = 0
  · obtain ⟨rfl, rfl⟩ := h0
    simp only [Addr.add, if_true, Nat.add_zero]
    simp only [Addr.add, if_true] at this
    have h1 : cs[0]? ≠ none := by rw [List.getElem?_eq_getElem (by omega)]; simp
    rw [← this] at h1
    unfold World.cell? at h1 ⊢
    simp only at h1 ⊢
    cases hb : w.heap[b]? with
    | none => simp [hb] at h1
    | some o =>
      rw [hb] at h1
      cases o with
      | cells c _ _ =>
        cases spot with
        | none => rfl
        | some _ => simp at h1
      | _ => exact absurd rfl h1
  · by_cases hk : k = 0
    · subst hk
      have hj0 : j ≠ 0 := fun e => h0 ⟨rfl, e⟩
      simp [Addr.add, hj0]
    · by_cases hj0 : j = 0
      · subst hj0; simp [Addr.add, hk]
      · simp [Addr.add, hk, hj0, Nat.add_assoc]
theorem spot_none {w : World} {base b off : Nat} {spot : Option Nat} {n : Nat} {cs : List Value} (hn : 0 < n) (h : w.cells? base (Addr.add ⟨b, off, spot⟩ 0) n = some cs) : spot = none := by
  obtain ⟨_, hl, hc⟩ := World.cells?_some h
  have := hc 0 hn
  simp only [Addr.add, if_true] at this
  cases spot with
  | none => rfl
  | some s =>
    exfalso
    have h1 : cs[0]? ≠ none := by rw [List.getElem?_eq_getElem (by omega)]; simp
    rw [← this] at h1
    unfold World.cell? at h1
    revert h1
    simp only [Option.isSome_some, if_true]
    split <;> simp
def Rd.slice (h : P.underlying T = some (.slice E)) (hc : P.cellsOf T = 1) (r : Rd P E α) (hs : Nat.blt 0 r.sz = true) : Rd P T (List α) where
  enc l := [.sl r.sz l.length (elOf r.enc r.dflt l)]
  sz := 1
  dflt := []
  good l := l.length ≤ maxLen ∧ ∀ a ∈ l, r.good a
  bulk l := (l.map r.bulk).sum + 1
  cells := hc
  len _ := rfl
  read := by
    intro H en w base sp held fuel cs x hx
    have hpos : 0 < r.sz := by simpa [Nat.blt_eq] using hs
    rcases DataW.trod_slice h hx with ⟨rfl, rfl⟩ | ⟨⟨b, off, spot⟩, len, cap, elems, rest, n, _, rfl, rfl, hb, hl, hm, hlen, hel, hsp, hns⟩
    · refine ⟨[], ⟨by simp, by simp⟩, by simp [Rows.uptoBulk], rfl, by simp [Value.oneCell'], fun j hj => ?_⟩
      obtain rfl : j = 0 := by omega
      exact .sl _ _ _ _ _ (fun _ => undef) (by simp) (by simp) (.inl (by simp)) (by simp) (by simp) (by simp)
    · have each : ∀ i, i < len → ∃ a, ∃ cs' x', w.cells? base (Addr.add ⟨b, off, spot⟩ (i * r.sz)) r.sz = some cs' ∧ elems[i]? = some x' ∧ r.good a ∧ r.bulk a ≤ Rows.uptoBulk x'.1 ∧ cs'.length = r.sz ∧ (∀ c ∈ cs', c.oneCell' = true) ∧ ∀ j, j < r.sz → Rel Z0 w ((r.enc a).getD j .any) (cs'.getD j undef) := by
        intro i hi
        have h1 := hel i hi
        rw [r.cells, List.getElem?_eq_getElem (by omega), Option.bind_eq_some_iff] at h1
        obtain ⟨cs', hcs, ht⟩ := h1
        obtain ⟨a, h2, h3, h4, h5, h6⟩ := r.read ht
        exact ⟨a, cs', _, hcs, List.getElem?_eq_getElem (by omega), h2, h3, h4, h5, h6⟩
      obtain ⟨l, hll, hp⟩ := exists_list (d := r.dflt) len each
      have cell : ∀ i j, i < len → j < r.sz → ∃ v, w.cell? ⟨b, off + (i * r.sz + j), none⟩ = some v ∧ v.oneCell' = true ∧ Rel Z0 w ((r.enc (l.getD i r.dflt)).getD j .any) v := by
        intro i j hi hj
        obtain ⟨cs', x', h1, _, _, _, h4, h5, h6⟩ := hp i hi
        have hj' : j < cs'.length := by omega
        refine ⟨cs'[j], ?_, h5 _ (List.getElem_mem _), ?_⟩
        · have := cells_addr (i * r.sz) h1 j hj
          rw [List.getElem?_eq_getElem hj'] at this
          rw [← Nat.add_assoc]; exact this
        · have := h6 j hj
          rwa [List.getD_eq_getElem?_getD (l := cs'), List.getElem?_eq_getElem hj'] at this
      refine ⟨l, ⟨by omega, ?_⟩, ?_, rfl, by simp [Value.oneCell'], fun j hj => ?_⟩
      · refine getD_mem_all (d := r.dflt) fun i hi => ?_
        obtain ⟨_, _, _, _, h2, _⟩ := hp i (by omega)
        exact h2
      · have := bulkAll_le r.bulk r.dflt l (elems.map (·.1)) (by simp [hll, hlen]) fun i hi => by
          obtain ⟨_, x', _, h1, _, h3, _⟩ := hp i (by omega)
          have e : (elems.map (·.1)).getD i .nil = x'.1 := by simp [List.getD_eq_getElem?_getD, h1]
          rw [e]; exact h3
        simp only [Rows.uptoBulk]; omega
      · obtain rfl : j = 0 := by omega
        simp only [List.getD_cons_zero]
        rw [hll]
        have hdec : ∀ k, k < len * r.sz → k / r.sz < len ∧ k % r.sz < r.sz ∧ k / r.sz * r.sz + k % r.sz = k := fun k hk => by
          refine ⟨Nat.div_lt_of_lt_mul (by rw [Nat.mul_comm]; exact hk), Nat.mod_lt _ hpos, ?_⟩
          rw [Nat.mul_comm]; exact Nat.div_add_mod k r.sz
        refine .sl _ _ _ _ _ (fun k => (w.cell? ⟨b, off + k, none⟩).getD undef) hl hm ?_ ?_ (fun i hi => r.len _) ?_
        · rcases Nat.eq_zero_or_pos len with h0 | h0
          · exact .inl (by simp [h0])
          · right
            obtain ⟨cs', _, h1, _⟩ := hp 0 h0
            rw [Nat.zero_mul] at h1
            refine ⟨b, off, by rw [spot_none hpos h1], fun f => f, fun k hk => ?_⟩
            obtain ⟨h2, h3, h4⟩ := hdec k hk
            obtain ⟨v, hv, _⟩ := cell _ _ h2 h3
            rw [h4] at hv
            rw [hv]; rfl
        · intro k hk
          obtain ⟨h2, h3, h4⟩ := hdec k hk
          obtain ⟨v, hv, h5, _⟩ := cell _ _ h2 h3
          rw [h4] at hv
          rw [hv]; exact h5
        · intro i j hi hj
          obtain ⟨v, hv, _, h6⟩ := cell i j hi hj
          rw [hv]; exact h6
def Rd.array {N : Nat} (h : P.underlying T = some (.array N E)) (hc : P.cellsOf T = N) (r : Rd P E α) (enc1 : α → SV) (he : ∀ a, r.enc a = [enc1 a]) (hs : r.sz = 1) : Rd P T { l : List α // l.length = N } where
  enc l := l.1.map enc1
  sz := N
  dflt := ⟨List.replicate N r.dflt, by simp⟩
  good l := ∀ a ∈ l.1, r.good a
  bulk l := (l.1.map r.bulk).sum
  cells := hc
  len l := by rw [List.length_map, l.2]
  read := by
    intro H en w base sp held fuel cs x hx
    obtain ⟨xs, m, _, rfl, hlen, hxl, hel⟩ := DataW.trod_array h hx
    have hce : P.cellsOf E = 1 := by rw [r.cells, hs]
    have each : ∀ i, i < N → ∃ a, ∃ x', xs[i]? = some x' ∧ r.good a ∧ r.bulk a ≤ Rows.uptoBulk x'.1 ∧ ∃ c, cs[i]? = some c ∧ c.oneCell' = true ∧ Rel Z0 w (enc1 a) c := by
      intro i hi
      have h1 := hel i hi
      rw [hce, Nat.mul_one, List.getElem?_eq_getElem (by omega)] at h1
      obtain ⟨a, h2, h3, h4, h5, h6⟩ := r.read h1
      have hic : i < cs.length := by rw [hlen, hc]; exact hi
      have hch : (cs.drop i).take 1 = [cs[i]] := by rw [List.drop_eq_getElem_cons hic]; rfl
      have h7 := h6 0 (by omega)
      rw [he, hch] at h7
      rw [hch] at h5
      exact ⟨a, _, List.getElem?_eq_getElem (by omega), h2, h3, cs[i], List.getElem?_eq_getElem hic, h5 _ (by simp), by simpa using h7⟩
    obtain ⟨l, hll, hp⟩ := exists_list (d := r.dflt) N each
    refine ⟨⟨l, hll⟩, ?_, ?_, by rw [hlen, hc], ?_, fun j hj => ?_⟩
    · refine getD_mem_all (d := r.dflt) fun i hi => ?_
      obtain ⟨_, _, h2, _⟩ := hp i (by simp only at hi; omega)
      exact h2
    · have := bulkAll_le r.bulk r.dflt l (xs.map (·.1)) (by simp [hll, hxl]) fun i hi => by
        obtain ⟨x', h1, _, h3, _⟩ := hp i (by omega)
        have e : (xs.map (·.1)).getD i .nil = x'.1 := by simp [List.getD_eq_getElem?_getD, h1]
        rw [e]; exact h3
      simp only [Rows.uptoBulk]; omega
    · intro c hcm
      obtain ⟨j, hj⟩ := List.mem_iff_getElem?.1 hcm
      have hjl : j < N := by
        have := (List.getElem?_eq_some_iff.1 hj).1
        rw [hlen, hc] at this; exact this
      obtain ⟨_, _, _, _, c', h5, h6, _⟩ := hp j hjl
      rw [hj] at h5; cases h5
      exact h6
    · obtain ⟨_, _, _, _, c', h5, _, h7⟩ := hp j hj
      have hjl : j < l.length := by omega
      simp only [List.getD_eq_getElem?_getD, List.getElem?_map, List.getElem?_eq_getElem hjl, Option.map_some, Option.getD_some, h5]
      rw [List.getD_eq_getElem?_getD, List.getElem?_eq_getElem hjl] at h7
      exact h7
def Rd.as (r : Rd P T α) (g : α → β) (d : β) (enc' : β → List SV) (good' : β → Prop) (bulk' : β → Nat) (he : ∀ a, enc' (g a) = r.enc a) (hl : ∀ b, (enc' b).length = r.sz) (hg : ∀ a, r.good a → good' (g a)) (hb : ∀ a, bulk' (g a) = r.bulk a) : Rd P T β where
  enc := enc'
  sz := r.sz
  dflt := d
  good := good'
  bulk := bulk'
  cells := r.cells
  len := hl
  read := by
    intro H en w base sp held fuel cs x hx
    obtain ⟨a, h1, h2, h3, h4, h5⟩ := r.read hx
    exact ⟨g a, hg a h1, by rw [hb]; exact h2, h3, h4, fun j hj => by rw [he]; exact h5 j hj⟩
structure Fds (P : Program) (off : Nat) (tos : List (TypeId × Nat)) (α : Type) where
  enc : α → List SV
  sz : Nat
  dflt : α
  good : α → Prop
  bulk : α → Nat
  len : ∀ a, (enc a).length = sz
  read : ∀ {H : Type} {en : TypeId × Value → H} {w : World} {base : Nat} {sp : Nat → Bool} {held : Bool} {fuel : Nat} {cs : List Value} {xs : List (DataW H × List MemPlace)}, xs.length = tos.length → off + sz = cs.length →
    (∀ (i : Nat) (f : TypeId × Nat), tos[i]? = some f → DataW.trod en P w base sp held fuel f.1 ((cs.drop f.2).take (P.cellsOf f.1)) = (xs[i]? : Option (DataW H × List MemPlace))) → ∃ a, good a ∧ bulk a ≤ Rows.uptoBulkAll (xs.map (·.1)) ∧
    ∀ j, j < sz → (cs.getD (off + j) undef).oneCell' = true ∧ Rel Z0 w ((enc a).getD j .any) (cs.getD (off + j) undef)
def Fds.nil {off : Nat} : Fds P off [] Unit where
  enc _ := []
  sz := 0
  dflt := ()
  good _ := True
  bulk _ := 0
  len _ := rfl
  read := by
    intro H en w base sp held fuel cs xs hl hs h
    exact ⟨(), trivial, by simp, fun j hj => by omega⟩
def Fds.cons {off : Nat} {t : TypeId} {tos : List (TypeId × Nat)} (r : Rd P t α) (k : Fds P (off + r.sz) tos β) : Fds P off ((t, off) :: tos) (α × β) where
  enc x := r.enc x.1 ++ k.enc x.2
  sz := r.sz + k.sz
  dflt := (r.dflt, k.dflt)
  good x := r.good x.1 ∧ k.good x.2
  bulk x := r.bulk x.1 + k.bulk x.2
  len x := by rw [List.length_append, r.len, k.len]
  read := by
    intro H en w base sp held fuel cs xs hl hs h
    cases xs with
    | nil => simp at hl
    | cons x xs =>
      have h0 := h 0 (t, off) rfl
      simp only [List.getElem?_cons_zero] at h0
      obtain ⟨a, h1, h2, h3, h4, h5⟩ := r.read h0
      obtain ⟨b, g1, g2, g3⟩ := k.read (w := w) (cs := cs) (by simpa using hl) (by omega) fun i f hf => by simpa using h (i + 1) f (by simpa using hf)
      refine ⟨(a, b), ⟨h1, g1⟩, by simp only [List.map_cons, Rows.uptoBulkAll]; omega, fun j hj => ?_⟩
      rw [List.getD_eq_getElem?_getD (l := r.enc a ++ k.enc b)]
      by_cases hj' : j < r.sz
      · rw [List.getElem?_append_left (by rw [r.len]; exact hj')]
        have e : (List.take (P.cellsOf t) (List.drop off cs)).getD j undef = cs.getD (off + j) undef := by
          rw [r.cells]
          simp only [List.getD_eq_getElem?_getD, List.getElem?_take, List.getElem?_drop, hj', if_true]
        have h5' := h5 j hj'
        simp only [e] at h5'
        refine ⟨?_, by rw [← List.getD_eq_getElem?_getD]; exact h5'⟩
        have hlt : off + j < cs.length := by omega
        rw [← e]
        have hm := h4 ((List.take (P.cellsOf t) (List.drop off cs)).getD j undef)
        apply hm
        rw [List.getD_eq_getElem?_getD, List.getElem?_eq_getElem (by simp only [h3]; exact hj')]
        exact List.getElem_mem _
      · rw [List.getElem?_append_right (by rw [r.len]; omega), r.len, ← List.getD_eq_getElem?_getD]
        have := g3 (j - r.sz) (by omega)
        rw [show off + r.sz + (j - r.sz) = off + j by omega] at this
        exact this
def fieldsAt (P : Program) (T : TypeId) : Option (List (TypeId × Nat)) := match P.underlying T with
  | some (.struct fs) => some (fs.toList.map fun f => (f.type, f.offset))
  | _ => none
theorem fieldsAt_spec {tos : List (TypeId × Nat)} (h : fieldsAt P T = some tos) : ∃ fs : Array Field, P.underlying T = some (.struct fs) ∧ tos = fs.toList.map fun f => (f.type, f.offset) := by
  unfold fieldsAt at h
  split at h
  · rename_i fs hu
    exact ⟨fs, hu, (Option.some.inj h).symm⟩
  · cases h
def Rd.struct {tos : List (TypeId × Nat)} (h : fieldsAt P T = some tos) (k : Fds P 0 tos α) (hc : P.cellsOf T = k.sz) : Rd P T α where
  enc := k.enc
  sz := k.sz
  dflt := k.dflt
  good := k.good
  bulk a := k.bulk a + 1
  cells := hc
  len := k.len
  read := by
    intro H en w base sp held fuel cs x hx
    obtain ⟨fs, hu, rfl⟩ := fieldsAt_spec h
    obtain ⟨xs, n, rfl, rfl, hl, hxl, hf⟩ := DataW.trod_struct hu hx
    rw [hc] at hl
    obtain ⟨a, h1, h2, h3⟩ := k.read (w := w) (cs := cs) (xs := xs) (by simp [hxl]) (by omega) fun i f hi => by
      rw [List.getElem?_map, Option.map_eq_some_iff] at hi
      obtain ⟨f', hf', rfl⟩ := hi
      exact hf i f' (by simpa using hf')
    refine ⟨a, h1, by simp only [Rows.uptoBulk]; omega, hl, ?_, fun j hj => by have := (h3 j hj).2; rwa [Nat.zero_add] at this⟩
    intro c hcm
    obtain ⟨i, hi, rfl⟩ := List.mem_iff_getElem.1 hcm
    have := (h3 i (by omega)).1
    rwa [Nat.zero_add, List.getD_eq_getElem?_getD, List.getElem?_eq_getElem hi] at this
structure Rds (P : Program) (ts : List TypeId) (α : Type) where
  svs : α → List SV
  good : α → Prop
  bulk : α → Nat
  len : ∀ a, (svs a).length = ts.length
  read : ∀ {H : Type} {en : TypeId × Value → H} {w : World} {base : Nat} {sp : Nat → Bool} {held : Bool} {vs : List Value} {ds : List (DataW H)} {ps : List MemPlace}, (∀ (j : Nat) t v, ts[j]? = some t → vs[j]? = some v → ∃ b, Value.okWide P w .any b t v) →
    DataW.TrodAll en P w base sp held ts vs ds ps → ∃ a, good a ∧ bulk a ≤ Rows.uptoBulkAll ds ∧ vs.length = ts.length ∧ ∀ j, j < ts.length → Rel Z0 w ((svs a).getD j .any) (vs.getD j undef)
def Rds.nil : Rds P [] Unit where
  svs _ := []
  good _ := True
  bulk _ := 0
  len _ := rfl
  read := by
    intro H en w base sp held vs ds ps hv h
    obtain ⟨rfl, rfl, rfl⟩ := trodAll_nil h
    exact ⟨(), trivial, by simp, rfl, fun j hj => by simp at hj⟩
def isAgg (P : Program) (T : TypeId) : Bool := match P.underlying T with
  | some (.struct _) | some (.array ..) => true
  | _ => false
theorem cell_of (h : isAgg P T = false) {w : World} {b : Nat} {v : Value} (hv : Value.okWide P w .any b T v) : v.cells = #[v] := by
  cases v with
  | agg cs =>
    exfalso
    unfold isAgg at h
    unfold Value.okWide at hv
    cases hu : P.underlying T with
    | none => rw [hu] at hv; simp [Cell.okWide, Cell.ok, hu] at hv
    | some d => cases d <;> simp [hu, Cell.okWide, Cell.ok] at hv h
  | _ => rfl
def Rds.cons {ts : List TypeId} (r : Rd P T α) (h1 : r.sz = 1) (hagg : isAgg P T = false) (k : Rds P ts β) : Rds P (T :: ts) (α × β) where
  svs x := (r.enc x.1).getD 0 .any :: k.svs x.2
  good x := r.good x.1 ∧ k.good x.2
  bulk x := r.bulk x.1 + k.bulk x.2
  len x := by simp [k.len]
  read := by
    intro H en w base sp held vs ds ps hv h
    obtain ⟨v, vs, d, ds, p, q, rfl, rfl, rfl, ht, hr⟩ := trodAll_cons h
    obtain ⟨fuel, hf⟩ := ht
    obtain ⟨b, hb⟩ := hv 0 T v rfl rfl
    rw [cell_of hagg hb] at hf
    obtain ⟨a, g1, g2, g3, g4, g5⟩ := r.read hf
    obtain ⟨c, f1, f2, f3, f4⟩ := k.read (fun j t v hj hv' => hv (j + 1) t v (by simpa using hj) (by simpa using hv')) hr
    refine ⟨(a, c), ⟨g1, f1⟩, by simp only [Rows.uptoBulkAll]; exact Nat.add_le_add g2 f2, by simp [f3], fun j hj => ?_⟩
    cases j with
    | zero => exact g5 0 (by omega)
    | succ j => simpa using f4 j (by simpa using hj)
end
theorem grown_of {W W' : World} (hb : Below W.heap.size W W') : (∀ may, W.keptBut W' may) ∧ ∀ a : Addr, a.block < W.heap.size → W'.frozen? a = W.frozen? a := by
  refine ⟨fun may => ⟨hb.os, hb.output, fun i hi => ?_⟩, fun a ha => ?_⟩
  · rw [hb.block i hi]
    split
    · rename_i h1 h2
      rw [h1] at h2; cases h2
      exact ⟨rfl, rfl, rfl, fun _ _ => rfl⟩
    · rename_i h1 h2
      rw [h1] at h2; cases h2
      exact .inr ⟨rfl, rfl⟩
    · rfl
  · unfold World.frozen?
    rw [hb.block a.block ha]
theorem post_same {H : Type} {enc : TypeId × Value → H} {P : Program} {f : Func} {s : ChangeSpec} {apart fresh handsOn again : Bool} {W W' : World} {args : Array Value} {v : Value} {ds gs : List (DataW H)} {before pa pv : List MemPlace}
    (hW : DataW.Whole enc P f.params.toList s.vars apart W args.toList ds gs before)
    (hres : ∀ (b : Nat) (sp : Nat → Bool) (hd : Bool), DataW.TrodAll enc P W' b sp hd f.resultTypes.toList (v.resultList f.resultTypes.size) (s.fn H (ds ++ gs)).results [])
    (hargs : ∀ sp : Nat → Bool, (∀ p ∈ before, sp p.block = true) → DataW.TrodAll enc P W' 0 sp true f.params.toList args.toList (s.fn H (ds ++ gs)).args pa)
    (hvars : ∀ sp : Nat → Bool, (∀ p ∈ before, sp p.block = true) → DataW.TrodVars enc P W' sp s.vars (s.fn H (ds ++ gs)).vars pv)
    (hps : before = pa ++ pv) (hb : Below W.heap.size W W')
    (hok : ∀ (j : Nat) (t : TypeId) (r : Value), f.resultTypes[j]? = some t → (v.resultList f.resultTypes.size)[j]? = some r → Value.okWide P W' .any 0 t r) :
    s.post enc P f apart fresh handsOn again W args v W' := by
  obtain ⟨hk, hfz⟩ := grown_of hb
  have hlt := hW.lt
  have hold : ∀ p ∈ before, (fun b => decide (b < W.heap.size)) p.block = true := fun p hp => by simpa using hlt p hp
  refine ⟨ds, gs, before, [], pa, pv, hW, hres _ _ _, hargs _ hold, hvars _ hold, World.keptBut_mono (fun p hp => ⟨hp, ?_⟩) (hk (· ∈ before)), fun _ => ?_⟩
  · rw [hps, List.mem_append] at hp
    exact Or.inr hp
  · obtain ⟨_, _, _, _, _, hz, hn⟩ := hW
    refine ⟨hok, _, _, ([] ++ pa) ++ pv, ⟨[] ++ pa, pv, trodAll_append (hargs _ (fun _ _ => rfl)) (hres _ _ _), hvars _ (fun _ _ => rfl), rfl, ?_, ?_⟩, ?_⟩
    · intro b off hp
      have hp' : MemPlace.cell b off ∈ before := by rw [hps]; simpa using hp
      rw [hfz _ (hlt _ hp')]
      exact hz b off hp'
    · intro ha
      have := hn ha
      rw [hps] at this
      simpa using this
    · intro p hp _
      rw [hps]
      simpa using hp
theorem stays_all {H : Type} {en : TypeId × Value → H} {P : Program} (hl : laidOutB P = true) {W W' : World} (hb : Below W.heap.size W W') {sp : Nat → Bool} :
    ∀ {ts : List TypeId} {vs : List Value} {ds : List (DataW H)} {ps : List MemPlace}, ts.all (fun t => P.readableRec t && decide (t < P.types.size)) = true → DataW.TrodAll en P W 0 (fun _ => true) true ts vs ds ps → (∀ x ∈ ps, x.block < W.heap.size) → (∀ x ∈ ps, sp x.block = true) →
    DataW.TrodAll en P W' 0 sp true ts vs ds ps
  | [], _, _, _, _, h, _, _ => by
    obtain ⟨rfl, rfl, rfl⟩ := trodAll_nil h
    exact trodAll_mk0
  | t :: ts, _, _, _, hr, h, hlt, hsp => by
    obtain ⟨v, vs, d, ds, p, q, rfl, rfl, rfl, h0, h1⟩ := trodAll_cons h
    simp only [List.all_cons, Bool.and_eq_true, decide_eq_true_eq] at hr
    exact trodAll_cons_mk (WideElems.Trod_stays hl hr.1.1 hr.1.2 h0 (fun x hx => hb.same (hlt x (by simp [hx]))) (fun x hx => hsp x (by simp [hx])))
      (stays_all hl hb (by simpa using hr.2) h1 (fun x hx => hlt x (by simp [hx])) (fun x hx => hsp x (by simp [hx])))
theorem calls_of {H : Type} {en : TypeId × Value → H} {P : Program} [Gl P] {f : Nat} {fn : Func} {ts : List TypeId} {α : Type} (rds : Rds P ts α) {s : ChangeSpec} {tb : TypeId} {apart fresh handsOn again : Bool} (hs : s.vars = []) (hp : fn.params.toList = ts) (hres : fn.resultTypes = #[tb])
    (htb : P.underlying tb = some .bool) (hl : laidOutB P = true) (hread : ts.all (fun t => P.readableRec t && decide (t < P.types.size)) = true)
    (hfn : ∀ ds : List (DataW H), ds.length = ts.length → (s.fn H ds).results = [.lit (.bool true)] ∧ (s.fn H ds).args = ds ∧ (s.fn H ds).vars = [])
    {W : World} {base : Nat} {args : Array Value} {ds gs : List (DataW H)} {before : List MemPlace}
    (hval : ∀ (j : Nat) t v, fn.params[j]? = some t → args[j]? = some v → Value.okWide P W .any base t v)
    (hW : DataW.Whole en P fn.params.toList s.vars apart W args.toList ds gs before)
    (hgl : ∀ x ∈ Gl.gl P, x.1 < W.heap.size ∧ ∀ i v, x.2[i]? = some v → W.cell? ⟨x.1, i, none⟩ = some v)
    (hC : ∀ a, rds.good a → rds.bulk a ≤ Rows.uptoBulkAll ds → ∃ R : SV → List Own → Prop, FnC P f (rds.svs a) [] R ∧ ∀ s L, R s L → s = Sse.bool true) :
    Calls P f args W fun e W' => ∃ v, e = .returned v ∧ s.post en P fn apart fresh handsOn again W args v W' := by
  have hW' := hW
  have hlt0 := hW.lt
  obtain ⟨p, q, hA, hV, rfl, hfz, hnd⟩ := hW
  rw [hs] at hV
  obtain ⟨rfl, rfl⟩ := trodVars_none hV
  rw [hp] at hA
  obtain ⟨a, ha, hb, hlen, hrel⟩ := rds.read (fun j t v hj hv => ⟨base, hval j t v (by rw [← hp] at hj; simpa using hj) (by simpa using hv)⟩) hA
  obtain ⟨R, hF, hR⟩ := hC a ha hb
  have hlen' : ds.length = ts.length := by
    have : ∀ {ts : List TypeId} {vs : List Value} {ds : List (DataW H)} {p : List MemPlace}, DataW.TrodAll en P W 0 (fun _ => true) true ts vs ds p → ds.length = ts.length := by
      intro ts
      induction ts with
      | nil => intro vs ds p h; obtain ⟨_, rfl, _⟩ := trodAll_nil h; rfl
      | cons t ts ih => intro vs ds p h; obtain ⟨_, _, _, _, _, _, rfl, rfl, rfl, _, h1⟩ := trodAll_cons h; simp [ih h1]
    exact this hA
  have := hF.go Z0 W args.toList (by rw [hlen, rds.len]) (fun j hj => (hrel j (by rwa [rds.len] at hj)).stable fun b _ _ => ⟨rfl, by simp [ZL, Z0, inF, foots]⟩) (by simp [Z0]) (by simp [foots]) (by simp [inF, foots]) (by simp) (fun x hx => ⟨(hgl x hx).1, by simp [inF, foots], (hgl x hx).2⟩)
  simp only [Array.toArray_toList] at this
  refine this.mono fun e W' ⟨v, sv, L', he, hr, hrv, hw⟩ => ?_
  subst he
  obtain rfl := hR _ _ hr
  obtain rfl : v = .bool true := hrv.val_eq
  have hbel : Below W.heap.size W W' := ⟨hw.os, hw.tape, hw.output, hw.size, fun k hk => hw.keep k hk (by simp [inF, foots])⟩
  obtain ⟨e1, e2, e3⟩ := hfn (ds ++ []) (by simpa using hlen')
  simp only [List.append_nil] at hlt0 hW'
  refine ⟨_, rfl, post_same (pa := p) (pv := []) hW' (fun b sp hd => ?_) (fun sp hsp => ?_) (fun _ _ => ?_) (by simp) hbel (ok_one hres rfl (okWide_bool_mk htb _))⟩
  · rw [e1, hres]; exact trodAll_cons_mk (shut_bool htb _) trodAll_mk0
  · rw [e2, List.append_nil, hp]; exact stays_all hl hbel hread hA hlt0 hsp
  · rw [e3, hs]; rfl
end Go.Proofs.Ytmkicbphbegjbaa
namespace Go.Proofs.Ytmkicbphbegjbaa
open Go Go.Sse
set_option linter.unusedVariables false
set_option linter.unusedSimpArgs false
set_option maxRecDepth 10000
structure Dl where
  b : Nat
  nm : List UInt8
  tm : Int
  od : Int
  pl : Int
def d0 : Dl := ⟨0, [], 0, 0, 0⟩
def ltD (x y : Dl) : Prop := x.tm < y.tm ∨ (x.tm = y.tm ∧ x.od < y.od)
instance (x y : Dl) : Decidable (ltD x y) := by unfold ltD; infer_instance
abbrev gD (hs : List Dl) (i : Nat) : Dl := hs.getD i d0
def swapD (hs : List Dl) (i j : Nat) : List Dl := (hs.set i { gD hs j with pl := j' }).set j { gD hs i with pl := j }
  where j' : Int := i
theorem swapD_length (hs : List Dl) (i j : Nat) : (swapD hs i j).length = hs.length := by simp [swapD]
theorem gD_set (hs : List Dl) (i k : Nat) (x : Dl) (hi : i < hs.length) : gD (hs.set i x) k = if k = i then x else gD hs k := by
  simp only [gD, List.getD_eq_getElem?_getD, List.getElem?_set]
  by_cases h : k = i
  · subst h; simp [hi]
  · simp [h, Ne.symm h]
theorem gD_swap (hs : List Dl) (i j k : Nat) (hi : i < hs.length) (hj : j < hs.length) : gD (swapD hs i j) k = if k = j then { gD hs i with pl := j } else if k = i then { gD hs j with pl := i } else gD hs k := by
  rw [swapD, gD_set _ _ _ _ (by simp [hj]), gD_set _ _ _ _ hi]
  rfl
def downP : Nat → List Dl → Nat → Nat → List Dl × Nat
  | 0, hs, i, _ => (hs, i)
  | f + 1, hs, i, n => if n ≤ 2 * i + 1 then (hs, i) else
    let j := if 2 * i + 2 < n ∧ ltD (gD hs (2 * i + 2)) (gD hs (2 * i + 1)) then 2 * i + 2 else 2 * i + 1
    if ltD (gD hs j) (gD hs i) then downP f (swapD hs i j) j n else (hs, i)
def upP : Nat → List Dl → Nat → List Dl
  | 0, hs, _ => hs
  | f + 1, hs, j => if j = 0 ∨ ¬ ltD (gD hs j) (gD hs ((j - 1) / 2)) then hs else upP f (swapD hs ((j - 1) / 2) j) ((j - 1) / 2)
def fixP (hs : List Dl) (i n : Nat) : List Dl := if i < (downP n hs i n).2 then (downP n hs i n).1 else upP (i + 1) (downP n hs i n).1 i
def okD (hs : List Dl) (k : Nat) : Prop := ¬ ltD (gD hs k) (gD hs ((k - 1) / 2))
def Hp (hs : List Dl) (n : Nat) : Prop := ∀ k, 0 < k → k < n → okD hs k
theorem ltD_asymm {x y : Dl} (h : ltD x y) : ¬ ltD y x := by unfold ltD at *; omega
theorem nlt_trans {x y z : Dl} (h : ¬ ltD x y) (k : ¬ ltD y z) : ¬ ltD x z := by unfold ltD at *; omega
theorem lt_nlt {x y z : Dl} (h : ¬ ltD x y) (k : ltD z y) : ¬ ltD x z := by unfold ltD at *; omega
theorem down_length : ∀ (f : Nat) (hs : List Dl) (i n : Nat), (downP f hs i n).1.length = hs.length
  | 0, _, _, _ => rfl
  | f + 1, hs, i, n => by
    unfold downP
    split
    · rfl
    · dsimp only
      split <;> split <;> first | rfl | (rw [down_length f]; exact swapD_length _ _ _)
theorem up_length : ∀ (f : Nat) (hs : List Dl) (j : Nat), (upP f hs j).length = hs.length
  | 0, _, _ => rfl
  | f + 1, hs, j => by
    unfold upP
    split
    · rfl
    · rw [up_length f]; exact swapD_length _ _ _
theorem fix_length (hs : List Dl) (i n : Nat) : (fixP hs i n).length = hs.length := by
  unfold fixP
  split
  · exact down_length _ _ _ _
  · rw [up_length]; exact down_length _ _ _ _
theorem down_hp : ∀ (f : Nat) (hs : List Dl) (i n : Nat), n ≤ hs.length → i < n → n ≤ i + f → (∀ k, 0 < k → k < n → (k - 1) / 2 ≠ i → okD hs k) → (∀ k, 0 < k → k < n → (k - 1) / 2 = i → 0 < i → ¬ ltD (gD hs k) (gD hs ((i - 1) / 2))) → Hp (downP f hs i n).1 n
  | 0, hs, i, n, _, _, hf, _, _ => by omega
  | f + 1, hs, i, n, hl, hi, hf, h1, h2 => by
    unfold downP
    by_cases hn : n ≤ 2 * i + 1
    · rw [if_pos hn]
      intro k hk hkn
      exact h1 k hk hkn (by omega)
    · rw [if_neg hn]
      dsimp only
      generalize hj : (if 2 * i + 2 < n ∧ ltD (gD hs (2 * i + 2)) (gD hs (2 * i + 1)) then 2 * i + 2 else 2 * i + 1) = j
      have hj1 : j < n ∧ (j - 1) / 2 = i ∧ i < j ∧ ∀ k, 0 < k → k < n → (k - 1) / 2 = i → ¬ ltD (gD hs k) (gD hs j) := by
        by_cases hc : 2 * i + 2 < n ∧ ltD (gD hs (2 * i + 2)) (gD hs (2 * i + 1))
        · rw [if_pos hc] at hj
          subst hj
          refine ⟨hc.1, by omega, by omega, fun k hk hkn hp => ?_⟩
          have : k = 2 * i + 1 ∨ k = 2 * i + 2 := by omega
          rcases this with rfl | rfl
          · exact ltD_asymm hc.2
          · intro h; exact ltD_asymm h h
        · rw [if_neg hc] at hj
          subst hj
          refine ⟨by omega, by omega, by omega, fun k hk hkn hp => ?_⟩
          have : k = 2 * i + 1 ∨ k = 2 * i + 2 := by omega
          rcases this with rfl | rfl
          · intro h; exact ltD_asymm h h
          · intro h; exact hc ⟨hkn, h⟩
      obtain ⟨hjn, hjp, hij, hjm⟩ := hj1
      by_cases hlt : ltD (gD hs j) (gD hs i)
      · rw [if_pos hlt]
        have hg := gD_swap hs i j
        have hg := fun k => hg k (by omega) (by omega)
        refine down_hp f _ j n (by rw [swapD_length]; exact hl) hjn (by omega) ?_ ?_
        · intro k hk hkn hkp
          unfold okD
          rw [hg, hg ((k - 1) / 2), if_neg hkp]
          by_cases e1 : k = j
          · subst e1
            rw [if_pos rfl, if_pos hjp]
            exact ltD_asymm hlt
          · rw [if_neg e1]
            by_cases e2 : k = i
            · subst e2
              rw [if_pos rfl, if_neg (by omega)]
              exact h2 j (by omega) hjn hjp hk
            · rw [if_neg e2]
              by_cases e3 : (k - 1) / 2 = i
              · rw [if_pos e3]
                exact hjm k hk hkn e3
              · rw [if_neg e3]
                exact h1 k hk hkn e3
        · intro k hk hkn hkp _
          rw [hg, hg ((j - 1) / 2), if_neg (by omega), if_neg (by omega), if_neg (by omega), if_pos hjp]
          have := h1 k hk hkn (by omega)
          unfold okD at this
          rw [hkp] at this
          exact this
      · rw [if_neg hlt]
        intro k hk hkn
        by_cases e : (k - 1) / 2 = i
        · unfold okD
          rw [e]
          exact nlt_trans (hjm k hk hkn e) hlt
        · exact h1 k hk hkn e
theorem down_stay (f : Nat) (hs : List Dl) (i n : Nat) (h : ∀ k, 0 < k → k < n → (k - 1) / 2 = i → ¬ ltD (gD hs k) (gD hs i)) : downP f hs i n = (hs, i) := by
  cases f with
  | zero => rfl
  | succ f =>
    unfold downP
    split
    · rfl
    · dsimp only
      rw [if_neg]
      split
      · rename_i hc; exact h _ (by omega) hc.1 (by omega)
      · exact h _ (by omega) (by omega) (by omega)
theorem up_hp : ∀ (f : Nat) (hs : List Dl) (j n : Nat), n ≤ hs.length → j < n → j < f → (∀ k, 0 < k → k < n → k ≠ j → okD hs k) → (∀ k, 0 < k → k < n → (k - 1) / 2 = j → 0 < j → ¬ ltD (gD hs k) (gD hs ((j - 1) / 2))) → Hp (upP f hs j) n
  | 0, hs, j, n, _, _, hf, _, _ => by omega
  | f + 1, hs, j, n, hl, hj, hf, h1, h2 => by
    unfold upP
    by_cases hc : j = 0 ∨ ¬ ltD (gD hs j) (gD hs ((j - 1) / 2))
    · rw [if_pos hc]
      intro k hk hkn
      by_cases e : k = j
      · subst e
        rcases hc with hc | hc
        · omega
        · exact hc
      · exact h1 k hk hkn e
    · rw [if_neg hc]
      have hj0 : 0 < j := by omega
      have hlt : ltD (gD hs j) (gD hs ((j - 1) / 2)) := Classical.byContradiction fun h => hc (.inr h)
      have hg := fun k => gD_swap hs ((j - 1) / 2) j k (by omega) (by omega)
      refine up_hp f _ _ n (by rw [swapD_length]; exact hl) (by omega) (by omega) ?_ ?_
      · intro k hk hkn hkp
        unfold okD
        rw [hg, hg ((k - 1) / 2)]
        by_cases e1 : k = j
        · subst e1
          rw [if_pos rfl, if_neg (by omega), if_pos rfl]
          exact ltD_asymm hlt
        · rw [if_neg e1, if_neg hkp]
          by_cases e2 : (k - 1) / 2 = j
          · rw [if_pos e2]
            exact h2 k hk hkn e2 hj0
          · rw [if_neg e2]
            have hk1 := h1 k hk hkn e1
            unfold okD at hk1
            by_cases e3 : (k - 1) / 2 = (j - 1) / 2
            · rw [if_pos e3]
              rw [e3] at hk1
              exact lt_nlt hk1 hlt
            · rw [if_neg e3]
              exact hk1
      · intro k hk hkn hkp h0
        have hp1 := h1 ((j - 1) / 2) h0 (by omega) (by omega)
        unfold okD at hp1
        rw [hg, hg (((j - 1) / 2 - 1) / 2), if_neg (show ((j - 1) / 2 - 1) / 2 ≠ j by omega), if_neg (show ((j - 1) / 2 - 1) / 2 ≠ (j - 1) / 2 by omega)]
        by_cases e1 : k = j
        · rw [if_pos e1]
          exact hp1
        · rw [if_neg e1, if_neg (by omega)]
          have hk1 := h1 k hk hkn e1
          unfold okD at hk1
          rw [hkp] at hk1
          exact nlt_trans hk1 hp1
theorem fix_hp (hs : List Dl) (i n : Nat) (hl : n ≤ hs.length) (hi : i < n) (h1 : ∀ k, 0 < k → k < n → k ≠ i → (k - 1) / 2 ≠ i → okD hs k) (h2 : ∀ k, 0 < k → k < n → (k - 1) / 2 = i → 0 < i → ¬ ltD (gD hs k) (gD hs ((i - 1) / 2))) : Hp (fixP hs i n) n := by
  by_cases hc : 0 < i ∧ ltD (gD hs i) (gD hs ((i - 1) / 2))
  · have hch : ∀ k, 0 < k → k < n → (k - 1) / 2 = i → ¬ ltD (gD hs k) (gD hs i) := fun k hk hkn hp => lt_nlt (h2 k hk hkn hp hc.1) hc.2
    have hst := down_stay n hs i n hch
    unfold fixP
    rw [hst]
    dsimp only
    rw [if_neg (by omega)]
    refine up_hp _ _ _ _ hl hi (by omega) ?_ h2
    intro k hk hkn hne
    by_cases e : (k - 1) / 2 = i
    · unfold okD; rw [e]; exact hch k hk hkn e
    · exact h1 k hk hkn hne e
  · have hd := down_hp n hs i n hl hi (by omega) (fun k hk hkn hp => by
      by_cases e : k = i
      · subst e; exact fun h => hc ⟨hk, h⟩
      · exact h1 k hk hkn e hp) h2
    unfold fixP
    split
    · exact hd
    · refine up_hp _ _ _ _ (by rw [down_length]; exact hl) hi (by omega) (fun k hk hkn _ => hd k hk hkn) ?_
      intro k hk hkn hp h0
      have a1 := hd k hk hkn
      have a2 := hd i h0 hi
      unfold okD at a1 a2
      rw [hp] at a1
      exact nlt_trans a1 a2
theorem hp_min {hs : List Dl} {n : Nat} (h : Hp hs n) : ∀ k, k < n → ¬ ltD (gD hs k) (gD hs 0) := by
  intro k
  induction k using Nat.strongRecOn with
  | ind k ih =>
    intro hk
    by_cases h0 : k = 0
    · subst h0; intro h; exact ltD_asymm h h
    · have a1 := h k (by omega) hk
      exact nlt_trans a1 (ih ((k - 1) / 2) (by omega) (by omega))
def Pl (hs : List Dl) (n : Nat) : Prop := ∀ k, k < n → (gD hs k).pl = k
theorem swap_pl {hs : List Dl} {i j n : Nat} (h : Pl hs n) (hi : i < hs.length) (hj : j < hs.length) : Pl (swapD hs i j) n := by
  intro k hk
  rw [gD_swap _ _ _ _ hi hj]
  split
  · rename_i e; rw [e]
  · split
    · rename_i e; rw [e]
    · exact h k hk
structure Co where
  b : Nat
  nm : List UInt8
  tm : Int
  od : Int
def core (d : Dl) : Co := ⟨d.b, d.nm, d.tm, d.od⟩
theorem swap_perm {hs : List Dl} {i j : Nat} (hi : i < hs.length) (hj : j < hs.length) : ((swapD hs i j).map core).Perm (hs.map core) := by
  have hi' : i < (hs.map core).length := by simpa using hi
  have hj' : j < (hs.map core).length := by simpa using hj
  have h : (((hs.map core).set i (hs.map core)[j]).set j (hs.map core)[i]).Perm (hs.map core) := List.set_set_perm hi' hj'
  refine List.Perm.trans (List.Perm.of_eq ?_) h
  simp only [swapD, List.map_set, gD, List.getD_eq_getElem?_getD, List.getElem_map, List.getElem?_eq_getElem hi, List.getElem?_eq_getElem hj, Option.getD_some, core]
theorem down_all (C : List Dl → Prop) (hC : ∀ hs i j, C hs → i < hs.length → j < hs.length → C (swapD hs i j)) : ∀ (f : Nat) (hs : List Dl) (i n : Nat), n ≤ hs.length → i < n → C hs → C (downP f hs i n).1
  | 0, hs, i, n, _, _, h => h
  | f + 1, hs, i, n, hl, hi, h => by
    unfold downP
    split
    · exact h
    · dsimp only
      generalize hj : (if 2 * i + 2 < n ∧ ltD (gD hs (2 * i + 2)) (gD hs (2 * i + 1)) then 2 * i + 2 else 2 * i + 1) = j
      have hjn : j < n := by
        rename_i hn
        split at hj
        · rename_i hc; omega
        · omega
      split
      · exact down_all C hC f _ j n (by rw [swapD_length]; exact hl) hjn (hC _ _ _ h (by omega) (by omega))
      · exact h
theorem up_all (C : List Dl → Prop) (hC : ∀ hs i j, C hs → i < hs.length → j < hs.length → C (swapD hs i j)) : ∀ (f : Nat) (hs : List Dl) (j : Nat), j < hs.length → C hs → C (upP f hs j)
  | 0, hs, j, _, h => h
  | f + 1, hs, j, hj, h => by
    unfold upP
    split
    · exact h
    · exact up_all C hC f _ _ (by rw [swapD_length]; omega) (hC _ _ _ h (by omega) (by omega))
theorem fix_all (C : List Dl → Prop) (hC : ∀ hs i j, C hs → i < hs.length → j < hs.length → C (swapD hs i j)) (hs : List Dl) (i n : Nat) (hl : n ≤ hs.length) (hi : i < n) (h : C hs) : C (fixP hs i n) := by
  have hd := down_all C hC n hs i n hl hi h
  unfold fixP
  split
  · exact hd
  · exact up_all C hC _ _ _ (by rw [down_length]; omega) hd
theorem down_past : ∀ (f : Nat) (hs : List Dl) (i n : Nat), n ≤ hs.length → i < n → ∀ k, n ≤ k → gD (downP f hs i n).1 k = gD hs k
  | 0, hs, i, n, _, _, k, _ => rfl
  | f + 1, hs, i, n, hl, hi, k, hk => by
    unfold downP
    split
    · rfl
    · dsimp only
      generalize hj : (if 2 * i + 2 < n ∧ ltD (gD hs (2 * i + 2)) (gD hs (2 * i + 1)) then 2 * i + 2 else 2 * i + 1) = j
      have hjn : j < n := by
        rename_i hn
        split at hj
        · rename_i hc; omega
        · omega
      split
      · rw [down_past f _ j n (by rw [swapD_length]; exact hl) hjn k hk, gD_swap _ _ _ _ (by omega) (by omega), if_neg (by omega), if_neg (by omega)]
      · rfl
end Go.Proofs.Ytmkicbphbegjbaa
namespace Go.Proofs.Ytmkicbphbegjbaa
open Go Go.Sse
set_option linter.unusedVariables false
set_option linter.unusedSimpArgs false
set_option maxRecDepth 10000
abbrev tTm : Nat := 85
abbrev tDl : Nat := 87
abbrev tPd : Nat := 88
def encP (b : Nat) : List SV := [ptr b]
abbrev dlC (d : Dl) : List SV := [str d.nm, int d.tm, int d.od, int d.pl]
abbrev dlO (d : Dl) : Own := .obj d.b tDl (dlC d)
abbrev bsD (hs : List Dl) : List Nat := hs.map Dl.b
abbrev rowD (s : Value) (n : Nat) (bs : List Nat) : Own := .row s tPd 1 n (elOf encP 0 bs)
abbrev hpL (b : Nat) (m mn : SV) (s : Value) (hs : List Dl) : List Own := .obj b tTm [.val s, m, mn] :: rowD s hs.length (bsD hs) :: hs.map dlO
theorem hpL_at {hs : List Dl} {i : Nat} (h : i < hs.length) (o p : Own) : (o :: p :: hs.map dlO)[i + 2]? = some (.obj (gD hs i).b tDl (dlC (gD hs i))) := by
  show (hs.map dlO)[i]? = _
  rw [List.getElem?_map, gD, List.getD_eq_getElem?_getD, List.getElem?_eq_getElem h]; rfl
theorem bs_at (hs : List Dl) (i : Nat) : (bsD hs).getD i 0 = (gD hs i).b := by
  simp only [gD, List.getD_eq_getElem?_getD, List.getElem?_map]
  cases hs[i]? <;> rfl
theorem bs_len (hs : List Dl) : (bsD hs).length = hs.length := List.length_map _
theorem bs_el {hs : List Dl} {i : Nat} : ((elOf encP 0 (bsD hs)) i).getD 0 .any = ptr (gD hs i).b := by
  simp only [elOf, encP, bs_at]; rfl
theorem el_at (bs : List Nat) (i : Nat) : ((elOf encP 0 bs) i).getD 0 .any = ptr (bs.getD i 0) := rfl
set_option maxHeartbeats 4000000 in
theorem less_ok (b : Nat) (m mn : SV) (s : Value) (hs : List Dl) (i j : Nat) (hi : i < hs.length) (hj : j < hs.length) : FnC Try.prog 68 [.val s, int i, int j] (hpL b m mn s hs) (fun r L => r = bool (decide (ltD (gD hs i) (gD hs j))) ∧ L = hpL b m mn s hs) := by
  have hI := hpL_at hi (.obj b tTm [.val s, m, mn]) (rowD s hs.length (bsD hs))
  have hJ := hpL_at hj (.obj b tTm [.val s, m, mn]) (rowD s hs.length (bsD hs))
  refine FnC.intro Try.func68 rfl Try.ntmps68 rfl fun Z w0 hG => ?_
  refine W.rowView 1 rfl (by omega) ?_
  rintro r cap rfl hc1 hc2
  by_cases hne : (gD hs i).tm ≠ (gD hs j).tm
  · rw [show decide (ltD (gD hs i) (gD hs j)) = decide ((gD hs i).tm < (gD hs j).tm) from decide_eq_decide.2 (by unfold ltD; omega)]
    focus (
 (refine W.seq (W.region (Jx.assign rfl rfl (J.nil (N.seq (W.seq (W.seq ?_)))))))
 (refine W.draw follows ?_)
 (refine JD.calm rfl (by decide +kernel) ?_)
 (refine Cx.move rfl rfl ?_)
 (refine Cx.move rfl rfl ?_)
 (refine Cx.indexRow i rfl rfl rfl hi rfl ?_)
 (refine Cx.loadRow rfl 1 rfl i 0 rfl hi (by decide) bs_el rfl ?_)
 (refine Cx.nilCheck rfl rfl ?_)
 (refine Cx.fieldAddr rfl rfl ?_)
 (refine Cx.load rfl (i + 2) hI rfl rfl ?_)
 (refine Cx.move rfl rfl ?_)
 (refine Cx.move rfl rfl ?_)
 (refine Cx.indexRow j rfl rfl rfl hj rfl ?_)
 (refine Cx.loadRow rfl 1 rfl j 0 rfl hj (by decide) bs_el rfl ?_)
 (refine Cx.nilCheck rfl rfl ?_)
 (refine Cx.fieldAddr rfl rfl ?_)
 (refine Cx.load rfl (j + 2) hJ rfl rfl ?_)
 (refine Cx.neqI rfl rfl rfl ?_)
 (refine SegC.nil ?_)
 (refine N.seq (W.cT rfl ?_))
 (refine W.seq ?_)
 (refine W.draw follows ?_)
 (refine JD.calm rfl (by decide +kernel) ?_)
 (refine Cx.move rfl rfl ?_)
 (refine Cx.move rfl rfl ?_)
 (refine Cx.indexRow i rfl rfl rfl hi rfl ?_)
 (refine Cx.loadRow rfl 1 rfl i 0 rfl hi (by decide) bs_el rfl ?_)
 (refine Cx.nilCheck rfl rfl ?_)
 (refine Cx.fieldAddr rfl rfl ?_)
 (refine Cx.load rfl (i + 2) hI rfl rfl ?_)
 (refine Cx.move rfl rfl ?_)
 (refine Cx.move rfl rfl ?_)
 (refine Cx.indexRow j rfl rfl rfl hj rfl ?_)
 (refine Cx.loadRow rfl 1 rfl j 0 rfl hj (by decide) bs_el rfl ?_)
 (refine Cx.nilCheck rfl rfl ?_)
 (refine Cx.fieldAddr rfl rfl ?_)
 (refine Cx.load rfl (j + 2) hJ rfl rfl ?_)
 (refine Cx.lssI rfl rfl rfl ?_)
 (refine Cx.assign rfl rfl ?_)
 (refine SegC.nil ?_)
 (refine N.seq (W.ret (N.noGotoRet ?_)))
 (refine id ?_; rotate_left))
    exact N.ret (rs := [.tmp 6]) rfl (.tmp rfl .nil) ⟨rfl, rfl⟩
  · rw [show decide (ltD (gD hs i) (gD hs j)) = decide ((gD hs i).od < (gD hs j).od) from decide_eq_decide.2 (by unfold ltD; omega)]
    focus (
 (refine W.seq (W.region (Jx.assign rfl rfl (J.nil (N.seq (W.seq (W.seq ?_)))))))
 (refine W.draw follows ?_)
 (refine JD.calm rfl (by decide +kernel) ?_)
 (refine Cx.move rfl rfl ?_)
 (refine Cx.move rfl rfl ?_)
 (refine Cx.indexRow i rfl rfl rfl hi rfl ?_)
 (refine Cx.loadRow rfl 1 rfl i 0 rfl hi (by decide) bs_el rfl ?_)
 (refine Cx.nilCheck rfl rfl ?_)
 (refine Cx.fieldAddr rfl rfl ?_)
 (refine Cx.load rfl (i + 2) hI rfl rfl ?_)
 (refine Cx.move rfl rfl ?_)
 (refine Cx.move rfl rfl ?_)
 (refine Cx.indexRow j rfl rfl rfl hj rfl ?_)
 (refine Cx.loadRow rfl 1 rfl j 0 rfl hj (by decide) bs_el rfl ?_)
 (refine Cx.nilCheck rfl rfl ?_)
 (refine Cx.fieldAddr rfl rfl ?_)
 (refine Cx.load rfl (j + 2) hJ rfl rfl ?_)
 (refine Cx.neqI rfl rfl rfl ?_)
 (refine SegC.nil ?_)
 (refine N.seq (W.cF rfl ?_))
 (refine W.skip (N.seq (W.seq ?_)))
 (refine W.draw follows ?_)
 (refine JD.calm rfl (by decide +kernel) ?_)
 (refine Cx.move rfl rfl ?_)
 (refine Cx.move rfl rfl ?_)
 (refine Cx.indexRow i rfl rfl rfl hi rfl ?_)
 (refine Cx.loadRow rfl 1 rfl i 0 rfl hi (by decide) bs_el rfl ?_)
 (refine Cx.nilCheck rfl rfl ?_)
 (refine Cx.fieldAddr rfl rfl ?_)
 (refine Cx.load rfl (i + 2) hI rfl rfl ?_)
 (refine Cx.move rfl rfl ?_)
 (refine Cx.move rfl rfl ?_)
 (refine Cx.indexRow j rfl rfl rfl hj rfl ?_)
 (refine Cx.loadRow rfl 1 rfl j 0 rfl hj (by decide) bs_el rfl ?_)
 (refine Cx.nilCheck rfl rfl ?_)
 (refine Cx.fieldAddr rfl rfl ?_)
 (refine Cx.load rfl (j + 2) hJ rfl rfl ?_)
 (refine Cx.lssI rfl rfl rfl ?_)
 (refine Cx.assign rfl rfl ?_)
 (refine SegC.nil ?_)
 (refine N.seq (W.ret ?_))
 (refine id ?_; rotate_left))
    exact N.ret (rs := [.tmp 6]) rfl (.tmp rfl .nil) ⟨rfl, rfl⟩
end Go.Proofs.Ytmkicbphbegjbaa
namespace Go.Proofs.Ytmkicbphbegjbaa
open Go Go.Sse
set_option linter.unusedVariables false
set_option linter.unusedSimpArgs false
set_option maxRecDepth 10000
section
variable {P : Program} {Γ : Ctx} {ops : Array Oper} {Q : Exit → Act → World → Prop} {F G : List (Nat × SV)} {L : List Own} {l rest : List Oper} {S idx : List Nat}
variable {dst : Option Tmp} {ty : TypeId} {pos : String} {aft : Array Edge} {g : Option (Nat × Bool)}
theorem J.storeRowN {α : Type} {T b o n cap E sz : Nat} [h : TSc P T] {x y : Operand} {s : SV} {enc : α → List SV} {d : α} {ll : List α} (hn : ll.length = n) (k j : Nat) (a' : α) (hx : ev F x = some (.val (.pointer (some ⟨b, o, none⟩)))) (hy : ev F y = some s) (h1 : One s) (i : Nat)
    (hi : L[i]? = some (.row (.slice (some ⟨b, 0, none⟩) n cap) E sz n (elOf enc d ll))) (ho : o = k * sz + j) (hk : k < n) (hj : j < sz) (he : enc a' = (enc (ll.getD k d)).set j s) {L' : List Own}
    (hL : L.set i (.row (.slice (some ⟨b, 0, none⟩) n cap) E sz n (elOf enc d (ll.set k a'))) = L') (kk : J P Γ ops Q F L' rest) : J P Γ ops Q F L (⟨none, .store T x y, ty, pos, aft, none⟩ :: rest) := by
  subst hn
  exact J.storeRowL k j a' hx hy h1 i hi ho hk hj he hL kk
theorem JP.storeRowN {α : Type} {T b o n cap E sz : Nat} [h : TSc P T] {x y : Operand} {s : SV} {enc : α → List SV} {d : α} {ll : List α} (hn : ll.length = n) (i : Nat) (ks S' idx' : List Nat) (hc : (okIdx l.toArray S idx && okStep l.toArray S idx i ks S' idx') = true) (hoi : l[i]? = some ⟨none, .store T x y, ty, pos, aft, g⟩)
    (hre : SegC P Γ l.toArray L G (opsAt l idx) (Ag G idx.length)) (k j : Nat) (a' : α) (hx : ev (keep ks G) x = some (.val (.pointer (some ⟨b, o, none⟩)))) (hy : ev (keep ks G) y = some s) (h1 : One s) (q : Nat)
    (hi : L[q]? = some (.row (.slice (some ⟨b, 0, none⟩) n cap) E sz n (elOf enc d ll))) (ho : o = k * sz + j) (hk : k < n) (hj : j < sz) (he : enc a' = (enc (ll.getD k d)).set j s) {L' : List Own}
    (hL : L.set q (.row (.slice (some ⟨b, 0, none⟩) n cap) E sz n (elOf enc d (ll.set k a'))) = L') (kk : JP P Γ l.toArray Q S' idx' G L') : JP P Γ l.toArray Q S idx G L := by
  subst hn
  exact JP.storeRowL i ks S' idx' hc hoi hre k j a' hx hy h1 q hi ho hk hj he hL kk
theorem Step.rowCut {Γ : Ctx} {L : List Own} {w : World} {b n cap E sz m : Nat} {el el' : Nat → List SV} (i : Nat) (h : WSt Γ L w) (hi : L[i]? = some (.row (.slice (some ⟨b, 0, none⟩) n cap) E sz n el)) (hm : m ≤ n) (he : ∀ k, k < m → el' k = el k) : Step Γ L (L.set i (.row (.slice (some ⟨b, 0, none⟩) m cap) E sz m el')) w w := by
  obtain ⟨cur, fz, hb, hu, h2, h3, h4, h5, h6, h7⟩ := row_at h hi
  refine Step.upd h hi rfl ⟨rfl, rfl, rfl, rfl⟩ (fun _ _ => rfl) (.inr ⟨b, cap, cur, fz, rfl, hb, hu, by omega, h3, h4, h5, fun k hk => by rw [he k hk]; exact h6 k (by omega), fun k q hk hq => by rw [he k hk]; exact h7 k q (by omega) hq⟩)
theorem N.rowCut {K : Act → World → Prop} {b n cap E sz m : Nat} {el : Nat → List SV} (i : Nat) (el' : Nat → List SV) (hi : L[i]? = some (.row (.slice (some ⟨b, 0, none⟩) n cap) E sz n el)) (hm : m ≤ n) (he : ∀ k, k < m → el' k = el k) (h : N Γ K F (L.set i (.row (.slice (some ⟨b, 0, none⟩) m cap) E sz m el'))) : N Γ K F L :=
  ⟨fun a w hst => h.go a w (hst.step (Step.rowCut i hst.ws hi hm he))⟩
theorem Pv.rawSh {T E : Nat} [h : TSlice P T E] {sz by' : Nat} {z : List Value} [hI : TInfo P E sz by' z] {x j : Operand} {k' : IntKind} {b n cap : Nat} {m' : Int}
    (hx : ev F x = some (.val (.slice (some ⟨b, 0, none⟩) n cap))) (hj : ev F j = some (.val (.int k' m'))) (h1 : 0 ≤ m') (h2 : m' ≤ cap) (hc : 0 < cap) :
    Pv P Γ F L ⟨dst, .slice T x none (some j) none, ty, pos, aft, g⟩ (.val (.slice (some ⟨b, 0, none⟩) m'.toNat cap)) := fun ρ w hst => by
  have hv := hst.evv (x := x) (by simp [Op.operands]) hx
  have hjv := hst.evv (x := j) (by simp [Op.operands]) hj
  have e1 := run_sliceBoundNat (P := P) (k := k') (i := m') (y := cap) (code := .sliceAcap) (w := w) (by omega) (by omega)
  refine ⟨.slice (if cap = 0 then some ⟨b, 0, none⟩ else (some (⟨b, 0, none⟩ : Addr)).map (·.add (0 * sz))) m'.toNat cap, ?_, ?_⟩
  · simp [execOp, hv, hjv, Instr.sliceAt, Instr.slice, Instr.sliceBounds, run_underlying h.ok, e1, slice_sz (P := P) (E := E) (sz := sz)]
  · rw [if_neg (by omega)]
    simp [Addr.add]
    exact .val _
end
theorem set_swap_perm {α : Type} (M : List α) (i j : Nat) (x y : α) (hi : i < M.length) (hj : j < M.length) : ((M.set j x).set i y).Perm ((M.set i x).set j y) := by
  by_cases e : i = j
  · subst e; simp
  · have hi' : i < ((M.set j x).set i y).length := by simpa using hi
    have hj' : j < ((M.set j x).set i y).length := by simpa using hj
    have h : ((((M.set j x).set i y).set i ((M.set j x).set i y)[j]).set j ((M.set j x).set i y)[i]).Perm ((M.set j x).set i y) := List.set_set_perm hi' hj'
    refine List.Perm.trans (List.Perm.of_eq ?_) h |>.symm
    rw [List.getElem_set_ne (by omega), List.getElem_set_self, List.getElem_set_self, List.set_set, List.set_comm _ _ (by omega : j ≠ i), List.set_set]
theorem bs_swap (hs : List Dl) (i j : Nat) : bsD (swapD hs i j) = ((bsD hs).set i (gD hs j).b).set j (gD hs i).b := by
  simp only [bsD, swapD, List.map_set]
theorem hpL_set {hs : List Dl} {i j : Nat} (hi : i < hs.length) (hj : j < hs.length) (o p : Own) (p' : Int) :
    ∃ q, (o :: p :: (hs.map dlO).set j (dlO { gD hs j with pl := p' }))[i + 2]? = some (.obj (gD hs i).b tDl (dlC { gD hs i with pl := q })) := by
  by_cases e : i = j
  · subst e
    refine ⟨p', ?_⟩
    show ((hs.map dlO).set i (dlO { gD hs i with pl := p' }))[i]? = _
    rw [List.getElem?_set_self (by simpa using hi)]
  · refine ⟨(gD hs i).pl, ?_⟩
    show ((hs.map dlO).set j (dlO { gD hs j with pl := p' }))[i]? = _
    rw [List.getElem?_set_ne (by omega)]
    exact hpL_at hi o p
theorem swapO (hs : List Dl) (i j : Nat) (hi : i < hs.length) (hj : j < hs.length) : ((((hs.map dlO).set j (dlO { gD hs j with pl := i })).set i (dlO { gD hs i with pl := j }))).Perm ((swapD hs i j).map dlO) := by
  refine (set_swap_perm _ _ _ _ _ (by simpa using hi) (by simpa using hj)).trans (List.Perm.of_eq ?_)
  simp only [swapD, swapD.j', List.map_set]
set_option maxHeartbeats 4000000 in
theorem swap_ok (b : Nat) (m mn : SV) (s : Value) (hs : List Dl) (i j : Nat) (hi : i < hs.length) (hj : j < hs.length) : FnC Try.prog 69 [.val s, int i, int j] (hpL b m mn s hs) (fun _ L => L = hpL b m mn s (swapD hs i j)) := by
  have hI := hpL_at hi (.obj b tTm [.val s, m, mn]) (rowD s hs.length (bsD hs))
  have hJ := hpL_at hj (.obj b tTm [.val s, m, mn]) (rowD s hs.length (bsD hs))
  have hbl : (bsD hs).length = hs.length := bs_len hs
  have hbl2 : ((bsD hs).set i (gD hs j).b).length = hs.length := by rw [List.length_set]; exact hbl
  have e1 : encP (gD hs j).b = (encP ((bsD hs).getD i 0)).set 0 (ptr (gD hs j).b) := rfl
  have e2 : encP (gD hs i).b = (encP (((bsD hs).set i (gD hs j).b).getD j 0)).set 0 (ptr (gD hs i).b) := rfl
  have g1 : ((elOf encP 0 (((bsD hs).set i (gD hs j).b).set j (gD hs i).b)) i).getD 0 .any = ptr (gD hs j).b := by
    rw [el_at]
    congr 4
    simp only [List.getD_eq_getElem?_getD, List.getElem?_set, List.length_set, hbl]
    by_cases e : i = j
    · subst e; simp [hi]
    · simp [hi, Ne.symm e]
  have g2 : ((elOf encP 0 (((bsD hs).set i (gD hs j).b).set j (gD hs i).b)) j).getD 0 .any = ptr (gD hs i).b := by
    rw [el_at]
    congr 4
    simp only [List.getD_eq_getElem?_getD, List.getElem?_set, List.length_set, hbl]
    simp [hj]
  have hso := swapO hs i j hi hj
  rw [show hpL b m mn s (swapD hs i j) = .obj b tTm [.val s, m, mn] :: rowD s hs.length (((bsD hs).set i (gD hs j).b).set j (gD hs i).b) :: (swapD hs i j).map dlO by rw [hpL, swapD_length, bs_swap]]
  refine FnC.intro Try.func69 rfl Try.ntmps69 rfl fun Z w0 hG => ?_
  refine W.rowView 1 rfl (by omega) ?_
  rintro r cap rfl hc1 hc2
  obtain ⟨q, hq⟩ := hpL_set hi hj (.obj b tTm [.val (.slice (some ⟨r, 0, none⟩) hs.length cap), m, mn]) (rowD (.slice (some ⟨r, 0, none⟩) hs.length cap) hs.length (((bsD hs).set i (gD hs j).b).set j (gD hs i).b)) i
  have hJ2 := hpL_at hj (.obj b tTm [.val (.slice (some ⟨r, 0, none⟩) hs.length cap), m, mn]) (rowD (.slice (some ⟨r, 0, none⟩) hs.length cap) hs.length (((bsD hs).set i (gD hs j).b).set j (gD hs i).b))
  focus (
 (refine W.seq ?_)
 (refine W.draw follows ?_)
 (refine JD.begin (ops := [_, _, _, _, _, _, _, _, _, _, _, _, _, _, ⟨_, .indexAddr _ _ _, _, _, _, _⟩, _].toArray) 16 rfl ?_; refine JP.more [0, 1, 2, 3, 4, 5, 6, 7, 8, 9, 10, 11, 12] _ rfl (by decide +kernel) ?_)
 (refine Cx.move rfl rfl ?_)
 (refine Cx.move rfl rfl ?_)
 (refine Cx.move rfl rfl ?_)
 (refine Cx.move rfl rfl ?_)
 (refine Cx.move rfl rfl ?_)
 (refine Cx.move rfl rfl ?_)
 (refine Cx.indexRow j rfl rfl rfl hj rfl ?_)
 (refine Cx.loadRow rfl 1 rfl j 0 rfl hj (by decide) bs_el rfl ?_)
 (refine Cx.move rfl rfl ?_)
 (refine Cx.move rfl rfl ?_)
 (refine Cx.indexRow i rfl rfl rfl hi rfl ?_)
 (refine Cx.loadRow rfl 1 rfl i 0 rfl hi (by decide) bs_el rfl ?_)
 (refine Cx.indexRow i rfl rfl rfl hi rfl ?_)
 (refine SegC.nil ?_)
 (refine JP.storeRowN (idx := [0, 1, 2, 3, 4, 5, 6, 7, 8, 9, 10, 11, 12]) hbl 13 [18, 13] [0, 1, 4, 5, 6, 7, 8, 9, 10, 11, 12, 13] [2, 3] (by decide +kernel) rfl ?_ i 0 (gD hs j).b rfl rfl (One.val rfl) 1 rfl rfl hi (by decide) e1 rfl ?_)
 (refine Cx.move rfl rfl ?_)
 (refine Cx.move rfl rfl ?_)
 (refine Cx.move rfl rfl ?_)
 (refine Cx.move rfl rfl ?_)
 (refine Cx.move rfl rfl ?_)
 (refine Cx.move rfl rfl ?_)
 (refine Cx.indexRow j rfl rfl rfl hj rfl ?_)
 (refine Cx.loadRow rfl 1 rfl j 0 rfl hj (by decide) bs_el rfl ?_)
 (refine Cx.move rfl rfl ?_)
 (refine Cx.move rfl rfl ?_)
 (refine Cx.indexRow i rfl rfl rfl hi rfl ?_)
 (refine Cx.loadRow rfl 1 rfl i 0 rfl hi (by decide) bs_el rfl ?_)
 (refine Cx.indexRow i rfl rfl rfl hi rfl ?_)
 (refine SegC.nil ?_)
 (refine Ag.cons rfl ?_)
 (refine Ag.cons rfl ?_)
 (refine Ag.cons rfl ?_)
 (refine Ag.cons rfl ?_)
 (refine Ag.cons rfl ?_)
 (refine Ag.cons rfl ?_)
 (refine Ag.cons rfl ?_)
 (refine Ag.cons rfl ?_)
 (refine Ag.cons rfl ?_)
 (refine Ag.cons rfl ?_)
 (refine Ag.cons rfl ?_)
 (refine Ag.cons rfl ?_)
 (refine Ag.cons rfl ?_)
 (refine Ag.nil)
 (refine JP.tail (idx := [2, 3]) 14 (by decide +kernel) (by decide +kernel) rfl rfl ?_ ?_)
 (refine Cx.move rfl rfl ?_)
 (refine Cx.move rfl rfl ?_)
 (refine SegC.nil ?_)
 (refine Ag.cons rfl ?_)
 (refine Ag.cons rfl ?_)
 (refine Ag.nil)
 (refine Jx.indexRow j rfl rfl rfl hj rfl ?_)
 (refine J.storeRowN hbl2 j 0 (gD hs i).b rfl rfl (One.val rfl) 1 rfl rfl hj (by decide) e2 rfl ?_)
 (refine J.nil (N.seq ?_))
 (refine W.draw follows ?_)
 (refine JD.begin 16 rfl ?_; refine JP.more [0, 1, 2, 3, 4, 5, 6, 7, 8, 9, 10, 11] _ rfl (by decide +kernel) ?_)
 (refine Cx.move rfl rfl ?_)
 (refine Cx.move rfl rfl ?_)
 (refine Cx.indexRow i rfl rfl rfl hi rfl ?_)
 (refine Cx.loadRow rfl 1 rfl i 0 rfl hi (by decide) g1 rfl ?_)
 (refine Cx.move rfl rfl ?_)
 (refine Cx.move rfl rfl ?_)
 (refine Cx.indexRow j rfl rfl rfl hj rfl ?_)
 (refine Cx.loadRow rfl 1 rfl j 0 rfl hj (by decide) g2 rfl ?_)
 (refine Cx.move rfl rfl ?_)
 (refine Cx.move rfl rfl ?_)
 (refine Cx.nilCheck rfl rfl ?_)
 (refine Cx.fieldAddr rfl rfl ?_)
 (refine SegC.nil ?_)
 (refine JP.store (idx := [0, 1, 2, 3, 4, 5, 6, 7, 8, 9, 10, 11]) 12 [31, 28] [0, 1, 2, 3, 4, 5, 6, 7, 8, 10, 11, 12] [9] (by decide +kernel) rfl ?_ rfl rfl (One.val rfl) (j + 2) hJ2 rfl rfl rfl ?_)
 (refine Cx.move rfl rfl ?_)
 (refine Cx.move rfl rfl ?_)
 (refine Cx.indexRow i rfl rfl rfl hi rfl ?_)
 (refine Cx.loadRow rfl 1 rfl i 0 rfl hi (by decide) g1 rfl ?_)
 (refine Cx.move rfl rfl ?_)
 (refine Cx.move rfl rfl ?_)
 (refine Cx.indexRow j rfl rfl rfl hj rfl ?_)
 (refine Cx.loadRow rfl 1 rfl j 0 rfl hj (by decide) g2 rfl ?_)
 (refine Cx.move rfl rfl ?_)
 (refine Cx.move rfl rfl ?_)
 (refine Cx.nilCheck rfl rfl ?_)
 (refine Cx.fieldAddr rfl rfl ?_)
 (refine SegC.nil ?_)
 (refine Ag.cons rfl ?_)
 (refine Ag.cons rfl ?_)
 (refine Ag.cons rfl ?_)
 (refine Ag.cons rfl ?_)
 (refine Ag.cons rfl ?_)
 (refine Ag.cons rfl ?_)
 (refine Ag.cons rfl ?_)
 (refine Ag.cons rfl ?_)
 (refine Ag.cons rfl ?_)
 (refine Ag.cons rfl ?_)
 (refine Ag.cons rfl ?_)
 (refine Ag.cons rfl ?_)
 (refine Ag.nil)
 (refine JP.tail (idx := [9]) 13 (by decide +kernel) (by decide +kernel) rfl rfl ?_ ?_)
 (refine Cx.move rfl rfl ?_)
 (refine SegC.nil ?_)
 (refine Ag.cons rfl ?_)
 (refine Ag.nil)
 (refine Jx.nilCheck rfl rfl ?_)
 (refine Jx.fieldAddr rfl rfl ?_)
 (refine J.store rfl rfl (One.val rfl) (i + 2) hq rfl rfl rfl ?_)
 (refine J.nil ?_)
 (refine id ?_; rotate_left))
  refine N.perm (List.Perm.cons _ (List.Perm.cons _ hso)) ?_
  exact N.fin (rs := []) rfl .nil rfl
end Go.Proofs.Ytmkicbphbegjbaa
namespace Go.Proofs.Ytmkicbphbegjbaa
open Go Go.Sse
set_option linter.unusedVariables false
set_option linter.unusedSimpArgs false
set_option maxRecDepth 10000
abbrev tLp : Nat := 90
instance mLen : TMeth Try.prog tLp "Len" 67 false := ⟨by kernel_rfl⟩
instance mLess : TMeth Try.prog tLp "Less" 68 false := ⟨by kernel_rfl⟩
instance mSwap : TMeth Try.prog tLp "Swap" 69 false := ⟨by kernel_rfl⟩
instance mPop : TMeth Try.prog tLp "Pop" 70 true := ⟨by kernel_rfl⟩
instance mPush : TMeth Try.prog tLp "Push" 71 true := ⟨by kernel_rfl⟩
abbrev hIf (b : Nat) : SV := .val (.iface tLp (.pointer (some ⟨b, 0, none⟩)))
abbrev dIf (b : Nat) : SV := .val (.iface tPd (.pointer (some ⟨b, 0, none⟩)))
set_option maxHeartbeats 4000000 in
theorem len_ok (b : Nat) (m mn : SV) (s : Value) (hs : List Dl) : FnC Try.prog 67 [.val s] (hpL b m mn s hs) (fun r L => r = int hs.length ∧ L = hpL b m mn s hs) := by
  refine FnC.intro Try.func67 rfl Try.ntmps67 rfl fun Z w0 hG => ?_
  focus (
 (refine W.seq (W.region (Jx.assign rfl rfl (J.nil (N.seq (W.seq (W.region (Jx.move rfl rfl (Jx.lenRow rfl 1 rfl rfl ?_)))))))))
 (refine Jx.assign rfl rfl (J.nil (N.seq (W.ret ?_))))
 (refine id ?_; rotate_left))
  exact N.ret (rs := [.tmp 2]) rfl (.tmp rfl .nil) ⟨rfl, rfl⟩
set_option maxHeartbeats 4000000 in
theorem pop_ok (b : Nat) (m mn : SV) (s : Value) (k : Nat) (bs : List Nat) : FnC Try.prog 70 [ptr b] [.obj b tTm [.val s, m, mn], rowD s (k + 1) bs] (fun r L => ∃ s' : Value, s'.oneCell' = true ∧ r = dIf (bs.getD k 0) ∧ L = [.obj b tTm [.val s', m, mn], rowD s' k (bs.take k)]) := by
  have e1 : ((k + 1 : Nat) : Int) - 1 = (k : Int) := by omega
  have hk : k < k + 1 := by omega
  have hcut : ∀ i, i < k → elOf encP 0 (bs.take k) i = elOf encP 0 bs i := fun i hi => by simp only [elOf, List.getD_eq_getElem?_getD, List.getElem?_take, if_pos hi]
  refine FnC.intro Try.func70 rfl Try.ntmps70 rfl fun Z w0 hG => ?_
  refine W.rowView 1 rfl (by omega) ?_
  rintro r cap rfl hc1 hc2
  simp only [maxLen] at hc2
  focus (
 (refine W.seq (W.region (Jx.assign rfl rfl (J.nil (N.seq (W.seq (W.region (Jx.move rfl rfl (Jx.nilCheck rfl rfl ?_)))))))))
 (refine Jx.load rfl 0 rfl rfl rfl ?_)
 (refine Jx.lenRow rfl 1 rfl rfl ?_)
 (refine Jx.sub64 rfl rfl (by omega) rfl ?_; rw [e1])
 (refine Jx.assign rfl rfl (J.nil (N.seq (W.seq (W.region (Jx.move rfl rfl (Jx.nilCheck rfl rfl ?_)))))))
 (refine Jx.load rfl 0 rfl rfl rfl ?_)
 (refine Jx.move rfl rfl ?_)
 (refine Jx.indexRow k rfl rfl rfl hk rfl ?_)
 (refine Jx.loadRow rfl 1 rfl k 0 rfl hk (by decide) (el_at _ _) rfl ?_)
 (refine Jx.assign rfl rfl (J.nil (N.seq (W.seq (W.region (Jx.move rfl rfl (Jx.move rfl rfl (Jx.nilCheck rfl rfl ?_))))))))
 (refine Jx.load rfl 0 rfl rfl rfl ?_)
 (refine Jx.move rfl rfl ?_)
 (refine J.pv (Pv.rawSh rfl rfl (by omega) (by omega) (by omega)) rfl ?_; rw [Int.toNat_natCast])
 (refine Jx.nilCheck rfl rfl ?_)
 (refine J.st 0 rfl rfl rfl rfl rfl rfl ?_)
 (refine J.nil (N.seq (W.seq (W.region (Jx.move rfl rfl (Jx.mkIface rfl rfl ?_))))))
 (refine Jx.assign rfl rfl (J.nil (N.seq (W.ret ?_))))
 (refine id ?_; rotate_left))
  refine N.rowCut (m := k) 1 (elOf encP 0 (bs.take k)) rfl (by omega) hcut ?_
  exact N.ret (rs := [.tmp 2]) rfl (.tmp rfl .nil) ⟨_, rfl, rfl, rfl⟩
set_option maxHeartbeats 4000000 in
theorem push_ok (b : Nat) (m mn : SV) (s : Value) (n : Nat) (bs : List Nat) (d : Dl) (hn : bs.length = n) (hb : n < 1099511627776) : FnC Try.prog 71 [ptr b, dIf d.b] [.obj b tTm [.val s, m, mn], rowD s n bs, dlO d] (fun _ L => ∃ s' : Value, s'.oneCell' = true ∧ L = [.obj b tTm [.val s', m, mn], rowD s' (n + 1) (bs ++ [d.b]), dlO { d with pl := n }]) := by
  subst hn
  have hmx : bs.length + [d.b].length ≤ maxLen ∧ (bs.length + [d.b].length) * 8 ≤ 140737488355328 := by simp only [maxLen, List.length_cons, List.length_nil]; omega
  have hap : (bs ++ [d.b]).length = bs.length + 1 := by rw [List.length_append]; rfl
  refine FnC.intro Try.func71 rfl Try.ntmps71 rfl fun Z w0 hG => ?_
  focus (
 (refine W.seq (W.region (Jx.move rfl rfl (Jx.asIface rfl rfl ?_))))
 (refine Jx.assign rfl rfl (J.nil (N.seq (W.seq (W.region (Jx.move rfl rfl (Jx.move rfl rfl (Jx.nilCheck rfl rfl ?_))))))))
 (refine Jx.load rfl 0 rfl rfl rfl ?_)
 (refine Jx.lenRow rfl 1 rfl rfl ?_)
 (refine Jx.nilCheck rfl rfl ?_)
 (refine Jx.fieldAddr rfl rfl ?_)
 (refine J.store rfl rfl (One.val rfl) 2 rfl rfl rfl rfl ?_)
 (refine J.nil (N.seq (W.region (Jx.move rfl rfl (Jx.move rfl rfl (Jx.nilCheck rfl rfl ?_))))))
 (refine Jx.load rfl 0 rfl rfl rfl ?_)
 (refine Jx.move rfl rfl ?_)
 (refine J.qs (Qs.buildL ptr 0 [d.b] (fun _ => .val rfl) rfl rfl rfl (by decide) (by decide) rfl) rfl ?_)
 (refine J.appendAt (enc := encP) (l := bs) (l2 := [d.b]) 1 rfl rfl (SrcOK.sl rfl) rfl rfl hmx rfl ?_; intro v' hv'; rw [hap])
 (refine Jx.nilCheck rfl rfl ?_)
 (refine J.store rfl rfl (One.val hv') 0 rfl rfl rfl rfl ?_)
 (refine J.nil ?_)
 (refine id ?_; rotate_left))
  exact N.fin (rs := []) rfl .nil ⟨_, hv', rfl⟩
end Go.Proofs.Ytmkicbphbegjbaa
namespace Go.Proofs.Ytmkicbphbegjbaa
open Go Go.Sse
set_option linter.unusedVariables false
set_option linter.unusedSimpArgs false
set_option maxRecDepth 10000
theorem ref0 {F : List (Nat × SV)} {i : Nat} {s : SV} (h : Sse.look F i = some s) : ∃ t, Sse.look F i = some t ∧ Sub t s := ⟨s, h, Sub.refl s⟩
theorem down_end (f : Nat) (hs : List Dl) (i n : Nat) (h : n ≤ 2 * i + 1) : downP f hs i n = (hs, i) := by
  cases f with
  | zero => rfl
  | succ f => unfold downP; rw [if_pos h]
theorem down_no (f : Nat) (hs : List Dl) (i n j : Nat) (hn : ¬ n ≤ 2 * i + 1) (hj : (if 2 * i + 2 < n ∧ ltD (gD hs (2 * i + 2)) (gD hs (2 * i + 1)) then 2 * i + 2 else 2 * i + 1) = j) (h : ¬ ltD (gD hs j) (gD hs i)) : downP f hs i n = (hs, i) := by
  cases f with
  | zero => rfl
  | succ f => unfold downP; rw [if_neg hn]; dsimp only; rw [hj, if_neg h]
theorem down_on (f : Nat) (hs : List Dl) (i n j : Nat) (hn : ¬ n ≤ 2 * i + 1) (hj : (if 2 * i + 2 < n ∧ ltD (gD hs (2 * i + 2)) (gD hs (2 * i + 1)) then 2 * i + 2 else 2 * i + 1) = j) (h : ltD (gD hs j) (gD hs i)) : downP (f + 1) hs i n = downP f (swapD hs i j) j n := by
  conv => lhs; unfold downP
  rw [if_neg hn]; dsimp only; rw [hj, if_pos h]
set_option maxHeartbeats 4000000 in
theorem down_ok (b : Nat) (m mn : SV) (s : Value) (hs0 : List Dl) (i0 n : Nat) (hn0 : n ≤ hs0.length) (hi0 : i0 ≤ n) (hb : hs0.length < 1099511627776) : FnC Try.prog 47 [hIf b, int i0, int n] (hpL b m mn s hs0) (fun r L => r = Sse.bool (decide (i0 < (downP n hs0 i0 n).2)) ∧ L = hpL b m mn s (downP n hs0 i0 n).1) := by
  refine FnC.intro Try.func47 rfl Try.ntmps47 rfl fun Z w0 hG => ?_
  generalize hR : downP n hs0 i0 n = R
  focus (
 (refine W.seq (W.region (Jx.assign rfl rfl (J.nil (N.seq (W.seq (W.region (Jx.move rfl rfl (Jx.assign rfl rfl (J.nil (N.seq (W.seq (W.block ?_)))))))))))))
 (refine id ?_; rotate_left))
  refine W.loop (α := Nat × List Dl × Nat) (fun x => [(7, int (x.2.2 : Int)), (0, hIf b), (1, int (i0 : Int)), (2, int (n : Int))]) (fun x => hpL b m mn s x.2.1) (fun x => x.2.1.length = hs0.length ∧ x.2.2 ≤ n ∧ n ≤ x.2.2 + x.1 ∧ downP x.1 x.2.1 x.2.2 n = R) (fun x => n - x.2.2) (n, hs0, i0) ⟨rfl, hi0, by simp only []; omega, hR⟩ rfl ⟨ref0 rfl, ref0 rfl, ref0 rfl, ref0 rfl, trivial⟩ ?_
  rintro ⟨f, hs, i⟩ ⟨hl, hi, hf, hD⟩
  simp only [] at hl hi hf hD ⊢
  have e1 : (2 : Int) * (i : Int) + 1 = ((2 * i + 1 : Nat) : Int) := by omega
  have e2 : ((2 * i + 1 : Nat) : Int) + 1 = ((2 * i + 2 : Nat) : Int) := by omega
  have hz : ¬ (((2 * i + 1 : Nat) : Int) < 0) := by omega
  by_cases hA : n ≤ 2 * i + 1
  · have hA' : (n : Int) ≤ ((2 * i + 1 : Nat) : Int) := by omega
    rw [down_end f hs i n hA] at hD
    subst hD
    focus (
 (refine W.block (W.seq (W.region (Jx.move rfl rfl (Jx.mul64 rfl rfl (by omega) rfl ?_)))))
 (refine Jx.add64 rfl rfl (by omega) rfl ?_; rw [e1])
 (refine Jx.assign rfl rfl (J.nil (N.seq (W.seq (W.seq (W.region (Jx.move rfl rfl (Jx.move rfl rfl (Jx.geqI rfl rfl rfl (Jx.move rfl rfl (J.gN rfl rfl rfl rfl ?_)))))))))))
 (refine J.gN rfl rfl rfl rfl ?_)
 (refine Jx.pT rfl rfl rfl ?_)
 (refine J.nil (N.seq (W.cT rfl ?_)))
 (refine W.exit (N.seq (W.seq (W.region (Jx.move rfl rfl (Jx.move rfl rfl (Jx.gtrI rfl rfl rfl (Jx.assign rfl rfl (J.nil (N.seq (W.ret ?_)))))))))))
 (refine id ?_; rotate_left))
    refine N.ret (rs := [.tmp 6]) rfl (.tmp rfl .nil) ⟨?_, rfl⟩
    show Sse.bool _ = Sse.bool _
    refine congrArg (fun x => Sse.bool x) (decide_eq_decide.2 ?_); show (i0 : Int) < (i : Int) ↔ i0 < i; omega
  have hA' : ¬ (n : Int) ≤ ((2 * i + 1 : Nat) : Int) := by omega
  have q1 : 2 * i + 1 < hs.length := by omega
  have qi : i < hs.length := by omega
  by_cases h2 : 2 * i + 2 < n
  · have q2 : 2 * i + 2 < hs.length := by omega
    have h2' : ((2 * i + 2 : Nat) : Int) < (n : Int) := by omega
    by_cases h4 : ltD (gD hs (2 * i + 2)) (gD hs (2 * i + 1))
    · have h4' : decide (ltD (gD hs (2 * i + 2)) (gD hs (2 * i + 1))) = true := decide_eq_true h4
      have hj : (if 2 * i + 2 < n ∧ ltD (gD hs (2 * i + 2)) (gD hs (2 * i + 1)) then 2 * i + 2 else 2 * i + 1) = 2 * i + 2 := if_pos ⟨h2, h4⟩
      by_cases h3 : ltD (gD hs (2 * i + 2)) (gD hs i)
      · obtain ⟨f, rfl⟩ : ∃ f', f = f' + 1 := ⟨f - 1, by omega⟩
        rw [down_on f hs i n _ hA hj h3] at hD
        have h3' : decide (ltD (gD hs (2 * i + 2)) (gD hs i)) = true := decide_eq_true h3
        focus (
 (refine W.block (W.seq (W.region (Jx.move rfl rfl (Jx.mul64 rfl rfl (by omega) rfl ?_)))))
 (refine Jx.add64 rfl rfl (by omega) rfl ?_; rw [e1])
 (refine Jx.assign rfl rfl (J.nil (N.seq (W.seq (W.seq (W.region (Jx.move rfl rfl (Jx.move rfl rfl (Jx.geqI rfl rfl rfl (Jx.move rfl rfl (J.gY rfl rfl rfl ?_)))))))))))
 (refine Jx.move rfl rfl (J.gY rfl rfl rfl ?_))
 (refine Jx.lssI rfl rfl rfl (Jx.pF rfl rfl rfl ?_))
 (refine J.nil (N.seq (W.cF rfl ?_)))
 (refine W.skip (N.seq (W.seq (W.region (Jx.move rfl rfl (Jx.assign rfl rfl (J.nil (N.seq (W.seq (W.seq (W.region (Jx.move rfl rfl ?_))))))))))))
 (refine Jx.add64 rfl rfl (by omega) rfl ?_; rw [e2])
 (refine Jx.assign rfl rfl (J.nil (N.seq (W.seq (W.region (Jx.move rfl rfl (Jx.move rfl rfl (Jx.lssI rfl rfl rfl (Jx.move rfl rfl (J.gY rfl rfl rfl ?_))))))))))
 (refine Jx.move rfl rfl (J.gY rfl rfl rfl ?_))
 (refine Jx.move rfl rfl (J.gY rfl rfl rfl ?_))
 (refine Jx.move rfl rfl (J.gY rfl rfl rfl ?_))
 (refine J.invV rfl 0 rfl rfl (less_ok b m mn s hs (2 * i + 2) (2 * i + 1) q2 q1) (List.append_nil _).symm (evs_args rfl) rfl ?_; rintro _ _ ⟨rfl, rfl⟩; rw [List.append_nil]; simp only [h4'])
 (refine Jx.pT rfl rfl rfl ?_)
 (refine J.nil (N.seq (W.cT rfl ?_)))
 (refine W.region (Jx.move rfl rfl (Jx.assign rfl rfl (J.nil (N.seq (W.seq (W.seq (W.region (Jx.move rfl rfl (Jx.move rfl rfl (Jx.move rfl rfl ?_)))))))))))
 (refine J.invV rfl 0 rfl rfl (less_ok b m mn s hs (2 * i + 2) i q2 qi) (List.append_nil _).symm (evs_args rfl) rfl ?_; rintro _ _ ⟨rfl, rfl⟩; rw [List.append_nil]; simp only [h3'])
 (refine Jx.not rfl rfl (J.nil (N.seq (W.cF rfl ?_))))
 (refine W.skip (N.seq (W.seq (W.region (Jx.move rfl rfl (Jx.move rfl rfl (Jx.move rfl rfl ?_)))))))
 (refine J.invV rfl 0 rfl rfl (swap_ok b m mn s hs i (2 * i + 2) qi q2) (List.append_nil _).symm (evs_args rfl) rfl ?_; rintro _ _ rfl; rw [List.append_nil])
 (refine J.nil (N.seq (W.region (Jx.move rfl rfl (Jx.assign rfl rfl (J.nil (N.noGotoNormal ?_)))))))
 (refine id ?_; rotate_left))
        exact N.round (f, swapD hs i (2 * i + 2), 2 * i + 2) ⟨by simp only [swapD_length]; exact hl, by simp only []; omega, by simp only []; omega, hD⟩ (by simp only []; omega) rfl ⟨ref0 rfl, ref0 rfl, ref0 rfl, ref0 rfl, trivial⟩
      · rw [down_no f hs i n _ hA hj h3] at hD
        subst hD
        have h3' : decide (ltD (gD hs (2 * i + 2)) (gD hs i)) = false := decide_eq_false h3
        focus (
 (refine W.block (W.seq (W.region (Jx.move rfl rfl (Jx.mul64 rfl rfl (by omega) rfl ?_)))))
 (refine Jx.add64 rfl rfl (by omega) rfl ?_; rw [e1])
 (refine Jx.assign rfl rfl (J.nil (N.seq (W.seq (W.seq (W.region (Jx.move rfl rfl (Jx.move rfl rfl (Jx.geqI rfl rfl rfl (Jx.move rfl rfl (J.gY rfl rfl rfl ?_)))))))))))
 (refine Jx.move rfl rfl (J.gY rfl rfl rfl ?_))
 (refine Jx.lssI rfl rfl rfl (Jx.pF rfl rfl rfl ?_))
 (refine J.nil (N.seq (W.cF rfl ?_)))
 (refine W.skip (N.seq (W.seq (W.region (Jx.move rfl rfl (Jx.assign rfl rfl (J.nil (N.seq (W.seq (W.seq (W.region (Jx.move rfl rfl ?_))))))))))))
 (refine Jx.add64 rfl rfl (by omega) rfl ?_; rw [e2])
 (refine Jx.assign rfl rfl (J.nil (N.seq (W.seq (W.region (Jx.move rfl rfl (Jx.move rfl rfl (Jx.lssI rfl rfl rfl (Jx.move rfl rfl (J.gY rfl rfl rfl ?_))))))))))
 (refine Jx.move rfl rfl (J.gY rfl rfl rfl ?_))
 (refine Jx.move rfl rfl (J.gY rfl rfl rfl ?_))
 (refine Jx.move rfl rfl (J.gY rfl rfl rfl ?_))
 (refine J.invV rfl 0 rfl rfl (less_ok b m mn s hs (2 * i + 2) (2 * i + 1) q2 q1) (List.append_nil _).symm (evs_args rfl) rfl ?_; rintro _ _ ⟨rfl, rfl⟩; rw [List.append_nil]; simp only [h4'])
 (refine Jx.pT rfl rfl rfl ?_)
 (refine J.nil (N.seq (W.cT rfl ?_)))
 (refine W.region (Jx.move rfl rfl (Jx.assign rfl rfl (J.nil (N.seq (W.seq (W.seq (W.region (Jx.move rfl rfl (Jx.move rfl rfl (Jx.move rfl rfl ?_)))))))))))
 (refine J.invV rfl 0 rfl rfl (less_ok b m mn s hs (2 * i + 2) i q2 qi) (List.append_nil _).symm (evs_args rfl) rfl ?_; rintro _ _ ⟨rfl, rfl⟩; rw [List.append_nil]; simp only [h3'])
 (refine Jx.not rfl rfl (J.nil (N.seq (W.cT rfl ?_))))
 (refine W.exit (N.seq (W.seq (W.region (Jx.move rfl rfl (Jx.move rfl rfl (Jx.gtrI rfl rfl rfl (Jx.assign rfl rfl (J.nil (N.seq (W.ret ?_)))))))))))
 (refine id ?_; rotate_left))
        refine N.ret (rs := [.tmp 6]) rfl (.tmp rfl .nil) ⟨?_, rfl⟩
        show Sse.bool _ = Sse.bool _
        refine congrArg (fun x => Sse.bool x) (decide_eq_decide.2 ?_); show (i0 : Int) < (i : Int) ↔ i0 < i; omega
    · have h4' : decide (ltD (gD hs (2 * i + 2)) (gD hs (2 * i + 1))) = false := decide_eq_false h4
      have hj : (if 2 * i + 2 < n ∧ ltD (gD hs (2 * i + 2)) (gD hs (2 * i + 1)) then 2 * i + 2 else 2 * i + 1) = 2 * i + 1 := if_neg (fun h => h4 h.2)
      by_cases h3 : ltD (gD hs (2 * i + 1)) (gD hs i)
      · obtain ⟨f, rfl⟩ : ∃ f', f = f' + 1 := ⟨f - 1, by omega⟩
        rw [down_on f hs i n _ hA hj h3] at hD
        have h3' : decide (ltD (gD hs (2 * i + 1)) (gD hs i)) = true := decide_eq_true h3
        focus (
 (refine W.block (W.seq (W.region (Jx.move rfl rfl (Jx.mul64 rfl rfl (by omega) rfl ?_)))))
 (refine Jx.add64 rfl rfl (by omega) rfl ?_; rw [e1])
 (refine Jx.assign rfl rfl (J.nil (N.seq (W.seq (W.seq (W.region (Jx.move rfl rfl (Jx.move rfl rfl (Jx.geqI rfl rfl rfl (Jx.move rfl rfl (J.gY rfl rfl rfl ?_)))))))))))
 (refine Jx.move rfl rfl (J.gY rfl rfl rfl ?_))
 (refine Jx.lssI rfl rfl rfl (Jx.pF rfl rfl rfl ?_))
 (refine J.nil (N.seq (W.cF rfl ?_)))
 (refine W.skip (N.seq (W.seq (W.region (Jx.move rfl rfl (Jx.assign rfl rfl (J.nil (N.seq (W.seq (W.seq (W.region (Jx.move rfl rfl ?_))))))))))))
 (refine Jx.add64 rfl rfl (by omega) rfl ?_; rw [e2])
 (refine Jx.assign rfl rfl (J.nil (N.seq (W.seq (W.region (Jx.move rfl rfl (Jx.move rfl rfl (Jx.lssI rfl rfl rfl (Jx.move rfl rfl (J.gY rfl rfl rfl ?_))))))))))
 (refine Jx.move rfl rfl (J.gY rfl rfl rfl ?_))
 (refine Jx.move rfl rfl (J.gY rfl rfl rfl ?_))
 (refine Jx.move rfl rfl (J.gY rfl rfl rfl ?_))
 (refine J.invV rfl 0 rfl rfl (less_ok b m mn s hs (2 * i + 2) (2 * i + 1) q2 q1) (List.append_nil _).symm (evs_args rfl) rfl ?_; rintro _ _ ⟨rfl, rfl⟩; rw [List.append_nil]; simp only [h4'])
 (refine Jx.pT rfl rfl rfl ?_)
 (refine J.nil (N.seq (W.cF rfl ?_)))
 (refine W.skip (N.seq (W.seq (W.seq (W.region (Jx.move rfl rfl (Jx.move rfl rfl (Jx.move rfl rfl ?_))))))))
 (refine J.invV rfl 0 rfl rfl (less_ok b m mn s hs (2 * i + 1) i q1 qi) (List.append_nil _).symm (evs_args rfl) rfl ?_; rintro _ _ ⟨rfl, rfl⟩; rw [List.append_nil]; simp only [h3'])
 (refine Jx.not rfl rfl (J.nil (N.seq (W.cF rfl ?_))))
 (refine W.skip (N.seq (W.seq (W.region (Jx.move rfl rfl (Jx.move rfl rfl (Jx.move rfl rfl ?_)))))))
 (refine J.invV rfl 0 rfl rfl (swap_ok b m mn s hs i (2 * i + 1) qi q1) (List.append_nil _).symm (evs_args rfl) rfl ?_; rintro _ _ rfl; rw [List.append_nil])
 (refine J.nil (N.seq (W.region (Jx.move rfl rfl (Jx.assign rfl rfl (J.nil (N.noGotoNormal ?_)))))))
 (refine id ?_; rotate_left))
        exact N.round (f, swapD hs i (2 * i + 1), 2 * i + 1) ⟨by simp only [swapD_length]; exact hl, by simp only []; omega, by simp only []; omega, hD⟩ (by simp only []; omega) rfl ⟨ref0 rfl, ref0 rfl, ref0 rfl, ref0 rfl, trivial⟩
      · rw [down_no f hs i n _ hA hj h3] at hD
        subst hD
        have h3' : decide (ltD (gD hs (2 * i + 1)) (gD hs i)) = false := decide_eq_false h3
        focus (
 (refine W.block (W.seq (W.region (Jx.move rfl rfl (Jx.mul64 rfl rfl (by omega) rfl ?_)))))
 (refine Jx.add64 rfl rfl (by omega) rfl ?_; rw [e1])
 (refine Jx.assign rfl rfl (J.nil (N.seq (W.seq (W.seq (W.region (Jx.move rfl rfl (Jx.move rfl rfl (Jx.geqI rfl rfl rfl (Jx.move rfl rfl (J.gY rfl rfl rfl ?_)))))))))))
 (refine Jx.move rfl rfl (J.gY rfl rfl rfl ?_))
 (refine Jx.lssI rfl rfl rfl (Jx.pF rfl rfl rfl ?_))
 (refine J.nil (N.seq (W.cF rfl ?_)))
 (refine W.skip (N.seq (W.seq (W.region (Jx.move rfl rfl (Jx.assign rfl rfl (J.nil (N.seq (W.seq (W.seq (W.region (Jx.move rfl rfl ?_))))))))))))
 (refine Jx.add64 rfl rfl (by omega) rfl ?_; rw [e2])
 (refine Jx.assign rfl rfl (J.nil (N.seq (W.seq (W.region (Jx.move rfl rfl (Jx.move rfl rfl (Jx.lssI rfl rfl rfl (Jx.move rfl rfl (J.gY rfl rfl rfl ?_))))))))))
 (refine Jx.move rfl rfl (J.gY rfl rfl rfl ?_))
 (refine Jx.move rfl rfl (J.gY rfl rfl rfl ?_))
 (refine Jx.move rfl rfl (J.gY rfl rfl rfl ?_))
 (refine J.invV rfl 0 rfl rfl (less_ok b m mn s hs (2 * i + 2) (2 * i + 1) q2 q1) (List.append_nil _).symm (evs_args rfl) rfl ?_; rintro _ _ ⟨rfl, rfl⟩; rw [List.append_nil]; simp only [h4'])
 (refine Jx.pT rfl rfl rfl ?_)
 (refine J.nil (N.seq (W.cF rfl ?_)))
 (refine W.skip (N.seq (W.seq (W.seq (W.region (Jx.move rfl rfl (Jx.move rfl rfl (Jx.move rfl rfl ?_))))))))
 (refine J.invV rfl 0 rfl rfl (less_ok b m mn s hs (2 * i + 1) i q1 qi) (List.append_nil _).symm (evs_args rfl) rfl ?_; rintro _ _ ⟨rfl, rfl⟩; rw [List.append_nil]; simp only [h3'])
 (refine Jx.not rfl rfl (J.nil (N.seq (W.cT rfl ?_))))
 (refine W.exit (N.seq (W.seq (W.region (Jx.move rfl rfl (Jx.move rfl rfl (Jx.gtrI rfl rfl rfl (Jx.assign rfl rfl (J.nil (N.seq (W.ret ?_)))))))))))
 (refine id ?_; rotate_left))
        refine N.ret (rs := [.tmp 6]) rfl (.tmp rfl .nil) ⟨?_, rfl⟩
        show Sse.bool _ = Sse.bool _
        refine congrArg (fun x => Sse.bool x) (decide_eq_decide.2 ?_); show (i0 : Int) < (i : Int) ↔ i0 < i; omega
  · have h2' : ¬ ((2 * i + 2 : Nat) : Int) < (n : Int) := by omega
    have hj : (if 2 * i + 2 < n ∧ ltD (gD hs (2 * i + 2)) (gD hs (2 * i + 1)) then 2 * i + 2 else 2 * i + 1) = 2 * i + 1 := if_neg (fun h => h2 h.1)
    by_cases h3 : ltD (gD hs (2 * i + 1)) (gD hs i)
    · obtain ⟨f, rfl⟩ : ∃ f', f = f' + 1 := ⟨f - 1, by omega⟩
      rw [down_on f hs i n _ hA hj h3] at hD
      have h3' : decide (ltD (gD hs (2 * i + 1)) (gD hs i)) = true := decide_eq_true h3
      focus (
 (refine W.block (W.seq (W.region (Jx.move rfl rfl (Jx.mul64 rfl rfl (by omega) rfl ?_)))))
 (refine Jx.add64 rfl rfl (by omega) rfl ?_; rw [e1])
 (refine Jx.assign rfl rfl (J.nil (N.seq (W.seq (W.seq (W.region (Jx.move rfl rfl (Jx.move rfl rfl (Jx.geqI rfl rfl rfl (Jx.move rfl rfl (J.gY rfl rfl rfl ?_)))))))))))
 (refine Jx.move rfl rfl (J.gY rfl rfl rfl ?_))
 (refine Jx.lssI rfl rfl rfl (Jx.pF rfl rfl rfl ?_))
 (refine J.nil (N.seq (W.cF rfl ?_)))
 (refine W.skip (N.seq (W.seq (W.region (Jx.move rfl rfl (Jx.assign rfl rfl (J.nil (N.seq (W.seq (W.seq (W.region (Jx.move rfl rfl ?_))))))))))))
 (refine Jx.add64 rfl rfl (by omega) rfl ?_; rw [e2])
 (refine Jx.assign rfl rfl (J.nil (N.seq (W.seq (W.region (Jx.move rfl rfl (Jx.move rfl rfl (Jx.lssI rfl rfl rfl (Jx.move rfl rfl (J.gN rfl rfl rfl rfl ?_))))))))))
 (refine J.gN rfl rfl rfl rfl ?_)
 (refine J.gN rfl rfl rfl rfl ?_)
 (refine J.gN rfl rfl rfl rfl ?_)
 (refine Jx.pF rfl rfl rfl ?_)
 (refine J.nil (N.seq (W.cF rfl ?_)))
 (refine W.skip (N.seq (W.seq (W.seq (W.region (Jx.move rfl rfl (Jx.move rfl rfl (Jx.move rfl rfl ?_))))))))
 (refine J.invV rfl 0 rfl rfl (less_ok b m mn s hs (2 * i + 1) i q1 qi) (List.append_nil _).symm (evs_args rfl) rfl ?_; rintro _ _ ⟨rfl, rfl⟩; rw [List.append_nil]; simp only [h3'])
 (refine Jx.not rfl rfl (J.nil (N.seq (W.cF rfl ?_))))
 (refine W.skip (N.seq (W.seq (W.region (Jx.move rfl rfl (Jx.move rfl rfl (Jx.move rfl rfl ?_)))))))
 (refine J.invV rfl 0 rfl rfl (swap_ok b m mn s hs i (2 * i + 1) qi q1) (List.append_nil _).symm (evs_args rfl) rfl ?_; rintro _ _ rfl; rw [List.append_nil])
 (refine J.nil (N.seq (W.region (Jx.move rfl rfl (Jx.assign rfl rfl (J.nil (N.noGotoNormal ?_)))))))
 (refine id ?_; rotate_left))
      exact N.round (f, swapD hs i (2 * i + 1), 2 * i + 1) ⟨by simp only [swapD_length]; exact hl, by simp only []; omega, by simp only []; omega, hD⟩ (by simp only []; omega) rfl ⟨ref0 rfl, ref0 rfl, ref0 rfl, ref0 rfl, trivial⟩
    · rw [down_no f hs i n _ hA hj h3] at hD
      subst hD
      have h3' : decide (ltD (gD hs (2 * i + 1)) (gD hs i)) = false := decide_eq_false h3
      focus (
 (refine W.block (W.seq (W.region (Jx.move rfl rfl (Jx.mul64 rfl rfl (by omega) rfl ?_)))))
 (refine Jx.add64 rfl rfl (by omega) rfl ?_; rw [e1])
 (refine Jx.assign rfl rfl (J.nil (N.seq (W.seq (W.seq (W.region (Jx.move rfl rfl (Jx.move rfl rfl (Jx.geqI rfl rfl rfl (Jx.move rfl rfl (J.gY rfl rfl rfl ?_)))))))))))
 (refine Jx.move rfl rfl (J.gY rfl rfl rfl ?_))
 (refine Jx.lssI rfl rfl rfl (Jx.pF rfl rfl rfl ?_))
 (refine J.nil (N.seq (W.cF rfl ?_)))
 (refine W.skip (N.seq (W.seq (W.region (Jx.move rfl rfl (Jx.assign rfl rfl (J.nil (N.seq (W.seq (W.seq (W.region (Jx.move rfl rfl ?_))))))))))))
 (refine Jx.add64 rfl rfl (by omega) rfl ?_; rw [e2])
 (refine Jx.assign rfl rfl (J.nil (N.seq (W.seq (W.region (Jx.move rfl rfl (Jx.move rfl rfl (Jx.lssI rfl rfl rfl (Jx.move rfl rfl (J.gN rfl rfl rfl rfl ?_))))))))))
 (refine J.gN rfl rfl rfl rfl ?_)
 (refine J.gN rfl rfl rfl rfl ?_)
 (refine J.gN rfl rfl rfl rfl ?_)
 (refine Jx.pF rfl rfl rfl ?_)
 (refine J.nil (N.seq (W.cF rfl ?_)))
 (refine W.skip (N.seq (W.seq (W.seq (W.region (Jx.move rfl rfl (Jx.move rfl rfl (Jx.move rfl rfl ?_))))))))
 (refine J.invV rfl 0 rfl rfl (less_ok b m mn s hs (2 * i + 1) i q1 qi) (List.append_nil _).symm (evs_args rfl) rfl ?_; rintro _ _ ⟨rfl, rfl⟩; rw [List.append_nil]; simp only [h3'])
 (refine Jx.not rfl rfl (J.nil (N.seq (W.cT rfl ?_))))
 (refine W.exit (N.seq (W.seq (W.region (Jx.move rfl rfl (Jx.move rfl rfl (Jx.gtrI rfl rfl rfl (Jx.assign rfl rfl (J.nil (N.seq (W.ret ?_)))))))))))
 (refine id ?_; rotate_left))
      refine N.ret (rs := [.tmp 6]) rfl (.tmp rfl .nil) ⟨?_, rfl⟩
      show Sse.bool _ = Sse.bool _
      refine congrArg (fun x => Sse.bool x) (decide_eq_decide.2 ?_); show (i0 : Int) < (i : Int) ↔ i0 < i; omega
theorem up_no (f : Nat) (hs : List Dl) (j : Nat) (h : j = 0 ∨ ¬ ltD (gD hs j) (gD hs ((j - 1) / 2))) : upP f hs j = hs := by
  cases f with
  | zero => rfl
  | succ f => unfold upP; rw [if_pos h]
theorem up_on (f : Nat) (hs : List Dl) (j : Nat) (h0 : ¬ j = 0) (h : ltD (gD hs j) (gD hs ((j - 1) / 2))) : upP (f + 1) hs j = upP f (swapD hs ((j - 1) / 2) j) ((j - 1) / 2) := by
  conv => lhs; unfold upP
  rw [if_neg (by rintro (h1 | h1); exact h0 h1; exact h1 h)]
set_option maxHeartbeats 4000000 in
theorem up_ok (b : Nat) (m mn : SV) (s : Value) (hs0 : List Dl) (j0 : Nat) (hj0 : j0 < hs0.length) (hb : hs0.length < 1099511627776) : FnC Try.prog 48 [hIf b, int j0] (hpL b m mn s hs0) (fun _ L => L = hpL b m mn s (upP (j0 + 1) hs0 j0)) := by
  refine FnC.intro Try.func48 rfl Try.ntmps48 rfl fun Z w0 hG => ?_
  generalize hR : upP (j0 + 1) hs0 j0 = R
  focus (
 (refine W.block ?_)
 (refine id ?_; rotate_left))
  refine W.loop (α := Nat × List Dl × Nat) (fun x => [(1, int (x.2.2 : Int)), (0, hIf b)]) (fun x => hpL b m mn s x.2.1) (fun x => x.2.1.length = hs0.length ∧ x.2.2 < hs0.length ∧ x.2.2 < x.1 ∧ upP x.1 x.2.1 x.2.2 = R) (fun x => x.2.2) (j0 + 1, hs0, j0) ⟨rfl, hj0, by simp only []; omega, hR⟩ rfl ⟨ref0 rfl, ref0 rfl, trivial⟩ ?_
  rintro ⟨f, hs, j⟩ ⟨hl, hj, hf, hD⟩
  simp only [] at hl hj hf hD ⊢
  by_cases h0 : j = 0
  · rw [up_no f hs j (.inl h0)] at hD
    subst hD
    subst h0
    focus (
 (refine W.block (W.seq (W.region (Jx.move rfl rfl (Jx.sub64 rfl rfl (by omega) rfl ?_)))))
 (refine J.pv (Pv.quo rfl rfl (by decide)) rfl ?_)
 (refine Jx.assign rfl rfl (J.nil (N.seq (W.seq (W.seq (W.region (Jx.move rfl rfl (Jx.move rfl rfl (Jx.eqlI rfl rfl rfl (Jx.move rfl rfl (J.gN rfl rfl rfl rfl ?_)))))))))))
 (refine J.gN rfl rfl rfl rfl ?_)
 (refine J.gN rfl rfl rfl rfl ?_)
 (refine J.gN rfl rfl rfl rfl ?_)
 (refine J.gN rfl rfl rfl rfl ?_)
 (refine Jx.pT rfl rfl rfl ?_)
 (refine J.nil (N.seq (W.cT rfl ?_)))
 (refine W.exit (N.seqExit (N.blockOther rfl ?_)))
 (refine N.seqExit (N.blockHere ?_))
 (refine id ?_; rotate_left))
    exact N.fin (rs := []) rfl .nil rfl
  have e1 : (j : Int) - 1 = ((j - 1 : Nat) : Int) := by omega
  have e2 : ((j - 1 : Nat) : Int) / 2 = (((j - 1) / 2 : Nat) : Int) := by omega
  have hne : ¬ (((j - 1) / 2 : Nat) : Int) = (j : Int) := by omega
  have q1 : (j - 1) / 2 < hs.length := by omega
  have q2 : j < hs.length := by omega
  by_cases h3 : ltD (gD hs j) (gD hs ((j - 1) / 2))
  · obtain ⟨f, rfl⟩ : ∃ f', f = f' + 1 := ⟨f - 1, by omega⟩
    rw [up_on f hs j h0 h3] at hD
    have h3' : decide (ltD (gD hs j) (gD hs ((j - 1) / 2))) = true := decide_eq_true h3
    focus (
 (refine W.block (W.seq (W.region (Jx.move rfl rfl ?_))))
 (refine Jx.sub64 rfl rfl (by omega) rfl ?_; rw [e1])
 (refine Jx.quo64 rfl rfl (by omega) (by omega) rfl ?_; rw [e2])
 (refine Jx.assign rfl rfl (J.nil (N.seq (W.seq (W.seq (W.region (Jx.move rfl rfl (Jx.move rfl rfl (Jx.eqlI rfl rfl rfl (Jx.move rfl rfl (J.gY rfl rfl rfl ?_)))))))))))
 (refine Jx.move rfl rfl (J.gY rfl rfl rfl ?_))
 (refine Jx.move rfl rfl (J.gY rfl rfl rfl ?_))
 (refine Jx.move rfl rfl (J.gY rfl rfl rfl ?_))
 (refine J.invV rfl 0 rfl rfl (less_ok b m mn s hs j ((j - 1) / 2) q2 q1) (List.append_nil _).symm (evs_args rfl) rfl ?_; rintro _ _ ⟨rfl, rfl⟩; rw [List.append_nil]; simp only [h3'])
 (refine J.gY rfl rfl rfl ?_)
 (refine Jx.not rfl rfl (Jx.pF rfl rfl rfl ?_))
 (refine J.nil (N.seq (W.cF rfl ?_)))
 (refine W.skip (N.seq (W.seq (W.region (Jx.move rfl rfl (Jx.move rfl rfl (Jx.move rfl rfl ?_)))))))
 (refine J.invV rfl 0 rfl rfl (swap_ok b m mn s hs ((j - 1) / 2) j q1 q2) (List.append_nil _).symm (evs_args rfl) rfl ?_; rintro _ _ rfl; rw [List.append_nil])
 (refine J.nil (N.seq (W.region (Jx.move rfl rfl (Jx.assign rfl rfl (J.nil (N.noGotoNormal ?_)))))))
 (refine id ?_; rotate_left))
    exact N.round (f, swapD hs ((j - 1) / 2) j, (j - 1) / 2) ⟨by simp only [swapD_length]; exact hl, by simp only []; omega, by simp only []; omega, hD⟩ (by simp only []; omega) rfl ⟨ref0 rfl, ref0 rfl, trivial⟩
  · rw [up_no f hs j (.inr h3)] at hD
    subst hD
    have h3' : decide (ltD (gD hs j) (gD hs ((j - 1) / 2))) = false := decide_eq_false h3
    focus (
 (refine W.block (W.seq (W.region (Jx.move rfl rfl ?_))))
 (refine Jx.sub64 rfl rfl (by omega) rfl ?_; rw [e1])
 (refine Jx.quo64 rfl rfl (by omega) (by omega) rfl ?_; rw [e2])
 (refine Jx.assign rfl rfl (J.nil (N.seq (W.seq (W.seq (W.region (Jx.move rfl rfl (Jx.move rfl rfl (Jx.eqlI rfl rfl rfl (Jx.move rfl rfl (J.gY rfl rfl rfl ?_)))))))))))
 (refine Jx.move rfl rfl (J.gY rfl rfl rfl ?_))
 (refine Jx.move rfl rfl (J.gY rfl rfl rfl ?_))
 (refine Jx.move rfl rfl (J.gY rfl rfl rfl ?_))
 (refine J.invV rfl 0 rfl rfl (less_ok b m mn s hs j ((j - 1) / 2) q2 q1) (List.append_nil _).symm (evs_args rfl) rfl ?_; rintro _ _ ⟨rfl, rfl⟩; rw [List.append_nil]; simp only [h3'])
 (refine J.gY rfl rfl rfl ?_)
 (refine Jx.not rfl rfl (Jx.pF rfl rfl rfl ?_))
 (refine J.nil (N.seq (W.cT rfl ?_)))
 (refine W.exit (N.seqExit (N.blockOther rfl ?_)))
 (refine N.seqExit (N.blockHere ?_))
 (refine id ?_; rotate_left))
    exact N.fin (rs := []) rfl .nil rfl
end Go.Proofs.Ytmkicbphbegjbaa
namespace Go.Proofs.Ytmkicbphbegjbaa
open Go Go.Sse
set_option linter.unusedVariables false
set_option linter.unusedSimpArgs false
set_option maxRecDepth 10000
theorem fix_yes {hs : List Dl} {i n : Nat} (h : i < (downP n hs i n).2) : fixP hs i n = (downP n hs i n).1 := by unfold fixP; rw [if_pos h]
theorem fix_no {hs : List Dl} {i n : Nat} (h : ¬ i < (downP n hs i n).2) : fixP hs i n = upP (i + 1) (downP n hs i n).1 i := by unfold fixP; rw [if_neg h]
set_option maxHeartbeats 4000000 in
theorem fix_ok (b : Nat) (m mn : SV) (s : Value) (hs : List Dl) (i : Nat) (hi : i < hs.length) (hb : hs.length < 1099511627776) : FnC Try.prog 37 [hIf b, int i] (hpL b m mn s hs) (fun _ L => L = hpL b m mn s (fixP hs i hs.length)) := by
  have c1 := down_ok b m mn s hs i hs.length (Nat.le_refl _) (by omega) hb
  have c2 := up_ok b m mn s (downP hs.length hs i hs.length).1 i (by rw [down_length]; exact hi) (by rw [down_length]; exact hb)
  refine FnC.intro Try.func37 rfl Try.ntmps37 rfl fun Z w0 hG => ?_
  by_cases h : i < (downP hs.length hs i hs.length).2
  · have h' : decide (i < (downP hs.length hs i hs.length).2) = true := decide_eq_true h
    rw [fix_yes h]
    rw [h'] at c1
    focus (
 (refine W.seq (W.region (Jx.move rfl rfl (Jx.move rfl rfl (Jx.move rfl rfl ?_)))))
 (refine J.invV rfl 0 rfl rfl (len_ok b m mn s hs) (List.append_nil _).symm (evs_args rfl) rfl ?_; rintro _ _ ⟨rfl, rfl⟩; rw [List.append_nil])
 (refine J.call c1 (List.append_nil _).symm (evs_args rfl) rfl ?_; rintro _ _ ⟨rfl, rfl⟩; rw [List.append_nil])
 (refine Jx.not rfl rfl (J.nil (N.seq (W.cF rfl ?_))))
 (refine W.skip ?_)
 (refine id ?_; rotate_left))
    exact N.fin (rs := []) rfl .nil rfl
  · have h' : decide (i < (downP hs.length hs i hs.length).2) = false := decide_eq_false h
    rw [fix_no h]
    rw [h'] at c1
    focus (
 (refine W.seq (W.region (Jx.move rfl rfl (Jx.move rfl rfl (Jx.move rfl rfl ?_)))))
 (refine J.invV rfl 0 rfl rfl (len_ok b m mn s hs) (List.append_nil _).symm (evs_args rfl) rfl ?_; rintro _ _ ⟨rfl, rfl⟩; rw [List.append_nil])
 (refine J.call c1 (List.append_nil _).symm (evs_args rfl) rfl ?_; rintro _ _ ⟨rfl, rfl⟩; rw [List.append_nil])
 (refine Jx.not rfl rfl (J.nil (N.seq (W.cT rfl ?_))))
 (refine W.region (Jx.move rfl rfl (Jx.move rfl rfl ?_)))
 (refine J.call c2 (List.append_nil _).symm (evs_args rfl) rfl ?_; rintro _ _ rfl; rw [List.append_nil])
 (refine J.nil ?_)
 (refine id ?_; rotate_left))
    exact N.fin (rs := []) rfl .nil rfl
theorem hpL_snoc (b : Nat) (m mn : SV) (s : Value) (hs : List Dl) (d : Dl) : ([.obj b tTm [.val s, m, mn], rowD s (hs.length + 1) (bsD hs ++ [d.b]), dlO d] ++ hs.map dlO).Perm (hpL b m mn s (hs ++ [d])) := by
  have e : hpL b m mn s (hs ++ [d]) = .obj b tTm [.val s, m, mn] :: rowD s (hs.length + 1) (bsD hs ++ [d.b]) :: (hs.map dlO ++ [dlO d]) := by
    simp only [hpL, List.length_append, List.map_append, bsD]; rfl
  rw [e]
  exact List.Perm.cons _ (List.Perm.cons _ (List.perm_append_comm (l₁ := [dlO d]) (l₂ := hs.map dlO)))
set_option maxHeartbeats 4000000 in
theorem hpush_ok (b : Nat) (m mn : SV) (s : Value) (hs : List Dl) (d : Dl) (hb : hs.length < 1000000) : FnC Try.prog 38 [hIf b, dIf d.b] (.obj b tTm [.val s, m, mn] :: rowD s hs.length (bsD hs) :: dlO d :: hs.map dlO) (fun _ L => ∃ s' : Value, s'.oneCell' = true ∧ L = hpL b m mn s' (upP (hs.length + 1) (hs ++ [{ d with pl := hs.length }]) hs.length)) := by
  have hl : (hs ++ [{ d with pl := hs.length }]).length = hs.length + 1 := by simp
  have c1 := push_ok b m mn s hs.length (bsD hs) d (bs_len hs) (by omega)
  have hp := fun s' => hpL_snoc b m mn s' hs { d with pl := hs.length }
  have cl := fun s' => len_ok b m mn s' (hs ++ [{ d with pl := hs.length }])
  have cu := fun s' => up_ok b m mn s' (hs ++ [{ d with pl := hs.length }]) hs.length (by omega) (by omega)
  rw [hl] at cl
  have e1 : ((hs.length + 1 : Nat) : Int) - 1 = (hs.length : Int) := by omega
  refine FnC.intro Try.func38 rfl Try.ntmps38 rfl fun Z w0 hG => ?_
  focus (
 (refine W.seq (W.region (Jx.move rfl rfl (Jx.move rfl rfl ?_))))
 (refine J.invP (Lr := hs.map dlO) rfl c1 rfl (evs_args rfl) rfl ?_; rintro _ _ ⟨s', hs', rfl⟩; refine J.perm (hp s') ?_)
 (refine J.nil (N.seq (W.region (Jx.move rfl rfl (Jx.move rfl rfl ?_)))))
 (refine J.invV rfl 0 rfl rfl (cl s') (List.append_nil _).symm (evs_args rfl) rfl ?_; rintro _ _ ⟨rfl, rfl⟩; rw [List.append_nil])
 (refine Jx.sub64 rfl rfl (by omega) rfl ?_; rw [e1])
 (refine J.call (cu s') (List.append_nil _).symm (evs_args rfl) rfl ?_; rintro _ _ rfl; rw [List.append_nil])
 (refine J.nil ?_)
 (refine id ?_; rotate_left))
  exact N.fin (rs := []) rfl .nil ⟨s', hs', rfl⟩
theorem hpL_less (b : Nat) (m mn : SV) (s : Value) (A : List Dl) (k : Nat) (hA : A.length = k + 1) : [.obj b tTm [.val s, m, mn], rowD s k ((bsD A).take k)] ++ A.map dlO = hpL b m mn s (A.take k) ++ [dlO (gD A k)] := by
  have h1 : A = A.take k ++ [gD A k] := by
    have h := List.take_append_drop k A
    rw [List.drop_eq_getElem_cons (by omega), List.drop_eq_nil_of_le (by omega)] at h
    rw [gD, List.getD_eq_getElem?_getD, List.getElem?_eq_getElem (by omega)]
    exact h.symm
  have h2 : (A.take k).length = k := by rw [List.length_take]; omega
  have h3 : A.map dlO = (A.take k).map dlO ++ [dlO (gD A k)] := by
    conv => lhs; rw [h1]
    rw [List.map_append]; rfl
  rw [h3]
  simp only [hpL, h2, bsD, List.map_take]; rfl
theorem hpL_len (b : Nat) (m mn : SV) (s : Value) (A : List Dl) (k : Nat) (hA : A.length = k + 1) : hpL b m mn s A = [.obj b tTm [.val s, m, mn], rowD s (k + 1) (bsD A)] ++ A.map dlO := by
  rw [hpL, hA]; rfl
def popA (hs : List Dl) (k : Nat) : List Dl := (downP k (swapD hs 0 k) 0 k).1
theorem popA_length (hs : List Dl) (k : Nat) : (popA hs k).length = hs.length := by rw [popA, down_length, swapD_length]
set_option maxHeartbeats 4000000 in
theorem hpop_ok (b : Nat) (m mn : SV) (s : Value) (hs : List Dl) (k : Nat) (hk : hs.length = k + 1) (hb : hs.length < 1000000) : FnC Try.prog 36 [hIf b] (hpL b m mn s hs) (fun r L => ∃ s' : Value, s'.oneCell' = true ∧ r = dIf (gD (popA hs k) k).b ∧ L = hpL b m mn s' ((popA hs k).take k) ++ [dlO (gD (popA hs k) k)]) := by
  have cl := len_ok b m mn s hs
  have c1 := swap_ok b m mn s hs 0 k (by omega) (by omega)
  have c2 := down_ok b m mn s (swapD hs 0 k) 0 k (by rw [swapD_length]; omega) (by omega) (by rw [swapD_length]; omega)
  have hA : (popA hs k).length = k + 1 := by rw [popA_length]; exact hk
  rw [show (downP k (swapD hs 0 k) 0 k).1 = popA hs k from rfl] at c2
  generalize decide (0 < (downP k (swapD hs 0 k) 0 k).2) = bb at c2
  have c3 := pop_ok b m mn s k (bsD (popA hs k))
  rw [bs_at] at c3
  have e1 : (hs.length : Int) - 1 = (k : Int) := by omega
  have hL := hpL_len b m mn s (popA hs k) k hA
  have hE := fun s' => hpL_less b m mn s' (popA hs k) k hA
  generalize popA hs k = A at *
  refine FnC.intro Try.func36 rfl Try.ntmps36 rfl fun Z w0 hG => ?_
  focus (
 (refine W.seq (W.region (Jx.assign rfl rfl (J.nil (N.seq (W.seq (W.region (Jx.move rfl rfl ?_))))))))
 (refine J.invV rfl 0 rfl rfl cl (List.append_nil _).symm (evs_args rfl) rfl ?_; rintro _ _ ⟨rfl, rfl⟩; rw [List.append_nil])
 (refine Jx.sub64 rfl rfl (by omega) rfl ?_; rw [e1])
 (refine Jx.assign rfl rfl (J.nil (N.seq (W.seq (W.region (Jx.move rfl rfl (Jx.move rfl rfl ?_)))))))
 (refine J.invV rfl 0 rfl rfl c1 (List.append_nil _).symm (evs_args rfl) rfl ?_; rintro _ _ rfl; rw [List.append_nil])
 (refine J.nil (N.seq (W.seq (W.region (Jx.move rfl rfl (Jx.move rfl rfl ?_))))))
 (refine J.call c2 (List.append_nil _).symm (evs_args rfl) rfl ?_; rintro _ _ ⟨rfl, rfl⟩; rw [List.append_nil])
 (refine J.nil (N.seq (W.seq (W.region (Jx.move rfl rfl ?_)))))
 (refine J.invP rfl c3 hL (evs_args rfl) rfl ?_; rintro _ _ ⟨s', hs', rfl, rfl⟩)
 (refine Jx.assign rfl rfl (J.nil (N.seq (W.ret ?_))))
 (refine id ?_; rotate_left))
  exact N.ret (rs := [.tmp 2]) rfl (.tmp rfl .nil) ⟨s', hs', rfl, hE s'⟩
end Go.Proofs.Ytmkicbphbegjbaa
namespace Go.Proofs.Ytmkicbphbegjbaa
open Go Go.Sse
set_option linter.unusedVariables false
set_option linter.unusedSimpArgs false
set_option maxRecDepth 10000
theorem perm_out {α : Type} : ∀ {l : List α} {i : Nat} (h : i < l.length), l.Perm (l[i] :: l.eraseIdx i)
  | x :: l, 0, _ => .refl _
  | x :: l, i + 1, h => by
    have h' : i < l.length := by simpa using h
    have := perm_out h'
    simp only [List.getElem_cons_succ, List.eraseIdx_cons_succ]
    exact (List.Perm.cons x this).trans (List.Perm.swap _ _ _)
theorem set_out {α : Type} : ∀ {l : List α} {i : Nat} (x : α) (h : i < l.length), (l.set i x).Perm (x :: l.eraseIdx i)
  | y :: l, 0, x, _ => .refl _
  | y :: l, i + 1, x, h => by
    have h' : i < l.length := by simpa using h
    have := set_out x h'
    simp only [List.set_cons_succ, List.eraseIdx_cons_succ]
    exact (List.Perm.cons y this).trans (List.Perm.swap _ _ _)
abbrev ptrV (b : Nat) : Value := .pointer (some ⟨b, 0, none⟩)
abbrev coP (e : Co) : List UInt8 × Value := (e.nm, ptrV e.b)
abbrev coD (e : Co) : List UInt8 × Int := (e.nm, e.tm)
structure TmS (hs : List Dl) (es : List Co) (mp : List (List UInt8 × Value)) (many : Int) : Prop where
  perm : (hs.map core).Perm es
  srt : es.Pairwise (fun a b => a.od < b.od)
  top : ∀ e ∈ es, e.od ≤ many
  nms : (es.map Co.nm).Nodup
  hp : Hp hs hs.length
  pl : Pl hs hs.length
  mpp : mp.Perm (es.map coP)
theorem tms_none : TmS [] [] [] 0 := ⟨.nil, .nil, by simp, .nil, fun k _ h => by simp at h, fun k h => by simp at h, .nil⟩
theorem TmS.len {hs : List Dl} {es : List Co} {mp : List (List UInt8 × Value)} {many : Int} (h : TmS hs es mp many) : hs.length = es.length := by simpa using h.perm.length_eq
theorem lk_mem {mp : List (List UInt8 × Value)} (hn : (mp.map (·.1)).Nodup) {k : List UInt8} {v : Value} (h : (k, v) ∈ mp) : lk mp k = some v := by
  induction mp with
  | nil => cases h
  | cons p l ih =>
    simp only [List.map_cons, List.nodup_cons] at hn
    rcases List.mem_cons.1 h with e | h'
    · subst e; simp [lk]
    · have hne : p.1 ≠ k := fun e => hn.1 (e ▸ List.mem_map_of_mem (f := (·.1)) h')
      have := ih hn.2 h'
      unfold lk at this ⊢
      rw [List.find?_cons_of_neg (by simpa using hne)]
      exact this
theorem lk_no {mp : List (List UInt8 × Value)} {k : List UInt8} (h : ∀ p ∈ mp, p.1 ≠ k) : lk mp k = none := by
  unfold lk
  rw [List.find?_eq_none.2 (fun p hp => by simpa using h p hp)]; rfl
theorem TmS.keys {hs : List Dl} {es : List Co} {mp : List (List UInt8 × Value)} {many : Int} (h : TmS hs es mp many) : (mp.map (·.1)).Nodup := by
  have := h.mpp.map (·.1)
  rw [List.map_map] at this
  exact this.nodup_iff.2 h.nms
theorem TmS.lkSome {hs : List Dl} {es : List Co} {mp : List (List UInt8 × Value)} {many : Int} (h : TmS hs es mp many) {k : Nat} (hk : k < es.length) : lk mp es[k].nm = some (ptrV es[k].b) :=
  lk_mem h.keys (h.mpp.mem_iff.2 (List.mem_map.2 ⟨es[k], List.getElem_mem hk, rfl⟩))
theorem TmS.lkNone {hs : List Dl} {es : List Co} {mp : List (List UInt8 × Value)} {many : Int} (h : TmS hs es mp many) {nm : List UInt8} (hn : ∀ e ∈ es, e.nm ≠ nm) : lk mp nm = none := by
  refine lk_no fun p hp => ?_
  obtain ⟨e, he, rfl⟩ := List.mem_map.1 (h.mpp.mem_iff.1 hp)
  exact hn e he
theorem gD_get {hs : List Dl} {i : Nat} (h : i < hs.length) : gD hs i = hs[i] := by rw [gD, List.getD_eq_getElem?_getD, List.getElem?_eq_getElem h]; rfl
theorem TmS.at {hs : List Dl} {es : List Co} {mp : List (List UInt8 × Value)} {many : Int} (h : TmS hs es mp many) {k : Nat} (hk : k < es.length) : ∃ i, i < hs.length ∧ core (gD hs i) = es[k] := by
  obtain ⟨d, hd, he⟩ := List.mem_map.1 (h.perm.mem_iff.2 (List.getElem_mem hk))
  obtain ⟨i, hi, rfl⟩ := List.mem_iff_getElem.1 hd
  exact ⟨i, hi, by rw [gD_get hi]; exact he⟩
theorem TmS.of {hs : List Dl} {es : List Co} {mp : List (List UInt8 × Value)} {many : Int} (h : TmS hs es mp many) {i : Nat} (hi : i < hs.length) : ∃ k, ∃ hk : k < es.length, es[k] = core (gD hs i) := by
  have : core (gD hs i) ∈ es := h.perm.mem_iff.1 (List.mem_map.2 ⟨hs[i], List.getElem_mem hi, by rw [gD_get hi]⟩)
  obtain ⟨k, hk, e⟩ := List.mem_iff_getElem.1 this
  exact ⟨k, hk, e⟩
theorem nodup_ix {l : List Co} (h : (l.map Co.nm).Nodup) {i j : Nat} (hi : i < l.length) (hj : j < l.length) (e : l[i].nm = l[j].nm) : i = j := by
  have h1 : i < (l.map Co.nm).length := by simpa using hi
  have h2 : j < (l.map Co.nm).length := by simpa using hj
  exact (List.getElem_inj (h₀ := h1) (h₁ := h2) h).1 (by rw [List.getElem_map, List.getElem_map]; exact e)
theorem okD_set {hs : List Dl} {i k : Nat} {x : Dl} (hi : i < hs.length) (h1 : k ≠ i) (h2 : (k - 1) / 2 ≠ i) : okD (hs.set i x) k ↔ okD hs k := by
  unfold okD
  rw [gD_set _ _ _ _ hi, gD_set _ _ _ _ hi, if_neg h1, if_neg h2]
theorem tms_again {hs : List Dl} {es : List Co} {mp : List (List UInt8 × Value)} {many : Int} (h : TmS hs es mp many) {k i : Nat} (hk : k < es.length) (hi : i < hs.length) (hc : core (gD hs i) = es[k]) (tm : Int) :
    TmS (fixP (hs.set i { gD hs i with tm := tm, od := many + 1 }) i hs.length) (es.eraseIdx k ++ [⟨es[k].b, es[k].nm, tm, many + 1⟩]) mp (many + 1) := by
  have hb : (gD hs i).b = es[k].b := congrArg Co.b hc
  have hn : (gD hs i).nm = es[k].nm := congrArg Co.nm hc
  have hxc : core { gD hs i with tm := tm, od := many + 1 } = ⟨es[k].b, es[k].nm, tm, many + 1⟩ := by rw [← hb, ← hn]; rfl
  generalize hx : ({ gD hs i with tm := tm, od := many + 1 } : Dl) = x at *
  have hpl0 : x.pl = i := by rw [← hx]; exact h.pl i hi
  have hes := perm_out hk
  have hp0 : ((hs.set i x).map core).Perm (es.eraseIdx k ++ [⟨es[k].b, es[k].nm, tm, many + 1⟩]) := by
    rw [List.map_set, hxc]
    have h1 := set_out (l := hs.map core) (⟨es[k].b, es[k].nm, tm, many + 1⟩ : Co) (i := i) (by simpa using hi)
    have h2 := perm_out (l := hs.map core) (i := i) (by simpa using hi)
    have e : (hs.map core)[i]'(by simpa using hi) = es[k] := by rw [List.getElem_map, ← gD_get hi]; exact hc
    rw [e] at h2
    have h3 := (h2.symm.trans (h.perm.trans hes)).cons_inv
    exact (h1.trans (h3.cons _)).trans (List.perm_append_comm (l₁ := [_]) (l₂ := es.eraseIdx k))
  have hsub : (es.eraseIdx k).Sublist es := List.eraseIdx_sublist _ _
  have hlen : (hs.set i x).length = hs.length := List.length_set ..
  refine ⟨?_, ?_, ?_, ?_, ?_, ?_, ?_⟩
  · refine fix_all (fun l => (l.map core).Perm _) (fun l a b hl ha hb => (swap_perm ha hb).trans hl) _ i hs.length (by omega) hi hp0
  · rw [List.pairwise_append]
    refine ⟨h.srt.sublist hsub, List.pairwise_singleton _ _, fun a ha b hb => ?_⟩
    rw [List.mem_singleton] at hb
    subst hb
    have := h.top a (hsub.subset ha)
    show a.od < many + 1
    omega
  · intro e he
    rcases List.mem_append.1 he with he | he
    · have := h.top e (hsub.subset he); omega
    · rw [List.mem_singleton] at he; subst he; exact Int.le_refl _
  · have := (hes.map Co.nm).nodup_iff.1 h.nms
    refine ((List.perm_append_comm (l₁ := es.eraseIdx k) (l₂ := [(⟨es[k].b, es[k].nm, tm, many + 1⟩ : Co)])).map Co.nm).nodup_iff.2 ?_
    exact this
  · rw [fix_length, hlen]
    refine fix_hp _ i hs.length (by omega) hi (fun q hq hqn h1 h2 => (okD_set hi h1 h2).2 (h.hp q hq hqn)) ?_
    intro q hq hqn hqp h0
    rw [gD_set _ _ _ _ hi, gD_set _ _ _ _ hi, if_neg (by omega), if_neg (by omega)]
    have a1 := h.hp q hq hqn
    have a2 := h.hp i h0 hi
    unfold okD at a1 a2
    rw [hqp] at a1
    exact nlt_trans a1 a2
  · rw [fix_length, hlen]
    have := fix_all (fun l => Pl l hs.length ∧ l.length = hs.length) (fun l a b hl ha hb => ⟨swap_pl hl.1 ha hb, by rw [swapD_length]; exact hl.2⟩) (hs.set i x) i hs.length (by omega) hi ⟨fun q hq => by
      rw [gD_set _ _ _ _ hi]
      split
      · rename_i e; rw [e]; exact hpl0
      · exact h.pl q hq, hlen⟩
    exact this.1
  · refine h.mpp.trans ((hes.map coP).trans ?_)
    exact ((List.perm_append_comm (l₁ := es.eraseIdx k) (l₂ := [(⟨es[k].b, es[k].nm, tm, many + 1⟩ : Co)])).map coP).symm
theorem gD_app {hs : List Dl} {d : Dl} {k : Nat} (h : k < hs.length) : gD (hs ++ [d]) k = gD hs k := by simp only [gD, List.getD_eq_getElem?_getD, List.getElem?_append_left h]
theorem tms_more {hs : List Dl} {es : List Co} {mp : List (List UInt8 × Value)} {many : Int} (h : TmS hs es mp many) {nm : List UInt8} (hn : ∀ e ∈ es, e.nm ≠ nm) (b : Nat) (tm : Int) :
    TmS (upP (hs.length + 1) (hs ++ [⟨b, nm, tm, many + 1, hs.length⟩]) hs.length) (es ++ [⟨b, nm, tm, many + 1⟩]) (mp ++ [(nm, ptrV b)]) (many + 1) := by
  have hlen : (hs ++ [(⟨b, nm, tm, many + 1, hs.length⟩ : Dl)]).length = hs.length + 1 := by simp
  refine ⟨?_, ?_, ?_, ?_, ?_, ?_, ?_⟩
  · refine up_all (fun l => (l.map core).Perm _) (fun l a b hl ha hb => (swap_perm ha hb).trans hl) _ _ _ (by omega) ?_
    rw [List.map_append]
    exact h.perm.append_right _
  · rw [List.pairwise_append]
    refine ⟨h.srt, List.pairwise_singleton _ _, fun a ha b hb => ?_⟩
    rw [List.mem_singleton] at hb
    subst hb
    have := h.top a ha
    show a.od < many + 1
    omega
  · intro e he
    rcases List.mem_append.1 he with he | he
    · have := h.top e he; omega
    · rw [List.mem_singleton] at he; subst he; exact Int.le_refl _
  · rw [List.map_append, List.nodup_append]
    refine ⟨h.nms, by simp, fun a ha c hc => ?_⟩
    obtain ⟨e, he, rfl⟩ := List.mem_map.1 ha
    rw [List.map_singleton, List.mem_singleton] at hc
    rw [hc]
    exact hn e he
  · rw [up_length, hlen]
    refine up_hp _ _ _ _ (by omega) (by omega) (by omega) ?_ (fun k hk hkn hp => by omega)
    intro k hk hkn hne
    unfold okD
    rw [gD_app (by omega), gD_app (by omega)]
    exact h.hp k hk (by omega)
  · rw [up_length, hlen]
    have := up_all (fun l => Pl l (hs.length + 1) ∧ l.length = hs.length + 1) (fun l a b hl ha hb => ⟨swap_pl hl.1 ha hb, by rw [swapD_length]; exact hl.2⟩) (hs.length + 1) (hs ++ [⟨b, nm, tm, many + 1, hs.length⟩]) hs.length (by omega) ⟨fun q hq => by
      by_cases e : q = hs.length
      · subst e; simp [gD, List.getD_eq_getElem?_getD]
      · rw [gD_app (by omega)]; exact h.pl q (by omega), hlen⟩
    exact this.1
  · rw [List.map_append]
    exact h.mpp.append_right _
theorem unk_out {k : List UInt8} : ∀ {mp : List (List UInt8 × Value)}, (∃ p ∈ mp, p.1 = k) → ∃ v, mp.Perm ((k, v) :: unk mp k)
  | [], h => by obtain ⟨p, hp, _⟩ := h; cases hp
  | p :: l, h => by
    by_cases e : p.1 = k
    · subst e; exact ⟨p.2, by simp [unk]⟩
    · obtain ⟨q, hq, hqk⟩ := h
      have hq' : q ∈ l := by
        rcases List.mem_cons.1 hq with e2 | e2
        · subst e2; exact absurd hqk e
        · exact e2
      obtain ⟨v, hv⟩ := unk_out (mp := l) ⟨q, hq', hqk⟩
      exact ⟨v, by simp only [unk, if_neg e]; exact (List.Perm.cons p hv).trans (List.Perm.swap _ _ _)⟩
theorem gD_take {A : List Dl} {k i : Nat} (h : i < k) : gD (A.take k) i = gD A i := by simp only [gD, List.getD_eq_getElem?_getD, List.getElem?_take, if_pos h]
theorem tms_take {hs A : List Dl} {es : List Co} {mp : List (List UInt8 × Value)} {many : Int} (h : TmS hs es mp many) {k j : Nat} (hA : A.length = k + 1) (hperm : (A.map core).Perm es) (hhp : Hp A k) (hpl : Pl A k) (hj : j < es.length) (hc : core (gD A k) = es[j]) :
    TmS (A.take k) (es.eraseIdx j) (unk mp es[j].nm) many := by
  have hl : (A.take k).length = k := by rw [List.length_take]; omega
  have hsub : (es.eraseIdx j).Sublist es := List.eraseIdx_sublist _ _
  have hes := perm_out hj
  refine ⟨?_, h.srt.sublist hsub, fun e he => h.top e (hsub.subset he), h.nms.sublist (hsub.map _), ?_, ?_, ?_⟩
  · have h1 : A = A.take k ++ [gD A k] := by
      have h := List.take_append_drop k A
      rw [List.drop_eq_getElem_cons (by omega), List.drop_eq_nil_of_le (by omega)] at h
      rw [gD_get (by omega)]
      exact h.symm
    have h2 : (A.map core).Perm (es[j] :: (A.take k).map core) := by
      conv => lhs; rw [h1]
      rw [List.map_append, List.map_singleton, hc]
      exact List.perm_append_comm (l₁ := (A.take k).map core) (l₂ := [es[j]])
    exact (h2.symm.trans (hperm.trans hes)).cons_inv
  · rw [hl]
    intro q hq hqk
    unfold okD
    rw [gD_take hqk, gD_take (by omega)]
    exact hhp q hq hqk
  · rw [hl]
    intro q hq
    rw [gD_take hq]
    exact hpl q hq
  · obtain ⟨v, hv⟩ := unk_out (k := es[j].nm) (mp := mp) ⟨coP es[j], h.mpp.mem_iff.2 (List.mem_map_of_mem (List.getElem_mem hj)), rfl⟩
    have hmem : (es[j].nm, v) ∈ es.map coP := h.mpp.mem_iff.1 (hv.mem_iff.2 (List.mem_cons_self ..))
    obtain ⟨e, he, hee⟩ := List.mem_map.1 hmem
    obtain ⟨q, hq, rfl⟩ := List.mem_iff_getElem.1 he
    have hqj := nodup_ix h.nms hq hj (congrArg Prod.fst hee)
    subst hqj
    have hv2 : v = ptrV es[q].b := (congrArg Prod.snd hee).symm
    subst hv2
    exact (hv.symm.trans (h.mpp.trans (hes.map coP))).cons_inv
theorem tms_pop {hs : List Dl} {es : List Co} {mp : List (List UInt8 × Value)} {many : Int} (h : TmS hs es mp many) {k j : Nat} (hk : hs.length = k + 1) (hj : j < es.length) (hc : core (gD hs 0) = es[j]) :
    core (gD (popA hs k) k) = es[j] ∧ TmS ((popA hs k).take k) (es.eraseIdx j) (unk mp es[j].nm) many := by
  have hlA : (popA hs k).length = k + 1 := by rw [popA_length]; exact hk
  have h0k : 0 < hs.length := by omega
  have hkk : k < hs.length := by omega
  have hg := fun q => gD_swap hs 0 k q h0k hkk
  have hsl : (swapD hs 0 k).length = hs.length := swapD_length _ _ _
  have hall : ((popA hs k).map core).Perm es ∧ Hp (popA hs k) k ∧ Pl (popA hs k) k ∧ core (gD (popA hs k) k) = es[j] := by
    unfold popA
    by_cases e : k = 0
    · subst e
      refine ⟨(swap_perm h0k hkk).trans h.perm, fun q hq hqk => by omega, fun q hq => by omega, ?_⟩
      show core (gD (swapD hs 0 0) 0) = _
      rw [hg, if_pos rfl]; exact hc
    · refine ⟨?_, ?_, ?_, ?_⟩
      · refine down_all (fun l => (l.map core).Perm _) (fun l a b hl ha hb => (swap_perm ha hb).trans hl) _ _ 0 k (by omega) (by omega) ((swap_perm h0k hkk).trans h.perm)
      · refine down_hp _ _ 0 k (by omega) (by omega) (by omega) ?_ (fun q hq hqk hqp h0 => by omega)
        intro q hq hqk hqp
        unfold okD
        rw [hg, hg, if_neg (by omega), if_neg (by omega), if_neg (by omega), if_neg hqp]
        exact h.hp q hq (by omega)
      · have := down_all (fun l => Pl l hs.length ∧ l.length = hs.length) (fun l a b hl ha hb => ⟨swap_pl hl.1 ha hb, by rw [swapD_length]; exact hl.2⟩) k (swapD hs 0 k) 0 k (by omega) (by omega) ⟨swap_pl h.pl h0k hkk, hsl⟩
        exact fun q hq => this.1 q (by omega)
      · rw [down_past _ _ _ _ (by omega) (by omega) k (Nat.le_refl _), hg, if_pos rfl]
        exact hc
  obtain ⟨h1, h2, h3, h4⟩ := hall
  exact ⟨h4, tms_take h hlA h1 h2 h3 hj h4⟩
abbrev Dd := List (List UInt8 × Int)
abbrev atD (D : Dd) (i : Nat) : List UInt8 × Int := D.getD i ([], 0)
def findD (D : Dd) (nm : List UInt8) : Nat := D.findIdx (fun p => decide (p.1 = nm))
def firstD (D : Dd) : Nat := D.findIdx (fun p => D.all (fun q => decide (p.2 ≤ q.2)))
theorem TmS.first {hs : List Dl} {es : List Co} {mp : List (List UInt8 × Value)} {many : Int} (h : TmS hs es mp many) (h0 : 0 < hs.length) : ∃ j, ∃ hj : j < es.length, core (gD hs 0) = es[j] ∧ firstD (es.map coD) = j := by
  obtain ⟨j, hj, hc⟩ := h.of h0
  refine ⟨j, hj, hc.symm, ?_⟩
  have hmin : ∀ e ∈ es, es[j].tm ≤ e.tm ∧ (e.tm = es[j].tm → es[j].od ≤ e.od) := by
    intro e he
    obtain ⟨d, hd, rfl⟩ := List.mem_map.1 (h.perm.mem_iff.2 he)
    obtain ⟨i, hi, rfl⟩ := List.mem_iff_getElem.1 hd
    have := hp_min h.hp i hi
    rw [gD_get hi] at this
    rw [hc]
    unfold ltD at this
    show (gD hs 0).tm ≤ hs[i].tm ∧ (hs[i].tm = (gD hs 0).tm → (gD hs 0).od ≤ hs[i].od)
    omega
  unfold firstD
  rw [List.findIdx_eq (by simpa using hj)]
  constructor
  · rw [List.getElem_map, List.all_eq_true]
    intro q hq
    obtain ⟨e, he, rfl⟩ := List.mem_map.1 hq
    exact decide_eq_true (hmin e he).1
  · intro i hij
    rw [List.getElem_map, Bool.eq_false_iff]
    intro hall
    have h1 := List.all_eq_true.1 hall (coD es[j]) (List.mem_map_of_mem (List.getElem_mem hj))
    have h1 : es[i].tm ≤ es[j].tm := by simpa using h1
    have h2 := hmin es[i] (List.getElem_mem _)
    have h3 := List.pairwise_iff_getElem.1 h.srt i j (by omega) hj hij
    have := h2.2 (by omega)
    omega
end Go.Proofs.Ytmkicbphbegjbaa
namespace Go.Proofs.Ytmkicbphbegjbaa
open Go Go.Sse
set_option linter.unusedVariables false
set_option linter.unusedSimpArgs false
set_option maxRecDepth 10000
abbrev tStr : Nat := 9
end Go.Proofs.Ytmkicbphbegjbaa
namespace Go.Proofs.Ytmkicbphbegjbaa
open Go Go.Sse
set_option linter.unusedVariables false
set_option linter.unusedSimpArgs false
set_option maxRecDepth 10000
noncomputable instance zPd : TZero Try.prog tPd (.pointer none) := ⟨by kernel_rfl⟩
abbrev mapD (M : Nat) (mp : List (List UInt8 × Value)) : Own := mapO M (mp.map fun p => (sv p.1, p.2))
abbrev tmL (b M : Nat) (many : Int) (s : Value) (hs : List Dl) (mp : List (List UInt8 × Value)) (R : List Own) : List Own := hpL b (.val (.map (some M))) (int many) s hs ++ (mapD M mp :: R)
def Tm (b : Nat) (D : Dd) (n : Nat) (L : List Own) : Prop := ∃ (M : Nat) (many : Int) (s : Value) (hs : List Dl) (es : List Co) (mp : List (List UInt8 × Value)), L = tmL b M many s hs mp [] ∧ TmS hs es mp many ∧ D = es.map coD ∧ 0 ≤ many ∧ many ≤ n ∧ s.oneCell' = true
theorem tl_at {hs : List Dl} {i : Nat} (h : i < hs.length) (o p : Own) (R : List Own) : ((o :: p :: hs.map dlO) ++ R)[i + 2]? = some (.obj (gD hs i).b tDl (dlC (gD hs i))) := by
  show (hs.map dlO ++ R)[i]? = _
  rw [List.getElem?_append_left (by simpa using h)]
  exact hpL_at h o p
theorem tl_tail (hs : List Dl) (j : Nat) (o p : Own) (R : List Own) : ((o :: p :: hs.map dlO) ++ R)[hs.length + j + 2]? = R[j]? := by
  show (hs.map dlO ++ R)[hs.length + j]? = _
  rw [List.getElem?_append_right (by simp), List.length_map, Nat.add_sub_cancel_left]
theorem tl_setTail (hs : List Dl) (j : Nat) (o p x : Own) (R : List Own) : ((o :: p :: hs.map dlO) ++ R).set (hs.length + j + 2) x = (o :: p :: hs.map dlO) ++ R.set j x := by
  show o :: p :: (hs.map dlO ++ R).set (hs.length + j) x = _
  rw [List.set_append_right _ _ (by simp), List.length_map, Nat.add_sub_cancel_left]; rfl
theorem tl_set (hs : List Dl) (i : Nat) (hi : i < hs.length) (o p : Own) (x : Dl) (R : List Own) : ((o :: p :: hs.map dlO) ++ R).set (i + 2) (dlO x) = (o :: p :: (hs.set i x).map dlO) ++ R := by
  show o :: p :: (hs.map dlO ++ R).set i (dlO x) = _
  rw [List.set_append_left _ _ (by simpa using hi), List.map_set]; rfl
theorem findD_yes {es : List Co} {nm : List UInt8} (h : findD (es.map coD) nm < es.length) : (es[findD (es.map coD) nm]).nm = nm := by
  have := List.findIdx_getElem (xs := es.map coD) (p := fun p => decide (p.1 = nm)) (w := by simpa [findD] using h)
  simp only [List.getElem_map, decide_eq_true_eq] at this
  exact this
theorem findD_no {es : List Co} {nm : List UInt8} (h : ¬ findD (es.map coD) nm < es.length) : ∀ e ∈ es, e.nm ≠ nm := by
  intro e he hn
  refine h ?_
  have := (List.findIdx_lt_length (xs := es.map coD) (p := fun p => decide (p.1 = nm))).2 ⟨coD e, List.mem_map_of_mem he, by simpa using hn⟩
  simpa [findD] using this
set_option maxHeartbeats 4000000 in
theorem tNew_ok : FnC Try.prog 17 [] [] (fun r L => ∃ b, r = ptr b ∧ Tm b [] 0 L) := by
  refine FnC.intro Try.func17 rfl Try.ntmps17 rfl fun Z w0 hG => ?_
  refine W.rowNil tPd 1 (elOf encP 0 []) ?_
  focus (
 (refine W.seq (W.region (Jx.assign rfl rfl (J.nil (N.seq (W.seq (W.region ?_)))))))
 (refine J.makeMap rfl ?_; intro m)
 (refine Jx.buildB rfl rfl rfl rfl rfl ?_)
 (refine J.boxAg rfl rfl ?_; intro b')
 (refine Jx.assign rfl rfl (J.nil (N.seq (W.ret ?_))))
 (refine id ?_; rotate_left))
  refine N.perm (List.Perm.cons _ (List.Perm.swap _ _ _)) ?_
  exact N.ret (rs := [.tmp 0]) rfl (.tmp rfl .nil) ⟨_, rfl, m, 0, .slice none 0 0, [], [], [], rfl, tms_none, rfl, Int.le_refl _, Int.le_refl _, rfl⟩
set_option maxHeartbeats 4000000 in
theorem tLen_ok (b : Nat) (D : Dd) (n : Nat) (L0 : List Own) (h : Tm b D n L0) : FnC Try.prog 13 [ptr b] L0 (fun r L => r = int D.length ∧ L = L0) := by
  obtain ⟨M, many, s, hs, es, mp, rfl, hS, rfl, hm, hmn, h1⟩ := h
  have hl : (es.map coD).length = hs.length := by rw [List.length_map]; exact hS.len.symm
  rw [hl]
  refine FnC.intro Try.func13 rfl Try.ntmps13 rfl fun Z w0 hG => ?_
  focus (
 (refine W.seq (W.region (Jx.assign rfl rfl (J.nil (N.seq (W.seq (W.region (Jx.move rfl rfl (Jx.nilCheck rfl rfl ?_)))))))))
 (refine Jx.fieldAddr rfl rfl ?_)
 (refine Jx.load rfl 0 rfl rfl rfl ?_)
 (refine Jx.lenRow rfl 1 rfl rfl ?_)
 (refine Jx.assign rfl rfl (J.nil (N.seq (W.ret ?_))))
 (refine id ?_; rotate_left))
  exact N.ret (rs := [.tmp 2]) rfl (.tmp rfl .nil) ⟨rfl, rfl⟩
abbrev isAt (D : Dd) (nm : List UInt8) : Prop := findD D nm < D.length
abbrev whenD (D : Dd) (nm : List UInt8) : Int := if isAt D nm then (atD D (findD D nm)).2 else 0
end Go.Proofs.Ytmkicbphbegjbaa
namespace Go.Proofs.Ytmkicbphbegjbaa
open Go Go.Sse
set_option linter.unusedVariables false
set_option linter.unusedSimpArgs false
set_option maxRecDepth 10000
abbrev newD (D : Dd) (nm : List UInt8) (tm : Int) : Dd := D.eraseIdx (findD D nm) ++ [(nm, tm)]
def setD (D : Dd) (nm : List UInt8) (tm : Int) : Dd × Int :=
  if tm < 0 ∨ 1099511627776 < tm then (D, 1) else if ¬ isAt D nm ∧ 1024 ≤ D.length then (D, 2) else (newD D nm tm, 0)
abbrev dSet (d : Dl) (tm od : Int) : Dl := ⟨d.b, d.nm, tm, od, d.pl⟩
theorem Tm.up {b : Nat} {D : Dd} {n : Nat} {L : List Own} (h : Tm b D n L) : Tm b D (n + 1) L := by
  obtain ⟨M, many, s, hs, es, mp, h1, hS, h2, hm, hmn, h3⟩ := h
  exact ⟨M, many, s, hs, es, mp, h1, hS, h2, hm, by omega, h3⟩
theorem coD_erase (es : List Co) (k : Nat) : (es.eraseIdx k).map coD = (es.map coD).eraseIdx k := by
  rw [List.eraseIdx_eq_take_drop_succ, List.eraseIdx_eq_take_drop_succ, List.map_append, List.map_take, List.map_drop]
theorem tl_tail1 (hs : List Dl) (j : Nat) (x o p : Own) (R : List Own) : (x :: ((o :: p :: hs.map dlO) ++ R))[hs.length + j + 3]? = R[j]? := tl_tail hs j o p R
theorem tl_setTail1 (hs : List Dl) (j : Nat) (y o p x : Own) (R : List Own) : (y :: ((o :: p :: hs.map dlO) ++ R)).set (hs.length + j + 3) x = y :: ((o :: p :: hs.map dlO) ++ R.set j x) := congrArg (List.cons y) (tl_setTail hs j o p x R)
theorem bs_same {hs : List Dl} {i : Nat} (hi : i < hs.length) {tm od : Int} : bsD (hs.set i (dSet (gD hs i) tm od)) = bsD hs := by
  simp only [bsD, List.map_set]
  apply List.ext_getElem?
  intro q
  rw [List.getElem?_set]
  by_cases e : i = q
  · subst e; simp [hi, gD_get hi]
  · simp [e]
set_option maxHeartbeats 4000000 in
theorem tSet_ok (b : Nat) (D : Dd) (n : Nat) (L0 : List Own) (h : Tm b D n L0) (nm : List UInt8) (tm : Int) (hn : n < 1099511627776) (hD : D.length < 100000) : FnC Try.prog 15 [ptr b, str nm, int tm] L0 (fun r L => r = int (setD D nm tm).2 ∧ Tm b (setD D nm tm).1 (n + 1) L) := by
  by_cases ha : tm < 0 ∨ 1099511627776 < tm
  · rw [show setD D nm tm = (D, 1) by unfold setD; rw [if_pos ha]]
    have hup := h.up
    by_cases h0 : tm < 0
    · refine FnC.intro Try.func15 rfl Try.ntmps15 rfl fun Z w0 hG => ?_
      focus (
 (refine W.seq (W.region (Jx.assign rfl rfl (J.nil (N.seq (W.seq (W.seq (W.region (Jx.move rfl rfl (Jx.lssI rfl rfl rfl (Jx.move rfl rfl (J.gN rfl rfl rfl rfl ?_))))))))))))
 (refine J.gN rfl rfl rfl rfl ?_)
 (refine Jx.pT rfl rfl rfl ?_)
 (refine J.nil (N.seq (W.cT rfl ?_)))
 (refine W.seq (W.region (Jx.assign rfl rfl (J.nil (N.seq (W.ret (N.noGotoRet ?_)))))))
 (refine id ?_; rotate_left))
      exact N.ret (rs := [.tmp 6]) rfl (.tmp rfl .nil) ⟨rfl, hup⟩
    · have h0' : 1099511627776 < tm := by omega
      refine FnC.intro Try.func15 rfl Try.ntmps15 rfl fun Z w0 hG => ?_
      focus (
 (refine W.seq (W.region (Jx.assign rfl rfl (J.nil (N.seq (W.seq (W.seq (W.region (Jx.move rfl rfl (Jx.lssI rfl rfl rfl (Jx.move rfl rfl (J.gY rfl rfl rfl ?_))))))))))))
 (refine Jx.move rfl rfl (J.gY rfl rfl rfl ?_))
 (refine Jx.gtrI rfl rfl rfl (Jx.pF rfl rfl rfl ?_))
 (refine J.nil (N.seq (W.cT rfl ?_)))
 (refine W.seq (W.region (Jx.assign rfl rfl (J.nil (N.seq (W.ret (N.noGotoRet ?_)))))))
 (refine id ?_; rotate_left))
      exact N.ret (rs := [.tmp 6]) rfl (.tmp rfl .nil) ⟨rfl, hup⟩
  have ha1 : ¬ tm < 0 := by omega
  have ha2 : ¬ 1099511627776 < tm := by omega
  have hcase : setD D nm tm = if ¬ isAt D nm ∧ 1024 ≤ D.length then (D, 2) else (newD D nm tm, 0) := by unfold setD; rw [if_neg ha]
  rw [hcase]
  have hup := h.up
  obtain ⟨M, many, s, hs, es, mp, rfl, hS, rfl, hm, hmn, h1⟩ := h
  have hl : (es.map coD).length = es.length := List.length_map _
  have hle := hS.len
  have hM := fun o p => tl_tail hs 0 o p [mapD M mp]
  have hD2 : es.length < 100000 := by rw [← hl]; exact hD
  unfold isAt newD
  rw [hl]
  by_cases h0 : findD (es.map coD) nm < es.length
  · rw [if_neg (fun hh => hh.1 h0)]
    have hnm := findD_yes h0
    have hlk := hS.lkSome h0
    rw [hnm] at hlk
    obtain ⟨i, hi, hc⟩ := hS.at h0
    have hS2 := tms_again hS h0 hi hc tm
    rw [hnm] at hS2
    have hpl := hS.pl i hi
    rw [← hc] at hlk
    change lk mp nm = some (ptrV (gD hs i).b) at hlk
    have hI := fun o p => tl_at hi o p [mapD M mp]
    have s1 := fun o p => tl_set hs i hi o p (dSet (gD hs i) tm (gD hs i).od) [mapD M mp]
    have hi1 : i < (hs.set i (dSet (gD hs i) tm (gD hs i).od)).length := by rw [List.length_set]; exact hi
    have hI1 := fun o p => tl_at hi1 o p [mapD M mp]
    rw [gD_set _ _ _ _ hi, if_pos rfl] at hI1
    have s2 := fun o p => tl_set _ i hi1 o p (dSet (gD hs i) tm (many + 1)) [mapD M mp]
    simp only [List.set_set] at s2
    have hi2 : i < (hs.set i (dSet (gD hs i) tm (many + 1))).length := by rw [List.length_set]; exact hi
    have hI2 := fun o p => tl_at hi2 o p [mapD M mp]
    rw [gD_set _ _ _ _ hi, if_pos rfl] at hI2
    simp only [dlC, hpl] at hI2
    have cf := fix_ok b (.val (.map (some M))) (int (many + 1)) s (hs.set i (dSet (gD hs i) tm (many + 1))) i hi2 (by rw [List.length_set]; omega)
    rw [List.length_set] at cf
    have hrow : rowD s hs.length (bsD hs) = rowD s (hs.set i (dSet (gD hs i) tm (many + 1))).length (bsD (hs.set i (dSet (gD hs i) tm (many + 1)))) := by
      rw [List.length_set, bs_same hi]
    have hfin : ((es.eraseIdx (findD (es.map coD) nm) ++ [(⟨es[findD (es.map coD) nm].b, nm, tm, many + 1⟩ : Co)]).map coD) = (es.map coD).eraseIdx (findD (es.map coD) nm) ++ [(nm, tm)] := by rw [List.map_append, coD_erase]; rfl
    rw [← hfin]
    refine FnC.intro Try.func15 rfl Try.ntmps15 rfl fun Z w0 hG => ?_
    focus (
 (refine W.seq (W.region (Jx.assign rfl rfl (J.nil (N.seq (W.seq (W.seq (W.region (Jx.move rfl rfl (Jx.lssI rfl rfl rfl (Jx.move rfl rfl (J.gY rfl rfl rfl ?_))))))))))))
 (refine Jx.move rfl rfl (J.gY rfl rfl rfl ?_))
 (refine Jx.gtrI rfl rfl rfl (Jx.pF rfl rfl rfl ?_))
 (refine J.nil (N.seq (W.cF rfl ?_)))
 (refine W.skip (N.seq (W.seq (W.region (Jx.move rfl rfl (Jx.nilCheck rfl rfl ?_))))))
 (refine Jx.fieldAddr rfl rfl ?_)
 (refine Jx.load rfl 0 rfl rfl rfl ?_)
 (refine Jx.move rfl rfl ?_)
 (refine Jx.lookupS rfl rfl (hs.length + 0 + 2) (hM _ _) rfl ?_; rw [hlk])
 (refine Jx.move rfl rfl (Jx.extract rfl rfl rfl ?_))
 (refine Jx.extract rfl rfl rfl ?_)
 (refine Jx.assign rfl rfl (Jx.assign rfl rfl (J.nil (N.seq (W.seq (W.seq (W.region (Jx.move rfl rfl (Jx.not rfl rfl (Jx.move rfl rfl (J.gN rfl rfl rfl rfl ?_)))))))))))
 (refine J.gN rfl rfl rfl rfl ?_)
 (refine J.gN rfl rfl rfl rfl ?_)
 (refine J.gN rfl rfl rfl rfl ?_)
 (refine J.gN rfl rfl rfl rfl ?_)
 (refine J.gN rfl rfl rfl rfl ?_)
 (refine Jx.pF rfl rfl rfl ?_)
 (refine J.nil (N.seq (W.cF rfl ?_)))
 (refine W.skip (N.seq (W.seq (W.region (Jx.move rfl rfl (Jx.nilCheck rfl rfl ?_))))))
 (refine Jx.fieldAddr rfl rfl ?_)
 (refine Jx.load rfl 0 rfl rfl rfl ?_)
 (refine Jx.add64 rfl rfl (by omega) rfl ?_)
 (refine Jx.nilCheck rfl rfl ?_)
 (refine Jx.fieldAddr rfl rfl ?_)
 (refine J.store rfl rfl (One.val rfl) 0 rfl rfl rfl rfl ?_)
 (refine J.nil (N.seq (W.seq (W.seq (W.region (Jx.move rfl rfl (J.nil (N.seq (W.cT rfl ?_)))))))))
 (refine W.seq (W.region (Jx.move rfl rfl (Jx.move rfl rfl (Jx.move rfl rfl (Jx.move rfl rfl (Jx.nilCheck rfl rfl ?_)))))))
 (refine Jx.fieldAddr rfl rfl ?_)
 (refine Jx.load rfl 0 rfl rfl rfl ?_)
 (refine Jx.nilCheck rfl rfl ?_)
 (refine Jx.fieldAddr rfl rfl ?_)
 (refine J.store rfl rfl (One.val rfl) (i + 2) (hI _ _) rfl rfl (s1 _ _) ?_)
 (refine Jx.nilCheck rfl rfl ?_)
 (refine Jx.fieldAddr rfl rfl ?_)
 (refine J.store rfl rfl (One.val rfl) (i + 2) (hI1 _ _) rfl rfl (s2 _ _) ?_)
 (refine J.nil (N.seq (W.seq ?_)))
 (refine W.draw follows ?_)
 (refine JD.till (l := [_, _, _, _, _, _, _, _, ⟨some 62, .call _, _, _, _, none⟩]) 8 (by decide +kernel) (by decide +kernel) rfl rfl ?_)
 (refine Cx.move rfl rfl ?_)
 (refine Cx.nilCheck rfl rfl ?_)
 (refine Cx.fieldAddr rfl rfl ?_)
 (refine Cx.mkIface rfl rfl ?_)
 (refine Cx.move rfl rfl ?_)
 (refine Cx.nilCheck rfl rfl ?_)
 (refine Cx.fieldAddr rfl rfl ?_)
 (refine Cx.load rfl (i + 2) (hI2 _ _) rfl rfl ?_)
 (refine SegC.nil ?_)
 (rw [hrow]; refine J.call cf rfl (evs_args rfl) rfl ?_; rintro _ _ rfl)
 (refine J.nil (N.seq (W.seq (W.region (Jx.assign rfl rfl (J.nil (N.seq (W.ret (N.noGotoRet ?_)))))))))
 (refine id ?_; rotate_left))
    exact N.ret (rs := [.tmp 6]) rfl (.tmp rfl .nil) ⟨rfl, M, many + 1, s, _, _, mp, rfl, hS2, rfl, by omega, by omega, h1⟩
  · have hno := findD_no h0
    have hlk := hS.lkNone hno
    by_cases h3 : 1024 ≤ es.length
    · rw [if_pos ⟨h0, h3⟩]
      have h3' : 1024 ≤ (hs.length : Int) := by omega
      refine FnC.intro Try.func15 rfl Try.ntmps15 rfl fun Z w0 hG => ?_
      focus (
 (refine W.seq (W.region (Jx.assign rfl rfl (J.nil (N.seq (W.seq (W.seq (W.region (Jx.move rfl rfl (Jx.lssI rfl rfl rfl (Jx.move rfl rfl (J.gY rfl rfl rfl ?_))))))))))))
 (refine Jx.move rfl rfl (J.gY rfl rfl rfl ?_))
 (refine Jx.gtrI rfl rfl rfl (Jx.pF rfl rfl rfl ?_))
 (refine J.nil (N.seq (W.cF rfl ?_)))
 (refine W.skip (N.seq (W.seq (W.region (Jx.move rfl rfl (Jx.nilCheck rfl rfl ?_))))))
 (refine Jx.fieldAddr rfl rfl ?_)
 (refine Jx.load rfl 0 rfl rfl rfl ?_)
 (refine Jx.move rfl rfl ?_)
 (refine Jx.lookupS rfl rfl (hs.length + 0 + 2) (hM _ _) rfl ?_; rw [hlk])
 (refine Jx.move rfl rfl (Jx.extract rfl rfl rfl ?_))
 (refine Jx.extract rfl rfl rfl ?_)
 (refine Jx.assign rfl rfl (Jx.assign rfl rfl (J.nil (N.seq (W.seq (W.seq (W.region (Jx.move rfl rfl (Jx.not rfl rfl (Jx.move rfl rfl (J.gY rfl rfl rfl ?_)))))))))))
 (refine Jx.move rfl rfl (J.gY rfl rfl rfl ?_))
 (refine Jx.nilCheck rfl rfl ?_)
 (refine J.gY rfl rfl rfl ?_)
 (refine Jx.fieldAddr rfl rfl ?_)
 (refine J.gY rfl rfl rfl ?_)
 (refine Jx.load rfl 0 rfl rfl rfl ?_)
 (refine J.gY rfl rfl rfl ?_)
 (refine Jx.lenRow rfl 1 rfl rfl ?_)
 (refine J.gY rfl rfl rfl ?_)
 (refine Jx.geqI rfl rfl rfl (Jx.pT rfl rfl rfl ?_))
 (refine J.nil (N.seq (W.cT rfl ?_)))
 (refine W.seq (W.region (Jx.assign rfl rfl (J.nil (N.seq (W.ret (N.noGotoRet ?_)))))))
 (refine id ?_; rotate_left))
      exact N.ret (rs := [.tmp 6]) rfl (.tmp rfl .nil) ⟨rfl, hup⟩
    · rw [if_neg (fun hh => h3 hh.2)]
      have h3' : ¬ 1024 ≤ (hs.length : Int) := by omega
      have hS2 := fun b' => tms_more hS hno b' tm
      have hfin : ∀ b', ((es ++ [(⟨b', nm, tm, many + 1⟩ : Co)]).map coD) = (es.map coD).eraseIdx (findD (es.map coD) nm) ++ [(nm, tm)] := fun b' => by rw [List.map_append, List.eraseIdx_of_length_le (by rw [hl]; omega)]; rfl
      have cp := fun b' => hpush_ok b (.val (.map (some M))) (int (many + 1)) s hs ⟨b', nm, tm, many + 1, 0⟩ (by omega)
      refine FnC.intro Try.func15 rfl Try.ntmps15 rfl fun Z w0 hG => ?_
      focus (
 (refine W.seq (W.region (Jx.assign rfl rfl (J.nil (N.seq (W.seq (W.seq (W.region (Jx.move rfl rfl (Jx.lssI rfl rfl rfl (Jx.move rfl rfl (J.gY rfl rfl rfl ?_))))))))))))
 (refine Jx.move rfl rfl (J.gY rfl rfl rfl ?_))
 (refine Jx.gtrI rfl rfl rfl (Jx.pF rfl rfl rfl ?_))
 (refine J.nil (N.seq (W.cF rfl ?_)))
 (refine W.skip (N.seq (W.seq (W.region (Jx.move rfl rfl (Jx.nilCheck rfl rfl ?_))))))
 (refine Jx.fieldAddr rfl rfl ?_)
 (refine Jx.load rfl 0 rfl rfl rfl ?_)
 (refine Jx.move rfl rfl ?_)
 (refine Jx.lookupS rfl rfl (hs.length + 0 + 2) (hM _ _) rfl ?_; rw [hlk])
 (refine Jx.move rfl rfl (Jx.extract rfl rfl rfl ?_))
 (refine Jx.extract rfl rfl rfl ?_)
 (refine Jx.assign rfl rfl (Jx.assign rfl rfl (J.nil (N.seq (W.seq (W.seq (W.region (Jx.move rfl rfl (Jx.not rfl rfl (Jx.move rfl rfl (J.gY rfl rfl rfl ?_)))))))))))
 (refine Jx.move rfl rfl (J.gY rfl rfl rfl ?_))
 (refine Jx.nilCheck rfl rfl ?_)
 (refine J.gY rfl rfl rfl ?_)
 (refine Jx.fieldAddr rfl rfl ?_)
 (refine J.gY rfl rfl rfl ?_)
 (refine Jx.load rfl 0 rfl rfl rfl ?_)
 (refine J.gY rfl rfl rfl ?_)
 (refine Jx.lenRow rfl 1 rfl rfl ?_)
 (refine J.gY rfl rfl rfl ?_)
 (refine Jx.geqI rfl rfl rfl (Jx.pT rfl rfl rfl ?_))
 (refine J.nil (N.seq (W.cF rfl ?_)))
 (refine W.skip (N.seq (W.seq (W.region (Jx.move rfl rfl (Jx.nilCheck rfl rfl ?_))))))
 (refine Jx.fieldAddr rfl rfl ?_)
 (refine Jx.load rfl 0 rfl rfl rfl ?_)
 (refine Jx.add64 rfl rfl (by omega) rfl ?_)
 (refine Jx.nilCheck rfl rfl ?_)
 (refine Jx.fieldAddr rfl rfl ?_)
 (refine J.store rfl rfl (One.val rfl) 0 rfl rfl rfl rfl ?_)
 (refine J.nil (N.seq (W.seq (W.seq (W.region (Jx.move rfl rfl (J.nil (N.seq (W.cF rfl ?_)))))))))
 (refine W.skip (N.seq (W.seq (W.region (Jx.move rfl rfl (Jx.move rfl rfl (Jx.move rfl rfl (Jx.nilCheck rfl rfl ?_))))))))
 (refine Jx.fieldAddr rfl rfl ?_)
 (refine Jx.load rfl 0 rfl rfl rfl ?_)
 (refine Jx.buildB rfl rfl rfl rfl rfl ?_)
 (refine J.boxAg rfl rfl ?_; intro b')
 (refine Jx.assign rfl rfl (J.nil (N.seq (W.seq (W.region (Jx.move rfl rfl (Jx.nilCheck rfl rfl ?_)))))))
 (refine Jx.fieldAddr rfl rfl ?_)
 (refine Jx.load rfl 1 rfl rfl rfl ?_)
 (refine Jx.move rfl rfl (Jx.move rfl rfl ?_))
 (refine J.mapUpdS rfl rfl rfl (hs.length + 0 + 3) (tl_tail1 hs 0 _ _ _ [mapD M mp]) hlk (tl_setTail1 hs 0 _ _ _ _ _) ?_)
 (refine J.nil (N.seq (W.seq (W.region (Jx.move rfl rfl (Jx.nilCheck rfl rfl ?_))))))
 (refine Jx.fieldAddr rfl rfl ?_)
 (refine Jx.mkIface rfl rfl ?_)
 (refine Jx.move rfl rfl (Jx.mkIface rfl rfl ?_))
 (refine J.perm (List.Perm.trans (List.Perm.swap _ _ _) (List.Perm.cons _ (List.Perm.swap _ _ _))) ?_; refine J.call (cp _) rfl (evs_args rfl) rfl ?_; rintro _ _ ⟨s', hs', rfl⟩)
 (refine J.nil (N.seq (W.seq (W.region (Jx.assign rfl rfl (J.nil (N.seq (W.ret ?_))))))))
 (refine id ?_; rotate_left))
      exact N.ret (rs := [.tmp 6]) rfl (.tmp rfl .nil) ⟨rfl, M, many + 1, s', _, _, _, rfl, hS2 _, (hfin _).symm, by omega, by omega, hs'⟩
end Go.Proofs.Ytmkicbphbegjbaa
namespace Go.Proofs.Ytmkicbphbegjbaa
open Go Go.Sse
set_option linter.unusedVariables false
set_option linter.unusedSimpArgs false
set_option maxRecDepth 10000
def dueD : Nat → Dd → Int → List (List UInt8) × Dd
  | 0, D, _ => ([], D)
  | f + 1, D, now => if 0 < D.length ∧ (atD D (firstD D)).2 ≤ now then ((atD D (firstD D)).1 :: (dueD f (D.eraseIdx (firstD D)) now).1, (dueD f (D.eraseIdx (firstD D)) now).2) else ([], D)
def due (D : Dd) (now : Int) : List (List UInt8) × Dd := dueD D.length D now
theorem dueD_stop (f : Nat) (D : Dd) (now : Int) (h : ¬ (0 < D.length ∧ (atD D (firstD D)).2 ≤ now)) : dueD f D now = ([], D) := by
  cases f with
  | zero => rfl
  | succ f => unfold dueD; rw [if_neg h]
theorem dueD_go (f : Nat) (D : Dd) (now : Int) (h : 0 < D.length ∧ (atD D (firstD D)).2 ≤ now) : dueD (f + 1) D now = ((atD D (firstD D)).1 :: (dueD f (D.eraseIdx (firstD D)) now).1, (dueD f (D.eraseIdx (firstD D)) now).2) := by
  conv => lhs; unfold dueD
  rw [if_pos h]
abbrev rowN (v : Value) (l : List (List UInt8)) : Own := .row v tStr 1 l.length (elOf encS [] l)
theorem atD_co {es : List Co} {j : Nat} (hj : j < es.length) : atD (es.map coD) j = coD es[j] := by
  simp only [atD, List.getD_eq_getElem?_getD, List.getElem?_map, List.getElem?_eq_getElem hj]; rfl
structure DueS where
  f : Nat
  s : Value
  hs : List Dl
  es : List Co
  mp : List (List UInt8 × Value)
  out : List (List UInt8)
  v : Value
theorem two_perm (A : List Own) (x y : Own) : (A ++ [x, y]).Perm (y :: (A ++ [x])) := by
  rw [show A ++ [x, y] = (A ++ [x]) ++ [y] by simp]
  exact List.perm_append_comm (l₁ := A ++ [x]) (l₂ := [y])
set_option maxHeartbeats 8000000 in
theorem tDue_ok (b : Nat) (D : Dd) (n : Nat) (L0 : List Own) (h : Tm b D n L0) (now : Int) (hD : D.length < 100000) : FnC Try.prog 12 [ptr b, int now] L0 (fun r L => ∃ v Lt, v.oneCell' = true ∧ r = .val v ∧ L = rowN v (due D now).1 :: Lt ∧ Tm b (due D now).2 n Lt) := by
  obtain ⟨M, many, s0, hs0, es0, mp0, rfl, hS0, rfl, hm, hmn, h10⟩ := h
  have hl0 : (es0.map coD).length = hs0.length := by rw [List.length_map]; exact hS0.len.symm
  have hD0 : hs0.length < 100000 := by rw [← hl0]; exact hD
  unfold due
  rw [hl0]
  generalize hR : dueD hs0.length (es0.map coD) now = R
  refine FnC.intro Try.func12 rfl Try.ntmps12 rfl fun Z w0 hG => ?_
  refine W.rowNil tStr 1 (elOf encS [] []) ?_
  refine W.perm (List.perm_append_comm (l₁ := [rowN (.slice none 0 0) []]) (l₂ := tmL b M many s0 hs0 mp0 [])) ?_
  focus (
 (refine W.seq (W.region (Jx.assign rfl rfl (J.nil (N.seq (W.seq (W.region (Jx.assign rfl rfl (J.nil (N.seq (W.seq (W.block ?_))))))))))))
 (refine id ?_; rotate_left))
  refine W.loop (α := DueS) (fun x => [(5, .val x.v), (0, ptr b), (1, int now)]) (fun x => tmL b M many x.s x.hs x.mp [rowN x.v x.out]) (fun x => TmS x.hs x.es x.mp many ∧ x.hs.length ≤ x.f ∧ x.out ++ (dueD x.f (x.es.map coD) now).1 = R.1 ∧ (dueD x.f (x.es.map coD) now).2 = R.2 ∧ x.s.oneCell' = true ∧ x.hs.length + x.out.length = hs0.length ∧ x.v.oneCell' = true) (fun x => x.hs.length) ⟨hs0.length, s0, hs0, es0, mp0, [], .slice none 0 0⟩ ⟨hS0, Nat.le_refl _, by simp only [List.nil_append, hR], by simp only [hR], h10, rfl, rfl⟩ (by simp only [tmL, hpL, List.cons_append, List.append_assoc]; rfl) ⟨ref0 rfl, ref0 rfl, ref0 rfl, trivial⟩ ?_
  rintro ⟨f, s, hs, es, mp, out, v⟩ ⟨hS, hf, hd1, hd2, h1, hlen, hv⟩
  simp only at hS hf hd1 hd2 h1 hlen hv ⊢
  have hl : (es.map coD).length = hs.length := by rw [List.length_map]; exact hS.len.symm
  have hend := two_perm (hpL b (.val (.map (some M))) (int many) s hs) (mapD M mp) (rowN v out)
  by_cases h0 : 0 < hs.length
  · obtain ⟨j, hj, hc, hfj⟩ := hS.first h0
    have hat : (atD (es.map coD) (firstD (es.map coD))) = coD es[j] := by rw [hfj, atD_co hj]
    have htm : es[j].tm = (gD hs 0).tm := by rw [← hc]; rfl
    have hI := fun o p => tl_at h0 o p [mapD M mp, rowN v out]
    have hgt : (0 : Int) < (hs.length : Int) := by omega
    by_cases h2 : (gD hs 0).tm ≤ now
    · obtain ⟨k, hk⟩ : ∃ k, hs.length = k + 1 := ⟨hs.length - 1, by omega⟩
      obtain ⟨g, rfl⟩ : ∃ g, f = g + 1 := ⟨f - 1, by omega⟩
      rw [dueD_go g _ _ ⟨by rw [hl]; exact h0, by rw [hat]; show es[j].tm ≤ now; omega⟩, hat, hfj, ← coD_erase] at hd1 hd2
      obtain ⟨hcA, hS2⟩ := tms_pop hS hk hj hc
      have cp := hpop_ok b (.val (.map (some M))) (int many) s hs k hk (by omega)
      have hA : ((popA hs k).take k).length = k := by rw [List.length_take, popA_length]; omega
      have hnm : es[j].nm = (gD (popA hs k) k).nm := by rw [← hcA]; rfl
      rw [hnm] at hS2
      simp only [coD, hnm] at hd1
      generalize popA hs k = A at *
      generalize gD A k = d at *
      have hT := fun (j : Nat) o p mp' v' => tl_tail (A.take k) j o p ([dlO d] ++ [mapD M mp', rowN v' out])
      have hTs := fun (j : Nat) o p x mp' => tl_setTail (A.take k) j o p x ([dlO d] ++ [mapD M mp', rowN v out])
      have hmx : out.length + [d.nm].length ≤ maxLen ∧ (out.length + [d.nm].length) * 16 ≤ 140737488355328 := by simp only [maxLen, List.length_cons, List.length_nil]; omega
      have hdr : ∀ s' v', (tmL b M many s' (A.take k) (unk mp d.nm) [rowN v' (out ++ [d.nm])]).Sublist (hpL b (.val (.map (some M))) (int many) s' (A.take k) ++ [dlO d, mapD M (unk mp d.nm), rowN v' (out ++ [d.nm])]) := fun s' v' => (List.Sublist.refl _).append (List.sublist_cons_self _ _)
      have hol : (out ++ [d.nm]).length = out.length + 1 := by simp
      focus (
 (refine W.seq (W.seq (W.region (Jx.move rfl rfl (Jx.nilCheck rfl rfl ?_)))))
 (refine Jx.fieldAddr rfl rfl ?_)
 (refine Jx.load rfl 0 rfl rfl rfl ?_)
 (refine Jx.lenRow rfl 1 rfl rfl ?_)
 (refine Jx.gtrI rfl rfl rfl (Jx.move rfl rfl (J.gY rfl rfl rfl ?_)))
 (refine Jx.move rfl rfl (J.gY rfl rfl rfl ?_))
 (refine Jx.nilCheck rfl rfl ?_)
 (refine J.gY rfl rfl rfl ?_)
 (refine Jx.fieldAddr rfl rfl ?_)
 (refine J.gY rfl rfl rfl ?_)
 (refine Jx.load rfl 0 rfl rfl rfl ?_)
 (refine J.gY rfl rfl rfl ?_)
 (refine J.rowView 1 rfl h0 ?_; rintro r cap rfl hc1 hc2; refine Jx.indexRow 0 rfl rfl rfl h0 rfl ?_)
 (refine J.gY rfl rfl rfl ?_)
 (refine Jx.loadRow rfl 1 rfl 0 0 rfl h0 (by decide) bs_el rfl ?_)
 (refine J.gY rfl rfl rfl ?_)
 (refine Jx.nilCheck rfl rfl ?_)
 (refine J.gY rfl rfl rfl ?_)
 (refine Jx.fieldAddr rfl rfl ?_)
 (refine J.gY rfl rfl rfl ?_)
 (refine Jx.load rfl (0 + 2) (hI _ _) rfl rfl ?_)
 (refine J.gY rfl rfl rfl ?_)
 (refine Jx.move rfl rfl (J.gY rfl rfl rfl ?_))
 (refine Jx.leqI rfl rfl rfl (Jx.pT rfl rfl rfl ?_))
 (refine J.nil (N.seq (W.cT rfl ?_)))
 (refine W.skip (N.seq (W.block (W.seq (W.region (Jx.move rfl rfl (Jx.nilCheck rfl rfl ?_)))))))
 (refine Jx.fieldAddr rfl rfl ?_)
 (refine Jx.mkIface rfl rfl ?_)
 (refine J.call cp rfl (evs_args rfl) rfl ?_; rintro _ _ ⟨s', hs', rfl, rfl⟩; rw [List.append_assoc])
 (refine Jx.asIface rfl rfl ?_)
 (refine Jx.assign rfl rfl (J.nil (N.seq (W.seq ?_))))
 (refine W.draw follows ?_)
 (refine JD.till (l := [_, _, _, _, _, _, _, _, ⟨none, .call _, _, _, _, none⟩]) 8 (by decide +kernel) (by decide +kernel) rfl rfl ?_)
 (refine Cx.move rfl rfl ?_)
 (refine Cx.nilCheck rfl rfl ?_)
 (refine Cx.fieldAddr rfl rfl ?_)
 (refine Cx.load rfl 0 rfl rfl rfl ?_)
 (refine Cx.move rfl rfl ?_)
 (refine Cx.nilCheck rfl rfl ?_)
 (refine Cx.fieldAddr rfl rfl ?_)
 (refine Cx.load rfl ((A.take k).length + 0 + 2) (hT 0 _ _ _ _) rfl rfl ?_)
 (refine SegC.nil ?_)
 (refine J.deleteS rfl rfl ((A.take k).length + 1 + 2) (hT 1 _ _ _ _) (hTs 1 _ _ _ _) ?_)
 (refine J.nil (N.seq (W.region (Jx.move rfl rfl (Jx.move rfl rfl (Jx.nilCheck rfl rfl ?_))))))
 (refine Jx.fieldAddr rfl rfl ?_)
 (refine Jx.load rfl ((A.take k).length + 0 + 2) (hT 0 _ _ _ _) rfl rfl ?_)
 (refine J.qs (Qs.buildL str [] [d.nm] (fun _ => .val rfl) rfl rfl rfl (by decide) (by decide) rfl) rfl ?_)
 (refine J.appendAt (enc := encS) (l := out) (l2 := [d.nm]) ((A.take k).length + 2 + 2) (hT 2 _ _ _ _) rfl (SrcOK.sl rfl) rfl rfl hmx rfl ?_; intro v' hv'; rw [tl_setTail])
 (refine Jx.assign rfl rfl (J.nil (N.noGotoNormal ?_)))
 (refine id ?_; rotate_left))
      refine N.drop (hdr s' v') ?_
      exact N.round ⟨g, s', A.take k, es.eraseIdx j, unk mp d.nm, out ++ [d.nm], v'⟩ ⟨hS2, by simp only [hA]; omega, by simp only [List.append_assoc, List.singleton_append]; exact hd1, hd2, hs', by simp only [hA, hol]; omega, hv'⟩ (by simp only [hA]; omega) rfl ⟨ref0 rfl, ref0 rfl, ref0 rfl, trivial⟩
    · rw [dueD_stop f _ _ (by rw [hat]; rintro ⟨_, hh⟩; exact h2 (htm ▸ hh))] at hd1 hd2
      focus (
 (refine W.seq (W.seq (W.region (Jx.move rfl rfl (Jx.nilCheck rfl rfl ?_)))))
 (refine Jx.fieldAddr rfl rfl ?_)
 (refine Jx.load rfl 0 rfl rfl rfl ?_)
 (refine Jx.lenRow rfl 1 rfl rfl ?_)
 (refine Jx.gtrI rfl rfl rfl (Jx.move rfl rfl (J.gY rfl rfl rfl ?_)))
 (refine Jx.move rfl rfl (J.gY rfl rfl rfl ?_))
 (refine Jx.nilCheck rfl rfl ?_)
 (refine J.gY rfl rfl rfl ?_)
 (refine Jx.fieldAddr rfl rfl ?_)
 (refine J.gY rfl rfl rfl ?_)
 (refine Jx.load rfl 0 rfl rfl rfl ?_)
 (refine J.gY rfl rfl rfl ?_)
 (refine J.rowView 1 rfl h0 ?_; rintro r cap rfl hc1 hc2; refine Jx.indexRow 0 rfl rfl rfl h0 rfl ?_)
 (refine J.gY rfl rfl rfl ?_)
 (refine Jx.loadRow rfl 1 rfl 0 0 rfl h0 (by decide) bs_el rfl ?_)
 (refine J.gY rfl rfl rfl ?_)
 (refine Jx.nilCheck rfl rfl ?_)
 (refine J.gY rfl rfl rfl ?_)
 (refine Jx.fieldAddr rfl rfl ?_)
 (refine J.gY rfl rfl rfl ?_)
 (refine Jx.load rfl (0 + 2) (hI _ _) rfl rfl ?_)
 (refine J.gY rfl rfl rfl ?_)
 (refine Jx.move rfl rfl (J.gY rfl rfl rfl ?_))
 (refine Jx.leqI rfl rfl rfl (Jx.pT rfl rfl rfl ?_))
 (refine J.nil (N.seq (W.cF rfl ?_)))
 (refine W.exit (N.seq (W.seq (W.region (Jx.move rfl rfl (Jx.assign rfl rfl (J.nil (N.seq (W.ret ?_)))))))))
 (refine id ?_; rotate_left))
      refine N.perm hend ?_
      exact N.ret (rs := [.tmp 4]) rfl (.tmp rfl .nil) ⟨v, _, hv, rfl, by rw [← hd1, List.append_nil], M, many, _, hs, es, mp, rfl, hS, hd2.symm, hm, hmn, h1⟩
  · rw [dueD_stop f _ _ (by rw [hl]; rintro ⟨hh, _⟩; exact h0 hh)] at hd1 hd2
    have hgt : ¬ (0 : Int) < (hs.length : Int) := by omega
    focus (
 (refine W.seq (W.seq (W.region (Jx.move rfl rfl (Jx.nilCheck rfl rfl ?_)))))
 (refine Jx.fieldAddr rfl rfl ?_)
 (refine Jx.load rfl 0 rfl rfl rfl ?_)
 (refine Jx.lenRow rfl 1 rfl rfl ?_)
 (refine Jx.gtrI rfl rfl rfl (Jx.move rfl rfl (J.gN rfl rfl rfl rfl ?_)))
 (refine J.gN rfl rfl rfl rfl ?_)
 (refine J.gN rfl rfl rfl rfl ?_)
 (refine J.gN rfl rfl rfl rfl ?_)
 (refine J.gN rfl rfl rfl rfl ?_)
 (refine J.gN rfl rfl rfl rfl ?_)
 (refine J.gN rfl rfl rfl rfl ?_)
 (refine J.gN rfl rfl rfl rfl ?_)
 (refine J.gN rfl rfl rfl rfl ?_)
 (refine J.gN rfl rfl rfl rfl ?_)
 (refine J.gN rfl rfl rfl rfl ?_)
 (refine Jx.pF rfl rfl rfl ?_)
 (refine J.nil (N.seq (W.cF rfl ?_)))
 (refine W.exit (N.seq (W.seq (W.region (Jx.move rfl rfl (Jx.assign rfl rfl (J.nil (N.seq (W.ret ?_)))))))))
 (refine id ?_; rotate_left))
    refine N.perm hend ?_
    exact N.ret (rs := [.tmp 4]) rfl (.tmp rfl .nil) ⟨v, _, hv, rfl, by rw [← hd1, List.append_nil], M, many, _, hs, es, mp, rfl, hS, hd2.symm, hm, hmn, h1⟩
end Go.Proofs.Ytmkicbphbegjbaa
namespace Go.Proofs.Ytmkicbphbegjbaa
open Go Go.Sse
set_option linter.unusedVariables false
set_option linter.unusedSimpArgs false
set_option maxRecDepth 10000
theorem least_in : ∀ (D : Dd), 0 < D.length → ∃ p ∈ D, ∀ q ∈ D, p.2 ≤ q.2
  | [], h => by simp at h
  | p :: D, _ => by
    by_cases h : 0 < D.length
    · obtain ⟨q, hq, hm⟩ := least_in D h
      by_cases hpq : p.2 ≤ q.2
      · exact ⟨p, List.mem_cons_self .., fun r hr => by
          rcases List.mem_cons.1 hr with e | e
          · rw [e]; exact Int.le_refl _
          · have := hm r e; omega⟩
      · exact ⟨q, List.mem_cons_of_mem _ hq, fun r hr => by
          rcases List.mem_cons.1 hr with e | e
          · rw [e]; omega
          · exact hm r e⟩
    · have : D = [] := List.eq_nil_of_length_eq_zero (by omega)
      subst this
      exact ⟨p, List.mem_cons_self .., fun r hr => by rw [List.mem_singleton.1 hr]; exact Int.le_refl _⟩
theorem firstD_lt {D : Dd} (h : 0 < D.length) : firstD D < D.length := by
  obtain ⟨p, hp, hm⟩ := least_in D h
  exact List.findIdx_lt_length.2 ⟨p, hp, List.all_eq_true.2 fun q hq => decide_eq_true (hm q hq)⟩
theorem atD_get {D : Dd} {i : Nat} (h : i < D.length) : atD D i = D[i] := by simp only [atD, List.getD_eq_getElem?_getD, List.getElem?_eq_getElem h]; rfl
theorem firstD_min {D : Dd} (h : 0 < D.length) : ∀ q ∈ D, (atD D (firstD D)).2 ≤ q.2 := by
  have hl := firstD_lt h
  have := List.findIdx_getElem (xs := D) (p := fun (p : List UInt8 × Int) => D.all (fun q => decide (p.2 ≤ q.2))) (w := hl)
  rw [List.all_eq_true] at this
  intro q hq
  rw [atD_get hl]
  exact of_decide_eq_true (this q hq)
theorem firstD_lt_all {D : Dd} {k : Nat} (hk : k < D.length) (e : firstD D = k) : ∀ j (hj : j < k), D[k].2 < (D[j]'(by omega)).2 := by
  intro j hj
  have hn := List.not_of_lt_findIdx (xs := D) (p := fun (p : List UInt8 × Int) => D.all (fun q => decide (p.2 ≤ q.2))) (i := j) (by show j < firstD D; omega)
  have hm := firstD_min (D := D) (by omega)
  rw [e, atD_get hk] at hm
  refine Classical.byContradiction fun hc => ?_
  have hall : (D.all fun q => decide (D[j].2 ≤ q.2)) = true := List.all_eq_true.2 fun q hq => decide_eq_true (by
    have := hm q hq; omega)
  rw [hall] at hn
  cases hn
theorem dueD_fuel : ∀ (f : Nat) (D : Dd) (now : Int), D.length ≤ f → dueD f D now = due D now
  | 0, D, now, h => by
    have : D = [] := List.eq_nil_of_length_eq_zero (by omega)
    subst this; rfl
  | f + 1, D, now, h => by
    by_cases hg : 0 < D.length ∧ (atD D (firstD D)).2 ≤ now
    · obtain ⟨k, hk⟩ : ∃ k, D.length = k + 1 := ⟨D.length - 1, by omega⟩
      have hl := firstD_lt hg.1
      have he : (D.eraseIdx (firstD D)).length = k := by rw [List.length_eraseIdx_of_lt hl]; omega
      rw [dueD_go f D now hg]
      unfold due
      rw [hk, dueD_go k D now hg, dueD_fuel f _ now (by omega)]
      unfold due
      rw [he]
    · rw [dueD_stop _ _ _ hg, due, dueD_stop _ _ _ hg]
theorem due_go {D : Dd} {now : Int} (h : 0 < D.length ∧ (atD D (firstD D)).2 ≤ now) : due D now = ((atD D (firstD D)).1 :: (due (D.eraseIdx (firstD D)) now).1, (due (D.eraseIdx (firstD D)) now).2) := by
  obtain ⟨k, hk⟩ : ∃ k, D.length = k + 1 := ⟨D.length - 1, by omega⟩
  have hl := firstD_lt h.1
  have he : (D.eraseIdx (firstD D)).length = k := by rw [List.length_eraseIdx_of_lt hl]; omega
  conv => lhs; unfold due
  rw [hk, dueD_go k D now h, dueD_fuel k _ now (by omega)]
theorem due_stop {D : Dd} {now : Int} (h : ¬ (0 < D.length ∧ (atD D (firstD D)).2 ≤ now)) : due D now = ([], D) := dueD_stop _ _ _ h
theorem due_ind (C : Dd → Prop) (now : Int) (h0 : ∀ D, ¬ (0 < D.length ∧ (atD D (firstD D)).2 ≤ now) → C D) (h1 : ∀ D, (0 < D.length ∧ (atD D (firstD D)).2 ≤ now) → C (D.eraseIdx (firstD D)) → C D) : ∀ D, C D := by
  intro D
  generalize hn : D.length = n
  induction n generalizing D with
  | zero => exact h0 D (by omega)
  | succ n ih =>
    by_cases hg : 0 < D.length ∧ (atD D (firstD D)).2 ≤ now
    · exact h1 D hg (ih _ (by rw [List.length_eraseIdx_of_lt (firstD_lt hg.1)]; omega))
    · exact h0 D hg
theorem due_rest (now : Int) : ∀ D : Dd, ∀ p ∈ (due D now).2, now < p.2 := by
  refine due_ind _ now (fun D h p hp => ?_) (fun D h ih => ?_)
  · rw [due_stop h] at hp
    have h0 : 0 < D.length := List.length_pos_of_mem hp
    have := firstD_min h0 p hp
    have : ¬ (atD D (firstD D)).2 ≤ now := fun hh => h ⟨h0, hh⟩
    omega
  · rw [due_go h]; exact ih
theorem isAt_iff {D : Dd} {nm : List UInt8} : isAt D nm ↔ nm ∈ D.map (·.1) := by
  unfold isAt findD
  rw [List.findIdx_lt_length]
  constructor
  · rintro ⟨p, hp, h⟩; exact List.mem_map.2 ⟨p, hp, by simpa using h⟩
  · intro h; obtain ⟨p, hp, h⟩ := List.mem_map.1 h; exact ⟨p, hp, by simpa using h⟩
theorem findD_none {D : Dd} {nm : List UInt8} (h : nm ∉ D.map (·.1)) : findD D nm = D.length := by
  have h1 : ¬ isAt D nm := fun hh => h (isAt_iff.1 hh)
  have h2 : findD D nm ≤ D.length := List.findIdx_le_length
  unfold isAt at h1
  omega
theorem newD_fresh {D : Dd} {nm : List UInt8} {tm : Int} (h : nm ∉ D.map (·.1)) : newD D nm tm = D ++ [(nm, tm)] := by
  unfold newD; rw [findD_none h, List.eraseIdx_of_length_le (Nat.le_refl _)]
structure GoodD (D : Dd) (n : Nat) : Prop where
  nms : (D.map (·.1)).Nodup
  tms : ∀ p ∈ D, 0 ≤ p.2 ∧ p.2 ≤ 1099511627776
  len : D.length ≤ n
theorem GoodD.mono {D : Dd} {n m : Nat} (h : GoodD D n) (hm : n ≤ m) : GoodD D m := ⟨h.nms, h.tms, Nat.le_trans h.len hm⟩
structure Ac where
  kind : Int
  name : List UInt8
  tm : Int
end Go.Proofs.Ytmkicbphbegjbaa
namespace Go.Proofs.Ytmkicbphbegjbaa
open Go Go.Sse
set_option linter.unusedVariables false
set_option linter.unusedSimpArgs false
set_option maxRecDepth 10000
theorem Tm.mono {b : Nat} {D : Dd} {n m : Nat} {L : List Own} (h : Tm b D n L) (hm : n ≤ m) : Tm b D m L := by
  obtain ⟨M, many, s, hs, es, mp, h1, hS, h2, hm', hmn, h3⟩ := h
  exact ⟨M, many, s, hs, es, mp, h1, hS, h2, hm', by omega, h3⟩
end Go.Proofs.Ytmkicbphbegjbaa
namespace Go.Proofs.Ytmkicbphbegjbaa
open Go Go.Sse
set_option linter.unusedVariables false
set_option linter.unusedSimpArgs false
set_option maxRecDepth 10000
end Go.Proofs.Ytmkicbphbegjbaa
namespace Go.Proofs.Ytmkicbphbegjbaa
open Go Go.Sse Go.ChangeShapes Go.WideShapes Go.ChangeAt Go.RowKit
set_option linter.unusedVariables false
set_option linter.unusedSimpArgs false
set_option maxRecDepth 100000
theorem own : ownKnob Try.prog.godebug = none := by kernel_rfl
theorem laidOut : laidOutB Try.prog = true := by kernel_rfl
noncomputable def rdStr : Rd Try.prog 9 (List UInt8) := Rd.str (by kernel_rfl) (by kernel_rfl)
noncomputable def rdInt : Rd Try.prog 3 Int := Rd.int (k := .i64) (by kernel_rfl) (by kernel_rfl)
noncomputable def rdIso {α β : Type} {T : TypeId} (r : Rd Try.prog T α) (g : α → β) (gi : β → α) (h : ∀ a, gi (g a) = a) (enc' : β → List SV) (he : ∀ a, enc' (g a) = r.enc a) (hl : ∀ b, (enc' b).length = r.sz) : Rd Try.prog T β :=
  r.as g (g r.dflt) enc' (fun b => r.good (gi b)) (fun b => r.bulk (gi b)) he hl (fun a ha => by rw [h]; exact ha) (fun a => by rw [h])
end Go.Proofs.Ytmkicbphbegjbaa
namespace Go.Proofs.Ytmkicbphbegjbaa
open Go Go.Sse
set_option linter.unusedVariables false
set_option linter.unusedSimpArgs false
set_option maxRecDepth 10000
end Go.Proofs.Ytmkicbphbegjbaa
namespace Go.Proofs.Ytmkicbphbegjbaa
open Go Go.Sse
set_option linter.unusedVariables false
set_option linter.unusedSimpArgs false
set_option maxRecDepth 10000
theorem setD_in {D : Dd} {nm : List UInt8} {tm : Int} (h0 : 0 ≤ tm) (h1 : tm ≤ 1099511627776) (hl : D.length < 1024) : setD D nm tm = (newD D nm tm, 0) := by
  unfold setD
  rw [if_neg (by omega), if_neg (by omega)]
end Go.Proofs.Ytmkicbphbegjbaa
namespace Go.Proofs.Ytmkicbphbegjbaa
open Go Go.Sse
set_option linter.unusedVariables false
set_option linter.unusedSimpArgs false
set_option maxRecDepth 10000
structure RdS where
  i : Nat
  D : Dd
  v : Value
  out : List (List UInt8)
end Go.Proofs.Ytmkicbphbegjbaa
namespace Go.Proofs.Ytmkicbphbegjbaa
open Go Go.Sse
set_option linter.unusedVariables false
set_option linter.unusedSimpArgs false
set_option maxRecDepth 10000
structure PlS where
  i : Nat
  D : Dd
  L : List Own
end Go.Proofs.Ytmkicbphbegjbaa
namespace Go.Proofs.Ytmkicbphbegjbaa
open Go Go.Sse
set_option linter.unusedVariables false
set_option linter.unusedSimpArgs false
set_option maxRecDepth 10000
theorem lk_snoc {α β : Type} [DecidableEq α] : ∀ (l : List (α × β)) (k k' : α) (v : β), lk (l ++ [(k, v)]) k' = match lk l k' with | some u => some u | none => if k = k' then some v else none
  | [], k, k', v => by simp only [List.nil_append, lk_cons]; rfl
  | p :: l, k, k', v => by
    rw [List.cons_append, lk_cons, lk_cons, lk_snoc l]
    by_cases h : p.1 = k' <;> simp [h]
theorem lk_unk {α β : Type} [DecidableEq α] : ∀ {l : List (α × β)} {k k' : α}, k' ≠ k → lk (unk l k) k' = lk l k'
  | [], _, _, _ => rfl
  | p :: l, k, k', h => by
    unfold unk
    split
    · rename_i e; rw [lk_cons, if_neg (by rw [e]; exact fun hh => h hh.symm)]
    · rw [lk_cons, lk_cons, lk_unk h]
structure OrdP (D : Dd) (now : Int) (ps : Dd) : Prop where
  e1 : (due D now).1 = ps.map (·.1)
  srt : ps.Pairwise (fun a b => a.2 ≤ b.2)
  le : ∀ p ∈ ps, p.2 ≤ now
  at' : ∀ p ∈ ps, isAt D p.1 ∧ whenD D p.1 = p.2 ∧ 0 ≤ p.2
  nd : (ps.map (·.1)).Nodup
  out : ∀ p ∈ ps, ¬ isAt (due D now).2 p.1
  len : ps.length + (due D now).2.length = D.length
noncomputable instance zInt : TZero Try.prog 3 (.int .i64 0) := ⟨by kernel_rfl⟩
structure OrS where
  j : Nat
  last : Int
  mp : List (List UInt8 × Value)
end Go.Proofs.Ytmkicbphbegjbaa
namespace Go.Proofs.Ytmkicbphbegjbaa
open Go Go.Sse
set_option linter.unusedVariables false
set_option linter.unusedSimpArgs false
set_option maxRecDepth 10000
abbrev kB (n j : Nat) : UInt8 := UInt8.ofNat (n / 2 ^ (56 - 8 * j))
def keyN (n : Nat) : List UInt8 := (List.range 8).map (kB n)
theorem keyN_inj {n m : Nat} (hn : n < 65536) (hm : m < 65536) (h : keyN n = keyN m) : n = m := by
  have h6 : kB n 6 = kB m 6 := by
    have := congrArg (fun l => l.getD 6 0) h
    simpa [keyN, List.range, List.range.loop] using this
  have h7 : kB n 7 = kB m 7 := by
    have := congrArg (fun l => l.getD 7 0) h
    simpa [keyN, List.range, List.range.loop] using this
  have e6 := congrArg UInt8.toNat h6
  have e7 := congrArg UInt8.toNat h7
  simp only [kB, UInt8.toNat_ofNat', Nat.reducePow, Nat.reduceSub, Nat.reduceMul] at e6 e7
  omega
set_option maxHeartbeats 2000000 in
theorem key_ok (n : Nat) (hn : n < 9223372036854775808) : FnC Try.prog 49 [int (n : Int)] [] (fun r L => r = str (keyN n) ∧ L = []) := by
  refine FnC.intro Try.func49 rfl Try.ntmps49 rfl fun Z w0 hG => ?_
  focus (
 (refine W.seq (W.region (Jx.assign rfl rfl (J.nil (N.seq (W.seq (W.region ?_)))))))
 (refine J.alloc (by simp only [List.map_cons, List.map_nil]; rfl) rfl rfl ?_; intro b')
 (refine J.nil (N.seq (W.seq (W.seq (W.region (Jx.move rfl rfl (J.nil (N.seq (W.block ?_)))))))))
 (refine id ?_; rotate_left))
  refine W.loop (α := Nat × List UInt8) (fun x => [(5, int (x.1 : Int)), (3, ptr b'), (0, int (n : Int))]) (fun x => [.obj b' 115 (x.2.map byte)]) (fun x => x.1 ≤ 8 ∧ x.2.length = 8 ∧ ∀ j, j < x.1 → x.2[j]? = some (kB n j)) (fun x => 8 - x.1) (0, List.replicate 8 0) ⟨by simp, rfl, fun j hj => absurd hj (Nat.not_lt_zero j)⟩ rfl ⟨ref0 rfl, ref0 rfl, ref0 rfl, trivial⟩ ?_
  rintro ⟨i, ws⟩ ⟨hi, hl, hI⟩
  simp only at hi hl hI ⊢
  by_cases h1 : i < 8
  · have h1' : (i : Int) < 8 := by omega
    have e1 : (i : Int) + 1 = ((i + 1 : Nat) : Int) := by omega
    have e2 : (56 : Int) - 8 * (i : Int) = ((56 - 8 * i : Nat) : Int) := by omega
    focus (
 (refine W.seq (W.region (Jx.lssI rfl rfl rfl (J.nil (N.seq (W.seq (W.cT rfl ?_)))))))
 (refine W.skip (N.seq (W.seq (W.block (W.seq (W.region (Jx.move rfl rfl (Jx.assign rfl rfl (J.nil (N.seq (W.region (Jx.move rfl rfl (Jx.move rfl rfl (Jx.move rfl rfl ?_))))))))))))))
 (refine Jx.mul64 rfl rfl (by omega) rfl ?_)
 (refine Jx.sub64 rfl rfl (by omega) rfl ?_; rw [e2])
 (refine Jx.shrN (n := n) (s := 56 - 8 * i) rfl rfl rfl (by simp only [IntKind.bits]; omega) rfl ?_)
 (refine Jx.numByte (n / 2 ^ (56 - 8 * i)) rfl rfl rfl rfl ?_)
 (refine Jx.index0 i rfl rfl rfl (by omega) rfl ?_)
 (refine J.storeA byte (kB n i) rfl rfl (One.val rfl) 0 rfl (by omega) rfl ?_)
 (refine J.nil (N.seq (W.region ?_)))
 (refine Jx.add64 rfl rfl (by omega) rfl ?_; rw [e1])
 (refine Jx.move rfl rfl (J.nil ?_))
 (refine id ?_; rotate_left))
    refine N.round (i + 1, ws.set i (kB n i)) ⟨h1, by simp only [List.length_set]; exact hl, fun j hj => ?_⟩ (by simp only; omega) rfl ⟨ref0 rfl, ref0 rfl, ref0 rfl, trivial⟩
    rw [List.getElem?_set]
    by_cases e : i = j
    · subst e; simp [hl, h1]
    · rw [if_neg e]; simp only at hj; exact hI j (by omega)
  · have h8 : i = 8 := by omega
    subst h8
    have hws : ws = keyN n := by
      apply List.ext_getElem?
      intro j
      by_cases hj : j < 8
      · rw [hI j hj, keyN, List.getElem?_map, List.getElem?_range hj]; rfl
      · rw [List.getElem?_eq_none (by omega), List.getElem?_eq_none (by simp [keyN]; omega)]
    have hcs : ∀ k, k < 8 → (ws.map byte)[0 + k]? = some (byte (ws.getD k 0)) := fun k hk => by
      rw [Nat.zero_add, List.getElem?_map, List.getD_eq_getElem?_getD, List.getElem?_eq_getElem (by omega)]; rfl
    focus (
 (refine W.seq (W.region (Jx.lssI rfl rfl rfl (J.nil (N.seq (W.seq (W.cF rfl ?_)))))))
 (refine W.exit (N.seq (W.seq (W.region (Jx.sliceArr rfl rfl ?_)))))
 (refine Jx.bytesStrObj ws rfl 0 rfl hl hcs rfl ?_)
 (refine Jx.assign rfl rfl (J.nil (N.seq (W.ret ?_))))
 (refine id ?_; rotate_left))
    exact N.retD (rs := [.tmp 2]) (L1 := []) rfl (.tmp rfl .nil) (List.nil_sublist _) ⟨by rw [← hws]; rfl, rfl⟩
def okN (s : List UInt8) : Bool := decide (1 ≤ s.length ∧ s.length ≤ 6)
theorem name_ok (s : List UInt8) : FnC Try.prog 43 [str s] [] (fun r L => r = Sse.bool (okN s) ∧ L = []) := by
  unfold okN
  by_cases h0 : s = []
  · subst h0
    refine FnC.intro Try.func43 rfl Try.ntmps43 rfl fun Z w0 hG => ?_
    focus (
 (refine W.seq (W.region (Jx.assign rfl rfl (J.nil (N.seq (W.seq (W.region (Jx.move rfl rfl (Jx.neqS rfl rfl rfl (Jx.move rfl rfl (J.gN rfl rfl rfl rfl ?_)))))))))))
 (refine J.gN rfl rfl rfl rfl ?_)
 (refine J.gN rfl rfl rfl rfl ?_)
 (refine Jx.pF rfl rfl rfl ?_)
 (refine Jx.assign rfl rfl (J.nil (N.seq (W.ret ?_))))
 (refine id ?_; rotate_left))
    exact N.ret (rs := [.tmp 2]) rfl (.tmp rfl .nil) ⟨rfl, rfl⟩
  · have hl : 1 ≤ s.length := List.length_pos_iff.2 h0
    have hne : ¬ s = [] := h0
    by_cases h1 : s.length ≤ 6
    · have h1' : (s.length : Int) ≤ 6 := by omega
      rw [decide_eq_true ⟨hl, h1⟩]
      refine FnC.intro Try.func43 rfl Try.ntmps43 rfl fun Z w0 hG => ?_
      focus (
 (refine W.seq (W.region (Jx.assign rfl rfl (J.nil (N.seq (W.seq (W.region (Jx.move rfl rfl (Jx.neqS rfl rfl rfl (Jx.move rfl rfl (J.gY rfl rfl rfl ?_)))))))))))
 (refine Jx.move rfl rfl (J.gY rfl rfl rfl ?_))
 (refine Jx.lenS rfl rfl ?_)
 (refine J.gY rfl rfl rfl ?_)
 (refine Jx.leqI rfl rfl rfl (Jx.pT rfl rfl rfl ?_))
 (refine Jx.assign rfl rfl (J.nil (N.seq (W.ret ?_))))
 (refine id ?_; rotate_left))
      exact N.ret (rs := [.tmp 2]) rfl (.tmp rfl .nil) ⟨by simp [oneOr]; omega, rfl⟩
    · have h1' : ¬ (s.length : Int) ≤ 6 := by omega
      rw [decide_eq_false (fun h => h1 h.2)]
      refine FnC.intro Try.func43 rfl Try.ntmps43 rfl fun Z w0 hG => ?_
      focus (
 (refine W.seq (W.region (Jx.assign rfl rfl (J.nil (N.seq (W.seq (W.region (Jx.move rfl rfl (Jx.neqS rfl rfl rfl (Jx.move rfl rfl (J.gY rfl rfl rfl ?_)))))))))))
 (refine Jx.move rfl rfl (J.gY rfl rfl rfl ?_))
 (refine Jx.lenS rfl rfl ?_)
 (refine J.gY rfl rfl rfl ?_)
 (refine Jx.leqI rfl rfl rfl (Jx.pT rfl rfl rfl ?_))
 (refine Jx.assign rfl rfl (J.nil (N.seq (W.ret ?_))))
 (refine id ?_; rotate_left))
      exact N.ret (rs := [.tmp 2]) rfl (.tmp rfl .nil) ⟨by simp [oneOr]; omega, rfl⟩
theorem rname_ok (s : List UInt8) : FnC Try.prog 46 [str s] [] (fun r L => r = Sse.bool (okN s) ∧ L = []) := by
  unfold okN
  by_cases h0 : 1 ≤ s.length
  · have h0' : 1 ≤ (s.length : Int) := by omega
    by_cases h1 : s.length ≤ 6
    · have h1' : (s.length : Int) ≤ 6 := by omega
      rw [decide_eq_true ⟨h0, h1⟩]
      refine FnC.intro Try.func46 rfl Try.ntmps46 rfl fun Z w0 hG => ?_
      focus (
 (refine W.seq (W.region (Jx.assign rfl rfl (J.nil (N.seq (W.seq (W.region (Jx.move rfl rfl (Jx.lenS rfl rfl ?_)))))))))
 (refine Jx.geqI rfl rfl rfl (Jx.move rfl rfl (J.gY rfl rfl rfl ?_)))
 (refine Jx.move rfl rfl (J.gY rfl rfl rfl ?_))
 (refine Jx.lenS rfl rfl ?_)
 (refine J.gY rfl rfl rfl ?_)
 (refine Jx.leqI rfl rfl rfl (Jx.pT rfl rfl rfl ?_))
 (refine Jx.assign rfl rfl (J.nil (N.seq (W.ret ?_))))
 (refine id ?_; rotate_left))
      exact N.ret (rs := [.tmp 2]) rfl (.tmp rfl .nil) ⟨by simp [oneOr]; omega, rfl⟩
    · have h1' : ¬ (s.length : Int) ≤ 6 := by omega
      rw [decide_eq_false (fun h => h1 h.2)]
      refine FnC.intro Try.func46 rfl Try.ntmps46 rfl fun Z w0 hG => ?_
      focus (
 (refine W.seq (W.region (Jx.assign rfl rfl (J.nil (N.seq (W.seq (W.region (Jx.move rfl rfl (Jx.lenS rfl rfl ?_)))))))))
 (refine Jx.geqI rfl rfl rfl (Jx.move rfl rfl (J.gY rfl rfl rfl ?_)))
 (refine Jx.move rfl rfl (J.gY rfl rfl rfl ?_))
 (refine Jx.lenS rfl rfl ?_)
 (refine J.gY rfl rfl rfl ?_)
 (refine Jx.leqI rfl rfl rfl (Jx.pT rfl rfl rfl ?_))
 (refine Jx.assign rfl rfl (J.nil (N.seq (W.ret ?_))))
 (refine id ?_; rotate_left))
      exact N.ret (rs := [.tmp 2]) rfl (.tmp rfl .nil) ⟨by simp [oneOr]; omega, rfl⟩
  · have h0' : ¬ 1 ≤ (s.length : Int) := by omega
    rw [decide_eq_false (fun h => h0 h.1)]
    refine FnC.intro Try.func46 rfl Try.ntmps46 rfl fun Z w0 hG => ?_
    focus (
 (refine W.seq (W.region (Jx.assign rfl rfl (J.nil (N.seq (W.seq (W.region (Jx.move rfl rfl (Jx.lenS rfl rfl ?_)))))))))
 (refine Jx.geqI rfl rfl rfl (Jx.move rfl rfl (J.gN rfl rfl rfl rfl ?_)))
 (refine J.gN rfl rfl rfl rfl ?_)
 (refine J.gN rfl rfl rfl rfl ?_)
 (refine Jx.pF rfl rfl rfl ?_)
 (refine Jx.assign rfl rfl (J.nil (N.seq (W.ret ?_))))
 (refine id ?_; rotate_left))
    exact N.ret (rs := [.tmp 2]) rfl (.tmp rfl .nil) ⟨rfl, rfl⟩
end Go.Proofs.Ytmkicbphbegjbaa
