/-
  Numbers by their bytes; parts of an array as bytes.
-/
import Derived.Test.YtjlpknligekfeaaDoorSseM
namespace Go.Sse
open Go Go.Sse
set_option linter.unusedVariables false
set_option linter.unusedSimpArgs false
set_option maxRecDepth 10000

section
variable {P : Program} {Γ : Ctx} {ops : Array Oper} {Q : Exit → Act → World → Prop} {F : List (Nat × SV)} {L : List Own} {rest : List Oper}
variable {dst : Option Tmp} {ty : TypeId} {pos : String} {aft : Array Edge} {g : Option (Nat × Bool)}

theorem Pv.shl8 {t t2 : TypeId} {x y : Operand} {k : IntKind} {n : Nat} (hx : ev F x = some (int (n : Int))) (hy : ev F y = some (.val (.int k 8))) (h : n * 256 < 9223372036854775808) : Pv P Γ F L ⟨dst, .binOp .shl t x y t2, ty, pos, aft, g⟩ (int ((n * 256 : Nat) : Int)) := by
  have := Pv.shl (P := P) (Γ := Γ) (L := L) (dst := dst) (ty := ty) (pos := pos) (aft := aft) (g := g) (t := t) (t2 := t2) hx hy (by decide)
  have e : IntKind.i64.wrap ((n : Int) * 2 ^ Min.min (8 : Int).toNat IntKind.i64.bits) = ((n * 256 : Nat) : Int) := by
    rw [show (2 : Int) ^ Min.min (8 : Int).toNat IntKind.i64.bits = 256 by decide, wrap_i64 (by omega)]
    omega
  rwa [e] at this
theorem Cx.shl8 {t t2 : TypeId} {x y : Operand} {k : IntKind} {n : Nat} (hx : ev F x = some (int (n : Int))) (hy : ev F y = some (.val (.int k 8))) (h : n * 256 < 9223372036854775808) {d0 : Nat} {K : List (Nat × SV) → Prop} (hlt : Nat.blt d0 Γ.nt = true) (hr : SegC P Γ ops L ((d0, (int ((n * 256 : Nat) : Int))) :: F) rest K) : SegC P Γ ops L F (⟨some d0, .binOp .shl t x y t2, ty, pos, aft, none⟩ :: rest) K :=
  SegC.q (Qs.pv (by apply Pv.shl8 <;> assumption)) hlt hr
theorem Jx.shl8 {t t2 : TypeId} {x y : Operand} {k : IntKind} {n : Nat} (hx : ev F x = some (int (n : Int))) (hy : ev F y = some (.val (.int k 8))) (h : n * 256 < 9223372036854775808) {d0 : Nat} (hlt : Nat.blt d0 Γ.nt = true) (k : J P Γ ops Q ((d0, (int ((n * 256 : Nat) : Int))) :: F) L rest) : J P Γ ops Q F L (⟨some d0, .binOp .shl t x y t2, ty, pos, aft, none⟩ :: rest) :=
  J.pv (by apply Pv.shl8 <;> assumption) hlt k

theorem or_byte {n b : Nat} (hb : b < 256) (h : n * 256 + b < 9223372036854775808) : IntKind.i64.wrap ((BitVec.ofInt 64 ((n * 256 : Nat) : Int) ||| BitVec.ofInt 64 (b : Int)).toNat : Int) = ((n * 256 + b : Nat) : Int) := by
  rw [BitVec.toNat_or, BitVec.ofInt_natCast, BitVec.ofInt_natCast, BitVec.toNat_ofNat, BitVec.toNat_ofNat, Nat.mod_eq_of_lt (by omega), Nat.mod_eq_of_lt (by omega)]
  have : n * 256 ||| b = n * 256 + b := by
    have := Nat.shiftLeft_add_eq_or_of_lt (i := 8) (b := b) (by omega) n
    rw [Nat.shiftLeft_eq] at this
    exact this.symm
  rw [this, wrap_i64 (by omega)]
theorem Pv.orByte {t t2 : TypeId} {x y : Operand} {n b : Nat} (hx : ev F x = some (int ((n * 256 : Nat) : Int))) (hy : ev F y = some (int (b : Int))) (hb : b < 256) (h : n * 256 + b < 9223372036854775808) : Pv P Γ F L ⟨dst, .binOp .or t x y t2, ty, pos, aft, g⟩ (int ((n * 256 + b : Nat) : Int)) := by
  have := Pv.bor (P := P) (Γ := Γ) (L := L) (dst := dst) (ty := ty) (pos := pos) (aft := aft) (g := g) (t := t) (t2 := t2) hx hy
  exact (congrArg (fun z => Pv P Γ F L ⟨dst, .binOp .or t x y t2, ty, pos, aft, g⟩ (SV.val (.int .i64 z))) (or_byte hb h)).mp this
theorem Cx.orByte {t t2 : TypeId} {x y : Operand} {n b : Nat} (hx : ev F x = some (int ((n * 256 : Nat) : Int))) (hy : ev F y = some (int (b : Int))) (hb : b < 256) (h : n * 256 + b < 9223372036854775808) {d0 : Nat} {K : List (Nat × SV) → Prop} (hlt : Nat.blt d0 Γ.nt = true) (hr : SegC P Γ ops L ((d0, (int ((n * 256 + b : Nat) : Int))) :: F) rest K) : SegC P Γ ops L F (⟨some d0, .binOp .or t x y t2, ty, pos, aft, none⟩ :: rest) K :=
  SegC.q (Qs.pv (by apply Pv.orByte <;> assumption)) hlt hr
theorem Jx.orByte {t t2 : TypeId} {x y : Operand} {n b : Nat} (hx : ev F x = some (int ((n * 256 : Nat) : Int))) (hy : ev F y = some (int (b : Int))) (hb : b < 256) (h : n * 256 + b < 9223372036854775808) {d0 : Nat} (hlt : Nat.blt d0 Γ.nt = true) (k : J P Γ ops Q ((d0, (int ((n * 256 + b : Nat) : Int))) :: F) L rest) : J P Γ ops Q F L (⟨some d0, .binOp .or t x y t2, ty, pos, aft, none⟩ :: rest) :=
  J.pv (by apply Pv.orByte <;> assumption) hlt k

/-- The end of an array of bytes of the call's own, from a place on. -/
theorem Pv.arrFrom {T E by' n : Nat} {z : List Value} [h : TArr P T n E] [hI : TInfo P E 1 by' z] {x i : Operand} {k : IntKind} {b : Nat} {m : Int} (j : Nat) (hx : ev F x = some (.val (.pointer (some ⟨b, 0, none⟩))))
    (hi : ev F i = some (.val (.int k m))) (hm : m = (j : Int)) (h1 : j ≤ n) : Pv P Γ F L ⟨dst, .slice T x (some i) none none, ty, pos, aft, g⟩ (.val (.slice (some ⟨b, if n = j then 0 else j, none⟩) (n - j) (n - j))) := by
  subst hm
  have := Pv.sliceArrL (P := P) (Γ := Γ) (L := L) (dst := dst) (ty := ty) (pos := pos) (aft := aft) (g := g) (T := T) hx hi (by omega) (by omega)
  rw [Int.toNat_natCast] at this
  by_cases e : n = j
  · simp only [e, if_true] at this ⊢; exact this
  · simp only [e, if_false, Nat.zero_add, Nat.mul_one] at this ⊢; exact this
theorem Cx.arrFrom {T E by' n : Nat} {z : List Value} [h : TArr P T n E] [hI : TInfo P E 1 by' z] {x i : Operand} {k : IntKind} {b : Nat} {m : Int} (j : Nat) (hx : ev F x = some (.val (.pointer (some ⟨b, 0, none⟩))))
    (hi : ev F i = some (.val (.int k m))) (hm : m = (j : Int)) (h1 : j ≤ n) {d0 : Nat} {K : List (Nat × SV) → Prop} (hlt : Nat.blt d0 Γ.nt = true) (hr : SegC P Γ ops L ((d0, (.val (.slice (some ⟨b, if n = j then 0 else j, none⟩) (n - j) (n - j)))) :: F) rest K) : SegC P Γ ops L F (⟨some d0, .slice T x (some i) none none, ty, pos, aft, none⟩ :: rest) K :=
  SegC.q (Qs.pv (by apply Pv.arrFrom <;> assumption)) hlt hr
theorem Jx.arrFrom {T E by' n : Nat} {z : List Value} [h : TArr P T n E] [hI : TInfo P E 1 by' z] {x i : Operand} {k : IntKind} {b : Nat} {m : Int} (j : Nat) (hx : ev F x = some (.val (.pointer (some ⟨b, 0, none⟩))))
    (hi : ev F i = some (.val (.int k m))) (hm : m = (j : Int)) (h1 : j ≤ n) {d0 : Nat} (hlt : Nat.blt d0 Γ.nt = true) (k : J P Γ ops Q ((d0, (.val (.slice (some ⟨b, if n = j then 0 else j, none⟩) (n - j) (n - j)))) :: F) L rest) : J P Γ ops Q F L (⟨some d0, .slice T x (some i) none none, ty, pos, aft, none⟩ :: rest) :=
  J.pv (by apply Pv.arrFrom <;> assumption) hlt k

/-- It as a text. -/
theorem Pv.arrStr {src d e : TypeId} [hs : TSlice P src e] [he : TInt P e .u8] [hd : TStr P d] {x : Operand} {b j n : Nat} {T : TypeId} (ws : List UInt8) (hx : ev F x = some (.val (.slice (some ⟨b, if n = j then 0 else j, none⟩) (n - j) (n - j)))) (i : Nat) (hi : L[i]? = some (.obj b T (ws.map byte)))
    (hl : ws.length = n) (hj : j ≤ n) : Pv P Γ F L ⟨dst, .convert src d x, ty, pos, aft, g⟩ (str (ws.drop j)) := by
  refine Pv.bytesStrObj (ws.drop j) hx i hi (by rw [List.length_drop, hl]) fun k hk => ?_
  have hn : ¬ n = j := by omega
  rw [if_neg hn, getElem?_map_lt byte ws 0 (j + k) (by omega)]
  simp [List.getD_eq_getElem?_getD, List.getElem?_drop]
theorem Cx.arrStr {src d e : TypeId} [hs : TSlice P src e] [he : TInt P e .u8] [hd : TStr P d] {x : Operand} {b j n : Nat} {T : TypeId} (ws : List UInt8) (hx : ev F x = some (.val (.slice (some ⟨b, if n = j then 0 else j, none⟩) (n - j) (n - j)))) (i : Nat) (hi : L[i]? = some (.obj b T (ws.map byte)))
    (hl : ws.length = n) (hj : j ≤ n) {d0 : Nat} {K : List (Nat × SV) → Prop} (hlt : Nat.blt d0 Γ.nt = true) (hr : SegC P Γ ops L ((d0, (str (ws.drop j))) :: F) rest K) : SegC P Γ ops L F (⟨some d0, .convert src d x, ty, pos, aft, none⟩ :: rest) K :=
  SegC.q (Qs.pv (by apply Pv.arrStr <;> assumption)) hlt hr
theorem Jx.arrStr {src d e : TypeId} [hs : TSlice P src e] [he : TInt P e .u8] [hd : TStr P d] {x : Operand} {b j n : Nat} {T : TypeId} (ws : List UInt8) (hx : ev F x = some (.val (.slice (some ⟨b, if n = j then 0 else j, none⟩) (n - j) (n - j)))) (i : Nat) (hi : L[i]? = some (.obj b T (ws.map byte)))
    (hl : ws.length = n) (hj : j ≤ n) {d0 : Nat} (hlt : Nat.blt d0 Γ.nt = true) (k : J P Γ ops Q ((d0, (str (ws.drop j))) :: F) L rest) : J P Γ ops Q F L (⟨some d0, .convert src d x, ty, pos, aft, none⟩ :: rest) :=
  J.pv (by apply Pv.arrStr <;> assumption) hlt k

theorem wanted_undef {o og : Oper} {a : Act} {j d : Nat} {want : Bool} (hg : o.guard = some (j, want)) (ho : ops[j]? = some og) (hd : og.dst = some d) (hv : a.tmps.getD d undef = undef) : Region.wanted o (yielded ops a.tmps) = false := by
  have hy : yielded ops a.tmps j = none := by
    unfold yielded
    simp only [ho, hd, Option.bind_some]
    rcases Nat.lt_or_ge d a.tmps.size with h | h
    · have hq : a.tmps[d]? = some undef := by
        rw [Array.getElem?_eq_getElem h]
        have : a.tmps.getD d undef = a.tmps[d] := by simp [Array.getD, h]
        rw [← this, hv]
      rw [hq]; rfl
    · rw [Array.getElem?_eq_none h]
  unfold Region.wanted
  simp only [hg, hy]
  rfl

/-- An operation under a guard that says no: its slot holds nothing. -/
theorem J.guardNoU {dst : Tmp} {op : Op} {ty : TypeId} {pos : String} {aft : Array Edge} {j d : Nat} {want b : Bool} {og : Oper}
    (ho : ops[j]? = some og) (hd : og.dst = some d) (hv : look F d = some (.val (.bool b))) (hb : b = !want) (hlt : Nat.blt dst Γ.nt = true)
    (h : J P Γ ops Q ((dst, .val undef) :: F) L rest) : J P Γ ops Q F L (⟨some dst, op, ty, pos, aft, some (j, want)⟩ :: rest) :=
  ⟨fun a w hst => by
    have hw := wanted_guard (o := ⟨some dst, op, ty, pos, aft, some (j, want)⟩) rfl ho hd (hst.fr d _ hv).val_eq
    unfold wpList
    rw [if_neg (by rw [hw]; subst hb; cases want <;> simp)]
    exact h.go _ _ (hst.put (Step.refl hst.ws) hlt (.val _))⟩
/-- An operation under a guard whose own operation was passed over. -/
theorem J.guardSkip {dst : Tmp} {op : Op} {ty : TypeId} {pos : String} {aft : Array Edge} {j d : Nat} {want : Bool} {og : Oper}
    (ho : ops[j]? = some og) (hd : og.dst = some d) (hv : look F d = some (.val undef)) (hlt : Nat.blt dst Γ.nt = true)
    (h : J P Γ ops Q ((dst, .val undef) :: F) L rest) : J P Γ ops Q F L (⟨some dst, op, ty, pos, aft, some (j, want)⟩ :: rest) :=
  ⟨fun a w hst => by
    have hw := wanted_undef (o := ⟨some dst, op, ty, pos, aft, some (j, want)⟩) rfl ho hd (hst.fr d _ hv).val_eq
    unfold wpList
    rw [if_neg (by rw [hw]; simp)]
    exact h.go _ _ (hst.put (Step.refl hst.ws) hlt (.val _))⟩
end
end Go.Sse
