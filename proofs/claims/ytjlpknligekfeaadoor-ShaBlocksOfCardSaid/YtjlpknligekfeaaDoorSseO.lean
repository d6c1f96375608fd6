/-
  A text that is copied into an array of the call's own.
-/
import Derived.Test.YtjlpknligekfeaaDoorSseN
namespace Go.Sse
open Go Go.Sse
set_option linter.unusedVariables false
set_option linter.unusedSimpArgs false
set_option maxRecDepth 10000

section
variable {P : Program} {Γ : Ctx} {ops : Array Oper} {Q : Exit → Act → World → Prop} {F : List (Nat × SV)} {L : List Own} {rest : List Oper}
variable {dst : Option Tmp} {ty : TypeId} {pos : String} {aft : Array Edge} {g : Option (Nat × Bool)}

theorem run_copyStr {E : TypeId} {by' : Nat} {z : List Value} (dT sT : TypeId) [ht : TSlice P dT E] [hI : TInfo P E 1 by' z] (w : World) (b o n c : Nat) (l : List UInt8) (cur : Array Value) (T : TypeId) (fz : Nat × Nat)
    (hg : w.heap[b]? = some (.cells cur T fz)) (hu : Unfrozen fz cur.size) (hle : l.length ≤ n) (hfit : o + l.length ≤ cur.size) :
    (Builtin.copy_ #[dT, sT] ty #[.slice (some ⟨b, o, none⟩) n c, .string ⟨l.toArray⟩]).run P w =
      .ok (goInt l.length) (w.setRow b (cur.toList.take o ++ l.map (fun b : UInt8 => Value.int .u8 (b.toNat : Int)) ++ cur.toList.drop (o + l.length)).toArray) := by
  have hst := storeCells_un (P := P) b o T fz (l.map (fun b : UInt8 => Value.int .u8 (b.toNat : Int))) 0 cur w hg hu (by simpa using hfit) (by intro v hv; obtain ⟨x, _, rfl⟩ := List.mem_map.1 hv; rfl)
  simp only [List.length_map, Nat.add_zero] at hst
  have hmin : Nat.min l.length n = l.length := Nat.min_eq_left hle
  have hs := hI.ok
  cases hq : P.info? E with
  | none => simp [hq] at hs
  | some i =>
    rw [hq] at hs
    simp only [Option.map_some, Option.some.injEq, Prod.mk.injEq] at hs
    have hsz : (⟨l.toArray⟩ : ByteArray).size = l.length := by simp [ByteArray.size]
    simp [Builtin.copy_, run_underlying ht.ok, Builtin.lenOf, Builtin.firstCells, sizeOf, typeInfo, hq, hmin, hsz, hs.1]
    rw [List.take_of_length_le (by simp), hst]
    simp [Result.andThen]

theorem OpS.copyStr {dT sT E : TypeId} {by' : Nat} {z : List Value} [ht : TSlice P dT E] [hI : TInfo P E 1 by' z] {x y : Operand} {b o n c : Nat} {l : List UInt8} (hx : ev F x = some (.val (.slice (some ⟨b, o, none⟩) n c))) (hy : ev F y = some (str l)) (i : Nat) {T' : TypeId} {cs : List SV}
    (hi : L[i]? = some (.obj b T' cs)) (hle : l.length ≤ n) (ho : o + l.length ≤ cs.length) :
    OpS P Γ ⟨dst, .call { callee := .builtin .copy, args := #[x, y], argTypes := #[dT, sT] }, ty, pos, aft, g⟩ F L (fun r L' => r = int (l.length : Int) ∧ L' = L.set i (.obj b T' (cs.take o ++ l.map byte ++ cs.drop (o + l.length)))) := by
  intro a w K Q hst hK
  obtain ⟨vs, fz, hb, hu, hr⟩ := hst.ws.holds _ (mem_of_idx hi)
  have hlen : vs.size = cs.length := by have := hr.1; simpa using this
  have hrun := run_copyStr (P := P) (ty := ty) dT sT w b o n c l vs T' fz hb hu hle (by omega)
  unfold Oper.wp
  have he : (execOp a.eval ⟨dst, .call { callee := .builtin .copy, args := #[x, y], argTypes := #[dT, sT] }, ty, pos, aft, g⟩).run P w = .ok (.value (goInt l.length)) (w.setRow b (vs.toList.take o ++ l.map (fun b : UInt8 => Value.int .u8 (b.toNat : Int)) ++ vs.toList.drop (o + l.length)).toArray) := by
    simp [execOp, resolve, invoke, builtin, hst.evv hx, hst.evv hy, sv, hrun]
  rw [he]
  have hsize : (vs.toList.take o ++ l.map (fun b : UInt8 => Value.int .u8 (b.toNat : Int)) ++ vs.toList.drop (o + l.length)).length = vs.size := by
    simp only [List.length_append, List.length_take, List.length_drop, Array.length_toList, List.length_map]; omega
  have hstep : Step Γ L (L.set i (.obj b T' (cs.take o ++ l.map byte ++ cs.drop (o + l.length)))) w (w.setRow b (vs.toList.take o ++ l.map (fun b : UInt8 => Value.int .u8 (b.toNat : Int)) ++ vs.toList.drop (o + l.length)).toArray) := by
    refine Step.upd hst.ws hi rfl ⟨rfl, rfl, rfl, by simp⟩ (fun b' hb' => setRow_other w b b' _ (by simpa [Own.foot] using hb')) ?_
    refine ⟨_, fz, setRow_heap w b vs _ T' fz hb, by simp only [List.size_toArray, hsize]; exact hu, ?_⟩
    have hsp := hr.splice (ds := l.map byte) (us := l.map (fun b : UInt8 => Value.int .u8 (b.toNat : Int))) ⟨by simp, by intro v hv; obtain ⟨x, _, rfl⟩ := List.mem_map.1 hv; rfl, fun j hj => by
      simp only [List.length_map] at hj
      simp only [List.getD_eq_getElem?_getD, List.getElem?_map, List.getElem?_eq_getElem hj, Option.map_some, Option.getD_some]
      exact .val _⟩ o (by simpa using ho)
    simp only [List.length_map] at hsp
    simp only
    exact hsp.stable fun b' hlt hn => ⟨setRow_other w b b' _ (fun e => hn (.inr (by subst e; exact List.mem_flatMap.2 ⟨_, mem_of_idx hi, by simp [Own.foot]⟩))), hn⟩
  exact hK _ _ _ _ ⟨rfl, rfl⟩ hstep (.val _)

theorem J.copyStr {d : Nat} {dT sT E : TypeId} {by' : Nat} {z : List Value} [ht : TSlice P dT E] [hI : TInfo P E 1 by' z] {x y : Operand} {b o n c : Nat} {l : List UInt8} (hx : ev F x = some (.val (.slice (some ⟨b, o, none⟩) n c))) (hy : ev F y = some (str l)) (i : Nat) {T' : TypeId} {cs cs' : List SV}
    (hi : L[i]? = some (.obj b T' cs)) (hle : l.length ≤ n) (ho : o + l.length ≤ cs.length) (hcs : cs.take o ++ l.map byte ++ cs.drop (o + l.length) = cs') (hlt : Nat.blt d Γ.nt = true) (k : J P Γ ops Q ((d, int (l.length : Int)) :: F) (L.set i (.obj b T' cs')) rest) :
    J P Γ ops Q F L (⟨some d, .call { callee := .builtin .copy, args := #[x, y], argTypes := #[dT, sT] }, ty, pos, aft, none⟩ :: rest) :=
  J.op (OpS.copyStr hx hy i hi hle ho) rfl rfl hlt (by rintro s L' ⟨rfl, rfl⟩; rw [hcs]; exact k)

/-- The whole of an array of bytes of the call's own, as a text. -/
theorem Pv.arrAllStr {src d e : TypeId} [hs : TSlice P src e] [he : TInt P e .u8] [hd : TStr P d] {x : Operand} {b n c : Nat} {T : TypeId} (ws : List UInt8) (hx : ev F x = some (.val (.slice (some ⟨b, 0, none⟩) n c))) (i : Nat) (hi : L[i]? = some (.obj b T (ws.map byte)))
    (hl : ws.length = n) : Pv P Γ F L ⟨dst, .convert src d x, ty, pos, aft, g⟩ (str ws) := by
  refine Pv.bytesStrObj ws hx i hi hl fun k hk => ?_
  rw [getElem?_map_lt byte ws 0 (0 + k) (by omega), Nat.zero_add]
theorem Cx.arrAllStr {src d e : TypeId} [hs : TSlice P src e] [he : TInt P e .u8] [hd : TStr P d] {x : Operand} {b n c : Nat} {T : TypeId} (ws : List UInt8) (hx : ev F x = some (.val (.slice (some ⟨b, 0, none⟩) n c))) (i : Nat) (hi : L[i]? = some (.obj b T (ws.map byte)))
    (hl : ws.length = n) {d0 : Nat} {K : List (Nat × SV) → Prop} (hlt : Nat.blt d0 Γ.nt = true) (hr : SegC P Γ ops L ((d0, (str ws)) :: F) rest K) : SegC P Γ ops L F (⟨some d0, .convert src d x, ty, pos, aft, none⟩ :: rest) K :=
  SegC.q (Qs.pv (by apply Pv.arrAllStr <;> assumption)) hlt hr
theorem Jx.arrAllStr {src d e : TypeId} [hs : TSlice P src e] [he : TInt P e .u8] [hd : TStr P d] {x : Operand} {b n c : Nat} {T : TypeId} (ws : List UInt8) (hx : ev F x = some (.val (.slice (some ⟨b, 0, none⟩) n c))) (i : Nat) (hi : L[i]? = some (.obj b T (ws.map byte)))
    (hl : ws.length = n) {d0 : Nat} (hlt : Nat.blt d0 Γ.nt = true) (k : J P Γ ops Q ((d0, (str ws)) :: F) L rest) : J P Γ ops Q F L (⟨some d0, .convert src d x, ty, pos, aft, none⟩ :: rest) :=
  J.pv (by apply Pv.arrAllStr <;> assumption) hlt k

theorem Pv.shlN {t t2 : TypeId} {x y : Operand} {k : IntKind} {n s : Nat} {m : Int} (hx : ev F x = some (int (n : Int))) (hy : ev F y = some (.val (.int k m))) (hm : m = (s : Int)) (hs : s ≤ 64) (h : n * 2 ^ s < 9223372036854775808) : Pv P Γ F L ⟨dst, .binOp .shl t x y t2, ty, pos, aft, g⟩ (int ((n * 2 ^ s : Nat) : Int)) := by
  subst hm
  have := Pv.shl (P := P) (Γ := Γ) (L := L) (dst := dst) (ty := ty) (pos := pos) (aft := aft) (g := g) (t := t) (t2 := t2) hx hy (Int.natCast_nonneg s)
  have e : IntKind.i64.wrap ((n : Int) * 2 ^ Min.min (s : Int).toNat IntKind.i64.bits) = ((n * 2 ^ s : Nat) : Int) := by
    rw [Int.toNat_natCast, show Min.min s IntKind.i64.bits = s from Nat.min_eq_left hs, show (n : Int) * 2 ^ s = ((n * 2 ^ s : Nat) : Int) by simp, wrap_i64 (by omega)]
  rwa [e] at this
theorem Cx.shlN {t t2 : TypeId} {x y : Operand} {k : IntKind} {n s : Nat} {m : Int} (hx : ev F x = some (int (n : Int))) (hy : ev F y = some (.val (.int k m))) (hm : m = (s : Int)) (hs : s ≤ 64) (h : n * 2 ^ s < 9223372036854775808) {d0 : Nat} {K : List (Nat × SV) → Prop} (hlt : Nat.blt d0 Γ.nt = true) (hr : SegC P Γ ops L ((d0, (int ((n * 2 ^ s : Nat) : Int))) :: F) rest K) : SegC P Γ ops L F (⟨some d0, .binOp .shl t x y t2, ty, pos, aft, none⟩ :: rest) K :=
  SegC.q (Qs.pv (by apply Pv.shlN <;> assumption)) hlt hr
theorem Jx.shlN {t t2 : TypeId} {x y : Operand} {k : IntKind} {n s : Nat} {m : Int} (hx : ev F x = some (int (n : Int))) (hy : ev F y = some (.val (.int k m))) (hm : m = (s : Int)) (hs : s ≤ 64) (h : n * 2 ^ s < 9223372036854775808) {d0 : Nat} (hlt : Nat.blt d0 Γ.nt = true) (k : J P Γ ops Q ((d0, (int ((n * 2 ^ s : Nat) : Int))) :: F) L rest) : J P Γ ops Q F L (⟨some d0, .binOp .shl t x y t2, ty, pos, aft, none⟩ :: rest) :=
  J.pv (by apply Pv.shlN <;> assumption) hlt k

end
end Go.Sse
