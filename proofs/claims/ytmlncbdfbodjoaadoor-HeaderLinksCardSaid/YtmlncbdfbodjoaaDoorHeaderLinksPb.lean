/-
  Lemmas for the claim, part 2.
-/
import Derived.Test.YtmlncbdfbodjoaaDoorHeaderLinksPa
namespace Go.Sse
open Go Go.Sse
set_option linter.unusedVariables false
set_option linter.unusedSimpArgs false
section
variable {P : Program} {Γ : Ctx} {ops : Array Oper} {Q : Exit → Act → World → Prop} {F : List (Nat × SV)} {L : List Own} {rest : List Oper}
variable {dst : Option Tmp} {ty : TypeId} {pos : String} {aft : Array Edge} {g : Option (Nat × Bool)}
theorem Pv.loadG [Gl P] [Globs P Γ] {T b o : Nat} [h : TSc P T] {x : Operand} (hx : ev F x = some (.val (.pointer (some ⟨b, o, none⟩)))) (i : Nat) {vs : List Value} {v : Value} (hi : (Gl.gl P)[i]? = some (b, vs)) (hv : vs[o]? = some v) :
    Pv P Γ F L ⟨dst, .load T x, ty, pos, aft, g⟩ (.val v) := fun ρ w hst => by
  obtain ⟨_, _, h3⟩ := Globs.at (P := P) hst.ws (List.mem_of_getElem? hi)
  refine ⟨v, ?_, .val _⟩
  have := run_loadVar_sc h w ⟨b, o, none⟩ v (h3 o v hv)
  simp [execOp, hst.evv (x := x) (by simp [Op.operands]) hx, Instr.loadAt, Instr.sureAddr, this]
theorem Cx.loadG [Gl P] [Globs P Γ] {T b o : Nat} [h : TSc P T] {x : Operand} (hx : ev F x = some (.val (.pointer (some ⟨b, o, none⟩)))) (i : Nat) {vs : List Value} {v : Value} (hi : (Gl.gl P)[i]? = some (b, vs)) (hv : vs[o]? = some v) {d0 : Nat} {K : List (Nat × SV) → Prop} (hlt : Nat.blt d0 Γ.nt = true) (hr : SegC P Γ ops L ((d0, (.val v)) :: F) rest K) : SegC P Γ ops L F (⟨some d0, .load T x, ty, pos, aft, none⟩ :: rest) K :=
  SegC.q (Qs.pv (by apply Pv.loadG <;> assumption)) hlt hr
abbrev u32 (x : BitVec 32) : SV := .val (.int .u32 (x.toNat : Int))
abbrev u64 (n : Nat) : SV := .val (.int .u64 (n : Int))
theorem wrap_u32 (n : Nat) : IntKind.u32.wrap (n : Int) = ((BitVec.ofNat 32 n).toNat : Int) := by
  simp only [IntKind.wrap, IntKind.bits, IntKind.signed, Bool.false_and, Bool.false_eq_true, if_false, BitVec.toNat_ofNat]
  norm_cast
theorem wrap_u8 (n : Nat) : IntKind.u8.wrap (n : Int) = ((UInt8.ofNat n).toNat : Int) := by
  simp only [IntKind.wrap, IntKind.bits, IntKind.signed, Bool.false_and, Bool.false_eq_true, if_false, UInt8.toNat_ofNat']
  norm_cast
theorem wrap_u64 {n : Nat} (h : n < 18446744073709551616) : IntKind.u64.wrap (n : Int) = n := by
  simp only [IntKind.wrap, IntKind.bits, IntKind.signed, Bool.false_and, Bool.false_eq_true, if_false]
  norm_cast
  exact Nat.mod_eq_of_lt h
theorem ofNat_toNat32 (a : BitVec 32) : BitVec.ofNat 32 a.toNat = a := by simp
theorem ofInt_u32 (a : BitVec 32) : BitVec.ofInt 32 (a.toNat : Int) = a := by simp
section
variable {t t2 : TypeId} {x y : Operand} {a b : BitVec 32} (hx : ev F x = some (u32 a))
include hx
theorem Pv.notU : Pv P Γ F L ⟨dst, .unOp .xor t x, ty, pos, aft, g⟩ (u32 (~~~a)) :=
  fun ρ w hst => ⟨_, by
    have h1 : (Op.unary .xor (.int .u32 (a.toNat : Int))).run P w = .ok (.int .u32 ((~~~a).toNat : Int)) w := by
      simp only [Op.unary, IntKind.signed, Bool.false_eq_true, if_false, Op.intBits, IntKind.bits, ofInt_u32, wrap_u32, Sem.run_pure, ofNat_toNat32]
      rw [show BitVec.ofInt 32 IntKind.u32.max = BitVec.allOnes 32 by decide]
      show Result.ok (Value.int .u32 ((BitVec.allOnes 32 ^^^ a).toNat : Int)) w = _
      rw [BitVec.allOnes_xor]
    simp [execOp, hst.evv (by simp [Op.operands]) hx, h1], .val _⟩
theorem Cx.notU  {d0 : Nat} {K : List (Nat × SV) → Prop} (hlt : Nat.blt d0 Γ.nt = true) (hr : SegC P Γ ops L ((d0, (u32 (~~~a))) :: F) rest K) : SegC P Γ ops L F (⟨some d0, .unOp .xor t x, ty, pos, aft, none⟩ :: rest) K :=
  SegC.q (Qs.pv (by apply Pv.notU <;> assumption)) hlt hr
theorem Pv.shrU {k : IntKind} {n : Nat} (hy : ev F y = some (.val (.int k (n : Int)))) (hn : n ≤ 32) : Pv P Γ F L ⟨dst, .binOp .shr t x y t2, ty, pos, aft, g⟩ (u32 (a >>> n)) := by
  have := Pv.shr (P := P) (Γ := Γ) (L := L) (dst := dst) (ty := ty) (pos := pos) (aft := aft) (g := g) (t := t) (t2 := t2) hx hy (Int.natCast_nonneg n)
  have e : (a.toNat : Int).fdiv (2 ^ Min.min (n : Int).toNat IntKind.u32.bits) = ((a >>> n).toNat : Int) := by
    rw [Int.fdiv_eq_ediv_of_nonneg _ (by exact_mod_cast Nat.zero_le _)]
    simp only [IntKind.bits, Int.toNat_natCast, Nat.min_eq_left hn, BitVec.toNat_ushiftRight, Nat.shiftRight_eq_div_pow]
    norm_cast
  rwa [e] at this
theorem Cx.shrU {k : IntKind} {n : Nat} (hy : ev F y = some (.val (.int k (n : Int)))) (hn : n ≤ 32) {d0 : Nat} {K : List (Nat × SV) → Prop} (hlt : Nat.blt d0 Γ.nt = true) (hr : SegC P Γ ops L ((d0, (u32 (a >>> n))) :: F) rest K) : SegC P Γ ops L F (⟨some d0, .binOp .shr t x y t2, ty, pos, aft, none⟩ :: rest) K :=
  SegC.q (Qs.pv (by apply Pv.shrU <;> assumption)) hlt hr
theorem Jx.shrU {k : IntKind} {n : Nat} (hy : ev F y = some (.val (.int k (n : Int)))) (hn : n ≤ 32) {d0 : Nat} (hlt : Nat.blt d0 Γ.nt = true) (k : J P Γ ops Q ((d0, (u32 (a >>> n))) :: F) L rest) : J P Γ ops Q F L (⟨some d0, .binOp .shr t x y t2, ty, pos, aft, none⟩ :: rest) :=
  J.pv (by apply Pv.shrU <;> assumption) hlt k
theorem Pv.shlU {k : IntKind} {n : Nat} (hy : ev F y = some (.val (.int k (n : Int)))) (hn : n ≤ 32) : Pv P Γ F L ⟨dst, .binOp .shl t x y t2, ty, pos, aft, g⟩ (u32 (a <<< n)) := by
  have := Pv.shl (P := P) (Γ := Γ) (L := L) (dst := dst) (ty := ty) (pos := pos) (aft := aft) (g := g) (t := t) (t2 := t2) hx hy (Int.natCast_nonneg n)
  have e : IntKind.u32.wrap ((a.toNat : Int) * 2 ^ Min.min (n : Int).toNat IntKind.u32.bits) = ((a <<< n).toNat : Int) := by
    simp only [IntKind.bits, Int.toNat_natCast, Nat.min_eq_left hn]
    have : (a.toNat : Int) * 2 ^ n = ((a.toNat * 2 ^ n : Nat) : Int) := by push_cast; rfl
    rw [this, wrap_u32]
    simp [BitVec.toNat_shiftLeft, Nat.shiftLeft_eq]
  rwa [e] at this
theorem Cx.shlU {k : IntKind} {n : Nat} (hy : ev F y = some (.val (.int k (n : Int)))) (hn : n ≤ 32) {d0 : Nat} {K : List (Nat × SV) → Prop} (hlt : Nat.blt d0 Γ.nt = true) (hr : SegC P Γ ops L ((d0, (u32 (a <<< n))) :: F) rest K) : SegC P Γ ops L F (⟨some d0, .binOp .shl t x y t2, ty, pos, aft, none⟩ :: rest) K :=
  SegC.q (Qs.pv (by apply Pv.shlU <;> assumption)) hlt hr
theorem Jx.shlU {k : IntKind} {n : Nat} (hy : ev F y = some (.val (.int k (n : Int)))) (hn : n ≤ 32) {d0 : Nat} (hlt : Nat.blt d0 Γ.nt = true) (k : J P Γ ops Q ((d0, (u32 (a <<< n))) :: F) L rest) : J P Γ ops Q F L (⟨some d0, .binOp .shl t x y t2, ty, pos, aft, none⟩ :: rest) :=
  J.pv (by apply Pv.shlU <;> assumption) hlt k
theorem Pv.convByte {src d : Nat} [h : TInt P d .u8] (hs : (P.underlying src).isSome = true) : Pv P Γ F L ⟨dst, .convert src d x, ty, pos, aft, g⟩ (byte (UInt8.ofNat a.toNat)) := by
  have := Pv.convI (P := P) (Γ := Γ) (L := L) (dst := dst) (ty := ty) (pos := pos) (aft := aft) (g := g) (d := d) hs hx
  rwa [wrap_u8] at this
theorem Jx.convByte {src d : Nat} [h : TInt P d .u8] (hs : (P.underlying src).isSome = true) {d0 : Nat} (hlt : Nat.blt d0 Γ.nt = true) (k : J P Γ ops Q ((d0, (byte (UInt8.ofNat a.toNat))) :: F) L rest) : J P Γ ops Q F L (⟨some d0, .convert src d x, ty, pos, aft, none⟩ :: rest) :=
  J.pv (by apply Pv.convByte <;> assumption) hlt k
variable (hy : ev F y = some (u32 b))
include hy
theorem Pv.addU : Pv P Γ F L ⟨dst, .binOp .add t x y t2, ty, pos, aft, g⟩ (u32 (a + b)) := by
  have := Pv.add (P := P) (Γ := Γ) (L := L) (dst := dst) (ty := ty) (pos := pos) (aft := aft) (g := g) (t := t) (t2 := t2) hx hy
  have e : IntKind.u32.wrap ((a.toNat : Int) + b.toNat) = ((a + b).toNat : Int) := by
    rw [show ((a.toNat : Int) + b.toNat) = ((a.toNat + b.toNat : Nat) : Int) by push_cast; rfl, wrap_u32]
    simp [BitVec.toNat_add]
  rwa [e] at this
theorem Cx.addU  {d0 : Nat} {K : List (Nat × SV) → Prop} (hlt : Nat.blt d0 Γ.nt = true) (hr : SegC P Γ ops L ((d0, (u32 (a + b))) :: F) rest K) : SegC P Γ ops L F (⟨some d0, .binOp .add t x y t2, ty, pos, aft, none⟩ :: rest) K :=
  SegC.q (Qs.pv (by apply Pv.addU <;> assumption)) hlt hr
theorem Jx.addU  {d0 : Nat} (hlt : Nat.blt d0 Γ.nt = true) (k : J P Γ ops Q ((d0, (u32 (a + b))) :: F) L rest) : J P Γ ops Q F L (⟨some d0, .binOp .add t x y t2, ty, pos, aft, none⟩ :: rest) :=
  J.pv (by apply Pv.addU <;> assumption) hlt k
theorem Pv.xorU : Pv P Γ F L ⟨dst, .binOp .xor t x y t2, ty, pos, aft, g⟩ (u32 (a ^^^ b)) := by
  have := Pv.bxor (P := P) (Γ := Γ) (L := L) (dst := dst) (ty := ty) (pos := pos) (aft := aft) (g := g) (t := t) (t2 := t2) hx hy
  simp only [IntKind.bits, ofInt_u32, wrap_u32, ofNat_toNat32] at this
  exact this
theorem Cx.xorU  {d0 : Nat} {K : List (Nat × SV) → Prop} (hlt : Nat.blt d0 Γ.nt = true) (hr : SegC P Γ ops L ((d0, (u32 (a ^^^ b))) :: F) rest K) : SegC P Γ ops L F (⟨some d0, .binOp .xor t x y t2, ty, pos, aft, none⟩ :: rest) K :=
  SegC.q (Qs.pv (by apply Pv.xorU <;> assumption)) hlt hr
theorem Pv.andU : Pv P Γ F L ⟨dst, .binOp .and t x y t2, ty, pos, aft, g⟩ (u32 (a &&& b)) := by
  have := Pv.band (P := P) (Γ := Γ) (L := L) (dst := dst) (ty := ty) (pos := pos) (aft := aft) (g := g) (t := t) (t2 := t2) hx hy
  simp only [IntKind.bits, ofInt_u32, wrap_u32, ofNat_toNat32] at this
  exact this
theorem Cx.andU  {d0 : Nat} {K : List (Nat × SV) → Prop} (hlt : Nat.blt d0 Γ.nt = true) (hr : SegC P Γ ops L ((d0, (u32 (a &&& b))) :: F) rest K) : SegC P Γ ops L F (⟨some d0, .binOp .and t x y t2, ty, pos, aft, none⟩ :: rest) K :=
  SegC.q (Qs.pv (by apply Pv.andU <;> assumption)) hlt hr
theorem Pv.orU : Pv P Γ F L ⟨dst, .binOp .or t x y t2, ty, pos, aft, g⟩ (u32 (a ||| b)) := by
  have := Pv.bor (P := P) (Γ := Γ) (L := L) (dst := dst) (ty := ty) (pos := pos) (aft := aft) (g := g) (t := t) (t2 := t2) hx hy
  simp only [IntKind.bits, ofInt_u32, wrap_u32, ofNat_toNat32] at this
  exact this
theorem Cx.orU  {d0 : Nat} {K : List (Nat × SV) → Prop} (hlt : Nat.blt d0 Γ.nt = true) (hr : SegC P Γ ops L ((d0, (u32 (a ||| b))) :: F) rest K) : SegC P Γ ops L F (⟨some d0, .binOp .or t x y t2, ty, pos, aft, none⟩ :: rest) K :=
  SegC.q (Qs.pv (by apply Pv.orU <;> assumption)) hlt hr
theorem Jx.orU  {d0 : Nat} (hlt : Nat.blt d0 Γ.nt = true) (k : J P Γ ops Q ((d0, (u32 (a ||| b))) :: F) L rest) : J P Γ ops Q F L (⟨some d0, .binOp .or t x y t2, ty, pos, aft, none⟩ :: rest) :=
  J.pv (by apply Pv.orU <;> assumption) hlt k
end
theorem Pv.byteWord {src d : Nat} [h : TInt P d .u32] {x : Operand} {b : UInt8} (hs : (P.underlying src).isSome = true) (hx : ev F x = some (byte b)) : Pv P Γ F L ⟨dst, .convert src d x, ty, pos, aft, g⟩ (u32 (BitVec.ofNat 32 b.toNat)) := by
  have := Pv.convI (P := P) (Γ := Γ) (L := L) (dst := dst) (ty := ty) (pos := pos) (aft := aft) (g := g) (d := d) hs hx
  rwa [wrap_u32] at this
theorem Cx.byteWord {src d : Nat} [h : TInt P d .u32] {x : Operand} {b : UInt8} (hs : (P.underlying src).isSome = true) (hx : ev F x = some (byte b)) {d0 : Nat} {K : List (Nat × SV) → Prop} (hlt : Nat.blt d0 Γ.nt = true) (hr : SegC P Γ ops L ((d0, (u32 (BitVec.ofNat 32 b.toNat))) :: F) rest K) : SegC P Γ ops L F (⟨some d0, .convert src d x, ty, pos, aft, none⟩ :: rest) K :=
  SegC.q (Qs.pv (by apply Pv.byteWord <;> assumption)) hlt hr
theorem Pv.numByte {src d : Nat} [h : TInt P d .u8] {x : Operand} {k : IntKind} (n : Nat) {m : Int} (hs : (P.underlying src).isSome = true) (hx : ev F x = some (.val (.int k m))) (hm : m = (n : Int)) : Pv P Γ F L ⟨dst, .convert src d x, ty, pos, aft, g⟩ (byte (UInt8.ofNat n)) := by
  subst hm
  have := Pv.convI (P := P) (Γ := Γ) (L := L) (dst := dst) (ty := ty) (pos := pos) (aft := aft) (g := g) (d := d) hs hx
  rwa [wrap_u8] at this
theorem Cx.numByte {src d : Nat} [h : TInt P d .u8] {x : Operand} {k : IntKind} (n : Nat) {m : Int} (hs : (P.underlying src).isSome = true) (hx : ev F x = some (.val (.int k m))) (hm : m = (n : Int)) {d0 : Nat} {K : List (Nat × SV) → Prop} (hlt : Nat.blt d0 Γ.nt = true) (hr : SegC P Γ ops L ((d0, (byte (UInt8.ofNat n))) :: F) rest K) : SegC P Γ ops L F (⟨some d0, .convert src d x, ty, pos, aft, none⟩ :: rest) K :=
  SegC.q (Qs.pv (by apply Pv.numByte <;> assumption)) hlt hr
theorem Jx.numByte {src d : Nat} [h : TInt P d .u8] {x : Operand} {k : IntKind} (n : Nat) {m : Int} (hs : (P.underlying src).isSome = true) (hx : ev F x = some (.val (.int k m))) (hm : m = (n : Int)) {d0 : Nat} (hlt : Nat.blt d0 Γ.nt = true) (k : J P Γ ops Q ((d0, (byte (UInt8.ofNat n))) :: F) L rest) : J P Γ ops Q F L (⟨some d0, .convert src d x, ty, pos, aft, none⟩ :: rest) :=
  J.pv (by apply Pv.numByte <;> assumption) hlt k
theorem Pv.convU64 {src d : Nat} [h : TInt P d .u64] {x : Operand} {k : IntKind} (n : Nat) {m : Int} (hs : (P.underlying src).isSome = true) (hx : ev F x = some (.val (.int k m))) (hm : m = (n : Int)) (hn : n < 18446744073709551616) : Pv P Γ F L ⟨dst, .convert src d x, ty, pos, aft, g⟩ (u64 n) := by
  subst hm
  have := Pv.convI (P := P) (Γ := Γ) (L := L) (dst := dst) (ty := ty) (pos := pos) (aft := aft) (g := g) (d := d) hs hx
  rwa [wrap_u64 hn] at this
theorem Jx.convU64 {src d : Nat} [h : TInt P d .u64] {x : Operand} {k : IntKind} (n : Nat) {m : Int} (hs : (P.underlying src).isSome = true) (hx : ev F x = some (.val (.int k m))) (hm : m = (n : Int)) (hn : n < 18446744073709551616) {d0 : Nat} (hlt : Nat.blt d0 Γ.nt = true) (k : J P Γ ops Q ((d0, (u64 n)) :: F) L rest) : J P Γ ops Q F L (⟨some d0, .convert src d x, ty, pos, aft, none⟩ :: rest) :=
  J.pv (by apply Pv.convU64 <;> assumption) hlt k
theorem Pv.mulU64 {t t2 : TypeId} {x y : Operand} {n : Nat} (c : Nat) (hx : ev F x = some (u64 n)) (hy : ev F y = some (.val (.int .u64 (c : Int)))) (hn : n * c < 18446744073709551616) : Pv P Γ F L ⟨dst, .binOp .mul t x y t2, ty, pos, aft, g⟩ (u64 (n * c)) := by
  have := Pv.mul (P := P) (Γ := Γ) (L := L) (dst := dst) (ty := ty) (pos := pos) (aft := aft) (g := g) (t := t) (t2 := t2) hx hy
  rwa [show ((n : Int) * (c : Int)) = ((n * c : Nat) : Int) by push_cast; rfl, wrap_u64 hn] at this
theorem Jx.mulU64 {t t2 : TypeId} {x y : Operand} {n : Nat} (c : Nat) (hx : ev F x = some (u64 n)) (hy : ev F y = some (.val (.int .u64 (c : Int)))) (hn : n * c < 18446744073709551616) {d0 : Nat} (hlt : Nat.blt d0 Γ.nt = true) (k : J P Γ ops Q ((d0, (u64 (n * c))) :: F) L rest) : J P Γ ops Q F L (⟨some d0, .binOp .mul t x y t2, ty, pos, aft, none⟩ :: rest) :=
  J.pv (by apply Pv.mulU64 <;> assumption) hlt k
theorem Pv.subU64 {t t2 : TypeId} {x y : Operand} {n c : Nat} (hx : ev F x = some (.val (.int .u64 (c : Int)))) (hy : ev F y = some (u64 n)) (hn : n ≤ c) (hc : c < 18446744073709551616) : Pv P Γ F L ⟨dst, .binOp .sub t x y t2, ty, pos, aft, g⟩ (u64 (c - n)) := by
  have := Pv.sub' (P := P) (Γ := Γ) (L := L) (dst := dst) (ty := ty) (pos := pos) (aft := aft) (g := g) (t := t) (t2 := t2) hx hy
  rwa [show ((c : Int) - (n : Int)) = ((c - n : Nat) : Int) by omega, wrap_u64 (by omega)] at this
theorem Jx.subU64 {t t2 : TypeId} {x y : Operand} {n c : Nat} (hx : ev F x = some (.val (.int .u64 (c : Int)))) (hy : ev F y = some (u64 n)) (hn : n ≤ c) (hc : c < 18446744073709551616) {d0 : Nat} (hlt : Nat.blt d0 Γ.nt = true) (k : J P Γ ops Q ((d0, (u64 (c - n))) :: F) L rest) : J P Γ ops Q F L (⟨some d0, .binOp .sub t x y t2, ty, pos, aft, none⟩ :: rest) :=
  J.pv (by apply Pv.subU64 <;> assumption) hlt k
theorem Pv.shrN {t t2 : TypeId} {x y : Operand} {k k2 : IntKind} {n s : Nat} {m : Int} (hx : ev F x = some (.val (.int k (n : Int)))) (hy : ev F y = some (.val (.int k2 m))) (hm : m = (s : Int)) (hs : s ≤ k.bits) : Pv P Γ F L ⟨dst, .binOp .shr t x y t2, ty, pos, aft, g⟩ (.val (.int k ((n / 2 ^ s : Nat) : Int))) := by
  subst hm
  have := Pv.shr (P := P) (Γ := Γ) (L := L) (dst := dst) (ty := ty) (pos := pos) (aft := aft) (g := g) (t := t) (t2 := t2) hx hy (Int.natCast_nonneg s)
  have e : (n : Int).fdiv (2 ^ Min.min (s : Int).toNat k.bits) = ((n / 2 ^ s : Nat) : Int) := by
    rw [Int.fdiv_eq_ediv_of_nonneg _ (by exact_mod_cast Nat.zero_le _), Int.toNat_natCast, Nat.min_eq_left hs]
    norm_cast
  rwa [e] at this
theorem Jx.shrN {t t2 : TypeId} {x y : Operand} {k k2 : IntKind} {n s : Nat} {m : Int} (hx : ev F x = some (.val (.int k (n : Int)))) (hy : ev F y = some (.val (.int k2 m))) (hm : m = (s : Int)) (hs : s ≤ k.bits) {d0 : Nat} (hlt : Nat.blt d0 Γ.nt = true) (k : J P Γ ops Q ((d0, (.val (.int k ((n / 2 ^ s : Nat) : Int)))) :: F) L rest) : J P Γ ops Q F L (⟨some d0, .binOp .shr t x y t2, ty, pos, aft, none⟩ :: rest) :=
  J.pv (by apply Pv.shrN <;> assumption) hlt k
theorem getElem?_map_lt {α : Type} (f : α → SV) (ws : List α) (d : α) (i : Nat) (h : i < ws.length) : (ws.map f)[i]? = some (f (ws.getD i d)) := by
  simp [List.getElem?_map, List.getD_eq_getElem?_getD, List.getElem?_eq_getElem h]
theorem Pv.indexA {T E by' n : Nat} {z : List Value} [h : TArr P T n E] [hI : TInfo P E 1 by' z] {x i : Operand} {k : IntKind} {b o : Nat} {m : Int} (j : Nat) (hx : ev F x = some (.val (.pointer (some ⟨b, o, none⟩))))
    (hi : ev F i = some (.val (.int k m))) (hm : m = (j : Int)) (h1 : j < n) : Pv P Γ F L ⟨dst, .indexAddr T x i, ty, pos, aft, g⟩ (.val (.pointer (some ⟨b, o + j, none⟩))) := by
  subst hm
  have := Pv.indexArr (P := P) (Γ := Γ) (L := L) (dst := dst) (ty := ty) (pos := pos) (aft := aft) (g := g) (T := T) hx hi (by omega) (by omega)
  simpa using this
theorem Pv.index0 {T E by' n : Nat} {z : List Value} [h : TArr P T n E] [hI : TInfo P E 1 by' z] {x i : Operand} {k : IntKind} {b : Nat} {m : Int} (j : Nat) (hx : ev F x = some (.val (.pointer (some ⟨b, 0, none⟩))))
    (hi : ev F i = some (.val (.int k m))) (hm : m = (j : Int)) (h1 : j < n) : Pv P Γ F L ⟨dst, .indexAddr T x i, ty, pos, aft, g⟩ (.val (.pointer (some ⟨b, j, none⟩))) := by
  have := Pv.indexA (P := P) (Γ := Γ) (L := L) (dst := dst) (ty := ty) (pos := pos) (aft := aft) (g := g) (T := T) j hx hi hm h1
  rwa [Nat.zero_add] at this
theorem Cx.index0 {T E by' n : Nat} {z : List Value} [h : TArr P T n E] [hI : TInfo P E 1 by' z] {x i : Operand} {k : IntKind} {b : Nat} {m : Int} (j : Nat) (hx : ev F x = some (.val (.pointer (some ⟨b, 0, none⟩))))
    (hi : ev F i = some (.val (.int k m))) (hm : m = (j : Int)) (h1 : j < n) {d0 : Nat} {K : List (Nat × SV) → Prop} (hlt : Nat.blt d0 Γ.nt = true) (hr : SegC P Γ ops L ((d0, (.val (.pointer (some ⟨b, j, none⟩)))) :: F) rest K) : SegC P Γ ops L F (⟨some d0, .indexAddr T x i, ty, pos, aft, none⟩ :: rest) K :=
  SegC.q (Qs.pv (by apply Pv.index0 <;> assumption)) hlt hr
theorem Jx.index0 {T E by' n : Nat} {z : List Value} [h : TArr P T n E] [hI : TInfo P E 1 by' z] {x i : Operand} {k : IntKind} {b : Nat} {m : Int} (j : Nat) (hx : ev F x = some (.val (.pointer (some ⟨b, 0, none⟩))))
    (hi : ev F i = some (.val (.int k m))) (hm : m = (j : Int)) (h1 : j < n) {d0 : Nat} (hlt : Nat.blt d0 Γ.nt = true) (k : J P Γ ops Q ((d0, (.val (.pointer (some ⟨b, j, none⟩)))) :: F) L rest) : J P Γ ops Q F L (⟨some d0, .indexAddr T x i, ty, pos, aft, none⟩ :: rest) :=
  J.pv (by apply Pv.index0 <;> assumption) hlt k
theorem Pv.loadA {α : Type} {T b j : Nat} [h : TSc P T] {x : Operand} (enc : α → SV) (d : α) (hx : ev F x = some (.val (.pointer (some ⟨b, j, none⟩)))) (i : Nat) {T' : TypeId} {ws : List α} (hi : L[i]? = some (.obj b T' (ws.map enc))) (hj : j < ws.length) :
    Pv P Γ F L ⟨dst, .load T x, ty, pos, aft, g⟩ (enc (ws.getD j d)) := Pv.load hx i hi (getElem?_map_lt enc ws d j hj)
theorem Cx.loadA {α : Type} {T b j : Nat} [h : TSc P T] {x : Operand} (enc : α → SV) (d : α) (hx : ev F x = some (.val (.pointer (some ⟨b, j, none⟩)))) (i : Nat) {T' : TypeId} {ws : List α} (hi : L[i]? = some (.obj b T' (ws.map enc))) (hj : j < ws.length) {d0 : Nat} {K : List (Nat × SV) → Prop} (hlt : Nat.blt d0 Γ.nt = true) (hr : SegC P Γ ops L ((d0, (enc (ws.getD j d))) :: F) rest K) : SegC P Γ ops L F (⟨some d0, .load T x, ty, pos, aft, none⟩ :: rest) K :=
  SegC.q (Qs.pv (by apply Pv.loadA <;> assumption)) hlt hr
theorem J.storeA {α : Type} {T b j : Nat} [h : TSc P T] {x y : Operand} (enc : α → SV) (v : α) (hx : ev F x = some (.val (.pointer (some ⟨b, j, none⟩)))) (hy : ev F y = some (enc v)) (h1 : One (enc v)) (i : Nat) {T' : TypeId} {ws : List α} {L' : List Own}
    (hi : L[i]? = some (.obj b T' (ws.map enc))) (hj : j < ws.length) (hL : L.set i (.obj b T' ((ws.set j v).map enc)) = L') (k : J P Γ ops Q F L' rest) : J P Γ ops Q F L (⟨none, .store T x y, ty, pos, aft, none⟩ :: rest) :=
  J.store hx hy h1 i hi (by simp only [List.length_map]; exact Nat.ble_eq_true_of_le hj) (by rw [List.map_set]) hL k
theorem Pv.loadArr {T b n : Nat} [h : TAg P T n] {x : Operand} {cs : List SV} (hn : cs.length = n) (hx : ev F x = some (.val (.pointer (some ⟨b, 0, none⟩)))) (i : Nat) {T' : TypeId} (hi : L[i]? = some (.obj b T' cs)) :
    Pv P Γ F L ⟨dst, .load T x, ty, pos, aft, g⟩ (.agg cs) := Pv.loadAg hx i hi (by rw [List.drop_zero, ← hn, List.take_length]) hn
theorem Jx.loadArr {T b n : Nat} [h : TAg P T n] {x : Operand} {cs : List SV} (hn : cs.length = n) (hx : ev F x = some (.val (.pointer (some ⟨b, 0, none⟩)))) (i : Nat) {T' : TypeId} (hi : L[i]? = some (.obj b T' cs)) {d0 : Nat} (hlt : Nat.blt d0 Γ.nt = true) (k : J P Γ ops Q ((d0, (.agg cs)) :: F) L rest) : J P Γ ops Q F L (⟨some d0, .load T x, ty, pos, aft, none⟩ :: rest) :=
  J.pv (by apply Pv.loadArr <;> assumption) hlt k
theorem J.storeArr {T b n : Nat} [h : TAg P T n] {x y : Operand} {ds : List SV} (hn : ds.length = n) (hx : ev F x = some (.val (.pointer (some ⟨b, 0, none⟩)))) (hy : ev F y = some (.agg ds)) (i : Nat) {T' : TypeId} {cs : List SV} {L' : List Own}
    (hi : L[i]? = some (.obj b T' cs)) (ho : cs.length = n) (hL : L.set i (.obj b T' ds) = L') (k : J P Γ ops Q F L' rest) : J P Γ ops Q F L (⟨none, .store T x y, ty, pos, aft, none⟩ :: rest) :=
  J.storeAg hx hy hn i hi (by rw [ho]; simp) (by rw [hn, ← ho]; simp) hL k
theorem Pv.indexAg {α : Type} {T E by' n : Nat} {z : List Value} [h : TArr P T n E] [hI : TInfo P E 1 by' z] [hs : TSc P E] {x i : Operand} {k : IntKind} {m : Int} (enc : α → SV) (d : α) {ws : List α} (j : Nat) (hx : ev F x = some (.agg (ws.map enc)))
    (hi : ev F i = some (.val (.int k m))) (hm : m = (j : Int)) (h1 : j < n) (h2 : j < ws.length) : Pv P Γ F L ⟨dst, .index T x i, ty, pos, aft, g⟩ (enc (ws.getD j d)) := fun ρ w hst => by
  subst hm
  have hr := hst.ev x (by simp [Op.operands]) _ hx
  have hiv := hst.evv (x := i) (by simp [Op.operands]) hi
  generalize hv : ρ x = v at hr
  cases hr with
  | agg _ vs hl h1' hr =>
    obtain ⟨u, hu, hru, _⟩ := RelL.at ⟨hl, h1', hr⟩ (getElem?_map_lt enc ws d j h2)
    refine ⟨u, ?_, hru⟩
    have hsz : (sizeOf E).run P w = .ok 1 w := sizeOf_of (by have := hI.ok; cases hq : P.info? E <;> simp_all) w
    have := run_part_sc hs w vs.toArray j u (by simpa using hu)
    simp [execOp, hv, hiv, Instr.index, asIntOf, run_underlying h.ok, hsz, h1, this]
theorem Jx.indexAg {α : Type} {T E by' n : Nat} {z : List Value} [h : TArr P T n E] [hI : TInfo P E 1 by' z] [hs : TSc P E] {x i : Operand} {k : IntKind} {m : Int} (enc : α → SV) (d : α) {ws : List α} (j : Nat) (hx : ev F x = some (.agg (ws.map enc)))
    (hi : ev F i = some (.val (.int k m))) (hm : m = (j : Int)) (h1 : j < n) (h2 : j < ws.length) {d0 : Nat} (hlt : Nat.blt d0 Γ.nt = true) (k : J P Γ ops Q ((d0, (enc (ws.getD j d))) :: F) L rest) : J P Γ ops Q F L (⟨some d0, .index T x i, ty, pos, aft, none⟩ :: rest) :=
  J.pv (by apply Pv.indexAg <;> assumption) hlt k
theorem Pv.sliceArrPtr {T E n N : Nat} [h : TArr P T N E] {x : Operand} {el : Nat → List SV} (cs : List SV) (hx : ev F x = some (.sl 1 n el)) (hn : N ≤ n) (h0 : 0 < N) (hl : cs.length = N) (hc : ∀ j, j < N → (el j).getD 0 .any = cs.getD j .any) :
    Pv P Γ F L ⟨dst, .sliceToArrayPointer T x, ty, pos, aft, g⟩ (.pp cs) := fun ρ w hst => by
  have hr := hst.ev x (by simp [Op.operands]) _ hx
  generalize hv : ρ x = v at hr
  cases hr with
  | sl _ _ _ a cap vs hcap hmax hb h1 hl' hr =>
    rcases hb with hb | ⟨b, off, rfl, hz, hcell⟩
    · omega
    · refine ⟨.pointer (some ⟨b, off, none⟩), ?_, ?_⟩
      · simp [execOp, hv, Instr.arrayAt, run_underlying h.ok, Nat.not_lt.2 hn]
      · refine .pp cs b off vs (by omega) hz (fun j hj => hcell j (by omega)) (fun j hj => h1 j (by omega)) (fun j hj => ?_)
        have := hr j 0 (by omega) (by omega)
        rw [hc j (by omega)] at this
        simpa using this
theorem Cx.sliceArrPtr {T E n N : Nat} [h : TArr P T N E] {x : Operand} {el : Nat → List SV} (cs : List SV) (hx : ev F x = some (.sl 1 n el)) (hn : N ≤ n) (h0 : 0 < N) (hl : cs.length = N) (hc : ∀ j, j < N → (el j).getD 0 .any = cs.getD j .any) {d0 : Nat} {K : List (Nat × SV) → Prop} (hlt : Nat.blt d0 Γ.nt = true) (hr : SegC P Γ ops L ((d0, (.pp cs)) :: F) rest K) : SegC P Γ ops L F (⟨some d0, .sliceToArrayPointer T x, ty, pos, aft, none⟩ :: rest) K :=
  SegC.q (Qs.pv (by apply Pv.sliceArrPtr <;> assumption)) hlt hr
theorem Pv.buildA {T E n sz sz' by' by2 : Nat} {z z2 : List Value} [hI : TInfo P T sz by' z] [hA : TArr P T n E] [hE : TInfo P E sz' by2 z2] {parts : List (Nat × Operand)} {ss cs' : List SV} (ha' : evs F (parts.map (·.2)) = some ss) (hok' : partsB ss = true)
    (hz1 : z.all (·.oneCell') = true) (hf : fillS ((List.range n).map fun i => (i * sz', sz')) (z.map .val) ((parts.map (·.1)).zip ss) = some cs') : Pv P Γ F L ⟨dst, .build T parts.toArray, ty, pos, aft, g⟩ (.agg cs') := fun ρ w hst => by
    have ha := evs_args ha'
    have hok := partsB_ok hok'
    obtain ⟨zv, hzr, hzc, i, hi, rfl, rfl, hiz⟩ := run_zero hI w
    have hsE : (sizeOf E).run P w = .ok sz' w := sizeOf_of (by have := hE.ok; cases hq : P.info? E <;> simp_all) w
    have hrel : ∀ {xs : List Operand} {ss : List SV}, Args F xs ss → (∀ x ∈ xs, x ∈ parts.map (·.2)) → xs.length = ss.length ∧ ∀ (j : Nat) (s : SV) (x : Operand), ss[j]? = some s → xs[j]? = some x → Rel (ZL Γ.Z L) w s (ρ x) := by
      intro xs ss h
      induction h with
      | nil => exact fun _ => ⟨rfl, by simp⟩
      | @cons x s xs ss h hr ih =>
        intro hm
        obtain ⟨i1, i2⟩ := ih (fun y hy => hm y (List.mem_cons_of_mem _ hy))
        refine ⟨by simp [i1], fun j s' x' hs hx => ?_⟩
        cases j with
        | zero =>
          simp at hs hx; subst hs; subst hx
          exact hst.ev _ (by simp only [Op.operands, List.map_toArray, List.toList_toArray]; exact hm _ (List.mem_cons_self ..)) _ h
        | succ j => exact i2 j s' x' (by simpa using hs) (by simpa using hx)
      | @sub x s t xs ss h hsub hr ih =>
        intro hm
        obtain ⟨i1, i2⟩ := ih (fun y hy => hm y (List.mem_cons_of_mem _ hy))
        refine ⟨by simp [i1], fun j s' x' hs hx => ?_⟩
        cases j with
        | zero =>
          simp at hs hx; subst hs; subst hx
          exact hsub _ _ _ (hst.ev _ (by simp only [Op.operands, List.map_toArray, List.toList_toArray]; exact hm _ (List.mem_cons_self ..)) _ h)
        | succ j => exact i2 j s' x' (by simpa using hs) (by simpa using hx)
    obtain ⟨hl, hall⟩ := hrel ha (fun x hx => hx)
    have hzrel : RelL (ZL Γ.Z L) w (z.map .val) zv.cells.toList := by rw [hzc]; exact RelL.vals z (by simpa [List.all_eq_true] using hz1)
    obtain ⟨cells', hfill, hr'⟩ := fill_rel (pl := (List.range n).map fun i => (i * sz', sz')) (place := fun i => some (i * sz', sz')) (fun k q hq => by
      simp only [List.getElem?_map] at hq
      cases hk : (List.range n)[k]? with
      | none => rw [hk] at hq; simp at hq
      | some m =>
        rw [hk] at hq
        obtain ⟨hlt, hm⟩ := List.getElem?_eq_some_iff.1 hk
        simp only [List.getElem_range] at hm
        subst hm
        simpa using hq) ((parts.map (·.1)).zip ss) (parts.map fun p => (p.1, ρ p.2)) (z.map .val) zv.cells cs' (by simp at hl ⊢; omega) (by
      intro j p v hp hv
      rw [List.getElem?_zip_eq_some] at hp
      simp only [List.getElem?_map] at hp hv
      cases hq : parts[j]? with
      | none => rw [hq] at hv; simp at hv
      | some q =>
        rw [hq] at hp hv
        simp only [Option.map_some, Option.some.injEq] at hp hv
        subst hv
        exact ⟨hp.1.symm, hok.mem _ (List.mem_of_getElem? hp.2), hall j p.2 q.2 hp.2 (by simp [hq])⟩) hzrel hf
    refine ⟨.agg cells', ?_, ?_⟩
    · have hpm : (parts.toArray.map fun (p : Nat × Operand) => (p.1, ρ p.2)).toList = parts.map fun p => (p.1, ρ p.2) := by simp
      simp only [execOp, Instr.build, Sem.run_bind, hzr, Result.andThen_ok, run_underlying hA.ok, Sem.run_pure, hsE]
      rw [hpm, hfill]
      rfl
    · have := hr'.agg
      simpa using this
theorem Jx.buildA {T E n sz sz' by' by2 : Nat} {z z2 : List Value} [hI : TInfo P T sz by' z] [hA : TArr P T n E] [hE : TInfo P E sz' by2 z2] {parts : List (Nat × Operand)} {ss cs' : List SV} (ha' : evs F (parts.map (·.2)) = some ss) (hok' : partsB ss = true)
    (hz1 : z.all (·.oneCell') = true) (hf : fillS ((List.range n).map fun i => (i * sz', sz')) (z.map .val) ((parts.map (·.1)).zip ss) = some cs') {d0 : Nat} (hlt : Nat.blt d0 Γ.nt = true) (k : J P Γ ops Q ((d0, (.agg cs')) :: F) L rest) : J P Γ ops Q F L (⟨some d0, .build T parts.toArray, ty, pos, aft, none⟩ :: rest) :=
  J.pv (by apply Pv.buildA <;> assumption) hlt k
theorem perm_erase : ∀ {L : List Own} {i : Nat} {o : Own}, L[i]? = some o → L.Perm (o :: L.eraseIdx i)
  | [], i, o, h => by simp at h
  | x :: L, 0, o, h => by simp at h; subst h; simp
  | x :: L, i + 1, o, h => by
    simp only [List.getElem?_cons_succ] at h
    simp only [List.eraseIdx_cons_succ]
    exact (List.Perm.cons x (perm_erase h)).trans (List.Perm.swap ..)
theorem perm_set {L : List Own} {i : Nat} {o o' : Own} (h : L[i]? = some o) : (o' :: L.eraseIdx i).Perm (L.set i o') := by
  have h1 : (L.set i o')[i]? = some o' := by
    obtain ⟨hlt, rfl⟩ := List.getElem?_eq_some_iff.1 h
    simp [hlt]
  have := perm_erase h1
  rw [List.eraseIdx_set_eq] at this
  exact this.symm
end
end Go.Sse
namespace Go.Sse
open Go Go.Sse
set_option linter.unusedVariables false
set_option linter.unusedSimpArgs false
section
variable {P : Program} {Γ : Ctx} {ops : Array Oper} {Q : Exit → Act → World → Prop} {F : List (Nat × SV)} {L : List Own} {rest : List Oper}
variable {dst : Option Tmp} {ty : TypeId} {pos : String} {aft : Array Edge} {g : Option (Nat × Bool)}
theorem Qs.sub {o : Oper} {s t : SV} (h : Qs P Γ F L o s) (hs : Sub s t) : Qs P Γ F L o t :=
  fun a w K Q hws hx hK => h a w K Q hws hx fun v w' hst hr => hK v w' hst (hs _ _ _ hr)
theorem parts_of : ∀ {k : Nat} {parts : List (Nat × Operand)} {ss : List SV}, evs F (parts.map (·.2)) = some ss → parts.map (·.1) = List.range' k parts.length → (∀ s ∈ ss, PartOK s) → Parts F k parts ss
  | k, [], ss, h, _, _ => by
    simp only [List.map_nil, evs, Option.some.injEq] at h
    subst h; exact .nil
  | k, (i, x) :: r, ss, h, hi, hok => by
    simp only [List.map_cons, evs] at h
    simp only [List.map_cons, List.length_cons, List.range'_succ, List.cons.injEq] at hi
    obtain ⟨rfl, hi⟩ := hi
    cases hx : ev F x with
    | none => rw [hx] at h; simp at h
    | some s =>
      rw [hx] at h
      cases hr : evs F (r.map (·.2)) with
      | none => rw [hr] at h; simp at h
      | some ss' =>
        rw [hr] at h
        simp only [Option.some.injEq] at h
        subst h
        exact .cons hx (hok s (List.mem_cons_self ..)) (parts_of hr hi fun s hs => hok s (List.mem_cons_of_mem _ hs))
theorem One.cells {s : SV} (h : One s) : cellsS s = [s] := by cases h <;> rfl
theorem Qs.buildL {α : Type} {t E by' len : Nat} {z0 : Value} [ht : TSlice P t E] [hI : TInfo P E 1 by' [z0]] {parts : List (Nat × Operand)} (enc1 : α → SV) (d : α) (l : List α) (h1 : ∀ a, One (enc1 a)) (ha : evs F (parts.map (·.2)) = some (l.map enc1)) (hi : parts.map (·.1) = List.range' 0 parts.length)
    (hl : l.length = len) (h0 : 0 < len) (hmax : len ≤ 16777216) (hz : z0.oneCell' = true) : Qs P Γ F L ⟨dst, .buildSlice t len parts.toArray, ty, pos, aft, g⟩ (.sl 1 l.length (elOf (fun a => [enc1 a]) d l)) := by
  have hp := parts_of ha hi (fun s hs => by obtain ⟨a, _, rfl⟩ := List.mem_map.1 hs; exact .one (h1 a))
  have hc : ∀ a, cellsS (enc1 a) = [enc1 a] := fun a => (h1 a).cells
  refine (Qs.buildSlice (sz := 1) (z := [z0]) hp (by simpa using hl) (fun s hs => by obtain ⟨a, _, rfl⟩ := List.mem_map.1 hs; rw [hc]; rfl) rfl (by omega) (by omega) (by simpa using hz)).sub ?_
  subst hl
  refine Sub.sl fun i hi => ?_
  simp only [elOf, List.getD_eq_getElem?_getD, List.getElem?_map, List.getElem?_eq_getElem hi, Option.map_some, Option.getD_some, hc]
theorem Qs.buildBytes {t E by' len : Nat} [ht : TSlice P t E] [hI : TInfo P E 1 by' [.int .u8 0]] {parts : List (Nat × Operand)} (l : List UInt8) (ha : evs F (parts.map (·.2)) = some (l.map byte)) (hi : parts.map (·.1) = List.range' 0 parts.length)
    (hl : l.length = len) (h0 : 0 < len) (hmax : len ≤ 16777216) : Qs P Γ F L ⟨dst, .buildSlice t len parts.toArray, ty, pos, aft, g⟩ (bsl l) := Qs.buildL byte 0 l (fun _ => .val rfl) ha hi hl h0 hmax rfl
theorem Qs.buildTexts {t E by' len : Nat} [ht : TSlice P t E] [hI : TInfo P E 1 by' [.string ⟨#[]⟩]] {parts : List (Nat × Operand)} (l : List (List UInt8)) (ha : evs F (parts.map (·.2)) = some (l.map str)) (hi : parts.map (·.1) = List.range' 0 parts.length)
    (hl : l.length = len) (h0 : 0 < len) (hmax : len ≤ 16777216) : Qs P Γ F L ⟨dst, .buildSlice t len parts.toArray, ty, pos, aft, g⟩ (ssl l) := Qs.buildL str [] l (fun _ => .val rfl) ha hi hl h0 hmax rfl
theorem SrcOK.row {xt E E' sz m : Nat} [h : TSlice P xt E] {x : Operand} {v : Value} {el2 : Nat → List SV} (hx : ev F x = some (.val v)) (i : Nat) (hi : L[i]? = some (.row v E' sz m el2)) : SrcOK P Γ F L sz xt x m el2 := by
  intro ρ w hws hev
  have hv : ρ x = v := (hev _ hx).val_eq
  rcases hws.holds _ (mem_of_idx hi) with ⟨rfl, rfl⟩ | ⟨b, cap, cur, fz, rfl, hbk, hu, hnc, hcm, hcs, hone, hell, hrel⟩
  · refine ⟨[], ⟨⟨_, h.ok, by simp⟩, fun w' => by rw [hv]; simp [Builtin.lenOf], ?_, ?_, by simp, by simp⟩, by intro i hi; omega, by intro i j hi; omega⟩
    · rw [hv]; simp [Builtin.firstCells]
    · rw [hv]; simp [Builtin.firstCells]
  · have hle : m * sz ≤ cur.size := by rw [hcs]; exact Nat.mul_le_mul_right _ hnc
    have hcell : ∀ w' : World, w'.heap = w.heap → (Builtin.firstCells sz m (.slice (some ⟨b, 0, none⟩) m cap)).run P w' = .ok (cur.toList.take (m * sz)).toArray w' := by
      intro w' hw
      refine run_firstCells_some (P := P) w' sz m ⟨b, 0, none⟩ m cap _ (by simp only [List.length_take, Array.length_toList]; omega) ?_
      intro j u hu
      have hj : j < m * sz := by
        rcases Nat.lt_or_ge j (m * sz) with h | h
        · exact h
        · rw [List.getElem?_eq_none (by simp only [List.length_take]; omega)] at hu; simp at hu
      rw [List.getElem?_take, if_pos hj] at hu
      rw [add_plain, Nat.zero_add]
      have : w'.cell? ⟨b, j, none⟩ = w.cell? ⟨b, j, none⟩ := by simp [World.cell?, hw]
      rw [this, obj_cell hbk]
      simpa using hu
    refine ⟨cur.toList.take (m * sz), ⟨⟨_, h.ok, by simp⟩, fun w' => by rw [hv]; simp [Builtin.lenOf], ?_, ?_, by simp only [List.length_take, Array.length_toList]; omega, fun u hu => hone u (List.mem_of_mem_take hu)⟩, hell, fun i' j hi' hj => ?_⟩
    · rw [hv]; exact hcell w rfl
    · rw [hv]; exact hcell w.drew rfl
    · have := idx_lt hi' hj
      have e : (cur.toList.take (m * sz)).getD (i' * sz + j) undef = cur.toList.getD (i' * sz + j) undef := by
        simp only [List.getD_eq_getElem?_getD, List.getElem?_take, this, if_true]
      rw [e]; exact hrel i' j hi' hj
theorem J.appendNil {α : Type} {d t xt E sz by' : Nat} {z : List Value} [ht : TSlice P t E] [hI : TInfo P E sz by' z] {x : Operand} {enc : α → List SV} {dd : α} {l2 : List α}
    (hx : SrcOK P Γ F (.row (.slice none 0 0) E sz 0 (elOf enc dd []) :: L) sz xt x l2.length (elOf enc dd l2)) (hz : z.length = sz) (hz1 : z.all (·.oneCell') = true)
    (hb : l2.length ≤ maxLen ∧ l2.length * by' ≤ 140737488355328) (hlt : Nat.blt d Γ.nt = true) (k : ∀ v', v'.oneCell' = true → J P Γ ops Q ((d, .val v') :: F) (.row v' E sz l2.length (elOf enc dd l2) :: L) rest) :
    J P Γ ops Q F L (⟨some d, .call { callee := .builtin .append, args := #[.const (.slice none 0 0), x], argTypes := #[t, xt] }, ty, pos, aft, none⟩ :: rest) :=
  J.rowNil E sz (elOf enc dd []) (J.appendL (l := []) (s := .const (.slice none 0 0)) rfl hx hz hz1 (by simpa using hb) hlt k)
theorem WSt.rowNil {w : World} (E sz : Nat) (el : Nat → List SV) (h : WSt Γ L w) : WSt Γ (.row (.slice none 0 0) E sz 0 el :: L) w :=
  ⟨h.os, h.tape, h.output, h.size, h.keep, h.zlt, h.nodup, h.foot, fun o ho => by
    rcases List.mem_cons.1 ho with rfl | ho
    · exact .inl ⟨rfl, rfl⟩
    · exact h.holds o ho⟩
theorem St.rowNil {a : Act} {w : World} (E sz : Nat) (el : Nat → List SV) (h : St Γ F L a w) : St Γ F (.row (.slice none 0 0) E sz 0 el :: L) a w := ⟨h.ws.rowNil E sz el, h.nt, h.df, h.fr⟩
theorem W.rowNil {c : Code} (E sz : Nat) (el : Nat → List SV) (h : W P Γ Q F (.row (.slice none 0 0) E sz 0 el :: L) c) : W P Γ Q F L c := ⟨fun a w hst => h.go a w (hst.rowNil E sz el)⟩
theorem N.rowNil {K : Act → World → Prop} (E sz : Nat) (el : Nat → List SV) (h : N Γ K F (.row (.slice none 0 0) E sz 0 el :: L)) : N Γ K F L := ⟨fun a w hst => h.go a w (hst.rowNil E sz el)⟩
theorem JP.rowNil {S idx : List Nat} (E sz : Nat) (el : Nat → List SV) (h : JP P Γ ops Q S idx F (.row (.slice none 0 0) E sz 0 el :: L)) : JP P Γ ops Q S idx F L :=
  ⟨fun k listed a w hp hk => h.go k listed a w ⟨hp.sz, hp.lo, hp.hi, hp.cl, hp.ws.rowNil E sz el, hp.nt, hp.df, hp.fr⟩ hk⟩
theorem JP.append {α : Type} {l : List Oper} {S idx : List Nat} {G : List (Nat × SV)} {d t xt E sz by' : Nat} {z : List Value} [ht : TSlice P t E] [hI : TInfo P E sz by' z] {s x : Operand} {v : Value} {enc : α → List SV} {dd : α} {m m2 : List α} (i : Nat) (ks S' idx' : List Nat) (hc : (okIdx l.toArray S idx && okStep l.toArray S idx i ks S' idx') = true)
    (hoi : l[i]? = some ⟨some d, .call { callee := .builtin .append, args := #[s, x], argTypes := #[t, xt] }, ty, pos, aft, g⟩) (hre : SegC P Γ l.toArray (.row v E sz m.length (elOf enc dd m) :: L) G (opsAt l idx) (Ag G idx.length))
    (hsv : ev (keep ks G) s = some (.val v)) (hx : SrcOK P Γ (keep ks G) (.row v E sz m.length (elOf enc dd m) :: L) sz xt x m2.length (elOf enc dd m2)) (hz : z.length = sz) (hz1 : z.all (·.oneCell') = true)
    (hb : m.length + m2.length ≤ maxLen ∧ (m.length + m2.length) * by' ≤ 140737488355328) (hlt : Nat.blt d Γ.nt = true)
    (k : ∀ v', v'.oneCell' = true → JP P Γ l.toArray Q S' idx' ((d, .val v') :: G) (.row v' E sz (m ++ m2).length (elOf enc dd (m ++ m2)) :: L)) : JP P Γ l.toArray Q S idx G (.row v E sz m.length (elOf enc dd m) :: L) :=
  JP.do1 i ks S' idx' hc hoi hre (OpS.appendRow hsv hx hz hz1 hb.1 hb.2 (el' := elOf enc dd (m ++ m2)) (fun i hi => elOf_append_left enc dd m m2 i hi) (fun i _ => elOf_append_right enc dd m m2 i)) hlt (by
    rintro r L' ⟨v', hv', rfl, rfl⟩
    have := k v' hv'
    rwa [List.length_append] at this)
theorem JP.call [Gl P] [Globs P Γ] {l : List Oper} {S idx : List Nat} {G : List (Nat × SV)} {d f : Nat} [hT : TFunc P f] {xs : List Operand} {ts : Array TypeId} {args : List SV} {Lc Lr : List Own} {R : SV → List Own → Prop} (i : Nat) (ks S' idx' : List Nat) (hF : FnC P f args Lc R) (hL : L = Lc ++ Lr) (hc : (okIdx l.toArray S idx && okStep l.toArray S idx i ks S' idx') = true)
    (hoi : l[i]? = some ⟨some d, .call { callee := .value (.func f), args := xs.toArray, argTypes := ts }, ty, pos, aft, g⟩) (hre : SegC P Γ l.toArray L G (opsAt l idx) (Ag G idx.length)) (ha : Args (keep ks G) xs args) (hlt : Nat.blt d Γ.nt = true)
    (k : ∀ s Lc', R s Lc' → JP P Γ l.toArray Q S' idx' ((d, s) :: G) (Lc' ++ Lr)) : JP P Γ l.toArray Q S idx G L :=
  JP.do1 i ks S' idx' hc hoi hre (OpS.call hF hL ha) hlt (by rintro s L' ⟨Lc', hR, rfl⟩; exact k s Lc' hR)
theorem JP.storeAg {l : List Oper} {S idx : List Nat} {G : List (Nat × SV)} {T b o n : Nat} [hT : TAg P T n] {x y : Operand} (i : Nat) (ks S' idx' : List Nat) (hc : (okIdx l.toArray S idx && okStep l.toArray S idx i ks S' idx') = true) (hoi : l[i]? = some ⟨none, .store T x y, ty, pos, aft, g⟩)
    (hre : SegC P Γ l.toArray L G (opsAt l idx) (Ag G idx.length)) (hx : ev (keep ks G) x = some (.val (.pointer (some ⟨b, o, none⟩)))) {ds : List SV} (hy : ev (keep ks G) y = some (.agg ds)) (hn : ds.length = n) (j : Nat) {T' : TypeId} {cs cs' : List SV} {L' : List Own}
    (hj : L[j]? = some (.obj b T' cs)) (ho : Nat.ble (o + n) cs.length = true) (hcs : cs.take o ++ ds ++ cs.drop (o + ds.length) = cs') (hL : L.set j (.obj b T' cs') = L') (k : JP P Γ l.toArray Q S' idx' G L') : JP P Γ l.toArray Q S idx G L :=
  JP.do0 i ks S' idx' hc hoi hre (OpS.storeAg hx hy hn j hj (Nat.le_of_ble_eq_true ho)) (by rintro sv L'' rfl; rw [hcs, hL]; exact k)
theorem J.appendAt {α : Type} {d t xt E sz by' : Nat} {z : List Value} [ht : TSlice P t E] [hI : TInfo P E sz by' z] {s x : Operand} {v : Value} {enc : α → List SV} {dd : α} {l l2 : List α} (i : Nat)
    (hi : L[i]? = some (.row v E sz l.length (elOf enc dd l)))
    (hsv : ev (F := F) s = some (.val v)) (hx : SrcOK P Γ F (.row v E sz l.length (elOf enc dd l) :: L.eraseIdx i) sz xt x l2.length (elOf enc dd l2)) (hz : z.length = sz) (hz1 : z.all (·.oneCell') = true)
    (hb : l.length + l2.length ≤ maxLen ∧ (l.length + l2.length) * by' ≤ 140737488355328) (hlt : Nat.blt d Γ.nt = true) (k : ∀ v', v'.oneCell' = true → J P Γ ops Q ((d, .val v') :: F) (L.set i (.row v' E sz (l ++ l2).length (elOf enc dd (l ++ l2)))) rest) :
    J P Γ ops Q F L (⟨some d, .call { callee := .builtin .append, args := #[s, x], argTypes := #[t, xt] }, ty, pos, aft, none⟩ :: rest) :=
  J.perm (perm_erase hi) (J.appendL hsv hx hz hz1 hb hlt fun v' hv' => J.perm (perm_set hi) (k v' hv'))
theorem W.freezeAt {c : Code} (j i : Nat) {v : Value} {E sz n : Nat} {el : Nat → List SV} (hj : L[j]? = some (.row v E sz n el)) (hi : look F i = some (.val v)) (hmax : n ≤ maxLen) (h : W P Γ Q ((i, .sl sz n el) :: F) (L.eraseIdx j) c) : W P Γ Q F L c :=
  W.perm (perm_erase hj) (W.freeze i hi hmax h)
theorem Sub.slOf {α : Type} {sz n : Nat} {el : Nat → List SV} {enc : α → List SV} {d : α} {l : List α} (hn : n = l.length) (h : ∀ i, i < n → el i = enc (l.getD i d)) : Sub (.sl sz n el) (.sl sz l.length (elOf enc d l)) := by
  subst hn; exact Sub.sl h
theorem Pv.takeL {α : Type} {T E sz by' : Nat} {z : List Value} [h : TSlice P T E] [hI : TInfo P E sz by' z] {x j : Operand} {k : IntKind} {m : Int} {enc : α → List SV} {d : α} {l : List α} (c : Nat) (hx : ev F x = some (.sl sz l.length (elOf enc d l))) (hj : ev F j = some (.val (.int k m))) (hm : m = (c : Int)) (hc : c ≤ l.length) :
    Pv P Γ F L ⟨dst, .slice T x none (some j) none, ty, pos, aft, g⟩ (.sl sz (l.take c).length (elOf enc d (l.take c))) := by
  subst hm
  refine (Pv.slSh hx hj (by omega) (by omega)).sub (Sub.slOf (by rw [List.length_take, Int.toNat_natCast]; omega) fun i hi => ?_)
  simp only [Int.toNat_natCast] at hi
  simp only [elOf, List.getD_eq_getElem?_getD, List.getElem?_take, hi, if_true]
theorem Cx.takeL {α : Type} {T E sz by' : Nat} {z : List Value} [h : TSlice P T E] [hI : TInfo P E sz by' z] {x j : Operand} {k : IntKind} {m : Int} {enc : α → List SV} {d : α} {l : List α} (c : Nat) (hx : ev F x = some (.sl sz l.length (elOf enc d l))) (hj : ev F j = some (.val (.int k m))) (hm : m = (c : Int)) (hc : c ≤ l.length) {d0 : Nat} {K : List (Nat × SV) → Prop} (hlt : Nat.blt d0 Γ.nt = true) (hr : SegC P Γ ops L ((d0, (.sl sz (l.take c).length (elOf enc d (l.take c)))) :: F) rest K) : SegC P Γ ops L F (⟨some d0, .slice T x none (some j) none, ty, pos, aft, none⟩ :: rest) K :=
  SegC.q (Qs.pv (by apply Pv.takeL <;> assumption)) hlt hr
theorem Pv.dropL {α : Type} {T E sz by' : Nat} {z : List Value} [h : TSlice P T E] [hI : TInfo P E sz by' z] {x j : Operand} {k : IntKind} {m : Int} {enc : α → List SV} {d : α} {l : List α} (c : Nat) (hx : ev F x = some (.sl sz l.length (elOf enc d l))) (hj : ev F j = some (.val (.int k m))) (hm : m = (c : Int)) (hc : c ≤ l.length) :
    Pv P Γ F L ⟨dst, .slice T x (some j) none none, ty, pos, aft, g⟩ (.sl sz (l.drop c).length (elOf enc d (l.drop c))) := by
  subst hm
  refine (Pv.slSl hx hj (by omega) (by omega)).sub (Sub.slOf (by rw [List.length_drop, Int.toNat_natCast]) fun i hi => ?_)
  simp only [elOf, List.getD_eq_getElem?_getD, List.getElem?_drop, Int.toNat_natCast]
theorem Jx.dropL {α : Type} {T E sz by' : Nat} {z : List Value} [h : TSlice P T E] [hI : TInfo P E sz by' z] {x j : Operand} {k : IntKind} {m : Int} {enc : α → List SV} {d : α} {l : List α} (c : Nat) (hx : ev F x = some (.sl sz l.length (elOf enc d l))) (hj : ev F j = some (.val (.int k m))) (hm : m = (c : Int)) (hc : c ≤ l.length) {d0 : Nat} (hlt : Nat.blt d0 Γ.nt = true) (k : J P Γ ops Q ((d0, (.sl sz (l.drop c).length (elOf enc d (l.drop c)))) :: F) L rest) : J P Γ ops Q F L (⟨some d0, .slice T x (some j) none none, ty, pos, aft, none⟩ :: rest) :=
  J.pv (by apply Pv.dropL <;> assumption) hlt k
theorem Pv.lenRow {T E : Nat} [h : TSlice P T E] {x : Operand} {v : Value} {E' sz n : Nat} {el : Nat → List SV} (hx : ev F x = some (.val v)) (i : Nat) (hi : L[i]? = some (.row v E' sz n el)) :
    Pv P Γ F L ⟨dst, .call { callee := .builtin .len, args := #[x], argTypes := #[T] }, ty, pos, aft, g⟩ (int n) := fun ρ w hst => by
  have hv := hst.evv (x := x) (by simp [Op.operands, Call.operands]) hx
  rcases hst.ws.holds _ (mem_of_idx hi) with ⟨rfl, rfl⟩ | ⟨b, cap, cur, fz, rfl, _⟩
  · exact ⟨_, by simp [execOp, resolve, invoke, builtin, hv, Builtin.len_, run_underlying h.ok, goInt], .val _⟩
  · exact ⟨_, by simp [execOp, resolve, invoke, builtin, hv, Builtin.len_, run_underlying h.ok, goInt], .val _⟩
theorem Jx.lenRow {T E : Nat} [h : TSlice P T E] {x : Operand} {v : Value} {E' sz n : Nat} {el : Nat → List SV} (hx : ev F x = some (.val v)) (i : Nat) (hi : L[i]? = some (.row v E' sz n el)) {d0 : Nat} (hlt : Nat.blt d0 Γ.nt = true) (k : J P Γ ops Q ((d0, (int n)) :: F) L rest) : J P Γ ops Q F L (⟨some d0, .call { callee := .builtin .len, args := #[x], argTypes := #[T] }, ty, pos, aft, none⟩ :: rest) :=
  J.pv (by apply Pv.lenRow <;> assumption) hlt k
end
end Go.Sse
namespace Go.Sse
open Go Go.Sse
set_option linter.unusedVariables false
set_option linter.unusedSimpArgs false
inductive Leaf where
  | b | i (k : IntKind) | s
def leafFields (P : Program) (g : TypeId → Option (List Leaf)) : List Field → Nat → Option (List Leaf)
  | [], _ => some []
  | f :: fs, off => if f.offset = off ∧ f.name ≠ "_" then
      match g f.type with
      | some l => if P.cellsOf f.type = l.length then (leafFields P g fs (off + l.length)).map (l ++ ·) else none
      | none => none
    else none
def leavesAt (P : Program) : Nat → TypeId → Option (List Leaf)
  | 0, _ => none
  | d + 1, t => match P.underlying t with
    | some .bool => some [.b]
    | some (.int k) => some [.i k]
    | some .string => some [.s]
    | some (.array n e) => match leavesAt P d e with
      | some l => if P.cellsOf e = l.length then some (List.replicate n l).flatten else none
      | none => none
    | some (.struct fs) => if P.stoodInHeld t = true then none else leafFields P (leavesAt P d) fs.toList 0
    | _ => none
def isAggD : Option TypeDesc → Bool
  | some (.struct _) | some (.array _ _) => true
  | _ => false
section
variable {P : Program}
end
class TLeaf (P : Program) (t : Nat) (ls : outParam (List Leaf)) : Prop where
  ok : leavesAt P 20 t = some ls ∧ isAggD (P.underlying t) = true ∧ P.eqGuardType P.depth t = false
section
variable {P : Program} {Γ : Ctx} {ops : Array Oper} {Q : Exit → Act → World → Prop} {F : List (Nat × SV)} {L : List Own} {rest : List Oper}
variable {dst : Option Tmp} {ty : TypeId} {pos : String} {aft : Array Edge} {g : Option (Nat × Bool)}
section
variable {t t2 : TypeId} {ls : List Leaf} [h : TLeaf P t ls] {x y : Operand} {cs ds : List SV} {us vs : List Value} (b : Bool)
end
end
end Go.Sse
namespace Go.Sse
open Go Go.Sse
set_option linter.unusedVariables false
set_option linter.unusedSimpArgs false
set_option maxRecDepth 10000
section
variable {P : Program} {Γ : Ctx} {ops : Array Oper} {Q : Exit → Act → World → Prop} {F : List (Nat × SV)} {L : List Own} {rest : List Oper}
variable {dst : Option Tmp} {ty : TypeId} {pos : String} {aft : Array Edge} {g : Option (Nat × Bool)}
theorem Pv.arrFrom {T E by' n : Nat} {z : List Value} [h : TArr P T n E] [hI : TInfo P E 1 by' z] {x i : Operand} {k : IntKind} {b : Nat} {m : Int} (j : Nat) (hx : ev F x = some (.val (.pointer (some ⟨b, 0, none⟩))))
    (hi : ev F i = some (.val (.int k m))) (hm : m = (j : Int)) (h1 : j ≤ n) : Pv P Γ F L ⟨dst, .slice T x (some i) none none, ty, pos, aft, g⟩ (.val (.slice (some ⟨b, if n = j then 0 else j, none⟩) (n - j) (n - j))) := by
  subst hm
  have := Pv.sliceArrL (P := P) (Γ := Γ) (L := L) (dst := dst) (ty := ty) (pos := pos) (aft := aft) (g := g) (T := T) hx hi (by omega) (by omega)
  rw [Int.toNat_natCast] at this
  by_cases e : n = j
  · simp only [e, if_true] at this ⊢; exact this
  · simp only [e, if_false, Nat.zero_add, Nat.mul_one] at this ⊢; exact this
theorem Cx.arrFrom {T E by' n : Nat} {z : List Value} [h : TArr P T n E] [hI : TInfo P E 1 by' z] {x i : Operand} {k : IntKind} {b : Nat} {m : Int} (j : Nat) (hx : ev F x = some (.val (.pointer (some ⟨b, 0, none⟩))))
    (hi : ev F i = some (.val (.int k m))) (hm : m = (j : Int)) (h1 : j ≤ n) {d0 : Nat} {K : List (Nat × SV) → Prop} (hlt : Nat.blt d0 Γ.nt = true) (hr : SegC P Γ ops L ((d0, (.val (.slice (some ⟨b, if n = j then 0 else j, none⟩) (n - j) (n - j)))) :: F) rest K) : SegC P Γ ops L F (⟨some d0, .slice T x (some i) none none, ty, pos, aft, none⟩ :: rest) K :=
  SegC.q (Qs.pv (by apply Pv.arrFrom <;> assumption)) hlt hr
theorem Pv.arrStr {src d e : TypeId} [hs : TSlice P src e] [he : TInt P e .u8] [hd : TStr P d] {x : Operand} {b j n : Nat} {T : TypeId} (ws : List UInt8) (hx : ev F x = some (.val (.slice (some ⟨b, if n = j then 0 else j, none⟩) (n - j) (n - j)))) (i : Nat) (hi : L[i]? = some (.obj b T (ws.map byte)))
    (hl : ws.length = n) (hj : j ≤ n) : Pv P Γ F L ⟨dst, .convert src d x, ty, pos, aft, g⟩ (str (ws.drop j)) := by
  refine Pv.bytesStrObj (ws.drop j) hx i hi (by rw [List.length_drop, hl]) fun k hk => ?_
  have hn : ¬ n = j := by omega
  rw [if_neg hn, getElem?_map_lt byte ws 0 (j + k) (by omega)]
  simp [List.getD_eq_getElem?_getD, List.getElem?_drop]
theorem Cx.arrStr {src d e : TypeId} [hs : TSlice P src e] [he : TInt P e .u8] [hd : TStr P d] {x : Operand} {b j n : Nat} {T : TypeId} (ws : List UInt8) (hx : ev F x = some (.val (.slice (some ⟨b, if n = j then 0 else j, none⟩) (n - j) (n - j)))) (i : Nat) (hi : L[i]? = some (.obj b T (ws.map byte)))
    (hl : ws.length = n) (hj : j ≤ n) {d0 : Nat} {K : List (Nat × SV) → Prop} (hlt : Nat.blt d0 Γ.nt = true) (hr : SegC P Γ ops L ((d0, (str (ws.drop j))) :: F) rest K) : SegC P Γ ops L F (⟨some d0, .convert src d x, ty, pos, aft, none⟩ :: rest) K :=
  SegC.q (Qs.pv (by apply Pv.arrStr <;> assumption)) hlt hr
theorem wanted_undef {o og : Oper} {a : Act} {j d : Nat} {want : Bool} (hg : o.guard = some (j, want)) (ho : ops[j]? = some og) (hd : og.dst = some d) (hv : a.tmps.getD d undef = undef) : Region.wanted o (yielded ops a.tmps) = false := by
  have hy : yielded ops a.tmps j = none := by
    unfold yielded
    simp only [ho, hd, Option.bind_some]
    rcases Nat.lt_or_ge d a.tmps.size with h | h
    · have hq : a.tmps[d]? = some undef := by
        rw [Array.getElem?_eq_getElem h]
        have : a.tmps.getD d undef = a.tmps[d] := by simp [Array.getD, h]
        rw [← this, hv]
      rw [hq]; rfl
    · rw [Array.getElem?_eq_none h]
  unfold Region.wanted
  simp only [hg, hy]
  rfl
theorem J.guardNoU {dst : Tmp} {op : Op} {ty : TypeId} {pos : String} {aft : Array Edge} {j d : Nat} {want b : Bool} {og : Oper}
    (ho : ops[j]? = some og) (hd : og.dst = some d) (hv : look F d = some (.val (.bool b))) (hb : b = !want) (hlt : Nat.blt dst Γ.nt = true)
    (h : J P Γ ops Q ((dst, .val undef) :: F) L rest) : J P Γ ops Q F L (⟨some dst, op, ty, pos, aft, some (j, want)⟩ :: rest) :=
  ⟨fun a w hst => by
    have hw := wanted_guard (o := ⟨some dst, op, ty, pos, aft, some (j, want)⟩) rfl ho hd (hst.fr d _ hv).val_eq
    unfold wpList
    rw [if_neg (by rw [hw]; subst hb; cases want <;> simp)]
    exact h.go _ _ (hst.put (Step.refl hst.ws) hlt (.val _))⟩
end
end Go.Sse
namespace Go.Proofs.YtmlncbdfbodjoaaDoor
open Go Go.Sse
set_option linter.unusedVariables false
instance : TSc Tryd.prog 0 := ⟨by kernel_rfl, by kernel_rfl⟩
instance : TSc Tryd.prog 1 := ⟨by kernel_rfl, by kernel_rfl⟩
instance : TInfo Tryd.prog 1 1 8 [.nilFunc] := ⟨by kernel_rfl⟩
instance : TInt Tryd.prog 2 .i64 := ⟨by kernel_rfl⟩
instance : TSc Tryd.prog 2 := ⟨by kernel_rfl, by kernel_rfl⟩
instance : TInfo Tryd.prog 2 1 8 [.int .i64 0] := ⟨by kernel_rfl⟩
instance : TInt Tryd.prog 3 .i64 := ⟨by kernel_rfl⟩
instance : TSc Tryd.prog 3 := ⟨by kernel_rfl, by kernel_rfl⟩
instance : TInfo Tryd.prog 3 1 8 [.int .i64 0] := ⟨by kernel_rfl⟩
instance : TBool Tryd.prog 4 := ⟨by kernel_rfl⟩
instance : TSc Tryd.prog 4 := ⟨by kernel_rfl, by kernel_rfl⟩
instance : TInfo Tryd.prog 4 1 1 [.bool false] := ⟨by kernel_rfl⟩
instance : TInt Tryd.prog 5 .u8 := ⟨by kernel_rfl⟩
instance : TSc Tryd.prog 5 := ⟨by kernel_rfl, by kernel_rfl⟩
instance : TInfo Tryd.prog 5 1 1 [.int .u8 0] := ⟨by kernel_rfl⟩
instance : TInt Tryd.prog 6 .u8 := ⟨by kernel_rfl⟩
instance : TSc Tryd.prog 6 := ⟨by kernel_rfl, by kernel_rfl⟩
instance : TInfo Tryd.prog 6 1 1 [.int .u8 0] := ⟨by kernel_rfl⟩
instance : TFld Tryd.prog 7 0 0 2 1 := ⟨by kernel_rfl, by decide⟩
instance : TFld Tryd.prog 7 1 1 3 1 := ⟨by kernel_rfl, by decide⟩
instance : TFld Tryd.prog 7 2 2 4 1 := ⟨by kernel_rfl, by decide⟩
instance : TFld Tryd.prog 7 3 3 6 1 := ⟨by kernel_rfl, by decide⟩
instance : TBuild Tryd.prog 7 [(0, 1), (1, 1), (2, 1), (3, 1)] := ⟨by kernel_rfl⟩
instance : TAg Tryd.prog 7 4 := ⟨by kernel_rfl, by kernel_rfl⟩
instance : TLeaf Tryd.prog 7 [.i .i64, .i .i64, .b, .i .u8] := ⟨by kernel_rfl, by kernel_rfl, by kernel_rfl⟩
instance : TInfo Tryd.prog 7 4 24 [.int .i64 0, .int .i64 0, .bool false, .int .u8 0] := ⟨by kernel_rfl⟩
instance : TFld Tryd.prog 8 0 0 2 1 := ⟨by kernel_rfl, by decide⟩
instance : TFld Tryd.prog 8 1 1 3 1 := ⟨by kernel_rfl, by decide⟩
instance : TFld Tryd.prog 8 2 2 4 1 := ⟨by kernel_rfl, by decide⟩
instance : TFld Tryd.prog 8 3 3 6 1 := ⟨by kernel_rfl, by decide⟩
instance : TBuild Tryd.prog 8 [(0, 1), (1, 1), (2, 1), (3, 1)] := ⟨by kernel_rfl⟩
instance : TAg Tryd.prog 8 4 := ⟨by kernel_rfl, by kernel_rfl⟩
instance : TLeaf Tryd.prog 8 [.i .i64, .i .i64, .b, .i .u8] := ⟨by kernel_rfl, by kernel_rfl, by kernel_rfl⟩
instance : TInfo Tryd.prog 8 4 24 [.int .i64 0, .int .i64 0, .bool false, .int .u8 0] := ⟨by kernel_rfl⟩
instance : TStr Tryd.prog 9 := ⟨by kernel_rfl⟩
instance : TSc Tryd.prog 9 := ⟨by kernel_rfl, by kernel_rfl⟩
instance : TInfo Tryd.prog 9 1 16 [.string ⟨#[]⟩] := ⟨by kernel_rfl⟩
instance : TStr Tryd.prog 10 := ⟨by kernel_rfl⟩
instance : TSc Tryd.prog 10 := ⟨by kernel_rfl, by kernel_rfl⟩
instance : TInfo Tryd.prog 10 1 16 [.string ⟨#[]⟩] := ⟨by kernel_rfl⟩
instance : TStr Tryd.prog 11 := ⟨by kernel_rfl⟩
instance : TSc Tryd.prog 11 := ⟨by kernel_rfl, by kernel_rfl⟩
instance : TInfo Tryd.prog 11 1 16 [.string ⟨#[]⟩] := ⟨by kernel_rfl⟩
instance : TInt Tryd.prog 12 .u64 := ⟨by kernel_rfl⟩
instance : TSc Tryd.prog 12 := ⟨by kernel_rfl, by kernel_rfl⟩
instance : TInfo Tryd.prog 12 1 8 [.int .u64 0] := ⟨by kernel_rfl⟩
instance : TFld Tryd.prog 13 0 0 9 1 := ⟨by kernel_rfl, by decide⟩
instance : TFld Tryd.prog 13 1 1 12 1 := ⟨by kernel_rfl, by decide⟩
instance : TBuild Tryd.prog 13 [(0, 1), (1, 1)] := ⟨by kernel_rfl⟩
instance : TAg Tryd.prog 13 2 := ⟨by kernel_rfl, by kernel_rfl⟩
instance : TInfo Tryd.prog 13 2 24 [.string ⟨#[]⟩, .int .u64 0] := ⟨by kernel_rfl⟩
instance : TFld Tryd.prog 14 0 0 9 1 := ⟨by kernel_rfl, by decide⟩
instance : TFld Tryd.prog 14 1 1 12 1 := ⟨by kernel_rfl, by decide⟩
instance : TBuild Tryd.prog 14 [(0, 1), (1, 1)] := ⟨by kernel_rfl⟩
instance : TAg Tryd.prog 14 2 := ⟨by kernel_rfl, by kernel_rfl⟩
instance : TInfo Tryd.prog 14 2 24 [.string ⟨#[]⟩, .int .u64 0] := ⟨by kernel_rfl⟩
instance : TPtr Tryd.prog 15 147 := ⟨by kernel_rfl⟩
instance : TSc Tryd.prog 15 := ⟨by kernel_rfl, by kernel_rfl⟩
instance : TInfo Tryd.prog 15 1 8 [.pointer none] := ⟨by kernel_rfl⟩
instance : TPtr Tryd.prog 16 150 := ⟨by kernel_rfl⟩
instance : TSc Tryd.prog 16 := ⟨by kernel_rfl, by kernel_rfl⟩
instance : TInfo Tryd.prog 16 1 8 [.pointer none] := ⟨by kernel_rfl⟩
instance : TPtr Tryd.prog 17 157 := ⟨by kernel_rfl⟩
instance : TSc Tryd.prog 17 := ⟨by kernel_rfl, by kernel_rfl⟩
instance : TInfo Tryd.prog 17 1 8 [.pointer none] := ⟨by kernel_rfl⟩
instance : TFld Tryd.prog 18 0 0 17 1 := ⟨by kernel_rfl, by decide⟩
instance : TBuild Tryd.prog 18 [(0, 1)] := ⟨by kernel_rfl⟩
instance : TAg Tryd.prog 18 1 := ⟨by kernel_rfl, by kernel_rfl⟩
instance : TInfo Tryd.prog 18 1 8 [.pointer none] := ⟨by kernel_rfl⟩
instance : TFld Tryd.prog 19 0 0 17 1 := ⟨by kernel_rfl, by decide⟩
instance : TBuild Tryd.prog 19 [(0, 1)] := ⟨by kernel_rfl⟩
instance : TAg Tryd.prog 19 1 := ⟨by kernel_rfl, by kernel_rfl⟩
instance : TInfo Tryd.prog 19 1 8 [.pointer none] := ⟨by kernel_rfl⟩
instance : TSc Tryd.prog 20 := ⟨by kernel_rfl, by kernel_rfl⟩
instance : TInfo Tryd.prog 20 1 16 [.nilIface] := ⟨by kernel_rfl⟩
instance : TInt Tryd.prog 21 .i32 := ⟨by kernel_rfl⟩
instance : TSc Tryd.prog 21 := ⟨by kernel_rfl, by kernel_rfl⟩
instance : TInfo Tryd.prog 21 1 4 [.int .i32 0] := ⟨by kernel_rfl⟩
instance : TSlice Tryd.prog 22 37 := ⟨by kernel_rfl⟩
instance : TSc Tryd.prog 22 := ⟨by kernel_rfl, by kernel_rfl⟩
instance : TInfo Tryd.prog 22 1 24 [.slice none 0 0] := ⟨by kernel_rfl⟩
instance : TFld Tryd.prog 23 0 0 3 1 := ⟨by kernel_rfl, by decide⟩
instance : TFld Tryd.prog 23 1 1 9 1 := ⟨by kernel_rfl, by decide⟩
instance : TFld Tryd.prog 23 2 2 3 1 := ⟨by kernel_rfl, by decide⟩
instance : TFld Tryd.prog 23 3 3 9 1 := ⟨by kernel_rfl, by decide⟩
instance : TFld Tryd.prog 23 4 4 3 1 := ⟨by kernel_rfl, by decide⟩
instance : TFld Tryd.prog 23 5 5 9 1 := ⟨by kernel_rfl, by decide⟩
instance : TFld Tryd.prog 23 6 6 9 1 := ⟨by kernel_rfl, by decide⟩
instance : TFld Tryd.prog 23 7 7 22 1 := ⟨by kernel_rfl, by decide⟩
instance : TBuild Tryd.prog 23 [(0, 1), (1, 1), (2, 1), (3, 1), (4, 1), (5, 1), (6, 1), (7, 1)] := ⟨by kernel_rfl⟩
instance : TAg Tryd.prog 23 8 := ⟨by kernel_rfl, by kernel_rfl⟩
instance : TInfo Tryd.prog 23 8 112 [.int .i64 0, .string ⟨#[]⟩, .int .i64 0, .string ⟨#[]⟩, .int .i64 0, .string ⟨#[]⟩, .string ⟨#[]⟩, .slice none 0 0] := ⟨by kernel_rfl⟩
instance : TFld Tryd.prog 24 0 0 3 1 := ⟨by kernel_rfl, by decide⟩
instance : TFld Tryd.prog 24 1 1 9 1 := ⟨by kernel_rfl, by decide⟩
instance : TFld Tryd.prog 24 2 2 3 1 := ⟨by kernel_rfl, by decide⟩
instance : TFld Tryd.prog 24 3 3 9 1 := ⟨by kernel_rfl, by decide⟩
instance : TFld Tryd.prog 24 4 4 3 1 := ⟨by kernel_rfl, by decide⟩
instance : TFld Tryd.prog 24 5 5 9 1 := ⟨by kernel_rfl, by decide⟩
instance : TFld Tryd.prog 24 6 6 9 1 := ⟨by kernel_rfl, by decide⟩
instance : TFld Tryd.prog 24 7 7 22 1 := ⟨by kernel_rfl, by decide⟩
instance : TBuild Tryd.prog 24 [(0, 1), (1, 1), (2, 1), (3, 1), (4, 1), (5, 1), (6, 1), (7, 1)] := ⟨by kernel_rfl⟩
instance : TAg Tryd.prog 24 8 := ⟨by kernel_rfl, by kernel_rfl⟩
instance : TInfo Tryd.prog 24 8 112 [.int .i64 0, .string ⟨#[]⟩, .int .i64 0, .string ⟨#[]⟩, .int .i64 0, .string ⟨#[]⟩, .string ⟨#[]⟩, .slice none 0 0] := ⟨by kernel_rfl⟩
instance : TSc Tryd.prog 25 := ⟨by kernel_rfl, by kernel_rfl⟩
instance : TInfo Tryd.prog 25 1 8 [.nilFunc] := ⟨by kernel_rfl⟩
instance : TSc Tryd.prog 26 := ⟨by kernel_rfl, by kernel_rfl⟩
instance : TInfo Tryd.prog 26 1 8 [.nilFunc] := ⟨by kernel_rfl⟩
instance : TInt Tryd.prog 27 .i64 := ⟨by kernel_rfl⟩
instance : TSc Tryd.prog 27 := ⟨by kernel_rfl, by kernel_rfl⟩
instance : TInfo Tryd.prog 27 1 8 [.int .i64 0] := ⟨by kernel_rfl⟩
instance : TSc Tryd.prog 28 := ⟨by kernel_rfl, by kernel_rfl⟩
instance : TSc Tryd.prog 29 := ⟨by kernel_rfl, by kernel_rfl⟩
instance : TInfo Tryd.prog 29 1 8 [.nilFunc] := ⟨by kernel_rfl⟩
instance : TSc Tryd.prog 30 := ⟨by kernel_rfl, by kernel_rfl⟩
instance : TSc Tryd.prog 31 := ⟨by kernel_rfl, by kernel_rfl⟩
instance : TInfo Tryd.prog 31 1 8 [.nilFunc] := ⟨by kernel_rfl⟩
instance : TSc Tryd.prog 32 := ⟨by kernel_rfl, by kernel_rfl⟩
instance : TInfo Tryd.prog 32 1 8 [.nilFunc] := ⟨by kernel_rfl⟩
instance : TSc Tryd.prog 33 := ⟨by kernel_rfl, by kernel_rfl⟩
instance : TInfo Tryd.prog 33 1 8 [.nilFunc] := ⟨by kernel_rfl⟩
instance : TSc Tryd.prog 34 := ⟨by kernel_rfl, by kernel_rfl⟩
instance : TInfo Tryd.prog 34 1 8 [.nilFunc] := ⟨by kernel_rfl⟩
instance : TSc Tryd.prog 35 := ⟨by kernel_rfl, by kernel_rfl⟩
instance : TInfo Tryd.prog 35 1 8 [.nilFunc] := ⟨by kernel_rfl⟩
instance : TFld Tryd.prog 36 0 0 9 1 := ⟨by kernel_rfl, by decide⟩
instance : TFld Tryd.prog 36 1 1 3 1 := ⟨by kernel_rfl, by decide⟩
instance : TBuild Tryd.prog 36 [(0, 1), (1, 1)] := ⟨by kernel_rfl⟩
instance : TAg Tryd.prog 36 2 := ⟨by kernel_rfl, by kernel_rfl⟩
instance : TLeaf Tryd.prog 36 [.s, .i .i64] := ⟨by kernel_rfl, by kernel_rfl, by kernel_rfl⟩
instance : TInfo Tryd.prog 36 2 24 [.string ⟨#[]⟩, .int .i64 0] := ⟨by kernel_rfl⟩
instance : TFld Tryd.prog 37 0 0 9 1 := ⟨by kernel_rfl, by decide⟩
instance : TFld Tryd.prog 37 1 1 3 1 := ⟨by kernel_rfl, by decide⟩
instance : TBuild Tryd.prog 37 [(0, 1), (1, 1)] := ⟨by kernel_rfl⟩
instance : TAg Tryd.prog 37 2 := ⟨by kernel_rfl, by kernel_rfl⟩
instance : TLeaf Tryd.prog 37 [.s, .i .i64] := ⟨by kernel_rfl, by kernel_rfl, by kernel_rfl⟩
instance : TInfo Tryd.prog 37 2 24 [.string ⟨#[]⟩, .int .i64 0] := ⟨by kernel_rfl⟩
instance : TSc Tryd.prog 38 := ⟨by kernel_rfl, by kernel_rfl⟩
instance : TInfo Tryd.prog 38 1 8 [.nilFunc] := ⟨by kernel_rfl⟩
instance : TSlice Tryd.prog 39 9 := ⟨by kernel_rfl⟩
instance : TSc Tryd.prog 39 := ⟨by kernel_rfl, by kernel_rfl⟩
instance : TInfo Tryd.prog 39 1 24 [.slice none 0 0] := ⟨by kernel_rfl⟩
instance : TFld Tryd.prog 40 0 0 3 1 := ⟨by kernel_rfl, by decide⟩
instance : TFld Tryd.prog 40 1 1 3 1 := ⟨by kernel_rfl, by decide⟩
instance : TFld Tryd.prog 40 2 2 3 1 := ⟨by kernel_rfl, by decide⟩
instance : TFld Tryd.prog 40 3 3 4 1 := ⟨by kernel_rfl, by decide⟩
instance : TFld Tryd.prog 40 4 4 9 1 := ⟨by kernel_rfl, by decide⟩
instance : TFld Tryd.prog 40 5 5 9 1 := ⟨by kernel_rfl, by decide⟩
instance : TFld Tryd.prog 40 6 6 9 1 := ⟨by kernel_rfl, by decide⟩
instance : TFld Tryd.prog 40 7 7 9 1 := ⟨by kernel_rfl, by decide⟩
instance : TFld Tryd.prog 40 8 8 9 1 := ⟨by kernel_rfl, by decide⟩
instance : TFld Tryd.prog 40 9 9 9 1 := ⟨by kernel_rfl, by decide⟩
instance : TFld Tryd.prog 40 10 10 39 1 := ⟨by kernel_rfl, by decide⟩
instance : TBuild Tryd.prog 40 [(0, 1), (1, 1), (2, 1), (3, 1), (4, 1), (5, 1), (6, 1), (7, 1), (8, 1), (9, 1), (10, 1)] := ⟨by kernel_rfl⟩
instance : TAg Tryd.prog 40 11 := ⟨by kernel_rfl, by kernel_rfl⟩
instance : TInfo Tryd.prog 40 11 152 [.int .i64 0, .int .i64 0, .int .i64 0, .bool false, .string ⟨#[]⟩, .string ⟨#[]⟩, .string ⟨#[]⟩, .string ⟨#[]⟩, .string ⟨#[]⟩, .string ⟨#[]⟩, .slice none 0 0] := ⟨by kernel_rfl⟩
instance : TFld Tryd.prog 41 0 0 3 1 := ⟨by kernel_rfl, by decide⟩
instance : TFld Tryd.prog 41 1 1 3 1 := ⟨by kernel_rfl, by decide⟩
instance : TFld Tryd.prog 41 2 2 3 1 := ⟨by kernel_rfl, by decide⟩
instance : TFld Tryd.prog 41 3 3 4 1 := ⟨by kernel_rfl, by decide⟩
instance : TFld Tryd.prog 41 4 4 9 1 := ⟨by kernel_rfl, by decide⟩
instance : TFld Tryd.prog 41 5 5 9 1 := ⟨by kernel_rfl, by decide⟩
instance : TFld Tryd.prog 41 6 6 9 1 := ⟨by kernel_rfl, by decide⟩
instance : TFld Tryd.prog 41 7 7 9 1 := ⟨by kernel_rfl, by decide⟩
instance : TFld Tryd.prog 41 8 8 9 1 := ⟨by kernel_rfl, by decide⟩
instance : TFld Tryd.prog 41 9 9 9 1 := ⟨by kernel_rfl, by decide⟩
instance : TFld Tryd.prog 41 10 10 39 1 := ⟨by kernel_rfl, by decide⟩
instance : TBuild Tryd.prog 41 [(0, 1), (1, 1), (2, 1), (3, 1), (4, 1), (5, 1), (6, 1), (7, 1), (8, 1), (9, 1), (10, 1)] := ⟨by kernel_rfl⟩
instance : TAg Tryd.prog 41 11 := ⟨by kernel_rfl, by kernel_rfl⟩
instance : TInfo Tryd.prog 41 11 152 [.int .i64 0, .int .i64 0, .int .i64 0, .bool false, .string ⟨#[]⟩, .string ⟨#[]⟩, .string ⟨#[]⟩, .string ⟨#[]⟩, .string ⟨#[]⟩, .string ⟨#[]⟩, .slice none 0 0] := ⟨by kernel_rfl⟩
instance : TSc Tryd.prog 42 := ⟨by kernel_rfl, by kernel_rfl⟩
instance : TInfo Tryd.prog 42 1 8 [.nilFunc] := ⟨by kernel_rfl⟩
instance : TSc Tryd.prog 43 := ⟨by kernel_rfl, by kernel_rfl⟩
instance : TInfo Tryd.prog 43 1 8 [.nilFunc] := ⟨by kernel_rfl⟩
instance : TSc Tryd.prog 44 := ⟨by kernel_rfl, by kernel_rfl⟩
instance : TInfo Tryd.prog 44 1 8 [.nilFunc] := ⟨by kernel_rfl⟩
instance : TSc Tryd.prog 45 := ⟨by kernel_rfl, by kernel_rfl⟩
instance : TInfo Tryd.prog 45 1 8 [.nilFunc] := ⟨by kernel_rfl⟩
instance : TSc Tryd.prog 46 := ⟨by kernel_rfl, by kernel_rfl⟩
instance : TInfo Tryd.prog 46 1 8 [.nilFunc] := ⟨by kernel_rfl⟩
instance : TSc Tryd.prog 47 := ⟨by kernel_rfl, by kernel_rfl⟩
instance : TInfo Tryd.prog 47 1 8 [.nilFunc] := ⟨by kernel_rfl⟩
instance : TSlice Tryd.prog 48 3 := ⟨by kernel_rfl⟩
instance : TSc Tryd.prog 48 := ⟨by kernel_rfl, by kernel_rfl⟩
instance : TInfo Tryd.prog 48 1 24 [.slice none 0 0] := ⟨by kernel_rfl⟩
instance : TSc Tryd.prog 49 := ⟨by kernel_rfl, by kernel_rfl⟩
instance : TInfo Tryd.prog 49 1 8 [.nilFunc] := ⟨by kernel_rfl⟩
instance : TSc Tryd.prog 50 := ⟨by kernel_rfl, by kernel_rfl⟩
instance : TInfo Tryd.prog 50 1 8 [.nilFunc] := ⟨by kernel_rfl⟩
instance : TSc Tryd.prog 51 := ⟨by kernel_rfl, by kernel_rfl⟩
instance : TInfo Tryd.prog 51 1 8 [.nilFunc] := ⟨by kernel_rfl⟩
instance : TSlice Tryd.prog 52 24 := ⟨by kernel_rfl⟩
instance : TSc Tryd.prog 52 := ⟨by kernel_rfl, by kernel_rfl⟩
instance : TInfo Tryd.prog 52 1 24 [.slice none 0 0] := ⟨by kernel_rfl⟩
instance : TSc Tryd.prog 53 := ⟨by kernel_rfl, by kernel_rfl⟩
instance : TInfo Tryd.prog 53 1 8 [.nilFunc] := ⟨by kernel_rfl⟩
instance : TSc Tryd.prog 54 := ⟨by kernel_rfl, by kernel_rfl⟩
instance : TInfo Tryd.prog 54 1 8 [.nilFunc] := ⟨by kernel_rfl⟩
instance : TSc Tryd.prog 55 := ⟨by kernel_rfl, by kernel_rfl⟩
instance : TSc Tryd.prog 56 := ⟨by kernel_rfl, by kernel_rfl⟩
instance : TInfo Tryd.prog 56 1 8 [.nilFunc] := ⟨by kernel_rfl⟩
instance : TSc Tryd.prog 57 := ⟨by kernel_rfl, by kernel_rfl⟩
instance : TInfo Tryd.prog 57 1 8 [.nilFunc] := ⟨by kernel_rfl⟩
instance : TSc Tryd.prog 58 := ⟨by kernel_rfl, by kernel_rfl⟩
instance : TInfo Tryd.prog 58 1 8 [.nilFunc] := ⟨by kernel_rfl⟩
instance : TSc Tryd.prog 59 := ⟨by kernel_rfl, by kernel_rfl⟩
instance : TSc Tryd.prog 60 := ⟨by kernel_rfl, by kernel_rfl⟩
instance : TInfo Tryd.prog 60 1 8 [.nilFunc] := ⟨by kernel_rfl⟩
instance : TSc Tryd.prog 61 := ⟨by kernel_rfl, by kernel_rfl⟩
instance : TInfo Tryd.prog 61 1 8 [.nilFunc] := ⟨by kernel_rfl⟩
instance : TSc Tryd.prog 62 := ⟨by kernel_rfl, by kernel_rfl⟩
instance : TInfo Tryd.prog 62 1 8 [.nilFunc] := ⟨by kernel_rfl⟩
instance : TSc Tryd.prog 63 := ⟨by kernel_rfl, by kernel_rfl⟩
instance : TInfo Tryd.prog 63 1 8 [.nilFunc] := ⟨by kernel_rfl⟩
instance : TSlice Tryd.prog 64 5 := ⟨by kernel_rfl⟩
instance : TSc Tryd.prog 64 := ⟨by kernel_rfl, by kernel_rfl⟩
instance : TInfo Tryd.prog 64 1 24 [.slice none 0 0] := ⟨by kernel_rfl⟩
instance : TSc Tryd.prog 65 := ⟨by kernel_rfl, by kernel_rfl⟩
instance : TInfo Tryd.prog 65 1 8 [.nilFunc] := ⟨by kernel_rfl⟩
instance : TSc Tryd.prog 66 := ⟨by kernel_rfl, by kernel_rfl⟩
instance : TInfo Tryd.prog 66 1 8 [.nilFunc] := ⟨by kernel_rfl⟩
instance : TSc Tryd.prog 67 := ⟨by kernel_rfl, by kernel_rfl⟩
instance : TInfo Tryd.prog 67 1 8 [.nilFunc] := ⟨by kernel_rfl⟩
instance : TPtr Tryd.prog 68 90 := ⟨by kernel_rfl⟩
instance : TSc Tryd.prog 68 := ⟨by kernel_rfl, by kernel_rfl⟩
instance : TInfo Tryd.prog 68 1 8 [.pointer none] := ⟨by kernel_rfl⟩
instance : TSc Tryd.prog 69 := ⟨by kernel_rfl, by kernel_rfl⟩
instance : TInfo Tryd.prog 69 1 8 [.nilFunc] := ⟨by kernel_rfl⟩
instance : TSc Tryd.prog 70 := ⟨by kernel_rfl, by kernel_rfl⟩
instance : TInfo Tryd.prog 70 1 8 [.nilFunc] := ⟨by kernel_rfl⟩
instance : TSc Tryd.prog 71 := ⟨by kernel_rfl, by kernel_rfl⟩
instance : TInfo Tryd.prog 71 1 8 [.nilFunc] := ⟨by kernel_rfl⟩
instance : TSc Tryd.prog 72 := ⟨by kernel_rfl, by kernel_rfl⟩
instance : TSc Tryd.prog 73 := ⟨by kernel_rfl, by kernel_rfl⟩
instance : TInfo Tryd.prog 73 1 8 [.nilFunc] := ⟨by kernel_rfl⟩
instance : TSc Tryd.prog 74 := ⟨by kernel_rfl, by kernel_rfl⟩
instance : TInfo Tryd.prog 74 1 8 [.nilFunc] := ⟨by kernel_rfl⟩
instance : TPtr Tryd.prog 75 77 := ⟨by kernel_rfl⟩
instance : TSc Tryd.prog 75 := ⟨by kernel_rfl, by kernel_rfl⟩
instance : TInfo Tryd.prog 75 1 8 [.pointer none] := ⟨by kernel_rfl⟩
instance : TFld Tryd.prog 76 0 0 9 1 := ⟨by kernel_rfl, by decide⟩
instance : TFld Tryd.prog 76 1 1 27 1 := ⟨by kernel_rfl, by decide⟩
instance : TBuild Tryd.prog 76 [(0, 1), (1, 1)] := ⟨by kernel_rfl⟩
instance : TAg Tryd.prog 76 2 := ⟨by kernel_rfl, by kernel_rfl⟩
instance : TLeaf Tryd.prog 76 [.s, .i .i64] := ⟨by kernel_rfl, by kernel_rfl, by kernel_rfl⟩
instance : TInfo Tryd.prog 76 2 24 [.string ⟨#[]⟩, .int .i64 0] := ⟨by kernel_rfl⟩
instance : TFld Tryd.prog 77 0 0 9 1 := ⟨by kernel_rfl, by decide⟩
instance : TFld Tryd.prog 77 1 1 27 1 := ⟨by kernel_rfl, by decide⟩
instance : TBuild Tryd.prog 77 [(0, 1), (1, 1)] := ⟨by kernel_rfl⟩
instance : TAg Tryd.prog 77 2 := ⟨by kernel_rfl, by kernel_rfl⟩
instance : TLeaf Tryd.prog 77 [.s, .i .i64] := ⟨by kernel_rfl, by kernel_rfl, by kernel_rfl⟩
instance : TInfo Tryd.prog 77 2 24 [.string ⟨#[]⟩, .int .i64 0] := ⟨by kernel_rfl⟩
instance : TSc Tryd.prog 78 := ⟨by kernel_rfl, by kernel_rfl⟩
instance : TInfo Tryd.prog 78 1 8 [.nilFunc] := ⟨by kernel_rfl⟩
instance : TSc Tryd.prog 79 := ⟨by kernel_rfl, by kernel_rfl⟩
instance : TInfo Tryd.prog 79 1 8 [.nilFunc] := ⟨by kernel_rfl⟩
instance : TSc Tryd.prog 80 := ⟨by kernel_rfl, by kernel_rfl⟩
instance : TInfo Tryd.prog 80 1 8 [.nilFunc] := ⟨by kernel_rfl⟩
instance : TSc Tryd.prog 81 := ⟨by kernel_rfl, by kernel_rfl⟩
instance : TInfo Tryd.prog 81 1 8 [.nilFunc] := ⟨by kernel_rfl⟩
instance : TSc Tryd.prog 82 := ⟨by kernel_rfl, by kernel_rfl⟩
instance : TInfo Tryd.prog 82 1 8 [.nilFunc] := ⟨by kernel_rfl⟩
instance : TSc Tryd.prog 83 := ⟨by kernel_rfl, by kernel_rfl⟩
instance : TInfo Tryd.prog 83 1 8 [.nilFunc] := ⟨by kernel_rfl⟩
instance : TSc Tryd.prog 84 := ⟨by kernel_rfl, by kernel_rfl⟩
instance : TInfo Tryd.prog 84 1 8 [.nilFunc] := ⟨by kernel_rfl⟩
instance : TSc Tryd.prog 85 := ⟨by kernel_rfl, by kernel_rfl⟩
instance : TInfo Tryd.prog 85 1 8 [.nilFunc] := ⟨by kernel_rfl⟩
instance : TSc Tryd.prog 86 := ⟨by kernel_rfl, by kernel_rfl⟩
instance : TInfo Tryd.prog 86 1 8 [.nilFunc] := ⟨by kernel_rfl⟩
instance : TSc Tryd.prog 87 := ⟨by kernel_rfl, by kernel_rfl⟩
instance : TInfo Tryd.prog 87 1 8 [.nilFunc] := ⟨by kernel_rfl⟩
instance : TSc Tryd.prog 88 := ⟨by kernel_rfl, by kernel_rfl⟩
instance : TInfo Tryd.prog 88 1 8 [.nilFunc] := ⟨by kernel_rfl⟩
instance : TFld Tryd.prog 89 0 0 9 1 := ⟨by kernel_rfl, by decide⟩
instance : TFld Tryd.prog 89 1 1 3 1 := ⟨by kernel_rfl, by decide⟩
instance : TFld Tryd.prog 89 2 2 27 1 := ⟨by kernel_rfl, by decide⟩
instance : TBuild Tryd.prog 89 [(0, 1), (1, 1), (2, 1)] := ⟨by kernel_rfl⟩
instance : TAg Tryd.prog 89 3 := ⟨by kernel_rfl, by kernel_rfl⟩
instance : TLeaf Tryd.prog 89 [.s, .i .i64, .i .i64] := ⟨by kernel_rfl, by kernel_rfl, by kernel_rfl⟩
instance : TInfo Tryd.prog 89 3 32 [.string ⟨#[]⟩, .int .i64 0, .int .i64 0] := ⟨by kernel_rfl⟩
instance : TFld Tryd.prog 90 0 0 9 1 := ⟨by kernel_rfl, by decide⟩
instance : TFld Tryd.prog 90 1 1 3 1 := ⟨by kernel_rfl, by decide⟩
instance : TFld Tryd.prog 90 2 2 27 1 := ⟨by kernel_rfl, by decide⟩
instance : TBuild Tryd.prog 90 [(0, 1), (1, 1), (2, 1)] := ⟨by kernel_rfl⟩
instance : TAg Tryd.prog 90 3 := ⟨by kernel_rfl, by kernel_rfl⟩
instance : TLeaf Tryd.prog 90 [.s, .i .i64, .i .i64] := ⟨by kernel_rfl, by kernel_rfl, by kernel_rfl⟩
instance : TInfo Tryd.prog 90 3 32 [.string ⟨#[]⟩, .int .i64 0, .int .i64 0] := ⟨by kernel_rfl⟩
instance : TSc Tryd.prog 91 := ⟨by kernel_rfl, by kernel_rfl⟩
instance : TInfo Tryd.prog 91 1 8 [.nilFunc] := ⟨by kernel_rfl⟩
instance : TSc Tryd.prog 92 := ⟨by kernel_rfl, by kernel_rfl⟩
instance : TSc Tryd.prog 93 := ⟨by kernel_rfl, by kernel_rfl⟩
instance : TInfo Tryd.prog 93 1 8 [.nilFunc] := ⟨by kernel_rfl⟩
instance : TSc Tryd.prog 94 := ⟨by kernel_rfl, by kernel_rfl⟩
instance : TSc Tryd.prog 95 := ⟨by kernel_rfl, by kernel_rfl⟩
instance : TInfo Tryd.prog 95 1 8 [.nilFunc] := ⟨by kernel_rfl⟩
instance : TSc Tryd.prog 96 := ⟨by kernel_rfl, by kernel_rfl⟩
instance : TSc Tryd.prog 97 := ⟨by kernel_rfl, by kernel_rfl⟩
instance : TInfo Tryd.prog 97 1 8 [.nilFunc] := ⟨by kernel_rfl⟩
instance : TSc Tryd.prog 98 := ⟨by kernel_rfl, by kernel_rfl⟩
instance : TSc Tryd.prog 99 := ⟨by kernel_rfl, by kernel_rfl⟩
instance : TInfo Tryd.prog 99 1 8 [.nilFunc] := ⟨by kernel_rfl⟩
instance : TInt Tryd.prog 100 .u64 := ⟨by kernel_rfl⟩
instance : TSc Tryd.prog 100 := ⟨by kernel_rfl, by kernel_rfl⟩
instance : TInfo Tryd.prog 100 1 8 [.int .u64 0] := ⟨by kernel_rfl⟩
instance : TSc Tryd.prog 101 := ⟨by kernel_rfl, by kernel_rfl⟩
instance : TSc Tryd.prog 102 := ⟨by kernel_rfl, by kernel_rfl⟩
instance : TInfo Tryd.prog 102 1 8 [.nilFunc] := ⟨by kernel_rfl⟩
instance : TSc Tryd.prog 103 := ⟨by kernel_rfl, by kernel_rfl⟩
instance : TInfo Tryd.prog 103 1 8 [.nilFunc] := ⟨by kernel_rfl⟩
instance : TPtr Tryd.prog 104 106 := ⟨by kernel_rfl⟩
instance : TSc Tryd.prog 104 := ⟨by kernel_rfl, by kernel_rfl⟩
instance : TInfo Tryd.prog 104 1 8 [.pointer none] := ⟨by kernel_rfl⟩
instance : TFld Tryd.prog 105 0 0 104 1 := ⟨by kernel_rfl, by decide⟩
instance : TFld Tryd.prog 105 1 1 64 1 := ⟨by kernel_rfl, by decide⟩
instance : TBuild Tryd.prog 105 [(0, 1), (1, 1)] := ⟨by kernel_rfl⟩
instance : TAg Tryd.prog 105 2 := ⟨by kernel_rfl, by kernel_rfl⟩
instance : TInfo Tryd.prog 105 2 32 [.pointer none, .slice none 0 0] := ⟨by kernel_rfl⟩
instance : TFld Tryd.prog 106 0 0 104 1 := ⟨by kernel_rfl, by decide⟩
instance : TFld Tryd.prog 106 1 1 64 1 := ⟨by kernel_rfl, by decide⟩
instance : TBuild Tryd.prog 106 [(0, 1), (1, 1)] := ⟨by kernel_rfl⟩
instance : TAg Tryd.prog 106 2 := ⟨by kernel_rfl, by kernel_rfl⟩
instance : TInfo Tryd.prog 106 2 32 [.pointer none, .slice none 0 0] := ⟨by kernel_rfl⟩
instance : TSc Tryd.prog 107 := ⟨by kernel_rfl, by kernel_rfl⟩
instance : TInfo Tryd.prog 107 1 8 [.nilFunc] := ⟨by kernel_rfl⟩
instance : TSc Tryd.prog 108 := ⟨by kernel_rfl, by kernel_rfl⟩
instance : TInfo Tryd.prog 108 1 16 [.nilIface] := ⟨by kernel_rfl⟩
instance : TSc Tryd.prog 109 := ⟨by kernel_rfl, by kernel_rfl⟩
instance : TInfo Tryd.prog 109 1 16 [.nilIface] := ⟨by kernel_rfl⟩
instance : TSc Tryd.prog 110 := ⟨by kernel_rfl, by kernel_rfl⟩
instance : TSc Tryd.prog 111 := ⟨by kernel_rfl, by kernel_rfl⟩
instance : TInfo Tryd.prog 111 1 8 [.nilFunc] := ⟨by kernel_rfl⟩
instance : TSc Tryd.prog 112 := ⟨by kernel_rfl, by kernel_rfl⟩
instance : TInfo Tryd.prog 112 1 8 [.nilFunc] := ⟨by kernel_rfl⟩
instance : TPtr Tryd.prog 113 129 := ⟨by kernel_rfl⟩
instance : TSc Tryd.prog 113 := ⟨by kernel_rfl, by kernel_rfl⟩
instance : TInfo Tryd.prog 113 1 8 [.pointer none] := ⟨by kernel_rfl⟩
instance : TSc Tryd.prog 114 := ⟨by kernel_rfl, by kernel_rfl⟩
instance : TInfo Tryd.prog 114 1 8 [.nilFunc] := ⟨by kernel_rfl⟩
instance : TSc Tryd.prog 115 := ⟨by kernel_rfl, by kernel_rfl⟩
instance : TInfo Tryd.prog 115 1 8 [.nilFunc] := ⟨by kernel_rfl⟩
instance : TSc Tryd.prog 116 := ⟨by kernel_rfl, by kernel_rfl⟩
instance : TInfo Tryd.prog 116 1 8 [.nilFunc] := ⟨by kernel_rfl⟩
instance : TSc Tryd.prog 117 := ⟨by kernel_rfl, by kernel_rfl⟩
instance : TInfo Tryd.prog 117 1 8 [.nilFunc] := ⟨by kernel_rfl⟩
instance : TArr Tryd.prog 118 8 5 := ⟨by kernel_rfl⟩
instance : TAg Tryd.prog 118 8 := ⟨by kernel_rfl, by kernel_rfl⟩
instance : TLeaf Tryd.prog 118 [.i .u8, .i .u8, .i .u8, .i .u8, .i .u8, .i .u8, .i .u8, .i .u8] := ⟨by kernel_rfl, by kernel_rfl, by kernel_rfl⟩
instance : TInfo Tryd.prog 118 8 8 [.int .u8 0, .int .u8 0, .int .u8 0, .int .u8 0, .int .u8 0, .int .u8 0, .int .u8 0, .int .u8 0] := ⟨by kernel_rfl⟩
instance : TInt Tryd.prog 119 .u32 := ⟨by kernel_rfl⟩
instance : TSc Tryd.prog 119 := ⟨by kernel_rfl, by kernel_rfl⟩
instance : TInfo Tryd.prog 119 1 4 [.int .u32 0] := ⟨by kernel_rfl⟩
instance : TSc Tryd.prog 120 := ⟨by kernel_rfl, by kernel_rfl⟩
instance : TSc Tryd.prog 121 := ⟨by kernel_rfl, by kernel_rfl⟩
instance : TInfo Tryd.prog 121 1 8 [.nilFunc] := ⟨by kernel_rfl⟩
instance : TInt Tryd.prog 122 .u64 := ⟨by kernel_rfl⟩
instance : TSc Tryd.prog 122 := ⟨by kernel_rfl, by kernel_rfl⟩
instance : TInfo Tryd.prog 122 1 8 [.int .u64 0] := ⟨by kernel_rfl⟩
instance : TSc Tryd.prog 123 := ⟨by kernel_rfl, by kernel_rfl⟩
instance : TSc Tryd.prog 124 := ⟨by kernel_rfl, by kernel_rfl⟩
instance : TInfo Tryd.prog 124 1 8 [.nilFunc] := ⟨by kernel_rfl⟩
instance : TPtr Tryd.prog 125 5 := ⟨by kernel_rfl⟩
instance : TSc Tryd.prog 125 := ⟨by kernel_rfl, by kernel_rfl⟩
instance : TInfo Tryd.prog 125 1 8 [.pointer none] := ⟨by kernel_rfl⟩
instance : TArr Tryd.prog 126 8 119 := ⟨by kernel_rfl⟩
instance : TAg Tryd.prog 126 8 := ⟨by kernel_rfl, by kernel_rfl⟩
instance : TLeaf Tryd.prog 126 [.i .u32, .i .u32, .i .u32, .i .u32, .i .u32, .i .u32, .i .u32, .i .u32] := ⟨by kernel_rfl, by kernel_rfl, by kernel_rfl⟩
instance : TInfo Tryd.prog 126 8 32 [.int .u32 0, .int .u32 0, .int .u32 0, .int .u32 0, .int .u32 0, .int .u32 0, .int .u32 0, .int .u32 0] := ⟨by kernel_rfl⟩
instance : TSc Tryd.prog 127 := ⟨by kernel_rfl, by kernel_rfl⟩
instance : TInfo Tryd.prog 127 1 8 [.nilFunc] := ⟨by kernel_rfl⟩
instance : TFld Tryd.prog 128 0 0 126 8 := ⟨by kernel_rfl, by decide⟩
instance : TFld Tryd.prog 128 1 8 64 1 := ⟨by kernel_rfl, by decide⟩
instance : TFld Tryd.prog 128 2 9 3 1 := ⟨by kernel_rfl, by decide⟩
instance : TBuild Tryd.prog 128 [(0, 8), (8, 1), (9, 1)] := ⟨by kernel_rfl⟩
instance : TAg Tryd.prog 128 10 := ⟨by kernel_rfl, by kernel_rfl⟩
instance : TInfo Tryd.prog 128 10 64 [.int .u32 0, .int .u32 0, .int .u32 0, .int .u32 0, .int .u32 0, .int .u32 0, .int .u32 0, .int .u32 0, .slice none 0 0, .int .i64 0] := ⟨by kernel_rfl⟩
instance : TFld Tryd.prog 129 0 0 126 8 := ⟨by kernel_rfl, by decide⟩
instance : TFld Tryd.prog 129 1 8 64 1 := ⟨by kernel_rfl, by decide⟩
instance : TFld Tryd.prog 129 2 9 3 1 := ⟨by kernel_rfl, by decide⟩
instance : TBuild Tryd.prog 129 [(0, 8), (8, 1), (9, 1)] := ⟨by kernel_rfl⟩
instance : TAg Tryd.prog 129 10 := ⟨by kernel_rfl, by kernel_rfl⟩
instance : TInfo Tryd.prog 129 10 64 [.int .u32 0, .int .u32 0, .int .u32 0, .int .u32 0, .int .u32 0, .int .u32 0, .int .u32 0, .int .u32 0, .slice none 0 0, .int .i64 0] := ⟨by kernel_rfl⟩
instance : TSc Tryd.prog 130 := ⟨by kernel_rfl, by kernel_rfl⟩
instance : TSc Tryd.prog 131 := ⟨by kernel_rfl, by kernel_rfl⟩
instance : TInfo Tryd.prog 131 1 8 [.nilFunc] := ⟨by kernel_rfl⟩
instance : TSc Tryd.prog 132 := ⟨by kernel_rfl, by kernel_rfl⟩
instance : TInfo Tryd.prog 132 1 8 [.nilFunc] := ⟨by kernel_rfl⟩
instance : TSc Tryd.prog 133 := ⟨by kernel_rfl, by kernel_rfl⟩
instance : TInfo Tryd.prog 133 1 8 [.nilFunc] := ⟨by kernel_rfl⟩
instance : TArr Tryd.prog 134 64 5 := ⟨by kernel_rfl⟩
instance : TAg Tryd.prog 134 64 := ⟨by kernel_rfl, by kernel_rfl⟩
instance : TLeaf Tryd.prog 134 [.i .u8, .i .u8, .i .u8, .i .u8, .i .u8, .i .u8, .i .u8, .i .u8, .i .u8, .i .u8, .i .u8, .i .u8, .i .u8, .i .u8, .i .u8, .i .u8, .i .u8, .i .u8, .i .u8, .i .u8, .i .u8, .i .u8, .i .u8, .i .u8, .i .u8, .i .u8, .i .u8, .i .u8, .i .u8, .i .u8, .i .u8, .i .u8, .i .u8, .i .u8, .i .u8, .i .u8, .i .u8, .i .u8, .i .u8, .i .u8, .i .u8, .i .u8, .i .u8, .i .u8, .i .u8, .i .u8, .i .u8, .i .u8, .i .u8, .i .u8, .i .u8, .i .u8, .i .u8, .i .u8, .i .u8, .i .u8, .i .u8, .i .u8, .i .u8, .i .u8, .i .u8, .i .u8, .i .u8, .i .u8] := ⟨by kernel_rfl, by kernel_rfl, by kernel_rfl⟩
instance : TInfo Tryd.prog 134 64 64 [.int .u8 0, .int .u8 0, .int .u8 0, .int .u8 0, .int .u8 0, .int .u8 0, .int .u8 0, .int .u8 0, .int .u8 0, .int .u8 0, .int .u8 0, .int .u8 0, .int .u8 0, .int .u8 0, .int .u8 0, .int .u8 0, .int .u8 0, .int .u8 0, .int .u8 0, .int .u8 0, .int .u8 0, .int .u8 0, .int .u8 0, .int .u8 0, .int .u8 0, .int .u8 0, .int .u8 0, .int .u8 0, .int .u8 0, .int .u8 0, .int .u8 0, .int .u8 0, .int .u8 0, .int .u8 0, .int .u8 0, .int .u8 0, .int .u8 0, .int .u8 0, .int .u8 0, .int .u8 0, .int .u8 0, .int .u8 0, .int .u8 0, .int .u8 0, .int .u8 0, .int .u8 0, .int .u8 0, .int .u8 0, .int .u8 0, .int .u8 0, .int .u8 0, .int .u8 0, .int .u8 0, .int .u8 0, .int .u8 0, .int .u8 0, .int .u8 0, .int .u8 0, .int .u8 0, .int .u8 0, .int .u8 0, .int .u8 0, .int .u8 0, .int .u8 0] := ⟨by kernel_rfl⟩
instance : TSc Tryd.prog 135 := ⟨by kernel_rfl, by kernel_rfl⟩
instance : TInfo Tryd.prog 135 1 8 [.nilFunc] := ⟨by kernel_rfl⟩
instance : TSc Tryd.prog 136 := ⟨by kernel_rfl, by kernel_rfl⟩
instance : TInfo Tryd.prog 136 1 8 [.pointer none] := ⟨by kernel_rfl⟩
instance : TSc Tryd.prog 137 := ⟨by kernel_rfl, by kernel_rfl⟩
instance : TInfo Tryd.prog 137 1 8 [.nilFunc] := ⟨by kernel_rfl⟩
instance : TSc Tryd.prog 138 := ⟨by kernel_rfl, by kernel_rfl⟩
instance : TInfo Tryd.prog 138 1 8 [.nilFunc] := ⟨by kernel_rfl⟩
instance : TArr Tryd.prog 139 32 5 := ⟨by kernel_rfl⟩
instance : TAg Tryd.prog 139 32 := ⟨by kernel_rfl, by kernel_rfl⟩
instance : TLeaf Tryd.prog 139 [.i .u8, .i .u8, .i .u8, .i .u8, .i .u8, .i .u8, .i .u8, .i .u8, .i .u8, .i .u8, .i .u8, .i .u8, .i .u8, .i .u8, .i .u8, .i .u8, .i .u8, .i .u8, .i .u8, .i .u8, .i .u8, .i .u8, .i .u8, .i .u8, .i .u8, .i .u8, .i .u8, .i .u8, .i .u8, .i .u8, .i .u8, .i .u8] := ⟨by kernel_rfl, by kernel_rfl, by kernel_rfl⟩
instance : TInfo Tryd.prog 139 32 32 [.int .u8 0, .int .u8 0, .int .u8 0, .int .u8 0, .int .u8 0, .int .u8 0, .int .u8 0, .int .u8 0, .int .u8 0, .int .u8 0, .int .u8 0, .int .u8 0, .int .u8 0, .int .u8 0, .int .u8 0, .int .u8 0, .int .u8 0, .int .u8 0, .int .u8 0, .int .u8 0, .int .u8 0, .int .u8 0, .int .u8 0, .int .u8 0, .int .u8 0, .int .u8 0, .int .u8 0, .int .u8 0, .int .u8 0, .int .u8 0, .int .u8 0, .int .u8 0] := ⟨by kernel_rfl⟩
instance : TArr Tryd.prog 140 16 119 := ⟨by kernel_rfl⟩
instance : TAg Tryd.prog 140 16 := ⟨by kernel_rfl, by kernel_rfl⟩
instance : TLeaf Tryd.prog 140 [.i .u32, .i .u32, .i .u32, .i .u32, .i .u32, .i .u32, .i .u32, .i .u32, .i .u32, .i .u32, .i .u32, .i .u32, .i .u32, .i .u32, .i .u32, .i .u32] := ⟨by kernel_rfl, by kernel_rfl, by kernel_rfl⟩
instance : TInfo Tryd.prog 140 16 64 [.int .u32 0, .int .u32 0, .int .u32 0, .int .u32 0, .int .u32 0, .int .u32 0, .int .u32 0, .int .u32 0, .int .u32 0, .int .u32 0, .int .u32 0, .int .u32 0, .int .u32 0, .int .u32 0, .int .u32 0, .int .u32 0] := ⟨by kernel_rfl⟩
instance : TSc Tryd.prog 141 := ⟨by kernel_rfl, by kernel_rfl⟩
instance : TInfo Tryd.prog 141 1 8 [.nilFunc] := ⟨by kernel_rfl⟩
instance : TSc Tryd.prog 142 := ⟨by kernel_rfl, by kernel_rfl⟩
instance : TInfo Tryd.prog 142 1 8 [.nilFunc] := ⟨by kernel_rfl⟩
instance : TArr Tryd.prog 143 64 119 := ⟨by kernel_rfl⟩
instance : TAg Tryd.prog 143 64 := ⟨by kernel_rfl, by kernel_rfl⟩
instance : TLeaf Tryd.prog 143 [.i .u32, .i .u32, .i .u32, .i .u32, .i .u32, .i .u32, .i .u32, .i .u32, .i .u32, .i .u32, .i .u32, .i .u32, .i .u32, .i .u32, .i .u32, .i .u32, .i .u32, .i .u32, .i .u32, .i .u32, .i .u32, .i .u32, .i .u32, .i .u32, .i .u32, .i .u32, .i .u32, .i .u32, .i .u32, .i .u32, .i .u32, .i .u32, .i .u32, .i .u32, .i .u32, .i .u32, .i .u32, .i .u32, .i .u32, .i .u32, .i .u32, .i .u32, .i .u32, .i .u32, .i .u32, .i .u32, .i .u32, .i .u32, .i .u32, .i .u32, .i .u32, .i .u32, .i .u32, .i .u32, .i .u32, .i .u32, .i .u32, .i .u32, .i .u32, .i .u32, .i .u32, .i .u32, .i .u32, .i .u32] := ⟨by kernel_rfl, by kernel_rfl, by kernel_rfl⟩
instance : TInfo Tryd.prog 143 64 256 [.int .u32 0, .int .u32 0, .int .u32 0, .int .u32 0, .int .u32 0, .int .u32 0, .int .u32 0, .int .u32 0, .int .u32 0, .int .u32 0, .int .u32 0, .int .u32 0, .int .u32 0, .int .u32 0, .int .u32 0, .int .u32 0, .int .u32 0, .int .u32 0, .int .u32 0, .int .u32 0, .int .u32 0, .int .u32 0, .int .u32 0, .int .u32 0, .int .u32 0, .int .u32 0, .int .u32 0, .int .u32 0, .int .u32 0, .int .u32 0, .int .u32 0, .int .u32 0, .int .u32 0, .int .u32 0, .int .u32 0, .int .u32 0, .int .u32 0, .int .u32 0, .int .u32 0, .int .u32 0, .int .u32 0, .int .u32 0, .int .u32 0, .int .u32 0, .int .u32 0, .int .u32 0, .int .u32 0, .int .u32 0, .int .u32 0, .int .u32 0, .int .u32 0, .int .u32 0, .int .u32 0, .int .u32 0, .int .u32 0, .int .u32 0, .int .u32 0, .int .u32 0, .int .u32 0, .int .u32 0, .int .u32 0, .int .u32 0, .int .u32 0, .int .u32 0] := ⟨by kernel_rfl⟩
instance : TSc Tryd.prog 144 := ⟨by kernel_rfl, by kernel_rfl⟩
instance : TInfo Tryd.prog 144 1 8 [.nilFunc] := ⟨by kernel_rfl⟩
instance : TSc Tryd.prog 145 := ⟨by kernel_rfl, by kernel_rfl⟩
instance : TInfo Tryd.prog 145 1 8 [.nilFunc] := ⟨by kernel_rfl⟩
instance : TFld Tryd.prog 146 0 0 17 1 := ⟨by kernel_rfl, by decide⟩
instance : TFld Tryd.prog 146 1 1 17 1 := ⟨by kernel_rfl, by decide⟩
instance : TFld Tryd.prog 146 2 2 17 1 := ⟨by kernel_rfl, by decide⟩
instance : TFld Tryd.prog 146 3 3 9 1 := ⟨by kernel_rfl, by decide⟩
instance : TBuild Tryd.prog 146 [(0, 1), (1, 1), (2, 1), (3, 1)] := ⟨by kernel_rfl⟩
instance : TAg Tryd.prog 146 4 := ⟨by kernel_rfl, by kernel_rfl⟩
instance : TInfo Tryd.prog 146 4 40 [.pointer none, .pointer none, .pointer none, .string ⟨#[]⟩] := ⟨by kernel_rfl⟩
instance : TFld Tryd.prog 147 0 0 17 1 := ⟨by kernel_rfl, by decide⟩
instance : TFld Tryd.prog 147 1 1 17 1 := ⟨by kernel_rfl, by decide⟩
instance : TFld Tryd.prog 147 2 2 17 1 := ⟨by kernel_rfl, by decide⟩
instance : TFld Tryd.prog 147 3 3 9 1 := ⟨by kernel_rfl, by decide⟩
instance : TBuild Tryd.prog 147 [(0, 1), (1, 1), (2, 1), (3, 1)] := ⟨by kernel_rfl⟩
instance : TAg Tryd.prog 147 4 := ⟨by kernel_rfl, by kernel_rfl⟩
instance : TInfo Tryd.prog 147 4 40 [.pointer none, .pointer none, .pointer none, .string ⟨#[]⟩] := ⟨by kernel_rfl⟩
instance : TArr Tryd.prog 148 0 16 := ⟨by kernel_rfl⟩
instance : TBuild Tryd.prog 149 [(0, 0)] := ⟨by kernel_rfl⟩
instance : TBuild Tryd.prog 150 [(0, 0)] := ⟨by kernel_rfl⟩
instance : TInt Tryd.prog 151 .u8 := ⟨by kernel_rfl⟩
instance : TSc Tryd.prog 151 := ⟨by kernel_rfl, by kernel_rfl⟩
instance : TInfo Tryd.prog 151 1 1 [.int .u8 0] := ⟨by kernel_rfl⟩
instance : TInt Tryd.prog 152 .u8 := ⟨by kernel_rfl⟩
instance : TSc Tryd.prog 152 := ⟨by kernel_rfl, by kernel_rfl⟩
instance : TInfo Tryd.prog 152 1 1 [.int .u8 0] := ⟨by kernel_rfl⟩
instance : TSc Tryd.prog 153 := ⟨by kernel_rfl, by kernel_rfl⟩
instance : TInfo Tryd.prog 153 1 8 [.nilFunc] := ⟨by kernel_rfl⟩
instance : TInt Tryd.prog 154 .i32 := ⟨by kernel_rfl⟩
instance : TSc Tryd.prog 154 := ⟨by kernel_rfl, by kernel_rfl⟩
instance : TInfo Tryd.prog 154 1 4 [.int .i32 0] := ⟨by kernel_rfl⟩
instance : TInt Tryd.prog 155 .i32 := ⟨by kernel_rfl⟩
instance : TSc Tryd.prog 155 := ⟨by kernel_rfl, by kernel_rfl⟩
instance : TInfo Tryd.prog 155 1 4 [.int .i32 0] := ⟨by kernel_rfl⟩
instance : TFld Tryd.prog 156 0 0 12 1 := ⟨by kernel_rfl, by decide⟩
instance : TFld Tryd.prog 156 1 1 12 1 := ⟨by kernel_rfl, by decide⟩
instance : TFld Tryd.prog 156 2 2 119 1 := ⟨by kernel_rfl, by decide⟩
instance : TFld Tryd.prog 156 3 3 151 1 := ⟨by kernel_rfl, by decide⟩
instance : TFld Tryd.prog 156 4 4 5 1 := ⟨by kernel_rfl, by decide⟩
instance : TFld Tryd.prog 156 5 5 5 1 := ⟨by kernel_rfl, by decide⟩
instance : TFld Tryd.prog 156 6 6 152 1 := ⟨by kernel_rfl, by decide⟩
instance : TFld Tryd.prog 156 7 7 153 1 := ⟨by kernel_rfl, by decide⟩
instance : TFld Tryd.prog 156 8 8 125 1 := ⟨by kernel_rfl, by decide⟩
instance : TFld Tryd.prog 156 9 9 154 1 := ⟨by kernel_rfl, by decide⟩
instance : TFld Tryd.prog 156 10 10 155 1 := ⟨by kernel_rfl, by decide⟩
instance : TBuild Tryd.prog 156 [(0, 1), (1, 1), (2, 1), (3, 1), (4, 1), (5, 1), (6, 1), (7, 1), (8, 1), (9, 1), (10, 1)] := ⟨by kernel_rfl⟩
instance : TAg Tryd.prog 156 11 := ⟨by kernel_rfl, by kernel_rfl⟩
instance : TInfo Tryd.prog 156 11 48 [.int .u64 0, .int .u64 0, .int .u32 0, .int .u8 0, .int .u8 0, .int .u8 0, .int .u8 0, .nilFunc, .pointer none, .int .i32 0, .int .i32 0] := ⟨by kernel_rfl⟩
instance : TFld Tryd.prog 157 0 0 12 1 := ⟨by kernel_rfl, by decide⟩
instance : TFld Tryd.prog 157 1 1 12 1 := ⟨by kernel_rfl, by decide⟩
instance : TFld Tryd.prog 157 2 2 119 1 := ⟨by kernel_rfl, by decide⟩
instance : TFld Tryd.prog 157 3 3 151 1 := ⟨by kernel_rfl, by decide⟩
instance : TFld Tryd.prog 157 4 4 5 1 := ⟨by kernel_rfl, by decide⟩
instance : TFld Tryd.prog 157 5 5 5 1 := ⟨by kernel_rfl, by decide⟩
instance : TFld Tryd.prog 157 6 6 152 1 := ⟨by kernel_rfl, by decide⟩
instance : TFld Tryd.prog 157 7 7 153 1 := ⟨by kernel_rfl, by decide⟩
instance : TFld Tryd.prog 157 8 8 125 1 := ⟨by kernel_rfl, by decide⟩
instance : TFld Tryd.prog 157 9 9 154 1 := ⟨by kernel_rfl, by decide⟩
instance : TFld Tryd.prog 157 10 10 155 1 := ⟨by kernel_rfl, by decide⟩
instance : TBuild Tryd.prog 157 [(0, 1), (1, 1), (2, 1), (3, 1), (4, 1), (5, 1), (6, 1), (7, 1), (8, 1), (9, 1), (10, 1)] := ⟨by kernel_rfl⟩
instance : TAg Tryd.prog 157 11 := ⟨by kernel_rfl, by kernel_rfl⟩
instance : TInfo Tryd.prog 157 11 48 [.int .u64 0, .int .u64 0, .int .u32 0, .int .u8 0, .int .u8 0, .int .u8 0, .int .u8 0, .nilFunc, .pointer none, .int .i32 0, .int .i32 0] := ⟨by kernel_rfl⟩
instance : TFunc Tryd.prog 2 := ⟨by kernel_rfl⟩
instance : TFunc Tryd.prog 3 := ⟨by kernel_rfl⟩
instance : TFunc Tryd.prog 4 := ⟨by kernel_rfl⟩
instance : TFunc Tryd.prog 5 := ⟨by kernel_rfl⟩
instance : TFunc Tryd.prog 6 := ⟨by kernel_rfl⟩
instance : TFunc Tryd.prog 7 := ⟨by kernel_rfl⟩
instance : TFunc Tryd.prog 8 := ⟨by kernel_rfl⟩
instance : TFunc Tryd.prog 9 := ⟨by kernel_rfl⟩
instance : TFunc Tryd.prog 10 := ⟨by kernel_rfl⟩
instance : TFunc Tryd.prog 11 := ⟨by kernel_rfl⟩
instance : TFunc Tryd.prog 12 := ⟨by kernel_rfl⟩
instance : TFunc Tryd.prog 13 := ⟨by kernel_rfl⟩
instance : TFunc Tryd.prog 14 := ⟨by kernel_rfl⟩
instance : TFunc Tryd.prog 15 := ⟨by kernel_rfl⟩
instance : TFunc Tryd.prog 16 := ⟨by kernel_rfl⟩
instance : TFunc Tryd.prog 17 := ⟨by kernel_rfl⟩
instance : TFunc Tryd.prog 18 := ⟨by kernel_rfl⟩
instance : TFunc Tryd.prog 19 := ⟨by kernel_rfl⟩
instance : TFunc Tryd.prog 20 := ⟨by kernel_rfl⟩
instance : TFunc Tryd.prog 21 := ⟨by kernel_rfl⟩
instance : TFunc Tryd.prog 22 := ⟨by kernel_rfl⟩
instance : TFunc Tryd.prog 23 := ⟨by kernel_rfl⟩
instance : TFunc Tryd.prog 24 := ⟨by kernel_rfl⟩
instance : TFunc Tryd.prog 25 := ⟨by kernel_rfl⟩
instance : TFunc Tryd.prog 26 := ⟨by kernel_rfl⟩
instance : TFunc Tryd.prog 27 := ⟨by kernel_rfl⟩
instance : TFunc Tryd.prog 28 := ⟨by kernel_rfl⟩
instance : TFunc Tryd.prog 29 := ⟨by kernel_rfl⟩
instance : TFunc Tryd.prog 30 := ⟨by kernel_rfl⟩
instance : TFunc Tryd.prog 31 := ⟨by kernel_rfl⟩
instance : TFunc Tryd.prog 32 := ⟨by kernel_rfl⟩
instance : TFunc Tryd.prog 33 := ⟨by kernel_rfl⟩
instance : TFunc Tryd.prog 34 := ⟨by kernel_rfl⟩
instance : TFunc Tryd.prog 35 := ⟨by kernel_rfl⟩
instance : TFunc Tryd.prog 36 := ⟨by kernel_rfl⟩
instance : TFunc Tryd.prog 37 := ⟨by kernel_rfl⟩
instance : TFunc Tryd.prog 38 := ⟨by kernel_rfl⟩
instance : TFunc Tryd.prog 39 := ⟨by kernel_rfl⟩
instance : TFunc Tryd.prog 40 := ⟨by kernel_rfl⟩
instance : TFunc Tryd.prog 41 := ⟨by kernel_rfl⟩
instance : TFunc Tryd.prog 42 := ⟨by kernel_rfl⟩
instance : TFunc Tryd.prog 43 := ⟨by kernel_rfl⟩
instance : TFunc Tryd.prog 44 := ⟨by kernel_rfl⟩
instance : TFunc Tryd.prog 45 := ⟨by kernel_rfl⟩
instance : TFunc Tryd.prog 46 := ⟨by kernel_rfl⟩
instance : TFunc Tryd.prog 47 := ⟨by kernel_rfl⟩
instance : TFunc Tryd.prog 48 := ⟨by kernel_rfl⟩
instance : TFunc Tryd.prog 49 := ⟨by kernel_rfl⟩
instance : TFunc Tryd.prog 50 := ⟨by kernel_rfl⟩
instance : TFunc Tryd.prog 51 := ⟨by kernel_rfl⟩
instance : TFunc Tryd.prog 52 := ⟨by kernel_rfl⟩
instance : TFunc Tryd.prog 53 := ⟨by kernel_rfl⟩
instance : TFunc Tryd.prog 54 := ⟨by kernel_rfl⟩
instance : TFunc Tryd.prog 55 := ⟨by kernel_rfl⟩
instance : TFunc Tryd.prog 56 := ⟨by kernel_rfl⟩
instance : TFunc Tryd.prog 57 := ⟨by kernel_rfl⟩
instance : TFunc Tryd.prog 58 := ⟨by kernel_rfl⟩
instance : TFunc Tryd.prog 59 := ⟨by kernel_rfl⟩
instance : TFunc Tryd.prog 60 := ⟨by kernel_rfl⟩
instance : TFunc Tryd.prog 61 := ⟨by kernel_rfl⟩
instance : TFunc Tryd.prog 62 := ⟨by kernel_rfl⟩
instance : TFunc Tryd.prog 63 := ⟨by kernel_rfl⟩
instance : TFunc Tryd.prog 64 := ⟨by kernel_rfl⟩
instance : TFunc Tryd.prog 65 := ⟨by kernel_rfl⟩
instance : TFunc Tryd.prog 66 := ⟨by kernel_rfl⟩
instance : TFunc Tryd.prog 67 := ⟨by kernel_rfl⟩
instance : TFunc Tryd.prog 68 := ⟨by kernel_rfl⟩
instance : TFunc Tryd.prog 69 := ⟨by kernel_rfl⟩
instance : TFunc Tryd.prog 70 := ⟨by kernel_rfl⟩
instance : TFunc Tryd.prog 71 := ⟨by kernel_rfl⟩
instance : TFunc Tryd.prog 72 := ⟨by kernel_rfl⟩
instance : TFunc Tryd.prog 73 := ⟨by kernel_rfl⟩
instance : TFunc Tryd.prog 74 := ⟨by kernel_rfl⟩
instance : TFunc Tryd.prog 75 := ⟨by kernel_rfl⟩
instance : TFunc Tryd.prog 76 := ⟨by kernel_rfl⟩
instance : TFunc Tryd.prog 77 := ⟨by kernel_rfl⟩
instance : TFunc Tryd.prog 78 := ⟨by kernel_rfl⟩
instance : TFunc Tryd.prog 79 := ⟨by kernel_rfl⟩
instance : TFunc Tryd.prog 80 := ⟨by kernel_rfl⟩
instance : TFunc Tryd.prog 81 := ⟨by kernel_rfl⟩
instance : TFunc Tryd.prog 82 := ⟨by kernel_rfl⟩
instance : TFunc Tryd.prog 83 := ⟨by kernel_rfl⟩
instance : TFunc Tryd.prog 84 := ⟨by kernel_rfl⟩
instance : TFunc Tryd.prog 85 := ⟨by kernel_rfl⟩
instance : TFunc Tryd.prog 86 := ⟨by kernel_rfl⟩
instance : TFunc Tryd.prog 87 := ⟨by kernel_rfl⟩
instance : TFunc Tryd.prog 88 := ⟨by kernel_rfl⟩
instance : TFunc Tryd.prog 89 := ⟨by kernel_rfl⟩
instance : TFunc Tryd.prog 90 := ⟨by kernel_rfl⟩
instance : TFunc Tryd.prog 91 := ⟨by kernel_rfl⟩
instance : TFunc Tryd.prog 92 := ⟨by kernel_rfl⟩
instance : TFunc Tryd.prog 93 := ⟨by kernel_rfl⟩
instance : TFunc Tryd.prog 94 := ⟨by kernel_rfl⟩
instance : TFunc Tryd.prog 95 := ⟨by kernel_rfl⟩
instance : TFunc Tryd.prog 96 := ⟨by kernel_rfl⟩
instance : TFunc Tryd.prog 97 := ⟨by kernel_rfl⟩
instance : TFunc Tryd.prog 98 := ⟨by kernel_rfl⟩
instance : TFunc Tryd.prog 99 := ⟨by kernel_rfl⟩
instance : TFunc Tryd.prog 100 := ⟨by kernel_rfl⟩
instance : TFunc Tryd.prog 101 := ⟨by kernel_rfl⟩
instance : TFunc Tryd.prog 102 := ⟨by kernel_rfl⟩
instance : TFunc Tryd.prog 103 := ⟨by kernel_rfl⟩
instance : TFunc Tryd.prog 104 := ⟨by kernel_rfl⟩
instance : TFunc Tryd.prog 105 := ⟨by kernel_rfl⟩
instance : TFunc Tryd.prog 106 := ⟨by kernel_rfl⟩
instance : TFunc Tryd.prog 107 := ⟨by kernel_rfl⟩
instance : TFunc Tryd.prog 108 := ⟨by kernel_rfl⟩
instance : TFunc Tryd.prog 109 := ⟨by kernel_rfl⟩
instance : TFunc Tryd.prog 110 := ⟨by kernel_rfl⟩
instance : TFunc Tryd.prog 111 := ⟨by kernel_rfl⟩
instance : TFunc Tryd.prog 112 := ⟨by kernel_rfl⟩
instance : TFunc Tryd.prog 113 := ⟨by kernel_rfl⟩
instance : TFunc Tryd.prog 114 := ⟨by kernel_rfl⟩
instance : TFunc Tryd.prog 115 := ⟨by kernel_rfl⟩
instance : TFunc Tryd.prog 116 := ⟨by kernel_rfl⟩
instance : TFunc Tryd.prog 117 := ⟨by kernel_rfl⟩
instance : TFunc Tryd.prog 118 := ⟨by kernel_rfl⟩
instance : TFunc Tryd.prog 119 := ⟨by kernel_rfl⟩
instance : TFunc Tryd.prog 120 := ⟨by kernel_rfl⟩
instance : TFunc Tryd.prog 121 := ⟨by kernel_rfl⟩
instance : TFunc Tryd.prog 122 := ⟨by kernel_rfl⟩
instance : TFunc Tryd.prog 123 := ⟨by kernel_rfl⟩
instance : TFunc Tryd.prog 124 := ⟨by kernel_rfl⟩
instance : TFunc Tryd.prog 125 := ⟨by kernel_rfl⟩
instance : TFunc Tryd.prog 128 := ⟨by kernel_rfl⟩
instance : TFunc Tryd.prog 129 := ⟨by kernel_rfl⟩
instance : TFunc Tryd.prog 130 := ⟨by kernel_rfl⟩
instance : TFunc Tryd.prog 131 := ⟨by kernel_rfl⟩
instance : TFunc Tryd.prog 132 := ⟨by kernel_rfl⟩
instance : TFunc Tryd.prog 154 := ⟨by kernel_rfl⟩
def shaK : List Nat := [1116352408, 1899447441, 3049323471, 3921009573, 961987163, 1508970993, 2453635748, 2870763221, 3624381080, 310598401, 607225278, 1426881987, 1925078388, 2162078206, 2614888103, 3248222580, 3835390401, 4022224774, 264347078, 604807628, 770255983, 1249150122, 1555081692, 1996064986, 2554220882, 2821834349, 2952996808, 3210313671, 3336571891, 3584528711, 113926993, 338241895, 666307205, 773529912, 1294757372, 1396182291, 1695183700, 1986661051, 2177026350, 2456956037, 2730485921, 2820302411, 3259730800, 3345764771, 3516065817, 3600352804, 4094571909, 275423344, 430227734, 506948616, 659060556, 883997877, 958139571, 1322822218, 1537002063, 1747873779, 1955562222, 2024104815, 2227730452, 2361852424, 2428436474, 2756734187, 3204031479, 3329325298]
instance globs : Gl Tryd.prog := ⟨[(1, shaK.map fun (n : Nat) => Value.int .u32 (n : Int))]⟩
theorem follows : Tryd.prog.follows .mixedOrders = true := by kernel_rfl
end Go.Proofs.YtmlncbdfbodjoaaDoor
namespace Go.Proofs.YtmlncbdfbodjoaaDoor
open Go Go.Sse
set_option linter.unusedVariables false
set_option linter.unusedSimpArgs false
def be (n : Nat) : List UInt8 := if h : n = 0 then [] else be (n / 256) ++ [UInt8.ofNat (n % 256)]
termination_by n
decreasing_by omega
theorem be_zero : be 0 = [] := by rw [be, dif_pos rfl]
theorem be_pos {n : Nat} (h : 0 < n) : be n = be (n / 256) ++ [UInt8.ofNat (n % 256)] := by rw [be, dif_neg (by omega)]
theorem be_len : ∀ (k n : Nat), n < 256 ^ k → (be n).length ≤ k
  | 0, n, h => by have : n = 0 := by simpa using h
                  subst this; rw [be_zero]; simp
  | k + 1, n, h => by
    by_cases h0 : n = 0
    · subst h0; rw [be_zero]; simp
    · rw [be_pos (by omega), List.length_append]
      have : n / 256 < 256 ^ k := by rw [Nat.div_lt_iff_lt_mul (by omega), ← Nat.pow_succ]; exact h
      have := be_len k (n / 256) this
      simp only [List.length_cons, List.length_nil]; omega
theorem be_len8 {n : Nat} (h : n < 18446744073709551616) : (be n).length ≤ 8 := be_len 8 n (by simpa using h)
def numB (n : Nat) : List UInt8 := UInt8.ofNat (be n).length :: be n
theorem numB_len {n : Nat} (h : n < 18446744073709551616) : 1 ≤ (numB n).length ∧ (numB n).length ≤ 9 := by
  have := be_len8 h
  simp only [numB, List.length_cons]; omega
def textB (s : List UInt8) : List UInt8 := numB s.length ++ s
def flagB (b : Bool) : List UInt8 := if b then [1] else [0]
end Go.Proofs.YtmlncbdfbodjoaaDoor
namespace Go.Proofs.YtmlncbdfbodjoaaDoor
open Go Go.Sse
set_option linter.unusedVariables false
set_option linter.unusedSimpArgs false
set_option maxRecDepth 10000
abbrev tU8 : Nat := 5
theorem ref0 {F : List (Nat × SV)} {i : Nat} {s : SV} (h : Sse.look F i = some s) : ∃ t, Sse.look F i = some t ∧ Sub t s := ⟨s, h, .refl _⟩
set_option maxHeartbeats 1000000 in
theorem num_ok (n : Nat) (hn : n < 9223372036854775808) : FnC Tryd.prog 84 [int (n : Int)] [] (fun s L => s = str (numB n) ∧ L = []) := by
  have h8 := be_len8 (n := n) (by omega)
  refine FnC.intro Tryd.func84 rfl Tryd.ntmps84 rfl fun Z w0 hG => ?_
  focus (
    (refine W.seq ?_)
    (refine W.region ?_)
    (refine Jx.assign rfl rfl ?_)
    (refine J.nil ?_)
    (refine N.seq ?_)
    (refine W.seq ?_)
    (refine W.region ?_)
    (refine J.alloc (by simp only [List.map_cons, List.map_nil]; rfl) rfl rfl ?_; intro b')
    (refine J.nil ?_)
    (refine N.seq ?_)
    (refine W.seq ?_)
    (refine W.region ?_)
    (refine Jx.assign rfl rfl ?_)
    (refine J.nil ?_)
    (refine N.seq ?_)
    (refine W.seq ?_)
    (refine W.block ?_)
    (refine id ?_; rotate_left))
  refine W.loop (α := Nat × Nat × List UInt8) (fun x => [(4, int x.1), (3, ptr b'), (0, int (x.2.1 : Int))]) (fun x => [.obj b' 118 (x.2.2.map byte)]) (fun x => x.1 ≤ 8 ∧ x.2.2.length = 8 ∧ x.2.1 ≤ n ∧ be n = be x.2.1 ++ x.2.2.drop x.1) (fun x => x.2.1) (8, n, List.replicate 8 0) ⟨by simp, rfl, by simp, by simp⟩ rfl ⟨ref0 rfl, ref0 rfl, ref0 rfl, trivial⟩ ?_
  rintro ⟨a, m, ws⟩ ⟨ha, hl, hm, hb⟩
  simp only at ha hl hm hb ⊢
  have hlen : (be n).length = (be m).length + (8 - a) := by rw [hb, List.length_append, List.length_drop, hl]
  by_cases h0 : 0 < m
  · have hbm := be_pos h0
    have hlm : 1 ≤ (be m).length := by rw [hbm, List.length_append]; simp
    have ha1 : 1 ≤ a := by omega
    focus (
    (refine W.seq ?_)
    (refine W.seq ?_)
    (refine W.region ?_)
    (refine Jx.move rfl rfl ?_)
    (refine Jx.gtrI rfl rfl rfl ?_)
    (refine J.nil ?_)
    (refine N.seq ?_)
    (refine W.condT rfl (by first | rfl | assumption | (exact decide_eq_true (by first | assumption | omega | rfl)) | (exact decide_eq_false (by first | assumption | omega | rfl)) | (simp; done) | (simp; omega)) ?_)
    (refine W.skip ?_)
    (refine N.seq ?_)
    (refine W.seq ?_)
    (refine W.block ?_)
    (refine W.seq ?_)
    (refine W.region ?_)
    (refine Jx.move rfl rfl ?_)
    (refine Jx.sub64 rfl rfl (by omega) rfl ?_)
    (refine Jx.assign rfl rfl ?_)
    (refine J.nil ?_)
    (refine N.seq ?_)
    (refine W.region ?_)
    (refine Jx.move rfl rfl ?_)
    (refine Jx.move rfl rfl ?_)
    (refine Jx.numByte m rfl rfl rfl rfl ?_)
    (refine Jx.index0 (a - 1) rfl rfl (by omega) (by omega) rfl ?_)
    (refine J.storeA byte (UInt8.ofNat m) rfl rfl (One.val rfl) 0 rfl (by omega) rfl ?_)
    (refine J.nil ?_)
    (refine N.seq ?_)
    (refine W.region ?_)
    (refine Jx.move rfl rfl ?_)
    (refine Jx.shrN (s := 8) rfl rfl rfl (by decide) rfl ?_)
    (refine Jx.assign rfl rfl ?_)
    (refine J.nil ?_)
    (refine id ?_; rotate_left))
    refine N.round (a - 1, m / 256, ws.set (a - 1) (UInt8.ofNat m)) ⟨by simp only; omega, by simp only [List.length_set]; exact hl, by simp only; omega, ?_⟩ (by simp only; omega) rfl ⟨⟨_, rfl, Sub.of_eq (by simp only; congr 2; omega)⟩, ref0 rfl, ⟨_, rfl, Sub.of_eq (by rfl)⟩, trivial⟩
    simp only
    rw [hb, hbm, List.append_assoc]
    congr 1
    have hlt : a - 1 < (ws.set (a - 1) (UInt8.ofNat m)).length := by rw [List.length_set]; omega
    rw [List.drop_eq_getElem_cons hlt, List.getElem_set_self, show a - 1 + 1 = a by omega, List.drop_set_of_lt (by omega)]
    rw [show UInt8.ofNat (m % 256) = UInt8.ofNat m by apply UInt8.toNat_inj.1; simp]
    rfl
  · have hm0 : m = 0 := by omega
    subst hm0
    rw [be_zero, List.nil_append] at hb
    rw [be_zero] at hlen
    simp only [List.length_nil, Nat.zero_add] at hlen
    have hnum : [UInt8.ofNat (8 - a)] ++ ws.drop a = numB n := by rw [← hb, ← hlen]; rfl
    have hcl : [UInt8.ofNat (8 - a)].length + (ws.drop a).length ≤ 9223372036854775807 := by rw [← hb]; simp only [List.length_cons, List.length_nil]; omega
    focus (
    (refine W.seq ?_)
    (refine W.seq ?_)
    (refine W.region ?_)
    (refine Jx.move rfl rfl ?_)
    (refine Jx.gtrI rfl rfl rfl ?_)
    (refine J.nil ?_)
    (refine N.seq ?_)
    (refine W.condF rfl (by first | rfl | assumption | (exact decide_eq_true (by first | assumption | omega | rfl)) | (exact decide_eq_false (by first | assumption | omega | rfl)) | (simp; done) | (simp; omega)) ?_)
    (refine W.exit ?_)
    (refine N.seq ?_)
    (refine W.seq ?_)
    (refine W.draw follows ?_)
    (refine JD.calm rfl (by decide +kernel) ?_)
    (refine Cx.move rfl rfl ?_)
    (refine Cx.sub64 rfl rfl (by omega) rfl ?_)
    (refine Cx.numByte (8 - a) rfl rfl (by omega) rfl ?_)
    (refine SegC.q (Qs.buildBytes [UInt8.ofNat (8 - a)] rfl rfl rfl (by decide) (by decide)) rfl ?_)
    (refine Cx.bytesStr rfl rfl ?_)
    (refine Cx.move rfl rfl ?_)
    (refine Cx.arrFrom a rfl rfl rfl ha rfl ?_)
    (refine Cx.arrStr ws rfl 0 rfl hl ha rfl ?_)
    (refine Cx.cat rfl rfl hcl rfl ?_)
    (refine Cx.assign rfl rfl ?_)
    (refine SegC.nil ?_)
    (refine N.seq ?_)
    (refine W.ret ?_)
    (refine id ?_; rotate_left))
    exact N.retD (rs := [.tmp 2]) (L1 := []) rfl (.tmp rfl .nil) (List.nil_sublist _) ⟨by rw [hnum]; rfl, rfl⟩
theorem text_ok (s : List UInt8) (hs : s.length < 4611686018427387904) : FnC Tryd.prog 46 [str s] [] (fun r L => r = str (textB s) ∧ L = []) := by
  have c := num_ok s.length (by omega)
  have h := numB_len (n := s.length) (by omega)
  refine FnC.intro Tryd.func46 rfl Tryd.ntmps46 rfl fun Z w0 hG => ?_
  focus (
    (refine W.seq ?_)
    (refine W.region ?_)
    (refine Jx.assign rfl rfl ?_)
    (refine J.nil ?_)
    (refine N.seq ?_)
    (refine W.seq ?_)
    (refine W.region ?_)
    (refine Jx.move rfl rfl ?_)
    (refine Jx.lenS rfl rfl ?_)
    (refine J.call (c) rfl (evs_args rfl) rfl ?_; rintro _ _ ⟨rfl, rfl⟩; simp only [List.cons_append, List.nil_append, List.append_nil])
    (refine Jx.move rfl rfl ?_)
    (refine Jx.cat rfl rfl (by omega) rfl ?_)
    (refine Jx.assign rfl rfl ?_)
    (refine J.nil ?_)
    (refine N.seq ?_)
    (refine W.ret ?_)
    (refine id ?_; rotate_left))
  exact N.ret (rs := [.tmp 2]) rfl (.tmp rfl .nil) ⟨rfl, rfl⟩
def numR (n : Int) : List UInt8 × Int := if n < 0 then ([], 1) else (numB n.toNat, 0)
theorem Num_ok (n : Int) (hn : n ≤ 9223372036854775807) : FnC Tryd.prog 45 [int n] [] (fun r L => r = .tup [str (numR n).1, int (numR n).2] ∧ L = []) := by
  refine FnC.intro Tryd.func45 rfl Tryd.ntmps45 rfl fun Z w0 hG => ?_
  by_cases h : n < 0
  · focus (
    (refine W.seq ?_)
    (refine W.region ?_)
    (refine Jx.assign rfl rfl ?_)
    (refine Jx.assign rfl rfl ?_)
    (refine J.nil ?_)
    (refine N.seq ?_)
    (refine W.seq ?_)
    (refine W.seq ?_)
    (refine W.region ?_)
    (refine Jx.move rfl rfl ?_)
    (refine Jx.lssI rfl rfl rfl ?_)
    (refine J.nil ?_)
    (refine N.seq ?_)
    (refine W.condT rfl (by first | rfl | assumption | (exact decide_eq_true (by first | assumption | omega | rfl)) | (exact decide_eq_false (by first | assumption | omega | rfl)) | (simp; done) | (simp; omega)) ?_)
    (refine W.seq ?_)
    (refine W.region ?_)
    (refine Jx.assign rfl rfl ?_)
    (refine Jx.assign rfl rfl ?_)
    (refine J.nil ?_)
    (refine N.seq ?_)
    (refine W.ret ?_)
    (refine N.seqRet ?_)
    (refine id ?_; rotate_left))
    refine N.ret (rs := [.tmp 2, .tmp 3]) rfl (.tmp rfl (.tmp rfl .nil)) ⟨?_, rfl⟩
    simp [numR, h, oneOr]
  · obtain ⟨m, rfl⟩ : ∃ m : Nat, n = m := ⟨n.toNat, by omega⟩
    have c := num_ok m (by omega)
    focus (
    (refine W.seq ?_)
    (refine W.region ?_)
    (refine Jx.assign rfl rfl ?_)
    (refine Jx.assign rfl rfl ?_)
    (refine J.nil ?_)
    (refine N.seq ?_)
    (refine W.seq ?_)
    (refine W.seq ?_)
    (refine W.region ?_)
    (refine Jx.move rfl rfl ?_)
    (refine Jx.lssI rfl rfl rfl ?_)
    (refine J.nil ?_)
    (refine N.seq ?_)
    (refine W.condF rfl (by first | rfl | assumption | (exact decide_eq_true (by first | assumption | omega | rfl)) | (exact decide_eq_false (by first | assumption | omega | rfl)) | (simp; done) | (simp; omega)) ?_)
    (refine W.skip ?_)
    (refine N.seq ?_)
    (refine W.seq ?_)
    (refine W.region ?_)
    (refine Jx.move rfl rfl ?_)
    (refine J.call (c) rfl (evs_args rfl) rfl ?_; rintro _ _ ⟨rfl, rfl⟩; simp only [List.cons_append, List.nil_append, List.append_nil])
    (refine Jx.assign rfl rfl ?_)
    (refine Jx.assign rfl rfl ?_)
    (refine J.nil ?_)
    (refine N.seq ?_)
    (refine W.ret ?_)
    (refine id ?_; rotate_left))
    refine N.ret (rs := [.tmp 2, .tmp 3]) rfl (.tmp rfl (.tmp rfl .nil)) ⟨?_, rfl⟩
    simp [numR, h, oneOr]
theorem flag_ok (b : Bool) : FnC Tryd.prog 65 [bool b] [] (fun r L => r = str (flagB b) ∧ L = []) := by
  refine FnC.intro Tryd.func65 rfl Tryd.ntmps65 rfl fun Z w0 hG => ?_
  cases b
  · focus (
    (refine W.seq ?_)
    (refine W.region ?_)
    (refine Jx.assign rfl rfl ?_)
    (refine J.nil ?_)
    (refine N.seq ?_)
    (refine W.seq ?_)
    (refine W.seq ?_)
    (refine W.region ?_)
    (refine Jx.move rfl rfl ?_)
    (refine J.nil ?_)
    (refine N.seq ?_)
    (refine W.condF rfl (by first | rfl | assumption | (exact decide_eq_true (by first | assumption | omega | rfl)) | (exact decide_eq_false (by first | assumption | omega | rfl)) | (simp; done) | (simp; omega)) ?_)
    (refine W.skip ?_)
    (refine N.seq ?_)
    (refine W.seq ?_)
    (refine W.region ?_)
    (refine Jx.assign rfl rfl ?_)
    (refine J.nil ?_)
    (refine N.seq ?_)
    (refine W.ret ?_)
    (refine id ?_; rotate_left))
    exact N.ret (rs := [.tmp 2]) rfl (.tmp rfl .nil) ⟨rfl, rfl⟩
  · focus (
    (refine W.seq ?_)
    (refine W.region ?_)
    (refine Jx.assign rfl rfl ?_)
    (refine J.nil ?_)
    (refine N.seq ?_)
    (refine W.seq ?_)
    (refine W.seq ?_)
    (refine W.region ?_)
    (refine Jx.move rfl rfl ?_)
    (refine J.nil ?_)
    (refine N.seq ?_)
    (refine W.condT rfl (by first | rfl | assumption | (exact decide_eq_true (by first | assumption | omega | rfl)) | (exact decide_eq_false (by first | assumption | omega | rfl)) | (simp; done) | (simp; omega)) ?_)
    (refine W.seq ?_)
    (refine W.region ?_)
    (refine Jx.assign rfl rfl ?_)
    (refine J.nil ?_)
    (refine N.seq ?_)
    (refine W.ret ?_)
    (refine N.seqRet ?_)
    (refine id ?_; rotate_left))
    exact N.ret (rs := [.tmp 2]) rfl (.tmp rfl .nil) ⟨rfl, rfl⟩
end Go.Proofs.YtmlncbdfbodjoaaDoor
namespace Go.Proofs.YtmlncbdfbodjoaaDoor
open Go Go.Sse
set_option linter.unusedVariables false
set_option linter.unusedSimpArgs false
set_option maxRecDepth 10000
def fewB (l : List (List UInt8)) (n e : Int) : Bool := decide ((l.length : Int) ≤ n) && l.all fun s => decide ((s.length : Int) ≤ e)
theorem few_ok (l : List (List UInt8)) (n e : Int) (hn : n ≤ 9223372036854775807) : FnC Tryd.prog 64 [ssl l, int n, int e] [] (fun s L => s = bool (fewB l n e) ∧ L = []) := by
  refine FnC.intro Tryd.func64 rfl Tryd.ntmps64 rfl fun Z w0 hG => ?_
  by_cases h0 : n < (l.length : Int)
  · focus (
    (refine W.seq ?_)
    (refine W.region ?_)
    (refine Jx.assign rfl rfl ?_)
    (refine J.nil ?_)
    (refine N.seq ?_)
    (refine W.seq ?_)
    (refine W.seq ?_)
    (refine W.region ?_)
    (refine Jx.move rfl rfl ?_)
    (refine Jx.lenSl rfl rfl ?_)
    (refine Jx.move rfl rfl ?_)
    (refine Jx.gtrI rfl rfl rfl ?_)
    (refine J.nil ?_)
    (refine N.seq ?_)
    (refine W.condT rfl (by first | rfl | assumption | (exact decide_eq_true (by first | assumption | omega | rfl)) | (exact decide_eq_false (by first | assumption | omega | rfl)) | (simp; done) | (simp; omega)) ?_)
    (refine W.seq ?_)
    (refine W.region ?_)
    (refine Jx.assign rfl rfl ?_)
    (refine J.nil ?_)
    (refine N.seq ?_)
    (refine W.ret ?_)
    (refine N.seqRet ?_)
    (refine id ?_; rotate_left))
    refine N.ret (rs := [.tmp 6]) rfl (.tmp rfl .nil) ⟨?_, rfl⟩
    simp [oneOr, fewB, show ¬ (l.length : Int) ≤ n by omega]
  · focus (
    (refine W.seq ?_)
    (refine W.region ?_)
    (refine Jx.assign rfl rfl ?_)
    (refine J.nil ?_)
    (refine N.seq ?_)
    (refine W.seq ?_)
    (refine W.seq ?_)
    (refine W.region ?_)
    (refine Jx.move rfl rfl ?_)
    (refine Jx.lenSl rfl rfl ?_)
    (refine Jx.move rfl rfl ?_)
    (refine Jx.gtrI rfl rfl rfl ?_)
    (refine J.nil ?_)
    (refine N.seq ?_)
    (refine W.condF rfl (by first | rfl | assumption | (exact decide_eq_true (by first | assumption | omega | rfl)) | (exact decide_eq_false (by first | assumption | omega | rfl)) | (simp; done) | (simp; omega)) ?_)
    (refine W.skip ?_)
    (refine N.seq ?_)
    (refine W.seq ?_)
    (refine W.seq ?_)
    (refine W.region ?_)
    (refine Jx.assign rfl rfl ?_)
    (refine J.nil ?_)
    (refine N.seq ?_)
    (refine W.block ?_)
    (refine id ?_; rotate_left))
    refine W.loop (α := Nat) (fun i => [(7, int i), (2, int e), (0, ssl l)]) (fun _ => []) (fun i => i ≤ l.length ∧ ∀ s ∈ l.take i, (s.length : Int) ≤ e) (fun i => l.length - i) 0 ⟨by omega, by simp⟩ rfl ⟨ref0 rfl, ref0 rfl, ref0 rfl, trivial⟩ ?_
    rintro i ⟨hi, hall⟩
    by_cases h1 : i < l.length
    · have hm : l.getD i [] ∈ l := by rw [List.getD_eq_getElem?_getD, List.getElem?_eq_getElem h1]; exact List.getElem_mem _
      have hts : ∀ s ∈ l.take (i + 1), s ∈ l.take i ∨ s = l.getD i [] := fun s hs => by
        rw [List.take_add_one, List.getElem?_eq_getElem h1] at hs
        rw [List.getD_eq_getElem?_getD, List.getElem?_eq_getElem h1]
        simp only [Option.toList_some, List.mem_append, List.mem_singleton] at hs
        exact hs
      by_cases h2 : e < ((l.getD i []).length : Int)
      · focus (
    (refine W.seq ?_)
    (refine W.seq ?_)
    (refine W.region ?_)
    (refine Jx.move rfl rfl ?_)
    (refine Jx.move rfl rfl ?_)
    (refine Jx.lenSl rfl rfl ?_)
    (refine Jx.lssI rfl rfl rfl ?_)
    (refine J.nil ?_)
    (refine N.seq ?_)
    (refine W.condT rfl (by first | rfl | assumption | (exact decide_eq_true (by first | assumption | omega | rfl)) | (exact decide_eq_false (by first | assumption | omega | rfl)) | (simp; done) | (simp; omega)) ?_)
    (refine W.skip ?_)
    (refine N.seq ?_)
    (refine W.seq ?_)
    (refine W.block ?_)
    (refine W.seq ?_)
    (refine W.region ?_)
    (refine Jx.move rfl rfl ?_)
    (refine Jx.move rfl rfl ?_)
    (refine Jx.indexEl rfl rfl (by assumption) rfl rfl ?_)
    (refine Jx.loadPP rfl rfl ?_)
    (refine Jx.lenS rfl rfl ?_)
    (refine Jx.move rfl rfl ?_)
    (refine Jx.gtrI rfl rfl rfl ?_)
    (refine J.nil ?_)
    (refine N.seq ?_)
    (refine W.condT rfl (by first | rfl | assumption | (exact decide_eq_true (by first | assumption | omega | rfl)) | (exact decide_eq_false (by first | assumption | omega | rfl)) | (simp; done) | (simp; omega)) ?_)
    (refine W.seq ?_)
    (refine W.region ?_)
    (refine Jx.assign rfl rfl ?_)
    (refine J.nil ?_)
    (refine N.seq ?_)
    (refine W.ret ?_)
    (refine N.blockRet ?_)
    (refine N.seqRet ?_)
    (refine N.seqRet ?_)
    (refine N.blockRet ?_)
    (refine N.seqRet ?_)
    (refine id ?_; rotate_left))
        refine N.ret (rs := [.tmp 6]) rfl (.tmp rfl .nil) ⟨?_, rfl⟩
        have : l.all (fun s => decide ((s.length : Int) ≤ e)) = false := by
          rw [List.all_eq_false]; exact ⟨_, hm, by simp only [decide_eq_true_eq]; omega⟩
        simp [oneOr, fewB, this]
      · focus (
    (refine W.seq ?_)
    (refine W.seq ?_)
    (refine W.region ?_)
    (refine Jx.move rfl rfl ?_)
    (refine Jx.move rfl rfl ?_)
    (refine Jx.lenSl rfl rfl ?_)
    (refine Jx.lssI rfl rfl rfl ?_)
    (refine J.nil ?_)
    (refine N.seq ?_)
    (refine W.condT rfl (by first | rfl | assumption | (exact decide_eq_true (by first | assumption | omega | rfl)) | (exact decide_eq_false (by first | assumption | omega | rfl)) | (simp; done) | (simp; omega)) ?_)
    (refine W.skip ?_)
    (refine N.seq ?_)
    (refine W.seq ?_)
    (refine W.block ?_)
    (refine W.seq ?_)
    (refine W.region ?_)
    (refine Jx.move rfl rfl ?_)
    (refine Jx.move rfl rfl ?_)
    (refine Jx.indexEl rfl rfl (by assumption) rfl rfl ?_)
    (refine Jx.loadPP rfl rfl ?_)
    (refine Jx.lenS rfl rfl ?_)
    (refine Jx.move rfl rfl ?_)
    (refine Jx.gtrI rfl rfl rfl ?_)
    (refine J.nil ?_)
    (refine N.seq ?_)
    (refine W.condF rfl (by first | rfl | assumption | (exact decide_eq_true (by first | assumption | omega | rfl)) | (exact decide_eq_false (by first | assumption | omega | rfl)) | (simp; done) | (simp; omega)) ?_)
    (refine W.skip ?_)
    (refine N.seq ?_)
    (refine W.region ?_)
    (refine Jx.move rfl rfl ?_)
    (refine Jx.add64 rfl rfl (by omega) rfl ?_)
    (refine Jx.assign rfl rfl ?_)
    (refine J.nil ?_)
    (refine id ?_; rotate_left))
        exact N.round (i + 1) ⟨h1, fun s hs => by rcases hts s hs with h | rfl; exact hall s h; omega⟩ (by omega) rfl ⟨ref0 rfl, ref0 rfl, ref0 rfl, trivial⟩
    · have hil : i = l.length := by omega
      focus (
    (refine W.seq ?_)
    (refine W.seq ?_)
    (refine W.region ?_)
    (refine Jx.move rfl rfl ?_)
    (refine Jx.move rfl rfl ?_)
    (refine Jx.lenSl rfl rfl ?_)
    (refine Jx.lssI rfl rfl rfl ?_)
    (refine J.nil ?_)
    (refine N.seq ?_)
    (refine W.condF rfl (by first | rfl | assumption | (exact decide_eq_true (by first | assumption | omega | rfl)) | (exact decide_eq_false (by first | assumption | omega | rfl)) | (simp; done) | (simp; omega)) ?_)
    (refine W.exit ?_)
    (refine N.seq ?_)
    (refine W.seq ?_)
    (refine W.region ?_)
    (refine Jx.assign rfl rfl ?_)
    (refine J.nil ?_)
    (refine N.seq ?_)
    (refine W.ret ?_)
    (refine id ?_; rotate_left))
      refine N.ret (rs := [.tmp 6]) rfl (.tmp rfl .nil) ⟨?_, rfl⟩
      rw [hil, List.take_length] at hall
      have : l.all (fun s => decide ((s.length : Int) ≤ e)) = true := List.all_eq_true.2 fun s hs => by simpa using hall s hs
      simp only [oneOr, fewB, this, Bool.and_true]
      rw [decide_eq_true (by omega)]
theorem few_spec {l : List (List UInt8)} {n e : Nat} (h : fewB l n e = true) : l.length ≤ n ∧ ∀ s ∈ l, s.length ≤ e := by
  unfold fewB at h
  simp only [Bool.and_eq_true, decide_eq_true_eq, List.all_eq_true] at h
  exact ⟨by omega, fun s hs => by have := h.2 s hs; omega⟩
end Go.Proofs.YtmlncbdfbodjoaaDoor
namespace Go.Proofs.YtmlncbdfbodjoaaDoor
open Go Go.Sse
set_option linter.unusedVariables false
set_option linter.unusedSimpArgs false
set_option maxRecDepth 10000
structure Rdr where
  s : List UInt8
  at_ : Nat
  code : Int
structure Rdr.ok (r : Rdr) : Prop where
  le : r.at_ ≤ r.s.length
  mx : r.s.length ≤ 1099511627776
def valB (l : List UInt8) : Nat := l.foldl (fun n b => n * 256 + b.toNat) 0
theorem valB_snoc (l : List UInt8) (b : UInt8) : valB (l ++ [b]) = valB l * 256 + b.toNat := by simp [valB]
theorem valB_lt : ∀ (k : Nat) (l : List UInt8), l.length = k → valB l < 256 ^ k
  | 0, l, h => by rw [List.eq_nil_of_length_eq_zero h]; simp [valB]
  | k + 1, l, h => by
    obtain ⟨m, b, rfl⟩ : ∃ m b, l = m ++ [b] := ⟨l.dropLast, l.getLast (by intro e; subst e; simp at h), (List.dropLast_concat_getLast _).symm⟩
    rw [valB_snoc, Nat.pow_succ]
    have := valB_lt k m (by simpa using h)
    have hb := b.toNat_lt
    omega
theorem valB_cons : ∀ (k : Nat) (b : UInt8) (l : List UInt8), l.length = k → valB (b :: l) = b.toNat * 256 ^ k + valB l
  | 0, b, l, h => by rw [List.eq_nil_of_length_eq_zero h]; simp [valB]
  | k + 1, b, l, h => by
    obtain ⟨m, c, rfl⟩ : ∃ m c, l = m ++ [c] := ⟨l.dropLast, l.getLast (by intro e; subst e; simp at h), (List.dropLast_concat_getLast _).symm⟩
    rw [← List.cons_append, valB_snoc, valB_snoc, valB_cons k b m (by simpa using h), Nat.pow_succ]
    rw [Nat.add_mul, Nat.mul_assoc]; omega
def readN : List UInt8 → Nat × Nat × Int
  | [] => (0, 0, 20)
  | h :: t =>
    if 8 < h.toNat then (0, 0, 3) else if t.length < h.toNat then (0, 0, 20) else
    if (0 < h.toNat ∧ (t.getD 0 0).toNat = 0) ∨ (h.toNat = 8 ∧ 128 ≤ (t.getD 0 0).toNat) then (0, 0, 3) else (valB (t.take h.toNat), 1 + h.toNat, 0)
theorem getD_take0 (t : List UInt8) (n : Nat) (h : 0 < n) : (t.take n).getD 0 0 = t.getD 0 0 := by
  simp [List.getD_eq_getElem?_getD, List.getElem?_take, h]
theorem val_bound (t : List UInt8) (n : Nat) (h8 : n ≤ 8) (hl : n ≤ t.length) (h : ¬ (n = 8 ∧ 128 ≤ (t.getD 0 0).toNat)) : valB (t.take n) < 9223372036854775808 := by
  have hlen : (t.take n).length = n := by rw [List.length_take]; omega
  by_cases h7 : n ≤ 7
  · have := valB_lt n (t.take n) hlen
    have : 256 ^ n ≤ 256 ^ 7 := Nat.pow_le_pow_right (by omega) h7
    omega
  · obtain rfl : n = 8 := by omega
    match ht : t with
    | [] => simp at hl
    | x :: r =>
      simp only [List.take_succ_cons] at hlen ⊢
      rw [valB_cons 7 x (r.take 7) (by simpa using hlen)]
      have h1 := valB_lt 7 (r.take 7) (by simpa using hlen)
      simp only [List.getD_cons_zero, true_and] at h
      omega
end Go.Proofs.YtmlncbdfbodjoaaDoor
namespace Go.Proofs.YtmlncbdfbodjoaaDoor
open Go Go.Sse
set_option linter.unusedVariables false
set_option linter.unusedSimpArgs false
set_option maxRecDepth 10000
end Go.Proofs.YtmlncbdfbodjoaaDoor
namespace Go.Proofs.YtmlncbdfbodjoaaDoor
open Go Go.Sse
set_option linter.unusedVariables false
set_option linter.unusedSimpArgs false
set_option maxRecDepth 10000
end Go.Proofs.YtmlncbdfbodjoaaDoor
namespace Go.Proofs.YtmlncbdfbodjoaaDoor
open Go Go.Sse
set_option linter.unusedVariables false
set_option linter.unusedSimpArgs false
set_option maxRecDepth 10000
theorem valB_be : ∀ (n : Nat), valB (be n) = n := by
  intro n
  induction n using Nat.strongRecOn with
  | _ n ih =>
    by_cases h : n = 0
    · subst h; rw [be_zero]; rfl
    · rw [be_pos (by omega), valB_snoc, ih (n / 256) (by omega)]
      simp only [UInt8.toNat_ofNat']
      omega
theorem valB_pos : ∀ (k : Nat) (l : List UInt8), l.length = k → 0 < (l.getD 0 0).toNat → 0 < valB l
  | k, [], _, h => by simp at h
  | k, b :: l, _, h => by
    rw [valB_cons l.length b l rfl]
    simp only [List.getD_cons_zero] at h
    have : 0 < b.toNat * 256 ^ l.length := Nat.mul_pos h (Nat.pow_pos (by omega))
    omega
theorem be_valB : ∀ (k : Nat) (l : List UInt8), l.length = k → (0 < k → 0 < (l.getD 0 0).toNat) → be (valB l) = l
  | 0, l, h, _ => by rw [List.eq_nil_of_length_eq_zero h]; simp only [valB, List.foldl_nil]; exact be_zero
  | k + 1, l, h, hp => by
    obtain ⟨m, c, rfl⟩ : ∃ m c, l = m ++ [c] := ⟨l.dropLast, l.getLast (by intro e; subst e; simp at h), (List.dropLast_concat_getLast _).symm⟩
    have hml : m.length = k := by simpa using h
    have hpos := valB_pos (k + 1) (m ++ [c]) h (hp (by omega))
    have hc := c.toNat_lt
    have ih := be_valB k m hml (fun hk => by
      have := hp (by omega)
      rw [List.getD_eq_getElem?_getD, List.getElem?_append_left (by omega)] at this
      rw [List.getD_eq_getElem?_getD]; exact this)
    rw [be_pos hpos, valB_snoc]
    have e1 : (valB m * 256 + c.toNat) / 256 = valB m := by omega
    have e2 : (valB m * 256 + c.toNat) % 256 = c.toNat := by omega
    rw [e1, e2, ih]
    congr 2
    apply UInt8.toNat_inj.1
    simp
theorem readN_good {s : List UInt8} (h : (readN s).2.2 = 0) : s.take (readN s).2.1 = numB (readN s).1 ∧ (readN s).2.1 ≤ s.length ∧ (readN s).1 < 9223372036854775808 := by
  cases s with
  | nil => simp [readN] at h
  | cons x t =>
    have h8 : ¬ 8 < x.toNat := fun h' => by simp [readN, h'] at h
    have hs : ¬ t.length < x.toNat := fun h' => by simp [readN, h8, h'] at h
    have hgood : ¬ ((0 < x.toNat ∧ (t.getD 0 0).toNat = 0) ∨ (x.toNat = 8 ∧ 128 ≤ (t.getD 0 0).toNat)) := fun h' => by
      simp only [readN, if_neg h8, if_neg hs, if_pos h'] at h; cases h
    have hr : readN (x :: t) = (valB (t.take x.toNat), 1 + x.toNat, 0) := by simp only [readN, if_neg h8, if_neg hs, if_neg hgood]
    rw [hr]
    have hl : (t.take x.toNat).length = x.toNat := by rw [List.length_take]; omega
    have hbe := be_valB x.toNat (t.take x.toNat) hl (fun h0 => by rw [getD_take0 t _ h0]; omega)
    refine ⟨?_, by simp only [List.length_cons]; omega, val_bound t x.toNat (by omega) (by omega) (fun h' => hgood (.inr h'))⟩
    simp only [numB, hbe, hl]
    rw [Nat.add_comm 1, List.take_succ_cons]
    congr 1
    apply UInt8.toNat_inj.1
    simp
theorem readN_num (n : Nat) (hn : n < 9223372036854775808) (r : List UInt8) : readN (numB n ++ r) = (n, (numB n).length, 0) := by
  have h8 := be_len8 (n := n) (by omega)
  have hx : (UInt8.ofNat (be n).length).toNat = (be n).length := by simp only [UInt8.toNat_ofNat']; omega
  have htk : (be n ++ r).take (be n).length = be n := by rw [List.take_append_of_le_length (Nat.le_refl _), List.take_length]
  simp only [numB, List.cons_append, readN, hx, List.length_append, htk, valB_be, List.length_cons]
  rw [if_neg (by omega), if_neg (by omega), if_neg]
  · rw [Nat.add_comm]
  · by_cases h0 : n = 0
    · subst h0; rw [be_zero]; simp
    · have hpos : 0 < (be n).length := by rw [be_pos (by omega), List.length_append]; simp
      have hg : (be n ++ r).getD 0 0 = (be n).getD 0 0 := by
        rw [List.getD_eq_getElem?_getD, List.getElem?_append_left hpos, List.getD_eq_getElem?_getD]
      rw [hg]
      have hv := valB_be n
      cases hb : be n with
      | nil => rw [hb] at hpos; simp at hpos
      | cons x t =>
        rw [hb] at hv
        rw [valB_cons t.length x t rfl] at hv
        have ht := valB_lt t.length t rfl
        simp only [List.getD_cons_zero, List.length_cons]
        rintro (⟨_, hx0⟩ | ⟨h88, hx1⟩)
        · rw [hx0, Nat.zero_mul, Nat.zero_add] at hv
          have h9 : (be n).length ≤ t.length := be_len t.length n (by omega)
          rw [hb, List.length_cons] at h9; omega
        · have : t.length = 7 := by omega
          rw [this] at hv
          have : 128 * 256 ^ 7 ≤ x.toNat * 256 ^ 7 := Nat.mul_le_mul_right _ hx1
          omega
end Go.Proofs.YtmlncbdfbodjoaaDoor
namespace Go.Proofs.YtmlncbdfbodjoaaDoor
open Go Go.Sse
set_option linter.unusedVariables false
set_option linter.unusedSimpArgs false
set_option maxRecDepth 10000
end Go.Proofs.YtmlncbdfbodjoaaDoor
namespace Go.Proofs.YtmlncbdfbodjoaaDoor
open Go Go.Sse
set_option linter.unusedVariables false
set_option linter.unusedSimpArgs false
set_option maxRecDepth 10000
end Go.Proofs.YtmlncbdfbodjoaaDoor
namespace Go.Proofs.YtmlncbdfbodjoaaDoor
open Go Go.Sse
set_option linter.unusedVariables false
set_option linter.unusedSimpArgs false
set_option maxRecDepth 10000
abbrev PSt := Option (List UInt8)
def numP : PSt → Nat × PSt
  | none => (0, none)
  | some l => if (readN l).2.2 = 0 then ((readN l).1, some (l.drop (readN l).2.1)) else (0, none)
def bytesP (n : Nat) : PSt → List UInt8 × PSt
  | none => ([], none)
  | some l => if n ≤ l.length then (l.take n, some (l.drop n)) else ([], none)
def textP (m : Int) (st : PSt) : List UInt8 × PSt :=
  match numP st with
  | (n, some r) => if (n : Int) ≤ m then bytesP n (some r) else ([], none)
  | (_, none) => ([], none)
def flagP : PSt → Bool × PSt
  | some (b :: l) => if 1 < b.toNat then (false, none) else (decide (b.toNat = 1), some l)
  | _ => (false, none)
theorem numP_good {st : PSt} {n : Nat} {r : List UInt8} (h : numP st = (n, some r)) : st = some (numB n ++ r) ∧ n < 9223372036854775808 := by
  cases st with
  | none => simp [numP] at h
  | some l =>
    simp only [numP] at h
    by_cases he : (readN l).2.2 = 0
    · rw [if_pos he] at h
      obtain ⟨g1, g2, g3⟩ := readN_good he
      simp only [Prod.mk.injEq, Option.some.injEq] at h
      obtain ⟨rfl, rfl⟩ := h
      exact ⟨by rw [← g1, List.take_append_drop], g3⟩
    · rw [if_neg he] at h; simp at h
theorem numP_back (n : Nat) (hn : n < 9223372036854775808) (r : List UInt8) : numP (some (numB n ++ r)) = (n, some r) := by
  simp only [numP, readN_num n hn r, if_pos, List.drop_append_of_le_length (Nat.le_refl _), List.drop_length, List.nil_append]
theorem bytesP_good {st : PSt} {n : Nat} {t r : List UInt8} (h : bytesP n st = (t, some r)) : st = some (t ++ r) ∧ t.length = n := by
  cases st with
  | none => simp [bytesP] at h
  | some l =>
    simp only [bytesP] at h
    by_cases he : n ≤ l.length
    · rw [if_pos he] at h
      simp only [Prod.mk.injEq, Option.some.injEq] at h
      obtain ⟨rfl, rfl⟩ := h
      exact ⟨by rw [List.take_append_drop], by rw [List.length_take]; omega⟩
    · rw [if_neg he] at h; simp at h
theorem bytesP_back (t r : List UInt8) : bytesP t.length (some (t ++ r)) = (t, some r) := by
  simp [bytesP]
theorem bytesP_back' {n : Nat} (t r : List UInt8) (h : t.length = n) : bytesP n (some (t ++ r)) = (t, some r) := by subst h; exact bytesP_back t r
theorem textP_good {m : Int} {st : PSt} {t r : List UInt8} (h : textP m st = (t, some r)) : st = some (textB t ++ r) ∧ (t.length : Int) ≤ m ∧ t.length < 9223372036854775808 := by
  unfold textP at h
  split at h
  · rename_i n q hq
    obtain ⟨g1, g2⟩ := numP_good hq
    split at h
    · rename_i hm
      obtain ⟨g3, g4⟩ := bytesP_good h
      subst g4
      simp only [Option.some.injEq] at g3
      subst g3
      exact ⟨by rw [g1, textB, List.append_assoc], hm, g2⟩
    · simp at h
  · simp at h
theorem textP_back {m : Int} (t r : List UInt8) (h : (t.length : Int) ≤ m) (h2 : t.length < 9223372036854775808) : textP m (some (textB t ++ r)) = (t, some r) := by
  unfold textP
  rw [textB, List.append_assoc, numP_back _ h2]
  simp only [h, if_true]
  exact bytesP_back t r
theorem flagP_good {st : PSt} {f : Bool} {r : List UInt8} (h : flagP st = (f, some r)) : st = some (flagB f ++ r) := by
  match st, h with
  | none, h => simp [flagP] at h
  | some [], h => simp [flagP] at h
  | some (b :: l), h =>
    simp only [flagP] at h
    split at h
    · simp at h
    · rename_i hb
      simp only [Prod.mk.injEq, Option.some.injEq] at h
      obtain ⟨rfl, rfl⟩ := h
      by_cases h1 : b.toNat = 1
      · have : b = 1 := UInt8.toNat_inj.1 (by rw [h1]; rfl)
        subst this; rfl
      · have : b = 0 := UInt8.toNat_inj.1 (by show b.toNat = 0; omega)
        subst this; rfl
theorem flagP_back (f : Bool) (r : List UInt8) : flagP (some (flagB f ++ r)) = (f, some r) := by cases f <;> rfl
end Go.Proofs.YtmlncbdfbodjoaaDoor
namespace Go.Proofs.YtmlncbdfbodjoaaDoor
open Go Go.Sse
set_option linter.unusedVariables false
set_option linter.unusedSimpArgs false
set_option maxRecDepth 10000
end Go.Proofs.YtmlncbdfbodjoaaDoor
namespace Go.Proofs.YtmlncbdfbodjoaaDoor
open Go Go.Sse
set_option linter.unusedVariables false
set_option linter.unusedSimpArgs false
set_option maxRecDepth 10000
end Go.Proofs.YtmlncbdfbodjoaaDoor
namespace Go.Proofs.YtmlncbdfbodjoaaDoor
open Go Go.Sse
set_option linter.unusedVariables false
set_option linter.unusedSimpArgs false
set_option maxRecDepth 10000
end Go.Proofs.YtmlncbdfbodjoaaDoor
namespace Go.Sse
open Go Go.Sse
set_option linter.unusedVariables false
set_option linter.unusedSimpArgs false
set_option maxRecDepth 10000
section
variable {P : Program} {Γ : Ctx} {ops : Array Oper} {Q : Exit → Act → World → Prop} {F : List (Nat × SV)} {L : List Own} {rest : List Oper}
variable {dst : Option Tmp} {ty : TypeId} {pos : String} {aft : Array Edge} {g : Option (Nat × Bool)}
end
end Go.Sse
namespace Go.Sse
open Go Go.Sse
set_option linter.unusedVariables false
set_option linter.unusedSimpArgs false
set_option maxRecDepth 10000
class TZero (P : Program) (E : Nat) (zv : outParam Value) : Prop where ok : (P.info? E).bind (·.zero) = some zv
def lk {α β : Type} [DecidableEq α] (l : List (α × β)) (k : α) : Option β := (l.find? (fun p => decide (p.1 = k))).map (·.2)
section
variable {P : Program} {Γ : Ctx} {ops : Array Oper} {Q : Exit → Act → World → Prop} {F : List (Nat × SV)} {L : List Own} {rest : List Oper}
variable {dst : Option Tmp} {ty : TypeId} {pos : String} {aft : Array Edge} {g : Option (Nat × Bool)}
end
end Go.Sse
namespace Go.Sse
open Go Go.Sse
set_option linter.unusedVariables false
set_option linter.unusedSimpArgs false
set_option maxRecDepth 10000
section
variable {P : Program} {Γ : Ctx} {ops : Array Oper} {Q : Exit → Act → World → Prop} {F : List (Nat × SV)} {L : List Own} {rest : List Oper}
variable {dst : Option Tmp} {ty : TypeId} {pos : String} {aft : Array Edge} {g : Option (Nat × Bool)}
end
end Go.Sse
namespace Go.Sse
open Go Go.Sse
set_option linter.unusedVariables false
set_option linter.unusedSimpArgs false
set_option maxRecDepth 10000
section
variable {P : Program} {Γ : Ctx} {ops : Array Oper} {Q : Exit → Act → World → Prop} {F : List (Nat × SV)} {L : List Own} {rest : List Oper}
variable {dst : Option Tmp} {ty : TypeId} {pos : String} {aft : Array Edge} {g : Option (Nat × Bool)}
end
end Go.Sse
namespace Go.Sse
open Go Go.Sse
set_option linter.unusedVariables false
set_option linter.unusedSimpArgs false
set_option maxRecDepth 10000
section
variable {P : Program} {Γ : Ctx} {l : List Oper} {Q : Exit → Act → World → Prop} {G : List (Nat × SV)} {L : List Own} {S idx : List Nat}
theorem JP.alloc {d E sz by' : Nat} {z : List Value} [h : TInfo P E sz by' z] {cs : List SV} {ty : TypeId} {pos : String} {aft : Array Edge} {g : Option (Nat × Bool)} (i : Nat) (ks S' idx' : List Nat) (hc : (okIdx l.toArray S idx && okStep l.toArray S idx i ks S' idx') = true)
    (hoi : l[i]? = some ⟨some d, .alloc E, ty, pos, aft, g⟩) (hre : SegC P Γ l.toArray L G (opsAt l idx) (Ag G idx.length)) (hz : z.map .val = cs) (h1 : z.all (·.oneCell') = true) (hlt : Nat.blt d Γ.nt = true)
    (k : ∀ b, JP P Γ l.toArray Q S' idx' ((d, .val (.pointer (some ⟨b, 0, none⟩))) :: G) (.obj b E cs :: L)) : JP P Γ l.toArray Q S idx G L :=
  JP.do1 i ks S' idx' hc hoi hre (OpS.newObj (ρ' := fun _ => True) (E := E) (cs := cs) (fun a w hst => by
    obtain ⟨v, hv, hc, _⟩ := run_zero h w
    refine ⟨z, ?_, hz ▸ RelL.vals z (by simpa [List.all_eq_true] using h1)⟩
    have : v.cells = z.toArray := by rw [← hc]
    simp [execOp, Instr.alloc, hv, newVar, newRow, this])) hlt (by rintro s L' ⟨b, rfl, rfl⟩; exact k b)
end
end Go.Sse
namespace Go.Sse
open Go Go.Sse
set_option linter.unusedVariables false
set_option linter.unusedSimpArgs false
set_option maxRecDepth 10000
theorem Sub.agg {cs ds : List SV} (h : SubL cs ds) : Sub (.agg cs) (.agg ds) := by
  intro Z w v hr
  obtain ⟨h1, h2⟩ := h.spec
  cases hr with
  | agg _ vs hl hone hrel => exact .agg ds vs (by omega) hone fun j hj => h2 j Z w _ (hrel j (by omega))
theorem SubL.refl : ∀ (cs : List SV), SubL cs cs
  | [] => .nil
  | s :: cs => .cons (Sub.refl s) (SubL.refl cs)
section
variable {P : Program} {Γ : Ctx} {ops : Array Oper} {Q : Exit → Act → World → Prop} {F : List (Nat × SV)} {L : List Own} {rest : List Oper}
variable {dst : Option Tmp} {ty : TypeId} {pos : String} {aft : Array Edge} {g : Option (Nat × Bool)}
end
end Go.Sse
namespace Go.Sse
open Go Go.Sse
set_option linter.unusedVariables false
set_option linter.unusedSimpArgs false
set_option maxRecDepth 10000
theorem operWp_less {P : Program} {o : Oper} {a : Act} {w : World} {K K' : Act → World → Prop} {Q Q' : Exit → Act → World → Prop} (h : ∀ a w, K a w → K' a w) (hq : ∀ e a w, e ≠ .normal → Q e a w → Q' e a w)
    (hh : o.wp P a w K Q) : o.wp P a w K' Q' := by
  unfold Oper.wp at *
  generalize (execOp a.eval o).run P w = r at *
  cases r with
  | ok n w' =>
    cases n <;> simp only [Oper.upon] at hh ⊢ <;>
      first
        | exact h _ _ hh
        | exact Calls.mono hh (fun e w'' he => by
            cases e
            · exact h _ _ he
            · exact hq _ _ _ (by simp) he
            · obtain ⟨a2, w2, h2⟩ := he; exact ⟨a2, w2, hq _ _ _ (by simp) h2⟩)
        | exact Rows.mono hh (fun _ _ he => h _ _ he)
  | halt x w' => cases x <;> simp only [Oper.upon] at hh ⊢ <;> first | exact hh | exact hq _ _ _ (by simp) hh
theorem wpList_join {P : Program} {ops : Array Oper} {Q Q' : Exit → Act → World → Prop} {rest : List Oper} (hn : ∀ a w, Q' .normal a w → wpList P ops Q rest a w) (hq : ∀ e a w, e ≠ .normal → Q' e a w → Q e a w) :
    ∀ (l : List Oper) a w, wpList P ops Q' l a w → wpList P ops Q (l ++ rest) a w
  | [], a, w, h => hn a w h
  | o :: l, a, w, h => by
    rw [List.cons_append]
    unfold wpList at h ⊢
    split
    · rename_i hw
      rw [if_pos hw] at h
      rcases h with h | ⟨h1, a2, w2, h2⟩
      · exact .inl (operWp_less (wpList_join hn hq l) hq h)
      · exact .inr ⟨h1, a2, w2, hq _ _ _ (by simp) h2⟩
    · rename_i hw
      rw [if_neg hw] at h
      exact wpList_join hn hq l _ _ h
def inG (j : Nat) (o : Oper) : Bool := match o.guard with
  | some (k, _) => Nat.ble j k
  | none => false
def gTake (j : Nat) : List Oper → List Oper
  | [] => []
  | o :: l => bif inG j o then o :: gTake j l else []
def gDrop (j : Nat) : List Oper → List Oper
  | [] => []
  | o :: l => bif inG j o then gDrop j l else o :: l
theorem gSplit (j : Nat) : ∀ l, gTake j l ++ gDrop j l = l
  | [] => rfl
  | o :: l => by
    simp only [gTake, gDrop]
    cases inG j o with
    | true => simp only [cond_true, List.cons_append, gSplit j l]
    | false => rfl
def hasKey (F : List (Nat × SV)) (x : Nat) : Bool := match F with
  | [] => false
  | p :: r => Nat.beq p.1 x || hasKey r x
theorem look_none : ∀ {F : List (Nat × SV)} {x : Nat}, hasKey F x = false → look F x = none
  | [], x, _ => rfl
  | p :: r, x, h => by
    simp only [hasKey, Bool.or_eq_false_iff] at h
    simp only [look, h.1, cond_false]
    exact look_none h.2
def okSkip (ops : Array Oper) (F : List (Nat × SV)) (nt j : Nat) (want : Bool) : List Nat → List Oper → Bool
  | _, [] => true
  | acc, o :: l => match o.dst, o.guard with
    | some d, some (k, w) => Nat.blt d nt && !hasKey F d && ((Nat.beq k j && (w == want)) || (match ops[k]? with
      | some og => (match og.dst with | some e => acc.contains e | none => false)
      | none => false)) && okSkip ops F nt j want (d :: acc) l
    | _, _ => false
theorem skip_run {P : Program} {Γ : Ctx} {ops : Array Oper} {Q : Exit → Act → World → Prop} {F : List (Nat × SV)} {L : List Own} {rest : List Oper} {j d : Nat} {want : Bool} {og : Oper}
    (ho : ops[j]? = some og) (hod : og.dst = some d) (hd : look F d = some (.val (.bool (!want)))) (k : J P Γ ops Q F L rest) :
    ∀ (l : List Oper) (acc : List Nat) (a : Act) (w : World), okSkip ops F Γ.nt j want acc l = true → St Γ F L a w → (∀ e ∈ acc, a.tmps.getD e undef = undef) → wpList P ops Q (l ++ rest) a w
  | [], acc, a, w, _, hst, _ => k.go a w hst
  | o :: l, acc, a, w, h, hst, hacc => by
    obtain ⟨dst, op, ty, pos, aft, g⟩ := o
    cases dst with
    | none => simp [okSkip] at h
    | some t =>
      cases g with
      | none => simp [okSkip] at h
      | some g =>
        obtain ⟨i, w'⟩ := g
        simp only [okSkip, Bool.and_eq_true, Bool.or_eq_true, Bool.not_eq_true'] at h
        obtain ⟨⟨⟨h1, h2⟩, h3⟩, h4⟩ := h
        have hw : Region.wanted ⟨some t, op, ty, pos, aft, some (i, w')⟩ (yielded ops a.tmps) = false := by
          rcases h3 with ⟨h3, h5⟩ | h3
          · have : i = j := Nat.eq_of_beq_eq_true h3
            subst this
            have hw' : w' = want := by simpa using h5
            subst hw'
            rw [wanted_guard rfl ho hod (hst.fr d _ hd).val_eq]
            cases w' <;> rfl
          · split at h3
            · rename_i og' hog'
              split at h3
              · rename_i e he
                exact wanted_undef rfl hog' he (hacc e (by simpa using h3))
              · cases h3
            · cases h3
        rw [List.cons_append]
        unfold wpList
        rw [if_neg (by rw [hw]; simp)]
        have hst2 : St Γ F L (a.put (some t) undef) w := by
          have := hst.put (Step.refl hst.ws) h1 (.any undef)
          refine ⟨this.ws, this.nt, this.df, fun x s hl => this.fr x s ?_⟩
          simp only [look]
          cases hb : Nat.beq t x with
          | true =>
            have := Nat.eq_of_beq_eq_true hb
            subst this
            rw [look_none h2] at hl; cases hl
          | false => exact hl
        have hlt : t < a.tmps.size := by rw [hst.nt]; exact Nat.le_of_ble_eq_true h1
        refine skip_run ho hod hd k l (t :: acc) _ _ h4 hst2 fun e he => ?_
        show (a.tmps.setIfInBounds t undef).getD e undef = undef
        rw [getD_set _ _ _ _ hlt]
        split
        · rfl
        · rcases List.mem_cons.1 he with rfl | he
          · rename_i hne; exact absurd rfl hne
          · exact hacc e he
def Qj (Γ : Ctx) (F : List (Nat × SV)) (L : List Own) (t : Nat) (q : Bool) : Exit → Act → World → Prop := fun e a w => e = .normal ∧ St Γ F L a w ∧ a.tmps.getD t undef = .bool q
def keysOff (F : List (Nat × SV)) : List (Nat × SV) → Bool
  | [] => true
  | p :: r => !hasKey F p.1 && keysOff F r
theorem look_off : ∀ {F : List (Nat × SV)} (X : List (Nat × SV)), keysOff F X = true → ∀ x s, look F x = some s → look (X ++ F) x = some s
  | F, [], _, x, s, hl => hl
  | F, p :: X, h, x, s, hl => by
    simp only [keysOff, Bool.and_eq_true, Bool.not_eq_true'] at h
    simp only [List.cons_append, look]
    cases hb : Nat.beq p.1 x with
    | true =>
      have := Nat.eq_of_beq_eq_true hb
      subst this
      rw [look_none h.1] at hl; cases hl
    | false => exact look_off X h.2 x s hl
theorem N.joined {Γ : Ctx} {F F' : List (Nat × SV)} {L : List Own} {t : Nat} {q : Bool} (X : List (Nat × SV)) (hl : look F' t = some (.val (.bool q))) (hX : F' = X ++ F) (hk : keysOff F X = true) : N Γ (Qj Γ F L t q .normal) F' L :=
  ⟨fun a w hst => ⟨rfl, ⟨hst.ws, hst.nt, hst.df, fun x s h => hst.fr x s (by rw [hX]; exact look_off X hk x s h)⟩, (hst.fr t _ hl).val_eq⟩⟩
theorem N.joinedN {Γ : Ctx} {F F' : List (Nat × SV)} {L : List Own} {t : Nat} {q : Bool} (hl : look F' t = some (.val (.bool q))) (hX : F'.drop (F'.length - F.length) = F) (hk : keysOff F (F'.take (F'.length - F.length)) = true) : N Γ (Qj Γ F L t q .normal) F' L :=
  N.joined (F'.take (F'.length - F.length)) hl ((List.take_append_drop (F'.length - F.length) F').symm.trans (congrArg _ hX)) hk
section
variable {P : Program} {Γ : Ctx} {ops : Array Oper} {Q : Exit → Act → World → Prop} {F : List (Nat × SV)} {L : List Own} {rest l : List Oper}
variable {dst : Option Tmp} {op : Op} {ty ty0 : TypeId} {pos pos0 : String} {aft aft0 : Array Edge} {g : Option (Nat × Bool)}
theorem St.told1 {a : Act} {w : World} {t : Nat} {s : SV} (h : St Γ F L a w) (hr : Rel (ZL Γ.Z L) w s (a.tmps.getD t undef)) : St Γ ((t, s) :: F) L a w :=
  ⟨h.ws, h.nt, h.df, fun x u hl => by
    simp only [look] at hl
    cases hb : Nat.beq t x with
    | true =>
      rw [hb] at hl
      simp only [cond_true, Option.some.injEq] at hl
      subst hl
      have := Nat.eq_of_beq_eq_true hb
      subst this
      exact hr
    | false => rw [hb] at hl; exact h.fr x u hl⟩
theorem told_off {t y : Nat} {s u : SV} (hy : hasKey F y = false) {a : Act} {w : World} (h : St Γ ((t, s) :: (y, u) :: F) L a w) : St Γ ((t, s) :: F) L a w :=
  ⟨h.ws, h.nt, h.df, fun x v hl => h.fr x v (by
    simp only [look] at hl ⊢
    cases hb : Nat.beq t x with
    | true => rw [hb] at hl; exact hl
    | false =>
      rw [hb] at hl
      simp only [cond_false] at hl ⊢
      cases hc : Nat.beq y x with
      | true =>
        have := Nat.eq_of_beq_eq_true hc
        subst this
        rw [look_none hy] at hl; cases hl
      | false => exact hl)⟩
theorem ev_off {y : Nat} {s u : SV} {c : Operand} (hy : hasKey F y = false) (hc : ev F c = some s) : ev ((y, u) :: F) c = some s := by
  cases c with
  | tmp x =>
    simp only [ev, look] at hc ⊢
    cases hb : Nat.beq y x with
    | true =>
      have := Nat.eq_of_beq_eq_true hb
      subst this
      rw [look_none hy] at hc; cases hc
    | false => exact hc
  | const v => exact hc
  | global g => exact hc
  | func f => exact hc
theorem J.ofSt {l : List Oper} (h : ∀ a w, St Γ F L a w → wpList P ops Q l a w) : J P Γ ops Q F L l := ⟨h⟩
theorem J.guardOr {q b : Bool} {j d t y : Nat} {c : Operand} {og : Oper} (ho : ops[j]? = some og) (hod : og.dst = some d) (hv : look F d = some (.val (.bool b)))
    (hdrop : gDrop j (⟨dst, op, ty0, pos0, aft0, some (j, false)⟩ :: l) = ⟨some t, .pick c (.const (.bool true)) (.tmp y), ty, pos, aft, none⟩ :: rest) (hc : ev F c = some (.val (.bool b)))
    (hsk : okSkip ops F Γ.nt j false [] (gTake j (⟨dst, op, ty0, pos0, aft0, some (j, false)⟩ :: l)) = true) (hy : hasKey F y = false) (hlt : Nat.blt t Γ.nt = true)
    (hyes : b = false → J P Γ ops (Qj Γ F L y q) F L (gTake j (⟨dst, op, ty0, pos0, aft0, some (j, false)⟩ :: l)))
    (k : J P Γ ops Q ((t, .val (.bool (b || q))) :: F) L rest) : J P Γ ops Q F L (⟨dst, op, ty0, pos0, aft0, some (j, false)⟩ :: l) := by
  rw [← gSplit j (⟨dst, op, ty0, pos0, aft0, some (j, false)⟩ :: l), hdrop]
  cases b with
  | false =>
    refine ⟨fun a w hst => wpList_join ?_ ?_ _ a w ((hyes rfl).go a w hst)⟩
    · rintro a w ⟨_, h1, h2⟩
      exact (Jx.pickF (c := c) (b := false) (x := .const (.bool true)) (y := .tmp y) (s := .val (.bool q)) (ev_off hy hc) rfl (by simp [ev, look]) hlt (J.ofSt fun a w h => k.go a w (told_off hy h))).go a w (h1.told1 (t := y) (s := .val (.bool q)) (by rw [h2]; exact .val _))
    · rintro e a w he ⟨h, _⟩; exact absurd h he
  | true =>
    exact ⟨fun a w hst => skip_run (want := false) ho hod hv (Jx.pickT (c := c) (b := true) (x := .const (.bool true)) (y := .tmp y) (s := .val (.bool true)) hc rfl rfl hlt k) _ [] a w hsk hst (by simp)⟩
theorem J.guardAnd {q b : Bool} {j d t y : Nat} {c : Operand} {og : Oper} (ho : ops[j]? = some og) (hod : og.dst = some d) (hv : look F d = some (.val (.bool b)))
    (hdrop : gDrop j (⟨dst, op, ty0, pos0, aft0, some (j, true)⟩ :: l) = ⟨some t, .pick c (.tmp y) (.const (.bool false)), ty, pos, aft, none⟩ :: rest) (hc : ev F c = some (.val (.bool b)))
    (hsk : okSkip ops F Γ.nt j true [] (gTake j (⟨dst, op, ty0, pos0, aft0, some (j, true)⟩ :: l)) = true) (hy : hasKey F y = false) (hlt : Nat.blt t Γ.nt = true)
    (hyes : b = true → J P Γ ops (Qj Γ F L y q) F L (gTake j (⟨dst, op, ty0, pos0, aft0, some (j, true)⟩ :: l)))
    (k : J P Γ ops Q ((t, .val (.bool (b && q))) :: F) L rest) : J P Γ ops Q F L (⟨dst, op, ty0, pos0, aft0, some (j, true)⟩ :: l) := by
  rw [← gSplit j (⟨dst, op, ty0, pos0, aft0, some (j, true)⟩ :: l), hdrop]
  cases b with
  | true =>
    refine ⟨fun a w hst => wpList_join ?_ ?_ _ a w ((hyes rfl).go a w hst)⟩
    · rintro a w ⟨_, h1, h2⟩
      exact (Jx.pickT (c := c) (b := true) (x := .tmp y) (y := .const (.bool false)) (s := .val (.bool q)) (ev_off hy hc) rfl (by simp [ev, look]) hlt (J.ofSt fun a w h => k.go a w (told_off hy h))).go a w (h1.told1 (t := y) (s := .val (.bool q)) (by rw [h2]; exact .val _))
    · rintro e a w he ⟨h, _⟩; exact absurd h he
  | false =>
    exact ⟨fun a w hst => skip_run (want := true) ho hod hv (Jx.pickF (c := c) (b := false) (x := .tmp y) (y := .const (.bool false)) (s := .val (.bool false)) hc rfl rfl hlt k) _ [] a w hsk hst (by simp)⟩
theorem J.guardAndG {q b b2 w2 : Bool} {j2 d2 : Nat} {og2 : Oper} (ho2 : ops[j2]? = some og2) (hod2 : og2.dst = some d2) (hv2 : look F d2 = some (.val (.bool b2))) (hb2 : b2 = w2) {j d t y : Nat} {c : Operand} {og : Oper} (ho : ops[j]? = some og) (hod : og.dst = some d) (hv : look F d = some (.val (.bool b)))
    (hdrop : gDrop j (⟨dst, op, ty0, pos0, aft0, some (j, true)⟩ :: l) = ⟨some t, .pick c (.tmp y) (.const (.bool false)), ty, pos, aft, some (j2, w2)⟩ :: rest) (hc : ev F c = some (.val (.bool b)))
    (hsk : okSkip ops F Γ.nt j true [] (gTake j (⟨dst, op, ty0, pos0, aft0, some (j, true)⟩ :: l)) = true) (hy : hasKey F y = false) (hlt : Nat.blt t Γ.nt = true)
    (hyes : b = true → J P Γ ops (Qj Γ F L y q) F L (gTake j (⟨dst, op, ty0, pos0, aft0, some (j, true)⟩ :: l)))
    (k : J P Γ ops Q ((t, .val (.bool (b && q))) :: F) L rest) : J P Γ ops Q F L (⟨dst, op, ty0, pos0, aft0, some (j, true)⟩ :: l) := by
  rw [← gSplit j (⟨dst, op, ty0, pos0, aft0, some (j, true)⟩ :: l), hdrop]
  cases b with
  | true =>
    refine ⟨fun a w hst => wpList_join ?_ ?_ _ a w ((hyes rfl).go a w hst)⟩
    · rintro a w ⟨_, h1, h2⟩
      exact (J.guardYes ho2 hod2 (ev_off (c := .tmp d2) hy hv2) hb2 (Jx.pickT (c := c) (b := true) (x := .tmp y) (y := .const (.bool false)) (s := .val (.bool q)) (ev_off hy hc) rfl (by simp [ev, look]) hlt (J.ofSt fun a w h => k.go a w (told_off hy h)))).go a w (h1.told1 (t := y) (s := .val (.bool q)) (by rw [h2]; exact .val _))
    · rintro e a w he ⟨h, _⟩; exact absurd h he
  | false =>
    exact ⟨fun a w hst => skip_run (want := true) ho hod hv (J.guardYes ho2 hod2 hv2 hb2 (Jx.pickF (c := c) (b := false) (x := .tmp y) (y := .const (.bool false)) (s := .val (.bool false)) hc rfl rfl hlt k)) _ [] a w hsk hst (by simp)⟩
theorem J.gY {dst : Option Tmp} {op : Op} {ty : TypeId} {pos : String} {aft : Array Edge} {j d : Nat} {want b : Bool} {og : Oper}
    (ho : ops[j]? = some og) (hd : og.dst = some d) (hv : look F d = some (.val (.bool b)))
    (h : J P Γ ops Q F L (⟨dst, op, ty, pos, aft, none⟩ :: rest)) (hb : b = want := by first | rfl | assumption | (exact decide_eq_true (by first | assumption | omega | rfl)) | (exact decide_eq_false (by first | assumption | omega | rfl)) | (simp; done) | (simp; omega)) : J P Γ ops Q F L (⟨dst, op, ty, pos, aft, some (j, want)⟩ :: rest) := J.guardYes ho hd hv hb h
theorem J.gN {dst : Tmp} {op : Op} {ty : TypeId} {pos : String} {aft : Array Edge} {j d : Nat} {want b : Bool} {og : Oper}
    (ho : ops[j]? = some og) (hd : og.dst = some d) (hv : look F d = some (.val (.bool b))) (hlt : Nat.blt dst Γ.nt = true)
    (h : J P Γ ops Q ((dst, .val undef) :: F) L rest) (hb : b = !want := by first | rfl | assumption | (exact decide_eq_true (by first | assumption | omega | rfl)) | (exact decide_eq_false (by first | assumption | omega | rfl)) | (simp; done) | (simp; omega)) : J P Γ ops Q F L (⟨some dst, op, ty, pos, aft, some (j, want)⟩ :: rest) := J.guardNoU ho hd hv hb hlt h
theorem Jx.pT {c x y : Operand} {s : SV} {b : Bool} {d0 : Nat} (hc : ev F c = some (.val (.bool b))) (hx : ev F x = some s) (hlt : Nat.blt d0 Γ.nt = true) (k : J P Γ ops Q ((d0, s) :: F) L rest) (hb : b = true := by first | rfl | assumption | (exact decide_eq_true (by first | assumption | omega | rfl)) | (exact decide_eq_false (by first | assumption | omega | rfl)) | (simp; done) | (simp; omega)) :
    J P Γ ops Q F L (⟨some d0, .pick c x y, ty, pos, aft, none⟩ :: rest) := Jx.pickT hc hb hx hlt k
theorem Jx.pF {c x y : Operand} {s : SV} {b : Bool} {d0 : Nat} (hc : ev F c = some (.val (.bool b))) (hy : ev F y = some s) (hlt : Nat.blt d0 Γ.nt = true) (k : J P Γ ops Q ((d0, s) :: F) L rest) (hb : b = false := by first | rfl | assumption | (exact decide_eq_true (by first | assumption | omega | rfl)) | (exact decide_eq_false (by first | assumption | omega | rfl)) | (simp; done) | (simp; omega)) :
    J P Γ ops Q F L (⟨some d0, .pick c x y, ty, pos, aft, none⟩ :: rest) := Jx.pickF hc hb hy hlt k
theorem W.cT {c : Operand} {x y : Code} {b : Bool} (hc : ev F c = some (.val (.bool b))) (ht : W P Γ Q F L x) (hb : b = true := by first | rfl | assumption | (exact decide_eq_true (by first | assumption | omega | rfl)) | (exact decide_eq_false (by first | assumption | omega | rfl)) | (simp; done) | (simp; omega)) : W P Γ Q F L (.cond c x y) := W.condT hc hb ht
theorem W.cF {c : Operand} {x y : Code} {b : Bool} (hc : ev F c = some (.val (.bool b))) (hf : W P Γ Q F L y) (hb : b = false := by first | rfl | assumption | (exact decide_eq_true (by first | assumption | omega | rfl)) | (exact decide_eq_false (by first | assumption | omega | rfl)) | (simp; done) | (simp; omega)) : W P Γ Q F L (.cond c x y) := W.condF hc hb hf
theorem SegC.gY {K : List (Nat × SV) → Prop} {dst : Option Tmp} {j e : Nat} {want b : Bool} {og : Oper}
    (hog : ops[j]? = some og) (hod : og.dst = some e) (hv : look F e = some (.val (.bool b))) (h : SegC P Γ ops L F (⟨dst, op, ty, pos, aft, none⟩ :: l) K) (hb : b = want := by first | rfl | assumption | (exact decide_eq_true (by first | assumption | omega | rfl)) | (exact decide_eq_false (by first | assumption | omega | rfl)) | (simp; done) | (simp; omega)) : SegC P Γ ops L F (⟨dst, op, ty, pos, aft, some (j, want)⟩ :: l) K := SegC.yes hog hod hv hb h
theorem SegC.gN {K : List (Nat × SV) → Prop} {d j e : Nat} {want b : Bool} {og : Oper}
    (hog : ops[j]? = some og) (hod : og.dst = some e) (hv : look F e = some (.val (.bool b))) (hlt : Nat.blt d Γ.nt = true) (hr : SegC P Γ ops L ((d, .any) :: F) l K) (hb : b = !want := by first | rfl | assumption | (exact decide_eq_true (by first | assumption | omega | rfl)) | (exact decide_eq_false (by first | assumption | omega | rfl)) | (simp; done) | (simp; omega)) : SegC P Γ ops L F (⟨some d, op, ty, pos, aft, some (j, want)⟩ :: l) K := SegC.no hog hod hv hb hlt hr
end
section
variable {P : Program} {Γ : Ctx} {Q : Exit → Act → World → Prop} {F : List (Nat × SV)} {L : List Own} {α : Type}
end
section
variable {P : Program} {Γ : Ctx} {Q : Exit → Act → World → Prop} {F : List (Nat × SV)} {L : List Own} {α : Type}
end
end Go.Sse
namespace Go.Proofs.YtmlncbdfbodjoaaDoor
open Go Go.Sse
set_option linter.unusedVariables false
set_option linter.unusedSimpArgs false
set_option maxRecDepth 10000
structure Mb where
  name : List UInt8
  power : Int
instance : DecidableEq Mb := fun a b => decidable_of_iff (a.name = b.name ∧ a.power = b.power) ⟨fun h => by cases a; cases b; simp_all, fun h => by subst h; exact ⟨rfl, rfl⟩⟩
def mb0 : Mb := ⟨[], 0⟩
def leB (a b : List UInt8) : Bool := Op.bytesLess a b || decide (a = b)
def okM (last : List UInt8) (m : Mb) : Bool := decide (m.name.length ≤ 6) && !leB m.name last && decide (1 ≤ m.power) && decide (m.power ≤ 1000)
def fineM : List UInt8 → List Mb → Bool
  | _, [] => true
  | last, m :: r => okM last m && fineM m.name r
def fineSet (l : List Mb) : Bool := decide (1 ≤ l.length) && decide (l.length ≤ 7) && fineM [] l
theorem fineM_mem : ∀ {l : List Mb} {last : List UInt8}, fineM last l = true → ∀ m ∈ l, m.name.length ≤ 6 ∧ 1 ≤ m.power ∧ m.power ≤ 1000
  | [], _, _, m, hm => by simp at hm
  | x :: r, last, h, m, hm => by
    simp only [fineM, okM, Bool.and_eq_true, decide_eq_true_eq] at h
    rcases List.mem_cons.1 hm with rfl | hm
    · exact ⟨h.1.1.1.1, h.1.1.2, h.1.2⟩
    · exact fineM_mem h.2 m hm
theorem fineSet_spec {l : List Mb} (h : fineSet l = true) : 1 ≤ l.length ∧ l.length ≤ 7 ∧ ∀ m ∈ l, m.name.length ≤ 6 ∧ 1 ≤ m.power ∧ m.power ≤ 1000 := by
  simp only [fineSet, Bool.and_eq_true, decide_eq_true_eq] at h
  exact ⟨h.1.1, h.1.2, fineM_mem h.2⟩
theorem getD_mem {α : Type} {l : List α} {d : α} {i : Nat} (h : i < l.length) : l.getD i d ∈ l := by
  rw [List.getD_eq_getElem?_getD, List.getElem?_eq_getElem h]; exact List.getElem_mem _
abbrev codeB (b : Bool) (e : Int) : Int := if b then 0 else e
end Go.Proofs.YtmlncbdfbodjoaaDoor
namespace Go.Proofs.YtmlncbdfbodjoaaDoor
open Go Go.Sse
set_option linter.unusedVariables false
set_option linter.unusedSimpArgs false
set_option maxRecDepth 10000
def flT {α : Type} (f : α → List UInt8) (l : List α) : List UInt8 := (l.map f).flatten
theorem flT_nil {α : Type} (f : α → List UInt8) : flT f [] = [] := rfl
theorem flT_cons {α : Type} (f : α → List UInt8) (x : α) (l : List α) : flT f (x :: l) = f x ++ flT f l := rfl
theorem flT_app {α : Type} (f : α → List UInt8) (l m : List α) : flT f (l ++ m) = flT f l ++ flT f m := by simp [flT]
theorem flT_take {α : Type} (f : α → List UInt8) (d : α) (l : List α) (i : Nat) (h : i < l.length) : flT f (l.take i) ++ f (l.getD i d) = flT f (l.take (i + 1)) := by
  rw [List.take_add_one, List.getElem?_eq_getElem h, List.getD_eq_getElem?_getD, List.getElem?_eq_getElem h]
  simp only [flT, Option.toList_some, Option.getD_some, List.map_append, List.map_cons, List.map_nil, List.flatten_append, List.flatten_cons, List.flatten_nil, List.append_nil]
theorem flT_drop {α : Type} (f : α → List UInt8) (d : α) (l : List α) (i : Nat) (h : i < l.length) : flT f (l.drop i) = f (l.getD i d) ++ flT f (l.drop (i + 1)) := by
  rw [List.drop_eq_getElem_cons h, List.getD_eq_getElem?_getD, List.getElem?_eq_getElem h]; rfl
theorem flT_len {α : Type} {f : α → List UInt8} {k : Nat} : ∀ {l : List α}, (∀ x ∈ l, (f x).length ≤ k) → (flT f l).length ≤ k * l.length
  | [], _ => by simp [flT]
  | x :: l, h => by
    rw [flT_cons, List.length_append, List.length_cons, Nat.mul_add]
    have h1 := h x (List.mem_cons_self ..)
    have h2 := flT_len (l := l) fun y hy => h y (List.mem_cons_of_mem _ hy)
    omega
def mbB (m : Mb) : List UInt8 := textB m.name ++ numB m.power.toNat
def encSet (l : List Mb) : List UInt8 := numB l.length ++ flT mbB l
theorem mbB_len {m : Mb} (h1 : m.name.length ≤ 6) (h2 : m.power ≤ 1000) : (textB m.name).length ≤ 15 ∧ (numB m.power.toNat).length ≤ 9 := by
  have a := (numB_len (n := m.name.length) (by omega)).2
  have b := (numB_len (n := m.power.toNat) (by omega)).2
  exact ⟨by rw [textB, List.length_append]; omega, b⟩
theorem encSet_len {l : List Mb} (h : fineSet l = true) : (encSet l).length ≤ 177 := by
  obtain ⟨h1, h2, h3⟩ := fineSet_spec h
  have a := (numB_len (n := l.length) (by omega)).2
  have b := flT_len (f := mbB) (k := 24) (l := l) fun m hm => by
    obtain ⟨p, _, q⟩ := h3 m hm
    have := mbB_len p q
    rw [mbB, List.length_append]; omega
  rw [encSet, List.length_append]; omega
theorem numR_pos {n : Int} (h : 0 ≤ n) : numR n = (numB n.toNat, 0) := by simp only [numR]; rw [if_neg (by omega)]
def encO {α : Type} (fine : α → Bool) (enc : α → List UInt8) (x : α) : List UInt8 := if fine x then enc x else []
end Go.Proofs.YtmlncbdfbodjoaaDoor
namespace Go.Proofs.YtmlncbdfbodjoaaDoor
open Go Go.Sse
set_option linter.unusedVariables false
set_option linter.unusedSimpArgs false
set_option maxRecDepth 10000
def DecR {α : Type} (fine : α → Bool) (enc : α → List UInt8) (s : List UInt8) : Option α → Prop
  | some x => fine x = true ∧ enc x = s
  | none => ∀ x, fine x = true → enc x ≠ s
structure RdM (s : List UInt8) (many : Nat) (acc : List Mb) (st : PSt) : Prop where
  sound : ∀ rest, st = some rest → s = numB many ++ (flT mbB acc ++ rest)
  whole : ∀ l, fineSet l = true → encSet l = s → many = l.length ∧ acc.length ≤ l.length ∧ acc = l.take acc.length ∧ st = some (flT mbB (l.drop acc.length))
theorem RdM.step {s : List UInt8} {many : Nat} {acc : List Mb} {st st1 st2 : PSt} {t : List UInt8} {n : Nat} (h : RdM s many acc st) (hi : acc.length < many) (h1 : textP 6 st = (t, st1)) (h2 : numP st1 = (n, st2)) : RdM s many (acc ++ [⟨t, (n : Int)⟩]) st2 := by
  refine ⟨fun rest hr => ?_, fun l g1 g2 => ?_⟩
  · subst hr
    obtain ⟨e1, _⟩ := numP_good h2
    subst e1
    obtain ⟨e2, _⟩ := textP_good h1
    rw [h.sound _ e2, flT_app, flT_cons, flT_nil, mbB]
    simp only [List.append_assoc, List.append_nil, List.nil_append, Int.toNat_natCast]
  · obtain ⟨k1, k2, k3, k4⟩ := h.whole l g1 g2
    obtain ⟨f1, f2, f3⟩ := fineSet_spec g1
    have hlt : acc.length < l.length := by omega
    obtain ⟨p1, p2, p3⟩ := f3 _ (getD_mem (d := mb0) hlt)
    rw [k4, flT_drop mbB mb0 l _ hlt, mbB, List.append_assoc, textP_back _ _ (by omega) (by omega)] at h1
    simp only [Prod.mk.injEq] at h1
    obtain ⟨rfl, rfl⟩ := h1
    rw [numP_back _ (by omega)] at h2
    simp only [Prod.mk.injEq] at h2
    obtain ⟨rfl, rfl⟩ := h2
    have hx : (⟨(l.getD acc.length mb0).name, (((l.getD acc.length mb0).power.toNat : Nat) : Int)⟩ : Mb) = l.getD acc.length mb0 := by
      rw [Int.toNat_of_nonneg (by omega)]
    have ht : l.take (acc.length + 1) = l.take acc.length ++ [l.getD acc.length mb0] := by
      rw [List.take_add_one, List.getElem?_eq_getElem hlt, List.getD_eq_getElem?_getD, List.getElem?_eq_getElem hlt]; rfl
    rw [hx]
    simp only [List.length_append, List.length_cons, List.length_nil, Nat.zero_add]
    exact ⟨k1, hlt, by rw [ht, ← k3], by trivial⟩
theorem RdM.yes {s : List UInt8} {many : Nat} {acc : List Mb} {st : PSt} (h : RdM s many acc st) (h1 : st = some []) (h2 : acc.length = many) (h3 : fineSet acc = true) : DecR fineSet encSet s (some acc) :=
  ⟨h3, by rw [h.sound _ h1, List.append_nil, encSet, h2]⟩
theorem RdM.no {s : List UInt8} {many : Nat} {acc : List Mb} {st : PSt} (h : RdM s many acc st) (hstop : acc.length < many → acc.length ≤ 7 → st = none) (hbad : ¬ (st = some [] ∧ acc.length = many ∧ fineSet acc = true)) : DecR fineSet encSet s none := by
  intro l g1 g2
  obtain ⟨k1, k2, k3, k4⟩ := h.whole l g1 g2
  obtain ⟨f1, f2, f3⟩ := fineSet_spec g1
  have he : ¬ acc.length < many := fun hlt => by rw [hstop hlt (by omega)] at k4; cases k4
  have ha : acc.length = l.length := by omega
  rw [ha, List.take_length] at k3
  subst k3
  rw [List.drop_length] at k4
  exact hbad ⟨k4, by omega, g1⟩
end Go.Proofs.YtmlncbdfbodjoaaDoor
namespace Go.Proofs.YtmlncbdfbodjoaaDoor
open Go Go.Sse
set_option linter.unusedVariables false
set_option linter.unusedSimpArgs false
set_option maxRecDepth 10000
theorem numB_ap {a b : Nat} {r q : List UInt8} (ha : a < 9223372036854775808) (hb : b < 9223372036854775808) (h : numB a ++ r = numB b ++ q) : a = b ∧ r = q := by
  have := numP_back a ha r
  rw [h, numP_back b hb q] at this
  simp only [Prod.mk.injEq, Option.some.injEq] at this
  exact ⟨this.1.symm, this.2.symm⟩
theorem textB_ap {a b : List UInt8} {r q : List UInt8} (ha : a.length < 9223372036854775808) (hb : b.length < 9223372036854775808) (h : textB a ++ r = textB b ++ q) : a = b ∧ r = q := by
  have := textP_back (m := 9223372036854775808) a r (by omega) ha
  rw [h, textP_back b q (by omega) hb] at this
  simp only [Prod.mk.injEq, Option.some.injEq] at this
  exact ⟨this.1.symm, this.2.symm⟩
theorem mbs_inj : ∀ {a b : List Mb}, a.length = b.length → (∀ m ∈ a, m.name.length ≤ 6 ∧ 1 ≤ m.power ∧ m.power ≤ 1000) → (∀ m ∈ b, m.name.length ≤ 6 ∧ 1 ≤ m.power ∧ m.power ≤ 1000) → flT mbB a = flT mbB b → a = b
  | [], [], _, _, _, _ => rfl
  | [], _ :: _, h, _, _, _ => by simp at h
  | _ :: _, [], h, _, _, _ => by simp at h
  | x :: a, y :: b, h, ha, hb, he => by
    rw [flT_cons, flT_cons, mbB, mbB, List.append_assoc, List.append_assoc] at he
    obtain ⟨p1, p2, p3⟩ := ha x (List.mem_cons_self ..)
    obtain ⟨q1, q2, q3⟩ := hb y (List.mem_cons_self ..)
    obtain ⟨e1, he⟩ := textB_ap (by omega) (by omega) he
    obtain ⟨e2, he⟩ := numB_ap (by omega) (by omega) he
    have := mbs_inj (by simpa using h) (fun m hm => ha m (List.mem_cons_of_mem _ hm)) (fun m hm => hb m (List.mem_cons_of_mem _ hm)) he
    have hxy : x = y := by
      cases x; cases y
      simp only at e1 e2 p2 q2
      simp only [Mb.mk.injEq]
      exact ⟨e1, by omega⟩
    rw [this, hxy]
theorem encSet_inj {a b : List Mb} (ha : fineSet a = true) (hb : fineSet b = true) (h : encSet a = encSet b) : a = b := by
  obtain ⟨p1, p2, p3⟩ := fineSet_spec ha
  obtain ⟨q1, q2, q3⟩ := fineSet_spec hb
  obtain ⟨e1, e2⟩ := numB_ap (by omega) (by omega) h
  exact mbs_inj e1 p3 q3 e2
structure Tx where
  kind : Int
  from_ : List UInt8
  seq : Int
  to_ : List UInt8
  amount : Int
  key : List UInt8
  value : List UInt8
  members : List Mb
theorem Tx.ext' {x y : Tx} (h1 : x.kind = y.kind) (h2 : x.from_ = y.from_) (h3 : x.seq = y.seq) (h4 : x.to_ = y.to_) (h5 : x.amount = y.amount) (h6 : x.key = y.key) (h7 : x.value = y.value) (h8 : x.members = y.members) : x = y := by
  cases x; cases y; simp_all
instance : DecidableEq Tx := fun x y => decidable_of_iff ((((((((x.kind = y.kind ∧ x.from_ = y.from_) ∧ x.seq = y.seq) ∧ x.to_ = y.to_) ∧ x.amount = y.amount) ∧ x.key = y.key) ∧ x.value = y.value)) ∧ x.members = y.members) ⟨fun h => by cases x; cases y; simp_all, fun h => by subst h; simp⟩
def nameB (s : List UInt8) : Bool := decide (s ≠ []) && decide ((s.length : Int) ≤ 6)
def noneTA (x : Tx) : Bool := decide (x.to_ = []) && decide (x.amount = 0)
def noneKV (x : Tx) : Bool := decide (x.key = []) && decide (x.value = [])
def noneM (x : Tx) : Bool := decide ((x.members.length : Int) = 0)
def bareTx (x : Tx) : Bool := if x.kind = 1 then noneKV x && noneM x else if x.kind = 2 then noneTA x && noneM x else if x.kind = 3 then (noneTA x && noneM x) && decide (x.value = []) else if x.kind = 4 then noneTA x && noneKV x else false
def badTx (x : Tx) : Bool := ((!bareTx x || !nameB x.from_) || decide (x.seq < 0)) || decide (1099511627776 < x.seq)
def keyB (b : Bool) (x : Tx) : Bool := (b && decide (x.key ≠ [])) && decide ((x.key.length : Int) ≤ 6)
def valB' (x : Tx) : Bool := decide (x.value ≠ []) && decide ((x.value.length : Int) ≤ 32)
def moveB (x : Tx) : Bool := (nameB x.to_ && decide (1 ≤ x.amount)) && decide (x.amount ≤ 1099511627776)
def kindTx (x : Tx) : Bool := if x.kind = 1 then moveB x else if x.kind = 2 then keyB (valB' x) x else if x.kind = 3 then keyB true x else fineSet x.members
def fineTx (x : Tx) : Bool := !badTx x && kindTx x
def bodyTx (x : Tx) : List UInt8 := if x.kind = 1 then textB x.to_ ++ numB x.amount.toNat else if x.kind = 2 then textB x.key ++ textB x.value else if x.kind = 3 then textB x.key else textB (encSet x.members)
def encTx (x : Tx) : List UInt8 := [UInt8.ofNat x.kind.toNat] ++ textB x.from_ ++ numB x.seq.toNat ++ bodyTx x
structure FineT (x : Tx) : Prop where
  kind : 1 ≤ x.kind ∧ x.kind ≤ 4
  from1 : x.from_ ≠ []
  from6 : x.from_.length ≤ 6
  seq0 : 0 ≤ x.seq
  seqM : x.seq ≤ 1099511627776
  k1 : x.kind = 1 → (x.to_ ≠ [] ∧ x.to_.length ≤ 6 ∧ 1 ≤ x.amount ∧ x.amount ≤ 1099511627776) ∧ x.key = [] ∧ x.value = [] ∧ x.members = []
  k2 : x.kind = 2 → (x.value ≠ [] ∧ x.value.length ≤ 32 ∧ x.key ≠ [] ∧ x.key.length ≤ 6) ∧ x.to_ = [] ∧ x.amount = 0 ∧ x.members = []
  k3 : x.kind = 3 → (x.key ≠ [] ∧ x.key.length ≤ 6) ∧ x.value = [] ∧ x.to_ = [] ∧ x.amount = 0 ∧ x.members = []
  k4 : x.kind = 4 → fineSet x.members = true ∧ x.to_ = [] ∧ x.amount = 0 ∧ x.key = [] ∧ x.value = []
theorem len0 {α : Type} {l : List α} (h : (l.length : Int) = 0) : l = [] := List.eq_nil_of_length_eq_zero (by omega)
theorem fineTx_iff (x : Tx) : fineTx x = true ↔ FineT x := by
  constructor
  · intro h
    simp only [fineTx, badTx, Bool.and_eq_true, Bool.not_eq_true', Bool.or_eq_false_iff, Bool.not_eq_false', decide_eq_false_iff_not, nameB, decide_eq_true_eq] at h
    obtain ⟨⟨⟨⟨hb, hn1, hn2⟩, hs1⟩, hs2⟩, hk⟩ := h
    by_cases e1 : x.kind = 1
    · simp only [bareTx, if_pos e1, noneKV, noneM, Bool.and_eq_true, decide_eq_true_eq] at hb
      simp only [kindTx, if_pos e1, moveB, nameB, Bool.and_eq_true, decide_eq_true_eq] at hk
      exact ⟨by omega, hn1, by omega, by omega, by omega, fun _ => ⟨⟨hk.1.1.1, by omega, by omega, by omega⟩, hb.1.1, hb.1.2, len0 hb.2⟩, fun h => by omega, fun h => by omega, fun h => by omega⟩
    · by_cases e2 : x.kind = 2
      · simp only [bareTx, if_neg e1, if_pos e2, noneTA, noneM, Bool.and_eq_true, decide_eq_true_eq] at hb
        simp only [kindTx, if_neg e1, if_pos e2, keyB, valB', Bool.and_eq_true, decide_eq_true_eq] at hk
        exact ⟨by omega, hn1, by omega, by omega, by omega, fun h => by omega, fun _ => ⟨⟨hk.1.1.1, by omega, hk.1.2, by omega⟩, hb.1.1, hb.1.2, len0 hb.2⟩, fun h => by omega, fun h => by omega⟩
      · by_cases e3 : x.kind = 3
        · simp only [bareTx, if_neg e1, if_neg e2, if_pos e3, noneTA, noneM, Bool.and_eq_true, decide_eq_true_eq] at hb
          simp only [kindTx, if_neg e1, if_neg e2, if_pos e3, keyB, Bool.and_eq_true, decide_eq_true_eq] at hk
          exact ⟨by omega, hn1, by omega, by omega, by omega, fun h => by omega, fun h => by omega, fun _ => ⟨⟨hk.1.2, by omega⟩, hb.2, hb.1.1.1, hb.1.1.2, len0 hb.1.2⟩, fun h => by omega⟩
        · by_cases e4 : x.kind = 4
          · simp only [bareTx, if_neg e1, if_neg e2, if_neg e3, if_pos e4, noneTA, noneKV, Bool.and_eq_true, decide_eq_true_eq] at hb
            simp only [kindTx, if_neg e1, if_neg e2, if_neg e3] at hk
            exact ⟨by omega, hn1, by omega, by omega, by omega, fun h => by omega, fun h => by omega, fun h => by omega, fun _ => ⟨hk, hb.1.1, hb.1.2, hb.2.1, hb.2.2⟩⟩
          · simp only [bareTx, if_neg e1, if_neg e2, if_neg e3, if_neg e4] at hb
            cases hb
  · intro h
    have hk := h.kind
    have f1 := h.from1; have f2 := h.from6; have f3 := h.seq0; have f4 := h.seqM
    simp only [fineTx, badTx, Bool.and_eq_true, Bool.not_eq_true', Bool.or_eq_false_iff, Bool.not_eq_false', decide_eq_false_iff_not, nameB, decide_eq_true_eq]
    have hh : bareTx x = true ∧ kindTx x = true := by
      by_cases e1 : x.kind = 1
      · obtain ⟨⟨a1, a2, a3, a4⟩, b1, b2, b3⟩ := h.k1 e1
        simp only [bareTx, kindTx, if_pos e1, noneKV, noneM, moveB, nameB, Bool.and_eq_true, decide_eq_true_eq, b1, b2, b3]
        exact ⟨⟨by simp, by simp⟩, ⟨⟨a1, by omega⟩, a3⟩, a4⟩
      · by_cases e2 : x.kind = 2
        · obtain ⟨⟨a1, a2, a3, a4⟩, b1, b2, b3⟩ := h.k2 e2
          simp only [bareTx, kindTx, if_neg e1, if_pos e2, noneTA, noneM, keyB, valB', Bool.and_eq_true, decide_eq_true_eq, b1, b2, b3]
          exact ⟨⟨by simp, by simp⟩, ⟨⟨a1, by omega⟩, a3⟩, by omega⟩
        · by_cases e3 : x.kind = 3
          · obtain ⟨⟨a1, a2⟩, b1, b2, b3, b4⟩ := h.k3 e3
            simp only [bareTx, kindTx, if_neg e1, if_neg e2, if_pos e3, noneTA, noneM, keyB, Bool.and_eq_true, decide_eq_true_eq, b1, b2, b3, b4]
            exact ⟨⟨by simp, trivial⟩, ⟨trivial, a1⟩, by omega⟩
          · have e4 : x.kind = 4 := by omega
            obtain ⟨a1, b1, b2, b3, b4⟩ := h.k4 e4
            simp only [bareTx, kindTx, if_neg e1, if_neg e2, if_neg e3, if_pos e4, noneTA, noneKV, Bool.and_eq_true, decide_eq_true_eq, b1, b2, b3, b4, a1]
            simp
    exact ⟨⟨⟨⟨hh.1, f1, by omega⟩, by omega⟩, by omega⟩, hh.2⟩
theorem textB_len {s : List UInt8} {k : Nat} (h : s.length ≤ k) (hk : k ≤ 1099511627776) : (textB s).length ≤ k + 9 := by
  have := (numB_len (n := s.length) (by omega)).2
  rw [textB, List.length_append]; omega
def TailR (m1 m2 m3 m4 : Int) (x : Tx) (st st' : PSt) : Prop :=
  if x.kind = 1 then (∃ (st1 : PSt) (n : Nat), textP m1 st = (x.to_, st1) ∧ numP st1 = (n, st') ∧ x.amount = (n : Int)) ∧ x.key = [] ∧ x.value = [] ∧ x.members = []
  else if x.kind = 2 then (∃ st1 : PSt, textP m2 st = (x.key, st1) ∧ textP m3 st1 = (x.value, st')) ∧ x.to_ = [] ∧ x.amount = 0 ∧ x.members = []
  else if x.kind = 3 then textP m2 st = (x.key, st') ∧ x.to_ = [] ∧ x.amount = 0 ∧ x.value = [] ∧ x.members = []
  else if x.kind = 4 then (∃ t o, textP m4 st = (t, st') ∧ DecR fineSet encSet t o ∧ x.members = o.getD []) ∧ x.to_ = [] ∧ x.amount = 0 ∧ x.key = [] ∧ x.value = []
  else True
structure ReadT (m0 m1 m2 m3 m4 : Int) (s : List UInt8) (x : Tx) (st : PSt) : Prop where
  go : ∃ (k : List UInt8) (st1 st2 st3 : PSt) (q : Nat), bytesP 1 (some s) = (k, st1) ∧ x.kind = (((k.getD 0 0).toNat : Nat) : Int) ∧ textP m0 st1 = (x.from_, st2) ∧ numP st2 = (q, st3) ∧ x.seq = (q : Int) ∧ TailR m1 m2 m3 m4 x st3 st
theorem ReadT.sound {m0 m1 m2 m3 m4 : Int} {s : List UInt8} {x : Tx} (h : ReadT m0 m1 m2 m3 m4 s x (some [])) (hf : fineTx x = true) : encTx x = s := by
  obtain ⟨k, st1, st2, st3, q, e1, ek, e2, e3, eq, e4⟩ := h.go
  have hF := (fineTx_iff x).1 hf
  have hk := hF.kind
  have h3 : st3 = some (bodyTx x) := by
    unfold TailR at e4
    unfold bodyTx
    by_cases c1 : x.kind = 1
    · rw [if_pos c1] at e4 ⊢
      obtain ⟨⟨s1, n, a1, a2, a3⟩, _⟩ := e4
      obtain ⟨rfl, _⟩ := numP_good a2
      rw [(textP_good a1).1, a3, List.append_nil, Int.toNat_natCast]
    · by_cases c2 : x.kind = 2
      · rw [if_neg c1, if_pos c2] at e4 ⊢
        obtain ⟨⟨s1, a1, a2⟩, _⟩ := e4
        obtain ⟨rfl, _⟩ := textP_good a2
        rw [(textP_good a1).1, List.append_nil]
      · by_cases c3 : x.kind = 3
        · rw [if_neg c1, if_neg c2, if_pos c3] at e4 ⊢
          rw [(textP_good e4.1).1, List.append_nil]
        · have c4 : x.kind = 4 := by omega
          rw [if_neg c1, if_neg c2, if_neg c3, if_pos c4] at e4
          rw [if_neg c1, if_neg c2, if_neg c3]
          obtain ⟨⟨t, o, a1, a2, a3⟩, _⟩ := e4
          have hm := (hF.k4 c4).1
          cases o with
          | none => rw [a3] at hm; cases hm
          | some l =>
            simp only [Option.getD_some] at a3
            rw [(textP_good a1).1, a3, a2.2, List.append_nil]
  subst h3
  obtain ⟨rfl, _⟩ := numP_good e3
  obtain ⟨rfl, _⟩ := textP_good e2
  obtain ⟨g1, g2⟩ := bytesP_good e1
  obtain ⟨b, rfl⟩ : ∃ b, k = [b] := by
    match k, g2 with
    | [b], _ => exact ⟨b, rfl⟩
  simp only [Option.some.injEq] at g1
  rw [g1, encTx, ek, eq]
  simp only [Int.toNat_natCast, List.getD_cons_zero, List.append_assoc]
  congr 2
  apply UInt8.toNat_inj.1
  simp
theorem ReadT.whole {m0 m1 m2 m3 m4 : Int} {s : List UInt8} {x y : Tx} {st : PSt} (h : ReadT m0 m1 m2 m3 m4 s x st) (h0 : 6 ≤ m0) (h1 : 6 ≤ m1) (h2 : 6 ≤ m2) (h3 : 32 ≤ m3) (h4 : 177 ≤ m4)
    (hf : fineTx y = true) (hs : encTx y = s) : x = y ∧ st = some [] := by
  obtain ⟨k, st1, st2, st3, q, e1, ek, e2, e3, eq, e4⟩ := h.go
  have hF := (fineTx_iff y).1 hf
  have hk := hF.kind
  have f6 := hF.from6
  have fs0 := hF.seq0
  have fsM := hF.seqM
  rw [← hs, encTx, List.append_assoc, List.append_assoc, bytesP_back' (n := 1) [UInt8.ofNat y.kind.toNat] _ rfl] at e1
  simp only [Prod.mk.injEq] at e1
  obtain ⟨rfl, rfl⟩ := e1
  rw [textP_back _ _ (by omega) (by omega)] at e2
  simp only [Prod.mk.injEq] at e2
  obtain ⟨p2, rfl⟩ := e2
  rw [numP_back _ (by omega)] at e3
  simp only [Prod.mk.injEq] at e3
  obtain ⟨rfl, rfl⟩ := e3
  have pk : x.kind = y.kind := by
    rw [ek]
    simp only [List.getD_cons_zero, UInt8.toNat_ofNat']
    omega
  have ps : x.seq = y.seq := by rw [eq]; omega
  unfold TailR at e4
  unfold bodyTx at e4
  by_cases c1 : y.kind = 1
  · rw [if_pos (by omega), if_pos c1] at e4
    obtain ⟨⟨a1, a2, a3, a4⟩, b1, b2, b3⟩ := hF.k1 c1
    obtain ⟨⟨s1, n, d1, d2, d3⟩, d4, d5, d6⟩ := e4
    rw [textP_back _ _ (by omega) (by omega)] at d1
    simp only [Prod.mk.injEq] at d1
    obtain ⟨d1, rfl⟩ := d1
    rw [← List.append_nil (numB y.amount.toNat), numP_back _ (by omega)] at d2
    simp only [Prod.mk.injEq] at d2
    obtain ⟨rfl, rfl⟩ := d2
    exact ⟨Tx.ext' pk p2.symm ps d1.symm (by omega) (by rw [d4, b1]) (by rw [d5, b2]) (by rw [d6, b3]), rfl⟩
  · by_cases c2 : y.kind = 2
    · rw [if_neg (by omega), if_pos (by omega), if_neg c1, if_pos c2] at e4
      obtain ⟨⟨a1, a2, a3, a4⟩, b1, b2, b3⟩ := hF.k2 c2
      obtain ⟨⟨s1, d1, d2⟩, d4, d5, d6⟩ := e4
      rw [textP_back _ _ (by omega) (by omega)] at d1
      simp only [Prod.mk.injEq] at d1
      obtain ⟨d1, rfl⟩ := d1
      rw [← List.append_nil (textB y.value), textP_back _ _ (by omega) (by omega)] at d2
      simp only [Prod.mk.injEq] at d2
      obtain ⟨d2, rfl⟩ := d2
      exact ⟨Tx.ext' pk p2.symm ps (by rw [d4, b1]) (by rw [d5, b2]) d1.symm d2.symm (by rw [d6, b3]), rfl⟩
    · by_cases c3 : y.kind = 3
      · rw [if_neg (by omega), if_neg (by omega), if_pos (by omega), if_neg c1, if_neg c2, if_pos c3] at e4
        obtain ⟨⟨a1, a2⟩, b1, b2, b3, b4⟩ := hF.k3 c3
        obtain ⟨d1, d2, d3, d4, d5⟩ := e4
        rw [← List.append_nil (textB y.key), textP_back _ _ (by omega) (by omega)] at d1
        simp only [Prod.mk.injEq] at d1
        obtain ⟨d1, rfl⟩ := d1
        exact ⟨Tx.ext' pk p2.symm ps (by rw [d2, b2]) (by rw [d3, b3]) d1.symm (by rw [d4, b1]) (by rw [d5, b4]), rfl⟩
      · have c4 : y.kind = 4 := by omega
        rw [if_neg (by omega), if_neg (by omega), if_neg (by omega), if_pos (by omega), if_neg c1, if_neg c2, if_neg c3] at e4
        obtain ⟨a1, b1, b2, b3, b4⟩ := hF.k4 c4
        have hl := encSet_len a1
        obtain ⟨⟨t, o, d1, d2, d3⟩, d4, d5, d6, d7⟩ := e4
        rw [← List.append_nil (textB (encSet y.members)), textP_back _ _ (by omega) (by omega)] at d1
        simp only [Prod.mk.injEq] at d1
        obtain ⟨d1, rfl⟩ := d1
        have hm : x.members = y.members := by
          cases o with
          | none => exact absurd d1 (d2 _ a1)
          | some l =>
            rw [d3]
            have e : encSet l = encSet y.members := by rw [d2.2, d1]
            have h7 := (fineSet_spec d2.1).2.1
            have h7' := (fineSet_spec a1).2.1
            exact encSet_inj d2.1 a1 e
        exact ⟨Tx.ext' pk p2.symm ps (by rw [d4, b1]) (by rw [d5, b2]) (by rw [d6, b3]) (by rw [d7, b4]) hm, rfl⟩
end Go.Proofs.YtmlncbdfbodjoaaDoor
namespace Go.Proofs.YtmlncbdfbodjoaaDoor.Sha
open Go Go.Sse
set_option linter.unusedVariables false
set_option linter.unusedSimpArgs false
abbrev Wd := BitVec 32
def rot (x : Wd) (n : Nat) : Wd := x >>> n ||| x <<< (32 - n)
def sig0 (x : Wd) : Wd := rot x 7 ^^^ rot x 18 ^^^ x >>> 3
def sig1 (x : Wd) : Wd := rot x 17 ^^^ rot x 19 ^^^ x >>> 10
def byteAt (b : List UInt8) (i : Nat) : Wd := BitVec.ofNat 32 (b.getD i 0).toNat
def word (b : List UInt8) (i : Nat) : Wd := byteAt b (4 * i) <<< 24 ||| byteAt b (4 * i + 1) <<< 16 ||| byteAt b (4 * i + 2) <<< 8 ||| byteAt b (4 * i + 3)
def nextW (l : List Wd) (n : Nat) : Wd := l.getD (n - 16) 0 + sig0 (l.getD (n - 15) 0) + l.getD (n - 7) 0 + sig1 (l.getD (n - 2) 0)
def sched (b : List UInt8) : Nat → List Wd
  | 0 => []
  | n + 1 => sched b n ++ [if n < 16 then word b n else nextW (sched b n) n]
def W (b : List UInt8) (n : Nat) : Wd := (sched b (n + 1)).getD n 0
theorem sched_len (b : List UInt8) : ∀ n, (sched b n).length = n
  | 0 => rfl
  | n + 1 => by simp [sched, sched_len b n]
theorem sched_get (b : List UInt8) : ∀ n i, i < n → (sched b n).getD i 0 = W b i
  | 0, i, h => by omega
  | n + 1, i, h => by
    by_cases hi : i = n
    · subst hi; rfl
    · have : i < n := by omega
      rw [← sched_get b n i this]
      simp only [sched, List.getD_eq_getElem?_getD]
      rw [List.getElem?_append_left (by rw [sched_len]; exact this)]
structure S8 where
  a : Wd
  b : Wd
  c : Wd
  d : Wd
  e : Wd
  f : Wd
  g : Wd
  h : Wd
def S8.list (s : S8) : List Wd := [s.a, s.b, s.c, s.d, s.e, s.f, s.g, s.h]
abbrev S8.cells (s : S8) : List SV := [u32 s.a, u32 s.b, u32 s.c, u32 s.d, u32 s.e, u32 s.f, u32 s.g, u32 s.h]
def S8.one (s : S8) (k w : Wd) : Wd := s.h + (rot s.e 6 ^^^ rot s.e 11 ^^^ rot s.e 25) + (s.e &&& s.f ^^^ ~~~s.e &&& s.g) + k + w
def S8.two (s : S8) : Wd := (rot s.a 2 ^^^ rot s.a 13 ^^^ rot s.a 22) + (s.a &&& s.b ^^^ s.a &&& s.c ^^^ s.b &&& s.c)
def S8.round (s : S8) (k w : Wd) : S8 := ⟨s.one k w + s.two, s.a, s.b, s.c, s.d + s.one k w, s.e, s.f, s.g⟩
def kAt (i : Nat) : Wd := BitVec.ofNat 32 (shaK.getD i 0)
def rounds (s : S8) (b : List UInt8) : Nat → S8
  | 0 => s
  | n + 1 => (rounds s b n).round (kAt n) (W b n)
def S8.add (s t : S8) : S8 := ⟨s.a + t.a, s.b + t.b, s.c + t.c, s.d + t.d, s.e + t.e, s.f + t.f, s.g + t.g, s.h + t.h⟩
def blockS (s : S8) (b : List UInt8) : S8 := (rounds s b 64).add s
def first8 : S8 := ⟨0x6a09e667#32, 0xbb67ae85#32, 0x3c6ef372#32, 0xa54ff53a#32, 0x510e527f#32, 0x9b05688c#32, 0x1f83d9ab#32, 0x5be0cd19#32⟩
def wordB (w : Wd) : List UInt8 := [UInt8.ofNat (w >>> 24).toNat, UInt8.ofNat (w >>> 16).toNat, UInt8.ofNat (w >>> 8).toNat, UInt8.ofNat w.toNat]
def toldS (s : S8) : List UInt8 := s.list.flatMap wordB
theorem told_len (s : S8) : (toldS s).length = 32 := rfl
def blocksS (s : S8) (l : List UInt8) : S8 × List UInt8 :=
  if h : 64 ≤ l.length then blocksS (blockS s (l.take 64)) (l.drop 64) else (s, l)
termination_by l.length
decreasing_by simp only [List.length_drop]; omega
theorem blocksS_lt {s : S8} {l : List UInt8} (h : l.length < 64) : blocksS s l = (s, l) := by
  rw [blocksS, dif_neg (by omega)]
theorem blocksS_ge {s : S8} {l : List UInt8} (h : 64 ≤ l.length) : blocksS s l = blocksS (blockS s (l.take 64)) (l.drop 64) := by
  rw [blocksS, dif_pos h]
theorem blocksS_app : ∀ (n : Nat) (s : S8) (l t : List UInt8), l.length ≤ n → blocksS s (l ++ t) = blocksS (blocksS s l).1 ((blocksS s l).2 ++ t) := by
  intro n
  induction n with
  | zero => intro s l t h; have : l = [] := List.eq_nil_of_length_eq_zero (by omega); subst this; rw [blocksS_lt (s := s) (l := []) (by simp)]
  | succ n ih =>
    intro s l t h
    by_cases h64 : 64 ≤ l.length
    · rw [blocksS_ge (l := l) h64, blocksS_ge (l := l ++ t) (by simp; omega), List.take_append_of_le_length h64, List.drop_append_of_le_length h64]
      exact ih _ _ _ (by simp only [List.length_drop]; omega)
    · rw [blocksS_lt (l := l) (by omega)]
theorem blocksS_left : ∀ (n : Nat) (s : S8) (l : List UInt8), l.length ≤ n → (blocksS s l).2.length = l.length % 64 := by
  intro n
  induction n with
  | zero => intro s l h; rw [blocksS_lt (by omega)]; simp only; omega
  | succ n ih =>
    intro s l h
    by_cases h64 : 64 ≤ l.length
    · rw [blocksS_ge h64, ih _ _ (by simp only [List.length_drop]; omega), List.length_drop]; omega
    · rw [blocksS_lt (by omega)]; simp only; omega
def zerosOf (n : Nat) : Nat := (119 - n % 64) % 64
def lenB (n : Nat) : List UInt8 := (List.range 8).map fun i => UInt8.ofNat (n * 8 / 2 ^ (56 - 8 * i))
theorem lenB_len (n : Nat) : (lenB n).length = 8 := rfl
def padS (n : Nat) : List UInt8 := [128] ++ List.replicate (zerosOf n) 0 ++ lenB n
def shaS (l : List UInt8) : List UInt8 := toldS (blocksS first8 (l ++ padS l.length)).1
theorem shaS_len (l : List UInt8) : (shaS l).length = 32 := rfl
end Go.Proofs.YtmlncbdfbodjoaaDoor.Sha
namespace Go.Proofs.YtmlncbdfbodjoaaDoor.Sha
open Go Go.Sse
set_option linter.unusedVariables false
set_option linter.unusedSimpArgs false
theorem ref0 {F : List (Nat × SV)} {i : Nat} {s : SV} (h : Sse.look F i = some s) : ∃ t, Sse.look F i = some t ∧ Sub t s := ⟨s, h, .refl _⟩
theorem rot_ok (x : Wd) (n : Nat) (hn : n ≤ 32) : FnC Tryd.prog 132 [u32 x, u64 n] [] (fun s L => s = u32 (rot x n) ∧ L = []) := by
  refine FnC.intro Tryd.func132 rfl Tryd.ntmps132 rfl fun Z w0 hG => ?_
  focus (
    (refine W.seq ?_)
    (refine W.region ?_)
    (refine Jx.assign rfl rfl ?_)
    (refine J.nil ?_)
    (refine N.seq ?_)
    (refine W.seq ?_)
    (refine W.region ?_)
    (refine Jx.move rfl rfl ?_)
    (refine Jx.move rfl rfl ?_)
    (refine Jx.shrU rfl rfl hn rfl ?_)
    (refine Jx.move rfl rfl ?_)
    (refine Jx.move rfl rfl ?_)
    (refine Jx.subU64 (c := 32) rfl rfl hn (by decide) rfl ?_)
    (refine Jx.shlU rfl rfl (by omega) rfl ?_)
    (refine Jx.orU rfl rfl rfl ?_)
    (refine Jx.assign rfl rfl ?_)
    (refine J.nil ?_)
    (refine N.seq ?_)
    (refine W.ret ?_)
    (refine id ?_; rotate_left))
  exact N.ret (rs := [.tmp 4]) rfl (.tmp rfl .nil) ⟨rfl, rfl⟩
theorem first_ok : FnC Tryd.prog 119 [] [] (fun s L => s = .agg first8.cells ∧ L = []) := by
  refine FnC.intro Tryd.func119 rfl Tryd.ntmps119 rfl fun Z w0 hG => ?_
  focus (
    (refine W.seq ?_)
    (refine W.region ?_)
    (refine J.alloc (by simp only [List.map_cons, List.map_nil]; rfl) rfl rfl ?_; intro b')
    (refine J.nil ?_)
    (refine N.seq ?_)
    (refine W.seq ?_)
    (refine W.region ?_)
    (refine Jx.buildA rfl rfl rfl rfl rfl ?_)
    (refine J.storeAll rfl rfl rfl 0 rfl rfl rfl ?_)
    (refine J.nil ?_)
    (refine N.seq ?_)
    (refine W.ret ?_)
    (refine id ?_; rotate_left))
  exact N.retD (rs := [.cell 0 126]) (L1 := []) rfl (.cell rfl 0 rfl inferInstance .nil) (List.nil_sublist _) ⟨rfl, rfl⟩
end Go.Proofs.YtmlncbdfbodjoaaDoor.Sha
namespace Go.Proofs.YtmlncbdfbodjoaaDoor.Sha
open Go Go.Sse
set_option maxRecDepth 10000
set_option linter.unusedVariables false
set_option linter.unusedSimpArgs false
def tab (b : List UInt8) (i : Nat) : List Wd := sched b i ++ List.replicate (64 - i) 0
theorem tab_len (b : List UInt8) (i : Nat) (h : i ≤ 64) : (tab b i).length = 64 := by simp [tab, sched_len]; omega
theorem tab_get (b : List UInt8) (i j : Nat) (h : j < i) : (tab b i).getD j 0 = (sched b i).getD j 0 := by
  simp only [tab, List.getD_eq_getElem?_getD]; rw [List.getElem?_append_left (by rw [sched_len]; exact h)]
theorem tab_set (b : List UInt8) (i : Nat) (h : i < 64) (v : Wd) (hv : v = if i < 16 then word b i else nextW (sched b i) i) : (tab b i).set i v = tab b (i + 1) := by
  subst hv
  unfold tab
  rw [List.set_append_right _ _ (by rw [sched_len]; exact Nat.le_refl _), sched_len, Nat.sub_self, show 64 - i = (64 - (i + 1)) + 1 by omega, List.replicate_succ, List.set_cons_zero]
  simp [sched]
theorem tab_next (b : List UInt8) (i : Nat) (h : 16 ≤ i) : (tab b i).getD (i - 16) 0 + (rot ((tab b i).getD (i - 15) 0) 7 ^^^ rot ((tab b i).getD (i - 15) 0) 18 ^^^ (tab b i).getD (i - 15) 0 >>> 3) + (tab b i).getD (i - 7) 0 + (rot ((tab b i).getD (i - 2) 0) 17 ^^^ rot ((tab b i).getD (i - 2) 0) 19 ^^^ (tab b i).getD (i - 2) 0 >>> 10) = nextW (sched b i) i := by
  rw [tab_get _ _ _ (by omega), tab_get _ _ _ (by omega), tab_get _ _ _ (by omega), tab_get _ _ _ (by omega)]; rfl
abbrev tabO (p : Nat) (ws : List Wd) : Own := .obj p 143 (ws.map u32)
abbrev blkO (p : Nat) (bs : List UInt8) : Own := .obj p 134 (bs.map byte)
set_option maxHeartbeats 2000000 in
theorem spread_ok (bs : List UInt8) (hb : bs.length = 64) : FnC Tryd.prog 131 [.agg (bs.map byte)] [] (fun s L => s = .agg ((sched bs 64).map u32) ∧ L = []) := by
  refine FnC.intro Tryd.func131 rfl Tryd.ntmps131 rfl fun Z w0 hG => ?_
  focus (
    (refine W.seq ?_)
    (refine W.region ?_)
    (refine J.boxAg rfl rfl ?_; intro b')
    (refine J.alloc (by simp only [List.map_cons, List.map_nil]; rfl) rfl rfl ?_; intro b')
    (refine J.nil ?_)
    (refine N.seq ?_)
    (refine W.seq ?_)
    (refine W.region ?_)
    (refine J.alloc (by simp only [List.map_cons, List.map_nil]; rfl) rfl rfl ?_; intro b')
    (refine J.nil ?_)
    (refine N.seq ?_)
    (refine W.seq ?_)
    (refine W.seq ?_)
    (refine W.region ?_)
    (refine Jx.move rfl rfl ?_)
    (refine J.nil ?_)
    (refine N.seq ?_)
    (refine W.block ?_)
    (refine id ?_; rotate_left))
  rename_i p1 p2
  refine W.loop (α := Nat × List Wd) (fun x => [(8, int x.1), (3, ptr b'), (2, ptr p2), (1, ptr p1)]) (fun x => [tabO b' x.2, tabO p2 (tab bs 0), blkO p1 bs]) (fun x => x.1 ≤ 16 ∧ x.2 = tab bs x.1) (fun x => 16 - x.1) (0, tab bs 0) ⟨by omega, rfl⟩ rfl ⟨ref0 rfl, ref0 rfl, ref0 rfl, ref0 rfl, trivial⟩ ?_
  have hz : (tab bs 0).length = 64 := tab_len bs 0 (by omega)
  generalize tab bs 0 = zs at *
  rintro ⟨i, ws⟩ ⟨hi, hw⟩
  simp only at hi hw ⊢
  have hl : ws.length = 64 := by rw [hw]; exact tab_len bs i (by omega)
  by_cases h : i < 16
  · focus (
    (refine W.seq ?_)
    (refine W.region ?_)
    (refine Jx.lssI rfl rfl rfl ?_)
    (refine J.nil ?_)
    (refine N.seq ?_)
    (refine W.seq ?_)
    (refine W.condT rfl (by first | rfl | assumption | (exact decide_eq_true (by first | assumption | omega | rfl)) | (exact decide_eq_false (by first | assumption | omega | rfl)) | (simp; done) | (simp; omega)) ?_)
    (refine W.skip ?_)
    (refine N.seq ?_)
    (refine W.seq ?_)
    (refine W.block ?_)
    (refine W.seq ?_)
    (refine W.region ?_)
    (refine Jx.move rfl rfl ?_)
    (refine Jx.assign rfl rfl ?_)
    (refine J.nil ?_)
    (refine N.seq ?_)
    (refine W.draw follows ?_)
    (refine JD.upto (n := 31) rfl (by decide +kernel) (by decide +kernel) rfl rfl ?_)
    (refine Cx.move rfl rfl ?_)
    (refine Cx.move rfl rfl ?_)
    (refine Cx.mul64 rfl rfl (by omega) rfl ?_)
    (refine Cx.index0 (4 * i) rfl rfl (by omega) (by omega) rfl ?_)
    (refine Cx.loadA byte 0 rfl 2 rfl (by omega) rfl ?_)
    (refine Cx.byteWord rfl rfl rfl ?_)
    (refine Cx.shlU rfl rfl (by decide) rfl ?_)
    (refine Cx.move rfl rfl ?_)
    (refine Cx.mul64 rfl rfl (by omega) rfl ?_)
    (refine Cx.add64 rfl rfl (by omega) rfl ?_)
    (refine Cx.index0 (4 * i + 1) rfl rfl (by omega) (by omega) rfl ?_)
    (refine Cx.loadA byte 0 rfl 2 rfl (by omega) rfl ?_)
    (refine Cx.byteWord rfl rfl rfl ?_)
    (refine Cx.shlU rfl rfl (by decide) rfl ?_)
    (refine Cx.orU rfl rfl rfl ?_)
    (refine Cx.move rfl rfl ?_)
    (refine Cx.mul64 rfl rfl (by omega) rfl ?_)
    (refine Cx.add64 rfl rfl (by omega) rfl ?_)
    (refine Cx.index0 (4 * i + 2) rfl rfl (by omega) (by omega) rfl ?_)
    (refine Cx.loadA byte 0 rfl 2 rfl (by omega) rfl ?_)
    (refine Cx.byteWord rfl rfl rfl ?_)
    (refine Cx.shlU rfl rfl (by decide) rfl ?_)
    (refine Cx.orU rfl rfl rfl ?_)
    (refine Cx.move rfl rfl ?_)
    (refine Cx.mul64 rfl rfl (by omega) rfl ?_)
    (refine Cx.add64 rfl rfl (by omega) rfl ?_)
    (refine Cx.index0 (4 * i + 3) rfl rfl (by omega) (by omega) rfl ?_)
    (refine Cx.loadA byte 0 rfl 2 rfl (by omega) rfl ?_)
    (refine Cx.byteWord rfl rfl rfl ?_)
    (refine Cx.orU rfl rfl rfl ?_)
    (refine Cx.index0 i rfl rfl (by omega) (by omega) rfl ?_)
    (refine SegC.nil ?_)
    (refine J.storeA u32 (word bs i) rfl rfl (One.val rfl) 0 rfl (by omega) rfl ?_)
    (refine J.nil ?_)
    (refine N.seq ?_)
    (refine W.region ?_)
    (refine Jx.add64 rfl rfl (by omega) rfl ?_)
    (refine Jx.move rfl rfl ?_)
    (refine J.nil ?_)
    (refine id ?_; rotate_left))
    exact N.round (i + 1, ws.set i (word bs i)) ⟨by omega, by rw [hw]; exact tab_set bs i (by omega) (word bs i) (by rw [if_pos h])⟩ (by simp only; omega) rfl ⟨ref0 rfl, ref0 rfl, ref0 rfl, ref0 rfl, trivial⟩
  · have h16 : i = 16 := by omega
    focus (
    (refine W.seq ?_)
    (refine W.region ?_)
    (refine Jx.lssI rfl rfl rfl ?_)
    (refine J.nil ?_)
    (refine N.seq ?_)
    (refine W.seq ?_)
    (refine W.condF rfl (by first | rfl | assumption | (exact decide_eq_true (by first | assumption | omega | rfl)) | (exact decide_eq_false (by first | assumption | omega | rfl)) | (simp; done) | (simp; omega)) ?_)
    (refine W.exit ?_)
    (refine N.seq ?_)
    (refine W.seq ?_)
    (refine W.seq ?_)
    (refine W.region ?_)
    (refine Jx.assign rfl rfl ?_)
    (refine J.nil ?_)
    (refine N.seq ?_)
    (refine W.block ?_)
    (refine id ?_; rotate_left))
    refine W.loop (α := Nat × List Wd) (fun x => [(5, int x.1), (3, ptr b'), (2, ptr p2), (1, ptr p1)]) (fun x => [tabO b' x.2, tabO p2 zs, blkO p1 bs]) (fun x => 16 ≤ x.1 ∧ x.1 ≤ 64 ∧ x.2 = tab bs x.1) (fun x => 64 - x.1) (16, ws) ⟨by simp, by simp, by rw [hw, h16]⟩ rfl ⟨ref0 rfl, ref0 rfl, ref0 rfl, ref0 rfl, trivial⟩ ?_
    clear hi hw hl h h16
    rintro ⟨i, ws⟩ ⟨hi0, hi1, hw⟩
    simp only at hi0 hi1 hw ⊢
    have hl : ws.length = 64 := by rw [hw]; exact tab_len bs i (by omega)
    by_cases h : i < 64
    · focus (
    (refine W.seq ?_)
    (refine W.seq ?_)
    (refine W.region ?_)
    (refine Jx.move rfl rfl ?_)
    (refine Jx.lssI rfl rfl rfl ?_)
    (refine J.nil ?_)
    (refine N.seq ?_)
    (refine W.condT rfl (by first | rfl | assumption | (exact decide_eq_true (by first | assumption | omega | rfl)) | (exact decide_eq_false (by first | assumption | omega | rfl)) | (simp; done) | (simp; omega)) ?_)
    (refine W.skip ?_)
    (refine N.seq ?_)
    (refine W.seq ?_)
    (refine W.block ?_)
    (refine W.seq ?_)
    (refine W.draw follows ?_)
    (refine JD.calm rfl (by decide +kernel) ?_)
    (refine Cx.move rfl rfl ?_)
    (refine Cx.sub64 rfl rfl (by omega) rfl ?_)
    (refine Cx.index0 (i - 15) rfl rfl (by omega) (by omega) rfl ?_)
    (refine Cx.loadA u32 0 rfl 0 rfl (by omega) rfl ?_)
    (refine Cx.move rfl rfl ?_)
    (refine Cx.sub64 rfl rfl (by omega) rfl ?_)
    (refine Cx.index0 (i - 2) rfl rfl (by omega) (by omega) rfl ?_)
    (refine Cx.loadA u32 0 rfl 0 rfl (by omega) rfl ?_)
    (refine Cx.assign rfl rfl ?_)
    (refine Cx.assign rfl rfl ?_)
    (refine SegC.nil ?_)
    (refine N.seq ?_)
    (refine W.draw follows ?_)
    (refine JD.upto (n := 29) rfl (by decide +kernel) (by decide +kernel) rfl rfl ?_)
    (refine Cx.move rfl rfl ?_)
    (refine Cx.move rfl rfl ?_)
    (refine Cx.sub64 rfl rfl (by omega) rfl ?_)
    (refine Cx.index0 (i - 16) rfl rfl (by omega) (by omega) rfl ?_)
    (refine Cx.loadA u32 0 rfl 0 rfl (by omega) rfl ?_)
    (refine Cx.move rfl rfl ?_)
    (refine SegC.q (Qs.call (Lc := []) (rot_ok _ 7 (by decide)) (fun s L' h => h) (List.Perm.refl _) (evs_args rfl)) rfl ?_)
    (refine Cx.move rfl rfl ?_)
    (refine SegC.q (Qs.call (Lc := []) (rot_ok _ 18 (by decide)) (fun s L' h => h) (List.Perm.refl _) (evs_args rfl)) rfl ?_)
    (refine Cx.xorU rfl rfl rfl ?_)
    (refine Cx.move rfl rfl ?_)
    (refine Cx.shrU rfl rfl (by decide) rfl ?_)
    (refine Cx.xorU rfl rfl rfl ?_)
    (refine Cx.addU rfl rfl rfl ?_)
    (refine Cx.move rfl rfl ?_)
    (refine Cx.sub64 rfl rfl (by omega) rfl ?_)
    (refine Cx.index0 (i - 7) rfl rfl (by omega) (by omega) rfl ?_)
    (refine Cx.loadA u32 0 rfl 0 rfl (by omega) rfl ?_)
    (refine Cx.addU rfl rfl rfl ?_)
    (refine Cx.move rfl rfl ?_)
    (refine SegC.q (Qs.call (Lc := []) (rot_ok _ 17 (by decide)) (fun s L' h => h) (List.Perm.refl _) (evs_args rfl)) rfl ?_)
    (refine Cx.move rfl rfl ?_)
    (refine SegC.q (Qs.call (Lc := []) (rot_ok _ 19 (by decide)) (fun s L' h => h) (List.Perm.refl _) (evs_args rfl)) rfl ?_)
    (refine Cx.xorU rfl rfl rfl ?_)
    (refine Cx.move rfl rfl ?_)
    (refine Cx.shrU rfl rfl (by decide) rfl ?_)
    (refine Cx.xorU rfl rfl rfl ?_)
    (refine Cx.addU rfl rfl rfl ?_)
    (refine Cx.index0 i rfl rfl (by omega) (by omega) rfl ?_)
    (refine SegC.nil ?_)
    (refine J.storeA u32 (ws.getD (i - 16) 0 + sig0 (ws.getD (i - 15) 0) + ws.getD (i - 7) 0 + sig1 (ws.getD (i - 2) 0)) rfl rfl (One.val rfl) 0 rfl (by omega) rfl ?_)
    (refine J.nil ?_)
    (refine N.seq ?_)
    (refine W.region ?_)
    (refine Jx.move rfl rfl ?_)
    (refine Jx.add64 rfl rfl (by omega) rfl ?_)
    (refine Jx.assign rfl rfl ?_)
    (refine J.nil ?_)
    (refine id ?_; rotate_left))
      refine N.round (i + 1, ws.set i (ws.getD (i - 16) 0 + sig0 (ws.getD (i - 15) 0) + ws.getD (i - 7) 0 + sig1 (ws.getD (i - 2) 0))) ⟨by simp only; omega, by simp only; omega, ?_⟩ (by simp only; omega) rfl ⟨ref0 rfl, ref0 rfl, ref0 rfl, ref0 rfl, trivial⟩
      simp only
      rw [hw]
      exact tab_set bs i (by omega) _ (by rw [if_neg (by omega), ← tab_next bs i hi0]; rfl)
    · have h64 : i = 64 := by omega
      focus (
    (refine W.seq ?_)
    (refine W.seq ?_)
    (refine W.region ?_)
    (refine Jx.move rfl rfl ?_)
    (refine Jx.lssI rfl rfl rfl ?_)
    (refine J.nil ?_)
    (refine N.seq ?_)
    (refine W.condF rfl (by first | rfl | assumption | (exact decide_eq_true (by first | assumption | omega | rfl)) | (exact decide_eq_false (by first | assumption | omega | rfl)) | (simp; done) | (simp; omega)) ?_)
    (refine W.exit ?_)
    (refine N.seq ?_)
    (refine W.seq ?_)
    (refine W.region ?_)
    (refine Jx.loadArr (by rw [List.length_map]; exact hl) rfl 0 rfl rfl ?_)
    (refine J.storeArr (by rw [List.length_map]; exact hl) rfl rfl 1 rfl (by rw [List.length_map]; exact hz) rfl ?_)
    (refine J.nil ?_)
    (refine N.seq ?_)
    (refine W.ret ?_)
    (refine id ?_; rotate_left))
      refine N.retD (rs := [.cell 2 143]) (L1 := []) rfl (.cell rfl 1 rfl (by rw [List.length_map, hl]; infer_instance) .nil) (List.nil_sublist _) ⟨?_, rfl⟩
      rw [hw, h64]; simp [oneOr, tab]
end Go.Proofs.YtmlncbdfbodjoaaDoor.Sha
namespace Go.Proofs.YtmlncbdfbodjoaaDoor.Sha
open Go Go.Sse
set_option maxRecDepth 10000
set_option linter.unusedVariables false
set_option linter.unusedSimpArgs false
theorem shaK_lt : shaK.all (fun n => decide (n < 4294967296)) = true := by decide
theorem kAt_nat (i : Nat) : (kAt i).toNat = shaK.getD i 0 := by
  unfold kAt
  rw [BitVec.toNat_ofNat]
  refine Nat.mod_eq_of_lt ?_
  rw [List.getD_eq_getElem?_getD]
  cases h : shaK[i]? with
  | none => simp
  | some v => simpa using (List.all_eq_true.1 shaK_lt) v (List.mem_of_getElem? h)
theorem k_get (i : Nat) (h : i < 64) : (shaK.map fun (n : Nat) => Value.int .u32 (n : Int))[i]? = some (.int .u32 ((kAt i).toNat : Int)) := by
  have hl : i < shaK.length := h
  rw [List.getElem?_map, List.getElem?_eq_getElem hl, kAt_nat]
  simp [List.getD_eq_getElem?_getD, List.getElem?_eq_getElem hl]
theorem list8 {ws : List Wd} (t : S8) (hl : ws.length = 8) (h : ∀ j, j < 8 → ws.getD j 0 = t.list.getD j 0) : ws = t.list := by
  refine List.ext_getElem (by rw [hl]; rfl) fun j h1 h2 => ?_
  have := h j (by omega)
  simpa [List.getD_eq_getElem?_getD, List.getElem?_eq_getElem h1, List.getElem?_eq_getElem h2] using this
theorem add_step (s h vs : List Wd) (j : Nat) (h8 : j < 8) (hl : vs.length = 8) (hv : ∀ m, m < 8 → vs.getD m 0 = if m < j then s.getD m 0 + h.getD m 0 else s.getD m 0) (m : Nat) (hm : m < 8) :
    (vs.set j (vs.getD j 0 + h.getD j 0)).getD m 0 = if m < j + 1 then s.getD m 0 + h.getD m 0 else s.getD m 0 := by
  have e1 : (vs.set j (vs.getD j 0 + h.getD j 0)).getD m 0 = if m = j then vs.getD j 0 + h.getD j 0 else vs.getD m 0 := by
    simp only [List.getD_eq_getElem?_getD, List.getElem?_set]
    by_cases e : j = m
    · subst e; simp [hl, hm]
    · rw [if_neg e, if_neg (fun h => e h.symm)]
  rw [e1]
  by_cases e : m = j
  · subst e; rw [if_pos rfl, hv m hm, if_neg (Nat.lt_irrefl m), if_pos (Nat.lt_succ_self m)]
  · rw [if_neg e, hv m hm]
    by_cases hlt : m < j
    · rw [if_pos hlt, if_pos (by omega)]
    · rw [if_neg hlt, if_neg (by omega)]
set_option maxHeartbeats 4000000 in
theorem block_ok (h : S8) (bs : List UInt8) (hb : bs.length = 64) : FnC Tryd.prog 128 [.agg h.cells, .agg (bs.map byte)] [] (fun s L => s = .agg (blockS h bs).cells ∧ L = []) := by
  have c1 := spread_ok bs hb
  have hs := sched_len bs 64
  have hW : ∀ i, i < 64 → (sched bs 64).getD i 0 = W bs i := fun i hi => sched_get bs 64 i hi
  generalize sched bs 64 = ws at *
  refine FnC.intro Tryd.func128 rfl Tryd.ntmps128 rfl fun Z w0 hG => ?_
  focus (
    (refine W.seq ?_)
    (refine W.region ?_)
    (refine J.boxAg rfl rfl ?_; intro b')
    (refine J.boxAg rfl rfl ?_; intro b')
    (refine J.alloc (by simp only [List.map_cons, List.map_nil]; rfl) rfl rfl ?_; intro b')
    (refine J.nil ?_)
    (refine N.seq ?_)
    (refine W.seq ?_)
    (refine W.region ?_)
    (refine Jx.loadArr (by rw [List.length_map]; exact hb) rfl 1 rfl rfl ?_)
    (refine J.call (c1) rfl (evs_args rfl) rfl ?_; rintro _ _ ⟨rfl, rfl⟩; simp only [List.cons_append, List.nil_append, List.append_nil])
    (refine J.alloc (by simp only [List.map_cons, List.map_nil]; rfl) rfl rfl ?_; intro b')
    (refine J.storeArr (by rw [List.length_map]; exact hs) rfl rfl 0 rfl rfl rfl ?_)
    (refine J.nil ?_)
    (refine N.seq ?_)
    (refine W.seq ?_)
    (refine W.region ?_)
    (refine Jx.loadAll rfl 3 rfl rfl rfl ?_)
    (refine J.alloc (by simp only [List.map_cons, List.map_nil]; rfl) rfl rfl ?_; intro b')
    (refine J.storeAll rfl rfl rfl 0 rfl rfl rfl ?_)
    (refine J.nil ?_)
    (refine N.seq ?_)
    (refine W.seq ?_)
    (refine W.seq ?_)
    (refine W.region ?_)
    (refine Jx.move rfl rfl ?_)
    (refine J.nil ?_)
    (refine N.seq ?_)
    (refine W.block ?_)
    (refine id ?_; rotate_left))
  rename_i p2 p3 p4 p5
  refine W.loop (α := Nat × S8) (fun x => [(16, int x.1), (6, ptr b'), (5, ptr p5), (4, ptr p4), (2, ptr p2)]) (fun x => [.obj b' 126 x.2.cells, tabO p5 ws, .obj p4 126 (S8.cells ⟨0, 0, 0, 0, 0, 0, 0, 0⟩), blkO p3 bs, .obj p2 126 h.cells]) (fun x => x.1 ≤ 64 ∧ x.2 = rounds h bs x.1) (fun x => 64 - x.1) (0, h) ⟨by simp, rfl⟩ rfl ⟨ref0 rfl, ref0 rfl, ref0 rfl, ref0 rfl, ref0 rfl, trivial⟩ ?_
  rintro ⟨i, s⟩ ⟨hi, hst⟩
  simp only at hi hst ⊢
  by_cases h1 : i < 64
  · have hk := k_get i h1
    focus (
    (refine W.seq ?_)
    (refine W.region ?_)
    (refine Jx.lssI rfl rfl rfl ?_)
    (refine J.nil ?_)
    (refine N.seq ?_)
    (refine W.seq ?_)
    (refine W.condT rfl (by first | rfl | assumption | (exact decide_eq_true (by first | assumption | omega | rfl)) | (exact decide_eq_false (by first | assumption | omega | rfl)) | (simp; done) | (simp; omega)) ?_)
    (refine W.skip ?_)
    (refine N.seq ?_)
    (refine W.seq ?_)
    (refine W.block ?_)
    (refine W.seq ?_)
    (refine W.region ?_)
    (refine Jx.move rfl rfl ?_)
    (refine Jx.assign rfl rfl ?_)
    (refine J.nil ?_)
    (refine N.seq ?_)
    (refine W.seq ?_)
    (refine W.draw follows ?_)
    (refine JD.calm rfl (by decide +kernel) ?_)
    (refine Cx.indexArr rfl rfl (by decide) (by decide) rfl ?_)
    (refine Cx.load rfl 0 rfl rfl rfl ?_)
    (refine Cx.indexArr rfl rfl (by decide) (by decide) rfl ?_)
    (refine Cx.load rfl 0 rfl rfl rfl ?_)
    (refine Cx.assign rfl rfl ?_)
    (refine Cx.assign rfl rfl ?_)
    (refine SegC.nil ?_)
    (refine N.seq ?_)
    (refine W.seq ?_)
    (refine W.draw follows ?_)
    (refine JD.calm rfl (by decide +kernel) ?_)
    (refine Cx.indexArr rfl rfl (by decide) (by decide) rfl ?_)
    (refine Cx.load rfl 0 rfl rfl rfl ?_)
    (refine Cx.move rfl rfl ?_)
    (refine SegC.q (Qs.call (Lc := []) (rot_ok _ 6 (by decide)) (fun s L' h => h) (List.Perm.refl _) (evs_args rfl)) rfl ?_)
    (refine Cx.move rfl rfl ?_)
    (refine SegC.q (Qs.call (Lc := []) (rot_ok _ 11 (by decide)) (fun s L' h => h) (List.Perm.refl _) (evs_args rfl)) rfl ?_)
    (refine Cx.xorU rfl rfl rfl ?_)
    (refine Cx.move rfl rfl ?_)
    (refine SegC.q (Qs.call (Lc := []) (rot_ok _ 25 (by decide)) (fun s L' h => h) (List.Perm.refl _) (evs_args rfl)) rfl ?_)
    (refine Cx.xorU rfl rfl rfl ?_)
    (refine Cx.addU rfl rfl rfl ?_)
    (refine Cx.move rfl rfl ?_)
    (refine Cx.indexArr rfl rfl (by decide) (by decide) rfl ?_)
    (refine Cx.load rfl 0 rfl rfl rfl ?_)
    (refine Cx.andU rfl rfl rfl ?_)
    (refine Cx.move rfl rfl ?_)
    (refine Cx.notU rfl rfl ?_)
    (refine Cx.indexArr rfl rfl (by decide) (by decide) rfl ?_)
    (refine Cx.load rfl 0 rfl rfl rfl ?_)
    (refine Cx.andU rfl rfl rfl ?_)
    (refine Cx.xorU rfl rfl rfl ?_)
    (refine Cx.addU rfl rfl rfl ?_)
    (refine Cx.move rfl rfl ?_)
    (refine Cx.index0 i rfl rfl rfl (by omega) rfl ?_)
    (refine Cx.loadG rfl 0 rfl hk rfl ?_)
    (refine Cx.addU rfl rfl rfl ?_)
    (refine Cx.move rfl rfl ?_)
    (refine Cx.index0 i rfl rfl rfl (by omega) rfl ?_)
    (refine Cx.loadA u32 0 rfl 1 rfl (by omega) rfl ?_)
    (refine Cx.addU rfl rfl rfl ?_)
    (refine Cx.assign rfl rfl ?_)
    (refine SegC.nil ?_)
    (refine N.seq ?_)
    (refine W.seq ?_)
    (refine W.draw follows ?_)
    (refine JD.calm rfl (by decide +kernel) ?_)
    (refine Cx.move rfl rfl ?_)
    (refine SegC.q (Qs.call (Lc := []) (rot_ok _ 2 (by decide)) (fun s L' h => h) (List.Perm.refl _) (evs_args rfl)) rfl ?_)
    (refine Cx.move rfl rfl ?_)
    (refine SegC.q (Qs.call (Lc := []) (rot_ok _ 13 (by decide)) (fun s L' h => h) (List.Perm.refl _) (evs_args rfl)) rfl ?_)
    (refine Cx.xorU rfl rfl rfl ?_)
    (refine Cx.move rfl rfl ?_)
    (refine SegC.q (Qs.call (Lc := []) (rot_ok _ 22 (by decide)) (fun s L' h => h) (List.Perm.refl _) (evs_args rfl)) rfl ?_)
    (refine Cx.xorU rfl rfl rfl ?_)
    (refine Cx.move rfl rfl ?_)
    (refine Cx.indexArr rfl rfl (by decide) (by decide) rfl ?_)
    (refine Cx.load rfl 0 rfl rfl rfl ?_)
    (refine Cx.andU rfl rfl rfl ?_)
    (refine Cx.move rfl rfl ?_)
    (refine Cx.indexArr rfl rfl (by decide) (by decide) rfl ?_)
    (refine Cx.load rfl 0 rfl rfl rfl ?_)
    (refine Cx.andU rfl rfl rfl ?_)
    (refine Cx.xorU rfl rfl rfl ?_)
    (refine Cx.indexArr rfl rfl (by decide) (by decide) rfl ?_)
    (refine Cx.load rfl 0 rfl rfl rfl ?_)
    (refine Cx.indexArr rfl rfl (by decide) (by decide) rfl ?_)
    (refine Cx.load rfl 0 rfl rfl rfl ?_)
    (refine Cx.andU rfl rfl rfl ?_)
    (refine Cx.xorU rfl rfl rfl ?_)
    (refine Cx.addU rfl rfl rfl ?_)
    (refine Cx.assign rfl rfl ?_)
    (refine SegC.nil ?_)
    (refine N.seq ?_)
    (refine W.region ?_)
    (refine Jx.move rfl rfl ?_)
    (refine Jx.move rfl rfl ?_)
    (refine Jx.addU rfl rfl rfl ?_)
    (refine Jx.move rfl rfl ?_)
    (refine Jx.indexArr rfl rfl (by decide) (by decide) rfl ?_)
    (refine Jx.load rfl 0 rfl rfl rfl ?_)
    (refine Jx.indexArr rfl rfl (by decide) (by decide) rfl ?_)
    (refine Jx.load rfl 0 rfl rfl rfl ?_)
    (refine Jx.indexArr rfl rfl (by decide) (by decide) rfl ?_)
    (refine Jx.load rfl 0 rfl rfl rfl ?_)
    (refine Jx.move rfl rfl ?_)
    (refine Jx.addU rfl rfl rfl ?_)
    (refine Jx.move rfl rfl ?_)
    (refine Jx.indexArr rfl rfl (by decide) (by decide) rfl ?_)
    (refine Jx.load rfl 0 rfl rfl rfl ?_)
    (refine Jx.indexArr rfl rfl (by decide) (by decide) rfl ?_)
    (refine Jx.load rfl 0 rfl rfl rfl ?_)
    (refine Jx.buildA rfl rfl rfl rfl rfl ?_)
    (refine J.storeAll rfl rfl rfl 0 rfl rfl rfl ?_)
    (refine J.nil ?_)
    (refine N.seq ?_)
    (refine W.region ?_)
    (refine Jx.add64 rfl rfl (by omega) rfl ?_)
    (refine Jx.move rfl rfl ?_)
    (refine J.nil ?_)
    (refine id ?_; rotate_left))
    exact N.round (i + 1, s.round (kAt i) (ws.getD i 0)) ⟨by simp only; omega, by simp only; rw [hst, hW i h1]; rfl⟩ (by simp only; omega) rfl ⟨ref0 rfl, ref0 rfl, ref0 rfl, ref0 rfl, ref0 rfl, trivial⟩
  · have h64 : i = 64 := by omega
    rw [h64] at hst
    focus (
    (refine W.seq ?_)
    (refine W.region ?_)
    (refine Jx.lssI rfl rfl rfl ?_)
    (refine J.nil ?_)
    (refine N.seq ?_)
    (refine W.seq ?_)
    (refine W.condF rfl (by first | rfl | assumption | (exact decide_eq_true (by first | assumption | omega | rfl)) | (exact decide_eq_false (by first | assumption | omega | rfl)) | (simp; done) | (simp; omega)) ?_)
    (refine W.exit ?_)
    (refine N.seq ?_)
    (refine W.seq ?_)
    (refine W.seq ?_)
    (refine W.region ?_)
    (refine Jx.move rfl rfl ?_)
    (refine J.nil ?_)
    (refine N.seq ?_)
    (refine W.block ?_)
    (refine id ?_; rotate_left))
    refine W.loop (α := Nat × List Wd) (fun x => [(96, int x.1), (6, ptr b'), (4, ptr p4), (2, ptr p2)]) (fun x => [.obj b' 126 (x.2.map u32), tabO p5 ws, .obj p4 126 (S8.cells ⟨0, 0, 0, 0, 0, 0, 0, 0⟩), blkO p3 bs, .obj p2 126 (h.list.map u32)])
      (fun x => x.1 ≤ 8 ∧ x.2.length = 8 ∧ ∀ j, j < 8 → x.2.getD j 0 = if j < x.1 then s.list.getD j 0 + h.list.getD j 0 else s.list.getD j 0) (fun x => 8 - x.1) (0, s.list) ⟨by simp, rfl, fun j hj => by simp⟩ rfl ⟨ref0 rfl, ref0 rfl, ref0 rfl, ref0 rfl, trivial⟩ ?_
    rintro ⟨j, vs⟩ ⟨hj, hl, hv⟩
    simp only at hj hl hv ⊢
    by_cases h8 : j < 8
    · focus (
    (refine W.seq ?_)
    (refine W.region ?_)
    (refine Jx.lssI rfl rfl rfl ?_)
    (refine J.nil ?_)
    (refine N.seq ?_)
    (refine W.seq ?_)
    (refine W.condT rfl (by first | rfl | assumption | (exact decide_eq_true (by first | assumption | omega | rfl)) | (exact decide_eq_false (by first | assumption | omega | rfl)) | (simp; done) | (simp; omega)) ?_)
    (refine W.skip ?_)
    (refine N.seq ?_)
    (refine W.seq ?_)
    (refine W.block ?_)
    (refine W.seq ?_)
    (refine W.region ?_)
    (refine Jx.move rfl rfl ?_)
    (refine Jx.assign rfl rfl ?_)
    (refine J.nil ?_)
    (refine N.seq ?_)
    (refine W.draw follows ?_)
    (refine JD.upto (n := 8) rfl (by decide +kernel) (by decide +kernel) rfl rfl ?_)
    (refine Cx.move rfl rfl ?_)
    (refine Cx.index0 j rfl rfl rfl (by omega) rfl ?_)
    (refine Cx.loadA u32 0 rfl 0 rfl (by omega) rfl ?_)
    (refine Cx.move rfl rfl ?_)
    (refine Cx.index0 j rfl rfl rfl (by omega) rfl ?_)
    (refine Cx.loadA u32 0 rfl 4 rfl h8 rfl ?_)
    (refine Cx.addU rfl rfl rfl ?_)
    (refine Cx.index0 j rfl rfl rfl (by omega) rfl ?_)
    (refine SegC.nil ?_)
    (refine J.storeA u32 (vs.getD j 0 + h.list.getD j 0) rfl rfl (One.val rfl) 0 rfl (by omega) rfl ?_)
    (refine J.nil ?_)
    (refine N.seq ?_)
    (refine W.region ?_)
    (refine Jx.add64 rfl rfl (by omega) rfl ?_)
    (refine Jx.move rfl rfl ?_)
    (refine J.nil ?_)
    (refine id ?_; rotate_left))
      refine N.round (j + 1, vs.set j (vs.getD j 0 + h.list.getD j 0)) ⟨by simp only; omega, by simp only [List.length_set]; exact hl, fun m hm => ?_⟩ (by simp only; omega) rfl ⟨ref0 rfl, ref0 rfl, ref0 rfl, ref0 rfl, trivial⟩
      exact add_step s.list h.list vs j h8 hl hv m hm
    · have e : vs = ((rounds h bs 64).add h).list := by
        rw [← hst]
        refine list8 (s.add h) hl fun m hm => ?_
        rw [hv m hm, if_pos (by omega)]
        match m, hm with
        | 0, _ => rfl
        | 1, _ => rfl
        | 2, _ => rfl
        | 3, _ => rfl
        | 4, _ => rfl
        | 5, _ => rfl
        | 6, _ => rfl
        | 7, _ => rfl
      focus (
    (refine W.seq ?_)
    (refine W.region ?_)
    (refine Jx.lssI rfl rfl rfl ?_)
    (refine J.nil ?_)
    (refine N.seq ?_)
    (refine W.seq ?_)
    (refine W.condF rfl (by first | rfl | assumption | (exact decide_eq_true (by first | assumption | omega | rfl)) | (exact decide_eq_false (by first | assumption | omega | rfl)) | (simp; done) | (simp; omega)) ?_)
    (refine W.exit ?_)
    (refine N.seq ?_)
    (refine W.seq ?_)
    (refine W.region ?_)
    (refine Jx.loadArr (by rw [List.length_map]; exact hl) rfl 0 rfl rfl ?_)
    (refine J.storeArr (by rw [List.length_map]; exact hl) rfl rfl 2 rfl rfl rfl ?_)
    (refine J.nil ?_)
    (refine N.seq ?_)
    (refine W.ret ?_)
    (refine id ?_; rotate_left))
      refine N.retD (rs := [.cell 4 126]) (L1 := []) rfl (.cell rfl 2 rfl (by rw [List.length_map, hl]; infer_instance) .nil) (List.nil_sublist _) ⟨?_, rfl⟩
      rw [e]
      unfold blockS
      generalize rounds h bs 64 = r
      rfl
end Go.Proofs.YtmlncbdfbodjoaaDoor.Sha
namespace Go.Proofs.YtmlncbdfbodjoaaDoor.Sha
open Go Go.Sse
set_option linter.unusedVariables false
set_option linter.unusedSimpArgs false
set_option maxRecDepth 10000
def part (b : List UInt8) (j : Nat) : Nat → Wd
  | 0 => 0
  | n + 1 => part b j n * 256#32 + byteAt b (4 * j + n)
end Go.Proofs.YtmlncbdfbodjoaaDoor.Sha
namespace Go.Proofs.YtmlncbdfbodjoaaDoor.Sha
open Go Go.Sse
set_option maxRecDepth 10000
set_option linter.unusedVariables false
set_option linter.unusedSimpArgs false
end Go.Proofs.YtmlncbdfbodjoaaDoor.Sha
namespace Go.Proofs.YtmlncbdfbodjoaaDoor.Sha
open Go Go.Sse
set_option maxRecDepth 10000
set_option linter.unusedVariables false
set_option linter.unusedSimpArgs false
abbrev tU8 : Nat := 5
theorem told_get (h : S8) (i k : Nat) (hi : i < 8) (hk : k < 4) : (toldS h).getD (4 * i + k) 0 = (wordB (h.list.getD i 0)).getD k 0 := by
  match i, hi, k, hk with
  | 0, _, 0, _ => rfl
  | 0, _, 1, _ => rfl
  | 0, _, 2, _ => rfl
  | 0, _, 3, _ => rfl
  | 1, _, 0, _ => rfl
  | 1, _, 1, _ => rfl
  | 1, _, 2, _ => rfl
  | 1, _, 3, _ => rfl
  | 2, _, 0, _ => rfl
  | 2, _, 1, _ => rfl
  | 2, _, 2, _ => rfl
  | 2, _, 3, _ => rfl
  | 3, _, 0, _ => rfl
  | 3, _, 1, _ => rfl
  | 3, _, 2, _ => rfl
  | 3, _, 3, _ => rfl
  | 4, _, 0, _ => rfl
  | 4, _, 1, _ => rfl
  | 4, _, 2, _ => rfl
  | 4, _, 3, _ => rfl
  | 5, _, 0, _ => rfl
  | 5, _, 1, _ => rfl
  | 5, _, 2, _ => rfl
  | 5, _, 3, _ => rfl
  | 6, _, 0, _ => rfl
  | 6, _, 1, _ => rfl
  | 6, _, 2, _ => rfl
  | 6, _, 3, _ => rfl
  | 7, _, 0, _ => rfl
  | 7, _, 1, _ => rfl
  | 7, _, 2, _ => rfl
  | 7, _, 3, _ => rfl
theorem set4_get (bs : List UInt8) (i : Nat) (a b c d : UInt8) (hl : bs.length = 32) (hi : i < 8) (m : Nat) :
    ((((bs.set (4 * i) a).set (4 * i + 1) b).set (4 * i + 2) c).set (4 * i + 3) d).getD m 0 = if m = 4 * i then a else if m = 4 * i + 1 then b else if m = 4 * i + 2 then c else if m = 4 * i + 3 then d else bs.getD m 0 := by
  simp only [List.getD_eq_getElem?_getD, List.getElem?_set, List.length_set, hl]
  by_cases h0 : m = 4 * i
  · subst h0; simp [show ¬ 4 * i + 1 = 4 * i by omega, show ¬ 4 * i + 2 = 4 * i by omega, show ¬ 4 * i + 3 = 4 * i by omega, show 4 * i < 32 by omega]
  · by_cases h1 : m = 4 * i + 1
    · subst h1; simp [show ¬ 4 * i + 2 = 4 * i + 1 by omega, show ¬ 4 * i + 3 = 4 * i + 1 by omega, show 4 * i + 1 < 32 by omega]
    · by_cases h2 : m = 4 * i + 2
      · subst h2; simp [show ¬ 4 * i + 3 = 4 * i + 2 by omega, show 4 * i + 2 < 32 by omega]
      · by_cases h3 : m = 4 * i + 3
        · subst h3; simp [show 4 * i + 3 < 32 by omega]
        · simp [h0, h1, h2, h3, show ¬ 4 * i = m by omega, show ¬ 4 * i + 1 = m by omega, show ¬ 4 * i + 2 = m by omega, show ¬ 4 * i + 3 = m by omega]
theorem told_step (h : S8) (bs : List UInt8) (i : Nat) (hi : i < 8) (hl : bs.length = 32) (hb : ∀ m, m < 4 * i → bs.getD m 0 = (toldS h).getD m 0) (m : Nat) (hm : m < 4 * (i + 1)) :
    ((((bs.set (4 * i) ((wordB (h.list.getD i 0)).getD 0 0)).set (4 * i + 1) ((wordB (h.list.getD i 0)).getD 1 0)).set (4 * i + 2) ((wordB (h.list.getD i 0)).getD 2 0)).set (4 * i + 3) ((wordB (h.list.getD i 0)).getD 3 0)).getD m 0 = (toldS h).getD m 0 := by
  rw [set4_get _ _ _ _ _ _ hl hi]
  by_cases h0 : m = 4 * i
  · rw [if_pos h0, h0, ← told_get h i 0 hi (by omega)]; rfl
  · rw [if_neg h0]
    by_cases h1 : m = 4 * i + 1
    · rw [if_pos h1, h1, ← told_get h i 1 hi (by omega)]
    · rw [if_neg h1]
      by_cases h2 : m = 4 * i + 2
      · rw [if_pos h2, h2, ← told_get h i 2 hi (by omega)]
      · rw [if_neg h2]
        by_cases h3 : m = 4 * i + 3
        · rw [if_pos h3, h3, ← told_get h i 3 hi (by omega)]
        · rw [if_neg h3]; exact hb m (by omega)
theorem told_ext (h : S8) (bs : List UInt8) (hl : bs.length = 32) (hb : ∀ m, m < 32 → bs.getD m 0 = (toldS h).getD m 0) : bs = toldS h := by
  refine List.ext_getElem (by rw [hl, told_len]) fun m h1 h2 => ?_
  have := hb m (by omega)
  simpa [List.getD_eq_getElem?_getD, List.getElem?_eq_getElem h1, List.getElem?_eq_getElem h2] using this
set_option maxHeartbeats 4000000 in
theorem told_ok (h : S8) : FnC Tryd.prog 121 [.agg h.cells] [] (fun s L => s = str (toldS h) ∧ L = []) := by
  refine FnC.intro Tryd.func121 rfl Tryd.ntmps121 rfl fun Z w0 hG => ?_
  focus (
    (refine W.seq ?_)
    (refine W.region ?_)
    (refine J.boxAg rfl rfl ?_; intro b')
    (refine Jx.assign rfl rfl ?_)
    (refine J.nil ?_)
    (refine N.seq ?_)
    (refine W.seq ?_)
    (refine W.region ?_)
    (refine J.alloc (by simp only [List.map_cons, List.map_nil]; rfl) rfl rfl ?_; intro b')
    (refine J.nil ?_)
    (refine N.seq ?_)
    (refine W.seq ?_)
    (refine W.seq ?_)
    (refine W.region ?_)
    (refine Jx.loadAll rfl 1 rfl rfl rfl ?_)
    (refine Jx.move rfl rfl ?_)
    (refine J.nil ?_)
    (refine N.seq ?_)
    (refine W.block ?_)
    (refine id ?_; rotate_left))
  rename_i p1
  refine W.loop (α := Nat × List UInt8) (fun x => [(7, int x.1), (6, .agg (h.list.map u32)), (3, ptr b'), (1, ptr p1)]) (fun x => [.obj b' 139 (x.2.map byte), .obj p1 126 h.cells]) (fun x => x.1 ≤ 8 ∧ x.2.length = 32 ∧ ∀ m, m < 4 * x.1 → x.2.getD m 0 = (toldS h).getD m 0) (fun x => 8 - x.1) (0, List.replicate 32 0) ⟨by simp, rfl, fun m hm => by simp at hm⟩ rfl ⟨ref0 rfl, ref0 rfl, ref0 rfl, ref0 rfl, trivial⟩ ?_
  rintro ⟨i, bs⟩ ⟨hi, hl, hb⟩
  simp only at hi hl hb ⊢
  by_cases h1 : i < 8
  · focus (
    (refine W.seq ?_)
    (refine W.region ?_)
    (refine Jx.lssI rfl rfl rfl ?_)
    (refine J.nil ?_)
    (refine N.seq ?_)
    (refine W.seq ?_)
    (refine W.condT rfl (by first | rfl | assumption | (exact decide_eq_true (by first | assumption | omega | rfl)) | (exact decide_eq_false (by first | assumption | omega | rfl)) | (simp; done) | (simp; omega)) ?_)
    (refine W.skip ?_)
    (refine N.seq ?_)
    (refine W.seq ?_)
    (refine W.block ?_)
    (refine W.seq ?_)
    (refine W.region ?_)
    (refine Jx.move rfl rfl ?_)
    (refine Jx.indexAg u32 0 i rfl rfl rfl (by omega) (by exact h1) rfl ?_)
    (refine Jx.assign rfl rfl ?_)
    (refine Jx.assign rfl rfl ?_)
    (refine J.nil ?_)
    (refine N.seq ?_)
    (refine W.region ?_)
    (refine Jx.move rfl rfl ?_)
    (refine Jx.mul64 rfl rfl (by omega) rfl ?_)
    (refine Jx.move rfl rfl ?_)
    (refine Jx.mul64 rfl rfl (by omega) rfl ?_)
    (refine Jx.add64 rfl rfl (by omega) rfl ?_)
    (refine Jx.move rfl rfl ?_)
    (refine Jx.mul64 rfl rfl (by omega) rfl ?_)
    (refine Jx.add64 rfl rfl (by omega) rfl ?_)
    (refine Jx.move rfl rfl ?_)
    (refine Jx.mul64 rfl rfl (by omega) rfl ?_)
    (refine Jx.add64 rfl rfl (by omega) rfl ?_)
    (refine Jx.move rfl rfl ?_)
    (refine Jx.shrU rfl rfl (by decide) rfl ?_)
    (refine Jx.convByte rfl rfl rfl ?_)
    (refine Jx.move rfl rfl ?_)
    (refine Jx.shrU rfl rfl (by decide) rfl ?_)
    (refine Jx.convByte rfl rfl rfl ?_)
    (refine Jx.move rfl rfl ?_)
    (refine Jx.shrU rfl rfl (by decide) rfl ?_)
    (refine Jx.convByte rfl rfl rfl ?_)
    (refine Jx.move rfl rfl ?_)
    (refine Jx.convByte rfl rfl rfl ?_)
    (refine Jx.index0 (4 * i) rfl rfl (by omega) (by omega) rfl ?_)
    (refine J.storeA byte ((wordB (h.list.getD i 0)).getD 0 0) rfl rfl (One.val rfl) 0 rfl (by (try simp only [List.length_set]); omega) rfl ?_)
    (refine Jx.index0 (4 * i + 1) rfl rfl (by omega) (by omega) rfl ?_)
    (refine J.storeA byte ((wordB (h.list.getD i 0)).getD 1 0) rfl rfl (One.val rfl) 0 rfl (by (try simp only [List.length_set]); omega) rfl ?_)
    (refine Jx.index0 (4 * i + 2) rfl rfl (by omega) (by omega) rfl ?_)
    (refine J.storeA byte ((wordB (h.list.getD i 0)).getD 2 0) rfl rfl (One.val rfl) 0 rfl (by (try simp only [List.length_set]); omega) rfl ?_)
    (refine Jx.index0 (4 * i + 3) rfl rfl (by omega) (by omega) rfl ?_)
    (refine J.storeA byte ((wordB (h.list.getD i 0)).getD 3 0) rfl rfl (One.val rfl) 0 rfl (by (try simp only [List.length_set]); omega) rfl ?_)
    (refine J.nil ?_)
    (refine N.seq ?_)
    (refine W.region ?_)
    (refine Jx.add64 rfl rfl (by omega) rfl ?_)
    (refine Jx.move rfl rfl ?_)
    (refine J.nil ?_)
    (refine id ?_; rotate_left))
    exact N.round (i + 1, (((bs.set (4 * i) ((wordB (h.list.getD i 0)).getD 0 0)).set (4 * i + 1) ((wordB (h.list.getD i 0)).getD 1 0)).set (4 * i + 2) ((wordB (h.list.getD i 0)).getD 2 0)).set (4 * i + 3) ((wordB (h.list.getD i 0)).getD 3 0)) ⟨by simp only; omega, by simp only [List.length_set]; exact hl, fun m hm => told_step h bs i h1 hl hb m hm⟩ (by simp only; omega) rfl ⟨ref0 rfl, ref0 rfl, ref0 rfl, ref0 rfl, trivial⟩
  · have h8 : i = 8 := by omega
    have e : bs = toldS h := told_ext h bs hl fun m hm => hb m (by omega)
    focus (
    (refine W.seq ?_)
    (refine W.region ?_)
    (refine Jx.lssI rfl rfl rfl ?_)
    (refine J.nil ?_)
    (refine N.seq ?_)
    (refine W.seq ?_)
    (refine W.condF rfl (by first | rfl | assumption | (exact decide_eq_true (by first | assumption | omega | rfl)) | (exact decide_eq_false (by first | assumption | omega | rfl)) | (simp; done) | (simp; omega)) ?_)
    (refine W.exit ?_)
    (refine N.seq ?_)
    (refine W.seq ?_)
    (refine W.region ?_)
    (refine Jx.sliceArr rfl rfl ?_)
    (refine Jx.bytesStrObj bs rfl 0 rfl hl (fun k hk => by rw [Nat.zero_add]; exact getElem?_map_lt byte bs 0 k (by omega)) rfl ?_)
    (refine Jx.assign rfl rfl ?_)
    (refine J.nil ?_)
    (refine N.seq ?_)
    (refine W.ret ?_)
    (refine id ?_; rotate_left))
    exact N.retD (rs := [.tmp 2]) (L1 := []) rfl (.tmp rfl .nil) (List.nil_sublist _) ⟨by rw [e]; rfl, rfl⟩
theorem el_byte (m : List UInt8) (j : Nat) (hj : j < m.length) : (elOf encB 0 m j).getD 0 .any = (m.map byte).getD j .any := by
  simp [elOf, encB, List.getD_eq_getElem?_getD, List.getElem?_map, List.getElem?_eq_getElem hj]
set_option maxHeartbeats 4000000 in
theorem blocks_ok (s0 : S8) (l0 : List UInt8) (hl0 : l0.length ≤ 4294967296) : FnC Tryd.prog 120 [.agg s0.cells, bsl l0] [] (fun s L => ∃ v, v.oneCell' = true ∧ s = .tup [.agg (blocksS s0 l0).1.cells, .val v] ∧ L = [.row v tU8 1 (blocksS s0 l0).2.length (elOf encB 0 (blocksS s0 l0).2)]) := by
  refine FnC.intro Tryd.func120 rfl Tryd.ntmps120 rfl fun Z w0 hG => ?_
  focus (
    (refine W.seq ?_)
    (refine W.region ?_)
    (refine J.boxAg rfl rfl ?_; intro b')
    (refine J.alloc (by simp only [List.map_cons, List.map_nil]; rfl) rfl rfl ?_; intro b')
    (refine Jx.assign rfl rfl ?_)
    (refine J.nil ?_)
    (refine N.seq ?_)
    (refine W.seq ?_)
    (refine W.block ?_)
    (refine id ?_; rotate_left))
  rename_i p2
  refine W.loop (α := S8 × List UInt8) (fun x => [(1, bsl x.2), (2, ptr p2), (4, ptr b')]) (fun x => [.obj b' 126 (S8.cells ⟨0, 0, 0, 0, 0, 0, 0, 0⟩), .obj p2 126 x.1.cells]) (fun x => blocksS x.1 x.2 = blocksS s0 l0 ∧ x.2.length ≤ 4294967296) (fun x => x.2.length) (s0, l0) ⟨rfl, hl0⟩ rfl ⟨ref0 rfl, ref0 rfl, ref0 rfl, trivial⟩ ?_
  rintro ⟨s, l⟩ ⟨he, hl⟩
  simp only at he hl ⊢
  by_cases h1 : 64 ≤ l.length
  · have hlen : (l.take 64).length = 64 := by rw [List.length_take]; omega
    focus (
    (refine W.seq ?_)
    (refine W.seq ?_)
    (refine W.region ?_)
    (refine Jx.move rfl rfl ?_)
    (refine Jx.lenSl rfl rfl ?_)
    (refine Jx.geqI rfl rfl rfl ?_)
    (refine J.nil ?_)
    (refine N.seq ?_)
    (refine W.condT rfl (by first | rfl | assumption | (exact decide_eq_true (by first | assumption | omega | rfl)) | (exact decide_eq_false (by first | assumption | omega | rfl)) | (simp; done) | (simp; omega)) ?_)
    (refine W.skip ?_)
    (refine N.seq ?_)
    (refine W.block ?_)
    (refine W.seq ?_)
    (refine W.draw follows ?_)
    (refine JD.upto (n := 6) rfl (by decide +kernel) (by decide +kernel) rfl rfl ?_)
    (refine Cx.loadAll rfl 1 rfl rfl rfl ?_)
    (refine Cx.move rfl rfl ?_)
    (refine Cx.takeL 64 rfl rfl rfl h1 rfl ?_)
    (refine Cx.sliceArrPtr ((l.take 64).map byte) rfl (by omega) (by decide) (by rw [List.length_map]; exact hlen) (fun j hj => el_byte (l.take 64) j (by omega)) rfl ?_)
    (refine Cx.loadPPag rfl (List.take_of_length_le (by rw [List.length_map]; omega)) (by rw [List.length_map]; exact hlen) rfl ?_)
    (refine SegC.q (Qs.call (Lc := []) (block_ok s (l.take 64) hlen) (fun s L' h => h) (List.Perm.refl _) (evs_args rfl)) rfl ?_)
    (refine SegC.nil ?_)
    (refine J.storeAll rfl rfl rfl 1 rfl rfl rfl ?_)
    (refine J.nil ?_)
    (refine N.seq ?_)
    (refine W.region ?_)
    (refine Jx.move rfl rfl ?_)
    (refine Jx.dropL 64 rfl rfl rfl h1 rfl ?_)
    (refine Jx.assign rfl rfl ?_)
    (refine J.nil ?_)
    (refine N.blockNormal ?_)
    (refine id ?_; rotate_left))
    exact N.round (blockS s (l.take 64), l.drop 64) ⟨by simp only; rw [← blocksS_ge h1, he], by simp only [List.length_drop]; omega⟩ (by simp only [List.length_drop]; omega) rfl ⟨ref0 rfl, ref0 rfl, ref0 rfl, trivial⟩
  · have e2 : blocksS s l = (s, l) := blocksS_lt (by omega)
    rw [e2] at he
    focus (
    (refine W.seq ?_)
    (refine W.seq ?_)
    (refine W.region ?_)
    (refine Jx.move rfl rfl ?_)
    (refine Jx.lenSl rfl rfl ?_)
    (refine Jx.geqI rfl rfl rfl ?_)
    (refine J.nil ?_)
    (refine N.seq ?_)
    (refine W.condF rfl (by first | rfl | assumption | (exact decide_eq_true (by first | assumption | omega | rfl)) | (exact decide_eq_false (by first | assumption | omega | rfl)) | (simp; done) | (simp; omega)) ?_)
    (refine W.exit ?_)
    (refine N.seq ?_)
    (refine W.seq ?_)
    (refine W.draw follows ?_)
    (refine JD.begin 5 rfl ?_; refine JP.more [0, 1] _ rfl (by decide +kernel) ?_)
    (refine Cx.loadAll rfl 1 rfl rfl rfl ?_)
    (refine Cx.move rfl rfl ?_)
    (refine SegC.nil ?_)
    (refine JP.rowNil tU8 1 (elOf encB 0 []) ?_; refine JP.append (idx := [0, 1]) (m := []) (m2 := l) 2 [18] [1, 2] [0] (by decide +kernel) rfl ?_ rfl (SrcOK.sl rfl) rfl rfl (by simp only [maxLen, List.length_nil]; omega) rfl ?_; rotate_left; intro v' hv'; simp only [List.nil_append]; rotate_left)
    (refine Cx.loadAll rfl 2 rfl rfl rfl ?_)
    (refine Cx.move rfl rfl ?_)
    (refine SegC.nil ?_)
    (refine Ag.cons rfl ?_)
    (refine Ag.cons rfl ?_)
    (refine Ag.nil)
    (refine JP.storeAll (idx := [0]) 3 [4, 17] [0, 1, 2, 3] [] (by decide +kernel) rfl ?_ rfl rfl rfl 1 rfl rfl rfl ?_)
    (refine Cx.loadAll rfl 2 rfl rfl rfl ?_)
    (refine SegC.nil ?_)
    (refine Ag.cons rfl ?_)
    (refine Ag.nil)
    (refine JP.tail (idx := []) 4 (by decide +kernel) (by decide +kernel) rfl rfl ?_ ?_)
    (refine SegC.nil ?_)
    (refine Ag.nil)
    (refine Jx.assign rfl rfl ?_)
    (refine J.nil ?_)
    (refine N.seq ?_)
    (refine W.ret ?_)
    (refine id ?_; rotate_left))
    refine N.retD (rs := [.cell 4 126, .tmp 5]) (L1 := [.row v' tU8 1 l.length (elOf encB 0 l)]) rfl (.cell rfl 1 rfl inferInstance (.tmp rfl .nil)) (by simp) ⟨v', hv', ?_, ?_⟩
    · rw [← he]; rfl
    · rw [← he]
end Go.Proofs.YtmlncbdfbodjoaaDoor.Sha
namespace Go.Proofs.YtmlncbdfbodjoaaDoor.Sha
open Go Go.Sse
set_option maxRecDepth 10000
set_option linter.unusedVariables false
set_option linter.unusedSimpArgs false
abbrev tHash : Nat := 129
abbrev hraw (b : Nat) (v : Value) (s : S8) (tail : List UInt8) (n : Nat) : List Own :=
  [.row v tU8 1 tail.length (elOf encB 0 tail), .obj b tHash [u32 s.a, u32 s.b, u32 s.c, u32 s.d, u32 s.e, u32 s.f, u32 s.g, u32 s.h, .val v, int n]]
theorem new_ok : FnC Tryd.prog 104 [] [] (fun r L => ∃ b v, r = ptr b ∧ L = hraw b v first8 [] 0) := by
  refine FnC.intro Tryd.func104 rfl Tryd.ntmps104 rfl fun Z w0 hG => ?_
  focus (
    (refine W.seq ?_)
    (refine W.region ?_)
    (refine Jx.assign rfl rfl ?_)
    (refine J.nil ?_)
    (refine N.seq ?_)
    (refine W.seq ?_)
    (refine W.region ?_)
    (refine J.call (first_ok) rfl (evs_args rfl) rfl ?_; rintro _ _ ⟨rfl, rfl⟩; simp only [List.cons_append, List.nil_append, List.append_nil])
    (refine Jx.buildB rfl rfl rfl rfl rfl ?_)
    (refine J.boxAg rfl rfl ?_; intro b')
    (refine Jx.assign rfl rfl ?_)
    (refine J.nil ?_)
    (refine N.seq ?_)
    (refine W.ret ?_)
    (refine id ?_; rotate_left))
  refine N.rowNil tU8 1 (elOf encB 0 []) ?_
  exact N.ret (rs := [.tmp 0]) rfl (.tmp rfl .nil) ⟨b', .slice none 0 0, rfl, rfl⟩
set_option maxHeartbeats 4000000 in
theorem write_ok (b : Nat) (v : Value) (s : S8) (tail : List UInt8) (n : Nat) (x : List UInt8) (h1 : tail.length < 64) (h2 : n ≤ 2147483648) (h3 : x.length ≤ 2147483648) :
    FnC Tryd.prog 105 [ptr b, str x] (hraw b v s tail n) (fun r L => ∃ v', L = hraw b v' (blocksS s (tail ++ x)).1 (blocksS s (tail ++ x)).2 (n + x.length)) := by
  have c := blocks_ok s (tail ++ x) (by simp only [List.length_append]; omega)
  have hmax : (tail ++ x).length ≤ maxLen := by simp only [List.length_append, maxLen]; omega
  have hb : tail.length + x.length ≤ maxLen ∧ (tail.length + x.length) * 1 ≤ 140737488355328 := by simp only [maxLen]; omega
  generalize blocksS s (tail ++ x) = p at *
  obtain ⟨s2, tl2⟩ := p
  refine FnC.intro Tryd.func105 rfl Tryd.ntmps105 rfl fun Z w0 hG => ?_
  focus (
    (refine W.seq ?_)
    (refine W.region ?_)
    (refine Jx.move rfl rfl ?_)
    (refine Jx.nilCheck rfl rfl ?_)
    (refine Jx.fieldAddr rfl rfl ?_)
    (refine Jx.load rfl 1 rfl rfl rfl ?_)
    (refine Jx.move rfl rfl ?_)
    (refine Jx.lenS rfl rfl ?_)
    (refine Jx.add64 rfl rfl (by omega) rfl ?_)
    (refine Jx.nilCheck rfl rfl ?_)
    (refine Jx.fieldAddr rfl rfl ?_)
    (refine J.store rfl rfl (One.val rfl) 1 rfl rfl rfl rfl ?_)
    (refine J.nil ?_)
    (refine N.seq ?_)
    (refine W.draw follows ?_)
    (refine JD.begin 22 rfl ?_; refine JP.more [0, 1, 2, 3, 4, 5, 6, 7, 8, 9, 10] _ rfl (by decide +kernel) ?_)
    (refine Cx.move rfl rfl ?_)
    (refine Cx.move rfl rfl ?_)
    (refine Cx.move rfl rfl ?_)
    (refine Cx.nilCheck rfl rfl ?_)
    (refine Cx.fieldAddr rfl rfl ?_)
    (refine Cx.loadAg rfl 1 rfl rfl rfl rfl ?_)
    (refine Cx.move rfl rfl ?_)
    (refine Cx.nilCheck rfl rfl ?_)
    (refine Cx.fieldAddr rfl rfl ?_)
    (refine Cx.load rfl 1 rfl rfl rfl ?_)
    (refine Cx.move rfl rfl ?_)
    (refine SegC.nil ?_)
    (refine JP.append (idx := [0, 1, 2, 3, 4, 5, 6, 7, 8, 9, 10]) (m := tail) (m2 := x) 11 [23, 24] [6, 7, 8, 9, 10, 11] [0, 1, 2, 3, 4, 5] (by decide +kernel) rfl ?_ rfl (SrcOK.str rfl) rfl rfl hb rfl ?_; rotate_left; intro v' hv'; refine JP.freeze 25 rfl (by decide +kernel) hmax ?_; rotate_left)
    (refine Cx.move rfl rfl ?_)
    (refine Cx.move rfl rfl ?_)
    (refine Cx.move rfl rfl ?_)
    (refine Cx.nilCheck rfl rfl ?_)
    (refine Cx.fieldAddr rfl rfl ?_)
    (refine Cx.loadAg rfl 1 rfl rfl rfl rfl ?_)
    (refine Cx.move rfl rfl ?_)
    (refine Cx.nilCheck rfl rfl ?_)
    (refine Cx.fieldAddr rfl rfl ?_)
    (refine Cx.load rfl 1 rfl rfl rfl ?_)
    (refine Cx.move rfl rfl ?_)
    (refine SegC.nil ?_)
    (refine Ag.cons rfl ?_)
    (refine Ag.cons rfl ?_)
    (refine Ag.cons rfl ?_)
    (refine Ag.cons rfl ?_)
    (refine Ag.cons rfl ?_)
    (refine Ag.cons rfl ?_)
    (refine Ag.cons rfl ?_)
    (refine Ag.cons rfl ?_)
    (refine Ag.cons rfl ?_)
    (refine Ag.cons rfl ?_)
    (refine Ag.cons rfl ?_)
    (refine Ag.nil)
    (refine JP.call (idx := [0, 1, 2, 3, 4, 5]) (Lc := []) 12 [19, 25] [2, 3, 4, 5, 6, 7, 8, 9, 10, 11, 12] [0, 1] c rfl (by decide +kernel) rfl ?_ (evs_args rfl) rfl ?_; rotate_left; rintro _ _ ⟨v2, hv2, rfl, rfl⟩; simp only [List.cons_append, List.nil_append]; refine JP.more [13, 14, 15, 16, 17] _ rfl (by decide +kernel) ?_; rotate_left)
    (refine Cx.move rfl rfl ?_)
    (refine Cx.move rfl rfl ?_)
    (refine Cx.move rfl rfl ?_)
    (refine Cx.nilCheck rfl rfl ?_)
    (refine Cx.fieldAddr rfl rfl ?_)
    (refine Cx.loadAg rfl 0 rfl rfl rfl rfl ?_)
    (refine SegC.nil ?_)
    (refine Ag.cons rfl ?_)
    (refine Ag.cons rfl ?_)
    (refine Ag.cons rfl ?_)
    (refine Ag.cons rfl ?_)
    (refine Ag.cons rfl ?_)
    (refine Ag.cons rfl ?_)
    (refine Ag.nil)
    (refine Cx.move rfl rfl ?_)
    (refine Cx.extract rfl rfl rfl ?_)
    (refine Cx.extract rfl rfl rfl ?_)
    (refine Cx.nilCheck rfl rfl ?_)
    (refine Cx.fieldAddr rfl rfl ?_)
    (refine SegC.nil ?_)
    (refine JP.storeAg (idx := [0, 1, 13, 14, 15, 16, 17]) 18 [30, 27] [0, 2, 3, 4, 5, 6, 7, 8, 9, 10, 11, 12, 13, 14, 16, 17, 18] [1, 15] (by decide +kernel) rfl ?_ rfl rfl rfl 1 rfl rfl rfl rfl ?_; rotate_left; refine JP.more [19, 20] _ rfl (by decide +kernel) ?_; rotate_left)
    (refine Cx.move rfl rfl ?_)
    (refine Cx.move rfl rfl ?_)
    (refine Cx.move rfl rfl ?_)
    (refine Cx.extract rfl rfl rfl ?_)
    (refine Cx.extract rfl rfl rfl ?_)
    (refine Cx.nilCheck rfl rfl ?_)
    (refine Cx.fieldAddr rfl rfl ?_)
    (refine SegC.nil ?_)
    (refine Ag.cons rfl ?_)
    (refine Ag.cons rfl ?_)
    (refine Ag.cons rfl ?_)
    (refine Ag.cons rfl ?_)
    (refine Ag.cons rfl ?_)
    (refine Ag.cons rfl ?_)
    (refine Ag.cons rfl ?_)
    (refine Ag.nil)
    (refine Cx.nilCheck rfl rfl ?_)
    (refine Cx.fieldAddr rfl rfl ?_)
    (refine SegC.nil ?_)
    (refine JP.store (idx := [1, 15, 19, 20]) 21 [32, 28] [0, 1, 2, 3, 4, 5, 6, 7, 8, 9, 10, 11, 12, 13, 14, 15, 16, 17, 18, 19, 20, 21] [] (by decide +kernel) rfl ?_ rfl rfl (One.val hv2) 1 rfl rfl rfl rfl ?_)
    (refine Cx.move rfl rfl ?_)
    (refine Cx.extract rfl rfl rfl ?_)
    (refine Cx.nilCheck rfl rfl ?_)
    (refine Cx.fieldAddr rfl rfl ?_)
    (refine SegC.nil ?_)
    (refine Ag.cons rfl ?_)
    (refine Ag.cons rfl ?_)
    (refine Ag.cons rfl ?_)
    (refine Ag.cons rfl ?_)
    (refine Ag.nil)
    (refine JP.tail (idx := []) 22 (by decide +kernel) (by decide +kernel) rfl rfl ?_ ?_)
    (refine SegC.nil ?_)
    (refine Ag.nil)
    (refine J.nil ?_)
    (refine id ?_; rotate_left))
  exact N.fin (rs := []) rfl .nil ⟨v2, rfl⟩
end Go.Proofs.YtmlncbdfbodjoaaDoor.Sha
namespace Go.Proofs.YtmlncbdfbodjoaaDoor.Sha
open Go Go.Sse
set_option maxRecDepth 10000
set_option linter.unusedVariables false
set_option linter.unusedSimpArgs false
theorem zeros_stop (n k : Nat) (hk : k ≤ zerosOf n) (r : Nat) (hr : r = n % 64) : ((((r + 1 + k : Nat) : Int)) % 64 = 56) ↔ k = zerosOf n := by
  unfold zerosOf at *
  subst hr
  constructor
  · intro h; omega
  · intro h; subst h; omega
theorem lenB_take (n i : Nat) (h : i < 8) : (lenB n).take i ++ [UInt8.ofNat (n * 8 / 2 ^ (56 - 8 * i))] = (lenB n).take (i + 1) := by
  have hl : i < (lenB n).length := by rw [lenB_len]; exact h
  rw [List.take_add_one, List.getElem?_eq_getElem hl]
  simp [lenB]
theorem zerosOf_lt (n : Nat) : zerosOf n < 64 := Nat.mod_lt _ (by omega)
set_option maxHeartbeats 4000000 in
theorem sum_ok (b : Nat) (v : Value) (s : S8) (tail : List UInt8) (n : Nat) (h1 : tail.length = n % 64) (h2 : n ≤ 4294967296) :
    FnC Tryd.prog 106 [ptr b] (hraw b v s tail n) (fun r L => r = str (toldS (blocksS s (tail ++ padS n)).1) ∧ L = hraw b v s tail n) := by
  have hz := zerosOf_lt n
  have ht : tail.length < 64 := by omega
  have c := blocks_ok s (tail ++ padS n) (by simp only [padS, List.length_append, List.length_cons, List.length_nil, List.length_replicate, lenB_len]; omega)
  have hb0 : tail.length ≤ maxLen ∧ tail.length * 1 ≤ 140737488355328 := by simp only [maxLen]; omega
  have hb1 : tail.length + [(128 : UInt8)].length ≤ maxLen ∧ (tail.length + [(128 : UInt8)].length) * 1 ≤ 140737488355328 := by simp only [maxLen, List.length_cons, List.length_nil]; omega
  have hpad : tail ++ [128] ++ List.replicate (zerosOf n) 0 ++ lenB n = tail ++ padS n := by simp [padS]
  generalize hp : blocksS s (tail ++ padS n) = p at *
  obtain ⟨s2, tl2⟩ := p
  refine FnC.intro Tryd.func106 rfl Tryd.ntmps106 rfl fun Z w0 hG => ?_
  focus (
    (refine W.seq ?_)
    (refine W.region ?_)
    (refine Jx.assign rfl rfl ?_)
    (refine J.nil ?_)
    (refine N.seq ?_)
    (refine W.seq ?_)
    (refine W.region ?_)
    (refine Jx.move rfl rfl ?_)
    (refine Jx.nilCheck rfl rfl ?_)
    (refine Jx.fieldAddr rfl rfl ?_)
    (refine Jx.load rfl 1 rfl rfl rfl ?_)
    (refine J.appendNil (l2 := tail) (SrcOK.row rfl 1 rfl) rfl rfl hb0 rfl ?_; intro v1 hv1)
    (refine Jx.assign rfl rfl ?_)
    (refine J.nil ?_)
    (refine N.seq ?_)
    (refine W.seq ?_)
    (refine W.region ?_)
    (refine Jx.move rfl rfl ?_)
    (refine J.qs (Qs.buildBytes [128] rfl rfl rfl (by decide) (by decide)) rfl ?_)
    (refine J.appendL (l2 := [128]) rfl (SrcOK.sl rfl) rfl rfl hb1 rfl ?_; intro v2 hv2)
    (refine Jx.assign rfl rfl ?_)
    (refine J.nil ?_)
    (refine N.seq ?_)
    (refine W.seq ?_)
    (refine W.block ?_)
    (refine id ?_; rotate_left))
  refine W.loop (α := Nat × Value) (fun x => [(3, .val x.2), (0, ptr b)]) (fun x => .row x.2 tU8 1 (tail ++ [128] ++ List.replicate x.1 0).length (elOf encB 0 (tail ++ [128] ++ List.replicate x.1 0)) :: hraw b v s tail n) (fun x => x.1 ≤ zerosOf n) (fun x => zerosOf n - x.1) (0, v2) (by simp) (by simp only [List.replicate_zero, List.append_nil]) ⟨ref0 rfl, ref0 rfl, trivial⟩ ?_
  rintro ⟨k, u⟩ hk
  simp only at hk ⊢
  have hst := zeros_stop n k hk tail.length h1
  have hel : (tail ++ [128] ++ List.replicate k (0 : UInt8)).length = tail.length + 1 + k := by simp only [List.length_append, List.length_cons, List.length_nil, List.length_replicate]
  have hb2 : (tail ++ [128] ++ List.replicate k (0 : UInt8)).length + [(0 : UInt8)].length ≤ maxLen ∧ ((tail ++ [128] ++ List.replicate k (0 : UInt8)).length + [(0 : UInt8)].length) * 1 ≤ 140737488355328 := by rw [hel]; simp only [maxLen, List.length_cons, List.length_nil]; omega
  have hnext : tail ++ [128] ++ List.replicate k (0 : UInt8) ++ [0] = tail ++ [128] ++ List.replicate (k + 1) 0 := by rw [List.replicate_succ']; simp
  by_cases hkz : k = zerosOf n
  · have hc : (((tail ++ [128] ++ List.replicate k (0 : UInt8)).length : Nat) : Int) % 64 = 56 := by rw [hel]; exact hst.2 hkz
    rw [hkz] at hc hel ⊢
    generalize hE : tail ++ [128] ++ List.replicate (zerosOf n) (0 : UInt8) = e at *
    focus (
    (refine W.seq ?_)
    (refine W.seq ?_)
    (refine W.region ?_)
    (refine Jx.move rfl rfl ?_)
    (refine Jx.lenRow rfl 0 rfl rfl ?_)
    (refine Jx.rem64 rfl rfl (by omega) (by decide) rfl ?_)
    (refine Jx.neqI rfl rfl rfl ?_)
    (refine J.nil ?_)
    (refine N.seq ?_)
    (refine W.condF rfl (by first | rfl | assumption | (exact decide_eq_true (by first | assumption | omega | rfl)) | (exact decide_eq_false (by first | assumption | omega | rfl)) | (simp; done) | (simp; omega)) ?_)
    (refine W.exit ?_)
    (refine N.seq ?_)
    (refine W.seq ?_)
    (refine W.region ?_)
    (refine Jx.move rfl rfl ?_)
    (refine Jx.nilCheck rfl rfl ?_)
    (refine Jx.fieldAddr rfl rfl ?_)
    (refine Jx.load rfl 2 rfl rfl rfl ?_)
    (refine Jx.convU64 n rfl rfl rfl (by omega) rfl ?_)
    (refine Jx.mulU64 8 rfl rfl (by omega) rfl ?_)
    (refine Jx.assign rfl rfl ?_)
    (refine J.nil ?_)
    (refine N.seq ?_)
    (refine W.seq ?_)
    (refine W.seq ?_)
    (refine W.region ?_)
    (refine Jx.move rfl rfl ?_)
    (refine J.nil ?_)
    (refine N.seq ?_)
    (refine W.block ?_)
    (refine id ?_; rotate_left))
    refine W.loop (α := Nat × Value) (fun x => [(29, int x.1), (3, .val x.2), (4, u64 (n * 8)), (0, ptr b)]) (fun x => .row x.2 tU8 1 (e ++ (lenB n).take x.1).length (elOf encB 0 (e ++ (lenB n).take x.1)) :: hraw b v s tail n) (fun x => x.1 ≤ 8) (fun x => 8 - x.1) (0, u) (by simp) (by simp only [List.take_zero, List.append_nil]) ⟨ref0 rfl, ref0 rfl, ref0 rfl, ref0 rfl, trivial⟩ ?_
    rintro ⟨i, u⟩ hi
    simp only at hi ⊢
    have hlt : ((lenB n).take i).length ≤ 8 := by rw [List.length_take]; omega
    have hel2 : (e ++ (lenB n).take i).length ≤ 200 := by rw [List.length_append]; omega
    by_cases h8 : i < 8
    · have hb3 : (e ++ (lenB n).take i).length + [UInt8.ofNat (n * 8 / 2 ^ (56 - 8 * i))].length ≤ maxLen ∧ ((e ++ (lenB n).take i).length + [UInt8.ofNat (n * 8 / 2 ^ (56 - 8 * i))].length) * 1 ≤ 140737488355328 := by simp only [maxLen, List.length_cons, List.length_nil]; omega
      have hn2 : e ++ (lenB n).take i ++ [UInt8.ofNat (n * 8 / 2 ^ (56 - 8 * i))] = e ++ (lenB n).take (i + 1) := by rw [List.append_assoc, lenB_take n i h8]
      generalize hm : e ++ (lenB n).take i = m at *
      focus (
    (refine W.seq ?_)
    (refine W.region ?_)
    (refine Jx.lssI rfl rfl rfl ?_)
    (refine J.nil ?_)
    (refine N.seq ?_)
    (refine W.seq ?_)
    (refine W.condT rfl (by first | rfl | assumption | (exact decide_eq_true (by first | assumption | omega | rfl)) | (exact decide_eq_false (by first | assumption | omega | rfl)) | (simp; done) | (simp; omega)) ?_)
    (refine W.skip ?_)
    (refine N.seq ?_)
    (refine W.seq ?_)
    (refine W.block ?_)
    (refine W.seq ?_)
    (refine W.region ?_)
    (refine Jx.move rfl rfl ?_)
    (refine Jx.assign rfl rfl ?_)
    (refine J.nil ?_)
    (refine N.seq ?_)
    (refine W.region ?_)
    (refine Jx.move rfl rfl ?_)
    (refine Jx.move rfl rfl ?_)
    (refine Jx.move rfl rfl ?_)
    (refine Jx.mul64 rfl rfl (by omega) rfl ?_)
    (refine Jx.sub64 rfl rfl (by omega) rfl ?_)
    (refine Jx.shrN (s := 56 - 8 * i) rfl rfl (by omega) (by simp only [IntKind.bits]; omega) rfl ?_)
    (refine Jx.numByte (n * 8 / 2 ^ (56 - 8 * i)) rfl rfl rfl rfl ?_)
    (refine J.qs (Qs.buildBytes [UInt8.ofNat (n * 8 / 2 ^ (56 - 8 * i))] rfl rfl rfl (by decide) (by decide)) rfl ?_)
    (refine J.appendL (l2 := [UInt8.ofNat (n * 8 / 2 ^ (56 - 8 * i))]) rfl (SrcOK.sl rfl) rfl rfl hb3 rfl ?_; intro v3 hv3)
    (refine Jx.assign rfl rfl ?_)
    (refine J.nil ?_)
    (refine N.seq ?_)
    (refine W.region ?_)
    (refine Jx.add64 rfl rfl (by omega) rfl ?_)
    (refine Jx.move rfl rfl ?_)
    (refine J.nil ?_)
    (refine id ?_; rotate_left))
      exact N.round (i + 1, v3) (by simp only; omega) (by simp only; omega) (by simp only [hn2]) ⟨ref0 rfl, ref0 rfl, ref0 rfl, ref0 rfl, trivial⟩
    · have h8' : i = 8 := by omega
      have hall : e ++ (lenB n).take i = tail ++ padS n := by rw [h8', List.take_of_length_le (by rw [lenB_len]; omega), hpad]
      rw [hall]
      rw [hall] at hel2
      refine W.freeze 3 rfl (by simp only [maxLen]; omega) ?_
      focus (
    (refine W.seq ?_)
    (refine W.region ?_)
    (refine Jx.lssI rfl rfl rfl ?_)
    (refine J.nil ?_)
    (refine N.seq ?_)
    (refine W.seq ?_)
    (refine W.condF rfl (by first | rfl | assumption | (exact decide_eq_true (by first | assumption | omega | rfl)) | (exact decide_eq_false (by first | assumption | omega | rfl)) | (simp; done) | (simp; omega)) ?_)
    (refine W.exit ?_)
    (refine N.seq ?_)
    (refine W.seq ?_)
    (refine W.region ?_)
    (refine Jx.move rfl rfl ?_)
    (refine Jx.nilCheck rfl rfl ?_)
    (refine Jx.fieldAddr rfl rfl ?_)
    (refine Jx.loadAg rfl 1 rfl rfl rfl rfl ?_)
    (refine Jx.move rfl rfl ?_)
    (refine J.call c rfl (evs_args rfl) rfl ?_; rintro _ _ ⟨v4, hv4, rfl, rfl⟩; simp only [List.cons_append, List.nil_append])
    (refine Jx.move rfl rfl ?_)
    (refine Jx.extract rfl rfl rfl ?_)
    (refine Jx.extract rfl rfl rfl ?_)
    (refine J.alloc (by simp only [List.map_cons, List.map_nil]; rfl) rfl rfl ?_; intro b')
    (refine J.storeAll rfl rfl rfl 0 rfl rfl rfl ?_)
    (refine Jx.assign rfl rfl ?_)
    (refine J.nil ?_)
    (refine N.seq ?_)
    (refine W.seq ?_)
    (refine W.region ?_)
    (refine Jx.loadAll rfl 0 rfl rfl rfl ?_)
    (refine J.call (told_ok s2) rfl (evs_args rfl) rfl ?_; rintro _ _ ⟨rfl, rfl⟩; simp only [List.cons_append, List.nil_append, List.append_nil])
    (refine Jx.assign rfl rfl ?_)
    (refine J.nil ?_)
    (refine N.seq ?_)
    (refine W.ret ?_)
    (refine id ?_; rotate_left))
      exact N.retD (rs := [.tmp 2]) (L1 := hraw b v s tail n) rfl (.tmp rfl .nil) (by simp) ⟨rfl, rfl⟩
  · have hc : ¬ (((tail ++ [128] ++ List.replicate k (0 : UInt8)).length : Nat) : Int) % 64 = 56 := by rw [hel]; exact fun h => hkz (hst.1 h)
    generalize hE : tail ++ [128] ++ List.replicate k (0 : UInt8) = e at *
    focus (
    (refine W.seq ?_)
    (refine W.seq ?_)
    (refine W.region ?_)
    (refine Jx.move rfl rfl ?_)
    (refine Jx.lenRow rfl 0 rfl rfl ?_)
    (refine Jx.rem64 rfl rfl (by omega) (by decide) rfl ?_)
    (refine Jx.neqI rfl rfl rfl ?_)
    (refine J.nil ?_)
    (refine N.seq ?_)
    (refine W.condT rfl (by first | rfl | assumption | (exact decide_eq_true (by first | assumption | omega | rfl)) | (exact decide_eq_false (by first | assumption | omega | rfl)) | (simp; done) | (simp; omega)) ?_)
    (refine W.skip ?_)
    (refine N.seq ?_)
    (refine W.block ?_)
    (refine W.region ?_)
    (refine Jx.move rfl rfl ?_)
    (refine J.qs (Qs.buildBytes [0] rfl rfl rfl (by decide) (by decide)) rfl ?_)
    (refine J.appendL (l2 := [0]) rfl (SrcOK.sl rfl) rfl rfl hb2 rfl ?_; intro v3 hv3)
    (refine Jx.assign rfl rfl ?_)
    (refine J.nil ?_)
    (refine N.blockNormal ?_)
    (refine id ?_; rotate_left))
    exact N.round (k + 1, v3) (by simp only; omega) (by simp only; omega) (by simp only [hnext]) ⟨ref0 rfl, ref0 rfl, trivial⟩
theorem hsum_ok (x : List UInt8) (hx : x.length ≤ 2147483648) : FnC Tryd.prog 66 [str x] [] (fun r L => r = str (shaS x) ∧ L = []) := by
  have hl := blocksS_left x.length first8 x (Nat.le_refl _)
  have happ := blocksS_app x.length first8 x (padS x.length) (Nat.le_refl _)
  have c2 : ∀ b v, FnC Tryd.prog 105 [ptr b, str x] (hraw b v first8 [] 0) (fun r L => ∃ v', L = hraw b v' (blocksS first8 x).1 (blocksS first8 x).2 x.length) := fun b v => by
    have := write_ok b v first8 [] 0 x (by simp) (by omega) hx
    simpa using this
  have c3 := fun b v => sum_ok b v (blocksS first8 x).1 (blocksS first8 x).2 x.length hl (by omega)
  rw [← happ] at c3
  change ∀ b v, FnC Tryd.prog 106 [ptr b] (hraw b v (blocksS first8 x).1 (blocksS first8 x).2 x.length) (fun r L => r = str (shaS x) ∧ L = hraw b v (blocksS first8 x).1 (blocksS first8 x).2 x.length) at c3
  generalize blocksS first8 x = p at *
  refine FnC.intro Tryd.func66 rfl Tryd.ntmps66 rfl fun Z w0 hG => ?_
  focus (
    (refine W.seq ?_)
    (refine W.region ?_)
    (refine Jx.assign rfl rfl ?_)
    (refine J.nil ?_)
    (refine N.seq ?_)
    (refine W.seq ?_)
    (refine W.region ?_)
    (refine J.call new_ok rfl (evs_args rfl) rfl ?_; rintro _ _ ⟨b, v, rfl, rfl⟩; simp only [List.cons_append, List.nil_append, List.append_nil])
    (refine Jx.assign rfl rfl ?_)
    (refine J.nil ?_)
    (refine N.seq ?_)
    (refine W.seq ?_)
    (refine W.region ?_)
    (refine Jx.move rfl rfl ?_)
    (refine Jx.move rfl rfl ?_)
    (refine J.call (c2 b v) rfl (evs_args rfl) rfl ?_; rintro _ _ ⟨v2, rfl⟩; simp only [List.cons_append, List.nil_append, List.append_nil])
    (refine J.nil ?_)
    (refine N.seq ?_)
    (refine W.seq ?_)
    (refine W.region ?_)
    (refine Jx.move rfl rfl ?_)
    (refine J.call (c3 b v2) rfl (evs_args rfl) rfl ?_; rintro _ _ ⟨rfl, rfl⟩; simp only [List.cons_append, List.nil_append, List.append_nil])
    (refine Jx.assign rfl rfl ?_)
    (refine J.nil ?_)
    (refine N.seq ?_)
    (refine W.ret ?_)
    (refine id ?_; rotate_left))
  exact N.retD (rs := [.tmp 2]) (L1 := []) rfl (.tmp rfl .nil) (List.nil_sublist _) ⟨rfl, rfl⟩
end Go.Proofs.YtmlncbdfbodjoaaDoor.Sha
namespace Go.Proofs.YtmlncbdfbodjoaaDoor.Sha
open Go Go.Sse
set_option linter.unusedVariables false
set_option linter.unusedSimpArgs false
set_option maxRecDepth 100000
def fewB (l : List (List UInt8)) (n e : Int) : Bool := decide ((l.length : Int) ≤ n) && l.all fun s => decide ((s.length : Int) ≤ e)
theorem few_ok (l : List (List UInt8)) (n e : Int) (hn : n ≤ 9223372036854775807) : FnC Tryd.prog 64 [ssl l, int n, int e] [] (fun s L => s = bool (fewB l n e) ∧ L = []) := by
  refine FnC.intro Tryd.func64 rfl Tryd.ntmps64 rfl fun Z w0 hG => ?_
  by_cases h0 : n < (l.length : Int)
  · focus (
    (refine W.seq ?_)
    (refine W.region ?_)
    (refine Jx.assign rfl rfl ?_)
    (refine J.nil ?_)
    (refine N.seq ?_)
    (refine W.seq ?_)
    (refine W.seq ?_)
    (refine W.region ?_)
    (refine Jx.move rfl rfl ?_)
    (refine Jx.lenSl rfl rfl ?_)
    (refine Jx.move rfl rfl ?_)
    (refine Jx.gtrI rfl rfl rfl ?_)
    (refine J.nil ?_)
    (refine N.seq ?_)
    (refine W.condT rfl (by first | rfl | assumption | (exact decide_eq_true (by first | assumption | omega | rfl)) | (exact decide_eq_false (by first | assumption | omega | rfl)) | (simp; done) | (simp; omega)) ?_)
    (refine W.seq ?_)
    (refine W.region ?_)
    (refine Jx.assign rfl rfl ?_)
    (refine J.nil ?_)
    (refine N.seq ?_)
    (refine W.ret ?_)
    (refine N.seqRet ?_)
    (refine id ?_; rotate_left))
    refine N.ret (rs := [.tmp 6]) rfl (.tmp rfl .nil) ⟨?_, rfl⟩
    simp [oneOr, fewB, show ¬ (l.length : Int) ≤ n by omega]
  · focus (
    (refine W.seq ?_)
    (refine W.region ?_)
    (refine Jx.assign rfl rfl ?_)
    (refine J.nil ?_)
    (refine N.seq ?_)
    (refine W.seq ?_)
    (refine W.seq ?_)
    (refine W.region ?_)
    (refine Jx.move rfl rfl ?_)
    (refine Jx.lenSl rfl rfl ?_)
    (refine Jx.move rfl rfl ?_)
    (refine Jx.gtrI rfl rfl rfl ?_)
    (refine J.nil ?_)
    (refine N.seq ?_)
    (refine W.condF rfl (by first | rfl | assumption | (exact decide_eq_true (by first | assumption | omega | rfl)) | (exact decide_eq_false (by first | assumption | omega | rfl)) | (simp; done) | (simp; omega)) ?_)
    (refine W.skip ?_)
    (refine N.seq ?_)
    (refine W.seq ?_)
    (refine W.seq ?_)
    (refine W.region ?_)
    (refine Jx.assign rfl rfl ?_)
    (refine J.nil ?_)
    (refine N.seq ?_)
    (refine W.block ?_)
    (refine id ?_; rotate_left))
    refine W.loop (α := Nat) (fun i => [(7, int i), (2, int e), (0, ssl l)]) (fun _ => []) (fun i => i ≤ l.length ∧ ∀ s ∈ l.take i, (s.length : Int) ≤ e) (fun i => l.length - i) 0 ⟨by omega, by simp⟩ rfl ⟨ref0 rfl, ref0 rfl, ref0 rfl, trivial⟩ ?_
    rintro i ⟨hi, hall⟩
    by_cases h1 : i < l.length
    · have hm : l.getD i [] ∈ l := by rw [List.getD_eq_getElem?_getD, List.getElem?_eq_getElem h1]; exact List.getElem_mem _
      have hts : ∀ s ∈ l.take (i + 1), s ∈ l.take i ∨ s = l.getD i [] := fun s hs => by
        rw [List.take_add_one, List.getElem?_eq_getElem h1] at hs
        rw [List.getD_eq_getElem?_getD, List.getElem?_eq_getElem h1]
        simp only [Option.toList_some, List.mem_append, List.mem_singleton] at hs
        exact hs
      by_cases h2 : e < ((l.getD i []).length : Int)
      · focus (
    (refine W.seq ?_)
    (refine W.seq ?_)
    (refine W.region ?_)
    (refine Jx.move rfl rfl ?_)
    (refine Jx.move rfl rfl ?_)
    (refine Jx.lenSl rfl rfl ?_)
    (refine Jx.lssI rfl rfl rfl ?_)
    (refine J.nil ?_)
    (refine N.seq ?_)
    (refine W.condT rfl (by first | rfl | assumption | (exact decide_eq_true (by first | assumption | omega | rfl)) | (exact decide_eq_false (by first | assumption | omega | rfl)) | (simp; done) | (simp; omega)) ?_)
    (refine W.skip ?_)
    (refine N.seq ?_)
    (refine W.seq ?_)
    (refine W.block ?_)
    (refine W.seq ?_)
    (refine W.region ?_)
    (refine Jx.move rfl rfl ?_)
    (refine Jx.move rfl rfl ?_)
    (refine Jx.indexEl rfl rfl (by assumption) rfl rfl ?_)
    (refine Jx.loadPP rfl rfl ?_)
    (refine Jx.lenS rfl rfl ?_)
    (refine Jx.move rfl rfl ?_)
    (refine Jx.gtrI rfl rfl rfl ?_)
    (refine J.nil ?_)
    (refine N.seq ?_)
    (refine W.condT rfl (by first | rfl | assumption | (exact decide_eq_true (by first | assumption | omega | rfl)) | (exact decide_eq_false (by first | assumption | omega | rfl)) | (simp; done) | (simp; omega)) ?_)
    (refine W.seq ?_)
    (refine W.region ?_)
    (refine Jx.assign rfl rfl ?_)
    (refine J.nil ?_)
    (refine N.seq ?_)
    (refine W.ret ?_)
    (refine N.blockRet ?_)
    (refine N.seqRet ?_)
    (refine N.seqRet ?_)
    (refine N.blockRet ?_)
    (refine N.seqRet ?_)
    (refine id ?_; rotate_left))
        refine N.ret (rs := [.tmp 6]) rfl (.tmp rfl .nil) ⟨?_, rfl⟩
        have : l.all (fun s => decide ((s.length : Int) ≤ e)) = false := by
          rw [List.all_eq_false]; exact ⟨_, hm, by simp only [decide_eq_true_eq]; omega⟩
        simp [oneOr, fewB, this]
      · focus (
    (refine W.seq ?_)
    (refine W.seq ?_)
    (refine W.region ?_)
    (refine Jx.move rfl rfl ?_)
    (refine Jx.move rfl rfl ?_)
    (refine Jx.lenSl rfl rfl ?_)
    (refine Jx.lssI rfl rfl rfl ?_)
    (refine J.nil ?_)
    (refine N.seq ?_)
    (refine W.condT rfl (by first | rfl | assumption | (exact decide_eq_true (by first | assumption | omega | rfl)) | (exact decide_eq_false (by first | assumption | omega | rfl)) | (simp; done) | (simp; omega)) ?_)
    (refine W.skip ?_)
    (refine N.seq ?_)
    (refine W.seq ?_)
    (refine W.block ?_)
    (refine W.seq ?_)
    (refine W.region ?_)
    (refine Jx.move rfl rfl ?_)
    (refine Jx.move rfl rfl ?_)
    (refine Jx.indexEl rfl rfl (by assumption) rfl rfl ?_)
    (refine Jx.loadPP rfl rfl ?_)
    (refine Jx.lenS rfl rfl ?_)
    (refine Jx.move rfl rfl ?_)
    (refine Jx.gtrI rfl rfl rfl ?_)
    (refine J.nil ?_)
    (refine N.seq ?_)
    (refine W.condF rfl (by first | rfl | assumption | (exact decide_eq_true (by first | assumption | omega | rfl)) | (exact decide_eq_false (by first | assumption | omega | rfl)) | (simp; done) | (simp; omega)) ?_)
    (refine W.skip ?_)
    (refine N.seq ?_)
    (refine W.region ?_)
    (refine Jx.move rfl rfl ?_)
    (refine Jx.add64 rfl rfl (by omega) rfl ?_)
    (refine Jx.assign rfl rfl ?_)
    (refine J.nil ?_)
    (refine id ?_; rotate_left))
        exact N.round (i + 1) ⟨h1, fun s hs => by rcases hts s hs with h | rfl; exact hall s h; omega⟩ (by omega) rfl ⟨ref0 rfl, ref0 rfl, ref0 rfl, trivial⟩
    · have hil : i = l.length := by omega
      focus (
    (refine W.seq ?_)
    (refine W.seq ?_)
    (refine W.region ?_)
    (refine Jx.move rfl rfl ?_)
    (refine Jx.move rfl rfl ?_)
    (refine Jx.lenSl rfl rfl ?_)
    (refine Jx.lssI rfl rfl rfl ?_)
    (refine J.nil ?_)
    (refine N.seq ?_)
    (refine W.condF rfl (by first | rfl | assumption | (exact decide_eq_true (by first | assumption | omega | rfl)) | (exact decide_eq_false (by first | assumption | omega | rfl)) | (simp; done) | (simp; omega)) ?_)
    (refine W.exit ?_)
    (refine N.seq ?_)
    (refine W.seq ?_)
    (refine W.region ?_)
    (refine Jx.assign rfl rfl ?_)
    (refine J.nil ?_)
    (refine N.seq ?_)
    (refine W.ret ?_)
    (refine id ?_; rotate_left))
      refine N.ret (rs := [.tmp 6]) rfl (.tmp rfl .nil) ⟨?_, rfl⟩
      rw [hil, List.take_length] at hall
      have : l.all (fun s => decide ((s.length : Int) ≤ e)) = true := List.all_eq_true.2 fun s hs => by simpa using hall s hs
      simp only [oneOr, fewB, this, Bool.and_true]
      rw [decide_eq_true (by omega)]
end Go.Proofs.YtmlncbdfbodjoaaDoor.Sha
