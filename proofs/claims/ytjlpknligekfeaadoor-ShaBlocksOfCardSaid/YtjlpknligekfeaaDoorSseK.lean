/-
  What package variables hold, words of 32 bits, and further operations, in the frame's words.
-/
import Derived.Test.YtjlpknligekfeaaDoorSseJ
namespace Go.Sse
open Go Go.Sse
set_option linter.unusedVariables false
set_option linter.unusedSimpArgs false

section
variable {P : Program} {Γ : Ctx} {ops : Array Oper} {Q : Exit → Act → World → Prop} {F : List (Nat × SV)} {L : List Own} {rest : List Oper}
variable {dst : Option Tmp} {ty : TypeId} {pos : String} {aft : Array Edge} {g : Option (Nat × Bool)}

/-- Reading a package variable that nobody changes. -/
theorem Pv.loadG [Gl P] [Globs P Γ] {T b o : Nat} [h : TSc P T] {x : Operand} (hx : ev F x = some (.val (.pointer (some ⟨b, o, none⟩)))) (i : Nat) {vs : List Value} {v : Value} (hi : (Gl.gl P)[i]? = some (b, vs)) (hv : vs[o]? = some v) :
    Pv P Γ F L ⟨dst, .load T x, ty, pos, aft, g⟩ (.val v) := fun ρ w hst => by
  obtain ⟨_, _, h3⟩ := Globs.at (P := P) hst.ws (List.mem_of_getElem? hi)
  refine ⟨v, ?_, .val _⟩
  have := run_loadVar_sc h w ⟨b, o, none⟩ v (h3 o v hv)
  simp [execOp, hst.evv (x := x) (by simp [Op.operands]) hx, Instr.loadAt, Instr.sureAddr, this]
theorem Cx.loadG [Gl P] [Globs P Γ] {T b o : Nat} [h : TSc P T] {x : Operand} (hx : ev F x = some (.val (.pointer (some ⟨b, o, none⟩)))) (i : Nat) {vs : List Value} {v : Value} (hi : (Gl.gl P)[i]? = some (b, vs)) (hv : vs[o]? = some v) {d0 : Nat} {K : List (Nat × SV) → Prop} (hlt : Nat.blt d0 Γ.nt = true) (hr : SegC P Γ ops L ((d0, (.val v)) :: F) rest K) : SegC P Γ ops L F (⟨some d0, .load T x, ty, pos, aft, none⟩ :: rest) K :=
  SegC.q (Qs.pv (by apply Pv.loadG <;> assumption)) hlt hr
theorem Jx.loadG [Gl P] [Globs P Γ] {T b o : Nat} [h : TSc P T] {x : Operand} (hx : ev F x = some (.val (.pointer (some ⟨b, o, none⟩)))) (i : Nat) {vs : List Value} {v : Value} (hi : (Gl.gl P)[i]? = some (b, vs)) (hv : vs[o]? = some v) {d0 : Nat} (hlt : Nat.blt d0 Γ.nt = true) (k : J P Γ ops Q ((d0, (.val v)) :: F) L rest) : J P Γ ops Q F L (⟨some d0, .load T x, ty, pos, aft, none⟩ :: rest) :=
  J.pv (by apply Pv.loadG <;> assumption) hlt k

-- words of 32 bits, of 64 bits

abbrev u32 (x : BitVec 32) : SV := .val (.int .u32 (x.toNat : Int))
abbrev u64 (n : Nat) : SV := .val (.int .u64 (n : Int))

theorem wrap_u32 (n : Nat) : IntKind.u32.wrap (n : Int) = ((BitVec.ofNat 32 n).toNat : Int) := by
  simp only [IntKind.wrap, IntKind.bits, IntKind.signed, Bool.false_and, Bool.false_eq_true, if_false, BitVec.toNat_ofNat]
  norm_cast
theorem wrap_u8 (n : Nat) : IntKind.u8.wrap (n : Int) = ((UInt8.ofNat n).toNat : Int) := by
  simp only [IntKind.wrap, IntKind.bits, IntKind.signed, Bool.false_and, Bool.false_eq_true, if_false, UInt8.toNat_ofNat']
  norm_cast
theorem wrap_u64 {n : Nat} (h : n < 18446744073709551616) : IntKind.u64.wrap (n : Int) = n := by
  simp only [IntKind.wrap, IntKind.bits, IntKind.signed, Bool.false_and, Bool.false_eq_true, if_false]
  norm_cast
  exact Nat.mod_eq_of_lt h
theorem ofNat_toNat32 (a : BitVec 32) : BitVec.ofNat 32 a.toNat = a := by simp
theorem ofInt_u32 (a : BitVec 32) : BitVec.ofInt 32 (a.toNat : Int) = a := by simp

section
variable {t t2 : TypeId} {x y : Operand} {a b : BitVec 32} (hx : ev F x = some (u32 a))
include hx
theorem Pv.notU : Pv P Γ F L ⟨dst, .unOp .xor t x, ty, pos, aft, g⟩ (u32 (~~~a)) :=
  fun ρ w hst => ⟨_, by
    have h1 : (Op.unary .xor (.int .u32 (a.toNat : Int))).run P w = .ok (.int .u32 ((~~~a).toNat : Int)) w := by
      simp only [Op.unary, IntKind.signed, Bool.false_eq_true, if_false, Op.intBits, IntKind.bits, ofInt_u32, wrap_u32, Sem.run_pure, ofNat_toNat32]
      rw [show BitVec.ofInt 32 IntKind.u32.max = BitVec.allOnes 32 by decide]
      show Result.ok (Value.int .u32 ((BitVec.allOnes 32 ^^^ a).toNat : Int)) w = _
      rw [BitVec.allOnes_xor]
    simp [execOp, hst.evv (by simp [Op.operands]) hx, h1], .val _⟩
theorem Cx.notU  {d0 : Nat} {K : List (Nat × SV) → Prop} (hlt : Nat.blt d0 Γ.nt = true) (hr : SegC P Γ ops L ((d0, (u32 (~~~a))) :: F) rest K) : SegC P Γ ops L F (⟨some d0, .unOp .xor t x, ty, pos, aft, none⟩ :: rest) K :=
  SegC.q (Qs.pv (by apply Pv.notU <;> assumption)) hlt hr
theorem Jx.notU  {d0 : Nat} (hlt : Nat.blt d0 Γ.nt = true) (k : J P Γ ops Q ((d0, (u32 (~~~a))) :: F) L rest) : J P Γ ops Q F L (⟨some d0, .unOp .xor t x, ty, pos, aft, none⟩ :: rest) :=
  J.pv (by apply Pv.notU <;> assumption) hlt k

theorem Pv.shrU {k : IntKind} {n : Nat} (hy : ev F y = some (.val (.int k (n : Int)))) (hn : n ≤ 32) : Pv P Γ F L ⟨dst, .binOp .shr t x y t2, ty, pos, aft, g⟩ (u32 (a >>> n)) := by
  have := Pv.shr (P := P) (Γ := Γ) (L := L) (dst := dst) (ty := ty) (pos := pos) (aft := aft) (g := g) (t := t) (t2 := t2) hx hy (Int.natCast_nonneg n)
  have e : (a.toNat : Int).fdiv (2 ^ Min.min (n : Int).toNat IntKind.u32.bits) = ((a >>> n).toNat : Int) := by
    rw [Int.fdiv_eq_ediv_of_nonneg _ (by exact_mod_cast Nat.zero_le _)]
    simp only [IntKind.bits, Int.toNat_natCast, Nat.min_eq_left hn, BitVec.toNat_ushiftRight, Nat.shiftRight_eq_div_pow]
    norm_cast
  rwa [e] at this
theorem Cx.shrU {k : IntKind} {n : Nat} (hy : ev F y = some (.val (.int k (n : Int)))) (hn : n ≤ 32) {d0 : Nat} {K : List (Nat × SV) → Prop} (hlt : Nat.blt d0 Γ.nt = true) (hr : SegC P Γ ops L ((d0, (u32 (a >>> n))) :: F) rest K) : SegC P Γ ops L F (⟨some d0, .binOp .shr t x y t2, ty, pos, aft, none⟩ :: rest) K :=
  SegC.q (Qs.pv (by apply Pv.shrU <;> assumption)) hlt hr
theorem Jx.shrU {k : IntKind} {n : Nat} (hy : ev F y = some (.val (.int k (n : Int)))) (hn : n ≤ 32) {d0 : Nat} (hlt : Nat.blt d0 Γ.nt = true) (k : J P Γ ops Q ((d0, (u32 (a >>> n))) :: F) L rest) : J P Γ ops Q F L (⟨some d0, .binOp .shr t x y t2, ty, pos, aft, none⟩ :: rest) :=
  J.pv (by apply Pv.shrU <;> assumption) hlt k

theorem Pv.shlU {k : IntKind} {n : Nat} (hy : ev F y = some (.val (.int k (n : Int)))) (hn : n ≤ 32) : Pv P Γ F L ⟨dst, .binOp .shl t x y t2, ty, pos, aft, g⟩ (u32 (a <<< n)) := by
  have := Pv.shl (P := P) (Γ := Γ) (L := L) (dst := dst) (ty := ty) (pos := pos) (aft := aft) (g := g) (t := t) (t2 := t2) hx hy (Int.natCast_nonneg n)
  have e : IntKind.u32.wrap ((a.toNat : Int) * 2 ^ Min.min (n : Int).toNat IntKind.u32.bits) = ((a <<< n).toNat : Int) := by
    simp only [IntKind.bits, Int.toNat_natCast, Nat.min_eq_left hn]
    have : (a.toNat : Int) * 2 ^ n = ((a.toNat * 2 ^ n : Nat) : Int) := by push_cast; rfl
    rw [this, wrap_u32]
    simp [BitVec.toNat_shiftLeft, Nat.shiftLeft_eq]
  rwa [e] at this
theorem Cx.shlU {k : IntKind} {n : Nat} (hy : ev F y = some (.val (.int k (n : Int)))) (hn : n ≤ 32) {d0 : Nat} {K : List (Nat × SV) → Prop} (hlt : Nat.blt d0 Γ.nt = true) (hr : SegC P Γ ops L ((d0, (u32 (a <<< n))) :: F) rest K) : SegC P Γ ops L F (⟨some d0, .binOp .shl t x y t2, ty, pos, aft, none⟩ :: rest) K :=
  SegC.q (Qs.pv (by apply Pv.shlU <;> assumption)) hlt hr
theorem Jx.shlU {k : IntKind} {n : Nat} (hy : ev F y = some (.val (.int k (n : Int)))) (hn : n ≤ 32) {d0 : Nat} (hlt : Nat.blt d0 Γ.nt = true) (k : J P Γ ops Q ((d0, (u32 (a <<< n))) :: F) L rest) : J P Γ ops Q F L (⟨some d0, .binOp .shl t x y t2, ty, pos, aft, none⟩ :: rest) :=
  J.pv (by apply Pv.shlU <;> assumption) hlt k

theorem Pv.convByte {src d : Nat} [h : TInt P d .u8] (hs : (P.underlying src).isSome = true) : Pv P Γ F L ⟨dst, .convert src d x, ty, pos, aft, g⟩ (byte (UInt8.ofNat a.toNat)) := by
  have := Pv.convI (P := P) (Γ := Γ) (L := L) (dst := dst) (ty := ty) (pos := pos) (aft := aft) (g := g) (d := d) hs hx
  rwa [wrap_u8] at this
theorem Cx.convByte {src d : Nat} [h : TInt P d .u8] (hs : (P.underlying src).isSome = true) {d0 : Nat} {K : List (Nat × SV) → Prop} (hlt : Nat.blt d0 Γ.nt = true) (hr : SegC P Γ ops L ((d0, (byte (UInt8.ofNat a.toNat))) :: F) rest K) : SegC P Γ ops L F (⟨some d0, .convert src d x, ty, pos, aft, none⟩ :: rest) K :=
  SegC.q (Qs.pv (by apply Pv.convByte <;> assumption)) hlt hr
theorem Jx.convByte {src d : Nat} [h : TInt P d .u8] (hs : (P.underlying src).isSome = true) {d0 : Nat} (hlt : Nat.blt d0 Γ.nt = true) (k : J P Γ ops Q ((d0, (byte (UInt8.ofNat a.toNat))) :: F) L rest) : J P Γ ops Q F L (⟨some d0, .convert src d x, ty, pos, aft, none⟩ :: rest) :=
  J.pv (by apply Pv.convByte <;> assumption) hlt k

variable (hy : ev F y = some (u32 b))
include hy
theorem Pv.addU : Pv P Γ F L ⟨dst, .binOp .add t x y t2, ty, pos, aft, g⟩ (u32 (a + b)) := by
  have := Pv.add (P := P) (Γ := Γ) (L := L) (dst := dst) (ty := ty) (pos := pos) (aft := aft) (g := g) (t := t) (t2 := t2) hx hy
  have e : IntKind.u32.wrap ((a.toNat : Int) + b.toNat) = ((a + b).toNat : Int) := by
    rw [show ((a.toNat : Int) + b.toNat) = ((a.toNat + b.toNat : Nat) : Int) by push_cast; rfl, wrap_u32]
    simp [BitVec.toNat_add]
  rwa [e] at this
theorem Cx.addU  {d0 : Nat} {K : List (Nat × SV) → Prop} (hlt : Nat.blt d0 Γ.nt = true) (hr : SegC P Γ ops L ((d0, (u32 (a + b))) :: F) rest K) : SegC P Γ ops L F (⟨some d0, .binOp .add t x y t2, ty, pos, aft, none⟩ :: rest) K :=
  SegC.q (Qs.pv (by apply Pv.addU <;> assumption)) hlt hr
theorem Jx.addU  {d0 : Nat} (hlt : Nat.blt d0 Γ.nt = true) (k : J P Γ ops Q ((d0, (u32 (a + b))) :: F) L rest) : J P Γ ops Q F L (⟨some d0, .binOp .add t x y t2, ty, pos, aft, none⟩ :: rest) :=
  J.pv (by apply Pv.addU <;> assumption) hlt k

theorem Pv.xorU : Pv P Γ F L ⟨dst, .binOp .xor t x y t2, ty, pos, aft, g⟩ (u32 (a ^^^ b)) := by
  have := Pv.bxor (P := P) (Γ := Γ) (L := L) (dst := dst) (ty := ty) (pos := pos) (aft := aft) (g := g) (t := t) (t2 := t2) hx hy
  simp only [IntKind.bits, ofInt_u32, wrap_u32, ofNat_toNat32] at this
  exact this
theorem Cx.xorU  {d0 : Nat} {K : List (Nat × SV) → Prop} (hlt : Nat.blt d0 Γ.nt = true) (hr : SegC P Γ ops L ((d0, (u32 (a ^^^ b))) :: F) rest K) : SegC P Γ ops L F (⟨some d0, .binOp .xor t x y t2, ty, pos, aft, none⟩ :: rest) K :=
  SegC.q (Qs.pv (by apply Pv.xorU <;> assumption)) hlt hr
theorem Jx.xorU  {d0 : Nat} (hlt : Nat.blt d0 Γ.nt = true) (k : J P Γ ops Q ((d0, (u32 (a ^^^ b))) :: F) L rest) : J P Γ ops Q F L (⟨some d0, .binOp .xor t x y t2, ty, pos, aft, none⟩ :: rest) :=
  J.pv (by apply Pv.xorU <;> assumption) hlt k

theorem Pv.andU : Pv P Γ F L ⟨dst, .binOp .and t x y t2, ty, pos, aft, g⟩ (u32 (a &&& b)) := by
  have := Pv.band (P := P) (Γ := Γ) (L := L) (dst := dst) (ty := ty) (pos := pos) (aft := aft) (g := g) (t := t) (t2 := t2) hx hy
  simp only [IntKind.bits, ofInt_u32, wrap_u32, ofNat_toNat32] at this
  exact this
theorem Cx.andU  {d0 : Nat} {K : List (Nat × SV) → Prop} (hlt : Nat.blt d0 Γ.nt = true) (hr : SegC P Γ ops L ((d0, (u32 (a &&& b))) :: F) rest K) : SegC P Γ ops L F (⟨some d0, .binOp .and t x y t2, ty, pos, aft, none⟩ :: rest) K :=
  SegC.q (Qs.pv (by apply Pv.andU <;> assumption)) hlt hr
theorem Jx.andU  {d0 : Nat} (hlt : Nat.blt d0 Γ.nt = true) (k : J P Γ ops Q ((d0, (u32 (a &&& b))) :: F) L rest) : J P Γ ops Q F L (⟨some d0, .binOp .and t x y t2, ty, pos, aft, none⟩ :: rest) :=
  J.pv (by apply Pv.andU <;> assumption) hlt k

theorem Pv.orU : Pv P Γ F L ⟨dst, .binOp .or t x y t2, ty, pos, aft, g⟩ (u32 (a ||| b)) := by
  have := Pv.bor (P := P) (Γ := Γ) (L := L) (dst := dst) (ty := ty) (pos := pos) (aft := aft) (g := g) (t := t) (t2 := t2) hx hy
  simp only [IntKind.bits, ofInt_u32, wrap_u32, ofNat_toNat32] at this
  exact this
theorem Cx.orU  {d0 : Nat} {K : List (Nat × SV) → Prop} (hlt : Nat.blt d0 Γ.nt = true) (hr : SegC P Γ ops L ((d0, (u32 (a ||| b))) :: F) rest K) : SegC P Γ ops L F (⟨some d0, .binOp .or t x y t2, ty, pos, aft, none⟩ :: rest) K :=
  SegC.q (Qs.pv (by apply Pv.orU <;> assumption)) hlt hr
theorem Jx.orU  {d0 : Nat} (hlt : Nat.blt d0 Γ.nt = true) (k : J P Γ ops Q ((d0, (u32 (a ||| b))) :: F) L rest) : J P Γ ops Q F L (⟨some d0, .binOp .or t x y t2, ty, pos, aft, none⟩ :: rest) :=
  J.pv (by apply Pv.orU <;> assumption) hlt k

end

theorem Pv.mulU {t t2 : TypeId} {x y : Operand} {a : BitVec 32} (c : Nat) (hx : ev F x = some (u32 a)) (hy : ev F y = some (.val (.int .u32 (c : Int)))) : Pv P Γ F L ⟨dst, .binOp .mul t x y t2, ty, pos, aft, g⟩ (u32 (a * BitVec.ofNat 32 c)) := by
  have := Pv.mul (P := P) (Γ := Γ) (L := L) (dst := dst) (ty := ty) (pos := pos) (aft := aft) (g := g) (t := t) (t2 := t2) hx hy
  have e : IntKind.u32.wrap ((a.toNat : Int) * (c : Int)) = ((a * BitVec.ofNat 32 c).toNat : Int) := by
    rw [show ((a.toNat : Int) * (c : Int)) = ((a.toNat * c : Nat) : Int) by push_cast; rfl, wrap_u32]
    simp [BitVec.toNat_mul]
  rwa [e] at this
theorem Cx.mulU {t t2 : TypeId} {x y : Operand} {a : BitVec 32} (c : Nat) (hx : ev F x = some (u32 a)) (hy : ev F y = some (.val (.int .u32 (c : Int)))) {d0 : Nat} {K : List (Nat × SV) → Prop} (hlt : Nat.blt d0 Γ.nt = true) (hr : SegC P Γ ops L ((d0, (u32 (a * BitVec.ofNat 32 c))) :: F) rest K) : SegC P Γ ops L F (⟨some d0, .binOp .mul t x y t2, ty, pos, aft, none⟩ :: rest) K :=
  SegC.q (Qs.pv (by apply Pv.mulU <;> assumption)) hlt hr
theorem Jx.mulU {t t2 : TypeId} {x y : Operand} {a : BitVec 32} (c : Nat) (hx : ev F x = some (u32 a)) (hy : ev F y = some (.val (.int .u32 (c : Int)))) {d0 : Nat} (hlt : Nat.blt d0 Γ.nt = true) (k : J P Γ ops Q ((d0, (u32 (a * BitVec.ofNat 32 c))) :: F) L rest) : J P Γ ops Q F L (⟨some d0, .binOp .mul t x y t2, ty, pos, aft, none⟩ :: rest) :=
  J.pv (by apply Pv.mulU <;> assumption) hlt k

theorem Pv.byteWord {src d : Nat} [h : TInt P d .u32] {x : Operand} {b : UInt8} (hs : (P.underlying src).isSome = true) (hx : ev F x = some (byte b)) : Pv P Γ F L ⟨dst, .convert src d x, ty, pos, aft, g⟩ (u32 (BitVec.ofNat 32 b.toNat)) := by
  have := Pv.convI (P := P) (Γ := Γ) (L := L) (dst := dst) (ty := ty) (pos := pos) (aft := aft) (g := g) (d := d) hs hx
  rwa [wrap_u32] at this
theorem Cx.byteWord {src d : Nat} [h : TInt P d .u32] {x : Operand} {b : UInt8} (hs : (P.underlying src).isSome = true) (hx : ev F x = some (byte b)) {d0 : Nat} {K : List (Nat × SV) → Prop} (hlt : Nat.blt d0 Γ.nt = true) (hr : SegC P Γ ops L ((d0, (u32 (BitVec.ofNat 32 b.toNat))) :: F) rest K) : SegC P Γ ops L F (⟨some d0, .convert src d x, ty, pos, aft, none⟩ :: rest) K :=
  SegC.q (Qs.pv (by apply Pv.byteWord <;> assumption)) hlt hr
theorem Jx.byteWord {src d : Nat} [h : TInt P d .u32] {x : Operand} {b : UInt8} (hs : (P.underlying src).isSome = true) (hx : ev F x = some (byte b)) {d0 : Nat} (hlt : Nat.blt d0 Γ.nt = true) (k : J P Γ ops Q ((d0, (u32 (BitVec.ofNat 32 b.toNat))) :: F) L rest) : J P Γ ops Q F L (⟨some d0, .convert src d x, ty, pos, aft, none⟩ :: rest) :=
  J.pv (by apply Pv.byteWord <;> assumption) hlt k

/-- A number as a byte. -/
theorem Pv.numByte {src d : Nat} [h : TInt P d .u8] {x : Operand} {k : IntKind} (n : Nat) {m : Int} (hs : (P.underlying src).isSome = true) (hx : ev F x = some (.val (.int k m))) (hm : m = (n : Int)) : Pv P Γ F L ⟨dst, .convert src d x, ty, pos, aft, g⟩ (byte (UInt8.ofNat n)) := by
  subst hm
  have := Pv.convI (P := P) (Γ := Γ) (L := L) (dst := dst) (ty := ty) (pos := pos) (aft := aft) (g := g) (d := d) hs hx
  rwa [wrap_u8] at this
theorem Cx.numByte {src d : Nat} [h : TInt P d .u8] {x : Operand} {k : IntKind} (n : Nat) {m : Int} (hs : (P.underlying src).isSome = true) (hx : ev F x = some (.val (.int k m))) (hm : m = (n : Int)) {d0 : Nat} {K : List (Nat × SV) → Prop} (hlt : Nat.blt d0 Γ.nt = true) (hr : SegC P Γ ops L ((d0, (byte (UInt8.ofNat n))) :: F) rest K) : SegC P Γ ops L F (⟨some d0, .convert src d x, ty, pos, aft, none⟩ :: rest) K :=
  SegC.q (Qs.pv (by apply Pv.numByte <;> assumption)) hlt hr
theorem Jx.numByte {src d : Nat} [h : TInt P d .u8] {x : Operand} {k : IntKind} (n : Nat) {m : Int} (hs : (P.underlying src).isSome = true) (hx : ev F x = some (.val (.int k m))) (hm : m = (n : Int)) {d0 : Nat} (hlt : Nat.blt d0 Γ.nt = true) (k : J P Γ ops Q ((d0, (byte (UInt8.ofNat n))) :: F) L rest) : J P Γ ops Q F L (⟨some d0, .convert src d x, ty, pos, aft, none⟩ :: rest) :=
  J.pv (by apply Pv.numByte <;> assumption) hlt k

/-- A byte as a number. -/
theorem Pv.byteNum {src d : Nat} [h : TInt P d .i64] {x : Operand} {b : UInt8} (hs : (P.underlying src).isSome = true) (hx : ev F x = some (byte b)) : Pv P Γ F L ⟨dst, .convert src d x, ty, pos, aft, g⟩ (int b.toNat) := by
  have := Pv.convI (P := P) (Γ := Γ) (L := L) (dst := dst) (ty := ty) (pos := pos) (aft := aft) (g := g) (d := d) hs hx
  have hb := b.toNat_lt
  rwa [wrap_i64 (by omega)] at this
theorem Cx.byteNum {src d : Nat} [h : TInt P d .i64] {x : Operand} {b : UInt8} (hs : (P.underlying src).isSome = true) (hx : ev F x = some (byte b)) {d0 : Nat} {K : List (Nat × SV) → Prop} (hlt : Nat.blt d0 Γ.nt = true) (hr : SegC P Γ ops L ((d0, (int b.toNat)) :: F) rest K) : SegC P Γ ops L F (⟨some d0, .convert src d x, ty, pos, aft, none⟩ :: rest) K :=
  SegC.q (Qs.pv (by apply Pv.byteNum <;> assumption)) hlt hr
theorem Jx.byteNum {src d : Nat} [h : TInt P d .i64] {x : Operand} {b : UInt8} (hs : (P.underlying src).isSome = true) (hx : ev F x = some (byte b)) {d0 : Nat} (hlt : Nat.blt d0 Γ.nt = true) (k : J P Γ ops Q ((d0, (int b.toNat)) :: F) L rest) : J P Γ ops Q F L (⟨some d0, .convert src d x, ty, pos, aft, none⟩ :: rest) :=
  J.pv (by apply Pv.byteNum <;> assumption) hlt k

theorem Pv.convU64 {src d : Nat} [h : TInt P d .u64] {x : Operand} {k : IntKind} (n : Nat) {m : Int} (hs : (P.underlying src).isSome = true) (hx : ev F x = some (.val (.int k m))) (hm : m = (n : Int)) (hn : n < 18446744073709551616) : Pv P Γ F L ⟨dst, .convert src d x, ty, pos, aft, g⟩ (u64 n) := by
  subst hm
  have := Pv.convI (P := P) (Γ := Γ) (L := L) (dst := dst) (ty := ty) (pos := pos) (aft := aft) (g := g) (d := d) hs hx
  rwa [wrap_u64 hn] at this
theorem Cx.convU64 {src d : Nat} [h : TInt P d .u64] {x : Operand} {k : IntKind} (n : Nat) {m : Int} (hs : (P.underlying src).isSome = true) (hx : ev F x = some (.val (.int k m))) (hm : m = (n : Int)) (hn : n < 18446744073709551616) {d0 : Nat} {K : List (Nat × SV) → Prop} (hlt : Nat.blt d0 Γ.nt = true) (hr : SegC P Γ ops L ((d0, (u64 n)) :: F) rest K) : SegC P Γ ops L F (⟨some d0, .convert src d x, ty, pos, aft, none⟩ :: rest) K :=
  SegC.q (Qs.pv (by apply Pv.convU64 <;> assumption)) hlt hr
theorem Jx.convU64 {src d : Nat} [h : TInt P d .u64] {x : Operand} {k : IntKind} (n : Nat) {m : Int} (hs : (P.underlying src).isSome = true) (hx : ev F x = some (.val (.int k m))) (hm : m = (n : Int)) (hn : n < 18446744073709551616) {d0 : Nat} (hlt : Nat.blt d0 Γ.nt = true) (k : J P Γ ops Q ((d0, (u64 n)) :: F) L rest) : J P Γ ops Q F L (⟨some d0, .convert src d x, ty, pos, aft, none⟩ :: rest) :=
  J.pv (by apply Pv.convU64 <;> assumption) hlt k

theorem Pv.mulU64 {t t2 : TypeId} {x y : Operand} {n : Nat} (c : Nat) (hx : ev F x = some (u64 n)) (hy : ev F y = some (.val (.int .u64 (c : Int)))) (hn : n * c < 18446744073709551616) : Pv P Γ F L ⟨dst, .binOp .mul t x y t2, ty, pos, aft, g⟩ (u64 (n * c)) := by
  have := Pv.mul (P := P) (Γ := Γ) (L := L) (dst := dst) (ty := ty) (pos := pos) (aft := aft) (g := g) (t := t) (t2 := t2) hx hy
  rwa [show ((n : Int) * (c : Int)) = ((n * c : Nat) : Int) by push_cast; rfl, wrap_u64 hn] at this
theorem Cx.mulU64 {t t2 : TypeId} {x y : Operand} {n : Nat} (c : Nat) (hx : ev F x = some (u64 n)) (hy : ev F y = some (.val (.int .u64 (c : Int)))) (hn : n * c < 18446744073709551616) {d0 : Nat} {K : List (Nat × SV) → Prop} (hlt : Nat.blt d0 Γ.nt = true) (hr : SegC P Γ ops L ((d0, (u64 (n * c))) :: F) rest K) : SegC P Γ ops L F (⟨some d0, .binOp .mul t x y t2, ty, pos, aft, none⟩ :: rest) K :=
  SegC.q (Qs.pv (by apply Pv.mulU64 <;> assumption)) hlt hr
theorem Jx.mulU64 {t t2 : TypeId} {x y : Operand} {n : Nat} (c : Nat) (hx : ev F x = some (u64 n)) (hy : ev F y = some (.val (.int .u64 (c : Int)))) (hn : n * c < 18446744073709551616) {d0 : Nat} (hlt : Nat.blt d0 Γ.nt = true) (k : J P Γ ops Q ((d0, (u64 (n * c))) :: F) L rest) : J P Γ ops Q F L (⟨some d0, .binOp .mul t x y t2, ty, pos, aft, none⟩ :: rest) :=
  J.pv (by apply Pv.mulU64 <;> assumption) hlt k

theorem Pv.subU64 {t t2 : TypeId} {x y : Operand} {n c : Nat} (hx : ev F x = some (.val (.int .u64 (c : Int)))) (hy : ev F y = some (u64 n)) (hn : n ≤ c) (hc : c < 18446744073709551616) : Pv P Γ F L ⟨dst, .binOp .sub t x y t2, ty, pos, aft, g⟩ (u64 (c - n)) := by
  have := Pv.sub' (P := P) (Γ := Γ) (L := L) (dst := dst) (ty := ty) (pos := pos) (aft := aft) (g := g) (t := t) (t2 := t2) hx hy
  rwa [show ((c : Int) - (n : Int)) = ((c - n : Nat) : Int) by omega, wrap_u64 (by omega)] at this
theorem Cx.subU64 {t t2 : TypeId} {x y : Operand} {n c : Nat} (hx : ev F x = some (.val (.int .u64 (c : Int)))) (hy : ev F y = some (u64 n)) (hn : n ≤ c) (hc : c < 18446744073709551616) {d0 : Nat} {K : List (Nat × SV) → Prop} (hlt : Nat.blt d0 Γ.nt = true) (hr : SegC P Γ ops L ((d0, (u64 (c - n))) :: F) rest K) : SegC P Γ ops L F (⟨some d0, .binOp .sub t x y t2, ty, pos, aft, none⟩ :: rest) K :=
  SegC.q (Qs.pv (by apply Pv.subU64 <;> assumption)) hlt hr
theorem Jx.subU64 {t t2 : TypeId} {x y : Operand} {n c : Nat} (hx : ev F x = some (.val (.int .u64 (c : Int)))) (hy : ev F y = some (u64 n)) (hn : n ≤ c) (hc : c < 18446744073709551616) {d0 : Nat} (hlt : Nat.blt d0 Γ.nt = true) (k : J P Γ ops Q ((d0, (u64 (c - n))) :: F) L rest) : J P Γ ops Q F L (⟨some d0, .binOp .sub t x y t2, ty, pos, aft, none⟩ :: rest) :=
  J.pv (by apply Pv.subU64 <;> assumption) hlt k

/-- A number shifted to the right: divided. -/
theorem Pv.shrN {t t2 : TypeId} {x y : Operand} {k k2 : IntKind} {n s : Nat} {m : Int} (hx : ev F x = some (.val (.int k (n : Int)))) (hy : ev F y = some (.val (.int k2 m))) (hm : m = (s : Int)) (hs : s ≤ k.bits) : Pv P Γ F L ⟨dst, .binOp .shr t x y t2, ty, pos, aft, g⟩ (.val (.int k ((n / 2 ^ s : Nat) : Int))) := by
  subst hm
  have := Pv.shr (P := P) (Γ := Γ) (L := L) (dst := dst) (ty := ty) (pos := pos) (aft := aft) (g := g) (t := t) (t2 := t2) hx hy (Int.natCast_nonneg s)
  have e : (n : Int).fdiv (2 ^ Min.min (s : Int).toNat k.bits) = ((n / 2 ^ s : Nat) : Int) := by
    rw [Int.fdiv_eq_ediv_of_nonneg _ (by exact_mod_cast Nat.zero_le _), Int.toNat_natCast, Nat.min_eq_left hs]
    norm_cast
  rwa [e] at this
theorem Cx.shrN {t t2 : TypeId} {x y : Operand} {k k2 : IntKind} {n s : Nat} {m : Int} (hx : ev F x = some (.val (.int k (n : Int)))) (hy : ev F y = some (.val (.int k2 m))) (hm : m = (s : Int)) (hs : s ≤ k.bits) {d0 : Nat} {K : List (Nat × SV) → Prop} (hlt : Nat.blt d0 Γ.nt = true) (hr : SegC P Γ ops L ((d0, (.val (.int k ((n / 2 ^ s : Nat) : Int)))) :: F) rest K) : SegC P Γ ops L F (⟨some d0, .binOp .shr t x y t2, ty, pos, aft, none⟩ :: rest) K :=
  SegC.q (Qs.pv (by apply Pv.shrN <;> assumption)) hlt hr
theorem Jx.shrN {t t2 : TypeId} {x y : Operand} {k k2 : IntKind} {n s : Nat} {m : Int} (hx : ev F x = some (.val (.int k (n : Int)))) (hy : ev F y = some (.val (.int k2 m))) (hm : m = (s : Int)) (hs : s ≤ k.bits) {d0 : Nat} (hlt : Nat.blt d0 Γ.nt = true) (k : J P Γ ops Q ((d0, (.val (.int k ((n / 2 ^ s : Nat) : Int)))) :: F) L rest) : J P Γ ops Q F L (⟨some d0, .binOp .shr t x y t2, ty, pos, aft, none⟩ :: rest) :=
  J.pv (by apply Pv.shrN <;> assumption) hlt k

-- arrays

theorem getElem?_map_lt {α : Type} (f : α → SV) (ws : List α) (d : α) (i : Nat) (h : i < ws.length) : (ws.map f)[i]? = some (f (ws.getD i d)) := by
  simp [List.getElem?_map, List.getD_eq_getElem?_getD, List.getElem?_eq_getElem h]

/-- The place of a member of an array of one cell each. -/
theorem Pv.indexA {T E by' n : Nat} {z : List Value} [h : TArr P T n E] [hI : TInfo P E 1 by' z] {x i : Operand} {k : IntKind} {b o : Nat} {m : Int} (j : Nat) (hx : ev F x = some (.val (.pointer (some ⟨b, o, none⟩))))
    (hi : ev F i = some (.val (.int k m))) (hm : m = (j : Int)) (h1 : j < n) : Pv P Γ F L ⟨dst, .indexAddr T x i, ty, pos, aft, g⟩ (.val (.pointer (some ⟨b, o + j, none⟩))) := by
  subst hm
  have := Pv.indexArr (P := P) (Γ := Γ) (L := L) (dst := dst) (ty := ty) (pos := pos) (aft := aft) (g := g) (T := T) hx hi (by omega) (by omega)
  simpa using this
theorem Cx.indexA {T E by' n : Nat} {z : List Value} [h : TArr P T n E] [hI : TInfo P E 1 by' z] {x i : Operand} {k : IntKind} {b o : Nat} {m : Int} (j : Nat) (hx : ev F x = some (.val (.pointer (some ⟨b, o, none⟩))))
    (hi : ev F i = some (.val (.int k m))) (hm : m = (j : Int)) (h1 : j < n) {d0 : Nat} {K : List (Nat × SV) → Prop} (hlt : Nat.blt d0 Γ.nt = true) (hr : SegC P Γ ops L ((d0, (.val (.pointer (some ⟨b, o + j, none⟩)))) :: F) rest K) : SegC P Γ ops L F (⟨some d0, .indexAddr T x i, ty, pos, aft, none⟩ :: rest) K :=
  SegC.q (Qs.pv (by apply Pv.indexA <;> assumption)) hlt hr
theorem Jx.indexA {T E by' n : Nat} {z : List Value} [h : TArr P T n E] [hI : TInfo P E 1 by' z] {x i : Operand} {k : IntKind} {b o : Nat} {m : Int} (j : Nat) (hx : ev F x = some (.val (.pointer (some ⟨b, o, none⟩))))
    (hi : ev F i = some (.val (.int k m))) (hm : m = (j : Int)) (h1 : j < n) {d0 : Nat} (hlt : Nat.blt d0 Γ.nt = true) (k : J P Γ ops Q ((d0, (.val (.pointer (some ⟨b, o + j, none⟩)))) :: F) L rest) : J P Γ ops Q F L (⟨some d0, .indexAddr T x i, ty, pos, aft, none⟩ :: rest) :=
  J.pv (by apply Pv.indexA <;> assumption) hlt k

/-- The same, from an array's beginning on. -/
theorem Pv.index0 {T E by' n : Nat} {z : List Value} [h : TArr P T n E] [hI : TInfo P E 1 by' z] {x i : Operand} {k : IntKind} {b : Nat} {m : Int} (j : Nat) (hx : ev F x = some (.val (.pointer (some ⟨b, 0, none⟩))))
    (hi : ev F i = some (.val (.int k m))) (hm : m = (j : Int)) (h1 : j < n) : Pv P Γ F L ⟨dst, .indexAddr T x i, ty, pos, aft, g⟩ (.val (.pointer (some ⟨b, j, none⟩))) := by
  have := Pv.indexA (P := P) (Γ := Γ) (L := L) (dst := dst) (ty := ty) (pos := pos) (aft := aft) (g := g) (T := T) j hx hi hm h1
  rwa [Nat.zero_add] at this
theorem Cx.index0 {T E by' n : Nat} {z : List Value} [h : TArr P T n E] [hI : TInfo P E 1 by' z] {x i : Operand} {k : IntKind} {b : Nat} {m : Int} (j : Nat) (hx : ev F x = some (.val (.pointer (some ⟨b, 0, none⟩))))
    (hi : ev F i = some (.val (.int k m))) (hm : m = (j : Int)) (h1 : j < n) {d0 : Nat} {K : List (Nat × SV) → Prop} (hlt : Nat.blt d0 Γ.nt = true) (hr : SegC P Γ ops L ((d0, (.val (.pointer (some ⟨b, j, none⟩)))) :: F) rest K) : SegC P Γ ops L F (⟨some d0, .indexAddr T x i, ty, pos, aft, none⟩ :: rest) K :=
  SegC.q (Qs.pv (by apply Pv.index0 <;> assumption)) hlt hr
theorem Jx.index0 {T E by' n : Nat} {z : List Value} [h : TArr P T n E] [hI : TInfo P E 1 by' z] {x i : Operand} {k : IntKind} {b : Nat} {m : Int} (j : Nat) (hx : ev F x = some (.val (.pointer (some ⟨b, 0, none⟩))))
    (hi : ev F i = some (.val (.int k m))) (hm : m = (j : Int)) (h1 : j < n) {d0 : Nat} (hlt : Nat.blt d0 Γ.nt = true) (k : J P Γ ops Q ((d0, (.val (.pointer (some ⟨b, j, none⟩)))) :: F) L rest) : J P Γ ops Q F L (⟨some d0, .indexAddr T x i, ty, pos, aft, none⟩ :: rest) :=
  J.pv (by apply Pv.index0 <;> assumption) hlt k

theorem Pv.loadA {α : Type} {T b j : Nat} [h : TSc P T] {x : Operand} (enc : α → SV) (d : α) (hx : ev F x = some (.val (.pointer (some ⟨b, j, none⟩)))) (i : Nat) {T' : TypeId} {ws : List α} (hi : L[i]? = some (.obj b T' (ws.map enc))) (hj : j < ws.length) :
    Pv P Γ F L ⟨dst, .load T x, ty, pos, aft, g⟩ (enc (ws.getD j d)) := Pv.load hx i hi (getElem?_map_lt enc ws d j hj)
theorem Cx.loadA {α : Type} {T b j : Nat} [h : TSc P T] {x : Operand} (enc : α → SV) (d : α) (hx : ev F x = some (.val (.pointer (some ⟨b, j, none⟩)))) (i : Nat) {T' : TypeId} {ws : List α} (hi : L[i]? = some (.obj b T' (ws.map enc))) (hj : j < ws.length) {d0 : Nat} {K : List (Nat × SV) → Prop} (hlt : Nat.blt d0 Γ.nt = true) (hr : SegC P Γ ops L ((d0, (enc (ws.getD j d))) :: F) rest K) : SegC P Γ ops L F (⟨some d0, .load T x, ty, pos, aft, none⟩ :: rest) K :=
  SegC.q (Qs.pv (by apply Pv.loadA <;> assumption)) hlt hr
theorem Jx.loadA {α : Type} {T b j : Nat} [h : TSc P T] {x : Operand} (enc : α → SV) (d : α) (hx : ev F x = some (.val (.pointer (some ⟨b, j, none⟩)))) (i : Nat) {T' : TypeId} {ws : List α} (hi : L[i]? = some (.obj b T' (ws.map enc))) (hj : j < ws.length) {d0 : Nat} (hlt : Nat.blt d0 Γ.nt = true) (k : J P Γ ops Q ((d0, (enc (ws.getD j d))) :: F) L rest) : J P Γ ops Q F L (⟨some d0, .load T x, ty, pos, aft, none⟩ :: rest) :=
  J.pv (by apply Pv.loadA <;> assumption) hlt k

theorem J.storeA {α : Type} {T b j : Nat} [h : TSc P T] {x y : Operand} (enc : α → SV) (v : α) (hx : ev F x = some (.val (.pointer (some ⟨b, j, none⟩)))) (hy : ev F y = some (enc v)) (h1 : One (enc v)) (i : Nat) {T' : TypeId} {ws : List α} {L' : List Own}
    (hi : L[i]? = some (.obj b T' (ws.map enc))) (hj : j < ws.length) (hL : L.set i (.obj b T' ((ws.set j v).map enc)) = L') (k : J P Γ ops Q F L' rest) : J P Γ ops Q F L (⟨none, .store T x y, ty, pos, aft, none⟩ :: rest) :=
  J.store hx hy h1 i hi (by simp only [List.length_map]; exact Nat.ble_eq_true_of_le hj) (by rw [List.map_set]) hL k

/-- A whole array, read; written. -/
theorem Pv.loadArr {T b n : Nat} [h : TAg P T n] {x : Operand} {cs : List SV} (hn : cs.length = n) (hx : ev F x = some (.val (.pointer (some ⟨b, 0, none⟩)))) (i : Nat) {T' : TypeId} (hi : L[i]? = some (.obj b T' cs)) :
    Pv P Γ F L ⟨dst, .load T x, ty, pos, aft, g⟩ (.agg cs) := Pv.loadAg hx i hi (by rw [List.drop_zero, ← hn, List.take_length]) hn
theorem Cx.loadArr {T b n : Nat} [h : TAg P T n] {x : Operand} {cs : List SV} (hn : cs.length = n) (hx : ev F x = some (.val (.pointer (some ⟨b, 0, none⟩)))) (i : Nat) {T' : TypeId} (hi : L[i]? = some (.obj b T' cs)) {d0 : Nat} {K : List (Nat × SV) → Prop} (hlt : Nat.blt d0 Γ.nt = true) (hr : SegC P Γ ops L ((d0, (.agg cs)) :: F) rest K) : SegC P Γ ops L F (⟨some d0, .load T x, ty, pos, aft, none⟩ :: rest) K :=
  SegC.q (Qs.pv (by apply Pv.loadArr <;> assumption)) hlt hr
theorem Jx.loadArr {T b n : Nat} [h : TAg P T n] {x : Operand} {cs : List SV} (hn : cs.length = n) (hx : ev F x = some (.val (.pointer (some ⟨b, 0, none⟩)))) (i : Nat) {T' : TypeId} (hi : L[i]? = some (.obj b T' cs)) {d0 : Nat} (hlt : Nat.blt d0 Γ.nt = true) (k : J P Γ ops Q ((d0, (.agg cs)) :: F) L rest) : J P Γ ops Q F L (⟨some d0, .load T x, ty, pos, aft, none⟩ :: rest) :=
  J.pv (by apply Pv.loadArr <;> assumption) hlt k

theorem J.storeArr {T b n : Nat} [h : TAg P T n] {x y : Operand} {ds : List SV} (hn : ds.length = n) (hx : ev F x = some (.val (.pointer (some ⟨b, 0, none⟩)))) (hy : ev F y = some (.agg ds)) (i : Nat) {T' : TypeId} {cs : List SV} {L' : List Own}
    (hi : L[i]? = some (.obj b T' cs)) (ho : cs.length = n) (hL : L.set i (.obj b T' ds) = L') (k : J P Γ ops Q F L' rest) : J P Γ ops Q F L (⟨none, .store T x y, ty, pos, aft, none⟩ :: rest) :=
  J.storeAg hx hy hn i hi (by rw [ho]; simp) (by rw [hn, ← ho]; simp) hL k

/-- A member of an array that is a value. -/
theorem Pv.indexAg {α : Type} {T E by' n : Nat} {z : List Value} [h : TArr P T n E] [hI : TInfo P E 1 by' z] [hs : TSc P E] {x i : Operand} {k : IntKind} {m : Int} (enc : α → SV) (d : α) {ws : List α} (j : Nat) (hx : ev F x = some (.agg (ws.map enc)))
    (hi : ev F i = some (.val (.int k m))) (hm : m = (j : Int)) (h1 : j < n) (h2 : j < ws.length) : Pv P Γ F L ⟨dst, .index T x i, ty, pos, aft, g⟩ (enc (ws.getD j d)) := fun ρ w hst => by
  subst hm
  have hr := hst.ev x (by simp [Op.operands]) _ hx
  have hiv := hst.evv (x := i) (by simp [Op.operands]) hi
  generalize hv : ρ x = v at hr
  cases hr with
  | agg _ vs hl h1' hr =>
    obtain ⟨u, hu, hru, _⟩ := RelL.at ⟨hl, h1', hr⟩ (getElem?_map_lt enc ws d j h2)
    refine ⟨u, ?_, hru⟩
    have hsz : (sizeOf E).run P w = .ok 1 w := sizeOf_of (by have := hI.ok; cases hq : P.info? E <;> simp_all) w
    have := run_part_sc hs w vs.toArray j u (by simpa using hu)
    simp [execOp, hv, hiv, Instr.index, asIntOf, run_underlying h.ok, hsz, h1, this]
theorem Cx.indexAg {α : Type} {T E by' n : Nat} {z : List Value} [h : TArr P T n E] [hI : TInfo P E 1 by' z] [hs : TSc P E] {x i : Operand} {k : IntKind} {m : Int} (enc : α → SV) (d : α) {ws : List α} (j : Nat) (hx : ev F x = some (.agg (ws.map enc)))
    (hi : ev F i = some (.val (.int k m))) (hm : m = (j : Int)) (h1 : j < n) (h2 : j < ws.length) {d0 : Nat} {K : List (Nat × SV) → Prop} (hlt : Nat.blt d0 Γ.nt = true) (hr : SegC P Γ ops L ((d0, (enc (ws.getD j d))) :: F) rest K) : SegC P Γ ops L F (⟨some d0, .index T x i, ty, pos, aft, none⟩ :: rest) K :=
  SegC.q (Qs.pv (by apply Pv.indexAg <;> assumption)) hlt hr
theorem Jx.indexAg {α : Type} {T E by' n : Nat} {z : List Value} [h : TArr P T n E] [hI : TInfo P E 1 by' z] [hs : TSc P E] {x i : Operand} {k : IntKind} {m : Int} (enc : α → SV) (d : α) {ws : List α} (j : Nat) (hx : ev F x = some (.agg (ws.map enc)))
    (hi : ev F i = some (.val (.int k m))) (hm : m = (j : Int)) (h1 : j < n) (h2 : j < ws.length) {d0 : Nat} (hlt : Nat.blt d0 Γ.nt = true) (k : J P Γ ops Q ((d0, (enc (ws.getD j d))) :: F) L rest) : J P Γ ops Q F L (⟨some d0, .index T x i, ty, pos, aft, none⟩ :: rest) :=
  J.pv (by apply Pv.indexAg <;> assumption) hlt k

/-- A slice's first members as an array. -/
theorem Pv.sliceArrPtr {T E n N : Nat} [h : TArr P T N E] {x : Operand} {el : Nat → List SV} (cs : List SV) (hx : ev F x = some (.sl 1 n el)) (hn : N ≤ n) (h0 : 0 < N) (hl : cs.length = N) (hc : ∀ j, j < N → (el j).getD 0 .any = cs.getD j .any) :
    Pv P Γ F L ⟨dst, .sliceToArrayPointer T x, ty, pos, aft, g⟩ (.pp cs) := fun ρ w hst => by
  have hr := hst.ev x (by simp [Op.operands]) _ hx
  generalize hv : ρ x = v at hr
  cases hr with
  | sl _ _ _ a cap vs hcap hmax hb h1 hl' hr =>
    rcases hb with hb | ⟨b, off, rfl, hz, hcell⟩
    · omega
    · refine ⟨.pointer (some ⟨b, off, none⟩), ?_, ?_⟩
      · simp [execOp, hv, Instr.arrayAt, run_underlying h.ok, Nat.not_lt.2 hn]
      · refine .pp cs b off vs (by omega) hz (fun j hj => hcell j (by omega)) (fun j hj => h1 j (by omega)) (fun j hj => ?_)
        have := hr j 0 (by omega) (by omega)
        rw [hc j (by omega)] at this
        simpa using this
theorem Cx.sliceArrPtr {T E n N : Nat} [h : TArr P T N E] {x : Operand} {el : Nat → List SV} (cs : List SV) (hx : ev F x = some (.sl 1 n el)) (hn : N ≤ n) (h0 : 0 < N) (hl : cs.length = N) (hc : ∀ j, j < N → (el j).getD 0 .any = cs.getD j .any) {d0 : Nat} {K : List (Nat × SV) → Prop} (hlt : Nat.blt d0 Γ.nt = true) (hr : SegC P Γ ops L ((d0, (.pp cs)) :: F) rest K) : SegC P Γ ops L F (⟨some d0, .sliceToArrayPointer T x, ty, pos, aft, none⟩ :: rest) K :=
  SegC.q (Qs.pv (by apply Pv.sliceArrPtr <;> assumption)) hlt hr
theorem Jx.sliceArrPtr {T E n N : Nat} [h : TArr P T N E] {x : Operand} {el : Nat → List SV} (cs : List SV) (hx : ev F x = some (.sl 1 n el)) (hn : N ≤ n) (h0 : 0 < N) (hl : cs.length = N) (hc : ∀ j, j < N → (el j).getD 0 .any = cs.getD j .any) {d0 : Nat} (hlt : Nat.blt d0 Γ.nt = true) (k : J P Γ ops Q ((d0, (.pp cs)) :: F) L rest) : J P Γ ops Q F L (⟨some d0, .sliceToArrayPointer T x, ty, pos, aft, none⟩ :: rest) :=
  J.pv (by apply Pv.sliceArrPtr <;> assumption) hlt k

/-- An array that is built. -/
theorem Pv.buildA {T E n sz sz' by' by2 : Nat} {z z2 : List Value} [hI : TInfo P T sz by' z] [hA : TArr P T n E] [hE : TInfo P E sz' by2 z2] {parts : List (Nat × Operand)} {ss cs' : List SV} (ha' : evs F (parts.map (·.2)) = some ss) (hok' : partsB ss = true)
    (hz1 : z.all (·.oneCell') = true) (hf : fillS ((List.range n).map fun i => (i * sz', sz')) (z.map .val) ((parts.map (·.1)).zip ss) = some cs') : Pv P Γ F L ⟨dst, .build T parts.toArray, ty, pos, aft, g⟩ (.agg cs') := fun ρ w hst => by
    have ha := evs_args ha'
    have hok := partsB_ok hok'
    obtain ⟨zv, hzr, hzc, i, hi, rfl, rfl, hiz⟩ := run_zero hI w
    have hsE : (sizeOf E).run P w = .ok sz' w := sizeOf_of (by have := hE.ok; cases hq : P.info? E <;> simp_all) w
    have hrel : ∀ {xs : List Operand} {ss : List SV}, Args F xs ss → (∀ x ∈ xs, x ∈ parts.map (·.2)) → xs.length = ss.length ∧ ∀ (j : Nat) (s : SV) (x : Operand), ss[j]? = some s → xs[j]? = some x → Rel (ZL Γ.Z L) w s (ρ x) := by
      intro xs ss h
      induction h with
      | nil => exact fun _ => ⟨rfl, by simp⟩
      | @cons x s xs ss h hr ih =>
        intro hm
        obtain ⟨i1, i2⟩ := ih (fun y hy => hm y (List.mem_cons_of_mem _ hy))
        refine ⟨by simp [i1], fun j s' x' hs hx => ?_⟩
        cases j with
        | zero =>
          simp at hs hx; subst hs; subst hx
          exact hst.ev _ (by simp only [Op.operands, List.map_toArray, List.toList_toArray]; exact hm _ (List.mem_cons_self ..)) _ h
        | succ j => exact i2 j s' x' (by simpa using hs) (by simpa using hx)
      | @sub x s t xs ss h hsub hr ih =>
        intro hm
        obtain ⟨i1, i2⟩ := ih (fun y hy => hm y (List.mem_cons_of_mem _ hy))
        refine ⟨by simp [i1], fun j s' x' hs hx => ?_⟩
        cases j with
        | zero =>
          simp at hs hx; subst hs; subst hx
          exact hsub _ _ _ (hst.ev _ (by simp only [Op.operands, List.map_toArray, List.toList_toArray]; exact hm _ (List.mem_cons_self ..)) _ h)
        | succ j => exact i2 j s' x' (by simpa using hs) (by simpa using hx)
    obtain ⟨hl, hall⟩ := hrel ha (fun x hx => hx)
    have hzrel : RelL (ZL Γ.Z L) w (z.map .val) zv.cells.toList := by rw [hzc]; exact RelL.vals z (by simpa [List.all_eq_true] using hz1)
    obtain ⟨cells', hfill, hr'⟩ := fill_rel (pl := (List.range n).map fun i => (i * sz', sz')) (place := fun i => some (i * sz', sz')) (fun k q hq => by
      simp only [List.getElem?_map] at hq
      cases hk : (List.range n)[k]? with
      | none => rw [hk] at hq; simp at hq
      | some m =>
        rw [hk] at hq
        obtain ⟨hlt, hm⟩ := List.getElem?_eq_some_iff.1 hk
        simp only [List.getElem_range] at hm
        subst hm
        simpa using hq) ((parts.map (·.1)).zip ss) (parts.map fun p => (p.1, ρ p.2)) (z.map .val) zv.cells cs' (by simp at hl ⊢; omega) (by
      intro j p v hp hv
      rw [List.getElem?_zip_eq_some] at hp
      simp only [List.getElem?_map] at hp hv
      cases hq : parts[j]? with
      | none => rw [hq] at hv; simp at hv
      | some q =>
        rw [hq] at hp hv
        simp only [Option.map_some, Option.some.injEq] at hp hv
        subst hv
        exact ⟨hp.1.symm, hok.mem _ (List.mem_of_getElem? hp.2), hall j p.2 q.2 hp.2 (by simp [hq])⟩) hzrel hf
    refine ⟨.agg cells', ?_, ?_⟩
    · have hpm : (parts.toArray.map fun (p : Nat × Operand) => (p.1, ρ p.2)).toList = parts.map fun p => (p.1, ρ p.2) := by simp
      simp only [execOp, Instr.build, Sem.run_bind, hzr, Result.andThen_ok, run_underlying hA.ok, Sem.run_pure, hsE]
      rw [hpm, hfill]
      rfl
    · have := hr'.agg
      simpa using this
theorem Cx.buildA {T E n sz sz' by' by2 : Nat} {z z2 : List Value} [hI : TInfo P T sz by' z] [hA : TArr P T n E] [hE : TInfo P E sz' by2 z2] {parts : List (Nat × Operand)} {ss cs' : List SV} (ha' : evs F (parts.map (·.2)) = some ss) (hok' : partsB ss = true)
    (hz1 : z.all (·.oneCell') = true) (hf : fillS ((List.range n).map fun i => (i * sz', sz')) (z.map .val) ((parts.map (·.1)).zip ss) = some cs') {d0 : Nat} {K : List (Nat × SV) → Prop} (hlt : Nat.blt d0 Γ.nt = true) (hr : SegC P Γ ops L ((d0, (.agg cs')) :: F) rest K) : SegC P Γ ops L F (⟨some d0, .build T parts.toArray, ty, pos, aft, none⟩ :: rest) K :=
  SegC.q (Qs.pv (by apply Pv.buildA <;> assumption)) hlt hr
theorem Jx.buildA {T E n sz sz' by' by2 : Nat} {z z2 : List Value} [hI : TInfo P T sz by' z] [hA : TArr P T n E] [hE : TInfo P E sz' by2 z2] {parts : List (Nat × Operand)} {ss cs' : List SV} (ha' : evs F (parts.map (·.2)) = some ss) (hok' : partsB ss = true)
    (hz1 : z.all (·.oneCell') = true) (hf : fillS ((List.range n).map fun i => (i * sz', sz')) (z.map .val) ((parts.map (·.1)).zip ss) = some cs') {d0 : Nat} (hlt : Nat.blt d0 Γ.nt = true) (k : J P Γ ops Q ((d0, (.agg cs')) :: F) L rest) : J P Γ ops Q F L (⟨some d0, .build T parts.toArray, ty, pos, aft, none⟩ :: rest) :=
  J.pv (by apply Pv.buildA <;> assumption) hlt k

-- one of the owned things lent to a call

theorem perm_erase : ∀ {L : List Own} {i : Nat} {o : Own}, L[i]? = some o → L.Perm (o :: L.eraseIdx i)
  | [], i, o, h => by simp at h
  | x :: L, 0, o, h => by simp at h; subst h; simp
  | x :: L, i + 1, o, h => by
    simp only [List.getElem?_cons_succ] at h
    simp only [List.eraseIdx_cons_succ]
    exact (List.Perm.cons x (perm_erase h)).trans (List.Perm.swap ..)
theorem perm_set {L : List Own} {i : Nat} {o o' : Own} (h : L[i]? = some o) : (o' :: L.eraseIdx i).Perm (L.set i o') := by
  have h1 : (L.set i o')[i]? = some o' := by
    obtain ⟨hlt, rfl⟩ := List.getElem?_eq_some_iff.1 h
    simp [hlt]
  have := perm_erase h1
  rw [List.eraseIdx_set_eq] at this
  exact this.symm

theorem J.call1 [Gl P] [Globs P Γ] {d f : Nat} [hT : TFunc P f] {xs : List Operand} {ts : Array TypeId} {args : List SV} {o : Own} {R : SV → List Own → Prop} (i : Nat) (hF : FnC P f args [o] R) (hi : L[i]? = some o) (ha : Args F xs args)
    (hlt : Nat.blt d Γ.nt = true) (hone : ∀ s Lc', R s Lc' → ∃ o', Lc' = [o']) (h : ∀ s o', R s [o'] → J P Γ ops Q ((d, s) :: F) (L.set i o') rest) :
    J P Γ ops Q F L (⟨some d, .call { callee := .value (.func f), args := xs.toArray, argTypes := ts }, ty, pos, aft, none⟩ :: rest) :=
  J.perm (perm_erase hi) (J.call (Lr := L.eraseIdx i) hF rfl ha hlt fun s Lc' hR => by
    obtain ⟨o', rfl⟩ := hone s Lc' hR
    exact J.perm (perm_set hi) (h s o' hR))
end
end Go.Sse
