/-
  Lemmas for the claim, part 2.
-/
import Derived.Test.YtafefapbiekmbaaDoorDigestLogsPa
namespace Go.Sse
open Go Go.Sse
set_option linter.unusedVariables false
set_option linter.unusedSimpArgs false
section
variable {P : Program} {Γ : Ctx} {ops : Array Oper} {Q : Exit → Act → World → Prop} {F : List (Nat × SV)} {L : List Own} {rest : List Oper}
variable {dst : Option Tmp} {ty : TypeId} {pos : String} {aft : Array Edge} {g : Option (Nat × Bool)}
theorem Pv.loadG [Gl P] [Globs P Γ] {T b o : Nat} [h : TSc P T] {x : Operand} (hx : ev F x = some (.val (.pointer (some ⟨b, o, none⟩)))) (i : Nat) {vs : List Value} {v : Value} (hi : (Gl.gl P)[i]? = some (b, vs)) (hv : vs[o]? = some v) :
    Pv P Γ F L ⟨dst, .load T x, ty, pos, aft, g⟩ (.val v) := fun ρ w hst => by
  obtain ⟨_, _, h3⟩ := Globs.at (P := P) hst.ws (List.mem_of_getElem? hi)
  refine ⟨v, ?_, .val _⟩
  have := run_loadVar_sc h w ⟨b, o, none⟩ v (h3 o v hv)
  simp [execOp, hst.evv (x := x) (by simp [Op.operands]) hx, Instr.loadAt, Instr.sureAddr, this]
theorem Cx.loadG [Gl P] [Globs P Γ] {T b o : Nat} [h : TSc P T] {x : Operand} (hx : ev F x = some (.val (.pointer (some ⟨b, o, none⟩)))) (i : Nat) {vs : List Value} {v : Value} (hi : (Gl.gl P)[i]? = some (b, vs)) (hv : vs[o]? = some v) {d0 : Nat} {K : List (Nat × SV) → Prop} (hlt : Nat.blt d0 Γ.nt = true) (hr : SegC P Γ ops L ((d0, (.val v)) :: F) rest K) : SegC P Γ ops L F (⟨some d0, .load T x, ty, pos, aft, none⟩ :: rest) K :=
  SegC.q (Qs.pv (by apply Pv.loadG <;> assumption)) hlt hr
abbrev u32 (x : BitVec 32) : SV := .val (.int .u32 (x.toNat : Int))
abbrev u64 (n : Nat) : SV := .val (.int .u64 (n : Int))
theorem wrap_u32 (n : Nat) : IntKind.u32.wrap (n : Int) = ((BitVec.ofNat 32 n).toNat : Int) := by
  simp only [IntKind.wrap, IntKind.bits, IntKind.signed, Bool.false_and, Bool.false_eq_true, if_false, BitVec.toNat_ofNat]
  norm_cast
theorem wrap_u8 (n : Nat) : IntKind.u8.wrap (n : Int) = ((UInt8.ofNat n).toNat : Int) := by
  simp only [IntKind.wrap, IntKind.bits, IntKind.signed, Bool.false_and, Bool.false_eq_true, if_false, UInt8.toNat_ofNat']
  norm_cast
theorem wrap_u64 {n : Nat} (h : n < 18446744073709551616) : IntKind.u64.wrap (n : Int) = n := by
  simp only [IntKind.wrap, IntKind.bits, IntKind.signed, Bool.false_and, Bool.false_eq_true, if_false]
  norm_cast
  exact Nat.mod_eq_of_lt h
theorem ofNat_toNat32 (a : BitVec 32) : BitVec.ofNat 32 a.toNat = a := by simp
theorem ofInt_u32 (a : BitVec 32) : BitVec.ofInt 32 (a.toNat : Int) = a := by simp
section
variable {t t2 : TypeId} {x y : Operand} {a b : BitVec 32} (hx : ev F x = some (u32 a))
include hx
theorem Pv.notU : Pv P Γ F L ⟨dst, .unOp .xor t x, ty, pos, aft, g⟩ (u32 (~~~a)) :=
  fun ρ w hst => ⟨_, by
    have h1 : (Op.unary .xor (.int .u32 (a.toNat : Int))).run P w = .ok (.int .u32 ((~~~a).toNat : Int)) w := by
      simp only [Op.unary, IntKind.signed, Bool.false_eq_true, if_false, Op.intBits, IntKind.bits, ofInt_u32, wrap_u32, Sem.run_pure, ofNat_toNat32]
      rw [show BitVec.ofInt 32 IntKind.u32.max = BitVec.allOnes 32 by decide]
      show Result.ok (Value.int .u32 ((BitVec.allOnes 32 ^^^ a).toNat : Int)) w = _
      rw [BitVec.allOnes_xor]
    simp [execOp, hst.evv (by simp [Op.operands]) hx, h1], .val _⟩
theorem Cx.notU  {d0 : Nat} {K : List (Nat × SV) → Prop} (hlt : Nat.blt d0 Γ.nt = true) (hr : SegC P Γ ops L ((d0, (u32 (~~~a))) :: F) rest K) : SegC P Γ ops L F (⟨some d0, .unOp .xor t x, ty, pos, aft, none⟩ :: rest) K :=
  SegC.q (Qs.pv (by apply Pv.notU <;> assumption)) hlt hr
theorem Pv.shrU {k : IntKind} {n : Nat} (hy : ev F y = some (.val (.int k (n : Int)))) (hn : n ≤ 32) : Pv P Γ F L ⟨dst, .binOp .shr t x y t2, ty, pos, aft, g⟩ (u32 (a >>> n)) := by
  have := Pv.shr (P := P) (Γ := Γ) (L := L) (dst := dst) (ty := ty) (pos := pos) (aft := aft) (g := g) (t := t) (t2 := t2) hx hy (Int.natCast_nonneg n)
  have e : (a.toNat : Int).fdiv (2 ^ Min.min (n : Int).toNat IntKind.u32.bits) = ((a >>> n).toNat : Int) := by
    rw [Int.fdiv_eq_ediv_of_nonneg _ (by exact_mod_cast Nat.zero_le _)]
    simp only [IntKind.bits, Int.toNat_natCast, Nat.min_eq_left hn, BitVec.toNat_ushiftRight, Nat.shiftRight_eq_div_pow]
    norm_cast
  rwa [e] at this
theorem Cx.shrU {k : IntKind} {n : Nat} (hy : ev F y = some (.val (.int k (n : Int)))) (hn : n ≤ 32) {d0 : Nat} {K : List (Nat × SV) → Prop} (hlt : Nat.blt d0 Γ.nt = true) (hr : SegC P Γ ops L ((d0, (u32 (a >>> n))) :: F) rest K) : SegC P Γ ops L F (⟨some d0, .binOp .shr t x y t2, ty, pos, aft, none⟩ :: rest) K :=
  SegC.q (Qs.pv (by apply Pv.shrU <;> assumption)) hlt hr
theorem Jx.shrU {k : IntKind} {n : Nat} (hy : ev F y = some (.val (.int k (n : Int)))) (hn : n ≤ 32) {d0 : Nat} (hlt : Nat.blt d0 Γ.nt = true) (k : J P Γ ops Q ((d0, (u32 (a >>> n))) :: F) L rest) : J P Γ ops Q F L (⟨some d0, .binOp .shr t x y t2, ty, pos, aft, none⟩ :: rest) :=
  J.pv (by apply Pv.shrU <;> assumption) hlt k
theorem Pv.shlU {k : IntKind} {n : Nat} (hy : ev F y = some (.val (.int k (n : Int)))) (hn : n ≤ 32) : Pv P Γ F L ⟨dst, .binOp .shl t x y t2, ty, pos, aft, g⟩ (u32 (a <<< n)) := by
  have := Pv.shl (P := P) (Γ := Γ) (L := L) (dst := dst) (ty := ty) (pos := pos) (aft := aft) (g := g) (t := t) (t2 := t2) hx hy (Int.natCast_nonneg n)
  have e : IntKind.u32.wrap ((a.toNat : Int) * 2 ^ Min.min (n : Int).toNat IntKind.u32.bits) = ((a <<< n).toNat : Int) := by
    simp only [IntKind.bits, Int.toNat_natCast, Nat.min_eq_left hn]
    have : (a.toNat : Int) * 2 ^ n = ((a.toNat * 2 ^ n : Nat) : Int) := by push_cast; rfl
    rw [this, wrap_u32]
    simp [BitVec.toNat_shiftLeft, Nat.shiftLeft_eq]
  rwa [e] at this
theorem Cx.shlU {k : IntKind} {n : Nat} (hy : ev F y = some (.val (.int k (n : Int)))) (hn : n ≤ 32) {d0 : Nat} {K : List (Nat × SV) → Prop} (hlt : Nat.blt d0 Γ.nt = true) (hr : SegC P Γ ops L ((d0, (u32 (a <<< n))) :: F) rest K) : SegC P Γ ops L F (⟨some d0, .binOp .shl t x y t2, ty, pos, aft, none⟩ :: rest) K :=
  SegC.q (Qs.pv (by apply Pv.shlU <;> assumption)) hlt hr
theorem Jx.shlU {k : IntKind} {n : Nat} (hy : ev F y = some (.val (.int k (n : Int)))) (hn : n ≤ 32) {d0 : Nat} (hlt : Nat.blt d0 Γ.nt = true) (k : J P Γ ops Q ((d0, (u32 (a <<< n))) :: F) L rest) : J P Γ ops Q F L (⟨some d0, .binOp .shl t x y t2, ty, pos, aft, none⟩ :: rest) :=
  J.pv (by apply Pv.shlU <;> assumption) hlt k
theorem Pv.convByte {src d : Nat} [h : TInt P d .u8] (hs : (P.underlying src).isSome = true) : Pv P Γ F L ⟨dst, .convert src d x, ty, pos, aft, g⟩ (byte (UInt8.ofNat a.toNat)) := by
  have := Pv.convI (P := P) (Γ := Γ) (L := L) (dst := dst) (ty := ty) (pos := pos) (aft := aft) (g := g) (d := d) hs hx
  rwa [wrap_u8] at this
theorem Jx.convByte {src d : Nat} [h : TInt P d .u8] (hs : (P.underlying src).isSome = true) {d0 : Nat} (hlt : Nat.blt d0 Γ.nt = true) (k : J P Γ ops Q ((d0, (byte (UInt8.ofNat a.toNat))) :: F) L rest) : J P Γ ops Q F L (⟨some d0, .convert src d x, ty, pos, aft, none⟩ :: rest) :=
  J.pv (by apply Pv.convByte <;> assumption) hlt k
variable (hy : ev F y = some (u32 b))
include hy
theorem Pv.addU : Pv P Γ F L ⟨dst, .binOp .add t x y t2, ty, pos, aft, g⟩ (u32 (a + b)) := by
  have := Pv.add (P := P) (Γ := Γ) (L := L) (dst := dst) (ty := ty) (pos := pos) (aft := aft) (g := g) (t := t) (t2 := t2) hx hy
  have e : IntKind.u32.wrap ((a.toNat : Int) + b.toNat) = ((a + b).toNat : Int) := by
    rw [show ((a.toNat : Int) + b.toNat) = ((a.toNat + b.toNat : Nat) : Int) by push_cast; rfl, wrap_u32]
    simp [BitVec.toNat_add]
  rwa [e] at this
theorem Cx.addU  {d0 : Nat} {K : List (Nat × SV) → Prop} (hlt : Nat.blt d0 Γ.nt = true) (hr : SegC P Γ ops L ((d0, (u32 (a + b))) :: F) rest K) : SegC P Γ ops L F (⟨some d0, .binOp .add t x y t2, ty, pos, aft, none⟩ :: rest) K :=
  SegC.q (Qs.pv (by apply Pv.addU <;> assumption)) hlt hr
theorem Jx.addU  {d0 : Nat} (hlt : Nat.blt d0 Γ.nt = true) (k : J P Γ ops Q ((d0, (u32 (a + b))) :: F) L rest) : J P Γ ops Q F L (⟨some d0, .binOp .add t x y t2, ty, pos, aft, none⟩ :: rest) :=
  J.pv (by apply Pv.addU <;> assumption) hlt k
theorem Pv.xorU : Pv P Γ F L ⟨dst, .binOp .xor t x y t2, ty, pos, aft, g⟩ (u32 (a ^^^ b)) := by
  have := Pv.bxor (P := P) (Γ := Γ) (L := L) (dst := dst) (ty := ty) (pos := pos) (aft := aft) (g := g) (t := t) (t2 := t2) hx hy
  simp only [IntKind.bits, ofInt_u32, wrap_u32, ofNat_toNat32] at this
  exact this
theorem Cx.xorU  {d0 : Nat} {K : List (Nat × SV) → Prop} (hlt : Nat.blt d0 Γ.nt = true) (hr : SegC P Γ ops L ((d0, (u32 (a ^^^ b))) :: F) rest K) : SegC P Γ ops L F (⟨some d0, .binOp .xor t x y t2, ty, pos, aft, none⟩ :: rest) K :=
  SegC.q (Qs.pv (by apply Pv.xorU <;> assumption)) hlt hr
theorem Pv.andU : Pv P Γ F L ⟨dst, .binOp .and t x y t2, ty, pos, aft, g⟩ (u32 (a &&& b)) := by
  have := Pv.band (P := P) (Γ := Γ) (L := L) (dst := dst) (ty := ty) (pos := pos) (aft := aft) (g := g) (t := t) (t2 := t2) hx hy
  simp only [IntKind.bits, ofInt_u32, wrap_u32, ofNat_toNat32] at this
  exact this
theorem Cx.andU  {d0 : Nat} {K : List (Nat × SV) → Prop} (hlt : Nat.blt d0 Γ.nt = true) (hr : SegC P Γ ops L ((d0, (u32 (a &&& b))) :: F) rest K) : SegC P Γ ops L F (⟨some d0, .binOp .and t x y t2, ty, pos, aft, none⟩ :: rest) K :=
  SegC.q (Qs.pv (by apply Pv.andU <;> assumption)) hlt hr
theorem Pv.orU : Pv P Γ F L ⟨dst, .binOp .or t x y t2, ty, pos, aft, g⟩ (u32 (a ||| b)) := by
  have := Pv.bor (P := P) (Γ := Γ) (L := L) (dst := dst) (ty := ty) (pos := pos) (aft := aft) (g := g) (t := t) (t2 := t2) hx hy
  simp only [IntKind.bits, ofInt_u32, wrap_u32, ofNat_toNat32] at this
  exact this
theorem Cx.orU  {d0 : Nat} {K : List (Nat × SV) → Prop} (hlt : Nat.blt d0 Γ.nt = true) (hr : SegC P Γ ops L ((d0, (u32 (a ||| b))) :: F) rest K) : SegC P Γ ops L F (⟨some d0, .binOp .or t x y t2, ty, pos, aft, none⟩ :: rest) K :=
  SegC.q (Qs.pv (by apply Pv.orU <;> assumption)) hlt hr
theorem Jx.orU  {d0 : Nat} (hlt : Nat.blt d0 Γ.nt = true) (k : J P Γ ops Q ((d0, (u32 (a ||| b))) :: F) L rest) : J P Γ ops Q F L (⟨some d0, .binOp .or t x y t2, ty, pos, aft, none⟩ :: rest) :=
  J.pv (by apply Pv.orU <;> assumption) hlt k
end
theorem Pv.byteWord {src d : Nat} [h : TInt P d .u32] {x : Operand} {b : UInt8} (hs : (P.underlying src).isSome = true) (hx : ev F x = some (byte b)) : Pv P Γ F L ⟨dst, .convert src d x, ty, pos, aft, g⟩ (u32 (BitVec.ofNat 32 b.toNat)) := by
  have := Pv.convI (P := P) (Γ := Γ) (L := L) (dst := dst) (ty := ty) (pos := pos) (aft := aft) (g := g) (d := d) hs hx
  rwa [wrap_u32] at this
theorem Cx.byteWord {src d : Nat} [h : TInt P d .u32] {x : Operand} {b : UInt8} (hs : (P.underlying src).isSome = true) (hx : ev F x = some (byte b)) {d0 : Nat} {K : List (Nat × SV) → Prop} (hlt : Nat.blt d0 Γ.nt = true) (hr : SegC P Γ ops L ((d0, (u32 (BitVec.ofNat 32 b.toNat))) :: F) rest K) : SegC P Γ ops L F (⟨some d0, .convert src d x, ty, pos, aft, none⟩ :: rest) K :=
  SegC.q (Qs.pv (by apply Pv.byteWord <;> assumption)) hlt hr
theorem Pv.numByte {src d : Nat} [h : TInt P d .u8] {x : Operand} {k : IntKind} (n : Nat) {m : Int} (hs : (P.underlying src).isSome = true) (hx : ev F x = some (.val (.int k m))) (hm : m = (n : Int)) : Pv P Γ F L ⟨dst, .convert src d x, ty, pos, aft, g⟩ (byte (UInt8.ofNat n)) := by
  subst hm
  have := Pv.convI (P := P) (Γ := Γ) (L := L) (dst := dst) (ty := ty) (pos := pos) (aft := aft) (g := g) (d := d) hs hx
  rwa [wrap_u8] at this
theorem Jx.numByte {src d : Nat} [h : TInt P d .u8] {x : Operand} {k : IntKind} (n : Nat) {m : Int} (hs : (P.underlying src).isSome = true) (hx : ev F x = some (.val (.int k m))) (hm : m = (n : Int)) {d0 : Nat} (hlt : Nat.blt d0 Γ.nt = true) (k : J P Γ ops Q ((d0, (byte (UInt8.ofNat n))) :: F) L rest) : J P Γ ops Q F L (⟨some d0, .convert src d x, ty, pos, aft, none⟩ :: rest) :=
  J.pv (by apply Pv.numByte <;> assumption) hlt k
theorem Pv.convU64 {src d : Nat} [h : TInt P d .u64] {x : Operand} {k : IntKind} (n : Nat) {m : Int} (hs : (P.underlying src).isSome = true) (hx : ev F x = some (.val (.int k m))) (hm : m = (n : Int)) (hn : n < 18446744073709551616) : Pv P Γ F L ⟨dst, .convert src d x, ty, pos, aft, g⟩ (u64 n) := by
  subst hm
  have := Pv.convI (P := P) (Γ := Γ) (L := L) (dst := dst) (ty := ty) (pos := pos) (aft := aft) (g := g) (d := d) hs hx
  rwa [wrap_u64 hn] at this
theorem Jx.convU64 {src d : Nat} [h : TInt P d .u64] {x : Operand} {k : IntKind} (n : Nat) {m : Int} (hs : (P.underlying src).isSome = true) (hx : ev F x = some (.val (.int k m))) (hm : m = (n : Int)) (hn : n < 18446744073709551616) {d0 : Nat} (hlt : Nat.blt d0 Γ.nt = true) (k : J P Γ ops Q ((d0, (u64 n)) :: F) L rest) : J P Γ ops Q F L (⟨some d0, .convert src d x, ty, pos, aft, none⟩ :: rest) :=
  J.pv (by apply Pv.convU64 <;> assumption) hlt k
theorem Pv.mulU64 {t t2 : TypeId} {x y : Operand} {n : Nat} (c : Nat) (hx : ev F x = some (u64 n)) (hy : ev F y = some (.val (.int .u64 (c : Int)))) (hn : n * c < 18446744073709551616) : Pv P Γ F L ⟨dst, .binOp .mul t x y t2, ty, pos, aft, g⟩ (u64 (n * c)) := by
  have := Pv.mul (P := P) (Γ := Γ) (L := L) (dst := dst) (ty := ty) (pos := pos) (aft := aft) (g := g) (t := t) (t2 := t2) hx hy
  rwa [show ((n : Int) * (c : Int)) = ((n * c : Nat) : Int) by push_cast; rfl, wrap_u64 hn] at this
theorem Jx.mulU64 {t t2 : TypeId} {x y : Operand} {n : Nat} (c : Nat) (hx : ev F x = some (u64 n)) (hy : ev F y = some (.val (.int .u64 (c : Int)))) (hn : n * c < 18446744073709551616) {d0 : Nat} (hlt : Nat.blt d0 Γ.nt = true) (k : J P Γ ops Q ((d0, (u64 (n * c))) :: F) L rest) : J P Γ ops Q F L (⟨some d0, .binOp .mul t x y t2, ty, pos, aft, none⟩ :: rest) :=
  J.pv (by apply Pv.mulU64 <;> assumption) hlt k
theorem Pv.subU64 {t t2 : TypeId} {x y : Operand} {n c : Nat} (hx : ev F x = some (.val (.int .u64 (c : Int)))) (hy : ev F y = some (u64 n)) (hn : n ≤ c) (hc : c < 18446744073709551616) : Pv P Γ F L ⟨dst, .binOp .sub t x y t2, ty, pos, aft, g⟩ (u64 (c - n)) := by
  have := Pv.sub' (P := P) (Γ := Γ) (L := L) (dst := dst) (ty := ty) (pos := pos) (aft := aft) (g := g) (t := t) (t2 := t2) hx hy
  rwa [show ((c : Int) - (n : Int)) = ((c - n : Nat) : Int) by omega, wrap_u64 (by omega)] at this
theorem Jx.subU64 {t t2 : TypeId} {x y : Operand} {n c : Nat} (hx : ev F x = some (.val (.int .u64 (c : Int)))) (hy : ev F y = some (u64 n)) (hn : n ≤ c) (hc : c < 18446744073709551616) {d0 : Nat} (hlt : Nat.blt d0 Γ.nt = true) (k : J P Γ ops Q ((d0, (u64 (c - n))) :: F) L rest) : J P Γ ops Q F L (⟨some d0, .binOp .sub t x y t2, ty, pos, aft, none⟩ :: rest) :=
  J.pv (by apply Pv.subU64 <;> assumption) hlt k
theorem Pv.shrN {t t2 : TypeId} {x y : Operand} {k k2 : IntKind} {n s : Nat} {m : Int} (hx : ev F x = some (.val (.int k (n : Int)))) (hy : ev F y = some (.val (.int k2 m))) (hm : m = (s : Int)) (hs : s ≤ k.bits) : Pv P Γ F L ⟨dst, .binOp .shr t x y t2, ty, pos, aft, g⟩ (.val (.int k ((n / 2 ^ s : Nat) : Int))) := by
  subst hm
  have := Pv.shr (P := P) (Γ := Γ) (L := L) (dst := dst) (ty := ty) (pos := pos) (aft := aft) (g := g) (t := t) (t2 := t2) hx hy (Int.natCast_nonneg s)
  have e : (n : Int).fdiv (2 ^ Min.min (s : Int).toNat k.bits) = ((n / 2 ^ s : Nat) : Int) := by
    rw [Int.fdiv_eq_ediv_of_nonneg _ (by exact_mod_cast Nat.zero_le _), Int.toNat_natCast, Nat.min_eq_left hs]
    norm_cast
  rwa [e] at this
theorem Jx.shrN {t t2 : TypeId} {x y : Operand} {k k2 : IntKind} {n s : Nat} {m : Int} (hx : ev F x = some (.val (.int k (n : Int)))) (hy : ev F y = some (.val (.int k2 m))) (hm : m = (s : Int)) (hs : s ≤ k.bits) {d0 : Nat} (hlt : Nat.blt d0 Γ.nt = true) (k : J P Γ ops Q ((d0, (.val (.int k ((n / 2 ^ s : Nat) : Int)))) :: F) L rest) : J P Γ ops Q F L (⟨some d0, .binOp .shr t x y t2, ty, pos, aft, none⟩ :: rest) :=
  J.pv (by apply Pv.shrN <;> assumption) hlt k
theorem getElem?_map_lt {α : Type} (f : α → SV) (ws : List α) (d : α) (i : Nat) (h : i < ws.length) : (ws.map f)[i]? = some (f (ws.getD i d)) := by
  simp [List.getElem?_map, List.getD_eq_getElem?_getD, List.getElem?_eq_getElem h]
theorem Pv.indexA {T E by' n : Nat} {z : List Value} [h : TArr P T n E] [hI : TInfo P E 1 by' z] {x i : Operand} {k : IntKind} {b o : Nat} {m : Int} (j : Nat) (hx : ev F x = some (.val (.pointer (some ⟨b, o, none⟩))))
    (hi : ev F i = some (.val (.int k m))) (hm : m = (j : Int)) (h1 : j < n) : Pv P Γ F L ⟨dst, .indexAddr T x i, ty, pos, aft, g⟩ (.val (.pointer (some ⟨b, o + j, none⟩))) := by
  subst hm
  have := Pv.indexArr (P := P) (Γ := Γ) (L := L) (dst := dst) (ty := ty) (pos := pos) (aft := aft) (g := g) (T := T) hx hi (by omega) (by omega)
  simpa using this
theorem Pv.index0 {T E by' n : Nat} {z : List Value} [h : TArr P T n E] [hI : TInfo P E 1 by' z] {x i : Operand} {k : IntKind} {b : Nat} {m : Int} (j : Nat) (hx : ev F x = some (.val (.pointer (some ⟨b, 0, none⟩))))
    (hi : ev F i = some (.val (.int k m))) (hm : m = (j : Int)) (h1 : j < n) : Pv P Γ F L ⟨dst, .indexAddr T x i, ty, pos, aft, g⟩ (.val (.pointer (some ⟨b, j, none⟩))) := by
  have := Pv.indexA (P := P) (Γ := Γ) (L := L) (dst := dst) (ty := ty) (pos := pos) (aft := aft) (g := g) (T := T) j hx hi hm h1
  rwa [Nat.zero_add] at this
theorem Cx.index0 {T E by' n : Nat} {z : List Value} [h : TArr P T n E] [hI : TInfo P E 1 by' z] {x i : Operand} {k : IntKind} {b : Nat} {m : Int} (j : Nat) (hx : ev F x = some (.val (.pointer (some ⟨b, 0, none⟩))))
    (hi : ev F i = some (.val (.int k m))) (hm : m = (j : Int)) (h1 : j < n) {d0 : Nat} {K : List (Nat × SV) → Prop} (hlt : Nat.blt d0 Γ.nt = true) (hr : SegC P Γ ops L ((d0, (.val (.pointer (some ⟨b, j, none⟩)))) :: F) rest K) : SegC P Γ ops L F (⟨some d0, .indexAddr T x i, ty, pos, aft, none⟩ :: rest) K :=
  SegC.q (Qs.pv (by apply Pv.index0 <;> assumption)) hlt hr
theorem Jx.index0 {T E by' n : Nat} {z : List Value} [h : TArr P T n E] [hI : TInfo P E 1 by' z] {x i : Operand} {k : IntKind} {b : Nat} {m : Int} (j : Nat) (hx : ev F x = some (.val (.pointer (some ⟨b, 0, none⟩))))
    (hi : ev F i = some (.val (.int k m))) (hm : m = (j : Int)) (h1 : j < n) {d0 : Nat} (hlt : Nat.blt d0 Γ.nt = true) (k : J P Γ ops Q ((d0, (.val (.pointer (some ⟨b, j, none⟩)))) :: F) L rest) : J P Γ ops Q F L (⟨some d0, .indexAddr T x i, ty, pos, aft, none⟩ :: rest) :=
  J.pv (by apply Pv.index0 <;> assumption) hlt k
theorem Pv.loadA {α : Type} {T b j : Nat} [h : TSc P T] {x : Operand} (enc : α → SV) (d : α) (hx : ev F x = some (.val (.pointer (some ⟨b, j, none⟩)))) (i : Nat) {T' : TypeId} {ws : List α} (hi : L[i]? = some (.obj b T' (ws.map enc))) (hj : j < ws.length) :
    Pv P Γ F L ⟨dst, .load T x, ty, pos, aft, g⟩ (enc (ws.getD j d)) := Pv.load hx i hi (getElem?_map_lt enc ws d j hj)
theorem Cx.loadA {α : Type} {T b j : Nat} [h : TSc P T] {x : Operand} (enc : α → SV) (d : α) (hx : ev F x = some (.val (.pointer (some ⟨b, j, none⟩)))) (i : Nat) {T' : TypeId} {ws : List α} (hi : L[i]? = some (.obj b T' (ws.map enc))) (hj : j < ws.length) {d0 : Nat} {K : List (Nat × SV) → Prop} (hlt : Nat.blt d0 Γ.nt = true) (hr : SegC P Γ ops L ((d0, (enc (ws.getD j d))) :: F) rest K) : SegC P Γ ops L F (⟨some d0, .load T x, ty, pos, aft, none⟩ :: rest) K :=
  SegC.q (Qs.pv (by apply Pv.loadA <;> assumption)) hlt hr
theorem J.storeA {α : Type} {T b j : Nat} [h : TSc P T] {x y : Operand} (enc : α → SV) (v : α) (hx : ev F x = some (.val (.pointer (some ⟨b, j, none⟩)))) (hy : ev F y = some (enc v)) (h1 : One (enc v)) (i : Nat) {T' : TypeId} {ws : List α} {L' : List Own}
    (hi : L[i]? = some (.obj b T' (ws.map enc))) (hj : j < ws.length) (hL : L.set i (.obj b T' ((ws.set j v).map enc)) = L') (k : J P Γ ops Q F L' rest) : J P Γ ops Q F L (⟨none, .store T x y, ty, pos, aft, none⟩ :: rest) :=
  J.store hx hy h1 i hi (by simp only [List.length_map]; exact Nat.ble_eq_true_of_le hj) (by rw [List.map_set]) hL k
theorem Pv.loadArr {T b n : Nat} [h : TAg P T n] {x : Operand} {cs : List SV} (hn : cs.length = n) (hx : ev F x = some (.val (.pointer (some ⟨b, 0, none⟩)))) (i : Nat) {T' : TypeId} (hi : L[i]? = some (.obj b T' cs)) :
    Pv P Γ F L ⟨dst, .load T x, ty, pos, aft, g⟩ (.agg cs) := Pv.loadAg hx i hi (by rw [List.drop_zero, ← hn, List.take_length]) hn
theorem Jx.loadArr {T b n : Nat} [h : TAg P T n] {x : Operand} {cs : List SV} (hn : cs.length = n) (hx : ev F x = some (.val (.pointer (some ⟨b, 0, none⟩)))) (i : Nat) {T' : TypeId} (hi : L[i]? = some (.obj b T' cs)) {d0 : Nat} (hlt : Nat.blt d0 Γ.nt = true) (k : J P Γ ops Q ((d0, (.agg cs)) :: F) L rest) : J P Γ ops Q F L (⟨some d0, .load T x, ty, pos, aft, none⟩ :: rest) :=
  J.pv (by apply Pv.loadArr <;> assumption) hlt k
theorem J.storeArr {T b n : Nat} [h : TAg P T n] {x y : Operand} {ds : List SV} (hn : ds.length = n) (hx : ev F x = some (.val (.pointer (some ⟨b, 0, none⟩)))) (hy : ev F y = some (.agg ds)) (i : Nat) {T' : TypeId} {cs : List SV} {L' : List Own}
    (hi : L[i]? = some (.obj b T' cs)) (ho : cs.length = n) (hL : L.set i (.obj b T' ds) = L') (k : J P Γ ops Q F L' rest) : J P Γ ops Q F L (⟨none, .store T x y, ty, pos, aft, none⟩ :: rest) :=
  J.storeAg hx hy hn i hi (by rw [ho]; simp) (by rw [hn, ← ho]; simp) hL k
theorem Pv.indexAg {α : Type} {T E by' n : Nat} {z : List Value} [h : TArr P T n E] [hI : TInfo P E 1 by' z] [hs : TSc P E] {x i : Operand} {k : IntKind} {m : Int} (enc : α → SV) (d : α) {ws : List α} (j : Nat) (hx : ev F x = some (.agg (ws.map enc)))
    (hi : ev F i = some (.val (.int k m))) (hm : m = (j : Int)) (h1 : j < n) (h2 : j < ws.length) : Pv P Γ F L ⟨dst, .index T x i, ty, pos, aft, g⟩ (enc (ws.getD j d)) := fun ρ w hst => by
  subst hm
  have hr := hst.ev x (by simp [Op.operands]) _ hx
  have hiv := hst.evv (x := i) (by simp [Op.operands]) hi
  generalize hv : ρ x = v at hr
  cases hr with
  | agg _ vs hl h1' hr =>
    obtain ⟨u, hu, hru, _⟩ := RelL.at ⟨hl, h1', hr⟩ (getElem?_map_lt enc ws d j h2)
    refine ⟨u, ?_, hru⟩
    have hsz : (sizeOf E).run P w = .ok 1 w := sizeOf_of (by have := hI.ok; cases hq : P.info? E <;> simp_all) w
    have := run_part_sc hs w vs.toArray j u (by simpa using hu)
    simp [execOp, hv, hiv, Instr.index, asIntOf, run_underlying h.ok, hsz, h1, this]
theorem Jx.indexAg {α : Type} {T E by' n : Nat} {z : List Value} [h : TArr P T n E] [hI : TInfo P E 1 by' z] [hs : TSc P E] {x i : Operand} {k : IntKind} {m : Int} (enc : α → SV) (d : α) {ws : List α} (j : Nat) (hx : ev F x = some (.agg (ws.map enc)))
    (hi : ev F i = some (.val (.int k m))) (hm : m = (j : Int)) (h1 : j < n) (h2 : j < ws.length) {d0 : Nat} (hlt : Nat.blt d0 Γ.nt = true) (k : J P Γ ops Q ((d0, (enc (ws.getD j d))) :: F) L rest) : J P Γ ops Q F L (⟨some d0, .index T x i, ty, pos, aft, none⟩ :: rest) :=
  J.pv (by apply Pv.indexAg <;> assumption) hlt k
theorem Pv.sliceArrPtr {T E n N : Nat} [h : TArr P T N E] {x : Operand} {el : Nat → List SV} (cs : List SV) (hx : ev F x = some (.sl 1 n el)) (hn : N ≤ n) (h0 : 0 < N) (hl : cs.length = N) (hc : ∀ j, j < N → (el j).getD 0 .any = cs.getD j .any) :
    Pv P Γ F L ⟨dst, .sliceToArrayPointer T x, ty, pos, aft, g⟩ (.pp cs) := fun ρ w hst => by
  have hr := hst.ev x (by simp [Op.operands]) _ hx
  generalize hv : ρ x = v at hr
  cases hr with
  | sl _ _ _ a cap vs hcap hmax hb h1 hl' hr =>
    rcases hb with hb | ⟨b, off, rfl, hz, hcell⟩
    · omega
    · refine ⟨.pointer (some ⟨b, off, none⟩), ?_, ?_⟩
      · simp [execOp, hv, Instr.arrayAt, run_underlying h.ok, Nat.not_lt.2 hn]
      · refine .pp cs b off vs (by omega) hz (fun j hj => hcell j (by omega)) (fun j hj => h1 j (by omega)) (fun j hj => ?_)
        have := hr j 0 (by omega) (by omega)
        rw [hc j (by omega)] at this
        simpa using this
theorem Cx.sliceArrPtr {T E n N : Nat} [h : TArr P T N E] {x : Operand} {el : Nat → List SV} (cs : List SV) (hx : ev F x = some (.sl 1 n el)) (hn : N ≤ n) (h0 : 0 < N) (hl : cs.length = N) (hc : ∀ j, j < N → (el j).getD 0 .any = cs.getD j .any) {d0 : Nat} {K : List (Nat × SV) → Prop} (hlt : Nat.blt d0 Γ.nt = true) (hr : SegC P Γ ops L ((d0, (.pp cs)) :: F) rest K) : SegC P Γ ops L F (⟨some d0, .sliceToArrayPointer T x, ty, pos, aft, none⟩ :: rest) K :=
  SegC.q (Qs.pv (by apply Pv.sliceArrPtr <;> assumption)) hlt hr
theorem Pv.buildA {T E n sz sz' by' by2 : Nat} {z z2 : List Value} [hI : TInfo P T sz by' z] [hA : TArr P T n E] [hE : TInfo P E sz' by2 z2] {parts : List (Nat × Operand)} {ss cs' : List SV} (ha' : evs F (parts.map (·.2)) = some ss) (hok' : partsB ss = true)
    (hz1 : z.all (·.oneCell') = true) (hf : fillS ((List.range n).map fun i => (i * sz', sz')) (z.map .val) ((parts.map (·.1)).zip ss) = some cs') : Pv P Γ F L ⟨dst, .build T parts.toArray, ty, pos, aft, g⟩ (.agg cs') := fun ρ w hst => by
    have ha := evs_args ha'
    have hok := partsB_ok hok'
    obtain ⟨zv, hzr, hzc, i, hi, rfl, rfl, hiz⟩ := run_zero hI w
    have hsE : (sizeOf E).run P w = .ok sz' w := sizeOf_of (by have := hE.ok; cases hq : P.info? E <;> simp_all) w
    have hrel : ∀ {xs : List Operand} {ss : List SV}, Args F xs ss → (∀ x ∈ xs, x ∈ parts.map (·.2)) → xs.length = ss.length ∧ ∀ (j : Nat) (s : SV) (x : Operand), ss[j]? = some s → xs[j]? = some x → Rel (ZL Γ.Z L) w s (ρ x) := by
      intro xs ss h
      induction h with
      | nil => exact fun _ => ⟨rfl, by simp⟩
      | @cons x s xs ss h hr ih =>
        intro hm
        obtain ⟨i1, i2⟩ := ih (fun y hy => hm y (List.mem_cons_of_mem _ hy))
        refine ⟨by simp [i1], fun j s' x' hs hx => ?_⟩
        cases j with
        | zero =>
          simp at hs hx; subst hs; subst hx
          exact hst.ev _ (by simp only [Op.operands, List.map_toArray, List.toList_toArray]; exact hm _ (List.mem_cons_self ..)) _ h
        | succ j => exact i2 j s' x' (by simpa using hs) (by simpa using hx)
      | @sub x s t xs ss h hsub hr ih =>
        intro hm
        obtain ⟨i1, i2⟩ := ih (fun y hy => hm y (List.mem_cons_of_mem _ hy))
        refine ⟨by simp [i1], fun j s' x' hs hx => ?_⟩
        cases j with
        | zero =>
          simp at hs hx; subst hs; subst hx
          exact hsub _ _ _ (hst.ev _ (by simp only [Op.operands, List.map_toArray, List.toList_toArray]; exact hm _ (List.mem_cons_self ..)) _ h)
        | succ j => exact i2 j s' x' (by simpa using hs) (by simpa using hx)
    obtain ⟨hl, hall⟩ := hrel ha (fun x hx => hx)
    have hzrel : RelL (ZL Γ.Z L) w (z.map .val) zv.cells.toList := by rw [hzc]; exact RelL.vals z (by simpa [List.all_eq_true] using hz1)
    obtain ⟨cells', hfill, hr'⟩ := fill_rel (pl := (List.range n).map fun i => (i * sz', sz')) (place := fun i => some (i * sz', sz')) (fun k q hq => by
      simp only [List.getElem?_map] at hq
      cases hk : (List.range n)[k]? with
      | none => rw [hk] at hq; simp at hq
      | some m =>
        rw [hk] at hq
        obtain ⟨hlt, hm⟩ := List.getElem?_eq_some_iff.1 hk
        simp only [List.getElem_range] at hm
        subst hm
        simpa using hq) ((parts.map (·.1)).zip ss) (parts.map fun p => (p.1, ρ p.2)) (z.map .val) zv.cells cs' (by simp at hl ⊢; omega) (by
      intro j p v hp hv
      rw [List.getElem?_zip_eq_some] at hp
      simp only [List.getElem?_map] at hp hv
      cases hq : parts[j]? with
      | none => rw [hq] at hv; simp at hv
      | some q =>
        rw [hq] at hp hv
        simp only [Option.map_some, Option.some.injEq] at hp hv
        subst hv
        exact ⟨hp.1.symm, hok.mem _ (List.mem_of_getElem? hp.2), hall j p.2 q.2 hp.2 (by simp [hq])⟩) hzrel hf
    refine ⟨.agg cells', ?_, ?_⟩
    · have hpm : (parts.toArray.map fun (p : Nat × Operand) => (p.1, ρ p.2)).toList = parts.map fun p => (p.1, ρ p.2) := by simp
      simp only [execOp, Instr.build, Sem.run_bind, hzr, Result.andThen_ok, run_underlying hA.ok, Sem.run_pure, hsE]
      rw [hpm, hfill]
      rfl
    · have := hr'.agg
      simpa using this
theorem Jx.buildA {T E n sz sz' by' by2 : Nat} {z z2 : List Value} [hI : TInfo P T sz by' z] [hA : TArr P T n E] [hE : TInfo P E sz' by2 z2] {parts : List (Nat × Operand)} {ss cs' : List SV} (ha' : evs F (parts.map (·.2)) = some ss) (hok' : partsB ss = true)
    (hz1 : z.all (·.oneCell') = true) (hf : fillS ((List.range n).map fun i => (i * sz', sz')) (z.map .val) ((parts.map (·.1)).zip ss) = some cs') {d0 : Nat} (hlt : Nat.blt d0 Γ.nt = true) (k : J P Γ ops Q ((d0, (.agg cs')) :: F) L rest) : J P Γ ops Q F L (⟨some d0, .build T parts.toArray, ty, pos, aft, none⟩ :: rest) :=
  J.pv (by apply Pv.buildA <;> assumption) hlt k
theorem perm_erase : ∀ {L : List Own} {i : Nat} {o : Own}, L[i]? = some o → L.Perm (o :: L.eraseIdx i)
  | [], i, o, h => by simp at h
  | x :: L, 0, o, h => by simp at h; subst h; simp
  | x :: L, i + 1, o, h => by
    simp only [List.getElem?_cons_succ] at h
    simp only [List.eraseIdx_cons_succ]
    exact (List.Perm.cons x (perm_erase h)).trans (List.Perm.swap ..)
theorem perm_set {L : List Own} {i : Nat} {o o' : Own} (h : L[i]? = some o) : (o' :: L.eraseIdx i).Perm (L.set i o') := by
  have h1 : (L.set i o')[i]? = some o' := by
    obtain ⟨hlt, rfl⟩ := List.getElem?_eq_some_iff.1 h
    simp [hlt]
  have := perm_erase h1
  rw [List.eraseIdx_set_eq] at this
  exact this.symm
end
end Go.Sse
namespace Go.Sse
open Go Go.Sse
set_option linter.unusedVariables false
set_option linter.unusedSimpArgs false
section
variable {P : Program} {Γ : Ctx} {ops : Array Oper} {Q : Exit → Act → World → Prop} {F : List (Nat × SV)} {L : List Own} {rest : List Oper}
variable {dst : Option Tmp} {ty : TypeId} {pos : String} {aft : Array Edge} {g : Option (Nat × Bool)}
theorem Qs.sub {o : Oper} {s t : SV} (h : Qs P Γ F L o s) (hs : Sub s t) : Qs P Γ F L o t :=
  fun a w K Q hws hx hK => h a w K Q hws hx fun v w' hst hr => hK v w' hst (hs _ _ _ hr)
theorem parts_of : ∀ {k : Nat} {parts : List (Nat × Operand)} {ss : List SV}, evs F (parts.map (·.2)) = some ss → parts.map (·.1) = List.range' k parts.length → (∀ s ∈ ss, PartOK s) → Parts F k parts ss
  | k, [], ss, h, _, _ => by
    simp only [List.map_nil, evs, Option.some.injEq] at h
    subst h; exact .nil
  | k, (i, x) :: r, ss, h, hi, hok => by
    simp only [List.map_cons, evs] at h
    simp only [List.map_cons, List.length_cons, List.range'_succ, List.cons.injEq] at hi
    obtain ⟨rfl, hi⟩ := hi
    cases hx : ev F x with
    | none => rw [hx] at h; simp at h
    | some s =>
      rw [hx] at h
      cases hr : evs F (r.map (·.2)) with
      | none => rw [hr] at h; simp at h
      | some ss' =>
        rw [hr] at h
        simp only [Option.some.injEq] at h
        subst h
        exact .cons hx (hok s (List.mem_cons_self ..)) (parts_of hr hi fun s hs => hok s (List.mem_cons_of_mem _ hs))
theorem One.cells {s : SV} (h : One s) : cellsS s = [s] := by cases h <;> rfl
theorem Qs.buildL {α : Type} {t E by' len : Nat} {z0 : Value} [ht : TSlice P t E] [hI : TInfo P E 1 by' [z0]] {parts : List (Nat × Operand)} (enc1 : α → SV) (d : α) (l : List α) (h1 : ∀ a, One (enc1 a)) (ha : evs F (parts.map (·.2)) = some (l.map enc1)) (hi : parts.map (·.1) = List.range' 0 parts.length)
    (hl : l.length = len) (h0 : 0 < len) (hmax : len ≤ 16777216) (hz : z0.oneCell' = true) : Qs P Γ F L ⟨dst, .buildSlice t len parts.toArray, ty, pos, aft, g⟩ (.sl 1 l.length (elOf (fun a => [enc1 a]) d l)) := by
  have hp := parts_of ha hi (fun s hs => by obtain ⟨a, _, rfl⟩ := List.mem_map.1 hs; exact .one (h1 a))
  have hc : ∀ a, cellsS (enc1 a) = [enc1 a] := fun a => (h1 a).cells
  refine (Qs.buildSlice (sz := 1) (z := [z0]) hp (by simpa using hl) (fun s hs => by obtain ⟨a, _, rfl⟩ := List.mem_map.1 hs; rw [hc]; rfl) rfl (by omega) (by omega) (by simpa using hz)).sub ?_
  subst hl
  refine Sub.sl fun i hi => ?_
  simp only [elOf, List.getD_eq_getElem?_getD, List.getElem?_map, List.getElem?_eq_getElem hi, Option.map_some, Option.getD_some, hc]
theorem Qs.buildBytes {t E by' len : Nat} [ht : TSlice P t E] [hI : TInfo P E 1 by' [.int .u8 0]] {parts : List (Nat × Operand)} (l : List UInt8) (ha : evs F (parts.map (·.2)) = some (l.map byte)) (hi : parts.map (·.1) = List.range' 0 parts.length)
    (hl : l.length = len) (h0 : 0 < len) (hmax : len ≤ 16777216) : Qs P Γ F L ⟨dst, .buildSlice t len parts.toArray, ty, pos, aft, g⟩ (bsl l) := Qs.buildL byte 0 l (fun _ => .val rfl) ha hi hl h0 hmax rfl
theorem SrcOK.row {xt E E' sz m : Nat} [h : TSlice P xt E] {x : Operand} {v : Value} {el2 : Nat → List SV} (hx : ev F x = some (.val v)) (i : Nat) (hi : L[i]? = some (.row v E' sz m el2)) : SrcOK P Γ F L sz xt x m el2 := by
  intro ρ w hws hev
  have hv : ρ x = v := (hev _ hx).val_eq
  rcases hws.holds _ (mem_of_idx hi) with ⟨rfl, rfl⟩ | ⟨b, cap, cur, fz, rfl, hbk, hu, hnc, hcm, hcs, hone, hell, hrel⟩
  · refine ⟨[], ⟨⟨_, h.ok, by simp⟩, fun w' => by rw [hv]; simp [Builtin.lenOf], ?_, ?_, by simp, by simp⟩, by intro i hi; omega, by intro i j hi; omega⟩
    · rw [hv]; simp [Builtin.firstCells]
    · rw [hv]; simp [Builtin.firstCells]
  · have hle : m * sz ≤ cur.size := by rw [hcs]; exact Nat.mul_le_mul_right _ hnc
    have hcell : ∀ w' : World, w'.heap = w.heap → (Builtin.firstCells sz m (.slice (some ⟨b, 0, none⟩) m cap)).run P w' = .ok (cur.toList.take (m * sz)).toArray w' := by
      intro w' hw
      refine run_firstCells_some (P := P) w' sz m ⟨b, 0, none⟩ m cap _ (by simp only [List.length_take, Array.length_toList]; omega) ?_
      intro j u hu
      have hj : j < m * sz := by
        rcases Nat.lt_or_ge j (m * sz) with h | h
        · exact h
        · rw [List.getElem?_eq_none (by simp only [List.length_take]; omega)] at hu; simp at hu
      rw [List.getElem?_take, if_pos hj] at hu
      rw [add_plain, Nat.zero_add]
      have : w'.cell? ⟨b, j, none⟩ = w.cell? ⟨b, j, none⟩ := by simp [World.cell?, hw]
      rw [this, obj_cell hbk]
      simpa using hu
    refine ⟨cur.toList.take (m * sz), ⟨⟨_, h.ok, by simp⟩, fun w' => by rw [hv]; simp [Builtin.lenOf], ?_, ?_, by simp only [List.length_take, Array.length_toList]; omega, fun u hu => hone u (List.mem_of_mem_take hu)⟩, hell, fun i' j hi' hj => ?_⟩
    · rw [hv]; exact hcell w rfl
    · rw [hv]; exact hcell w.drew rfl
    · have := idx_lt hi' hj
      have e : (cur.toList.take (m * sz)).getD (i' * sz + j) undef = cur.toList.getD (i' * sz + j) undef := by
        simp only [List.getD_eq_getElem?_getD, List.getElem?_take, this, if_true]
      rw [e]; exact hrel i' j hi' hj
theorem J.appendNil {α : Type} {d t xt E sz by' : Nat} {z : List Value} [ht : TSlice P t E] [hI : TInfo P E sz by' z] {x : Operand} {enc : α → List SV} {dd : α} {l2 : List α}
    (hx : SrcOK P Γ F (.row (.slice none 0 0) E sz 0 (elOf enc dd []) :: L) sz xt x l2.length (elOf enc dd l2)) (hz : z.length = sz) (hz1 : z.all (·.oneCell') = true)
    (hb : l2.length ≤ maxLen ∧ l2.length * by' ≤ 140737488355328) (hlt : Nat.blt d Γ.nt = true) (k : ∀ v', v'.oneCell' = true → J P Γ ops Q ((d, .val v') :: F) (.row v' E sz l2.length (elOf enc dd l2) :: L) rest) :
    J P Γ ops Q F L (⟨some d, .call { callee := .builtin .append, args := #[.const (.slice none 0 0), x], argTypes := #[t, xt] }, ty, pos, aft, none⟩ :: rest) :=
  J.rowNil E sz (elOf enc dd []) (J.appendL (l := []) (s := .const (.slice none 0 0)) rfl hx hz hz1 (by simpa using hb) hlt k)
theorem WSt.rowNil {w : World} (E sz : Nat) (el : Nat → List SV) (h : WSt Γ L w) : WSt Γ (.row (.slice none 0 0) E sz 0 el :: L) w :=
  ⟨h.os, h.tape, h.output, h.size, h.keep, h.zlt, h.nodup, h.foot, fun o ho => by
    rcases List.mem_cons.1 ho with rfl | ho
    · exact .inl ⟨rfl, rfl⟩
    · exact h.holds o ho⟩
theorem St.rowNil {a : Act} {w : World} (E sz : Nat) (el : Nat → List SV) (h : St Γ F L a w) : St Γ F (.row (.slice none 0 0) E sz 0 el :: L) a w := ⟨h.ws.rowNil E sz el, h.nt, h.df, h.fr⟩
theorem W.rowNil {c : Code} (E sz : Nat) (el : Nat → List SV) (h : W P Γ Q F (.row (.slice none 0 0) E sz 0 el :: L) c) : W P Γ Q F L c := ⟨fun a w hst => h.go a w (hst.rowNil E sz el)⟩
theorem N.rowNil {K : Act → World → Prop} (E sz : Nat) (el : Nat → List SV) (h : N Γ K F (.row (.slice none 0 0) E sz 0 el :: L)) : N Γ K F L := ⟨fun a w hst => h.go a w (hst.rowNil E sz el)⟩
theorem JP.rowNil {S idx : List Nat} (E sz : Nat) (el : Nat → List SV) (h : JP P Γ ops Q S idx F (.row (.slice none 0 0) E sz 0 el :: L)) : JP P Γ ops Q S idx F L :=
  ⟨fun k listed a w hp hk => h.go k listed a w ⟨hp.sz, hp.lo, hp.hi, hp.cl, hp.ws.rowNil E sz el, hp.nt, hp.df, hp.fr⟩ hk⟩
theorem JP.append {α : Type} {l : List Oper} {S idx : List Nat} {G : List (Nat × SV)} {d t xt E sz by' : Nat} {z : List Value} [ht : TSlice P t E] [hI : TInfo P E sz by' z] {s x : Operand} {v : Value} {enc : α → List SV} {dd : α} {m m2 : List α} (i : Nat) (ks S' idx' : List Nat) (hc : (okIdx l.toArray S idx && okStep l.toArray S idx i ks S' idx') = true)
    (hoi : l[i]? = some ⟨some d, .call { callee := .builtin .append, args := #[s, x], argTypes := #[t, xt] }, ty, pos, aft, g⟩) (hre : SegC P Γ l.toArray (.row v E sz m.length (elOf enc dd m) :: L) G (opsAt l idx) (Ag G idx.length))
    (hsv : ev (keep ks G) s = some (.val v)) (hx : SrcOK P Γ (keep ks G) (.row v E sz m.length (elOf enc dd m) :: L) sz xt x m2.length (elOf enc dd m2)) (hz : z.length = sz) (hz1 : z.all (·.oneCell') = true)
    (hb : m.length + m2.length ≤ maxLen ∧ (m.length + m2.length) * by' ≤ 140737488355328) (hlt : Nat.blt d Γ.nt = true)
    (k : ∀ v', v'.oneCell' = true → JP P Γ l.toArray Q S' idx' ((d, .val v') :: G) (.row v' E sz (m ++ m2).length (elOf enc dd (m ++ m2)) :: L)) : JP P Γ l.toArray Q S idx G (.row v E sz m.length (elOf enc dd m) :: L) :=
  JP.do1 i ks S' idx' hc hoi hre (OpS.appendRow hsv hx hz hz1 hb.1 hb.2 (el' := elOf enc dd (m ++ m2)) (fun i hi => elOf_append_left enc dd m m2 i hi) (fun i _ => elOf_append_right enc dd m m2 i)) hlt (by
    rintro r L' ⟨v', hv', rfl, rfl⟩
    have := k v' hv'
    rwa [List.length_append] at this)
theorem JP.call [Gl P] [Globs P Γ] {l : List Oper} {S idx : List Nat} {G : List (Nat × SV)} {d f : Nat} [hT : TFunc P f] {xs : List Operand} {ts : Array TypeId} {args : List SV} {Lc Lr : List Own} {R : SV → List Own → Prop} (i : Nat) (ks S' idx' : List Nat) (hF : FnC P f args Lc R) (hL : L = Lc ++ Lr) (hc : (okIdx l.toArray S idx && okStep l.toArray S idx i ks S' idx') = true)
    (hoi : l[i]? = some ⟨some d, .call { callee := .value (.func f), args := xs.toArray, argTypes := ts }, ty, pos, aft, g⟩) (hre : SegC P Γ l.toArray L G (opsAt l idx) (Ag G idx.length)) (ha : Args (keep ks G) xs args) (hlt : Nat.blt d Γ.nt = true)
    (k : ∀ s Lc', R s Lc' → JP P Γ l.toArray Q S' idx' ((d, s) :: G) (Lc' ++ Lr)) : JP P Γ l.toArray Q S idx G L :=
  JP.do1 i ks S' idx' hc hoi hre (OpS.call hF hL ha) hlt (by rintro s L' ⟨Lc', hR, rfl⟩; exact k s Lc' hR)
theorem JP.storeAg {l : List Oper} {S idx : List Nat} {G : List (Nat × SV)} {T b o n : Nat} [hT : TAg P T n] {x y : Operand} (i : Nat) (ks S' idx' : List Nat) (hc : (okIdx l.toArray S idx && okStep l.toArray S idx i ks S' idx') = true) (hoi : l[i]? = some ⟨none, .store T x y, ty, pos, aft, g⟩)
    (hre : SegC P Γ l.toArray L G (opsAt l idx) (Ag G idx.length)) (hx : ev (keep ks G) x = some (.val (.pointer (some ⟨b, o, none⟩)))) {ds : List SV} (hy : ev (keep ks G) y = some (.agg ds)) (hn : ds.length = n) (j : Nat) {T' : TypeId} {cs cs' : List SV} {L' : List Own}
    (hj : L[j]? = some (.obj b T' cs)) (ho : Nat.ble (o + n) cs.length = true) (hcs : cs.take o ++ ds ++ cs.drop (o + ds.length) = cs') (hL : L.set j (.obj b T' cs') = L') (k : JP P Γ l.toArray Q S' idx' G L') : JP P Γ l.toArray Q S idx G L :=
  JP.do0 i ks S' idx' hc hoi hre (OpS.storeAg hx hy hn j hj (Nat.le_of_ble_eq_true ho)) (by rintro sv L'' rfl; rw [hcs, hL]; exact k)
theorem J.appendAt {α : Type} {d t xt E sz by' : Nat} {z : List Value} [ht : TSlice P t E] [hI : TInfo P E sz by' z] {s x : Operand} {v : Value} {enc : α → List SV} {dd : α} {l l2 : List α} (i : Nat)
    (hi : L[i]? = some (.row v E sz l.length (elOf enc dd l)))
    (hsv : ev (F := F) s = some (.val v)) (hx : SrcOK P Γ F (.row v E sz l.length (elOf enc dd l) :: L.eraseIdx i) sz xt x l2.length (elOf enc dd l2)) (hz : z.length = sz) (hz1 : z.all (·.oneCell') = true)
    (hb : l.length + l2.length ≤ maxLen ∧ (l.length + l2.length) * by' ≤ 140737488355328) (hlt : Nat.blt d Γ.nt = true) (k : ∀ v', v'.oneCell' = true → J P Γ ops Q ((d, .val v') :: F) (L.set i (.row v' E sz (l ++ l2).length (elOf enc dd (l ++ l2)))) rest) :
    J P Γ ops Q F L (⟨some d, .call { callee := .builtin .append, args := #[s, x], argTypes := #[t, xt] }, ty, pos, aft, none⟩ :: rest) :=
  J.perm (perm_erase hi) (J.appendL hsv hx hz hz1 hb hlt fun v' hv' => J.perm (perm_set hi) (k v' hv'))
theorem W.freezeAt {c : Code} (j i : Nat) {v : Value} {E sz n : Nat} {el : Nat → List SV} (hj : L[j]? = some (.row v E sz n el)) (hi : look F i = some (.val v)) (hmax : n ≤ maxLen) (h : W P Γ Q ((i, .sl sz n el) :: F) (L.eraseIdx j) c) : W P Γ Q F L c :=
  W.perm (perm_erase hj) (W.freeze i hi hmax h)
theorem Sub.slOf {α : Type} {sz n : Nat} {el : Nat → List SV} {enc : α → List SV} {d : α} {l : List α} (hn : n = l.length) (h : ∀ i, i < n → el i = enc (l.getD i d)) : Sub (.sl sz n el) (.sl sz l.length (elOf enc d l)) := by
  subst hn; exact Sub.sl h
theorem Pv.takeL {α : Type} {T E sz by' : Nat} {z : List Value} [h : TSlice P T E] [hI : TInfo P E sz by' z] {x j : Operand} {k : IntKind} {m : Int} {enc : α → List SV} {d : α} {l : List α} (c : Nat) (hx : ev F x = some (.sl sz l.length (elOf enc d l))) (hj : ev F j = some (.val (.int k m))) (hm : m = (c : Int)) (hc : c ≤ l.length) :
    Pv P Γ F L ⟨dst, .slice T x none (some j) none, ty, pos, aft, g⟩ (.sl sz (l.take c).length (elOf enc d (l.take c))) := by
  subst hm
  refine (Pv.slSh hx hj (by omega) (by omega)).sub (Sub.slOf (by rw [List.length_take, Int.toNat_natCast]; omega) fun i hi => ?_)
  simp only [Int.toNat_natCast] at hi
  simp only [elOf, List.getD_eq_getElem?_getD, List.getElem?_take, hi, if_true]
theorem Cx.takeL {α : Type} {T E sz by' : Nat} {z : List Value} [h : TSlice P T E] [hI : TInfo P E sz by' z] {x j : Operand} {k : IntKind} {m : Int} {enc : α → List SV} {d : α} {l : List α} (c : Nat) (hx : ev F x = some (.sl sz l.length (elOf enc d l))) (hj : ev F j = some (.val (.int k m))) (hm : m = (c : Int)) (hc : c ≤ l.length) {d0 : Nat} {K : List (Nat × SV) → Prop} (hlt : Nat.blt d0 Γ.nt = true) (hr : SegC P Γ ops L ((d0, (.sl sz (l.take c).length (elOf enc d (l.take c)))) :: F) rest K) : SegC P Γ ops L F (⟨some d0, .slice T x none (some j) none, ty, pos, aft, none⟩ :: rest) K :=
  SegC.q (Qs.pv (by apply Pv.takeL <;> assumption)) hlt hr
theorem Pv.dropL {α : Type} {T E sz by' : Nat} {z : List Value} [h : TSlice P T E] [hI : TInfo P E sz by' z] {x j : Operand} {k : IntKind} {m : Int} {enc : α → List SV} {d : α} {l : List α} (c : Nat) (hx : ev F x = some (.sl sz l.length (elOf enc d l))) (hj : ev F j = some (.val (.int k m))) (hm : m = (c : Int)) (hc : c ≤ l.length) :
    Pv P Γ F L ⟨dst, .slice T x (some j) none none, ty, pos, aft, g⟩ (.sl sz (l.drop c).length (elOf enc d (l.drop c))) := by
  subst hm
  refine (Pv.slSl hx hj (by omega) (by omega)).sub (Sub.slOf (by rw [List.length_drop, Int.toNat_natCast]) fun i hi => ?_)
  simp only [elOf, List.getD_eq_getElem?_getD, List.getElem?_drop, Int.toNat_natCast]
theorem Jx.dropL {α : Type} {T E sz by' : Nat} {z : List Value} [h : TSlice P T E] [hI : TInfo P E sz by' z] {x j : Operand} {k : IntKind} {m : Int} {enc : α → List SV} {d : α} {l : List α} (c : Nat) (hx : ev F x = some (.sl sz l.length (elOf enc d l))) (hj : ev F j = some (.val (.int k m))) (hm : m = (c : Int)) (hc : c ≤ l.length) {d0 : Nat} (hlt : Nat.blt d0 Γ.nt = true) (k : J P Γ ops Q ((d0, (.sl sz (l.drop c).length (elOf enc d (l.drop c)))) :: F) L rest) : J P Γ ops Q F L (⟨some d0, .slice T x (some j) none none, ty, pos, aft, none⟩ :: rest) :=
  J.pv (by apply Pv.dropL <;> assumption) hlt k
theorem Pv.lenRow {T E : Nat} [h : TSlice P T E] {x : Operand} {v : Value} {E' sz n : Nat} {el : Nat → List SV} (hx : ev F x = some (.val v)) (i : Nat) (hi : L[i]? = some (.row v E' sz n el)) :
    Pv P Γ F L ⟨dst, .call { callee := .builtin .len, args := #[x], argTypes := #[T] }, ty, pos, aft, g⟩ (int n) := fun ρ w hst => by
  have hv := hst.evv (x := x) (by simp [Op.operands, Call.operands]) hx
  rcases hst.ws.holds _ (mem_of_idx hi) with ⟨rfl, rfl⟩ | ⟨b, cap, cur, fz, rfl, _⟩
  · exact ⟨_, by simp [execOp, resolve, invoke, builtin, hv, Builtin.len_, run_underlying h.ok, goInt], .val _⟩
  · exact ⟨_, by simp [execOp, resolve, invoke, builtin, hv, Builtin.len_, run_underlying h.ok, goInt], .val _⟩
theorem Jx.lenRow {T E : Nat} [h : TSlice P T E] {x : Operand} {v : Value} {E' sz n : Nat} {el : Nat → List SV} (hx : ev F x = some (.val v)) (i : Nat) (hi : L[i]? = some (.row v E' sz n el)) {d0 : Nat} (hlt : Nat.blt d0 Γ.nt = true) (k : J P Γ ops Q ((d0, (int n)) :: F) L rest) : J P Γ ops Q F L (⟨some d0, .call { callee := .builtin .len, args := #[x], argTypes := #[T] }, ty, pos, aft, none⟩ :: rest) :=
  J.pv (by apply Pv.lenRow <;> assumption) hlt k
end
end Go.Sse
namespace Go.Sse
open Go Go.Sse
set_option linter.unusedVariables false
set_option linter.unusedSimpArgs false
inductive Leaf where
  | b | i (k : IntKind) | s
def Leaf.fits : Leaf → Value → Bool
  | .b, .bool _ => true
  | .i k, .int k' _ => decide (k = k')
  | .s, .string _ => true
  | _, _ => false
def fitsL : List Leaf → List Value → Bool
  | [], [] => true
  | l :: ls, v :: vs => l.fits v && fitsL ls vs
  | _, _ => false
theorem fitsL_len : ∀ {ls : List Leaf} {vs : List Value}, fitsL ls vs = true → vs.length = ls.length
  | [], [], _ => rfl
  | l :: ls, v :: vs, h => by simp only [fitsL, Bool.and_eq_true] at h; simp [fitsL_len h.2]
  | [], v :: vs, h => by simp [fitsL] at h
  | l :: ls, [], h => by simp [fitsL] at h
theorem fitsL_append : ∀ {as1 bs : List Leaf} {vs : List Value}, fitsL (as1 ++ bs) vs = true → fitsL as1 (vs.take as1.length) = true ∧ fitsL bs (vs.drop as1.length) = true
  | [], bs, vs, h => by simpa [fitsL] using h
  | a :: as1, bs, [], h => by simp [fitsL] at h
  | a :: as1, bs, v :: vs, h => by
    simp only [List.cons_append, fitsL, Bool.and_eq_true] at h
    obtain ⟨h1, h2⟩ := fitsL_append h.2
    simp [fitsL, h.1, h1, h2]
def leafFields (P : Program) (g : TypeId → Option (List Leaf)) : List Field → Nat → Option (List Leaf)
  | [], _ => some []
  | f :: fs, off => if f.offset = off ∧ f.name ≠ "_" then
      match g f.type with
      | some l => if P.cellsOf f.type = l.length then (leafFields P g fs (off + l.length)).map (l ++ ·) else none
      | none => none
    else none
def leavesAt (P : Program) : Nat → TypeId → Option (List Leaf)
  | 0, _ => none
  | d + 1, t => match P.underlying t with
    | some .bool => some [.b]
    | some (.int k) => some [.i k]
    | some .string => some [.s]
    | some (.array n e) => match leavesAt P d e with
      | some l => if P.cellsOf e = l.length then some (List.replicate n l).flatten else none
      | none => none
    | some (.struct fs) => if P.stoodInHeld t = true then none else leafFields P (leavesAt P d) fs.toList 0
    | _ => none
def isAggD : Option TypeDesc → Bool
  | some (.struct _) | some (.array _ _) => true
  | _ => false
def Shp (P : Program) (t : TypeId) (ls : List Leaf) (x : Value) : Prop :=
  if isAggD (P.underlying t) = true then ∃ cs, x = .agg cs ∧ fitsL ls cs.toList = true else fitsL ls [x] = true
def EqOK (P : Program) (dd : Nat) (t : TypeId) (ls : List Leaf) : Prop :=
  ∀ (w : World) (x y : Value), Shp P t ls x → Shp P t ls y → ∃ r : Bool, (Op.equalIn dd t x y).run P w = .ok r w ∧ (r = true ↔ x = y)
section
variable {P : Program}
theorem run_part_leaf {e : TypeId} {d : Nat} {l : List Leaf} {xs : Array Value} {off : Nat} (w : World) (hl : leavesAt P d e = some l) (hc : P.cellsOf e = l.length) (hf : fitsL l ((xs.toList.drop off).take l.length) = true) :
    ∃ a, (part e xs off).run P w = .ok a w ∧ Shp P e l a ∧ ((isAggD (P.underlying e) = true ∧ a = .agg ((xs.toList.drop off).take l.length).toArray) ∨ (isAggD (P.underlying e) = false ∧ (xs.toList.drop off).take l.length = [a])) := by
  cases d with
  | zero => simp [leavesAt] at hl
  | succ d =>
    cases hu : P.underlying e with
    | none => simp [leavesAt, hu] at hl
    | some kd =>
      have one : ∀ lf : Leaf, l = [lf] → isAggD (some kd) = false → (∀ w : World, (isAgg e).run P w = .ok false w) → ∃ a, (part e xs off).run P w = .ok a w ∧ Shp P e l a ∧ ((isAggD (some kd) = true ∧ a = .agg ((xs.toList.drop off).take l.length).toArray) ∨ (isAggD (some kd) = false ∧ (xs.toList.drop off).take l.length = [a])) := by
        intro lf hlf hk hag
        subst hlf
        have hlen := fitsL_len hf
        simp only [List.length_cons, List.length_nil, Nat.zero_add] at hlen hf ⊢
        obtain ⟨a, ha⟩ := List.length_eq_one_iff.1 hlen
        have hx : xs[off]? = some a := by
          have : ((xs.toList.drop off).take 1)[0]? = some a := by rw [ha]; rfl
          simpa using this
        refine ⟨a, by simp [part, hag, hx], ?_, .inr ⟨hk, ha⟩⟩
        unfold Shp
        rw [hu, if_neg (by rw [hk]; simp), ← ha]
        exact hf
      have agg : isAggD (some kd) = true → (∀ w : World, (isAgg e).run P w = .ok true w) → ∃ a, (part e xs off).run P w = .ok a w ∧ Shp P e l a ∧ ((isAggD (some kd) = true ∧ a = .agg ((xs.toList.drop off).take l.length).toArray) ∨ (isAggD (some kd) = false ∧ (xs.toList.drop off).take l.length = [a])) := by
        intro hk hag
        obtain ⟨i, hi⟩ := info_of_underlying hu
        have hsz : i.size = l.length := by rw [← hc]; simp [Program.cellsOf, hi]
        have hl' : (xs.extract off (off + l.length)) = ((xs.toList.drop off).take l.length).toArray := by
          apply Array.ext'
          simp [List.extract_eq_take_drop]
        refine ⟨.agg ((xs.toList.drop off).take l.length).toArray, ?_, ?_, .inl ⟨hk, rfl⟩⟩
        · simp [part, hag, run_sizeOf w hi, hc, hl']
        · unfold Shp
          rw [hu, if_pos hk]
          exact ⟨_, rfl, hf⟩
      cases kd
      case bool => simp only [leavesAt, hu, Option.some.injEq] at hl; exact one _ hl.symm rfl (fun w => by simp [isAgg, run_underlying hu])
      case int k => simp only [leavesAt, hu, Option.some.injEq] at hl; exact one _ hl.symm rfl (fun w => by simp [isAgg, run_underlying hu])
      case string => simp only [leavesAt, hu, Option.some.injEq] at hl; exact one _ hl.symm rfl (fun w => by simp [isAgg, run_underlying hu])
      case array n e' => exact agg rfl (fun w => by simp [isAgg, run_underlying hu])
      case struct fs => exact agg rfl (fun w => by simp [isAgg, run_underlying hu])
      all_goals (simp [leavesAt, hu] at hl; done)
theorem part_eq_iff {k : Bool} {a b : Value} {as1 bs : List Value} (ha : (k = true ∧ a = .agg as1.toArray) ∨ (k = false ∧ as1 = [a])) (hb : (k = true ∧ b = .agg bs.toArray) ∨ (k = false ∧ bs = [b])) : a = b ↔ as1 = bs := by
  rcases ha with ⟨h1, rfl⟩ | ⟨h1, rfl⟩
  · rcases hb with ⟨h2, rfl⟩ | ⟨h2, rfl⟩
    · simp
    · rw [h1] at h2; cases h2
  · rcases hb with ⟨h2, rfl⟩ | ⟨h2, rfl⟩
    · rw [h1] at h2; cases h2
    · simp
theorem eqFields_leaf {d dd : Nat} (IH : ∀ t l, leavesAt P d t = some l → EqOK P dd t l) (w : World) (xs ys : Array Value) : ∀ (fs : List Field) (off : Nat) (ls : List Leaf), leafFields P (leavesAt P d) fs off = some ls → fitsL ls (xs.toList.drop off) = true → fitsL ls (ys.toList.drop off) = true →
    ∃ r : Bool, (Op.eqFields dd xs ys fs).run P w = .ok r w ∧ (r = true ↔ xs.toList.drop off = ys.toList.drop off)
  | [], off, ls, h, hx, hy => by
    simp only [leafFields, Option.some.injEq] at h
    subst h
    have h1 := fitsL_len hx; have h2 := fitsL_len hy
    simp only [List.length_nil] at h1 h2
    refine ⟨true, by simp [Op.eqFields], ?_⟩
    rw [List.eq_nil_of_length_eq_zero h1, List.eq_nil_of_length_eq_zero h2]
    simp
  | f :: fs, off, ls, h, hx, hy => by
    unfold leafFields at h
    split at h
    · rename_i hof
      obtain ⟨rfl, hnm⟩ := hof
      split at h
      · rename_i l hl
        split at h
        · rename_i hc
          cases hr : leafFields P (leavesAt P d) fs (f.offset + l.length) with
          | none => rw [hr] at h; simp at h
          | some ls' =>
            rw [hr] at h
            simp only [Option.map_some, Option.some.injEq] at h
            subst h
            obtain ⟨x1, x2⟩ := fitsL_append hx
            obtain ⟨y1, y2⟩ := fitsL_append hy
            rw [List.drop_drop] at x2 y2
            obtain ⟨a, pa, sa, ea⟩ := run_part_leaf w hl hc x1
            obtain ⟨b, pb, sb, eb⟩ := run_part_leaf w hl hc y1
            obtain ⟨r, hr1, hr2⟩ := IH f.type l hl w a b sa sb
            have hab := part_eq_iff ea eb
            obtain ⟨r', hr1', hr2'⟩ := eqFields_leaf IH w xs ys fs (f.offset + l.length) ls' hr x2 y2
            have split2 : xs.toList.drop f.offset = ys.toList.drop f.offset ↔ ((xs.toList.drop f.offset).take l.length = (ys.toList.drop f.offset).take l.length ∧ xs.toList.drop (f.offset + l.length) = ys.toList.drop (f.offset + l.length)) := by
              constructor
              · intro h; rw [← List.drop_drop, ← List.drop_drop, h]; exact ⟨rfl, rfl⟩
              · rintro ⟨h1, h2⟩
                rw [← List.drop_drop, ← List.drop_drop] at h2
                rw [← List.take_append_drop l.length (xs.toList.drop f.offset), ← List.take_append_drop l.length (ys.toList.drop f.offset), h1, h2]
            have hn : ¬ f.name = "_" := hnm
            cases r with
            | false =>
              refine ⟨false, by simp [Op.eqFields, hn, pa, pb, hr1], ?_⟩
              simp only [Bool.false_eq_true, false_iff]
              intro he
              have := hr2.2 (hab.2 (split2.1 he).1)
              cases this
            | true =>
              refine ⟨r', by simp [Op.eqFields, hn, pa, pb, hr1, hr1'], ?_⟩
              rw [hr2', split2]
              exact ⟨fun h => ⟨hab.1 (hr2.1 rfl), h⟩, fun h => h.2⟩
        · cases h
      · cases h
    · cases h
theorem eqItems_leaf {d dd : Nat} {e : TypeId} {l : List Leaf} (hl : leavesAt P d e = some l) (hc : P.cellsOf e = l.length) (IH : EqOK P dd e l) (w : World) (xs ys : Array Value) : ∀ (js : List Nat), (∀ j ∈ js, fitsL l ((xs.toList.drop (j * l.length)).take l.length) = true ∧ fitsL l ((ys.toList.drop (j * l.length)).take l.length) = true) →
    ∃ r : Bool, (Op.eqItems dd e (P.cellsOf e) xs ys js).run P w = .ok r w ∧ (r = true ↔ ∀ j ∈ js, (xs.toList.drop (j * l.length)).take l.length = (ys.toList.drop (j * l.length)).take l.length)
  | [], _ => ⟨true, by simp [Op.eqItems], by simp⟩
  | j :: js, h => by
    obtain ⟨x1, y1⟩ := h j (List.mem_cons_self ..)
    obtain ⟨a, pa, sa, ea⟩ := run_part_leaf w hl hc x1
    obtain ⟨b, pb, sb, eb⟩ := run_part_leaf w hl hc y1
    obtain ⟨r, hr1, hr2⟩ := IH w a b sa sb
    have hab := part_eq_iff ea eb
    obtain ⟨r', hr1', hr2'⟩ := eqItems_leaf hl hc IH w xs ys js fun k hk => h k (List.mem_cons_of_mem _ hk)
    rw [hc] at hr1' ⊢
    cases r with
    | false =>
      refine ⟨false, by simp [Op.eqItems, pa, pb, hr1], ?_⟩
      simp only [Bool.false_eq_true, false_iff]
      intro he
      have := hr2.2 (hab.2 (he j (List.mem_cons_self ..)))
      cases this
    | true =>
      refine ⟨r', by simp [Op.eqItems, pa, pb, hr1, hr1'], ?_⟩
      rw [hr2']
      constructor
      · intro h k hk
        rcases List.mem_cons.1 hk with rfl | hk
        · exact hab.1 (hr2.1 rfl)
        · exact h k hk
      · exact fun h k hk => h k (List.mem_cons_of_mem _ hk)
theorem fits_rep : ∀ {n : Nat} {l : List Leaf} {vs : List Value}, fitsL (List.replicate n l).flatten vs = true → vs.length = n * l.length ∧ ∀ j, j < n → fitsL l ((vs.drop (j * l.length)).take l.length) = true
  | 0, l, vs, h => by
    have := fitsL_len h
    exact ⟨by simpa using this, by omega⟩
  | n + 1, l, vs, h => by
    rw [List.replicate_succ, List.flatten_cons] at h
    obtain ⟨h1, h2⟩ := fitsL_append h
    obtain ⟨h3, h4⟩ := fits_rep h2
    have h5 := fitsL_len h1
    rw [List.length_take] at h5
    rw [List.length_drop] at h3
    refine ⟨by rw [Nat.add_mul, Nat.one_mul]; omega, fun j hj => ?_⟩
    cases j with
    | zero => simpa using h1
    | succ j =>
      have := h4 j (by omega)
      rw [List.drop_drop] at this
      rwa [show (j + 1) * l.length = l.length + j * l.length by rw [Nat.add_mul, Nat.one_mul]; omega]
theorem chunks_eq {n m : Nat} {xs ys : List Value} (hx : xs.length = n * m) (hy : ys.length = n * m) (h : ∀ j, j < n → (xs.drop (j * m)).take m = (ys.drop (j * m)).take m) : xs = ys := by
  induction n generalizing xs ys with
  | zero =>
    have h1 : xs = [] := List.eq_nil_of_length_eq_zero (by simpa using hx)
    have h2 : ys = [] := List.eq_nil_of_length_eq_zero (by simpa using hy)
    rw [h1, h2]
  | succ n ih =>
    rw [Nat.add_mul, Nat.one_mul] at hx hy
    have h0 := h 0 (by omega)
    simp only [Nat.zero_mul, List.drop_zero] at h0
    have h1 := ih (xs := xs.drop m) (ys := ys.drop m) (by rw [List.length_drop]; omega) (by rw [List.length_drop]; omega) fun j hj => by
      have := h (j + 1) (by omega)
      rw [Nat.add_mul, Nat.one_mul, Nat.add_comm (j * m) m] at this
      rw [List.drop_drop, List.drop_drop]; exact this
    rw [← List.take_append_drop m xs, ← List.take_append_drop m ys, h0, h1]
theorem eq_leaf (d' : Nat) : ∀ (m : Nat) (t : TypeId) (ls : List Leaf), leavesAt P m t = some ls → EqOK P (d' + m) t ls
  | 0, t, ls, h => by simp [leavesAt] at h
  | m + 1, t, ls, h => by
    intro w x y hx hy
    cases hu : P.underlying t with
    | none => simp [leavesAt, hu] at h
    | some kd =>
      unfold Shp at hx hy
      rw [hu] at hx hy
      cases kd
      case bool =>
        simp only [leavesAt, hu, Option.some.injEq] at h; subst h
        simp only [isAggD, Bool.false_eq_true, if_false] at hx hy
        cases x <;> simp [fitsL, Leaf.fits] at hx
        cases y <;> simp [fitsL, Leaf.fits] at hy
        exact ⟨_, run_equalIn_bool' w (d' + m) t _ _ hu, by simp⟩
      case int k =>
        simp only [leavesAt, hu, Option.some.injEq] at h; subst h
        simp only [isAggD, Bool.false_eq_true, if_false] at hx hy
        cases x <;> simp [fitsL, Leaf.fits] at hx
        cases y <;> simp [fitsL, Leaf.fits] at hy
        subst hx; subst hy
        exact ⟨_, run_equalIn_int w (d' + m) t _ _ _ _ hu, by simp⟩
      case string =>
        simp only [leavesAt, hu, Option.some.injEq] at h; subst h
        simp only [isAggD, Bool.false_eq_true, if_false] at hx hy
        cases x <;> simp [fitsL, Leaf.fits] at hx
        cases y <;> simp [fitsL, Leaf.fits] at hy
        rename_i a b
        exact ⟨_, run_equalIn_string w (d' + m) t _ _ hu, by
          rw [beq_iff_eq, ByteArray.toList_eq, ByteArray.toList_eq]
          obtain ⟨⟨a⟩⟩ := a
          obtain ⟨⟨b⟩⟩ := b
          simp⟩
      case array n e =>
        simp only [isAggD, if_true] at hx hy
        obtain ⟨xs, rfl, fx⟩ := hx
        obtain ⟨ys, rfl, fy⟩ := hy
        unfold leavesAt at h
        simp only [hu] at h
        split at h
        · rename_i l hl
          split at h
          · rename_i hc
            simp only [Option.some.injEq] at h
            subst h
            obtain ⟨lx, hx⟩ := fits_rep fx
            obtain ⟨ly, hy⟩ := fits_rep fy
            have hpe : ∃ i, P.info? e = some i := by
              cases m with
              | zero => simp [leavesAt] at hl
              | succ m' =>
                cases hue : P.underlying e with
                | none => simp [leavesAt, hue] at hl
                | some _ => exact info_of_underlying hue
            obtain ⟨i, hi⟩ := hpe
            obtain ⟨r, hr1, hr2⟩ := eqItems_leaf hl hc (eq_leaf d' m e l hl) w xs ys (List.range n) fun j hj => ⟨hx j (List.mem_range.1 hj), hy j (List.mem_range.1 hj)⟩
            refine ⟨r, by rw [show d' + (m + 1) = (d' + m) + 1 from rfl, run_equalIn_array w (d' + m) xs ys hu hi]; exact hr1, ?_⟩
            rw [hr2]
            constructor
            · intro h
              have := chunks_eq lx ly fun j hj => h j (List.mem_range.2 hj)
              rw [Array.toList_inj.1 this]
            · intro h; cases h; exact fun _ _ => rfl
          · cases h
        · cases h
      case struct fs =>
        simp only [isAggD, if_true] at hx hy
        obtain ⟨xs, rfl, fx⟩ := hx
        obtain ⟨ys, rfl, fy⟩ := hy
        unfold leavesAt at h
        simp only [hu] at h
        split at h
        · cases h
        · rename_i hst
          have hfs : P.fieldsOf t = fs := by simp [Program.fieldsOf, hu]
          obtain ⟨r, hr1, hr2⟩ := eqFields_leaf (eq_leaf d' m) w xs ys fs.toList 0 ls h (by simpa using fx) (by simpa using fy)
          refine ⟨r, by rw [show d' + (m + 1) = (d' + m) + 1 from rfl, run_equalIn_struct w (d' + m) t xs ys (by rw [hfs]; exact hu) (by simpa using hst), hfs]; exact hr1, ?_⟩
          rw [hr2]
          simp only [List.drop_zero]
          constructor
          · intro h; rw [Array.toList_inj.1 h]
          · intro h; cases h; rfl
      all_goals (simp [leavesAt, hu] at h; done)
end
class TLeaf (P : Program) (t : Nat) (ls : outParam (List Leaf)) : Prop where
  ok : leavesAt P 20 t = some ls ∧ isAggD (P.underlying t) = true ∧ P.eqGuardType P.depth t = false
def unval : SV → Option Value
  | .val v => some v
  | _ => none
def unvals : List SV → Option (List Value)
  | [] => some []
  | s :: r => match unval s, unvals r with
    | some v, some vs => some (v :: vs)
    | _, _ => none
theorem unvals_rel {Z : Nat → Prop} {w : World} : ∀ {cs : List SV} {us vs : List Value}, unvals cs = some us → vs.length = cs.length → (∀ j, j < cs.length → Rel Z w (cs.getD j .any) (vs.getD j undef)) → vs = us
  | [], us, vs, h, hl, _ => by
    simp only [unvals, Option.some.injEq] at h
    subst h
    exact List.eq_nil_of_length_eq_zero (by simpa using hl)
  | s :: r, us, [], h, hl, _ => by simp at hl
  | s :: r, us, v :: vs, h, hl, hr => by
    simp only [unvals] at h
    cases hs : unval s with
    | none => rw [hs] at h; simp at h
    | some u =>
      cases ht : unvals r with
      | none => rw [hs, ht] at h; simp at h
      | some us' =>
        rw [hs, ht] at h
        simp only [Option.some.injEq] at h
        subst h
        have h0 := hr 0 (by simp)
        simp only [List.getD_cons_zero] at h0
        have hsv : s = .val u := by cases s <;> simp [unval] at hs; rw [hs]
        rw [hsv] at h0
        have h9 : vs = us' := unvals_rel ht (by simpa using hl) fun j hj => by simpa using hr (j + 1) (by simpa using hj)
        rw [h0.val_eq, h9]
section
variable {P : Program} {Γ : Ctx} {ops : Array Oper} {Q : Exit → Act → World → Prop} {F : List (Nat × SV)} {L : List Own} {rest : List Oper}
variable {dst : Option Tmp} {ty : TypeId} {pos : String} {aft : Array Edge} {g : Option (Nat × Bool)}
theorem agg_vals {Γ : Ctx} {L : List Own} {w : World} {cs : List SV} {us : List Value} {v : Value} (h : Rel (ZL Γ.Z L) w (.agg cs) v) (hu : unvals cs = some us) : v = .agg us.toArray := by
  cases h with
  | agg _ vs hl h1 hr => rw [unvals_rel hu hl hr]
theorem eqAg_run {t : TypeId} {ls : List Leaf} (h : TLeaf P t ls) {us vs : List Value} (hf : fitsL ls us = true) (hg : fitsL ls vs = true) (w : World) : ∃ r : Bool, (Op.equalIn 10000 t (.agg us.toArray) (.agg vs.toArray)).run P w = .ok r w ∧ (r = true ↔ us = vs) := by
  obtain ⟨h1, h2, _⟩ := h.ok
  obtain ⟨r, hr, hi⟩ := eq_leaf (P := P) 9980 20 t ls h1 w (.agg us.toArray) (.agg vs.toArray) (by unfold Shp; rw [if_pos h2]; exact ⟨_, rfl, by simpa using hf⟩) (by unfold Shp; rw [if_pos h2]; exact ⟨_, rfl, by simpa using hg⟩)
  exact ⟨r, hr, by rw [hi]; simp⟩
section
variable {t t2 : TypeId} {ls : List Leaf} [h : TLeaf P t ls] {x y : Operand} {cs ds : List SV} {us vs : List Value} (b : Bool)
theorem Pv.eqlAg (hx : ev F x = some (.agg cs)) (hy : ev F y = some (.agg ds)) (hu : unvals cs = some us) (hv : unvals ds = some vs) (hf : fitsL ls us = true) (hg : fitsL ls vs = true) (hb : b = true ↔ us = vs) :
    Pv P Γ F L ⟨dst, .binOp .eql t x y t2, ty, pos, aft, g⟩ (.val (.bool b)) := fun ρ w hst => by
  have e1 := agg_vals (hst.ev x (by simp [Op.operands]) _ hx) hu
  have e2 := agg_vals (hst.ev y (by simp [Op.operands]) _ hy) hv
  obtain ⟨r, hr, hi⟩ := eqAg_run h hf hg w
  have : r = b := by rw [Bool.eq_iff_iff, hi, hb]
  subst this
  exact ⟨_, by simp [execOp, e1, e2, run_eqGuard_agg w .eql t x y us.toArray vs.toArray h.ok.2.2, run_eql_struct, hr], .val _⟩
theorem Cx.eqlAg (hx : ev F x = some (.agg cs)) (hy : ev F y = some (.agg ds)) (hu : unvals cs = some us) (hv : unvals ds = some vs) (hf : fitsL ls us = true) (hg : fitsL ls vs = true) (hb : b = true ↔ us = vs) {d0 : Nat} {K : List (Nat × SV) → Prop} (hlt : Nat.blt d0 Γ.nt = true) (hr : SegC P Γ ops L ((d0, (.val (.bool b))) :: F) rest K) : SegC P Γ ops L F (⟨some d0, .binOp .eql t x y t2, ty, pos, aft, none⟩ :: rest) K :=
  SegC.q (Qs.pv (by apply Pv.eqlAg <;> assumption)) hlt hr
theorem Jx.eqlAg (hx : ev F x = some (.agg cs)) (hy : ev F y = some (.agg ds)) (hu : unvals cs = some us) (hv : unvals ds = some vs) (hf : fitsL ls us = true) (hg : fitsL ls vs = true) (hb : b = true ↔ us = vs) {d0 : Nat} (hlt : Nat.blt d0 Γ.nt = true) (k : J P Γ ops Q ((d0, (.val (.bool b))) :: F) L rest) : J P Γ ops Q F L (⟨some d0, .binOp .eql t x y t2, ty, pos, aft, none⟩ :: rest) :=
  J.pv (by apply Pv.eqlAg <;> assumption) hlt k
theorem Pv.neqAg (hx : ev F x = some (.agg cs)) (hy : ev F y = some (.agg ds)) (hu : unvals cs = some us) (hv : unvals ds = some vs) (hf : fitsL ls us = true) (hg : fitsL ls vs = true) (hb : b = true ↔ us = vs) :
    Pv P Γ F L ⟨dst, .binOp .neq t x y t2, ty, pos, aft, g⟩ (.val (.bool (!b))) := fun ρ w hst => by
  have e1 := agg_vals (hst.ev x (by simp [Op.operands]) _ hx) hu
  have e2 := agg_vals (hst.ev y (by simp [Op.operands]) _ hy) hv
  obtain ⟨r, hr, hi⟩ := eqAg_run h hf hg w
  have : r = b := by rw [Bool.eq_iff_iff, hi, hb]
  subst this
  exact ⟨_, by simp [execOp, e1, e2, run_eqGuard_agg w .neq t x y us.toArray vs.toArray h.ok.2.2, run_neq_struct, hr], .val _⟩
theorem Cx.neqAg (hx : ev F x = some (.agg cs)) (hy : ev F y = some (.agg ds)) (hu : unvals cs = some us) (hv : unvals ds = some vs) (hf : fitsL ls us = true) (hg : fitsL ls vs = true) (hb : b = true ↔ us = vs) {d0 : Nat} {K : List (Nat × SV) → Prop} (hlt : Nat.blt d0 Γ.nt = true) (hr : SegC P Γ ops L ((d0, (.val (.bool (!b)))) :: F) rest K) : SegC P Γ ops L F (⟨some d0, .binOp .neq t x y t2, ty, pos, aft, none⟩ :: rest) K :=
  SegC.q (Qs.pv (by apply Pv.neqAg <;> assumption)) hlt hr
end
end
end Go.Sse
namespace Go.Sse
open Go Go.Sse
set_option linter.unusedVariables false
set_option linter.unusedSimpArgs false
set_option maxRecDepth 10000
section
variable {P : Program} {Γ : Ctx} {ops : Array Oper} {Q : Exit → Act → World → Prop} {F : List (Nat × SV)} {L : List Own} {rest : List Oper}
variable {dst : Option Tmp} {ty : TypeId} {pos : String} {aft : Array Edge} {g : Option (Nat × Bool)}
theorem J.guardNoU {dst : Tmp} {op : Op} {ty : TypeId} {pos : String} {aft : Array Edge} {j d : Nat} {want b : Bool} {og : Oper}
    (ho : ops[j]? = some og) (hd : og.dst = some d) (hv : look F d = some (.val (.bool b))) (hb : b = !want) (hlt : Nat.blt dst Γ.nt = true)
    (h : J P Γ ops Q ((dst, .val undef) :: F) L rest) : J P Γ ops Q F L (⟨some dst, op, ty, pos, aft, some (j, want)⟩ :: rest) :=
  ⟨fun a w hst => by
    have hw := wanted_guard (o := ⟨some dst, op, ty, pos, aft, some (j, want)⟩) rfl ho hd (hst.fr d _ hv).val_eq
    unfold wpList
    rw [if_neg (by rw [hw]; subst hb; cases want <;> simp)]
    exact h.go _ _ (hst.put (Step.refl hst.ws) hlt (.val _))⟩
end
end Go.Sse
namespace Go.Sse
open Go Go.Sse
set_option linter.unusedVariables false
set_option linter.unusedSimpArgs false
set_option maxRecDepth 10000
section
variable {P : Program} {Γ : Ctx} {ops : Array Oper} {Q : Exit → Act → World → Prop} {F : List (Nat × SV)} {L : List Own} {rest : List Oper}
variable {dst : Option Tmp} {ty : TypeId} {pos : String} {aft : Array Edge} {g : Option (Nat × Bool)}
end
end Go.Sse
namespace Go.Sse
open Go Go.Sse
set_option linter.unusedVariables false
set_option linter.unusedSimpArgs false
set_option maxRecDepth 10000
def mapO (b : Nat) (kv : List (Value × Value)) : Own := .sem [b] (fun _ w => ∃ es clock, w.heap[b]? = some (.map es clock) ∧ es.toList.map (fun e => (e.key, e.val)) = kv)
theorem mapO_mk {Z : Nat → Prop} {w : World} {b : Nat} {kv : List (Value × Value)} {es : Array MapEntry} {clock : Nat} (h : w.heap[b]? = some (.map es clock)) (hk : es.toList.map (fun e => (e.key, e.val)) = kv) : (mapO b kv).holds Z w := by
  refine ⟨⟨es, clock, h, hk⟩, ?_, ?_⟩
  · rintro Z' w' hf _
    exact ⟨es, clock, (hf b (by simp)).trans h, hk⟩
  · intro b' hb'
    simp only [List.mem_singleton] at hb'
    subst hb'
    exact (Array.getElem?_eq_some_iff.1 h).1
class TZero (P : Program) (E : Nat) (zv : outParam Value) : Prop where ok : (P.info? E).bind (·.zero) = some zv
theorem run_zeroV {P : Program} {E : Nat} {zv : Value} (h : TZero P E zv) (w : World) : (zeroValue E).run P w = .ok zv w := by
  have h1 := h.ok
  cases hq : P.info? E with
  | none => simp [hq] at h1
  | some i =>
    rw [hq] at h1
    simp only [Option.bind_some] at h1
    simp [zeroValue, typeInfo, hq, h1]
def lk {α β : Type} [DecidableEq α] (l : List (α × β)) (k : α) : Option β := (l.find? (fun p => decide (p.1 = k))).map (·.2)
theorem sv_beq (a b : List UInt8) : ((⟨a.toArray⟩ : ByteArray) == ⟨b.toArray⟩) = decide (a = b) := by
  rw [beq_toListBytes, ByteArray.toList_eq, ByteArray.toList_eq]
  by_cases h : a = b
  · subst h; simp
  · rw [decide_eq_false h, beq_eq_false_iff_ne]; simpa using h
theorem findNow_str (k : List UInt8) : ∀ (es : List MapEntry) (l : List (List UInt8 × Value)) (i : Nat), es.map (fun e => (e.key, e.val)) = l.map (fun p => (sv p.1, p.2)) → ∃ r, Instr.findNow .string (sv k) es i = some r ∧ r.map (·.2) = lk l k
  | [], [], i, _ => ⟨none, rfl, rfl⟩
  | [], p :: l, i, h => by simp at h
  | e :: es, [], i, h => by simp at h
  | e :: es, p :: l, i, h => by
    simp only [List.map_cons, List.cons.injEq, Prod.mk.injEq] at h
    obtain ⟨⟨h1, h2⟩, h3⟩ := h
    have hs : Instr.sameNow .string (sv k) e.key = some (decide (p.1 = k)) := by
      rw [h1]
      show some ((⟨k.toArray⟩ : ByteArray) == ⟨p.1.toArray⟩) = _
      rw [sv_beq]
      congr 1
      exact decide_eq_decide.2 ⟨Eq.symm, Eq.symm⟩
    by_cases hk : p.1 = k
    · refine ⟨some (i, e.val), ?_, ?_⟩
      · simp [Instr.findNow, hs, hk]
      · simp [lk, hk, h2]
    · obtain ⟨r, hr1, hr2⟩ := findNow_str k es l (i + 1) h3
      refine ⟨r, ?_, ?_⟩
      · simp [Instr.findNow, hs, hk, hr1]
      · rw [hr2]; simp [lk, hk]
section
variable {P : Program} {Γ : Ctx} {ops : Array Oper} {Q : Exit → Act → World → Prop} {F : List (Nat × SV)} {L : List Own} {rest : List Oper}
variable {dst : Option Tmp} {ty : TypeId} {pos : String} {aft : Array Edge} {g : Option (Nat × Bool)}
theorem mapO_at {L : List Own} {Γ : Ctx} {w : World} {i b : Nat} {kv : List (Value × Value)} (h : WSt Γ L w) (hi : L[i]? = some (mapO b kv)) : ∃ es clock, w.heap[b]? = some (.map es clock) ∧ es.toList.map (fun e => (e.key, e.val)) = kv :=
  (h.holds _ (mem_of_idx hi)).1
theorem run_checkKey_str {K : Nat} [hK : TStr P K] (w : World) (e : Bool) (n : Nat) (k : List UInt8) : (Instr.checkKey e (n + 1) K (sv k)).run P w = .ok () w := by
  simp [Instr.checkKey, run_underlying hK.ok, sv]
theorem run_findKey_str {K : Nat} [hK : TStr P K] (w : World) (k : List UInt8) (es : List MapEntry) (l : List (List UInt8 × Value)) (h : es.map (fun e => (e.key, e.val)) = l.map (fun p => (sv p.1, p.2))) :
    ∃ r, (Instr.findKey K (sv k) es).run P w = .ok r w ∧ r.map (·.2) = lk l k := by
  obtain ⟨r, h1, h2⟩ := findNow_str k es l 0 h
  exact ⟨r, by simp [Instr.findKey, run_underlying hK.ok, h1], h2⟩
theorem Pv.lookupS {T K E : Nat} {zv : Value} [hT : TMap P T K E] [hK : TStr P K] [hI : TZero P E zv] {x y : Operand} {b : Nat} {k : List UInt8} {l : List (List UInt8 × Value)} (hx : ev F x = some (.val (.map (some b)))) (hy : ev F y = some (str k)) (i : Nat)
    (hi : L[i]? = some (mapO b (l.map fun p => (sv p.1, p.2)))) : Pv P Γ F L ⟨dst, .lookup T x y true, ty, pos, aft, g⟩ (.tup [.val ((lk l k).getD zv), bool (lk l k).isSome]) := fun ρ w hst => by
  obtain ⟨es, clock, hb, hk⟩ := mapO_at hst.ws hi
  have hxv := hst.evv (x := x) (by simp [Op.operands]) hx
  have hyv := hst.evv (x := y) (by simp [Op.operands]) hy
  obtain ⟨r, hr, hr2⟩ := run_findKey_str (P := P) (K := K) w k es.toList l hk
  have hv := run_zeroV hI w
  have hgo := run_getObj_map (P := P) (w := w) b es clock hb
  refine ⟨.tuple [(lk l k).getD zv, .bool (lk l k).isSome].toArray, ?_, .tup _ _ rfl fun j hj => ?_⟩
  · rw [← hr2]
    cases r with
    | none => simp [execOp, hxv, hyv, Instr.lookup, run_underlying hT.ok, hgo, run_checkKey_str, hr, hv]
    | some q => obtain ⟨q1, q2⟩ := q; simp [execOp, hxv, hyv, Instr.lookup, run_underlying hT.ok, hgo, run_checkKey_str, hr]
  · match j, hj with
    | 0, _ => exact .val _
    | 1, _ => exact .val _
theorem Cx.lookupS {T K E : Nat} {zv : Value} [hT : TMap P T K E] [hK : TStr P K] [hI : TZero P E zv] {x y : Operand} {b : Nat} {k : List UInt8} {l : List (List UInt8 × Value)} (hx : ev F x = some (.val (.map (some b)))) (hy : ev F y = some (str k)) (i : Nat)
    (hi : L[i]? = some (mapO b (l.map fun p => (sv p.1, p.2)))) {d0 : Nat} {K : List (Nat × SV) → Prop} (hlt : Nat.blt d0 Γ.nt = true) (hr : SegC P Γ ops L ((d0, (.tup [.val ((lk l k).getD zv), bool (lk l k).isSome])) :: F) rest K) : SegC P Γ ops L F (⟨some d0, .lookup T x y true, ty, pos, aft, none⟩ :: rest) K :=
  SegC.q (Qs.pv (by apply Pv.lookupS <;> assumption)) hlt hr
theorem Jx.lookupS {T K E : Nat} {zv : Value} [hT : TMap P T K E] [hK : TStr P K] [hI : TZero P E zv] {x y : Operand} {b : Nat} {k : List UInt8} {l : List (List UInt8 × Value)} (hx : ev F x = some (.val (.map (some b)))) (hy : ev F y = some (str k)) (i : Nat)
    (hi : L[i]? = some (mapO b (l.map fun p => (sv p.1, p.2)))) {d0 : Nat} (hlt : Nat.blt d0 Γ.nt = true) (k : J P Γ ops Q ((d0, (.tup [.val ((lk l k).getD zv), bool (lk l k).isSome])) :: F) L rest) : J P Γ ops Q F L (⟨some d0, .lookup T x y true, ty, pos, aft, none⟩ :: rest) :=
  J.pv (by apply Pv.lookupS <;> assumption) hlt k
theorem push_map {es : Array MapEntry} {k v : Value} {c : Nat} {kv : List (Value × Value)} (h : es.toList.map (fun e => (e.key, e.val)) = kv) : (es.push ⟨k, v, c⟩).toList.map (fun e => (e.key, e.val)) = kv ++ [(k, v)] := by
  rw [Array.toList_push, List.map_append, h]; rfl
theorem run_mapUpdateS {T K E : Nat} [hT : TMap P T K E] [hK : TStr P K] (w : World) (b : Nat) (es : Array MapEntry) (clock : Nat) (hb : w.heap[b]? = some (.map es clock)) (k : List UInt8) (v : Value) (l : List (List UInt8 × Value))
    (hk : es.toList.map (fun e => (e.key, e.val)) = l.map (fun p => (sv p.1, p.2))) (hn : lk l k = none) :
    (Instr.mapUpdate T (.map (some b)) (sv k) v).run P w = .ok () { w with heap := w.heap.setIfInBounds b (.map (es.push ⟨sv k, v, clock⟩) (clock + 1)) } := by
  obtain ⟨r, hr, hr2⟩ := run_findKey_str (P := P) (K := K) w k es.toList l hk
  have hgo := run_getObj_map (P := P) (w := w) b es clock hb
  have hso : (setObj b (.map (es.push ⟨sv k, v, clock⟩) (clock + 1))).run P w = .ok () { w with heap := w.heap.setIfInBounds b (.map (es.push ⟨sv k, v, clock⟩) (clock + 1)) } := by simp [setObj, Sem.run, hb]
  rw [hn] at hr2
  have hr0 : r = none := by cases r <;> simp_all
  subst hr0
  simp [Instr.mapUpdate, run_underlying hT.ok, hgo, run_checkKey_str, hr, hso]
theorem setMap_other (w : World) (b b' : Nat) (o : Obj) (h : b' ≠ b) : ({ w with heap := w.heap.setIfInBounds b o } : World).heap[b']? = w.heap[b']? := by
  show (w.heap.setIfInBounds b o)[b']? = _
  rw [Array.getElem?_setIfInBounds]
  simp [Ne.symm h]
theorem setMap_same {w : World} {b : Nat} {q : Obj} (o : Obj) (h : w.heap[b]? = some q) : ({ w with heap := w.heap.setIfInBounds b o } : World).heap[b]? = some o := by
  show (w.heap.setIfInBounds b o)[b]? = _
  have := (Array.getElem?_eq_some_iff.1 h).1
  rw [Array.getElem?_setIfInBounds]
  simp [this]
theorem Step.mapSet {w : World} {i b : Nat} {kv kv' : List (Value × Value)} {q : Obj} (h : WSt Γ L w) (hi : L[i]? = some (mapO b kv)) (hb : w.heap[b]? = some q) (es : Array MapEntry) (c : Nat) (hk : es.toList.map (fun e => (e.key, e.val)) = kv') : Step Γ L (L.set i (mapO b kv')) w { w with heap := w.heap.setIfInBounds b (.map es c) } :=
  Step.upd h hi rfl ⟨rfl, rfl, rfl, by simp⟩ (fun b' hb' => setMap_other w b b' _ (by simpa [Own.foot, mapO] using hb')) (mapO_mk (setMap_same _ hb) hk)
theorem OpS.mapUpdS {T K E : Nat} [hT : TMap P T K E] [hK : TStr P K] {x y z : Operand} {b : Nat} {k : List UInt8} {v : Value} {l : List (List UInt8 × Value)} (hx : ev F x = some (.val (.map (some b)))) (hy : ev F y = some (str k)) (hz : ev F z = some (.val v)) (i : Nat)
    (hi : L[i]? = some (mapO b (l.map fun p => (sv p.1, p.2)))) (hn : lk l k = none) : OpS P Γ ⟨dst, .mapUpdate T x y z, ty, pos, aft, g⟩ F L (fun _ L' => L' = L.set i (mapO b ((l ++ [(k, v)]).map fun p => (sv p.1, p.2)))) := by
  intro a w K' Q hst hK'
  obtain ⟨es, clock, hb, hk⟩ := mapO_at hst.ws hi
  have hrun := run_mapUpdateS (P := P) (T := T) w b es clock hb k v l hk hn
  unfold Oper.wp
  have he : (execOp a.eval ⟨dst, .mapUpdate T x y z, ty, pos, aft, g⟩).run P w = .ok .skip { w with heap := w.heap.setIfInBounds b (.map (es.push ⟨sv k, v, clock⟩) (clock + 1)) } := by
    simp [execOp, hst.evv hx, hst.evv hy, hst.evv hz, hrun]
  rw [he]
  exact hK' undef _ .any _ rfl (Step.mapSet hst.ws hi hb _ _ (by rw [push_map hk, List.map_append]; rfl)) (.any _)
theorem J.mapUpdS {T K E : Nat} [hT : TMap P T K E] [hK : TStr P K] {x y z : Operand} {b : Nat} {k : List UInt8} {v : Value} {l : List (List UInt8 × Value)} {L' : List Own} (hx : ev F x = some (.val (.map (some b)))) (hy : ev F y = some (str k)) (hz : ev F z = some (.val v)) (i : Nat)
    (hi : L[i]? = some (mapO b (l.map fun p => (sv p.1, p.2)))) (hn : lk l k = none) (hL : L.set i (mapO b ((l ++ [(k, v)]).map fun p => (sv p.1, p.2))) = L') (h : J P Γ ops Q F L' rest) : J P Γ ops Q F L (⟨none, .mapUpdate T x y z, ty, pos, aft, none⟩ :: rest) :=
  J.op0 (OpS.mapUpdS hx hy hz i hi hn) rfl rfl (by rintro s L'' rfl; rw [hL]; exact h)
theorem OpS.makeMap {T : Nat} : OpS P Γ ⟨dst, .makeMap T none, ty, pos, aft, g⟩ F L (fun s L' => ∃ b, s = .val (.map (some b)) ∧ L' = mapO b [] :: L) := by
  intro a w K' Q hst hK'
  unfold Oper.wp
  have he : (execOp a.eval ⟨dst, .makeMap T none, ty, pos, aft, g⟩).run P w = .ok (.value (.map (some w.heap.size))) (w.alloc (.map #[] 0)) := by
    simp [execOp, Instr.makeMap]
  rw [he]
  exact hK' _ _ _ _ ⟨w.heap.size, rfl, rfl⟩ (Step.alloc hst.ws _ _ rfl (mapO_mk (heap_alloc_new w _) rfl)) (.val _)
theorem J.makeMap {T d : Nat} (hlt : Nat.blt d Γ.nt = true) (k : ∀ b, J P Γ ops Q ((d, .val (.map (some b))) :: F) (mapO b [] :: L) rest) : J P Γ ops Q F L (⟨some d, .makeMap T none, ty, pos, aft, none⟩ :: rest) :=
  J.op OpS.makeMap rfl rfl hlt (by rintro s L' ⟨b, rfl, rfl⟩; exact k b)
end
end Go.Sse
namespace Go.Sse
open Go Go.Sse
set_option linter.unusedVariables false
set_option linter.unusedSimpArgs false
set_option maxRecDepth 10000
section
variable {P : Program} {Γ : Ctx} {ops : Array Oper} {Q : Exit → Act → World → Prop} {F : List (Nat × SV)} {L : List Own} {rest : List Oper}
variable {dst : Option Tmp} {ty : TypeId} {pos : String} {aft : Array Edge} {g : Option (Nat × Bool)}
theorem W.rowView {c : Code} {v : Value} {E sz n : Nat} {el : Nat → List SV} (i : Nat) (hi : L[i]? = some (.row v E sz n el)) (hn : 0 < n) (h : ∀ b cap, v = .slice (some ⟨b, 0, none⟩) n cap → n ≤ cap → cap ≤ maxLen → W P Γ Q F L c) : W P Γ Q F L c :=
  ⟨fun a w hst => by
    rcases hst.ws.holds _ (mem_of_idx hi) with ⟨_, h0⟩ | ⟨b, cap, cur, fz, hv, _, _, h1, h2, _⟩
    · omega
    · exact (h b cap hv h1 h2).go a w hst⟩
theorem Pv.indexRow {T E sz by' n cap : Nat} {z : List Value} [h : TSlice P T E] [hI : TInfo P E sz by' z] {x i : Operand} {k : IntKind} {b : Nat} {m : Int} (j : Nat) (hx : ev F x = some (.val (.slice (some ⟨b, 0, none⟩) n cap)))
    (hi : ev F i = some (.val (.int k m))) (hm : m = (j : Int)) (h1 : j < n) : Pv P Γ F L ⟨dst, .indexAddr T x i, ty, pos, aft, g⟩ (.val (.pointer (some ⟨b, j * sz, none⟩))) := fun ρ w hst => by
  subst hm
  have hxv := hst.evv (x := x) (by simp [Op.operands]) hx
  have hiv := hst.evv (x := i) (by simp [Op.operands]) hi
  have hs : (sizeOf E).run P w = .ok sz w := sizeOf_of (by have := hI.ok; cases hq : P.info? E <;> simp_all) w
  have h1' : (j : Int) < (n : Int) := by omega
  refine ⟨_, ?_, .val _⟩
  simp [execOp, hxv, hiv, Instr.indexAt, asIntOf, run_underlying h.ok, h1', hs, add_plain]
  intro hh; omega
theorem Cx.indexRow {T E sz by' n cap : Nat} {z : List Value} [h : TSlice P T E] [hI : TInfo P E sz by' z] {x i : Operand} {k : IntKind} {b : Nat} {m : Int} (j : Nat) (hx : ev F x = some (.val (.slice (some ⟨b, 0, none⟩) n cap)))
    (hi : ev F i = some (.val (.int k m))) (hm : m = (j : Int)) (h1 : j < n) {d0 : Nat} {K : List (Nat × SV) → Prop} (hlt : Nat.blt d0 Γ.nt = true) (hr : SegC P Γ ops L ((d0, (.val (.pointer (some ⟨b, j * sz, none⟩)))) :: F) rest K) : SegC P Γ ops L F (⟨some d0, .indexAddr T x i, ty, pos, aft, none⟩ :: rest) K :=
  SegC.q (Qs.pv (by apply Pv.indexRow <;> assumption)) hlt hr
theorem Jx.indexRow {T E sz by' n cap : Nat} {z : List Value} [h : TSlice P T E] [hI : TInfo P E sz by' z] {x i : Operand} {k : IntKind} {b : Nat} {m : Int} (j : Nat) (hx : ev F x = some (.val (.slice (some ⟨b, 0, none⟩) n cap)))
    (hi : ev F i = some (.val (.int k m))) (hm : m = (j : Int)) (h1 : j < n) {d0 : Nat} (hlt : Nat.blt d0 Γ.nt = true) (k : J P Γ ops Q ((d0, (.val (.pointer (some ⟨b, j * sz, none⟩)))) :: F) L rest) : J P Γ ops Q F L (⟨some d0, .indexAddr T x i, ty, pos, aft, none⟩ :: rest) :=
  J.pv (by apply Pv.indexRow <;> assumption) hlt k
theorem row_at {w : World} {i b n cap E sz : Nat} {el : Nat → List SV} (h : WSt Γ L w) (hi : L[i]? = some (.row (.slice (some ⟨b, 0, none⟩) n cap) E sz n el)) : ∃ cur fz, w.heap[b]? = some (.cells cur E fz) ∧ Unfrozen fz cur.size ∧ n ≤ cap ∧ cap ≤ maxLen ∧ cur.size = cap * sz ∧ (∀ u ∈ cur.toList, u.oneCell' = true) ∧ (∀ i, i < n → (el i).length = sz) ∧
      ∀ i j, i < n → j < sz → Rel (ZL Γ.Z L) w ((el i).getD j .any) (cur.toList.getD (i * sz + j) undef) := by
  rcases h.holds _ (mem_of_idx hi) with ⟨h0, _⟩ | ⟨b', cap', cur, fz, hv, hb, h1, h2, h3, h4, h5, h6, h7⟩
  · simp at h0
  · simp only [Value.slice.injEq, Option.some.injEq, Addr.mk.injEq, and_true, true_and] at hv
    obtain ⟨rfl, rfl⟩ := hv
    exact ⟨cur, fz, hb, h1, h2, h3, h4, h5, h6, h7⟩
theorem Pv.loadRowAg {T b o n cap E sz : Nat} [h : TAg P T sz] {x : Operand} (hx : ev F x = some (.val (.pointer (some ⟨b, o, none⟩)))) (i : Nat) {el : Nat → List SV} (hi : L[i]? = some (.row (.slice (some ⟨b, 0, none⟩) n cap) E sz n el)) (k : Nat) (ho : o = k * sz) (hk : k < n) {ds : List SV} (hs : el k = ds) :
    Pv P Γ F L ⟨dst, .load T x, ty, pos, aft, g⟩ (.agg ds) := fun ρ w hst => by
  subst ho; subst hs
  obtain ⟨cur, fz, hb, hu, h2, h3, h4, h5, h6, h7⟩ := row_at hst.ws hi
  have hle : k * sz + sz ≤ cur.size := by
    have e1 : (k + 1) * sz ≤ n * sz := Nat.mul_le_mul_right _ (by omega)
    have e2 : n * sz ≤ cap * sz := Nat.mul_le_mul_right _ h2
    rw [Nat.add_mul, Nat.one_mul] at e1
    omega
  have hlen : ((cur.toList.drop (k * sz)).take sz).length = sz := by simp only [List.length_take, List.length_drop, Array.length_toList]; omega
  have hrun := run_loadVar_agg h w b (k * sz) ((cur.toList.drop (k * sz)).take sz) hlen (fun j hj => by
    rw [obj_cell hb]
    have hlt : k * sz + j < cur.size := by omega
    simp only [List.getD_eq_getElem?_getD, List.getElem?_take, List.getElem?_drop, hj, if_true]
    simp [hlt])
  refine ⟨.agg ((cur.toList.drop (k * sz)).take sz).toArray, by simp only [execOp, hst.evv (x := x) (by simp [Op.operands]) hx, Instr.loadAt, Instr.sureAddr, Sem.run_bind, Sem.run_pure, Result.andThen_ok, hrun], .agg _ _ (by rw [hlen, h6 k hk]) (fun u hu => h5 u (List.mem_of_mem_drop (List.mem_of_mem_take hu))) fun j hj => ?_⟩
  rw [h6 k hk] at hj
  have := h7 k j hk hj
  have e : ((cur.toList.drop (k * sz)).take sz).getD j undef = cur.toList.getD (k * sz + j) undef := by
    simp only [List.getD_eq_getElem?_getD, List.getElem?_take, List.getElem?_drop, hj, if_true]
  rw [e]; exact this
theorem Cx.loadRowAg {T b o n cap E sz : Nat} [h : TAg P T sz] {x : Operand} (hx : ev F x = some (.val (.pointer (some ⟨b, o, none⟩)))) (i : Nat) {el : Nat → List SV} (hi : L[i]? = some (.row (.slice (some ⟨b, 0, none⟩) n cap) E sz n el)) (k : Nat) (ho : o = k * sz) (hk : k < n) {ds : List SV} (hs : el k = ds) {d0 : Nat} {K : List (Nat × SV) → Prop} (hlt : Nat.blt d0 Γ.nt = true) (hr : SegC P Γ ops L ((d0, (.agg ds)) :: F) rest K) : SegC P Γ ops L F (⟨some d0, .load T x, ty, pos, aft, none⟩ :: rest) K :=
  SegC.q (Qs.pv (by apply Pv.loadRowAg <;> assumption)) hlt hr
theorem Jx.loadRowAg {T b o n cap E sz : Nat} [h : TAg P T sz] {x : Operand} (hx : ev F x = some (.val (.pointer (some ⟨b, o, none⟩)))) (i : Nat) {el : Nat → List SV} (hi : L[i]? = some (.row (.slice (some ⟨b, 0, none⟩) n cap) E sz n el)) (k : Nat) (ho : o = k * sz) (hk : k < n) {ds : List SV} (hs : el k = ds) {d0 : Nat} (hlt : Nat.blt d0 Γ.nt = true) (k : J P Γ ops Q ((d0, (.agg ds)) :: F) L rest) : J P Γ ops Q F L (⟨some d0, .load T x, ty, pos, aft, none⟩ :: rest) :=
  J.pv (by apply Pv.loadRowAg <;> assumption) hlt k
theorem idx_split {sz i j i' j' : Nat} (hj : j < sz) (hj' : j' < sz) (h : i * sz + j = i' * sz + j') : i = i' ∧ j = j' := by
  rcases Nat.lt_trichotomy i i' with h1 | h1 | h1
  · have : (i + 1) * sz ≤ i' * sz := Nat.mul_le_mul_right _ h1
    rw [Nat.add_mul, Nat.one_mul] at this; omega
  · subst h1; exact ⟨rfl, by omega⟩
  · have : (i' + 1) * sz ≤ i * sz := Nat.mul_le_mul_right _ h1
    rw [Nat.add_mul, Nat.one_mul] at this; omega
end
end Go.Sse
namespace Go.Sse
open Go Go.Sse
set_option linter.unusedVariables false
set_option linter.unusedSimpArgs false
set_option maxRecDepth 10000
section
variable {P : Program} {Γ : Ctx} {ops : Array Oper} {Q : Exit → Act → World → Prop} {F : List (Nat × SV)} {L : List Own} {rest : List Oper}
variable {dst : Option Tmp} {ty : TypeId} {pos : String} {aft : Array Edge} {g : Option (Nat × Bool)}
end
end Go.Sse
namespace Go.Sse
open Go Go.Sse
set_option linter.unusedVariables false
set_option linter.unusedSimpArgs false
set_option maxRecDepth 10000
section
variable {P : Program} {Γ : Ctx} {l : List Oper} {Q : Exit → Act → World → Prop} {G : List (Nat × SV)} {L : List Own} {S idx : List Nat}
theorem JP.alloc {d E sz by' : Nat} {z : List Value} [h : TInfo P E sz by' z] {cs : List SV} {ty : TypeId} {pos : String} {aft : Array Edge} {g : Option (Nat × Bool)} (i : Nat) (ks S' idx' : List Nat) (hc : (okIdx l.toArray S idx && okStep l.toArray S idx i ks S' idx') = true)
    (hoi : l[i]? = some ⟨some d, .alloc E, ty, pos, aft, g⟩) (hre : SegC P Γ l.toArray L G (opsAt l idx) (Ag G idx.length)) (hz : z.map .val = cs) (h1 : z.all (·.oneCell') = true) (hlt : Nat.blt d Γ.nt = true)
    (k : ∀ b, JP P Γ l.toArray Q S' idx' ((d, .val (.pointer (some ⟨b, 0, none⟩))) :: G) (.obj b E cs :: L)) : JP P Γ l.toArray Q S idx G L :=
  JP.do1 i ks S' idx' hc hoi hre (OpS.newObj (ρ' := fun _ => True) (E := E) (cs := cs) (fun a w hst => by
    obtain ⟨v, hv, hc, _⟩ := run_zero h w
    refine ⟨z, ?_, hz ▸ RelL.vals z (by simpa [List.all_eq_true] using h1)⟩
    have : v.cells = z.toArray := by rw [← hc]
    simp [execOp, Instr.alloc, hv, newVar, newRow, this])) hlt (by rintro s L' ⟨b, rfl, rfl⟩; exact k b)
end
end Go.Sse
namespace Go.Sse
open Go Go.Sse
set_option linter.unusedVariables false
set_option linter.unusedSimpArgs false
set_option maxRecDepth 10000
theorem Sub.agg {cs ds : List SV} (h : SubL cs ds) : Sub (.agg cs) (.agg ds) := by
  intro Z w v hr
  obtain ⟨h1, h2⟩ := h.spec
  cases hr with
  | agg _ vs hl hone hrel => exact .agg ds vs (by omega) hone fun j hj => h2 j Z w _ (hrel j (by omega))
theorem SubL.refl : ∀ (cs : List SV), SubL cs cs
  | [] => .nil
  | s :: cs => .cons (Sub.refl s) (SubL.refl cs)
section
variable {P : Program} {Γ : Ctx} {ops : Array Oper} {Q : Exit → Act → World → Prop} {F : List (Nat × SV)} {L : List Own} {rest : List Oper}
variable {dst : Option Tmp} {ty : TypeId} {pos : String} {aft : Array Edge} {g : Option (Nat × Bool)}
theorem Pv.loadPPall {T n : Nat} [h : TAg P T n] {x : Operand} {cs : List SV} (hx : ev F x = some (.pp cs)) (hn' : Nat.beq cs.length n = true) : Pv P Γ F L ⟨dst, .load T x, ty, pos, aft, g⟩ (.agg cs) :=
  have hn : cs.length = n := Nat.eq_of_beq_eq_true hn'
  Pv.loadPPag hx (by rw [← hn, List.take_length]) hn
theorem Cx.loadPPall {T n : Nat} [h : TAg P T n] {x : Operand} {cs : List SV} (hx : ev F x = some (.pp cs)) (hn' : Nat.beq cs.length n = true) {d0 : Nat} {K : List (Nat × SV) → Prop} (hlt : Nat.blt d0 Γ.nt = true) (hr : SegC P Γ ops L ((d0, (.agg cs)) :: F) rest K) : SegC P Γ ops L F (⟨some d0, .load T x, ty, pos, aft, none⟩ :: rest) K :=
  SegC.q (Qs.pv (by apply Pv.loadPPall <;> assumption)) hlt hr
theorem Jx.loadPPall {T n : Nat} [h : TAg P T n] {x : Operand} {cs : List SV} (hx : ev F x = some (.pp cs)) (hn' : Nat.beq cs.length n = true) {d0 : Nat} (hlt : Nat.blt d0 Γ.nt = true) (k : J P Γ ops Q ((d0, (.agg cs)) :: F) L rest) : J P Γ ops Q F L (⟨some d0, .load T x, ty, pos, aft, none⟩ :: rest) :=
  J.pv (by apply Pv.loadPPall <;> assumption) hlt k
theorem Qs.buildOne {α : Type} {t E sz by' : Nat} {z : List Value} [ht : TSlice P t E] [hI : TInfo P E sz by' z] {x : Operand} {cs : List SV} (enc : α → List SV) (d a : α) (hx : ev F x = some (.agg cs)) (hcs' : Nat.beq cs.length sz = true) (he : enc a = cs)
    (hz' : Nat.beq z.length sz = true) (h0' : Nat.blt 0 sz = true) (hmax' : Nat.ble sz 16777216 = true) (hz1 : z.all (·.oneCell') = true) : Qs P Γ F L ⟨dst, .buildSlice t 1 [(0, x)].toArray, ty, pos, aft, g⟩ (.sl sz [a].length (elOf enc d [a])) := by
  have hcs := Nat.eq_of_beq_eq_true hcs'
  have hz := Nat.eq_of_beq_eq_true hz'
  have h0 : 0 < sz := Nat.le_of_ble_eq_true h0'
  have hmax := Nat.le_of_ble_eq_true hmax'
  refine (Qs.buildSlice (len := 1) (ss := [.agg cs]) (sz := sz) (z := z) (.cons hx .agg .nil) rfl (by intro s hs; simp only [List.mem_singleton] at hs; subst hs; exact hcs) hz (by omega) (by omega) hz1).sub ?_
  refine Sub.slOf (l := [a]) rfl fun i hi => ?_
  have : i = 0 := by omega
  subst this
  simp only [List.getD_cons_zero, cellsS]
  exact he.symm
end
end Go.Sse
namespace Go.Sse
open Go Go.Sse
set_option linter.unusedVariables false
set_option linter.unusedSimpArgs false
set_option maxRecDepth 10000
section
variable {P : Program} {Γ : Ctx} {ops : Array Oper} {Q : Exit → Act → World → Prop} {F : List (Nat × SV)} {L : List Own} {rest l : List Oper}
variable {dst : Option Tmp} {op : Op} {ty ty0 : TypeId} {pos pos0 : String} {aft aft0 : Array Edge} {g : Option (Nat × Bool)}
theorem J.gY {dst : Option Tmp} {op : Op} {ty : TypeId} {pos : String} {aft : Array Edge} {j d : Nat} {want b : Bool} {og : Oper}
    (ho : ops[j]? = some og) (hd : og.dst = some d) (hv : look F d = some (.val (.bool b)))
    (h : J P Γ ops Q F L (⟨dst, op, ty, pos, aft, none⟩ :: rest)) (hb : b = want := by first | rfl | assumption | (exact decide_eq_true (by first | assumption | omega | rfl)) | (exact decide_eq_false (by first | assumption | omega | rfl)) | (simp; done) | (simp; omega)) : J P Γ ops Q F L (⟨dst, op, ty, pos, aft, some (j, want)⟩ :: rest) := J.guardYes ho hd hv hb h
theorem J.gN {dst : Tmp} {op : Op} {ty : TypeId} {pos : String} {aft : Array Edge} {j d : Nat} {want b : Bool} {og : Oper}
    (ho : ops[j]? = some og) (hd : og.dst = some d) (hv : look F d = some (.val (.bool b))) (hlt : Nat.blt dst Γ.nt = true)
    (h : J P Γ ops Q ((dst, .val undef) :: F) L rest) (hb : b = !want := by first | rfl | assumption | (exact decide_eq_true (by first | assumption | omega | rfl)) | (exact decide_eq_false (by first | assumption | omega | rfl)) | (simp; done) | (simp; omega)) : J P Γ ops Q F L (⟨some dst, op, ty, pos, aft, some (j, want)⟩ :: rest) := J.guardNoU ho hd hv hb hlt h
theorem Jx.pT {c x y : Operand} {s : SV} {b : Bool} {d0 : Nat} (hc : ev F c = some (.val (.bool b))) (hx : ev F x = some s) (hlt : Nat.blt d0 Γ.nt = true) (k : J P Γ ops Q ((d0, s) :: F) L rest) (hb : b = true := by first | rfl | assumption | (exact decide_eq_true (by first | assumption | omega | rfl)) | (exact decide_eq_false (by first | assumption | omega | rfl)) | (simp; done) | (simp; omega)) :
    J P Γ ops Q F L (⟨some d0, .pick c x y, ty, pos, aft, none⟩ :: rest) := Jx.pickT hc hb hx hlt k
theorem Jx.pF {c x y : Operand} {s : SV} {b : Bool} {d0 : Nat} (hc : ev F c = some (.val (.bool b))) (hy : ev F y = some s) (hlt : Nat.blt d0 Γ.nt = true) (k : J P Γ ops Q ((d0, s) :: F) L rest) (hb : b = false := by first | rfl | assumption | (exact decide_eq_true (by first | assumption | omega | rfl)) | (exact decide_eq_false (by first | assumption | omega | rfl)) | (simp; done) | (simp; omega)) :
    J P Γ ops Q F L (⟨some d0, .pick c x y, ty, pos, aft, none⟩ :: rest) := Jx.pickF hc hb hy hlt k
theorem W.cT {c : Operand} {x y : Code} {b : Bool} (hc : ev F c = some (.val (.bool b))) (ht : W P Γ Q F L x) (hb : b = true := by first | rfl | assumption | (exact decide_eq_true (by first | assumption | omega | rfl)) | (exact decide_eq_false (by first | assumption | omega | rfl)) | (simp; done) | (simp; omega)) : W P Γ Q F L (.cond c x y) := W.condT hc hb ht
theorem W.cF {c : Operand} {x y : Code} {b : Bool} (hc : ev F c = some (.val (.bool b))) (hf : W P Γ Q F L y) (hb : b = false := by first | rfl | assumption | (exact decide_eq_true (by first | assumption | omega | rfl)) | (exact decide_eq_false (by first | assumption | omega | rfl)) | (simp; done) | (simp; omega)) : W P Γ Q F L (.cond c x y) := W.condF hc hb hf
theorem J.st {T b o : Nat} [h : TSc P T] {x y : Operand} {s : SV} (i : Nat) (hx : ev F x = some (.val (.pointer (some ⟨b, o, none⟩)))) (hy : ev F y = some s) {T' : TypeId} {cs cs' : List SV} {L' : List Own}
    (hi : L[i]? = some (.obj b T' cs)) (ho : Nat.blt o cs.length = true) (hcs : cs.set o s = cs') (hL : L.set i (.obj b T' cs') = L') (k : J P Γ ops Q F L' rest) (h1 : One s := by first | exact One.val rfl | exact One.sl | exact One.pp | exact One.slc) :
    J P Γ ops Q F L (⟨none, .store T x y, ty, pos, aft, none⟩ :: rest) := J.store hx hy h1 i hi ho hcs hL k
theorem SegC.gY {K : List (Nat × SV) → Prop} {dst : Option Tmp} {j e : Nat} {want b : Bool} {og : Oper}
    (hog : ops[j]? = some og) (hod : og.dst = some e) (hv : look F e = some (.val (.bool b))) (h : SegC P Γ ops L F (⟨dst, op, ty, pos, aft, none⟩ :: l) K) (hb : b = want := by first | rfl | assumption | (exact decide_eq_true (by first | assumption | omega | rfl)) | (exact decide_eq_false (by first | assumption | omega | rfl)) | (simp; done) | (simp; omega)) : SegC P Γ ops L F (⟨dst, op, ty, pos, aft, some (j, want)⟩ :: l) K := SegC.yes hog hod hv hb h
theorem SegC.gU {K : List (Nat × SV) → Prop} {d j e : Nat} {want b : Bool} {og : Oper}
    (hog : ops[j]? = some og) (hod : og.dst = some e) (hv : look F e = some (.val (.bool b))) (hlt : Nat.blt d Γ.nt = true) (hr : SegC P Γ ops L ((d, .val undef) :: F) l K) (hb : b = !want := by first | rfl | assumption | (exact decide_eq_true (by first | assumption | omega | rfl)) | (exact decide_eq_false (by first | assumption | omega | rfl)) | (simp; done) | (simp; omega)) : SegC P Γ ops L F (⟨some d, op, ty, pos, aft, some (j, want)⟩ :: l) K := SegC.noU hog hod hv hb hlt hr
end
section
variable {P : Program} {Γ : Ctx} {Q : Exit → Act → World → Prop} {F : List (Nat × SV)} {L : List Own} {α : Type}
end
section
variable {P : Program} {Γ : Ctx} {Q : Exit → Act → World → Prop} {F : List (Nat × SV)} {L : List Own} {α : Type}
end
end Go.Sse
namespace Go.Sse
open Go Go.Sse
set_option linter.unusedVariables false
set_option linter.unusedSimpArgs false
set_option maxRecDepth 10000
section
variable {P : Program} {Γ : Ctx} {Q : Exit → Act → World → Prop} {F : List (Nat × SV)} {L : List Own} {α : Type}
theorem N.noGotoRet (h : N Γ (Q .ret) F L) : N Γ (Exit.noGoto Q .ret) F L := ⟨fun a w hst => h.go a w hst⟩
end
section
variable {P : Program} {Γ : Ctx} {ops : Array Oper} {Q : Exit → Act → World → Prop} {F G : List (Nat × SV)} {L L' : List Own}
theorem JP.perm {S idx : List Nat} (hp : L.Perm L') (h : JP P Γ ops Q S idx G L') : JP P Γ ops Q S idx G L :=
  ⟨fun k listed a w hq hk => by
    have hin : ∀ b, inF L' b ↔ inF L b := fun b => (hp.flatMap_right _).mem_iff.symm
    exact h.go k listed a w ⟨hq.sz, hq.lo, hq.hi, hq.cl, hq.ws.perm hp, hq.nt, hq.df, fun x s hx hb => (hq.fr x s hx hb).stable fun b _ hn => ⟨rfl, fun hc => hn (by rcases hc with hc | hc; exact .inl hc; exact .inr ((hin b).1 hc))⟩⟩ hk⟩
end
end Go.Sse
namespace Go.Sse
open Go Go.Sse
set_option linter.unusedVariables false
set_option linter.unusedSimpArgs false
section
variable {P : Program} {Γ : Ctx} {ops : Array Oper} {Q : Exit → Act → World → Prop} {F : List (Nat × SV)} {L : List Own} {rest : List Oper}
variable {dst : Option Tmp} {ty : TypeId} {pos : String} {aft : Array Edge} {g : Option (Nat × Bool)}
end
end Go.Sse
namespace Go.Sse
open Go
set_option linter.unusedVariables false
set_option linter.unusedSimpArgs false
structure FnD (P : Program) [Gl P] (f : Nat) (args : List SV) (L : List Own) (R : SV → List Own → Prop) : Prop where
  go : ∀ (Z : Nat → Prop) (w : World) (vs : List Value), vs.length = args.length → (∀ j, j < args.length → Rel (ZL Z L) w (args.getD j .any) (vs.getD j undef)) →
    (∀ b, Z b → b < w.heap.size) → (foots L).Nodup → (∀ b, inF L b → ¬ Z b) → (∀ o ∈ L, o.holds (ZL Z L) w) →
    (∀ x ∈ Gl.gl P, x.1 < w.heap.size ∧ ¬ inF L x.1 ∧ ∀ i v, x.2[i]? = some v → w.cell? ⟨x.1, i, none⟩ = some v) → ∀ u, CallsD P f vs.toArray u w (fun e u' w' => u' = u ∧ RetP Z w L R e w')
instance {P : Program} [Gl P] {Z Fp : Nat → Prop} {w0 : World} {n : Nat} {d : Deferred} {df : List Deferred} [h : Globs P ⟨Z, w0, Fp, n, []⟩] : Globs P ⟨Z, w0, Fp, n, d :: df⟩ := ⟨h.ok⟩
theorem WSt.df {Z Fp : Nat → Prop} {w0 : World} {n : Nat} {df df' : List Deferred} {L : List Own} {w : World} (h : WSt ⟨Z, w0, Fp, n, df⟩ L w) : WSt ⟨Z, w0, Fp, n, df'⟩ L w :=
  ⟨h.os, h.tape, h.output, h.size, h.keep, h.zlt, h.nodup, h.foot, h.holds⟩
section
variable {P : Program} {ops : Array Oper} {Q : Exit → Act → World → Prop} {F : List (Nat × SV)} {L : List Own} {rest : List Oper} {Z Fp : Nat → Prop} {w0 : World} {n : Nat} {df : List Deferred}
variable {L0 : List Own} {R : SV → List Own → Prop} {fn : Func}
end
end Go.Sse
namespace Go.Sse
open Go Go.Sse
set_option linter.unusedVariables false
set_option linter.unusedSimpArgs false
set_option maxRecDepth 10000
def leafTy (P : Program) (t : TypeId) : Leaf → Bool
  | .b => match P.underlying t with | some .bool => true | _ => false
  | .i k => match P.underlying t with | some (.int k') => decide (k = k') | _ => false
  | .s => match P.underlying t with | some .string => true | _ => false
def flatF (P : Program) : List Field → Nat → List Leaf → Bool
  | [], _, [] => true
  | f :: fs, off, l :: ls => decide (f.offset = off) && (decide (f.name ≠ "_") && (leafTy P f.type l && flatF P fs (off + 1) ls))
  | _, _, _ => false
class TKey (P : Program) (K : Nat) (ls : outParam (List Leaf)) : Prop where
  leaf : TLeaf P K ls
  ok : (match P.underlying K with | some (.struct fs) => flatF P fs.toList 0 ls | _ => false) = true
theorem leaf_agg {P : Program} {t : TypeId} {l : Leaf} (h : leafTy P t l = true) (w : World) : (isAgg t).run P w = .ok false w := by
  cases l <;> simp only [leafTy] at h <;> split at h <;> first | (rename_i hu; simp [isAgg, run_underlying hu]) | (simp at h)
theorem leaf_check {P : Program} {t : TypeId} {l : Leaf} (h : leafTy P t l = true) (em : Bool) (n : Nat) (v : Value) (w : World) : (Instr.checkKey em (n + 1) t v).run P w = .ok () w := by
  cases l <;> simp only [leafTy] at h <;> split at h <;> first | (rename_i hu; simp [Instr.checkKey, run_underlying hu]) | (simp at h)
theorem fields_check {P : Program} (em : Bool) (n : Nat) (w : World) (cs : Array Value) : ∀ (fs : List Field) (off : Nat) (ls : List Leaf), flatF P fs off ls = true → off + ls.length ≤ cs.size →
    (forIn fs PUnit.unit fun f (r : PUnit) => do
      if f.name ≠ "_" then
        Instr.checkKey em (n + 1) f.type (← part f.type cs f.offset)
        pure (ForInStep.yield PUnit.unit)
      else pure (ForInStep.yield PUnit.unit) : Sem PUnit).run P w = .ok PUnit.unit w
  | [], off, [], _, _ => by simp
  | [], off, l :: ls, h, _ => by simp [flatF] at h
  | f :: fs, off, [], h, _ => by simp [flatF] at h
  | f :: fs, off, l :: ls, h, hl => by
    simp only [flatF, Bool.and_eq_true, decide_eq_true_eq] at h
    obtain ⟨h1, h2, h3, h4⟩ := h
    simp only [List.length_cons] at hl
    have hlt : f.offset < cs.size := by omega
    have hp : (part f.type cs f.offset).run P w = .ok cs[f.offset] w := by simp [part, leaf_agg h3, hlt]
    have ih := fields_check em n w cs fs (off + 1) ls h4 (by omega)
    simp only [List.forIn_cons, Sem.run_bind, h2, ne_eq, not_false_eq_true, if_true, hp, Result.andThen_ok, leaf_check h3, Sem.run_pure]
    exact ih
theorem run_checkKey_ag {P : Program} {K : Nat} {ls : List Leaf} (hK : TKey P K ls) (w : World) (e : Bool) (n : Nat) (k : List Value) (hf : fitsL ls k = true) : (Instr.checkKey e (n + 2) K (.agg k.toArray)).run P w = .ok () w := by
  have h := hK.ok
  split at h
  · rename_i fs hu
    have hl := fitsL_len hf
    have := fields_check (P := P) e n w k.toArray fs.toList 0 ls h (by simp [hl])
    rw [Instr.checkKey]
    simp only [Sem.run_bind, run_underlying hu, Result.andThen_ok]
    rw [← Array.forIn_toList]
    simp at this ⊢
    rw [this]
    rfl
  · cases h
section
variable {P : Program} {α : Type} [DecidableEq α] (enc : α → List Value) (inj : ∀ a b, enc a = enc b → a = b)
theorem run_findAsking_ag {K : Nat} {ls : List Leaf} (hK : TKey P K ls) (hfit : ∀ a, fitsL ls (enc a) = true) (inj : ∀ a b, enc a = enc b → a = b) (w : World) (k : α) : ∀ (es : List MapEntry) (l : List (α × Value)) (i : Nat), es.map (fun e => (e.key, e.val)) = l.map (fun p => (.agg (enc p.1).toArray, p.2)) →
    ∃ r, (Instr.findAsking K (.agg (enc k).toArray) es i).run P w = .ok r w ∧ r.map (·.2) = lk l k
  | [], [], i, _ => ⟨none, by simp [Instr.findAsking], rfl⟩
  | [], p :: l, i, h => by simp at h
  | e :: es, [], i, h => by simp at h
  | e :: es, p :: l, i, h => by
    simp only [List.map_cons, List.cons.injEq, Prod.mk.injEq] at h
    obtain ⟨⟨h1, h2⟩, h3⟩ := h
    obtain ⟨r, hr, hi⟩ := eqAg_run hK.leaf (hfit k) (hfit p.1) w
    have hr' : (Op.equal K (.agg (enc k).toArray) e.key).run P w = .ok r w := by rw [h1]; exact hr
    by_cases hk : p.1 = k
    · have : r = true := hi.2 (by rw [hk])
      subst this
      exact ⟨some (i, e.val), by simp [Instr.findAsking, hr'], by simp [lk, hk, h2]⟩
    · have : r = false := by
        cases r with
        | false => rfl
        | true => exact absurd (inj _ _ (hi.1 rfl)).symm hk
      subst this
      obtain ⟨q, hq1, hq2⟩ := run_findAsking_ag hK hfit inj w k es l (i + 1) h3
      exact ⟨q, by simp [Instr.findAsking, hr', hq1], by rw [hq2]; simp [lk, hk]⟩
theorem run_findKey_ag {K : Nat} {ls : List Leaf} (hK : TKey P K ls) (hfit : ∀ a, fitsL ls (enc a) = true) (inj : ∀ a b, enc a = enc b → a = b) (w : World) (k : α) (es : List MapEntry) (l : List (α × Value)) (h : es.map (fun e => (e.key, e.val)) = l.map (fun p => (.agg (enc p.1).toArray, p.2))) :
    ∃ r, (Instr.findKey K (.agg (enc k).toArray) es).run P w = .ok r w ∧ r.map (·.2) = lk l k := by
  obtain ⟨r, h1, h2⟩ := run_findAsking_ag enc hK hfit inj w k es l 0 h
  have hu := hK.ok
  split at hu
  · rename_i fs hfs
    cases es with
    | nil =>
      cases l with
      | nil => exact ⟨none, by simp [Instr.findKey, run_underlying hfs, Instr.findNow], rfl⟩
      | cons p l => simp at h
    | cons e es => exact ⟨r, by simp [Instr.findKey, run_underlying hfs, Instr.findNow, Instr.sameNow, h1], h2⟩
  · cases hu
end
section
variable {P : Program} {Γ : Ctx} {ops : Array Oper} {Q : Exit → Act → World → Prop} {F : List (Nat × SV)} {L : List Own} {rest : List Oper}
variable {dst : Option Tmp} {ty : TypeId} {pos : String} {aft : Array Edge} {g : Option (Nat × Bool)}
variable {α : Type} [DecidableEq α] (enc : α → List Value)
theorem Pv.lookupA {T K E : Nat} {zv : Value} {ls : List Leaf} [hT : TMap P T K E] [hK : TKey P K ls] [hI : TZero P E zv] (hfit : ∀ a, fitsL ls (enc a) = true) (inj : ∀ a b, enc a = enc b → a = b) {x y : Operand} {b : Nat} {k : α} {cs : List SV} {l : List (α × Value)} (hx : ev F x = some (.val (.map (some b)))) (hy : ev F y = some (.agg cs)) (hu : unvals cs = some (enc k)) (i : Nat)
    (hi : L[i]? = some (mapO b (l.map fun p => (.agg (enc p.1).toArray, p.2)))) : Pv P Γ F L ⟨dst, .lookup T x y true, ty, pos, aft, g⟩ (.tup [.val ((lk l k).getD zv), bool (lk l k).isSome]) := fun ρ w hst => by
  obtain ⟨es, clock, hb, hk⟩ := mapO_at hst.ws hi
  have hxv := hst.evv (x := x) (by simp [Op.operands]) hx
  have hyv : ρ y = .agg (enc k).toArray := agg_vals (hst.ev y (by simp [Op.operands]) _ hy) hu
  obtain ⟨r, hr, hr2⟩ := run_findKey_ag (P := P) (K := K) enc hK hfit inj w k es.toList l hk
  have hv := run_zeroV hI w
  have hgo := run_getObj_map (P := P) (w := w) b es clock hb
  have hck := fun e => run_checkKey_ag hK w e 9998 (enc k) (hfit k)
  refine ⟨.tuple [(lk l k).getD zv, .bool (lk l k).isSome].toArray, ?_, .tup _ _ rfl fun j hj => ?_⟩
  · rw [← hr2]
    cases r with
    | none => simp [execOp, hxv, hyv, Instr.lookup, run_underlying hT.ok, hgo, hck, hr, hv]
    | some q => obtain ⟨q1, q2⟩ := q; simp [execOp, hxv, hyv, Instr.lookup, run_underlying hT.ok, hgo, hck, hr]
  · match j, hj with
    | 0, _ => exact .val _
    | 1, _ => exact .val _
theorem Cx.lookupA {T K E : Nat} {zv : Value} {ls : List Leaf} [hT : TMap P T K E] [hK : TKey P K ls] [hI : TZero P E zv] (hfit : ∀ a, fitsL ls (enc a) = true) (inj : ∀ a b, enc a = enc b → a = b) {x y : Operand} {b : Nat} {k : α} {cs : List SV} {l : List (α × Value)} (hx : ev F x = some (.val (.map (some b)))) (hy : ev F y = some (.agg cs)) (hu : unvals cs = some (enc k)) (i : Nat)
    (hi : L[i]? = some (mapO b (l.map fun p => (.agg (enc p.1).toArray, p.2)))) {d0 : Nat} {K : List (Nat × SV) → Prop} (hlt : Nat.blt d0 Γ.nt = true) (hr : SegC P Γ ops L ((d0, (.tup [.val ((lk l k).getD zv), bool (lk l k).isSome])) :: F) rest K) : SegC P Γ ops L F (⟨some d0, .lookup T x y true, ty, pos, aft, none⟩ :: rest) K :=
  SegC.q (Qs.pv (by apply Pv.lookupA <;> assumption)) hlt hr
theorem run_mapUpdateA {T K E : Nat} {ls : List Leaf} [hT : TMap P T K E] [hK : TKey P K ls] (hfit : ∀ a, fitsL ls (enc a) = true) (inj : ∀ a b, enc a = enc b → a = b) (w : World) (b : Nat) (es : Array MapEntry) (clock : Nat) (hb : w.heap[b]? = some (.map es clock)) (k : α) (v : Value) (l : List (α × Value))
    (hk : es.toList.map (fun e => (e.key, e.val)) = l.map (fun p => (.agg (enc p.1).toArray, p.2))) (hn : lk l k = none) :
    (Instr.mapUpdate T (.map (some b)) (.agg (enc k).toArray) v).run P w = .ok () { w with heap := w.heap.setIfInBounds b (.map (es.push ⟨.agg (enc k).toArray, v, clock⟩) (clock + 1)) } := by
  obtain ⟨r, hr, hr2⟩ := run_findKey_ag (P := P) (K := K) enc hK hfit inj w k es.toList l hk
  have hgo := run_getObj_map (P := P) (w := w) b es clock hb
  have hck := run_checkKey_ag hK w false 9998 (enc k) (hfit k)
  have hso : (setObj b (.map (es.push ⟨.agg (enc k).toArray, v, clock⟩) (clock + 1))).run P w = .ok () { w with heap := w.heap.setIfInBounds b (.map (es.push ⟨.agg (enc k).toArray, v, clock⟩) (clock + 1)) } := by simp [setObj, Sem.run, hb]
  rw [hn] at hr2
  have hr0 : r = none := by cases r <;> simp_all
  subst hr0
  simp [Instr.mapUpdate, run_underlying hT.ok, hgo, hck, hr, hso]
theorem OpS.mapUpdA {T K E : Nat} {ls : List Leaf} [hT : TMap P T K E] [hK : TKey P K ls] (hfit : ∀ a, fitsL ls (enc a) = true) (inj : ∀ a b, enc a = enc b → a = b) {x y z : Operand} {b : Nat} {k : α} {cs : List SV} {v : Value} {l : List (α × Value)} (hx : ev F x = some (.val (.map (some b)))) (hy : ev F y = some (.agg cs)) (hu : unvals cs = some (enc k)) (hz : ev F z = some (.val v)) (i : Nat)
    (hi : L[i]? = some (mapO b (l.map fun p => (.agg (enc p.1).toArray, p.2)))) (hn : lk l k = none) : OpS P Γ ⟨dst, .mapUpdate T x y z, ty, pos, aft, g⟩ F L (fun _ L' => L' = L.set i (mapO b ((l ++ [(k, v)]).map fun p => (.agg (enc p.1).toArray, p.2)))) := by
  intro a w K' Q hst hK'
  obtain ⟨es, clock, hb, hk⟩ := mapO_at hst.ws hi
  have hyv : a.eval y = .agg (enc k).toArray := agg_vals (hst.ev hy) hu
  have hrun := run_mapUpdateA (P := P) (T := T) enc hfit inj w b es clock hb k v l hk hn
  unfold Oper.wp
  have he : (execOp a.eval ⟨dst, .mapUpdate T x y z, ty, pos, aft, g⟩).run P w = .ok .skip { w with heap := w.heap.setIfInBounds b (.map (es.push ⟨.agg (enc k).toArray, v, clock⟩) (clock + 1)) } := by
    simp [execOp, hst.evv hx, hyv, hst.evv hz, hrun]
  rw [he]
  exact hK' undef _ .any _ rfl (Step.mapSet hst.ws hi hb _ _ (by rw [push_map hk, List.map_append]; rfl)) (.any _)
theorem J.mapUpdA {T K E : Nat} {ls : List Leaf} [hT : TMap P T K E] [hK : TKey P K ls] (hfit : ∀ a, fitsL ls (enc a) = true) (inj : ∀ a b, enc a = enc b → a = b) {x y z : Operand} {b : Nat} {k : α} {cs : List SV} {v : Value} {l : List (α × Value)} {L' : List Own} (hx : ev F x = some (.val (.map (some b)))) (hy : ev F y = some (.agg cs)) (hu : unvals cs = some (enc k)) (hz : ev F z = some (.val v)) (i : Nat)
    (hi : L[i]? = some (mapO b (l.map fun p => (.agg (enc p.1).toArray, p.2)))) (hn : lk l k = none) (hL : L.set i (mapO b ((l ++ [(k, v)]).map fun p => (.agg (enc p.1).toArray, p.2))) = L') (h : J P Γ ops Q F L' rest) : J P Γ ops Q F L (⟨none, .mapUpdate T x y z, ty, pos, aft, none⟩ :: rest) :=
  J.op0 (OpS.mapUpdA enc hfit inj hx hy hu hz i hi hn) rfl rfl (by rintro s L'' rfl; rw [hL]; exact h)
theorem OpS.appendZ {t xt E sz by' m : Nat} {z : List Value} [ht : TSlice P t E] [hI : TInfo P E sz by' z] {s x : Operand} {el el2 : Nat → List SV}
    (hsv : ev (F := F) s = some (.slc sz 0 el)) (hx : SrcOK P Γ F L sz xt x m el2) (hz : z.length = sz) (hz1 : z.all (·.oneCell') = true) (h63 : m ≤ maxLen) (hb : m * by' ≤ 140737488355328) (hm : 0 < m) :
    OpS P Γ ⟨dst, .call { callee := .builtin .append, args := #[s, x], argTypes := #[t, xt] }, ty, pos, aft, g⟩ F L (fun u L' => ∃ v, v.oneCell' = true ∧ u = .val v ∧ L' = .row v E sz m el2 :: L) := by
  intro a w K Q hst hK
  have hws := hst.ws
  obtain ⟨news, hsrc, hnew⟩ := hx a.eval w hws (fun s hs => hst.ev hs)
  have hr := hst.ev hsv
  generalize hv : a.eval s = v at hr
  cases hr with
  | slc _ _ _ base hsl =>
    have hof : (Builtin.firstCells sz 0 (.slice base 0 0)).run P w.drew = .ok (([] : List Value).toArray) w.drew := by
      obtain ⟨nw, hs, hn⟩ := SrcOK.sl (P := P) (Γ := Γ) (F := [(0, .sl sz 0 el)]) (L := L) (xt := t) (E := E) (x := .tmp 0) (sz := sz) (m := 0) (el2 := el) rfl (fun _ => .slice base 0 0) w hws (by
        intro s hs; simp [ev, look] at hs; subst hs; exact hsl)
      have : nw = [] := List.eq_nil_of_length_eq_zero (by simpa using hs.nl)
      subst this
      exact hs.drew
    obtain ⟨c, rest', hc1, hc2, hc3, hc4, hrun⟩ := run_append_new (ty := ty) ht.ok hI hz hsrc base 0 0 hof (by simp) (by omega) (by omega) (by simpa using hb)
    have hexec : (execOp a.eval ⟨dst, .call { callee := .builtin .append, args := #[s, x], argTypes := #[t, xt] }, ty, pos, aft, g⟩).run P w = .ok (.value (.slice (some ⟨w.heap.size, 0, none⟩) (0 + m) c)) (w.drew.alloc (.cells ([] ++ news ++ rest').toArray E)) := by
      simp only [execOp, resolve, invoke, builtin, hv, List.map_toArray, List.map_cons, List.map_nil, Sem.run_bind, Sem.run_pure, Result.andThen_ok]
      first | (rw [hrun]; rfl) | (simp [hrun])
    unfold Oper.wp
    rw [hexec]
    simp only [Nat.zero_add, List.nil_append] at hc1 hc2 hc3 ⊢
    have hd2 : Step Γ L L w w.drew := Step.drew hws
    refine hK _ _ (.val _) (.row (.slice (some ⟨w.heap.size, 0, none⟩) m c) E sz m el2 :: L) ⟨_, rfl, rfl, rfl⟩ (hd2.trans (Step.alloc hd2.ws _ _ rfl (.inr ⟨w.heap.size, c, (news ++ rest').toArray, (0, 0), rfl, heap_alloc_new w.drew _, by intro i _; simp, hc1, hc2, by simp only [List.size_toArray]; exact hc3, fun u hu => ?_, hnew.1, fun i j hi hj => ?_⟩))) (.val _)
    · rcases List.mem_append.1 (by simpa using hu) with hu | hu
      · exact hsrc.one _ hu
      · exact (List.all_eq_true.1 hz1) _ (hc4 _ hu)
    · have hlt := idx_lt hi hj
      have e : (news ++ rest').toArray.toList.getD (i * sz + j) undef = news.getD (i * sz + j) undef := by
        simp only [List.getD_eq_getElem?_getD]
        rw [List.getElem?_append_left (by rw [hsrc.nl]; exact hlt)]
      rw [e]
      refine (hnew.2 i j hi hj).stable fun b hb hn => ⟨heap_alloc_old w.drew _ hb, ?_⟩
      rintro (h1 | h1)
      · exact hn (.inl h1)
      · simp only [inF, foots_cons, Own.foot, List.singleton_append, List.mem_cons] at h1
        rcases h1 with h1 | h1
        · have : b < w.heap.size := hb
          omega
        · exact hn (.inr h1)
theorem J.appendZ {α : Type} {d t xt E sz by' : Nat} {z : List Value} [ht : TSlice P t E] [hI : TInfo P E sz by' z] {s x : Operand} {el : Nat → List SV} {enc : α → List SV} {dd : α} {l : List α}
    (hsv : ev (F := F) s = some (.slc sz 0 el)) (hx : SrcOK P Γ F L sz xt x l.length (elOf enc dd l)) (hz : z.length = sz) (hz1 : z.all (·.oneCell') = true) (hb : l.length ≤ maxLen ∧ l.length * by' ≤ 140737488355328) (hm : 0 < l.length) (hlt : Nat.blt d Γ.nt = true)
    (k : ∀ v, v.oneCell' = true → J P Γ ops Q ((d, .val v) :: F) (.row v E sz l.length (elOf enc dd l) :: L) rest) : J P Γ ops Q F L (⟨some d, .call { callee := .builtin .append, args := #[s, x], argTypes := #[t, xt] }, ty, pos, aft, none⟩ :: rest) :=
  J.op (OpS.appendZ hsv hx hz hz1 hb.1 hb.2 hm) rfl rfl hlt (by rintro u L' ⟨v, hv, rfl, rfl⟩; exact k v hv)
end
end Go.Sse
namespace Go.Sse
open Go Go.Sse
set_option linter.unusedVariables false
set_option linter.unusedSimpArgs false
set_option maxRecDepth 10000
section
variable {P : Program} {Γ : Ctx} {ops : Array Oper} {Q : Exit → Act → World → Prop} {F : List (Nat × SV)} {L : List Own} {rest : List Oper}
variable {dst : Option Tmp} {ty : TypeId} {pos : String} {aft : Array Edge} {g : Option (Nat × Bool)}
theorem Pv.eqlNilSl {t t2 E : Nat} [ht : TSlice P t E] {x : Operand} {a : Option Addr} {n c : Nat} (hx : ev F x = some (.val (.slice a n c))) :
    Pv P Γ F L ⟨dst, .binOp .eql t x (.const (.slice none 0 0)) t2, ty, pos, aft, g⟩ (.val (.bool a.isNone)) :=
  fun ρ w hst => ⟨.bool a.isNone, by simp [execOp, hst.evv (by simp [Op.operands]) hx, hst.evv (x := .const (.slice none 0 0)) (by simp [Op.operands]) rfl, eqGuard_none (P := P) (w := w) (u := .slice a n c) rfl (by simp), Lib.run_eql_slice_nil w t E a n c 0 0 ht.ok], .val _⟩
theorem Jx.eqlNilSl {t t2 E : Nat} [ht : TSlice P t E] {x : Operand} {a : Option Addr} {n c : Nat} (hx : ev F x = some (.val (.slice a n c))) {d0 : Nat} (hlt : Nat.blt d0 Γ.nt = true) (k : J P Γ ops Q ((d0, (.val (.bool a.isNone))) :: F) L rest) : J P Γ ops Q F L (⟨some d0, .binOp .eql t x (.const (.slice none 0 0)) t2, ty, pos, aft, none⟩ :: rest) :=
  J.pv (by apply Pv.eqlNilSl <;> assumption) hlt k
theorem Qs.buildNone {t E sz by' : Nat} {z : List Value} [ht : TSlice P t E] [hI : TInfo P E sz by' z] (el : Nat → List SV) : Qs P Γ F L ⟨dst, .buildSlice t 0 #[], ty, pos, aft, g⟩ (.slc sz 0 el) := by
  intro a w K Q hws hops hK
  have hs : (sizeOf E).run P w = .ok sz w := sizeOf_of (by have := hI.ok; cases hq : P.info? E <;> simp_all) w
  have hexec : (execOp a.eval ⟨dst, .buildSlice t 0 #[], ty, pos, aft, g⟩).run P w = .ok (.value (.slice (some ⟨w.heap.size, 0, none⟩) 0 0)) (w.alloc (.cells #[] E)) := by
    simp [execOp, Instr.buildSlice, run_underlying ht.ok, hs, Instr.fill, newRow]
    exact congrArg (fun c => w.alloc (.cells c E)) (Array.eq_empty_of_size_eq_zero (by simp))
  unfold Oper.wp
  rw [hexec]
  refine hK _ _ (Step.alloc0 hws _) ?_
  exact .slc _ _ _ _ (.sl sz 0 el _ 0 (fun _ => undef) (Nat.le_refl _) (Nat.zero_le _) (.inl (by simp)) (by simp) (by simp) (by simp))
end
end Go.Sse
namespace Go.Sse
open Go Go.Sse
set_option linter.unusedVariables false
set_option linter.unusedSimpArgs false
set_option maxRecDepth 10000
theorem splice_getD {α : Type} (A us : List α) (o i : Nat) (d : α) (h : o + us.length ≤ A.length) : (A.take o ++ us ++ A.drop (o + us.length)).getD i d = if o ≤ i ∧ i < o + us.length then us.getD (i - o) d else A.getD i d := by
  have hl : (A.take o).length = o := by rw [List.length_take]; omega
  simp only [List.getD_eq_getElem?_getD]
  by_cases h1 : i < o
  · rw [List.append_assoc, List.getElem?_append_left (by omega), if_neg (by omega), List.getElem?_take, if_pos h1]
  · by_cases h2 : i < o + us.length
    · rw [List.getElem?_append_left (by rw [List.length_append, hl]; exact h2), List.getElem?_append_right (by omega), hl, if_pos (by omega)]
    · rw [List.getElem?_append_right (by rw [List.length_append, hl]; omega), List.length_append, hl, if_neg (by omega), List.getElem?_drop]
      congr 2; omega
section
variable {P : Program} {Γ : Ctx} {ops : Array Oper} {Q : Exit → Act → World → Prop} {F G : List (Nat × SV)} {L : List Own} {l rest : List Oper} {S idx : List Nat}
variable {dst : Option Tmp} {ty : TypeId} {pos : String} {aft : Array Edge} {g : Option (Nat × Bool)}
theorem OpS.storeRowAg {T b o n cap E sz : Nat} [h : TAg P T sz] {x y : Operand} {ds : List SV} (hx : ev F x = some (.val (.pointer (some ⟨b, o, none⟩)))) (hy : ev F y = some (.agg ds)) (hds : ds.length = sz) (i : Nat) {el el' : Nat → List SV} (hi : L[i]? = some (.row (.slice (some ⟨b, 0, none⟩) n cap) E sz n el)) (k : Nat) (ho : o = k * sz) (hk : k < n)
    (he1 : el' k = ds) (he2 : ∀ m, m < n → m ≠ k → el' m = el m) : OpS P Γ ⟨dst, .store T x y, ty, pos, aft, g⟩ F L (fun _ L' => L' = L.set i (.row (.slice (some ⟨b, 0, none⟩) n cap) E sz n el')) := by
  intro a w K' Q hst hK
  subst ho
  obtain ⟨cur, fz, hb, hu, h2, h3, h4, h5, h6, h7⟩ := row_at hst.ws hi
  have hle : k * sz + sz ≤ cur.size := by
    have e1 : (k + 1) * sz ≤ n * sz := Nat.mul_le_mul_right _ (by omega)
    have e2 : n * sz ≤ cap * sz := Nat.mul_le_mul_right _ h2
    rw [Nat.add_mul, Nat.one_mul] at e1
    omega
  have hrel := hst.ev hy
  generalize hv : a.eval y = v at hrel
  cases hrel with
  | agg _ us hl h1 hre =>
    have hus : us.length = sz := by omega
    have hrun := run_storeVar_ag h w b (k * sz) us hus h1 cur E fz hb (by omega) hu
    unfold Oper.wp
    have he : (execOp a.eval ⟨dst, .store T x y, ty, pos, aft, g⟩).run P w = .ok .skip (w.setRow b (cur.toList.take (k * sz) ++ us ++ cur.toList.drop (k * sz + us.length)).toArray) := by
      simp only [execOp, hst.evv hx, hv, Instr.storeAt, Instr.sureAddr, Sem.run_bind, Sem.run_pure, Result.andThen_ok, hrun]
    rw [he]
    have hsize : (cur.toList.take (k * sz) ++ us ++ cur.toList.drop (k * sz + us.length)).length = cur.size := by
      simp only [List.length_append, List.length_take, List.length_drop, Array.length_toList]; omega
    have hget := fun q => splice_getD cur.toList us (k * sz) q undef (by have : cur.toList.length = cur.size := Array.length_toList; omega)
    have hmem : ∀ u ∈ cur.toList.take (k * sz) ++ us ++ cur.toList.drop (k * sz + us.length), u.oneCell' = true := fun u hu => by
      rcases List.mem_append.1 hu with hu | hu
      · rcases List.mem_append.1 hu with hu | hu
        · exact h5 u (List.mem_of_mem_take hu)
        · exact h1 u hu
      · exact h5 u (List.mem_of_mem_drop hu)
    generalize cur.toList.take (k * sz) ++ us ++ cur.toList.drop (k * sz + us.length) = new at *
    have hstep : Step Γ L (L.set i (.row (.slice (some ⟨b, 0, none⟩) n cap) E sz n el')) w (w.setRow b new.toArray) := by
      have hstab : ∀ b', b' < w.heap.size → ¬ ZL Γ.Z L b' → (w.setRow b new.toArray).heap[b']? = w.heap[b']? ∧ ¬ ZL Γ.Z L b' := fun b' _ hn => ⟨setRow_other w b b' _ (fun e => hn (.inr (by subst e; exact List.mem_flatMap.2 ⟨_, mem_of_idx hi, by simp [Own.foot]⟩))), hn⟩
      refine Step.upd hst.ws hi rfl ⟨rfl, rfl, rfl, by simp⟩ (fun b' hb' => setRow_other w b b' _ (by simpa [Own.foot] using hb')) ?_
      refine .inr ⟨b, cap, new.toArray, fz, rfl, setRow_heap w b cur _ E fz hb, by simp only [List.size_toArray, hsize]; exact hu, h2, h3, by simp only [List.size_toArray, hsize]; exact h4, fun u hu' => hmem u (by simpa using hu'), ?_, ?_⟩
      · intro m hm
        by_cases e : m = k
        · subst e; rw [he1, hds]
        · rw [he2 m hm e]; exact h6 m hm
      · intro m q hm hq
        show Rel _ _ _ (new.getD (m * sz + q) undef)
        rw [hget]
        by_cases e : m = k
        · subst e
          rw [if_pos (by omega), he1, show m * sz + q - m * sz = q by omega]
          exact (hre q (by omega)).stable hstab
        · rw [he2 m hm e, if_neg]
          · exact (h7 m q hm hq).stable hstab
          · rintro ⟨e1, e2⟩
            have := idx_split (i := m) (j := q) (i' := k) (j' := m * sz + q - k * sz) hq (by omega) (by omega)
            exact e this.1
    exact hK undef _ .any _ rfl hstep (.any _)
theorem J.storeRowAgL {α : Type} {T b o cap E sz : Nat} [h : TAg P T sz] {x y : Operand} {ds : List SV} {enc : α → List SV} {d : α} {ll : List α} (k : Nat) (a' : α) (hx : ev F x = some (.val (.pointer (some ⟨b, o, none⟩)))) (hy : ev F y = some (.agg ds)) (hds : Nat.beq ds.length sz = true) (i : Nat)
    (hi : L[i]? = some (.row (.slice (some ⟨b, 0, none⟩) ll.length cap) E sz ll.length (elOf enc d ll))) (ho : o = k * sz) (hk : k < ll.length) (he : enc a' = ds) {L' : List Own}
    (hL : L.set i (.row (.slice (some ⟨b, 0, none⟩) ll.length cap) E sz ll.length (elOf enc d (ll.set k a'))) = L') (kk : J P Γ ops Q F L' rest) : J P Γ ops Q F L (⟨none, .store T x y, ty, pos, aft, none⟩ :: rest) :=
  J.op0 (OpS.storeRowAg (el' := elOf enc d (ll.set k a')) hx hy (Nat.eq_of_beq_eq_true hds) i hi k ho hk (by simp [elOf, List.getD_eq_getElem?_getD, List.getElem?_set, hk] at he ⊢; exact he) (fun m hm hne => by simp [elOf, List.getD_eq_getElem?_getD, List.getElem?_set, Ne.symm hne])) rfl rfl (by rintro s L'' rfl; rw [hL]; exact kk)
end
end Go.Sse
namespace Go.Proofs.YtafefapbiekmbaaDoor
open Go Go.Sse
set_option linter.unusedVariables false
instance : TSc Tryd.prog 0 := ⟨by kernel_rfl, by kernel_rfl⟩
instance : TSc Tryd.prog 1 := ⟨by kernel_rfl, by kernel_rfl⟩
instance : TInfo Tryd.prog 1 1 8 [.nilFunc] := ⟨by kernel_rfl⟩
instance : TInt Tryd.prog 2 .i64 := ⟨by kernel_rfl⟩
instance : TSc Tryd.prog 2 := ⟨by kernel_rfl, by kernel_rfl⟩
instance : TInfo Tryd.prog 2 1 8 [.int .i64 0] := ⟨by kernel_rfl⟩
instance : TInt Tryd.prog 3 .i64 := ⟨by kernel_rfl⟩
instance : TSc Tryd.prog 3 := ⟨by kernel_rfl, by kernel_rfl⟩
instance : TInfo Tryd.prog 3 1 8 [.int .i64 0] := ⟨by kernel_rfl⟩
instance : TBool Tryd.prog 4 := ⟨by kernel_rfl⟩
instance : TSc Tryd.prog 4 := ⟨by kernel_rfl, by kernel_rfl⟩
instance : TInfo Tryd.prog 4 1 1 [.bool false] := ⟨by kernel_rfl⟩
instance : TInt Tryd.prog 5 .u8 := ⟨by kernel_rfl⟩
instance : TSc Tryd.prog 5 := ⟨by kernel_rfl, by kernel_rfl⟩
instance : TInfo Tryd.prog 5 1 1 [.int .u8 0] := ⟨by kernel_rfl⟩
instance : TInt Tryd.prog 6 .u8 := ⟨by kernel_rfl⟩
instance : TSc Tryd.prog 6 := ⟨by kernel_rfl, by kernel_rfl⟩
instance : TInfo Tryd.prog 6 1 1 [.int .u8 0] := ⟨by kernel_rfl⟩
instance : TFld Tryd.prog 7 0 0 2 1 := ⟨by kernel_rfl, by decide⟩
instance : TFld Tryd.prog 7 1 1 3 1 := ⟨by kernel_rfl, by decide⟩
instance : TFld Tryd.prog 7 2 2 4 1 := ⟨by kernel_rfl, by decide⟩
instance : TFld Tryd.prog 7 3 3 6 1 := ⟨by kernel_rfl, by decide⟩
instance : TBuild Tryd.prog 7 [(0, 1), (1, 1), (2, 1), (3, 1)] := ⟨by kernel_rfl⟩
instance : TAg Tryd.prog 7 4 := ⟨by kernel_rfl, by kernel_rfl⟩
instance : TLeaf Tryd.prog 7 [.i .i64, .i .i64, .b, .i .u8] := ⟨by kernel_rfl, by kernel_rfl, by kernel_rfl⟩
instance : TInfo Tryd.prog 7 4 24 [.int .i64 0, .int .i64 0, .bool false, .int .u8 0] := ⟨by kernel_rfl⟩
instance : TFld Tryd.prog 8 0 0 2 1 := ⟨by kernel_rfl, by decide⟩
instance : TFld Tryd.prog 8 1 1 3 1 := ⟨by kernel_rfl, by decide⟩
instance : TFld Tryd.prog 8 2 2 4 1 := ⟨by kernel_rfl, by decide⟩
instance : TFld Tryd.prog 8 3 3 6 1 := ⟨by kernel_rfl, by decide⟩
instance : TBuild Tryd.prog 8 [(0, 1), (1, 1), (2, 1), (3, 1)] := ⟨by kernel_rfl⟩
instance : TAg Tryd.prog 8 4 := ⟨by kernel_rfl, by kernel_rfl⟩
instance : TLeaf Tryd.prog 8 [.i .i64, .i .i64, .b, .i .u8] := ⟨by kernel_rfl, by kernel_rfl, by kernel_rfl⟩
instance : TInfo Tryd.prog 8 4 24 [.int .i64 0, .int .i64 0, .bool false, .int .u8 0] := ⟨by kernel_rfl⟩
instance : TStr Tryd.prog 9 := ⟨by kernel_rfl⟩
instance : TSc Tryd.prog 9 := ⟨by kernel_rfl, by kernel_rfl⟩
instance : TInfo Tryd.prog 9 1 16 [.string ⟨#[]⟩] := ⟨by kernel_rfl⟩
instance : TStr Tryd.prog 10 := ⟨by kernel_rfl⟩
instance : TSc Tryd.prog 10 := ⟨by kernel_rfl, by kernel_rfl⟩
instance : TInfo Tryd.prog 10 1 16 [.string ⟨#[]⟩] := ⟨by kernel_rfl⟩
instance : TStr Tryd.prog 11 := ⟨by kernel_rfl⟩
instance : TSc Tryd.prog 11 := ⟨by kernel_rfl, by kernel_rfl⟩
instance : TInfo Tryd.prog 11 1 16 [.string ⟨#[]⟩] := ⟨by kernel_rfl⟩
instance : TInt Tryd.prog 12 .u64 := ⟨by kernel_rfl⟩
instance : TSc Tryd.prog 12 := ⟨by kernel_rfl, by kernel_rfl⟩
instance : TInfo Tryd.prog 12 1 8 [.int .u64 0] := ⟨by kernel_rfl⟩
instance : TFld Tryd.prog 13 0 0 9 1 := ⟨by kernel_rfl, by decide⟩
instance : TFld Tryd.prog 13 1 1 12 1 := ⟨by kernel_rfl, by decide⟩
instance : TBuild Tryd.prog 13 [(0, 1), (1, 1)] := ⟨by kernel_rfl⟩
instance : TAg Tryd.prog 13 2 := ⟨by kernel_rfl, by kernel_rfl⟩
instance : TInfo Tryd.prog 13 2 24 [.string ⟨#[]⟩, .int .u64 0] := ⟨by kernel_rfl⟩
instance : TFld Tryd.prog 14 0 0 9 1 := ⟨by kernel_rfl, by decide⟩
instance : TFld Tryd.prog 14 1 1 12 1 := ⟨by kernel_rfl, by decide⟩
instance : TBuild Tryd.prog 14 [(0, 1), (1, 1)] := ⟨by kernel_rfl⟩
instance : TAg Tryd.prog 14 2 := ⟨by kernel_rfl, by kernel_rfl⟩
instance : TInfo Tryd.prog 14 2 24 [.string ⟨#[]⟩, .int .u64 0] := ⟨by kernel_rfl⟩
instance : TPtr Tryd.prog 15 91 := ⟨by kernel_rfl⟩
instance : TSc Tryd.prog 15 := ⟨by kernel_rfl, by kernel_rfl⟩
instance : TInfo Tryd.prog 15 1 8 [.pointer none] := ⟨by kernel_rfl⟩
instance : TPtr Tryd.prog 16 94 := ⟨by kernel_rfl⟩
instance : TSc Tryd.prog 16 := ⟨by kernel_rfl, by kernel_rfl⟩
instance : TInfo Tryd.prog 16 1 8 [.pointer none] := ⟨by kernel_rfl⟩
instance : TPtr Tryd.prog 17 103 := ⟨by kernel_rfl⟩
instance : TSc Tryd.prog 17 := ⟨by kernel_rfl, by kernel_rfl⟩
instance : TInfo Tryd.prog 17 1 8 [.pointer none] := ⟨by kernel_rfl⟩
instance : TFld Tryd.prog 18 0 0 17 1 := ⟨by kernel_rfl, by decide⟩
instance : TBuild Tryd.prog 18 [(0, 1)] := ⟨by kernel_rfl⟩
instance : TAg Tryd.prog 18 1 := ⟨by kernel_rfl, by kernel_rfl⟩
instance : TInfo Tryd.prog 18 1 8 [.pointer none] := ⟨by kernel_rfl⟩
instance : TFld Tryd.prog 19 0 0 17 1 := ⟨by kernel_rfl, by decide⟩
instance : TBuild Tryd.prog 19 [(0, 1)] := ⟨by kernel_rfl⟩
instance : TAg Tryd.prog 19 1 := ⟨by kernel_rfl, by kernel_rfl⟩
instance : TInfo Tryd.prog 19 1 8 [.pointer none] := ⟨by kernel_rfl⟩
instance : TSc Tryd.prog 20 := ⟨by kernel_rfl, by kernel_rfl⟩
instance : TInfo Tryd.prog 20 1 16 [.nilIface] := ⟨by kernel_rfl⟩
instance : TInt Tryd.prog 21 .i32 := ⟨by kernel_rfl⟩
instance : TSc Tryd.prog 21 := ⟨by kernel_rfl, by kernel_rfl⟩
instance : TInfo Tryd.prog 21 1 4 [.int .i32 0] := ⟨by kernel_rfl⟩
instance : TSlice Tryd.prog 22 28 := ⟨by kernel_rfl⟩
instance : TSc Tryd.prog 22 := ⟨by kernel_rfl, by kernel_rfl⟩
instance : TInfo Tryd.prog 22 1 24 [.slice none 0 0] := ⟨by kernel_rfl⟩
instance : TSc Tryd.prog 23 := ⟨by kernel_rfl, by kernel_rfl⟩
instance : TInfo Tryd.prog 23 1 8 [.nilFunc] := ⟨by kernel_rfl⟩
instance : TPtr Tryd.prog 24 57 := ⟨by kernel_rfl⟩
instance : TSc Tryd.prog 24 := ⟨by kernel_rfl, by kernel_rfl⟩
instance : TInfo Tryd.prog 24 1 8 [.pointer none] := ⟨by kernel_rfl⟩
instance : TSc Tryd.prog 25 := ⟨by kernel_rfl, by kernel_rfl⟩
instance : TSc Tryd.prog 26 := ⟨by kernel_rfl, by kernel_rfl⟩
instance : TInfo Tryd.prog 26 1 8 [.nilFunc] := ⟨by kernel_rfl⟩
instance : TFld Tryd.prog 27 0 0 3 1 := ⟨by kernel_rfl, by decide⟩
instance : TFld Tryd.prog 27 1 1 9 1 := ⟨by kernel_rfl, by decide⟩
instance : TFld Tryd.prog 27 2 2 9 1 := ⟨by kernel_rfl, by decide⟩
instance : TBuild Tryd.prog 27 [(0, 1), (1, 1), (2, 1)] := ⟨by kernel_rfl⟩
instance : TAg Tryd.prog 27 3 := ⟨by kernel_rfl, by kernel_rfl⟩
instance : TLeaf Tryd.prog 27 [.i .i64, .s, .s] := ⟨by kernel_rfl, by kernel_rfl, by kernel_rfl⟩
instance : TInfo Tryd.prog 27 3 40 [.int .i64 0, .string ⟨#[]⟩, .string ⟨#[]⟩] := ⟨by kernel_rfl⟩
instance : TFld Tryd.prog 28 0 0 3 1 := ⟨by kernel_rfl, by decide⟩
instance : TFld Tryd.prog 28 1 1 9 1 := ⟨by kernel_rfl, by decide⟩
instance : TFld Tryd.prog 28 2 2 9 1 := ⟨by kernel_rfl, by decide⟩
instance : TBuild Tryd.prog 28 [(0, 1), (1, 1), (2, 1)] := ⟨by kernel_rfl⟩
instance : TAg Tryd.prog 28 3 := ⟨by kernel_rfl, by kernel_rfl⟩
instance : TLeaf Tryd.prog 28 [.i .i64, .s, .s] := ⟨by kernel_rfl, by kernel_rfl, by kernel_rfl⟩
instance : TInfo Tryd.prog 28 3 40 [.int .i64 0, .string ⟨#[]⟩, .string ⟨#[]⟩] := ⟨by kernel_rfl⟩
instance : TSc Tryd.prog 29 := ⟨by kernel_rfl, by kernel_rfl⟩
instance : TSc Tryd.prog 30 := ⟨by kernel_rfl, by kernel_rfl⟩
instance : TInfo Tryd.prog 30 1 8 [.nilFunc] := ⟨by kernel_rfl⟩
instance : TSc Tryd.prog 31 := ⟨by kernel_rfl, by kernel_rfl⟩
instance : TInfo Tryd.prog 31 1 8 [.nilFunc] := ⟨by kernel_rfl⟩
instance : TSc Tryd.prog 32 := ⟨by kernel_rfl, by kernel_rfl⟩
instance : TInfo Tryd.prog 32 1 8 [.nilFunc] := ⟨by kernel_rfl⟩
instance : TInt Tryd.prog 33 .i64 := ⟨by kernel_rfl⟩
instance : TSc Tryd.prog 33 := ⟨by kernel_rfl, by kernel_rfl⟩
instance : TInfo Tryd.prog 33 1 8 [.int .i64 0] := ⟨by kernel_rfl⟩
instance : TSc Tryd.prog 34 := ⟨by kernel_rfl, by kernel_rfl⟩
instance : TInfo Tryd.prog 34 1 8 [.nilFunc] := ⟨by kernel_rfl⟩
instance : TSc Tryd.prog 35 := ⟨by kernel_rfl, by kernel_rfl⟩
instance : TInfo Tryd.prog 35 1 8 [.nilFunc] := ⟨by kernel_rfl⟩
instance : TSlice Tryd.prog 36 5 := ⟨by kernel_rfl⟩
instance : TSc Tryd.prog 36 := ⟨by kernel_rfl, by kernel_rfl⟩
instance : TInfo Tryd.prog 36 1 24 [.slice none 0 0] := ⟨by kernel_rfl⟩
instance : TSc Tryd.prog 37 := ⟨by kernel_rfl, by kernel_rfl⟩
instance : TSc Tryd.prog 38 := ⟨by kernel_rfl, by kernel_rfl⟩
instance : TInfo Tryd.prog 38 1 8 [.nilFunc] := ⟨by kernel_rfl⟩
instance : TSc Tryd.prog 39 := ⟨by kernel_rfl, by kernel_rfl⟩
instance : TSc Tryd.prog 40 := ⟨by kernel_rfl, by kernel_rfl⟩
instance : TInfo Tryd.prog 40 1 8 [.nilFunc] := ⟨by kernel_rfl⟩
instance : TSc Tryd.prog 41 := ⟨by kernel_rfl, by kernel_rfl⟩
instance : TInfo Tryd.prog 41 1 8 [.nilFunc] := ⟨by kernel_rfl⟩
instance : TSlice Tryd.prog 42 9 := ⟨by kernel_rfl⟩
instance : TSc Tryd.prog 42 := ⟨by kernel_rfl, by kernel_rfl⟩
instance : TInfo Tryd.prog 42 1 24 [.slice none 0 0] := ⟨by kernel_rfl⟩
instance : TSc Tryd.prog 43 := ⟨by kernel_rfl, by kernel_rfl⟩
instance : TInfo Tryd.prog 43 1 8 [.nilFunc] := ⟨by kernel_rfl⟩
instance : TSc Tryd.prog 44 := ⟨by kernel_rfl, by kernel_rfl⟩
instance : TInfo Tryd.prog 44 1 8 [.nilFunc] := ⟨by kernel_rfl⟩
instance : TSc Tryd.prog 45 := ⟨by kernel_rfl, by kernel_rfl⟩
instance : TInfo Tryd.prog 45 1 8 [.nilFunc] := ⟨by kernel_rfl⟩
instance : TSlice Tryd.prog 46 49 := ⟨by kernel_rfl⟩
instance : TSc Tryd.prog 46 := ⟨by kernel_rfl, by kernel_rfl⟩
instance : TInfo Tryd.prog 46 1 24 [.slice none 0 0] := ⟨by kernel_rfl⟩
instance : TSc Tryd.prog 47 := ⟨by kernel_rfl, by kernel_rfl⟩
instance : TInfo Tryd.prog 47 1 8 [.nilFunc] := ⟨by kernel_rfl⟩
instance : TFld Tryd.prog 48 0 0 4 1 := ⟨by kernel_rfl, by decide⟩
instance : TFld Tryd.prog 48 1 1 28 3 := ⟨by kernel_rfl, by decide⟩
instance : TBuild Tryd.prog 48 [(0, 1), (1, 3)] := ⟨by kernel_rfl⟩
instance : TAg Tryd.prog 48 4 := ⟨by kernel_rfl, by kernel_rfl⟩
instance : TLeaf Tryd.prog 48 [.b, .i .i64, .s, .s] := ⟨by kernel_rfl, by kernel_rfl, by kernel_rfl⟩
instance : TInfo Tryd.prog 48 4 48 [.bool false, .int .i64 0, .string ⟨#[]⟩, .string ⟨#[]⟩] := ⟨by kernel_rfl⟩
instance : TFld Tryd.prog 49 0 0 4 1 := ⟨by kernel_rfl, by decide⟩
instance : TFld Tryd.prog 49 1 1 28 3 := ⟨by kernel_rfl, by decide⟩
instance : TBuild Tryd.prog 49 [(0, 1), (1, 3)] := ⟨by kernel_rfl⟩
instance : TAg Tryd.prog 49 4 := ⟨by kernel_rfl, by kernel_rfl⟩
instance : TLeaf Tryd.prog 49 [.b, .i .i64, .s, .s] := ⟨by kernel_rfl, by kernel_rfl, by kernel_rfl⟩
instance : TInfo Tryd.prog 49 4 48 [.bool false, .int .i64 0, .string ⟨#[]⟩, .string ⟨#[]⟩] := ⟨by kernel_rfl⟩
instance : TSc Tryd.prog 50 := ⟨by kernel_rfl, by kernel_rfl⟩
instance : TSc Tryd.prog 51 := ⟨by kernel_rfl, by kernel_rfl⟩
instance : TInfo Tryd.prog 51 1 8 [.nilFunc] := ⟨by kernel_rfl⟩
instance : TSc Tryd.prog 52 := ⟨by kernel_rfl, by kernel_rfl⟩
instance : TInfo Tryd.prog 52 1 8 [.nilFunc] := ⟨by kernel_rfl⟩
instance : TSc Tryd.prog 53 := ⟨by kernel_rfl, by kernel_rfl⟩
instance : TInfo Tryd.prog 53 1 8 [.nilFunc] := ⟨by kernel_rfl⟩
instance : TMap Tryd.prog 54 28 3 := ⟨by kernel_rfl⟩
instance : TSc Tryd.prog 54 := ⟨by kernel_rfl, by kernel_rfl⟩
instance : TInfo Tryd.prog 54 1 8 [.map none] := ⟨by kernel_rfl⟩
instance : TMap Tryd.prog 55 9 3 := ⟨by kernel_rfl⟩
instance : TSc Tryd.prog 55 := ⟨by kernel_rfl, by kernel_rfl⟩
instance : TInfo Tryd.prog 55 1 8 [.map none] := ⟨by kernel_rfl⟩
instance : TFld Tryd.prog 56 0 0 22 1 := ⟨by kernel_rfl, by decide⟩
instance : TFld Tryd.prog 56 1 1 54 1 := ⟨by kernel_rfl, by decide⟩
instance : TFld Tryd.prog 56 2 2 55 1 := ⟨by kernel_rfl, by decide⟩
instance : TFld Tryd.prog 56 3 3 3 1 := ⟨by kernel_rfl, by decide⟩
instance : TBuild Tryd.prog 56 [(0, 1), (1, 1), (2, 1), (3, 1)] := ⟨by kernel_rfl⟩
instance : TAg Tryd.prog 56 4 := ⟨by kernel_rfl, by kernel_rfl⟩
instance : TInfo Tryd.prog 56 4 48 [.slice none 0 0, .map none, .map none, .int .i64 0] := ⟨by kernel_rfl⟩
instance : TFld Tryd.prog 57 0 0 22 1 := ⟨by kernel_rfl, by decide⟩
instance : TFld Tryd.prog 57 1 1 54 1 := ⟨by kernel_rfl, by decide⟩
instance : TFld Tryd.prog 57 2 2 55 1 := ⟨by kernel_rfl, by decide⟩
instance : TFld Tryd.prog 57 3 3 3 1 := ⟨by kernel_rfl, by decide⟩
instance : TBuild Tryd.prog 57 [(0, 1), (1, 1), (2, 1), (3, 1)] := ⟨by kernel_rfl⟩
instance : TAg Tryd.prog 57 4 := ⟨by kernel_rfl, by kernel_rfl⟩
instance : TInfo Tryd.prog 57 4 48 [.slice none 0 0, .map none, .map none, .int .i64 0] := ⟨by kernel_rfl⟩
instance : TSc Tryd.prog 58 := ⟨by kernel_rfl, by kernel_rfl⟩
instance : TInfo Tryd.prog 58 1 8 [.nilFunc] := ⟨by kernel_rfl⟩
instance : TSc Tryd.prog 59 := ⟨by kernel_rfl, by kernel_rfl⟩
instance : TPtr Tryd.prog 60 73 := ⟨by kernel_rfl⟩
instance : TSc Tryd.prog 60 := ⟨by kernel_rfl, by kernel_rfl⟩
instance : TInfo Tryd.prog 60 1 8 [.pointer none] := ⟨by kernel_rfl⟩
instance : TSc Tryd.prog 61 := ⟨by kernel_rfl, by kernel_rfl⟩
instance : TInfo Tryd.prog 61 1 8 [.nilFunc] := ⟨by kernel_rfl⟩
instance : TSc Tryd.prog 62 := ⟨by kernel_rfl, by kernel_rfl⟩
instance : TInfo Tryd.prog 62 1 8 [.nilFunc] := ⟨by kernel_rfl⟩
instance : TSc Tryd.prog 63 := ⟨by kernel_rfl, by kernel_rfl⟩
instance : TInfo Tryd.prog 63 1 8 [.nilFunc] := ⟨by kernel_rfl⟩
instance : TSc Tryd.prog 64 := ⟨by kernel_rfl, by kernel_rfl⟩
instance : TInfo Tryd.prog 64 1 8 [.nilFunc] := ⟨by kernel_rfl⟩
instance : TSc Tryd.prog 65 := ⟨by kernel_rfl, by kernel_rfl⟩
instance : TInfo Tryd.prog 65 1 8 [.nilFunc] := ⟨by kernel_rfl⟩
instance : TSc Tryd.prog 66 := ⟨by kernel_rfl, by kernel_rfl⟩
instance : TInfo Tryd.prog 66 1 8 [.nilFunc] := ⟨by kernel_rfl⟩
instance : TSc Tryd.prog 67 := ⟨by kernel_rfl, by kernel_rfl⟩
instance : TSc Tryd.prog 68 := ⟨by kernel_rfl, by kernel_rfl⟩
instance : TInfo Tryd.prog 68 1 8 [.nilFunc] := ⟨by kernel_rfl⟩
instance : TInt Tryd.prog 69 .u32 := ⟨by kernel_rfl⟩
instance : TSc Tryd.prog 69 := ⟨by kernel_rfl, by kernel_rfl⟩
instance : TInfo Tryd.prog 69 1 4 [.int .u32 0] := ⟨by kernel_rfl⟩
instance : TArr Tryd.prog 70 8 69 := ⟨by kernel_rfl⟩
instance : TAg Tryd.prog 70 8 := ⟨by kernel_rfl, by kernel_rfl⟩
instance : TLeaf Tryd.prog 70 [.i .u32, .i .u32, .i .u32, .i .u32, .i .u32, .i .u32, .i .u32, .i .u32] := ⟨by kernel_rfl, by kernel_rfl, by kernel_rfl⟩
instance : TInfo Tryd.prog 70 8 32 [.int .u32 0, .int .u32 0, .int .u32 0, .int .u32 0, .int .u32 0, .int .u32 0, .int .u32 0, .int .u32 0] := ⟨by kernel_rfl⟩
instance : TSc Tryd.prog 71 := ⟨by kernel_rfl, by kernel_rfl⟩
instance : TInfo Tryd.prog 71 1 8 [.nilFunc] := ⟨by kernel_rfl⟩
instance : TFld Tryd.prog 72 0 0 70 8 := ⟨by kernel_rfl, by decide⟩
instance : TFld Tryd.prog 72 1 8 36 1 := ⟨by kernel_rfl, by decide⟩
instance : TFld Tryd.prog 72 2 9 3 1 := ⟨by kernel_rfl, by decide⟩
instance : TBuild Tryd.prog 72 [(0, 8), (8, 1), (9, 1)] := ⟨by kernel_rfl⟩
instance : TAg Tryd.prog 72 10 := ⟨by kernel_rfl, by kernel_rfl⟩
instance : TInfo Tryd.prog 72 10 64 [.int .u32 0, .int .u32 0, .int .u32 0, .int .u32 0, .int .u32 0, .int .u32 0, .int .u32 0, .int .u32 0, .slice none 0 0, .int .i64 0] := ⟨by kernel_rfl⟩
instance : TFld Tryd.prog 73 0 0 70 8 := ⟨by kernel_rfl, by decide⟩
instance : TFld Tryd.prog 73 1 8 36 1 := ⟨by kernel_rfl, by decide⟩
instance : TFld Tryd.prog 73 2 9 3 1 := ⟨by kernel_rfl, by decide⟩
instance : TBuild Tryd.prog 73 [(0, 8), (8, 1), (9, 1)] := ⟨by kernel_rfl⟩
instance : TAg Tryd.prog 73 10 := ⟨by kernel_rfl, by kernel_rfl⟩
instance : TInfo Tryd.prog 73 10 64 [.int .u32 0, .int .u32 0, .int .u32 0, .int .u32 0, .int .u32 0, .int .u32 0, .int .u32 0, .int .u32 0, .slice none 0 0, .int .i64 0] := ⟨by kernel_rfl⟩
instance : TSc Tryd.prog 74 := ⟨by kernel_rfl, by kernel_rfl⟩
instance : TSc Tryd.prog 75 := ⟨by kernel_rfl, by kernel_rfl⟩
instance : TInfo Tryd.prog 75 1 8 [.nilFunc] := ⟨by kernel_rfl⟩
instance : TInt Tryd.prog 76 .u64 := ⟨by kernel_rfl⟩
instance : TSc Tryd.prog 76 := ⟨by kernel_rfl, by kernel_rfl⟩
instance : TInfo Tryd.prog 76 1 8 [.int .u64 0] := ⟨by kernel_rfl⟩
instance : TSc Tryd.prog 77 := ⟨by kernel_rfl, by kernel_rfl⟩
instance : TInfo Tryd.prog 77 1 8 [.nilFunc] := ⟨by kernel_rfl⟩
instance : TSc Tryd.prog 78 := ⟨by kernel_rfl, by kernel_rfl⟩
instance : TInfo Tryd.prog 78 1 8 [.nilFunc] := ⟨by kernel_rfl⟩
instance : TSc Tryd.prog 79 := ⟨by kernel_rfl, by kernel_rfl⟩
instance : TInfo Tryd.prog 79 1 8 [.nilFunc] := ⟨by kernel_rfl⟩
instance : TArr Tryd.prog 80 64 5 := ⟨by kernel_rfl⟩
instance : TAg Tryd.prog 80 64 := ⟨by kernel_rfl, by kernel_rfl⟩
instance : TLeaf Tryd.prog 80 [.i .u8, .i .u8, .i .u8, .i .u8, .i .u8, .i .u8, .i .u8, .i .u8, .i .u8, .i .u8, .i .u8, .i .u8, .i .u8, .i .u8, .i .u8, .i .u8, .i .u8, .i .u8, .i .u8, .i .u8, .i .u8, .i .u8, .i .u8, .i .u8, .i .u8, .i .u8, .i .u8, .i .u8, .i .u8, .i .u8, .i .u8, .i .u8, .i .u8, .i .u8, .i .u8, .i .u8, .i .u8, .i .u8, .i .u8, .i .u8, .i .u8, .i .u8, .i .u8, .i .u8, .i .u8, .i .u8, .i .u8, .i .u8, .i .u8, .i .u8, .i .u8, .i .u8, .i .u8, .i .u8, .i .u8, .i .u8, .i .u8, .i .u8, .i .u8, .i .u8, .i .u8, .i .u8, .i .u8, .i .u8] := ⟨by kernel_rfl, by kernel_rfl, by kernel_rfl⟩
instance : TInfo Tryd.prog 80 64 64 [.int .u8 0, .int .u8 0, .int .u8 0, .int .u8 0, .int .u8 0, .int .u8 0, .int .u8 0, .int .u8 0, .int .u8 0, .int .u8 0, .int .u8 0, .int .u8 0, .int .u8 0, .int .u8 0, .int .u8 0, .int .u8 0, .int .u8 0, .int .u8 0, .int .u8 0, .int .u8 0, .int .u8 0, .int .u8 0, .int .u8 0, .int .u8 0, .int .u8 0, .int .u8 0, .int .u8 0, .int .u8 0, .int .u8 0, .int .u8 0, .int .u8 0, .int .u8 0, .int .u8 0, .int .u8 0, .int .u8 0, .int .u8 0, .int .u8 0, .int .u8 0, .int .u8 0, .int .u8 0, .int .u8 0, .int .u8 0, .int .u8 0, .int .u8 0, .int .u8 0, .int .u8 0, .int .u8 0, .int .u8 0, .int .u8 0, .int .u8 0, .int .u8 0, .int .u8 0, .int .u8 0, .int .u8 0, .int .u8 0, .int .u8 0, .int .u8 0, .int .u8 0, .int .u8 0, .int .u8 0, .int .u8 0, .int .u8 0, .int .u8 0, .int .u8 0] := ⟨by kernel_rfl⟩
instance : TArr Tryd.prog 81 32 5 := ⟨by kernel_rfl⟩
instance : TAg Tryd.prog 81 32 := ⟨by kernel_rfl, by kernel_rfl⟩
instance : TLeaf Tryd.prog 81 [.i .u8, .i .u8, .i .u8, .i .u8, .i .u8, .i .u8, .i .u8, .i .u8, .i .u8, .i .u8, .i .u8, .i .u8, .i .u8, .i .u8, .i .u8, .i .u8, .i .u8, .i .u8, .i .u8, .i .u8, .i .u8, .i .u8, .i .u8, .i .u8, .i .u8, .i .u8, .i .u8, .i .u8, .i .u8, .i .u8, .i .u8, .i .u8] := ⟨by kernel_rfl, by kernel_rfl, by kernel_rfl⟩
instance : TInfo Tryd.prog 81 32 32 [.int .u8 0, .int .u8 0, .int .u8 0, .int .u8 0, .int .u8 0, .int .u8 0, .int .u8 0, .int .u8 0, .int .u8 0, .int .u8 0, .int .u8 0, .int .u8 0, .int .u8 0, .int .u8 0, .int .u8 0, .int .u8 0, .int .u8 0, .int .u8 0, .int .u8 0, .int .u8 0, .int .u8 0, .int .u8 0, .int .u8 0, .int .u8 0, .int .u8 0, .int .u8 0, .int .u8 0, .int .u8 0, .int .u8 0, .int .u8 0, .int .u8 0, .int .u8 0] := ⟨by kernel_rfl⟩
instance : TInt Tryd.prog 82 .u64 := ⟨by kernel_rfl⟩
instance : TSc Tryd.prog 82 := ⟨by kernel_rfl, by kernel_rfl⟩
instance : TInfo Tryd.prog 82 1 8 [.int .u64 0] := ⟨by kernel_rfl⟩
instance : TArr Tryd.prog 83 8 5 := ⟨by kernel_rfl⟩
instance : TAg Tryd.prog 83 8 := ⟨by kernel_rfl, by kernel_rfl⟩
instance : TLeaf Tryd.prog 83 [.i .u8, .i .u8, .i .u8, .i .u8, .i .u8, .i .u8, .i .u8, .i .u8] := ⟨by kernel_rfl, by kernel_rfl, by kernel_rfl⟩
instance : TInfo Tryd.prog 83 8 8 [.int .u8 0, .int .u8 0, .int .u8 0, .int .u8 0, .int .u8 0, .int .u8 0, .int .u8 0, .int .u8 0] := ⟨by kernel_rfl⟩
instance : TArr Tryd.prog 84 64 69 := ⟨by kernel_rfl⟩
instance : TAg Tryd.prog 84 64 := ⟨by kernel_rfl, by kernel_rfl⟩
instance : TLeaf Tryd.prog 84 [.i .u32, .i .u32, .i .u32, .i .u32, .i .u32, .i .u32, .i .u32, .i .u32, .i .u32, .i .u32, .i .u32, .i .u32, .i .u32, .i .u32, .i .u32, .i .u32, .i .u32, .i .u32, .i .u32, .i .u32, .i .u32, .i .u32, .i .u32, .i .u32, .i .u32, .i .u32, .i .u32, .i .u32, .i .u32, .i .u32, .i .u32, .i .u32, .i .u32, .i .u32, .i .u32, .i .u32, .i .u32, .i .u32, .i .u32, .i .u32, .i .u32, .i .u32, .i .u32, .i .u32, .i .u32, .i .u32, .i .u32, .i .u32, .i .u32, .i .u32, .i .u32, .i .u32, .i .u32, .i .u32, .i .u32, .i .u32, .i .u32, .i .u32, .i .u32, .i .u32, .i .u32, .i .u32, .i .u32, .i .u32] := ⟨by kernel_rfl, by kernel_rfl, by kernel_rfl⟩
instance : TInfo Tryd.prog 84 64 256 [.int .u32 0, .int .u32 0, .int .u32 0, .int .u32 0, .int .u32 0, .int .u32 0, .int .u32 0, .int .u32 0, .int .u32 0, .int .u32 0, .int .u32 0, .int .u32 0, .int .u32 0, .int .u32 0, .int .u32 0, .int .u32 0, .int .u32 0, .int .u32 0, .int .u32 0, .int .u32 0, .int .u32 0, .int .u32 0, .int .u32 0, .int .u32 0, .int .u32 0, .int .u32 0, .int .u32 0, .int .u32 0, .int .u32 0, .int .u32 0, .int .u32 0, .int .u32 0, .int .u32 0, .int .u32 0, .int .u32 0, .int .u32 0, .int .u32 0, .int .u32 0, .int .u32 0, .int .u32 0, .int .u32 0, .int .u32 0, .int .u32 0, .int .u32 0, .int .u32 0, .int .u32 0, .int .u32 0, .int .u32 0, .int .u32 0, .int .u32 0, .int .u32 0, .int .u32 0, .int .u32 0, .int .u32 0, .int .u32 0, .int .u32 0, .int .u32 0, .int .u32 0, .int .u32 0, .int .u32 0, .int .u32 0, .int .u32 0, .int .u32 0, .int .u32 0] := ⟨by kernel_rfl⟩
instance : TSc Tryd.prog 85 := ⟨by kernel_rfl, by kernel_rfl⟩
instance : TInfo Tryd.prog 85 1 8 [.nilFunc] := ⟨by kernel_rfl⟩
instance : TSc Tryd.prog 86 := ⟨by kernel_rfl, by kernel_rfl⟩
instance : TInfo Tryd.prog 86 1 8 [.nilFunc] := ⟨by kernel_rfl⟩
instance : TArr Tryd.prog 87 16 69 := ⟨by kernel_rfl⟩
instance : TAg Tryd.prog 87 16 := ⟨by kernel_rfl, by kernel_rfl⟩
instance : TLeaf Tryd.prog 87 [.i .u32, .i .u32, .i .u32, .i .u32, .i .u32, .i .u32, .i .u32, .i .u32, .i .u32, .i .u32, .i .u32, .i .u32, .i .u32, .i .u32, .i .u32, .i .u32] := ⟨by kernel_rfl, by kernel_rfl, by kernel_rfl⟩
instance : TInfo Tryd.prog 87 16 64 [.int .u32 0, .int .u32 0, .int .u32 0, .int .u32 0, .int .u32 0, .int .u32 0, .int .u32 0, .int .u32 0, .int .u32 0, .int .u32 0, .int .u32 0, .int .u32 0, .int .u32 0, .int .u32 0, .int .u32 0, .int .u32 0] := ⟨by kernel_rfl⟩
instance : TSc Tryd.prog 88 := ⟨by kernel_rfl, by kernel_rfl⟩
instance : TInfo Tryd.prog 88 1 8 [.nilFunc] := ⟨by kernel_rfl⟩
instance : TSc Tryd.prog 89 := ⟨by kernel_rfl, by kernel_rfl⟩
instance : TInfo Tryd.prog 89 1 8 [.nilFunc] := ⟨by kernel_rfl⟩
instance : TFld Tryd.prog 90 0 0 17 1 := ⟨by kernel_rfl, by decide⟩
instance : TFld Tryd.prog 90 1 1 17 1 := ⟨by kernel_rfl, by decide⟩
instance : TFld Tryd.prog 90 2 2 17 1 := ⟨by kernel_rfl, by decide⟩
instance : TFld Tryd.prog 90 3 3 9 1 := ⟨by kernel_rfl, by decide⟩
instance : TBuild Tryd.prog 90 [(0, 1), (1, 1), (2, 1), (3, 1)] := ⟨by kernel_rfl⟩
instance : TAg Tryd.prog 90 4 := ⟨by kernel_rfl, by kernel_rfl⟩
instance : TInfo Tryd.prog 90 4 40 [.pointer none, .pointer none, .pointer none, .string ⟨#[]⟩] := ⟨by kernel_rfl⟩
instance : TFld Tryd.prog 91 0 0 17 1 := ⟨by kernel_rfl, by decide⟩
instance : TFld Tryd.prog 91 1 1 17 1 := ⟨by kernel_rfl, by decide⟩
instance : TFld Tryd.prog 91 2 2 17 1 := ⟨by kernel_rfl, by decide⟩
instance : TFld Tryd.prog 91 3 3 9 1 := ⟨by kernel_rfl, by decide⟩
instance : TBuild Tryd.prog 91 [(0, 1), (1, 1), (2, 1), (3, 1)] := ⟨by kernel_rfl⟩
instance : TAg Tryd.prog 91 4 := ⟨by kernel_rfl, by kernel_rfl⟩
instance : TInfo Tryd.prog 91 4 40 [.pointer none, .pointer none, .pointer none, .string ⟨#[]⟩] := ⟨by kernel_rfl⟩
instance : TArr Tryd.prog 92 0 16 := ⟨by kernel_rfl⟩
instance : TBuild Tryd.prog 93 [(0, 0)] := ⟨by kernel_rfl⟩
instance : TBuild Tryd.prog 94 [(0, 0)] := ⟨by kernel_rfl⟩
instance : TSc Tryd.prog 95 := ⟨by kernel_rfl, by kernel_rfl⟩
instance : TInfo Tryd.prog 95 1 8 [.nilFunc] := ⟨by kernel_rfl⟩
instance : TInt Tryd.prog 96 .u8 := ⟨by kernel_rfl⟩
instance : TSc Tryd.prog 96 := ⟨by kernel_rfl, by kernel_rfl⟩
instance : TInfo Tryd.prog 96 1 1 [.int .u8 0] := ⟨by kernel_rfl⟩
instance : TInt Tryd.prog 97 .u8 := ⟨by kernel_rfl⟩
instance : TSc Tryd.prog 97 := ⟨by kernel_rfl, by kernel_rfl⟩
instance : TInfo Tryd.prog 97 1 1 [.int .u8 0] := ⟨by kernel_rfl⟩
instance : TSc Tryd.prog 98 := ⟨by kernel_rfl, by kernel_rfl⟩
instance : TInfo Tryd.prog 98 1 8 [.nilFunc] := ⟨by kernel_rfl⟩
instance : TPtr Tryd.prog 99 5 := ⟨by kernel_rfl⟩
instance : TSc Tryd.prog 99 := ⟨by kernel_rfl, by kernel_rfl⟩
instance : TInfo Tryd.prog 99 1 8 [.pointer none] := ⟨by kernel_rfl⟩
instance : TInt Tryd.prog 100 .i32 := ⟨by kernel_rfl⟩
instance : TSc Tryd.prog 100 := ⟨by kernel_rfl, by kernel_rfl⟩
instance : TInfo Tryd.prog 100 1 4 [.int .i32 0] := ⟨by kernel_rfl⟩
instance : TInt Tryd.prog 101 .i32 := ⟨by kernel_rfl⟩
instance : TSc Tryd.prog 101 := ⟨by kernel_rfl, by kernel_rfl⟩
instance : TInfo Tryd.prog 101 1 4 [.int .i32 0] := ⟨by kernel_rfl⟩
instance : TFld Tryd.prog 102 0 0 12 1 := ⟨by kernel_rfl, by decide⟩
instance : TFld Tryd.prog 102 1 1 12 1 := ⟨by kernel_rfl, by decide⟩
instance : TFld Tryd.prog 102 2 2 69 1 := ⟨by kernel_rfl, by decide⟩
instance : TFld Tryd.prog 102 3 3 96 1 := ⟨by kernel_rfl, by decide⟩
instance : TFld Tryd.prog 102 4 4 5 1 := ⟨by kernel_rfl, by decide⟩
instance : TFld Tryd.prog 102 5 5 5 1 := ⟨by kernel_rfl, by decide⟩
instance : TFld Tryd.prog 102 6 6 97 1 := ⟨by kernel_rfl, by decide⟩
instance : TFld Tryd.prog 102 7 7 98 1 := ⟨by kernel_rfl, by decide⟩
instance : TFld Tryd.prog 102 8 8 99 1 := ⟨by kernel_rfl, by decide⟩
instance : TFld Tryd.prog 102 9 9 100 1 := ⟨by kernel_rfl, by decide⟩
instance : TFld Tryd.prog 102 10 10 101 1 := ⟨by kernel_rfl, by decide⟩
instance : TBuild Tryd.prog 102 [(0, 1), (1, 1), (2, 1), (3, 1), (4, 1), (5, 1), (6, 1), (7, 1), (8, 1), (9, 1), (10, 1)] := ⟨by kernel_rfl⟩
instance : TAg Tryd.prog 102 11 := ⟨by kernel_rfl, by kernel_rfl⟩
instance : TInfo Tryd.prog 102 11 48 [.int .u64 0, .int .u64 0, .int .u32 0, .int .u8 0, .int .u8 0, .int .u8 0, .int .u8 0, .nilFunc, .pointer none, .int .i32 0, .int .i32 0] := ⟨by kernel_rfl⟩
instance : TFld Tryd.prog 103 0 0 12 1 := ⟨by kernel_rfl, by decide⟩
instance : TFld Tryd.prog 103 1 1 12 1 := ⟨by kernel_rfl, by decide⟩
instance : TFld Tryd.prog 103 2 2 69 1 := ⟨by kernel_rfl, by decide⟩
instance : TFld Tryd.prog 103 3 3 96 1 := ⟨by kernel_rfl, by decide⟩
instance : TFld Tryd.prog 103 4 4 5 1 := ⟨by kernel_rfl, by decide⟩
instance : TFld Tryd.prog 103 5 5 5 1 := ⟨by kernel_rfl, by decide⟩
instance : TFld Tryd.prog 103 6 6 97 1 := ⟨by kernel_rfl, by decide⟩
instance : TFld Tryd.prog 103 7 7 98 1 := ⟨by kernel_rfl, by decide⟩
instance : TFld Tryd.prog 103 8 8 99 1 := ⟨by kernel_rfl, by decide⟩
instance : TFld Tryd.prog 103 9 9 100 1 := ⟨by kernel_rfl, by decide⟩
instance : TFld Tryd.prog 103 10 10 101 1 := ⟨by kernel_rfl, by decide⟩
instance : TBuild Tryd.prog 103 [(0, 1), (1, 1), (2, 1), (3, 1), (4, 1), (5, 1), (6, 1), (7, 1), (8, 1), (9, 1), (10, 1)] := ⟨by kernel_rfl⟩
instance : TAg Tryd.prog 103 11 := ⟨by kernel_rfl, by kernel_rfl⟩
instance : TInfo Tryd.prog 103 11 48 [.int .u64 0, .int .u64 0, .int .u32 0, .int .u8 0, .int .u8 0, .int .u8 0, .int .u8 0, .nilFunc, .pointer none, .int .i32 0, .int .i32 0] := ⟨by kernel_rfl⟩
instance : TSc Tryd.prog 104 := ⟨by kernel_rfl, by kernel_rfl⟩
instance : TInfo Tryd.prog 104 1 8 [.pointer none] := ⟨by kernel_rfl⟩
instance : TFunc Tryd.prog 2 := ⟨by kernel_rfl⟩
instance : TFunc Tryd.prog 3 := ⟨by kernel_rfl⟩
instance : TFunc Tryd.prog 4 := ⟨by kernel_rfl⟩
instance : TFunc Tryd.prog 5 := ⟨by kernel_rfl⟩
instance : TFunc Tryd.prog 6 := ⟨by kernel_rfl⟩
instance : TFunc Tryd.prog 7 := ⟨by kernel_rfl⟩
instance : TFunc Tryd.prog 8 := ⟨by kernel_rfl⟩
instance : TFunc Tryd.prog 9 := ⟨by kernel_rfl⟩
instance : TFunc Tryd.prog 10 := ⟨by kernel_rfl⟩
instance : TFunc Tryd.prog 11 := ⟨by kernel_rfl⟩
instance : TFunc Tryd.prog 12 := ⟨by kernel_rfl⟩
instance : TFunc Tryd.prog 13 := ⟨by kernel_rfl⟩
instance : TFunc Tryd.prog 14 := ⟨by kernel_rfl⟩
instance : TFunc Tryd.prog 15 := ⟨by kernel_rfl⟩
instance : TFunc Tryd.prog 16 := ⟨by kernel_rfl⟩
instance : TFunc Tryd.prog 17 := ⟨by kernel_rfl⟩
instance : TFunc Tryd.prog 18 := ⟨by kernel_rfl⟩
instance : TFunc Tryd.prog 19 := ⟨by kernel_rfl⟩
instance : TFunc Tryd.prog 20 := ⟨by kernel_rfl⟩
instance : TFunc Tryd.prog 21 := ⟨by kernel_rfl⟩
instance : TFunc Tryd.prog 22 := ⟨by kernel_rfl⟩
instance : TFunc Tryd.prog 23 := ⟨by kernel_rfl⟩
instance : TFunc Tryd.prog 24 := ⟨by kernel_rfl⟩
instance : TFunc Tryd.prog 25 := ⟨by kernel_rfl⟩
instance : TFunc Tryd.prog 26 := ⟨by kernel_rfl⟩
instance : TFunc Tryd.prog 27 := ⟨by kernel_rfl⟩
instance : TFunc Tryd.prog 28 := ⟨by kernel_rfl⟩
instance : TFunc Tryd.prog 29 := ⟨by kernel_rfl⟩
instance : TFunc Tryd.prog 30 := ⟨by kernel_rfl⟩
instance : TFunc Tryd.prog 31 := ⟨by kernel_rfl⟩
instance : TFunc Tryd.prog 32 := ⟨by kernel_rfl⟩
instance : TFunc Tryd.prog 33 := ⟨by kernel_rfl⟩
instance : TFunc Tryd.prog 34 := ⟨by kernel_rfl⟩
instance : TFunc Tryd.prog 35 := ⟨by kernel_rfl⟩
instance : TFunc Tryd.prog 36 := ⟨by kernel_rfl⟩
instance : TFunc Tryd.prog 37 := ⟨by kernel_rfl⟩
instance : TFunc Tryd.prog 38 := ⟨by kernel_rfl⟩
instance : TFunc Tryd.prog 39 := ⟨by kernel_rfl⟩
instance : TFunc Tryd.prog 40 := ⟨by kernel_rfl⟩
instance : TFunc Tryd.prog 41 := ⟨by kernel_rfl⟩
instance : TFunc Tryd.prog 42 := ⟨by kernel_rfl⟩
instance : TFunc Tryd.prog 43 := ⟨by kernel_rfl⟩
instance : TFunc Tryd.prog 44 := ⟨by kernel_rfl⟩
instance : TFunc Tryd.prog 45 := ⟨by kernel_rfl⟩
instance : TFunc Tryd.prog 46 := ⟨by kernel_rfl⟩
instance : TFunc Tryd.prog 47 := ⟨by kernel_rfl⟩
instance : TFunc Tryd.prog 68 := ⟨by kernel_rfl⟩
def shaK : List Nat := [1116352408, 1899447441, 3049323471, 3921009573, 961987163, 1508970993, 2453635748, 2870763221, 3624381080, 310598401, 607225278, 1426881987, 1925078388, 2162078206, 2614888103, 3248222580, 3835390401, 4022224774, 264347078, 604807628, 770255983, 1249150122, 1555081692, 1996064986, 2554220882, 2821834349, 2952996808, 3210313671, 3336571891, 3584528711, 113926993, 338241895, 666307205, 773529912, 1294757372, 1396182291, 1695183700, 1986661051, 2177026350, 2456956037, 2730485921, 2820302411, 3259730800, 3345764771, 3516065817, 3600352804, 4094571909, 275423344, 430227734, 506948616, 659060556, 883997877, 958139571, 1322822218, 1537002063, 1747873779, 1955562222, 2024104815, 2227730452, 2361852424, 2428436474, 2756734187, 3204031479, 3329325298]
instance globs : Gl Tryd.prog := ⟨[(0, shaK.map fun (n : Nat) => Value.int .u32 (n : Int))]⟩
theorem follows : Tryd.prog.follows .mixedOrders = true := by kernel_rfl
end Go.Proofs.YtafefapbiekmbaaDoor
namespace Go.Proofs.YtafefapbiekmbaaDoor.Sha
open Go Go.Sse
set_option maxRecDepth 10000
set_option linter.unusedVariables false
set_option linter.unusedSimpArgs false
abbrev Wd := BitVec 32
def rot (x : Wd) (n : Nat) : Wd := x >>> n ||| x <<< (32 - n)
def sig0 (x : Wd) : Wd := rot x 7 ^^^ rot x 18 ^^^ x >>> 3
def sig1 (x : Wd) : Wd := rot x 17 ^^^ rot x 19 ^^^ x >>> 10
def byteAt (b : List UInt8) (i : Nat) : Wd := BitVec.ofNat 32 (b.getD i 0).toNat
def word (b : List UInt8) (i : Nat) : Wd := byteAt b (4 * i) <<< 24 ||| byteAt b (4 * i + 1) <<< 16 ||| byteAt b (4 * i + 2) <<< 8 ||| byteAt b (4 * i + 3)
def nextW (l : List Wd) (n : Nat) : Wd := l.getD (n - 16) 0 + sig0 (l.getD (n - 15) 0) + l.getD (n - 7) 0 + sig1 (l.getD (n - 2) 0)
def sched (b : List UInt8) : Nat → List Wd
  | 0 => []
  | n + 1 => sched b n ++ [if n < 16 then word b n else nextW (sched b n) n]
def W (b : List UInt8) (n : Nat) : Wd := (sched b (n + 1)).getD n 0
theorem sched_len (b : List UInt8) : ∀ n, (sched b n).length = n
  | 0 => rfl
  | n + 1 => by simp [sched, sched_len b n]
theorem sched_get (b : List UInt8) : ∀ n i, i < n → (sched b n).getD i 0 = W b i
  | 0, i, h => by omega
  | n + 1, i, h => by
    by_cases hi : i = n
    · subst hi; rfl
    · have : i < n := by omega
      rw [← sched_get b n i this]
      simp only [sched, List.getD_eq_getElem?_getD]
      rw [List.getElem?_append_left (by rw [sched_len]; exact this)]
structure S8 where
  a : Wd
  b : Wd
  c : Wd
  d : Wd
  e : Wd
  f : Wd
  g : Wd
  h : Wd
def S8.list (s : S8) : List Wd := [s.a, s.b, s.c, s.d, s.e, s.f, s.g, s.h]
abbrev S8.cells (s : S8) : List SV := [u32 s.a, u32 s.b, u32 s.c, u32 s.d, u32 s.e, u32 s.f, u32 s.g, u32 s.h]
def S8.one (s : S8) (k w : Wd) : Wd := s.h + (rot s.e 6 ^^^ rot s.e 11 ^^^ rot s.e 25) + (s.e &&& s.f ^^^ ~~~s.e &&& s.g) + k + w
def S8.two (s : S8) : Wd := (rot s.a 2 ^^^ rot s.a 13 ^^^ rot s.a 22) + (s.a &&& s.b ^^^ s.a &&& s.c ^^^ s.b &&& s.c)
def S8.round (s : S8) (k w : Wd) : S8 := ⟨s.one k w + s.two, s.a, s.b, s.c, s.d + s.one k w, s.e, s.f, s.g⟩
def kAt (i : Nat) : Wd := BitVec.ofNat 32 (shaK.getD i 0)
def rounds (s : S8) (b : List UInt8) : Nat → S8
  | 0 => s
  | n + 1 => (rounds s b n).round (kAt n) (W b n)
def S8.add (s t : S8) : S8 := ⟨s.a + t.a, s.b + t.b, s.c + t.c, s.d + t.d, s.e + t.e, s.f + t.f, s.g + t.g, s.h + t.h⟩
def blockS (s : S8) (b : List UInt8) : S8 := (rounds s b 64).add s
def first8 : S8 := ⟨0x6a09e667#32, 0xbb67ae85#32, 0x3c6ef372#32, 0xa54ff53a#32, 0x510e527f#32, 0x9b05688c#32, 0x1f83d9ab#32, 0x5be0cd19#32⟩
def wordB (w : Wd) : List UInt8 := [UInt8.ofNat (w >>> 24).toNat, UInt8.ofNat (w >>> 16).toNat, UInt8.ofNat (w >>> 8).toNat, UInt8.ofNat w.toNat]
def toldS (s : S8) : List UInt8 := s.list.flatMap wordB
theorem told_len (s : S8) : (toldS s).length = 32 := rfl
def blocksS (s : S8) (l : List UInt8) : S8 × List UInt8 :=
  if h : 64 ≤ l.length then blocksS (blockS s (l.take 64)) (l.drop 64) else (s, l)
termination_by l.length
decreasing_by simp only [List.length_drop]; omega
theorem blocksS_lt {s : S8} {l : List UInt8} (h : l.length < 64) : blocksS s l = (s, l) := by
  rw [blocksS, dif_neg (by omega)]
theorem blocksS_ge {s : S8} {l : List UInt8} (h : 64 ≤ l.length) : blocksS s l = blocksS (blockS s (l.take 64)) (l.drop 64) := by
  rw [blocksS, dif_pos h]
theorem blocksS_app : ∀ (n : Nat) (s : S8) (l t : List UInt8), l.length ≤ n → blocksS s (l ++ t) = blocksS (blocksS s l).1 ((blocksS s l).2 ++ t) := by
  intro n
  induction n with
  | zero => intro s l t h; have : l = [] := List.eq_nil_of_length_eq_zero (by omega); subst this; rw [blocksS_lt (s := s) (l := []) (by simp)]
  | succ n ih =>
    intro s l t h
    by_cases h64 : 64 ≤ l.length
    · rw [blocksS_ge (l := l) h64, blocksS_ge (l := l ++ t) (by simp; omega), List.take_append_of_le_length h64, List.drop_append_of_le_length h64]
      exact ih _ _ _ (by simp only [List.length_drop]; omega)
    · rw [blocksS_lt (l := l) (by omega)]
theorem blocksS_left : ∀ (n : Nat) (s : S8) (l : List UInt8), l.length ≤ n → (blocksS s l).2.length = l.length % 64 := by
  intro n
  induction n with
  | zero => intro s l h; rw [blocksS_lt (by omega)]; simp only; omega
  | succ n ih =>
    intro s l h
    by_cases h64 : 64 ≤ l.length
    · rw [blocksS_ge h64, ih _ _ (by simp only [List.length_drop]; omega), List.length_drop]; omega
    · rw [blocksS_lt (by omega)]; simp only; omega
def zerosOf (n : Nat) : Nat := (119 - n % 64) % 64
def lenB (n : Nat) : List UInt8 := (List.range 8).map fun i => UInt8.ofNat (n * 8 / 2 ^ (56 - 8 * i))
theorem lenB_len (n : Nat) : (lenB n).length = 8 := rfl
def padS (n : Nat) : List UInt8 := [128] ++ List.replicate (zerosOf n) 0 ++ lenB n
def shaS (l : List UInt8) : List UInt8 := toldS (blocksS first8 (l ++ padS l.length)).1
theorem shaS_len (l : List UInt8) : (shaS l).length = 32 := rfl
end Go.Proofs.YtafefapbiekmbaaDoor.Sha
namespace Go.Proofs.YtafefapbiekmbaaDoor.Sha
open Go Go.Sse
set_option maxRecDepth 10000
set_option linter.unusedVariables false
set_option linter.unusedSimpArgs false
theorem ref0 {F : List (Nat × SV)} {i : Nat} {s : SV} (h : Sse.look F i = some s) : ∃ t, Sse.look F i = some t ∧ Sub t s := ⟨s, h, .refl _⟩
theorem rot_ok (x : Wd) (n : Nat) (hn : n ≤ 32) : FnC Tryd.prog 45 [u32 x, u64 n] [] (fun s L => s = u32 (rot x n) ∧ L = []) := by
  refine FnC.intro Tryd.func45 rfl Tryd.ntmps45 rfl fun Z w0 hG => ?_
  focus (
 (refine W.seq (W.region (Jx.assign rfl rfl (J.nil (N.seq (W.seq (W.region (Jx.move rfl rfl (Jx.move rfl rfl ?_)))))))))
 (refine Jx.shrU rfl rfl hn rfl ?_)
 (refine Jx.move rfl rfl (Jx.move rfl rfl ?_))
 (refine Jx.subU64 (c := 32) rfl rfl hn (by decide) rfl ?_)
 (refine Jx.shlU rfl rfl (by omega) rfl ?_)
 (refine Jx.orU rfl rfl rfl ?_)
 (refine Jx.assign rfl rfl (J.nil (N.seq (W.ret ?_))))
 (refine id ?_; rotate_left))
  exact N.ret (rs := [.tmp 4]) rfl (.tmp rfl .nil) ⟨rfl, rfl⟩
theorem first_ok : FnC Tryd.prog 33 [] [] (fun s L => s = .agg first8.cells ∧ L = []) := by
  refine FnC.intro Tryd.func33 rfl Tryd.ntmps33 rfl fun Z w0 hG => ?_
  focus (
 (refine W.seq (W.region ?_))
 (refine J.alloc (by simp only [List.map_cons, List.map_nil]; rfl) rfl rfl ?_; intro b')
 (refine J.nil (N.seq (W.seq (W.region (Jx.buildA rfl rfl rfl rfl rfl ?_)))))
 (refine J.storeAll rfl rfl rfl 0 rfl rfl rfl ?_)
 (refine J.nil (N.seq (W.ret ?_)))
 (refine id ?_; rotate_left))
  exact N.retD (rs := [.cell 0 70]) (L1 := []) rfl (.cell rfl 0 rfl inferInstance .nil) (List.nil_sublist _) ⟨rfl, rfl⟩
end Go.Proofs.YtafefapbiekmbaaDoor.Sha
namespace Go.Proofs.YtafefapbiekmbaaDoor.Sha
open Go Go.Sse
set_option maxRecDepth 10000
set_option linter.unusedVariables false
set_option linter.unusedSimpArgs false
def tab (b : List UInt8) (i : Nat) : List Wd := sched b i ++ List.replicate (64 - i) 0
theorem tab_len (b : List UInt8) (i : Nat) (h : i ≤ 64) : (tab b i).length = 64 := by simp [tab, sched_len]; omega
theorem tab_get (b : List UInt8) (i j : Nat) (h : j < i) : (tab b i).getD j 0 = (sched b i).getD j 0 := by
  simp only [tab, List.getD_eq_getElem?_getD]; rw [List.getElem?_append_left (by rw [sched_len]; exact h)]
theorem tab_set (b : List UInt8) (i : Nat) (h : i < 64) (v : Wd) (hv : v = if i < 16 then word b i else nextW (sched b i) i) : (tab b i).set i v = tab b (i + 1) := by
  subst hv
  unfold tab
  rw [List.set_append_right _ _ (by rw [sched_len]; exact Nat.le_refl _), sched_len, Nat.sub_self, show 64 - i = (64 - (i + 1)) + 1 by omega, List.replicate_succ, List.set_cons_zero]
  simp [sched]
theorem tab_next (b : List UInt8) (i : Nat) (h : 16 ≤ i) : (tab b i).getD (i - 16) 0 + (rot ((tab b i).getD (i - 15) 0) 7 ^^^ rot ((tab b i).getD (i - 15) 0) 18 ^^^ (tab b i).getD (i - 15) 0 >>> 3) + (tab b i).getD (i - 7) 0 + (rot ((tab b i).getD (i - 2) 0) 17 ^^^ rot ((tab b i).getD (i - 2) 0) 19 ^^^ (tab b i).getD (i - 2) 0 >>> 10) = nextW (sched b i) i := by
  rw [tab_get _ _ _ (by omega), tab_get _ _ _ (by omega), tab_get _ _ _ (by omega), tab_get _ _ _ (by omega)]; rfl
abbrev tabO (p : Nat) (ws : List Wd) : Own := .obj p 84 (ws.map u32)
abbrev blkO (p : Nat) (bs : List UInt8) : Own := .obj p 80 (bs.map byte)
set_option maxHeartbeats 2000000 in
theorem spread_ok (bs : List UInt8) (hb : bs.length = 64) : FnC Tryd.prog 44 [.agg (bs.map byte)] [] (fun s L => s = .agg ((sched bs 64).map u32) ∧ L = []) := by
  refine FnC.intro Tryd.func44 rfl Tryd.ntmps44 rfl fun Z w0 hG => ?_
  focus (
 (refine W.seq (W.region ?_))
 (refine J.boxAg rfl rfl ?_; intro b')
 (refine J.alloc (by simp only [List.map_cons, List.map_nil]; rfl) rfl rfl ?_; intro b')
 (refine J.nil (N.seq (W.seq (W.region ?_))))
 (refine J.alloc (by simp only [List.map_cons, List.map_nil]; rfl) rfl rfl ?_; intro b')
 (refine J.nil (N.seq (W.seq (W.seq (W.region (Jx.move rfl rfl (J.nil (N.seq (W.block ?_)))))))))
 (refine id ?_; rotate_left))
  rename_i p1 p2
  refine W.loop (α := Nat × List Wd) (fun x => [(8, int x.1), (3, ptr b'), (2, ptr p2), (1, ptr p1)]) (fun x => [tabO b' x.2, tabO p2 (tab bs 0), blkO p1 bs]) (fun x => x.1 ≤ 16 ∧ x.2 = tab bs x.1) (fun x => 16 - x.1) (0, tab bs 0) ⟨by omega, rfl⟩ rfl ⟨ref0 rfl, ref0 rfl, ref0 rfl, ref0 rfl, trivial⟩ ?_
  have hz : (tab bs 0).length = 64 := tab_len bs 0 (by omega)
  generalize tab bs 0 = zs at *
  rintro ⟨i, ws⟩ ⟨hi, hw⟩
  simp only at hi hw ⊢
  have hl : ws.length = 64 := by rw [hw]; exact tab_len bs i (by omega)
  by_cases h : i < 16
  · focus (
 (refine W.seq (W.region (Jx.lssI rfl rfl rfl (J.nil (N.seq (W.seq (W.cT rfl ?_)))))))
 (refine W.skip (N.seq (W.seq (W.block (W.seq (W.region (Jx.move rfl rfl (Jx.assign rfl rfl (J.nil (N.seq ?_))))))))))
 (refine W.draw follows ?_)
 (refine JD.upto (n := 31) rfl (by decide +kernel) (by decide +kernel) rfl rfl ?_)
 (refine Cx.move rfl rfl ?_)
 (refine Cx.move rfl rfl ?_)
 (refine Cx.mul64 rfl rfl (by omega) rfl ?_)
 (refine Cx.index0 (4 * i) rfl rfl (by omega) (by omega) rfl ?_)
 (refine Cx.loadA byte 0 rfl 2 rfl (by omega) rfl ?_)
 (refine Cx.byteWord rfl rfl rfl ?_)
 (refine Cx.shlU rfl rfl (by decide) rfl ?_)
 (refine Cx.move rfl rfl ?_)
 (refine Cx.mul64 rfl rfl (by omega) rfl ?_)
 (refine Cx.add64 rfl rfl (by omega) rfl ?_)
 (refine Cx.index0 (4 * i + 1) rfl rfl (by omega) (by omega) rfl ?_)
 (refine Cx.loadA byte 0 rfl 2 rfl (by omega) rfl ?_)
 (refine Cx.byteWord rfl rfl rfl ?_)
 (refine Cx.shlU rfl rfl (by decide) rfl ?_)
 (refine Cx.orU rfl rfl rfl ?_)
 (refine Cx.move rfl rfl ?_)
 (refine Cx.mul64 rfl rfl (by omega) rfl ?_)
 (refine Cx.add64 rfl rfl (by omega) rfl ?_)
 (refine Cx.index0 (4 * i + 2) rfl rfl (by omega) (by omega) rfl ?_)
 (refine Cx.loadA byte 0 rfl 2 rfl (by omega) rfl ?_)
 (refine Cx.byteWord rfl rfl rfl ?_)
 (refine Cx.shlU rfl rfl (by decide) rfl ?_)
 (refine Cx.orU rfl rfl rfl ?_)
 (refine Cx.move rfl rfl ?_)
 (refine Cx.mul64 rfl rfl (by omega) rfl ?_)
 (refine Cx.add64 rfl rfl (by omega) rfl ?_)
 (refine Cx.index0 (4 * i + 3) rfl rfl (by omega) (by omega) rfl ?_)
 (refine Cx.loadA byte 0 rfl 2 rfl (by omega) rfl ?_)
 (refine Cx.byteWord rfl rfl rfl ?_)
 (refine Cx.orU rfl rfl rfl ?_)
 (refine Cx.index0 i rfl rfl (by omega) (by omega) rfl ?_)
 (refine SegC.nil ?_)
 (refine J.storeA u32 (word bs i) rfl rfl (One.val rfl) 0 rfl (by omega) rfl ?_)
 (refine J.nil (N.seq (W.region (Jx.add64 rfl rfl (by omega) rfl ?_))))
 (refine Jx.move rfl rfl (J.nil ?_))
 (refine id ?_; rotate_left))
    exact N.round (i + 1, ws.set i (word bs i)) ⟨by omega, by rw [hw]; exact tab_set bs i (by omega) (word bs i) (by rw [if_pos h])⟩ (by simp only; omega) rfl ⟨ref0 rfl, ref0 rfl, ref0 rfl, ref0 rfl, trivial⟩
  · have h16 : i = 16 := by omega
    focus (
 (refine W.seq (W.region (Jx.lssI rfl rfl rfl (J.nil (N.seq (W.seq (W.cF rfl ?_)))))))
 (refine W.exit (N.seq (W.seq (W.seq (W.region (Jx.assign rfl rfl (J.nil (N.seq (W.block ?_)))))))))
 (refine id ?_; rotate_left))
    refine W.loop (α := Nat × List Wd) (fun x => [(5, int x.1), (3, ptr b'), (2, ptr p2), (1, ptr p1)]) (fun x => [tabO b' x.2, tabO p2 zs, blkO p1 bs]) (fun x => 16 ≤ x.1 ∧ x.1 ≤ 64 ∧ x.2 = tab bs x.1) (fun x => 64 - x.1) (16, ws) ⟨by simp, by simp, by rw [hw, h16]⟩ rfl ⟨ref0 rfl, ref0 rfl, ref0 rfl, ref0 rfl, trivial⟩ ?_
    clear hi hw hl h h16
    rintro ⟨i, ws⟩ ⟨hi0, hi1, hw⟩
    simp only at hi0 hi1 hw ⊢
    have hl : ws.length = 64 := by rw [hw]; exact tab_len bs i (by omega)
    by_cases h : i < 64
    · focus (
 (refine W.seq (W.seq (W.region (Jx.move rfl rfl (Jx.lssI rfl rfl rfl (J.nil (N.seq (W.cT rfl ?_))))))))
 (refine W.skip (N.seq (W.seq (W.block (W.seq ?_)))))
 (refine W.draw follows ?_)
 (refine JD.calm rfl (by decide +kernel) ?_)
 (refine Cx.move rfl rfl ?_)
 (refine Cx.sub64 rfl rfl (by omega) rfl ?_)
 (refine Cx.index0 (i - 15) rfl rfl (by omega) (by omega) rfl ?_)
 (refine Cx.loadA u32 0 rfl 0 rfl (by omega) rfl ?_)
 (refine Cx.move rfl rfl ?_)
 (refine Cx.sub64 rfl rfl (by omega) rfl ?_)
 (refine Cx.index0 (i - 2) rfl rfl (by omega) (by omega) rfl ?_)
 (refine Cx.loadA u32 0 rfl 0 rfl (by omega) rfl ?_)
 (refine Cx.assign rfl rfl ?_)
 (refine Cx.assign rfl rfl ?_)
 (refine SegC.nil ?_)
 (refine N.seq ?_)
 (refine W.draw follows ?_)
 (refine JD.upto (n := 29) rfl (by decide +kernel) (by decide +kernel) rfl rfl ?_)
 (refine Cx.move rfl rfl ?_)
 (refine Cx.move rfl rfl ?_)
 (refine Cx.sub64 rfl rfl (by omega) rfl ?_)
 (refine Cx.index0 (i - 16) rfl rfl (by omega) (by omega) rfl ?_)
 (refine Cx.loadA u32 0 rfl 0 rfl (by omega) rfl ?_)
 (refine Cx.move rfl rfl ?_)
 (refine SegC.q (Qs.call (Lc := []) (rot_ok _ 7 (by decide)) (fun s L' h => h) (List.Perm.refl _) (evs_args rfl)) rfl ?_)
 (refine Cx.move rfl rfl ?_)
 (refine SegC.q (Qs.call (Lc := []) (rot_ok _ 18 (by decide)) (fun s L' h => h) (List.Perm.refl _) (evs_args rfl)) rfl ?_)
 (refine Cx.xorU rfl rfl rfl ?_)
 (refine Cx.move rfl rfl ?_)
 (refine Cx.shrU rfl rfl (by decide) rfl ?_)
 (refine Cx.xorU rfl rfl rfl ?_)
 (refine Cx.addU rfl rfl rfl ?_)
 (refine Cx.move rfl rfl ?_)
 (refine Cx.sub64 rfl rfl (by omega) rfl ?_)
 (refine Cx.index0 (i - 7) rfl rfl (by omega) (by omega) rfl ?_)
 (refine Cx.loadA u32 0 rfl 0 rfl (by omega) rfl ?_)
 (refine Cx.addU rfl rfl rfl ?_)
 (refine Cx.move rfl rfl ?_)
 (refine SegC.q (Qs.call (Lc := []) (rot_ok _ 17 (by decide)) (fun s L' h => h) (List.Perm.refl _) (evs_args rfl)) rfl ?_)
 (refine Cx.move rfl rfl ?_)
 (refine SegC.q (Qs.call (Lc := []) (rot_ok _ 19 (by decide)) (fun s L' h => h) (List.Perm.refl _) (evs_args rfl)) rfl ?_)
 (refine Cx.xorU rfl rfl rfl ?_)
 (refine Cx.move rfl rfl ?_)
 (refine Cx.shrU rfl rfl (by decide) rfl ?_)
 (refine Cx.xorU rfl rfl rfl ?_)
 (refine Cx.addU rfl rfl rfl ?_)
 (refine Cx.index0 i rfl rfl (by omega) (by omega) rfl ?_)
 (refine SegC.nil ?_)
 (refine J.storeA u32 (ws.getD (i - 16) 0 + sig0 (ws.getD (i - 15) 0) + ws.getD (i - 7) 0 + sig1 (ws.getD (i - 2) 0)) rfl rfl (One.val rfl) 0 rfl (by omega) rfl ?_)
 (refine J.nil (N.seq (W.region (Jx.move rfl rfl (Jx.add64 rfl rfl (by omega) rfl ?_)))))
 (refine Jx.assign rfl rfl (J.nil ?_))
 (refine id ?_; rotate_left))
      refine N.round (i + 1, ws.set i (ws.getD (i - 16) 0 + sig0 (ws.getD (i - 15) 0) + ws.getD (i - 7) 0 + sig1 (ws.getD (i - 2) 0))) ⟨by simp only; omega, by simp only; omega, ?_⟩ (by simp only; omega) rfl ⟨ref0 rfl, ref0 rfl, ref0 rfl, ref0 rfl, trivial⟩
      simp only
      rw [hw]
      exact tab_set bs i (by omega) _ (by rw [if_neg (by omega), ← tab_next bs i hi0]; rfl)
    · have h64 : i = 64 := by omega
      focus (
 (refine W.seq (W.seq (W.region (Jx.move rfl rfl (Jx.lssI rfl rfl rfl (J.nil (N.seq (W.cF rfl ?_))))))))
 (refine W.exit (N.seq (W.seq (W.region (Jx.loadArr (by rw [List.length_map]; exact hl) rfl 0 rfl rfl ?_)))))
 (refine J.storeArr (by rw [List.length_map]; exact hl) rfl rfl 1 rfl (by rw [List.length_map]; exact hz) rfl ?_)
 (refine J.nil (N.seq (W.ret ?_)))
 (refine id ?_; rotate_left))
      refine N.retD (rs := [.cell 2 84]) (L1 := []) rfl (.cell rfl 1 rfl (by rw [List.length_map, hl]; infer_instance) .nil) (List.nil_sublist _) ⟨?_, rfl⟩
      rw [hw, h64]; simp [oneOr, tab]
end Go.Proofs.YtafefapbiekmbaaDoor.Sha
namespace Go.Proofs.YtafefapbiekmbaaDoor.Sha
open Go Go.Sse
set_option maxRecDepth 10000
set_option linter.unusedVariables false
set_option linter.unusedSimpArgs false
theorem shaK_lt : shaK.all (fun n => decide (n < 4294967296)) = true := by decide
theorem kAt_nat (i : Nat) : (kAt i).toNat = shaK.getD i 0 := by
  unfold kAt
  rw [BitVec.toNat_ofNat]
  refine Nat.mod_eq_of_lt ?_
  rw [List.getD_eq_getElem?_getD]
  cases h : shaK[i]? with
  | none => simp
  | some v => simpa using (List.all_eq_true.1 shaK_lt) v (List.mem_of_getElem? h)
theorem k_get (i : Nat) (h : i < 64) : (shaK.map fun (n : Nat) => Value.int .u32 (n : Int))[i]? = some (.int .u32 ((kAt i).toNat : Int)) := by
  have hl : i < shaK.length := h
  rw [List.getElem?_map, List.getElem?_eq_getElem hl, kAt_nat]
  simp [List.getD_eq_getElem?_getD, List.getElem?_eq_getElem hl]
theorem list8 {ws : List Wd} (t : S8) (hl : ws.length = 8) (h : ∀ j, j < 8 → ws.getD j 0 = t.list.getD j 0) : ws = t.list := by
  refine List.ext_getElem (by rw [hl]; rfl) fun j h1 h2 => ?_
  have := h j (by omega)
  simpa [List.getD_eq_getElem?_getD, List.getElem?_eq_getElem h1, List.getElem?_eq_getElem h2] using this
theorem add_step (s h vs : List Wd) (j : Nat) (h8 : j < 8) (hl : vs.length = 8) (hv : ∀ m, m < 8 → vs.getD m 0 = if m < j then s.getD m 0 + h.getD m 0 else s.getD m 0) (m : Nat) (hm : m < 8) :
    (vs.set j (vs.getD j 0 + h.getD j 0)).getD m 0 = if m < j + 1 then s.getD m 0 + h.getD m 0 else s.getD m 0 := by
  have e1 : (vs.set j (vs.getD j 0 + h.getD j 0)).getD m 0 = if m = j then vs.getD j 0 + h.getD j 0 else vs.getD m 0 := by
    simp only [List.getD_eq_getElem?_getD, List.getElem?_set]
    by_cases e : j = m
    · subst e; simp [hl, hm]
    · rw [if_neg e, if_neg (fun h => e h.symm)]
  rw [e1]
  by_cases e : m = j
  · subst e; rw [if_pos rfl, hv m hm, if_neg (Nat.lt_irrefl m), if_pos (Nat.lt_succ_self m)]
  · rw [if_neg e, hv m hm]
    by_cases hlt : m < j
    · rw [if_pos hlt, if_pos (by omega)]
    · rw [if_neg hlt, if_neg (by omega)]
set_option maxHeartbeats 4000000 in
theorem block_ok (h : S8) (bs : List UInt8) (hb : bs.length = 64) : FnC Tryd.prog 40 [.agg h.cells, .agg (bs.map byte)] [] (fun s L => s = .agg (blockS h bs).cells ∧ L = []) := by
  have c1 := spread_ok bs hb
  have hs := sched_len bs 64
  have hW : ∀ i, i < 64 → (sched bs 64).getD i 0 = W bs i := fun i hi => sched_get bs 64 i hi
  generalize sched bs 64 = ws at *
  refine FnC.intro Tryd.func40 rfl Tryd.ntmps40 rfl fun Z w0 hG => ?_
  focus (
 (refine W.seq (W.region ?_))
 (refine J.boxAg rfl rfl ?_; intro b')
 (refine J.boxAg rfl rfl ?_; intro b')
 (refine J.alloc (by simp only [List.map_cons, List.map_nil]; rfl) rfl rfl ?_; intro b')
 (refine J.nil (N.seq (W.seq (W.region (Jx.loadArr (by rw [List.length_map]; exact hb) rfl 1 rfl rfl ?_)))))
 (refine J.call (c1) rfl (evs_args rfl) rfl ?_; rintro _ _ ⟨rfl, rfl⟩; simp only [la1, la2, la3])
 (refine J.alloc (by simp only [List.map_cons, List.map_nil]; rfl) rfl rfl ?_; intro b')
 (refine J.storeArr (by rw [List.length_map]; exact hs) rfl rfl 0 rfl rfl rfl ?_)
 (refine J.nil (N.seq (W.seq (W.region (Jx.loadAll rfl 3 rfl rfl rfl ?_)))))
 (refine J.alloc (by simp only [List.map_cons, List.map_nil]; rfl) rfl rfl ?_; intro b')
 (refine J.storeAll rfl rfl rfl 0 rfl rfl rfl ?_)
 (refine J.nil (N.seq (W.seq (W.seq (W.region (Jx.move rfl rfl (J.nil (N.seq (W.block ?_)))))))))
 (refine id ?_; rotate_left))
  rename_i p2 p3 p4 p5
  refine W.loop (α := Nat × S8) (fun x => [(16, int x.1), (6, ptr b'), (5, ptr p5), (4, ptr p4), (2, ptr p2)]) (fun x => [.obj b' 70 x.2.cells, tabO p5 ws, .obj p4 70 (S8.cells ⟨0, 0, 0, 0, 0, 0, 0, 0⟩), blkO p3 bs, .obj p2 70 h.cells]) (fun x => x.1 ≤ 64 ∧ x.2 = rounds h bs x.1) (fun x => 64 - x.1) (0, h) ⟨by simp, rfl⟩ rfl ⟨ref0 rfl, ref0 rfl, ref0 rfl, ref0 rfl, ref0 rfl, trivial⟩ ?_
  rintro ⟨i, s⟩ ⟨hi, hst⟩
  simp only at hi hst ⊢
  by_cases h1 : i < 64
  · have hk := k_get i h1
    focus (
 (refine W.seq (W.region (Jx.lssI rfl rfl rfl (J.nil (N.seq (W.seq (W.cT rfl ?_)))))))
 (refine W.skip (N.seq (W.seq (W.block (W.seq (W.region (Jx.move rfl rfl (Jx.assign rfl rfl (J.nil (N.seq (W.seq ?_)))))))))))
 (refine W.draw follows ?_)
 (refine JD.calm rfl (by decide +kernel) ?_)
 (refine Cx.indexArr rfl rfl (by decide) (by decide) rfl ?_)
 (refine Cx.load rfl 0 rfl rfl rfl ?_)
 (refine Cx.indexArr rfl rfl (by decide) (by decide) rfl ?_)
 (refine Cx.load rfl 0 rfl rfl rfl ?_)
 (refine Cx.assign rfl rfl ?_)
 (refine Cx.assign rfl rfl ?_)
 (refine SegC.nil ?_)
 (refine N.seq (W.seq ?_))
 (refine W.draw follows ?_)
 (refine JD.calm rfl (by decide +kernel) ?_)
 (refine Cx.indexArr rfl rfl (by decide) (by decide) rfl ?_)
 (refine Cx.load rfl 0 rfl rfl rfl ?_)
 (refine Cx.move rfl rfl ?_)
 (refine SegC.q (Qs.call (Lc := []) (rot_ok _ 6 (by decide)) (fun s L' h => h) (List.Perm.refl _) (evs_args rfl)) rfl ?_)
 (refine Cx.move rfl rfl ?_)
 (refine SegC.q (Qs.call (Lc := []) (rot_ok _ 11 (by decide)) (fun s L' h => h) (List.Perm.refl _) (evs_args rfl)) rfl ?_)
 (refine Cx.xorU rfl rfl rfl ?_)
 (refine Cx.move rfl rfl ?_)
 (refine SegC.q (Qs.call (Lc := []) (rot_ok _ 25 (by decide)) (fun s L' h => h) (List.Perm.refl _) (evs_args rfl)) rfl ?_)
 (refine Cx.xorU rfl rfl rfl ?_)
 (refine Cx.addU rfl rfl rfl ?_)
 (refine Cx.move rfl rfl ?_)
 (refine Cx.indexArr rfl rfl (by decide) (by decide) rfl ?_)
 (refine Cx.load rfl 0 rfl rfl rfl ?_)
 (refine Cx.andU rfl rfl rfl ?_)
 (refine Cx.move rfl rfl ?_)
 (refine Cx.notU rfl rfl ?_)
 (refine Cx.indexArr rfl rfl (by decide) (by decide) rfl ?_)
 (refine Cx.load rfl 0 rfl rfl rfl ?_)
 (refine Cx.andU rfl rfl rfl ?_)
 (refine Cx.xorU rfl rfl rfl ?_)
 (refine Cx.addU rfl rfl rfl ?_)
 (refine Cx.move rfl rfl ?_)
 (refine Cx.index0 i rfl rfl rfl (by omega) rfl ?_)
 (refine Cx.loadG rfl 0 rfl hk rfl ?_)
 (refine Cx.addU rfl rfl rfl ?_)
 (refine Cx.move rfl rfl ?_)
 (refine Cx.index0 i rfl rfl rfl (by omega) rfl ?_)
 (refine Cx.loadA u32 0 rfl 1 rfl (by omega) rfl ?_)
 (refine Cx.addU rfl rfl rfl ?_)
 (refine Cx.assign rfl rfl ?_)
 (refine SegC.nil ?_)
 (refine N.seq (W.seq ?_))
 (refine W.draw follows ?_)
 (refine JD.calm rfl (by decide +kernel) ?_)
 (refine Cx.move rfl rfl ?_)
 (refine SegC.q (Qs.call (Lc := []) (rot_ok _ 2 (by decide)) (fun s L' h => h) (List.Perm.refl _) (evs_args rfl)) rfl ?_)
 (refine Cx.move rfl rfl ?_)
 (refine SegC.q (Qs.call (Lc := []) (rot_ok _ 13 (by decide)) (fun s L' h => h) (List.Perm.refl _) (evs_args rfl)) rfl ?_)
 (refine Cx.xorU rfl rfl rfl ?_)
 (refine Cx.move rfl rfl ?_)
 (refine SegC.q (Qs.call (Lc := []) (rot_ok _ 22 (by decide)) (fun s L' h => h) (List.Perm.refl _) (evs_args rfl)) rfl ?_)
 (refine Cx.xorU rfl rfl rfl ?_)
 (refine Cx.move rfl rfl ?_)
 (refine Cx.indexArr rfl rfl (by decide) (by decide) rfl ?_)
 (refine Cx.load rfl 0 rfl rfl rfl ?_)
 (refine Cx.andU rfl rfl rfl ?_)
 (refine Cx.move rfl rfl ?_)
 (refine Cx.indexArr rfl rfl (by decide) (by decide) rfl ?_)
 (refine Cx.load rfl 0 rfl rfl rfl ?_)
 (refine Cx.andU rfl rfl rfl ?_)
 (refine Cx.xorU rfl rfl rfl ?_)
 (refine Cx.indexArr rfl rfl (by decide) (by decide) rfl ?_)
 (refine Cx.load rfl 0 rfl rfl rfl ?_)
 (refine Cx.indexArr rfl rfl (by decide) (by decide) rfl ?_)
 (refine Cx.load rfl 0 rfl rfl rfl ?_)
 (refine Cx.andU rfl rfl rfl ?_)
 (refine Cx.xorU rfl rfl rfl ?_)
 (refine Cx.addU rfl rfl rfl ?_)
 (refine Cx.assign rfl rfl ?_)
 (refine SegC.nil ?_)
 (refine N.seq (W.region (Jx.move rfl rfl (Jx.move rfl rfl (Jx.addU rfl rfl rfl ?_)))))
 (refine Jx.move rfl rfl (Jx.indexArr rfl rfl (by decide) (by decide) rfl ?_))
 (refine Jx.load rfl 0 rfl rfl rfl ?_)
 (refine Jx.indexArr rfl rfl (by decide) (by decide) rfl ?_)
 (refine Jx.load rfl 0 rfl rfl rfl ?_)
 (refine Jx.indexArr rfl rfl (by decide) (by decide) rfl ?_)
 (refine Jx.load rfl 0 rfl rfl rfl ?_)
 (refine Jx.move rfl rfl (Jx.addU rfl rfl rfl ?_))
 (refine Jx.move rfl rfl (Jx.indexArr rfl rfl (by decide) (by decide) rfl ?_))
 (refine Jx.load rfl 0 rfl rfl rfl ?_)
 (refine Jx.indexArr rfl rfl (by decide) (by decide) rfl ?_)
 (refine Jx.load rfl 0 rfl rfl rfl ?_)
 (refine Jx.buildA rfl rfl rfl rfl rfl ?_)
 (refine J.storeAll rfl rfl rfl 0 rfl rfl rfl ?_)
 (refine J.nil (N.seq (W.region (Jx.add64 rfl rfl (by omega) rfl ?_))))
 (refine Jx.move rfl rfl (J.nil ?_))
 (refine id ?_; rotate_left))
    exact N.round (i + 1, s.round (kAt i) (ws.getD i 0)) ⟨by simp only; omega, by simp only; rw [hst, hW i h1]; rfl⟩ (by simp only; omega) rfl ⟨ref0 rfl, ref0 rfl, ref0 rfl, ref0 rfl, ref0 rfl, trivial⟩
  · have h64 : i = 64 := by omega
    rw [h64] at hst
    focus (
 (refine W.seq (W.region (Jx.lssI rfl rfl rfl (J.nil (N.seq (W.seq (W.cF rfl ?_)))))))
 (refine W.exit (N.seq (W.seq (W.seq (W.region (Jx.move rfl rfl (J.nil (N.seq (W.block ?_)))))))))
 (refine id ?_; rotate_left))
    refine W.loop (α := Nat × List Wd) (fun x => [(96, int x.1), (6, ptr b'), (4, ptr p4), (2, ptr p2)]) (fun x => [.obj b' 70 (x.2.map u32), tabO p5 ws, .obj p4 70 (S8.cells ⟨0, 0, 0, 0, 0, 0, 0, 0⟩), blkO p3 bs, .obj p2 70 (h.list.map u32)])
      (fun x => x.1 ≤ 8 ∧ x.2.length = 8 ∧ ∀ j, j < 8 → x.2.getD j 0 = if j < x.1 then s.list.getD j 0 + h.list.getD j 0 else s.list.getD j 0) (fun x => 8 - x.1) (0, s.list) ⟨by simp, rfl, fun j hj => by simp⟩ rfl ⟨ref0 rfl, ref0 rfl, ref0 rfl, ref0 rfl, trivial⟩ ?_
    rintro ⟨j, vs⟩ ⟨hj, hl, hv⟩
    simp only at hj hl hv ⊢
    by_cases h8 : j < 8
    · focus (
 (refine W.seq (W.region (Jx.lssI rfl rfl rfl (J.nil (N.seq (W.seq (W.cT rfl ?_)))))))
 (refine W.skip (N.seq (W.seq (W.block (W.seq (W.region (Jx.move rfl rfl (Jx.assign rfl rfl (J.nil (N.seq ?_))))))))))
 (refine W.draw follows ?_)
 (refine JD.upto (n := 8) rfl (by decide +kernel) (by decide +kernel) rfl rfl ?_)
 (refine Cx.move rfl rfl ?_)
 (refine Cx.index0 j rfl rfl rfl (by omega) rfl ?_)
 (refine Cx.loadA u32 0 rfl 0 rfl (by omega) rfl ?_)
 (refine Cx.move rfl rfl ?_)
 (refine Cx.index0 j rfl rfl rfl (by omega) rfl ?_)
 (refine Cx.loadA u32 0 rfl 4 rfl h8 rfl ?_)
 (refine Cx.addU rfl rfl rfl ?_)
 (refine Cx.index0 j rfl rfl rfl (by omega) rfl ?_)
 (refine SegC.nil ?_)
 (refine J.storeA u32 (vs.getD j 0 + h.list.getD j 0) rfl rfl (One.val rfl) 0 rfl (by omega) rfl ?_)
 (refine J.nil (N.seq (W.region (Jx.add64 rfl rfl (by omega) rfl ?_))))
 (refine Jx.move rfl rfl (J.nil ?_))
 (refine id ?_; rotate_left))
      refine N.round (j + 1, vs.set j (vs.getD j 0 + h.list.getD j 0)) ⟨by simp only; omega, by simp only [List.length_set]; exact hl, fun m hm => ?_⟩ (by simp only; omega) rfl ⟨ref0 rfl, ref0 rfl, ref0 rfl, ref0 rfl, trivial⟩
      exact add_step s.list h.list vs j h8 hl hv m hm
    · have e : vs = ((rounds h bs 64).add h).list := by
        rw [← hst]
        refine list8 (s.add h) hl fun m hm => ?_
        rw [hv m hm, if_pos (by omega)]
        match m, hm with
        | 0, _ => rfl
        | 1, _ => rfl
        | 2, _ => rfl
        | 3, _ => rfl
        | 4, _ => rfl
        | 5, _ => rfl
        | 6, _ => rfl
        | 7, _ => rfl
      focus (
 (refine W.seq (W.region (Jx.lssI rfl rfl rfl (J.nil (N.seq (W.seq (W.cF rfl ?_)))))))
 (refine W.exit (N.seq (W.seq (W.region (Jx.loadArr (by rw [List.length_map]; exact hl) rfl 0 rfl rfl ?_)))))
 (refine J.storeArr (by rw [List.length_map]; exact hl) rfl rfl 2 rfl rfl rfl ?_)
 (refine J.nil (N.seq (W.ret ?_)))
 (refine id ?_; rotate_left))
      refine N.retD (rs := [.cell 4 70]) (L1 := []) rfl (.cell rfl 2 rfl (by rw [List.length_map, hl]; infer_instance) .nil) (List.nil_sublist _) ⟨?_, rfl⟩
      rw [e]
      unfold blockS
      generalize rounds h bs 64 = r
      rfl
end Go.Proofs.YtafefapbiekmbaaDoor.Sha
namespace Go.Proofs.YtafefapbiekmbaaDoor.Sha
open Go Go.Sse
set_option linter.unusedVariables false
set_option linter.unusedSimpArgs false
set_option maxRecDepth 10000
def part (b : List UInt8) (j : Nat) : Nat → Wd
  | 0 => 0
  | n + 1 => part b j n * 256#32 + byteAt b (4 * j + n)
end Go.Proofs.YtafefapbiekmbaaDoor.Sha
namespace Go.Proofs.YtafefapbiekmbaaDoor.Sha
open Go Go.Sse
set_option maxRecDepth 10000
set_option linter.unusedVariables false
set_option linter.unusedSimpArgs false
end Go.Proofs.YtafefapbiekmbaaDoor.Sha
namespace Go.Proofs.YtafefapbiekmbaaDoor.Sha
open Go Go.Sse
set_option maxRecDepth 10000
set_option linter.unusedVariables false
set_option linter.unusedSimpArgs false
abbrev tU8 : Nat := 5
theorem told_get (h : S8) (i k : Nat) (hi : i < 8) (hk : k < 4) : (toldS h).getD (4 * i + k) 0 = (wordB (h.list.getD i 0)).getD k 0 := by
  match i, hi, k, hk with
  | 0, _, 0, _ => rfl
  | 0, _, 1, _ => rfl
  | 0, _, 2, _ => rfl
  | 0, _, 3, _ => rfl
  | 1, _, 0, _ => rfl
  | 1, _, 1, _ => rfl
  | 1, _, 2, _ => rfl
  | 1, _, 3, _ => rfl
  | 2, _, 0, _ => rfl
  | 2, _, 1, _ => rfl
  | 2, _, 2, _ => rfl
  | 2, _, 3, _ => rfl
  | 3, _, 0, _ => rfl
  | 3, _, 1, _ => rfl
  | 3, _, 2, _ => rfl
  | 3, _, 3, _ => rfl
  | 4, _, 0, _ => rfl
  | 4, _, 1, _ => rfl
  | 4, _, 2, _ => rfl
  | 4, _, 3, _ => rfl
  | 5, _, 0, _ => rfl
  | 5, _, 1, _ => rfl
  | 5, _, 2, _ => rfl
  | 5, _, 3, _ => rfl
  | 6, _, 0, _ => rfl
  | 6, _, 1, _ => rfl
  | 6, _, 2, _ => rfl
  | 6, _, 3, _ => rfl
  | 7, _, 0, _ => rfl
  | 7, _, 1, _ => rfl
  | 7, _, 2, _ => rfl
  | 7, _, 3, _ => rfl
theorem set4_get (bs : List UInt8) (i : Nat) (a b c d : UInt8) (hl : bs.length = 32) (hi : i < 8) (m : Nat) :
    ((((bs.set (4 * i) a).set (4 * i + 1) b).set (4 * i + 2) c).set (4 * i + 3) d).getD m 0 = if m = 4 * i then a else if m = 4 * i + 1 then b else if m = 4 * i + 2 then c else if m = 4 * i + 3 then d else bs.getD m 0 := by
  simp only [List.getD_eq_getElem?_getD, List.getElem?_set, List.length_set, hl]
  by_cases h0 : m = 4 * i
  · subst h0; simp [show ¬ 4 * i + 1 = 4 * i by omega, show ¬ 4 * i + 2 = 4 * i by omega, show ¬ 4 * i + 3 = 4 * i by omega, show 4 * i < 32 by omega]
  · by_cases h1 : m = 4 * i + 1
    · subst h1; simp [show ¬ 4 * i + 2 = 4 * i + 1 by omega, show ¬ 4 * i + 3 = 4 * i + 1 by omega, show 4 * i + 1 < 32 by omega]
    · by_cases h2 : m = 4 * i + 2
      · subst h2; simp [show ¬ 4 * i + 3 = 4 * i + 2 by omega, show 4 * i + 2 < 32 by omega]
      · by_cases h3 : m = 4 * i + 3
        · subst h3; simp [show 4 * i + 3 < 32 by omega]
        · simp [h0, h1, h2, h3, show ¬ 4 * i = m by omega, show ¬ 4 * i + 1 = m by omega, show ¬ 4 * i + 2 = m by omega, show ¬ 4 * i + 3 = m by omega]
theorem told_step (h : S8) (bs : List UInt8) (i : Nat) (hi : i < 8) (hl : bs.length = 32) (hb : ∀ m, m < 4 * i → bs.getD m 0 = (toldS h).getD m 0) (m : Nat) (hm : m < 4 * (i + 1)) :
    ((((bs.set (4 * i) ((wordB (h.list.getD i 0)).getD 0 0)).set (4 * i + 1) ((wordB (h.list.getD i 0)).getD 1 0)).set (4 * i + 2) ((wordB (h.list.getD i 0)).getD 2 0)).set (4 * i + 3) ((wordB (h.list.getD i 0)).getD 3 0)).getD m 0 = (toldS h).getD m 0 := by
  rw [set4_get _ _ _ _ _ _ hl hi]
  by_cases h0 : m = 4 * i
  · rw [if_pos h0, h0, ← told_get h i 0 hi (by omega)]; rfl
  · rw [if_neg h0]
    by_cases h1 : m = 4 * i + 1
    · rw [if_pos h1, h1, ← told_get h i 1 hi (by omega)]
    · rw [if_neg h1]
      by_cases h2 : m = 4 * i + 2
      · rw [if_pos h2, h2, ← told_get h i 2 hi (by omega)]
      · rw [if_neg h2]
        by_cases h3 : m = 4 * i + 3
        · rw [if_pos h3, h3, ← told_get h i 3 hi (by omega)]
        · rw [if_neg h3]; exact hb m (by omega)
theorem told_ext (h : S8) (bs : List UInt8) (hl : bs.length = 32) (hb : ∀ m, m < 32 → bs.getD m 0 = (toldS h).getD m 0) : bs = toldS h := by
  refine List.ext_getElem (by rw [hl, told_len]) fun m h1 h2 => ?_
  have := hb m (by omega)
  simpa [List.getD_eq_getElem?_getD, List.getElem?_eq_getElem h1, List.getElem?_eq_getElem h2] using this
set_option maxHeartbeats 4000000 in
theorem told_ok (h : S8) : FnC Tryd.prog 35 [.agg h.cells] [] (fun s L => s = str (toldS h) ∧ L = []) := by
  refine FnC.intro Tryd.func35 rfl Tryd.ntmps35 rfl fun Z w0 hG => ?_
  focus (
 (refine W.seq (W.region ?_))
 (refine J.boxAg rfl rfl ?_; intro b')
 (refine Jx.assign rfl rfl (J.nil (N.seq (W.seq (W.region ?_)))))
 (refine J.alloc (by simp only [List.map_cons, List.map_nil]; rfl) rfl rfl ?_; intro b')
 (refine J.nil (N.seq (W.seq (W.seq (W.region (Jx.loadAll rfl 1 rfl rfl rfl ?_))))))
 (refine Jx.move rfl rfl (J.nil (N.seq (W.block ?_))))
 (refine id ?_; rotate_left))
  rename_i p1
  refine W.loop (α := Nat × List UInt8) (fun x => [(7, int x.1), (6, .agg (h.list.map u32)), (3, ptr b'), (1, ptr p1)]) (fun x => [.obj b' 81 (x.2.map byte), .obj p1 70 h.cells]) (fun x => x.1 ≤ 8 ∧ x.2.length = 32 ∧ ∀ m, m < 4 * x.1 → x.2.getD m 0 = (toldS h).getD m 0) (fun x => 8 - x.1) (0, List.replicate 32 0) ⟨by simp, rfl, fun m hm => by simp at hm⟩ rfl ⟨ref0 rfl, ref0 rfl, ref0 rfl, ref0 rfl, trivial⟩ ?_
  rintro ⟨i, bs⟩ ⟨hi, hl, hb⟩
  simp only at hi hl hb ⊢
  by_cases h1 : i < 8
  · focus (
 (refine W.seq (W.region (Jx.lssI rfl rfl rfl (J.nil (N.seq (W.seq (W.cT rfl ?_)))))))
 (refine W.skip (N.seq (W.seq (W.block (W.seq (W.region (Jx.move rfl rfl ?_)))))))
 (refine Jx.indexAg u32 0 i rfl rfl rfl (by omega) (by exact h1) rfl ?_)
 (refine Jx.assign rfl rfl (Jx.assign rfl rfl (J.nil (N.seq (W.region (Jx.move rfl rfl (Jx.mul64 rfl rfl (by omega) rfl ?_)))))))
 (refine Jx.move rfl rfl (Jx.mul64 rfl rfl (by omega) rfl ?_))
 (refine Jx.add64 rfl rfl (by omega) rfl ?_)
 (refine Jx.move rfl rfl (Jx.mul64 rfl rfl (by omega) rfl ?_))
 (refine Jx.add64 rfl rfl (by omega) rfl ?_)
 (refine Jx.move rfl rfl (Jx.mul64 rfl rfl (by omega) rfl ?_))
 (refine Jx.add64 rfl rfl (by omega) rfl ?_)
 (refine Jx.move rfl rfl (Jx.shrU rfl rfl (by decide) rfl ?_))
 (refine Jx.convByte rfl rfl rfl ?_)
 (refine Jx.move rfl rfl (Jx.shrU rfl rfl (by decide) rfl ?_))
 (refine Jx.convByte rfl rfl rfl ?_)
 (refine Jx.move rfl rfl (Jx.shrU rfl rfl (by decide) rfl ?_))
 (refine Jx.convByte rfl rfl rfl ?_)
 (refine Jx.move rfl rfl (Jx.convByte rfl rfl rfl ?_))
 (refine Jx.index0 (4 * i) rfl rfl (by omega) (by omega) rfl ?_)
 (refine J.storeA byte ((wordB (h.list.getD i 0)).getD 0 0) rfl rfl (One.val rfl) 0 rfl (by (try simp only [List.length_set]); omega) rfl ?_)
 (refine Jx.index0 (4 * i + 1) rfl rfl (by omega) (by omega) rfl ?_)
 (refine J.storeA byte ((wordB (h.list.getD i 0)).getD 1 0) rfl rfl (One.val rfl) 0 rfl (by (try simp only [List.length_set]); omega) rfl ?_)
 (refine Jx.index0 (4 * i + 2) rfl rfl (by omega) (by omega) rfl ?_)
 (refine J.storeA byte ((wordB (h.list.getD i 0)).getD 2 0) rfl rfl (One.val rfl) 0 rfl (by (try simp only [List.length_set]); omega) rfl ?_)
 (refine Jx.index0 (4 * i + 3) rfl rfl (by omega) (by omega) rfl ?_)
 (refine J.storeA byte ((wordB (h.list.getD i 0)).getD 3 0) rfl rfl (One.val rfl) 0 rfl (by (try simp only [List.length_set]); omega) rfl ?_)
 (refine J.nil (N.seq (W.region (Jx.add64 rfl rfl (by omega) rfl ?_))))
 (refine Jx.move rfl rfl (J.nil ?_))
 (refine id ?_; rotate_left))
    exact N.round (i + 1, (((bs.set (4 * i) ((wordB (h.list.getD i 0)).getD 0 0)).set (4 * i + 1) ((wordB (h.list.getD i 0)).getD 1 0)).set (4 * i + 2) ((wordB (h.list.getD i 0)).getD 2 0)).set (4 * i + 3) ((wordB (h.list.getD i 0)).getD 3 0)) ⟨by simp only; omega, by simp only [List.length_set]; exact hl, fun m hm => told_step h bs i h1 hl hb m hm⟩ (by simp only; omega) rfl ⟨ref0 rfl, ref0 rfl, ref0 rfl, ref0 rfl, trivial⟩
  · have h8 : i = 8 := by omega
    have e : bs = toldS h := told_ext h bs hl fun m hm => hb m (by omega)
    focus (
 (refine W.seq (W.region (Jx.lssI rfl rfl rfl (J.nil (N.seq (W.seq (W.cF rfl ?_)))))))
 (refine W.exit (N.seq (W.seq (W.region (Jx.sliceArr rfl rfl ?_)))))
 (refine Jx.bytesStrObj bs rfl 0 rfl hl (fun k hk => by rw [Nat.zero_add]; exact getElem?_map_lt byte bs 0 k (by omega)) rfl ?_)
 (refine Jx.assign rfl rfl (J.nil (N.seq (W.ret ?_))))
 (refine id ?_; rotate_left))
    exact N.retD (rs := [.tmp 2]) (L1 := []) rfl (.tmp rfl .nil) (List.nil_sublist _) ⟨by rw [e]; rfl, rfl⟩
theorem el_byte (m : List UInt8) (j : Nat) (hj : j < m.length) : (elOf encB 0 m j).getD 0 .any = (m.map byte).getD j .any := by
  simp [elOf, encB, List.getD_eq_getElem?_getD, List.getElem?_map, List.getElem?_eq_getElem hj]
set_option maxHeartbeats 4000000 in
theorem blocks_ok (s0 : S8) (l0 : List UInt8) (hl0 : l0.length ≤ 4294967296) : FnC Tryd.prog 34 [.agg s0.cells, bsl l0] [] (fun s L => ∃ v, v.oneCell' = true ∧ s = .tup [.agg (blocksS s0 l0).1.cells, .val v] ∧ L = [.row v tU8 1 (blocksS s0 l0).2.length (elOf encB 0 (blocksS s0 l0).2)]) := by
  refine FnC.intro Tryd.func34 rfl Tryd.ntmps34 rfl fun Z w0 hG => ?_
  focus (
 (refine W.seq (W.region ?_))
 (refine J.boxAg rfl rfl ?_; intro b')
 (refine J.alloc (by simp only [List.map_cons, List.map_nil]; rfl) rfl rfl ?_; intro b')
 (refine Jx.assign rfl rfl (J.nil (N.seq (W.seq (W.block ?_)))))
 (refine id ?_; rotate_left))
  rename_i p2
  refine W.loop (α := S8 × List UInt8) (fun x => [(1, bsl x.2), (2, ptr p2), (4, ptr b')]) (fun x => [.obj b' 70 (S8.cells ⟨0, 0, 0, 0, 0, 0, 0, 0⟩), .obj p2 70 x.1.cells]) (fun x => blocksS x.1 x.2 = blocksS s0 l0 ∧ x.2.length ≤ 4294967296) (fun x => x.2.length) (s0, l0) ⟨rfl, hl0⟩ rfl ⟨ref0 rfl, ref0 rfl, ref0 rfl, trivial⟩ ?_
  rintro ⟨s, l⟩ ⟨he, hl⟩
  simp only at he hl ⊢
  by_cases h1 : 64 ≤ l.length
  · have hlen : (l.take 64).length = 64 := by rw [List.length_take]; omega
    focus (
 (refine W.seq (W.seq (W.region (Jx.move rfl rfl (Jx.lenSl rfl rfl ?_)))))
 (refine Jx.geqI rfl rfl rfl (J.nil (N.seq (W.cT rfl ?_))))
 (refine W.skip (N.seq (W.block (W.seq ?_))))
 (refine W.draw follows ?_)
 (refine JD.upto (n := 6) rfl (by decide +kernel) (by decide +kernel) rfl rfl ?_)
 (refine Cx.loadAll rfl 1 rfl rfl rfl ?_)
 (refine Cx.move rfl rfl ?_)
 (refine Cx.takeL 64 rfl rfl rfl h1 rfl ?_)
 (refine Cx.sliceArrPtr ((l.take 64).map byte) rfl (by omega) (by decide) (by rw [List.length_map]; exact hlen) (fun j hj => el_byte (l.take 64) j (by omega)) rfl ?_)
 (refine Cx.loadPPag rfl (List.take_of_length_le (by rw [List.length_map]; omega)) (by rw [List.length_map]; exact hlen) rfl ?_)
 (refine SegC.q (Qs.call (Lc := []) (block_ok s (l.take 64) hlen) (fun s L' h => h) (List.Perm.refl _) (evs_args rfl)) rfl ?_)
 (refine SegC.nil ?_)
 (refine J.storeAll rfl rfl rfl 1 rfl rfl rfl ?_)
 (refine J.nil (N.seq (W.region (Jx.move rfl rfl ?_))))
 (refine Jx.dropL 64 rfl rfl rfl h1 rfl ?_)
 (refine Jx.assign rfl rfl (J.nil (N.blockNormal ?_)))
 (refine id ?_; rotate_left))
    exact N.round (blockS s (l.take 64), l.drop 64) ⟨by simp only; rw [← blocksS_ge h1, he], by simp only [List.length_drop]; omega⟩ (by simp only [List.length_drop]; omega) rfl ⟨ref0 rfl, ref0 rfl, ref0 rfl, trivial⟩
  · have e2 : blocksS s l = (s, l) := blocksS_lt (by omega)
    rw [e2] at he
    focus (
 (refine W.seq (W.seq (W.region (Jx.move rfl rfl (Jx.lenSl rfl rfl ?_)))))
 (refine Jx.geqI rfl rfl rfl (J.nil (N.seq (W.cF rfl ?_))))
 (refine W.exit (N.seq (W.seq ?_)))
 (refine W.draw follows ?_)
 (refine JD.begin 5 rfl ?_; refine JP.more [0, 1] _ rfl (by decide +kernel) ?_)
 (refine Cx.loadAll rfl 1 rfl rfl rfl ?_)
 (refine Cx.move rfl rfl ?_)
 (refine SegC.nil ?_)
 (refine JP.rowNil tU8 1 (elOf encB 0 []) ?_; refine JP.append (idx := [0, 1]) (m := []) (m2 := l) 2 [18] [1, 2] [0] (by decide +kernel) rfl ?_ rfl (SrcOK.sl rfl) rfl rfl (by simp only [maxLen, List.length_nil]; omega) rfl ?_; rotate_left; intro v' hv'; simp only [List.nil_append]; rotate_left)
 (refine Cx.loadAll rfl 2 rfl rfl rfl ?_)
 (refine Cx.move rfl rfl ?_)
 (refine SegC.nil ?_)
 (refine Ag.cons rfl ?_)
 (refine Ag.cons rfl ?_)
 (refine Ag.nil)
 (refine JP.storeAll (idx := [0]) 3 [4, 17] [0, 1, 2, 3] [] (by decide +kernel) rfl ?_ rfl rfl rfl 1 rfl rfl rfl ?_)
 (refine Cx.loadAll rfl 2 rfl rfl rfl ?_)
 (refine SegC.nil ?_)
 (refine Ag.cons rfl ?_)
 (refine Ag.nil)
 (refine JP.tail (idx := []) 4 (by decide +kernel) (by decide +kernel) rfl rfl ?_ ?_)
 (refine SegC.nil ?_)
 (refine Ag.nil)
 (refine Jx.assign rfl rfl (J.nil (N.seq (W.ret ?_))))
 (refine id ?_; rotate_left))
    refine N.retD (rs := [.cell 4 70, .tmp 5]) (L1 := [.row v' tU8 1 l.length (elOf encB 0 l)]) rfl (.cell rfl 1 rfl inferInstance (.tmp rfl .nil)) (by simp) ⟨v', hv', ?_, ?_⟩
    · rw [← he]; rfl
    · rw [← he]
end Go.Proofs.YtafefapbiekmbaaDoor.Sha
namespace Go.Proofs.YtafefapbiekmbaaDoor.Sha
open Go Go.Sse
set_option maxRecDepth 10000
set_option linter.unusedVariables false
set_option linter.unusedSimpArgs false
abbrev tHash : Nat := 73
abbrev hraw (b : Nat) (v : Value) (s : S8) (tail : List UInt8) (n : Nat) : List Own :=
  [.row v tU8 1 tail.length (elOf encB 0 tail), .obj b tHash [u32 s.a, u32 s.b, u32 s.c, u32 s.d, u32 s.e, u32 s.f, u32 s.g, u32 s.h, .val v, int n]]
theorem new_ok : FnC Tryd.prog 25 [] [] (fun r L => ∃ b v, r = ptr b ∧ L = hraw b v first8 [] 0) := by
  refine FnC.intro Tryd.func25 rfl Tryd.ntmps25 rfl fun Z w0 hG => ?_
  focus (
 (refine W.seq (W.region (Jx.assign rfl rfl (J.nil (N.seq (W.seq (W.region ?_)))))))
 (refine J.call (first_ok) rfl (evs_args rfl) rfl ?_; rintro _ _ ⟨rfl, rfl⟩; simp only [la1, la2, la3])
 (refine Jx.buildB rfl rfl rfl rfl rfl ?_)
 (refine J.boxAg rfl rfl ?_; intro b')
 (refine Jx.assign rfl rfl (J.nil (N.seq (W.ret ?_))))
 (refine id ?_; rotate_left))
  refine N.rowNil tU8 1 (elOf encB 0 []) ?_
  exact N.ret (rs := [.tmp 0]) rfl (.tmp rfl .nil) ⟨b', .slice none 0 0, rfl, rfl⟩
set_option maxHeartbeats 4000000 in
theorem write_ok (b : Nat) (v : Value) (s : S8) (tail : List UInt8) (n : Nat) (x : List UInt8) (h1 : tail.length < 64) (h2 : n ≤ 2147483648) (h3 : x.length ≤ 2147483648) :
    FnC Tryd.prog 26 [ptr b, str x] (hraw b v s tail n) (fun r L => ∃ v', L = hraw b v' (blocksS s (tail ++ x)).1 (blocksS s (tail ++ x)).2 (n + x.length)) := by
  have c := blocks_ok s (tail ++ x) (by simp only [List.length_append]; omega)
  have hmax : (tail ++ x).length ≤ maxLen := by simp only [List.length_append, maxLen]; omega
  have hb : tail.length + x.length ≤ maxLen ∧ (tail.length + x.length) * 1 ≤ 140737488355328 := by simp only [maxLen]; omega
  generalize blocksS s (tail ++ x) = p at *
  obtain ⟨s2, tl2⟩ := p
  refine FnC.intro Tryd.func26 rfl Tryd.ntmps26 rfl fun Z w0 hG => ?_
  focus (
 (refine W.seq (W.region (Jx.move rfl rfl (Jx.nilCheck rfl rfl ?_))))
 (refine Jx.fieldAddr rfl rfl ?_)
 (refine Jx.load rfl 1 rfl rfl rfl ?_)
 (refine Jx.move rfl rfl (Jx.lenS rfl rfl ?_))
 (refine Jx.add64 rfl rfl (by omega) rfl ?_)
 (refine Jx.nilCheck rfl rfl ?_)
 (refine Jx.fieldAddr rfl rfl ?_)
 (refine J.store rfl rfl (One.val rfl) 1 rfl rfl rfl rfl ?_)
 (refine J.nil (N.seq ?_))
 (refine W.draw follows ?_)
 (refine JD.begin 22 rfl ?_; refine JP.more [0, 1, 2, 3, 4, 5, 6, 7, 8, 9, 10] _ rfl (by decide +kernel) ?_)
 (refine Cx.move rfl rfl ?_)
 (refine Cx.move rfl rfl ?_)
 (refine Cx.move rfl rfl ?_)
 (refine Cx.nilCheck rfl rfl ?_)
 (refine Cx.fieldAddr rfl rfl ?_)
 (refine Cx.loadAg rfl 1 rfl rfl rfl rfl ?_)
 (refine Cx.move rfl rfl ?_)
 (refine Cx.nilCheck rfl rfl ?_)
 (refine Cx.fieldAddr rfl rfl ?_)
 (refine Cx.load rfl 1 rfl rfl rfl ?_)
 (refine Cx.move rfl rfl ?_)
 (refine SegC.nil ?_)
 (refine JP.append (idx := [0, 1, 2, 3, 4, 5, 6, 7, 8, 9, 10]) (m := tail) (m2 := x) 11 [23, 24] [6, 7, 8, 9, 10, 11] [0, 1, 2, 3, 4, 5] (by decide +kernel) rfl ?_ rfl (SrcOK.str rfl) rfl rfl hb rfl ?_; rotate_left; intro v' hv'; refine JP.freeze 25 rfl (by decide +kernel) hmax ?_; rotate_left)
 (refine Cx.move rfl rfl ?_)
 (refine Cx.move rfl rfl ?_)
 (refine Cx.move rfl rfl ?_)
 (refine Cx.nilCheck rfl rfl ?_)
 (refine Cx.fieldAddr rfl rfl ?_)
 (refine Cx.loadAg rfl 1 rfl rfl rfl rfl ?_)
 (refine Cx.move rfl rfl ?_)
 (refine Cx.nilCheck rfl rfl ?_)
 (refine Cx.fieldAddr rfl rfl ?_)
 (refine Cx.load rfl 1 rfl rfl rfl ?_)
 (refine Cx.move rfl rfl ?_)
 (refine SegC.nil ?_)
 (refine Ag.cons rfl ?_)
 (refine Ag.cons rfl ?_)
 (refine Ag.cons rfl ?_)
 (refine Ag.cons rfl ?_)
 (refine Ag.cons rfl ?_)
 (refine Ag.cons rfl ?_)
 (refine Ag.cons rfl ?_)
 (refine Ag.cons rfl ?_)
 (refine Ag.cons rfl ?_)
 (refine Ag.cons rfl ?_)
 (refine Ag.cons rfl ?_)
 (refine Ag.nil)
 (refine JP.call (idx := [0, 1, 2, 3, 4, 5]) (Lc := []) 12 [19, 25] [2, 3, 4, 5, 6, 7, 8, 9, 10, 11, 12] [0, 1] c rfl (by decide +kernel) rfl ?_ (evs_args rfl) rfl ?_; rotate_left; rintro _ _ ⟨v2, hv2, rfl, rfl⟩; simp only [List.cons_append, List.nil_append]; refine JP.more [13, 14, 15, 16, 17] _ rfl (by decide +kernel) ?_; rotate_left)
 (refine Cx.move rfl rfl ?_)
 (refine Cx.move rfl rfl ?_)
 (refine Cx.move rfl rfl ?_)
 (refine Cx.nilCheck rfl rfl ?_)
 (refine Cx.fieldAddr rfl rfl ?_)
 (refine Cx.loadAg rfl 0 rfl rfl rfl rfl ?_)
 (refine SegC.nil ?_)
 (refine Ag.cons rfl ?_)
 (refine Ag.cons rfl ?_)
 (refine Ag.cons rfl ?_)
 (refine Ag.cons rfl ?_)
 (refine Ag.cons rfl ?_)
 (refine Ag.cons rfl ?_)
 (refine Ag.nil)
 (refine Cx.move rfl rfl ?_)
 (refine Cx.extract rfl rfl rfl ?_)
 (refine Cx.extract rfl rfl rfl ?_)
 (refine Cx.nilCheck rfl rfl ?_)
 (refine Cx.fieldAddr rfl rfl ?_)
 (refine SegC.nil ?_)
 (refine JP.storeAg (idx := [0, 1, 13, 14, 15, 16, 17]) 18 [30, 27] [0, 2, 3, 4, 5, 6, 7, 8, 9, 10, 11, 12, 13, 14, 16, 17, 18] [1, 15] (by decide +kernel) rfl ?_ rfl rfl rfl 1 rfl rfl rfl rfl ?_; rotate_left; refine JP.more [19, 20] _ rfl (by decide +kernel) ?_; rotate_left)
 (refine Cx.move rfl rfl ?_)
 (refine Cx.move rfl rfl ?_)
 (refine Cx.move rfl rfl ?_)
 (refine Cx.extract rfl rfl rfl ?_)
 (refine Cx.extract rfl rfl rfl ?_)
 (refine Cx.nilCheck rfl rfl ?_)
 (refine Cx.fieldAddr rfl rfl ?_)
 (refine SegC.nil ?_)
 (refine Ag.cons rfl ?_)
 (refine Ag.cons rfl ?_)
 (refine Ag.cons rfl ?_)
 (refine Ag.cons rfl ?_)
 (refine Ag.cons rfl ?_)
 (refine Ag.cons rfl ?_)
 (refine Ag.cons rfl ?_)
 (refine Ag.nil)
 (refine Cx.nilCheck rfl rfl ?_)
 (refine Cx.fieldAddr rfl rfl ?_)
 (refine SegC.nil ?_)
 (refine JP.store (idx := [1, 15, 19, 20]) 21 [32, 28] [0, 1, 2, 3, 4, 5, 6, 7, 8, 9, 10, 11, 12, 13, 14, 15, 16, 17, 18, 19, 20, 21] [] (by decide +kernel) rfl ?_ rfl rfl (One.val hv2) 1 rfl rfl rfl rfl ?_)
 (refine Cx.move rfl rfl ?_)
 (refine Cx.extract rfl rfl rfl ?_)
 (refine Cx.nilCheck rfl rfl ?_)
 (refine Cx.fieldAddr rfl rfl ?_)
 (refine SegC.nil ?_)
 (refine Ag.cons rfl ?_)
 (refine Ag.cons rfl ?_)
 (refine Ag.cons rfl ?_)
 (refine Ag.cons rfl ?_)
 (refine Ag.nil)
 (refine JP.tail (idx := []) 22 (by decide +kernel) (by decide +kernel) rfl rfl ?_ ?_)
 (refine SegC.nil ?_)
 (refine Ag.nil)
 (refine J.nil ?_)
 (refine id ?_; rotate_left))
  exact N.fin (rs := []) rfl .nil ⟨v2, rfl⟩
end Go.Proofs.YtafefapbiekmbaaDoor.Sha
namespace Go.Proofs.YtafefapbiekmbaaDoor.Sha
open Go Go.Sse
set_option maxRecDepth 10000
set_option linter.unusedVariables false
set_option linter.unusedSimpArgs false
theorem zeros_stop (n k : Nat) (hk : k ≤ zerosOf n) (r : Nat) (hr : r = n % 64) : ((((r + 1 + k : Nat) : Int)) % 64 = 56) ↔ k = zerosOf n := by
  unfold zerosOf at *
  subst hr
  constructor
  · intro h; omega
  · intro h; subst h; omega
theorem lenB_take (n i : Nat) (h : i < 8) : (lenB n).take i ++ [UInt8.ofNat (n * 8 / 2 ^ (56 - 8 * i))] = (lenB n).take (i + 1) := by
  have hl : i < (lenB n).length := by rw [lenB_len]; exact h
  rw [List.take_add_one, List.getElem?_eq_getElem hl]
  simp [lenB]
theorem zerosOf_lt (n : Nat) : zerosOf n < 64 := Nat.mod_lt _ (by omega)
set_option maxHeartbeats 4000000 in
theorem sum_ok (b : Nat) (v : Value) (s : S8) (tail : List UInt8) (n : Nat) (h1 : tail.length = n % 64) (h2 : n ≤ 4294967296) :
    FnC Tryd.prog 27 [ptr b] (hraw b v s tail n) (fun r L => r = str (toldS (blocksS s (tail ++ padS n)).1) ∧ L = hraw b v s tail n) := by
  have hz := zerosOf_lt n
  have ht : tail.length < 64 := by omega
  have c := blocks_ok s (tail ++ padS n) (by simp only [padS, List.length_append, List.length_cons, List.length_nil, List.length_replicate, lenB_len]; omega)
  have hb0 : tail.length ≤ maxLen ∧ tail.length * 1 ≤ 140737488355328 := by simp only [maxLen]; omega
  have hb1 : tail.length + [(128 : UInt8)].length ≤ maxLen ∧ (tail.length + [(128 : UInt8)].length) * 1 ≤ 140737488355328 := by simp only [maxLen, List.length_cons, List.length_nil]; omega
  have hpad : tail ++ [128] ++ List.replicate (zerosOf n) 0 ++ lenB n = tail ++ padS n := by simp [padS]
  generalize hp : blocksS s (tail ++ padS n) = p at *
  obtain ⟨s2, tl2⟩ := p
  refine FnC.intro Tryd.func27 rfl Tryd.ntmps27 rfl fun Z w0 hG => ?_
  focus (
 (refine W.seq (W.region (Jx.assign rfl rfl (J.nil (N.seq (W.seq (W.region (Jx.move rfl rfl (Jx.nilCheck rfl rfl ?_)))))))))
 (refine Jx.fieldAddr rfl rfl ?_)
 (refine Jx.load rfl 1 rfl rfl rfl ?_)
 (refine J.appendNil (l2 := tail) (SrcOK.row rfl 1 rfl) rfl rfl hb0 rfl ?_; intro v1 hv1)
 (refine Jx.assign rfl rfl (J.nil (N.seq (W.seq (W.region (Jx.move rfl rfl ?_))))))
 (refine J.qs (Qs.buildBytes [128] rfl rfl rfl (by decide) (by decide)) rfl ?_)
 (refine J.appendL (l2 := [128]) rfl (SrcOK.sl rfl) rfl rfl hb1 rfl ?_; intro v2 hv2)
 (refine Jx.assign rfl rfl (J.nil (N.seq (W.seq (W.block ?_)))))
 (refine id ?_; rotate_left))
  refine W.loop (α := Nat × Value) (fun x => [(3, .val x.2), (0, ptr b)]) (fun x => .row x.2 tU8 1 (tail ++ [128] ++ List.replicate x.1 0).length (elOf encB 0 (tail ++ [128] ++ List.replicate x.1 0)) :: hraw b v s tail n) (fun x => x.1 ≤ zerosOf n) (fun x => zerosOf n - x.1) (0, v2) (by simp) (by simp only [List.replicate_zero, List.append_nil]) ⟨ref0 rfl, ref0 rfl, trivial⟩ ?_
  rintro ⟨k, u⟩ hk
  simp only at hk ⊢
  have hst := zeros_stop n k hk tail.length h1
  have hel : (tail ++ [128] ++ List.replicate k (0 : UInt8)).length = tail.length + 1 + k := by simp only [List.length_append, List.length_cons, List.length_nil, List.length_replicate]
  have hb2 : (tail ++ [128] ++ List.replicate k (0 : UInt8)).length + [(0 : UInt8)].length ≤ maxLen ∧ ((tail ++ [128] ++ List.replicate k (0 : UInt8)).length + [(0 : UInt8)].length) * 1 ≤ 140737488355328 := by rw [hel]; simp only [maxLen, List.length_cons, List.length_nil]; omega
  have hnext : tail ++ [128] ++ List.replicate k (0 : UInt8) ++ [0] = tail ++ [128] ++ List.replicate (k + 1) 0 := by rw [List.replicate_succ']; simp
  by_cases hkz : k = zerosOf n
  · have hc : (((tail ++ [128] ++ List.replicate k (0 : UInt8)).length : Nat) : Int) % 64 = 56 := by rw [hel]; exact hst.2 hkz
    rw [hkz] at hc hel ⊢
    generalize hE : tail ++ [128] ++ List.replicate (zerosOf n) (0 : UInt8) = e at *
    focus (
 (refine W.seq (W.seq (W.region (Jx.move rfl rfl (Jx.lenRow rfl 0 rfl rfl ?_)))))
 (refine Jx.rem64 rfl rfl (by omega) (by decide) rfl ?_)
 (refine Jx.neqI rfl rfl rfl (J.nil (N.seq (W.cF rfl ?_))))
 (refine W.exit (N.seq (W.seq (W.region (Jx.move rfl rfl (Jx.nilCheck rfl rfl ?_))))))
 (refine Jx.fieldAddr rfl rfl ?_)
 (refine Jx.load rfl 2 rfl rfl rfl ?_)
 (refine Jx.convU64 n rfl rfl rfl (by omega) rfl ?_)
 (refine Jx.mulU64 8 rfl rfl (by omega) rfl ?_)
 (refine Jx.assign rfl rfl (J.nil (N.seq (W.seq (W.seq (W.region (Jx.move rfl rfl (J.nil (N.seq (W.block ?_))))))))))
 (refine id ?_; rotate_left))
    refine W.loop (α := Nat × Value) (fun x => [(29, int x.1), (3, .val x.2), (4, u64 (n * 8)), (0, ptr b)]) (fun x => .row x.2 tU8 1 (e ++ (lenB n).take x.1).length (elOf encB 0 (e ++ (lenB n).take x.1)) :: hraw b v s tail n) (fun x => x.1 ≤ 8) (fun x => 8 - x.1) (0, u) (by simp) (by simp only [List.take_zero, List.append_nil]) ⟨ref0 rfl, ref0 rfl, ref0 rfl, ref0 rfl, trivial⟩ ?_
    rintro ⟨i, u⟩ hi
    simp only at hi ⊢
    have hlt : ((lenB n).take i).length ≤ 8 := by rw [List.length_take]; omega
    have hel2 : (e ++ (lenB n).take i).length ≤ 200 := by rw [List.length_append]; omega
    by_cases h8 : i < 8
    · have hb3 : (e ++ (lenB n).take i).length + [UInt8.ofNat (n * 8 / 2 ^ (56 - 8 * i))].length ≤ maxLen ∧ ((e ++ (lenB n).take i).length + [UInt8.ofNat (n * 8 / 2 ^ (56 - 8 * i))].length) * 1 ≤ 140737488355328 := by simp only [maxLen, List.length_cons, List.length_nil]; omega
      have hn2 : e ++ (lenB n).take i ++ [UInt8.ofNat (n * 8 / 2 ^ (56 - 8 * i))] = e ++ (lenB n).take (i + 1) := by rw [List.append_assoc, lenB_take n i h8]
      generalize hm : e ++ (lenB n).take i = m at *
      focus (
 (refine W.seq (W.region (Jx.lssI rfl rfl rfl (J.nil (N.seq (W.seq (W.cT rfl ?_)))))))
 (refine W.skip (N.seq (W.seq (W.block (W.seq (W.region (Jx.move rfl rfl (Jx.assign rfl rfl (J.nil (N.seq (W.region (Jx.move rfl rfl (Jx.move rfl rfl (Jx.move rfl rfl ?_))))))))))))))
 (refine Jx.mul64 rfl rfl (by omega) rfl ?_)
 (refine Jx.sub64 rfl rfl (by omega) rfl ?_)
 (refine Jx.shrN (s := 56 - 8 * i) rfl rfl (by omega) (by simp only [IntKind.bits]; omega) rfl ?_)
 (refine Jx.numByte (n * 8 / 2 ^ (56 - 8 * i)) rfl rfl rfl rfl ?_)
 (refine J.qs (Qs.buildBytes [UInt8.ofNat (n * 8 / 2 ^ (56 - 8 * i))] rfl rfl rfl (by decide) (by decide)) rfl ?_)
 (refine J.appendL (l2 := [UInt8.ofNat (n * 8 / 2 ^ (56 - 8 * i))]) rfl (SrcOK.sl rfl) rfl rfl hb3 rfl ?_; intro v3 hv3)
 (refine Jx.assign rfl rfl (J.nil (N.seq (W.region (Jx.add64 rfl rfl (by omega) rfl ?_)))))
 (refine Jx.move rfl rfl (J.nil ?_))
 (refine id ?_; rotate_left))
      exact N.round (i + 1, v3) (by simp only; omega) (by simp only; omega) (by simp only [hn2]) ⟨ref0 rfl, ref0 rfl, ref0 rfl, ref0 rfl, trivial⟩
    · have h8' : i = 8 := by omega
      have hall : e ++ (lenB n).take i = tail ++ padS n := by rw [h8', List.take_of_length_le (by rw [lenB_len]; omega), hpad]
      rw [hall]
      rw [hall] at hel2
      refine W.freeze 3 rfl (by simp only [maxLen]; omega) ?_
      focus (
 (refine W.seq (W.region (Jx.lssI rfl rfl rfl (J.nil (N.seq (W.seq (W.cF rfl ?_)))))))
 (refine W.exit (N.seq (W.seq (W.region (Jx.move rfl rfl (Jx.nilCheck rfl rfl ?_))))))
 (refine Jx.fieldAddr rfl rfl ?_)
 (refine Jx.loadAg rfl 1 rfl rfl rfl rfl ?_)
 (refine Jx.move rfl rfl ?_)
 (refine J.call c rfl (evs_args rfl) rfl ?_; rintro _ _ ⟨v4, hv4, rfl, rfl⟩; simp only [List.cons_append, List.nil_append])
 (refine Jx.move rfl rfl (Jx.extract rfl rfl rfl ?_))
 (refine Jx.extract rfl rfl rfl ?_)
 (refine J.alloc (by simp only [List.map_cons, List.map_nil]; rfl) rfl rfl ?_; intro b')
 (refine J.storeAll rfl rfl rfl 0 rfl rfl rfl ?_)
 (refine Jx.assign rfl rfl (J.nil (N.seq (W.seq (W.region (Jx.loadAll rfl 0 rfl rfl rfl ?_))))))
 (refine J.call (told_ok s2) rfl (evs_args rfl) rfl ?_; rintro _ _ ⟨rfl, rfl⟩; simp only [la1, la2, la3])
 (refine Jx.assign rfl rfl (J.nil (N.seq (W.ret ?_))))
 (refine id ?_; rotate_left))
      exact N.retD (rs := [.tmp 2]) (L1 := hraw b v s tail n) rfl (.tmp rfl .nil) (by simp) ⟨rfl, rfl⟩
  · have hc : ¬ (((tail ++ [128] ++ List.replicate k (0 : UInt8)).length : Nat) : Int) % 64 = 56 := by rw [hel]; exact fun h => hkz (hst.1 h)
    generalize hE : tail ++ [128] ++ List.replicate k (0 : UInt8) = e at *
    focus (
 (refine W.seq (W.seq (W.region (Jx.move rfl rfl (Jx.lenRow rfl 0 rfl rfl ?_)))))
 (refine Jx.rem64 rfl rfl (by omega) (by decide) rfl ?_)
 (refine Jx.neqI rfl rfl rfl (J.nil (N.seq (W.cT rfl ?_))))
 (refine W.skip (N.seq (W.block (W.region (Jx.move rfl rfl ?_)))))
 (refine J.qs (Qs.buildBytes [0] rfl rfl rfl (by decide) (by decide)) rfl ?_)
 (refine J.appendL (l2 := [0]) rfl (SrcOK.sl rfl) rfl rfl hb2 rfl ?_; intro v3 hv3)
 (refine Jx.assign rfl rfl (J.nil (N.blockNormal ?_)))
 (refine id ?_; rotate_left))
    exact N.round (k + 1, v3) (by simp only; omega) (by simp only; omega) (by simp only [hnext]) ⟨ref0 rfl, ref0 rfl, trivial⟩
theorem hsum_ok (x : List UInt8) (hx : x.length ≤ 2147483648) : FnC Tryd.prog 13 [str x] [] (fun r L => r = str (shaS x) ∧ L = []) := by
  have hl := blocksS_left x.length first8 x (Nat.le_refl _)
  have happ := blocksS_app x.length first8 x (padS x.length) (Nat.le_refl _)
  have c2 : ∀ b v, FnC Tryd.prog 26 [ptr b, str x] (hraw b v first8 [] 0) (fun r L => ∃ v', L = hraw b v' (blocksS first8 x).1 (blocksS first8 x).2 x.length) := fun b v => by
    have := write_ok b v first8 [] 0 x (by simp) (by omega) hx
    simpa using this
  have c3 := fun b v => sum_ok b v (blocksS first8 x).1 (blocksS first8 x).2 x.length hl (by omega)
  rw [← happ] at c3
  change ∀ b v, FnC Tryd.prog 27 [ptr b] (hraw b v (blocksS first8 x).1 (blocksS first8 x).2 x.length) (fun r L => r = str (shaS x) ∧ L = hraw b v (blocksS first8 x).1 (blocksS first8 x).2 x.length) at c3
  generalize blocksS first8 x = p at *
  refine FnC.intro Tryd.func13 rfl Tryd.ntmps13 rfl fun Z w0 hG => ?_
  focus (
 (refine W.seq (W.region (Jx.assign rfl rfl (J.nil (N.seq (W.seq (W.region ?_)))))))
 (refine J.call new_ok rfl (evs_args rfl) rfl ?_; rintro _ _ ⟨b, v, rfl, rfl⟩; simp only [la1, la2, la3])
 (refine Jx.assign rfl rfl (J.nil (N.seq (W.seq (W.region (Jx.move rfl rfl (Jx.move rfl rfl ?_)))))))
 (refine J.call (c2 b v) rfl (evs_args rfl) rfl ?_; rintro _ _ ⟨v2, rfl⟩; simp only [la1, la2, la3])
 (refine J.nil (N.seq (W.seq (W.region (Jx.move rfl rfl ?_)))))
 (refine J.call (c3 b v2) rfl (evs_args rfl) rfl ?_; rintro _ _ ⟨rfl, rfl⟩; simp only [la1, la2, la3])
 (refine Jx.assign rfl rfl (J.nil (N.seq (W.ret ?_))))
 (refine id ?_; rotate_left))
  exact N.retD (rs := [.tmp 2]) (L1 := []) rfl (.tmp rfl .nil) (List.nil_sublist _) ⟨rfl, rfl⟩
end Go.Proofs.YtafefapbiekmbaaDoor.Sha
namespace Go.Proofs.YtafefapbiekmbaaDoor.Sha
open Go Go.Sse
set_option linter.unusedVariables false
set_option linter.unusedSimpArgs false
set_option maxRecDepth 100000
end Go.Proofs.YtafefapbiekmbaaDoor.Sha
namespace Go.Proofs.YtafefapbiekmbaaDoor
open Go Go.Sse Go.ChangeShapes Go.WideShapes Go.ChangeAt Go.RowKit
set_option linter.unusedVariables false
set_option linter.unusedSimpArgs false
abbrev Z0 : Nat → Prop := fun _ => False
structure Rd (P : Program) (T : TypeId) (α : Type) where
  enc : α → List SV
  sz : Nat
  dflt : α
  good : α → Prop
  bulk : α → Nat
  cells : P.cellsOf T = sz
  len : ∀ a, (enc a).length = sz
  read : ∀ {H : Type} {en : TypeId × Value → H} {w : World} {base : Nat} {sp : Nat → Bool} {held : Bool} {fuel : Nat} {cs : List Value} {x : DataW H × List MemPlace},
    DataW.trod en P w base sp held fuel T cs = some x → ∃ a, good a ∧ bulk a ≤ Rows.uptoBulk x.1 ∧ cs.length = sz ∧ (∀ c ∈ cs, c.oneCell' = true) ∧ ∀ j, j < sz → Rel Z0 w ((enc a).getD j .any) (cs.getD j undef)
section
variable {P : Program} {T E : TypeId} {α β : Type}
def Rd.int {k : IntKind} (h : P.underlying T = some (.int k)) (hc : P.cellsOf T = 1) : Rd P T Int where
  enc n := [.val (.int k n)]
  sz := 1
  dflt := 0
  good n := (Lit.int k n).wf = true
  bulk _ := 1
  cells := hc
  len _ := rfl
  read := by
    intro H en w base sp held fuel cs x hx
    obtain ⟨n, rfl, rfl, hw⟩ := DataW.trod_int h hx
    refine ⟨n, hw, by simp [Rows.uptoBulk], rfl, by simp [Value.oneCell'], fun j hj => ?_⟩
    obtain rfl : j = 0 := by omega
    exact .val _
def Rd.bool (h : P.underlying T = some .bool) (hc : P.cellsOf T = 1) : Rd P T Bool where
  enc b := [.val (.bool b)]
  sz := 1
  dflt := false
  good _ := True
  bulk _ := 1
  cells := hc
  len _ := rfl
  read := by
    intro H en w base sp held fuel cs x hx
    obtain ⟨n, rfl, rfl⟩ := DataW.trod_bool h hx
    refine ⟨n, trivial, by simp [Rows.uptoBulk], rfl, by simp [Value.oneCell'], fun j hj => ?_⟩
    obtain rfl : j = 0 := by omega
    exact .val _
def Rd.str (h : P.underlying T = some .string) (hc : P.cellsOf T = 1) : Rd P T (List UInt8) where
  enc s := [Sse.str s]
  sz := 1
  dflt := []
  good s := s.length ≤ maxLen
  bulk s := s.length + 1
  cells := hc
  len _ := rfl
  read := by
    intro H en w base sp held fuel cs x hx
    obtain ⟨s, rfl, rfl, hw⟩ := DataW.trod_string h hx
    have hl : s.data.toList.length = s.size := Array.length_toList
    refine ⟨s.data.toList, by rw [hl]; exact hw, by simp only [Rows.uptoBulk]; exact Nat.le_refl _, rfl, by simp [Value.oneCell'], fun j hj => ?_⟩
    obtain rfl : j = 0 := by omega
    have e : Sse.str s.data.toList = .val (.string s) := rfl
    simp only [List.getD_cons_zero, e]
    exact .val _
theorem exists_list {d : α} {p : Nat → α → Prop} (n : Nat) (h : ∀ i, i < n → ∃ a, p i a) : ∃ l : List α, l.length = n ∧ ∀ i, i < n → p i (l.getD i d) := by
  induction n with
  | zero => exact ⟨[], rfl, fun i hi => by omega⟩
  | succ n ih =>
    obtain ⟨l, hl, hp⟩ := ih fun i hi => h i (by omega)
    obtain ⟨a, ha⟩ := h n (by omega)
    refine ⟨l ++ [a], by simp [hl], fun i hi => ?_⟩
    rw [List.getD_eq_getElem?_getD]
    by_cases hi' : i < n
    · rw [List.getElem?_append_left (by omega)]
      have := hp i hi'
      rwa [List.getD_eq_getElem?_getD] at this
    · obtain rfl : i = n := by omega
      rw [List.getElem?_append_right (by omega), hl, Nat.sub_self]
      exact ha
theorem bulkAll_le {H : Type} (f : α → Nat) (d : α) : ∀ (l : List α) (xs : List (DataW H)), l.length = xs.length → (∀ i, i < l.length → f (l.getD i d) ≤ Rows.uptoBulk (xs.getD i .nil)) → (l.map f).sum ≤ Rows.uptoBulkAll xs
  | [], [], _, _ => by simp
  | a :: l, x :: xs, hl, h => by
    have h0 := h 0 (by simp)
    have hr := bulkAll_le f d l xs (by simpa using hl) fun i hi => by simpa using h (i + 1) (by simpa using hi)
    simp only [List.map_cons, List.sum_cons, Rows.uptoBulkAll]
    simp only [List.getD_cons_zero] at h0
    omega
theorem getD_mem_all {p : α → Prop} {d : α} {l : List α} (h : ∀ i, i < l.length → p (l.getD i d)) : ∀ a ∈ l, p a := by
  intro a ha
  obtain ⟨i, hi, rfl⟩ := List.mem_iff_getElem.1 ha
  have := h i hi
  rwa [List.getD_eq_getElem?_getD, List.getElem?_eq_getElem hi] at this
theorem cells_addr {w : World} {base b off : Nat} {spot : Option Nat} {n : Nat} {cs : List Value} (k : Nat) (h : w.cells? base (Addr.add ⟨b, off, spot⟩ k) n = some cs) : ∀ j, j < n → w.cell? ⟨b, off + k + j, none⟩ = cs[j]? := by
  obtain ⟨_, hl, hc⟩ := World.cells?_some h
  intro j hj
  have := hc j hj
  rw [← this]
  by_cases h0 : k = 0 ∧ j = 0
  · obtain ⟨rfl, rfl⟩ := h0
    simp only [Addr.add, if_true, Nat.add_zero]
    simp only [Addr.add, if_true] at this
    have h1 : cs[0]? ≠ none := by rw [List.getElem?_eq_getElem (by omega)]; simp
    rw [← this] at h1
    unfold World.cell? at h1 ⊢
    simp only at h1 ⊢
    cases hb : w.heap[b]? with
    | none => simp [hb] at h1
    | some o =>
      rw [hb] at h1
      cases o with
      | cells c _ _ =>
        cases spot with
        | none => rfl
        | some _ => simp at h1
      | _ => exact absurd rfl h1
  · by_cases hk : k = 0
    · subst hk
      have hj0 : j ≠ 0 := fun e => h0 ⟨rfl, e⟩
      simp [Addr.add, hj0]
    · by_cases hj0 : j = 0
      · subst hj0; simp [Addr.add, hk]
      · simp [Addr.add, hk, hj0, Nat.add_assoc]
theorem spot_none {w : World} {base b off : Nat} {spot : Option Nat} {n : Nat} {cs : List Value} (hn : 0 < n) (h : w.cells? base (Addr.add ⟨b, off, spot⟩ 0) n = some cs) : spot = none := by
  obtain ⟨_, hl, hc⟩ := World.cells?_some h
  have := hc 0 hn
  simp only [Addr.add, if_true] at this
  cases spot with
  | none => rfl
  | some s =>
    exfalso
    have h1 : cs[0]? ≠ none := by rw [List.getElem?_eq_getElem (by omega)]; simp
    rw [← this] at h1
    unfold World.cell? at h1
    revert h1
    simp only [Option.isSome_some, if_true]
    split <;> simp
def Rd.slice (h : P.underlying T = some (.slice E)) (hc : P.cellsOf T = 1) (r : Rd P E α) (hs : Nat.blt 0 r.sz = true) : Rd P T (List α) where
  enc l := [.sl r.sz l.length (elOf r.enc r.dflt l)]
  sz := 1
  dflt := []
  good l := l.length ≤ maxLen ∧ ∀ a ∈ l, r.good a
  bulk l := (l.map r.bulk).sum + 1
  cells := hc
  len _ := rfl
  read := by
    intro H en w base sp held fuel cs x hx
    have hpos : 0 < r.sz := by simpa [Nat.blt_eq] using hs
    rcases DataW.trod_slice h hx with ⟨rfl, rfl⟩ | ⟨⟨b, off, spot⟩, len, cap, elems, rest, n, _, rfl, rfl, hb, hl, hm, hlen, hel, hsp, hns⟩
    · refine ⟨[], ⟨by simp, by simp⟩, by simp [Rows.uptoBulk], rfl, by simp [Value.oneCell'], fun j hj => ?_⟩
      obtain rfl : j = 0 := by omega
      exact .sl _ _ _ _ _ (fun _ => undef) (by simp) (by simp) (.inl (by simp)) (by simp) (by simp) (by simp)
    · have each : ∀ i, i < len → ∃ a, ∃ cs' x', w.cells? base (Addr.add ⟨b, off, spot⟩ (i * r.sz)) r.sz = some cs' ∧ elems[i]? = some x' ∧ r.good a ∧ r.bulk a ≤ Rows.uptoBulk x'.1 ∧ cs'.length = r.sz ∧ (∀ c ∈ cs', c.oneCell' = true) ∧ ∀ j, j < r.sz → Rel Z0 w ((r.enc a).getD j .any) (cs'.getD j undef) := by
        intro i hi
        have h1 := hel i hi
        rw [r.cells, List.getElem?_eq_getElem (by omega), Option.bind_eq_some_iff] at h1
        obtain ⟨cs', hcs, ht⟩ := h1
        obtain ⟨a, h2, h3, h4, h5, h6⟩ := r.read ht
        exact ⟨a, cs', _, hcs, List.getElem?_eq_getElem (by omega), h2, h3, h4, h5, h6⟩
      obtain ⟨l, hll, hp⟩ := exists_list (d := r.dflt) len each
      have cell : ∀ i j, i < len → j < r.sz → ∃ v, w.cell? ⟨b, off + (i * r.sz + j), none⟩ = some v ∧ v.oneCell' = true ∧ Rel Z0 w ((r.enc (l.getD i r.dflt)).getD j .any) v := by
        intro i j hi hj
        obtain ⟨cs', x', h1, _, _, _, h4, h5, h6⟩ := hp i hi
        have hj' : j < cs'.length := by omega
        refine ⟨cs'[j], ?_, h5 _ (List.getElem_mem _), ?_⟩
        · have := cells_addr (i * r.sz) h1 j hj
          rw [List.getElem?_eq_getElem hj'] at this
          rw [← Nat.add_assoc]; exact this
        · have := h6 j hj
          rwa [List.getD_eq_getElem?_getD (l := cs'), List.getElem?_eq_getElem hj'] at this
      refine ⟨l, ⟨by omega, ?_⟩, ?_, rfl, by simp [Value.oneCell'], fun j hj => ?_⟩
      · refine getD_mem_all (d := r.dflt) fun i hi => ?_
        obtain ⟨_, _, _, _, h2, _⟩ := hp i (by omega)
        exact h2
      · have := bulkAll_le r.bulk r.dflt l (elems.map (·.1)) (by simp [hll, hlen]) fun i hi => by
          obtain ⟨_, x', _, h1, _, h3, _⟩ := hp i (by omega)
          have e : (elems.map (·.1)).getD i .nil = x'.1 := by simp [List.getD_eq_getElem?_getD, h1]
          rw [e]; exact h3
        simp only [Rows.uptoBulk]; omega
      · obtain rfl : j = 0 := by omega
        simp only [List.getD_cons_zero]
        rw [hll]
        have hdec : ∀ k, k < len * r.sz → k / r.sz < len ∧ k % r.sz < r.sz ∧ k / r.sz * r.sz + k % r.sz = k := fun k hk => by
          refine ⟨Nat.div_lt_of_lt_mul (by rw [Nat.mul_comm]; exact hk), Nat.mod_lt _ hpos, ?_⟩
          rw [Nat.mul_comm]; exact Nat.div_add_mod k r.sz
        refine .sl _ _ _ _ _ (fun k => (w.cell? ⟨b, off + k, none⟩).getD undef) hl hm ?_ ?_ (fun i hi => r.len _) ?_
        · rcases Nat.eq_zero_or_pos len with h0 | h0
          · exact .inl (by simp [h0])
          · right
            obtain ⟨cs', _, h1, _⟩ := hp 0 h0
            rw [Nat.zero_mul] at h1
            refine ⟨b, off, by rw [spot_none hpos h1], fun f => f, fun k hk => ?_⟩
            obtain ⟨h2, h3, h4⟩ := hdec k hk
            obtain ⟨v, hv, _⟩ := cell _ _ h2 h3
            rw [h4] at hv
            rw [hv]; rfl
        · intro k hk
          obtain ⟨h2, h3, h4⟩ := hdec k hk
          obtain ⟨v, hv, h5, _⟩ := cell _ _ h2 h3
          rw [h4] at hv
          rw [hv]; exact h5
        · intro i j hi hj
          obtain ⟨v, hv, _, h6⟩ := cell i j hi hj
          rw [hv]; exact h6
def Rd.array {N : Nat} (h : P.underlying T = some (.array N E)) (hc : P.cellsOf T = N) (r : Rd P E α) (enc1 : α → SV) (he : ∀ a, r.enc a = [enc1 a]) (hs : r.sz = 1) : Rd P T { l : List α // l.length = N } where
  enc l := l.1.map enc1
  sz := N
  dflt := ⟨List.replicate N r.dflt, by simp⟩
  good l := ∀ a ∈ l.1, r.good a
  bulk l := (l.1.map r.bulk).sum
  cells := hc
  len l := by rw [List.length_map, l.2]
  read := by
    intro H en w base sp held fuel cs x hx
    obtain ⟨xs, m, _, rfl, hlen, hxl, hel⟩ := DataW.trod_array h hx
    have hce : P.cellsOf E = 1 := by rw [r.cells, hs]
    have each : ∀ i, i < N → ∃ a, ∃ x', xs[i]? = some x' ∧ r.good a ∧ r.bulk a ≤ Rows.uptoBulk x'.1 ∧ ∃ c, cs[i]? = some c ∧ c.oneCell' = true ∧ Rel Z0 w (enc1 a) c := by
      intro i hi
      have h1 := hel i hi
      rw [hce, Nat.mul_one, List.getElem?_eq_getElem (by omega)] at h1
      obtain ⟨a, h2, h3, h4, h5, h6⟩ := r.read h1
      have hic : i < cs.length := by rw [hlen, hc]; exact hi
      have hch : (cs.drop i).take 1 = [cs[i]] := by rw [List.drop_eq_getElem_cons hic]; rfl
      have h7 := h6 0 (by omega)
      rw [he, hch] at h7
      rw [hch] at h5
      exact ⟨a, _, List.getElem?_eq_getElem (by omega), h2, h3, cs[i], List.getElem?_eq_getElem hic, h5 _ (by simp), by simpa using h7⟩
    obtain ⟨l, hll, hp⟩ := exists_list (d := r.dflt) N each
    refine ⟨⟨l, hll⟩, ?_, ?_, by rw [hlen, hc], ?_, fun j hj => ?_⟩
    · refine getD_mem_all (d := r.dflt) fun i hi => ?_
      obtain ⟨_, _, h2, _⟩ := hp i (by simp only at hi; omega)
      exact h2
    · have := bulkAll_le r.bulk r.dflt l (xs.map (·.1)) (by simp [hll, hxl]) fun i hi => by
        obtain ⟨x', h1, _, h3, _⟩ := hp i (by omega)
        have e : (xs.map (·.1)).getD i .nil = x'.1 := by simp [List.getD_eq_getElem?_getD, h1]
        rw [e]; exact h3
      simp only [Rows.uptoBulk]; omega
    · intro c hcm
      obtain ⟨j, hj⟩ := List.mem_iff_getElem?.1 hcm
      have hjl : j < N := by
        have := (List.getElem?_eq_some_iff.1 hj).1
        rw [hlen, hc] at this; exact this
      obtain ⟨_, _, _, _, c', h5, h6, _⟩ := hp j hjl
      rw [hj] at h5; cases h5
      exact h6
    · obtain ⟨_, _, _, _, c', h5, _, h7⟩ := hp j hj
      have hjl : j < l.length := by omega
      simp only [List.getD_eq_getElem?_getD, List.getElem?_map, List.getElem?_eq_getElem hjl, Option.map_some, Option.getD_some, h5]
      rw [List.getD_eq_getElem?_getD, List.getElem?_eq_getElem hjl] at h7
      exact h7
def Rd.as (r : Rd P T α) (g : α → β) (d : β) (enc' : β → List SV) (good' : β → Prop) (bulk' : β → Nat) (he : ∀ a, enc' (g a) = r.enc a) (hl : ∀ b, (enc' b).length = r.sz) (hg : ∀ a, r.good a → good' (g a)) (hb : ∀ a, bulk' (g a) = r.bulk a) : Rd P T β where
  enc := enc'
  sz := r.sz
  dflt := d
  good := good'
  bulk := bulk'
  cells := r.cells
  len := hl
  read := by
    intro H en w base sp held fuel cs x hx
    obtain ⟨a, h1, h2, h3, h4, h5⟩ := r.read hx
    exact ⟨g a, hg a h1, by rw [hb]; exact h2, h3, h4, fun j hj => by rw [he]; exact h5 j hj⟩
structure Fds (P : Program) (off : Nat) (tos : List (TypeId × Nat)) (α : Type) where
  enc : α → List SV
  sz : Nat
  dflt : α
  good : α → Prop
  bulk : α → Nat
  len : ∀ a, (enc a).length = sz
  read : ∀ {H : Type} {en : TypeId × Value → H} {w : World} {base : Nat} {sp : Nat → Bool} {held : Bool} {fuel : Nat} {cs : List Value} {xs : List (DataW H × List MemPlace)}, xs.length = tos.length → off + sz = cs.length →
    (∀ (i : Nat) (f : TypeId × Nat), tos[i]? = some f → DataW.trod en P w base sp held fuel f.1 ((cs.drop f.2).take (P.cellsOf f.1)) = (xs[i]? : Option (DataW H × List MemPlace))) → ∃ a, good a ∧ bulk a ≤ Rows.uptoBulkAll (xs.map (·.1)) ∧
    ∀ j, j < sz → (cs.getD (off + j) undef).oneCell' = true ∧ Rel Z0 w ((enc a).getD j .any) (cs.getD (off + j) undef)
def Fds.nil {off : Nat} : Fds P off [] Unit where
  enc _ := []
  sz := 0
  dflt := ()
  good _ := True
  bulk _ := 0
  len _ := rfl
  read := by
    intro H en w base sp held fuel cs xs hl hs h
    exact ⟨(), trivial, by simp, fun j hj => by omega⟩
def Fds.cons {off : Nat} {t : TypeId} {tos : List (TypeId × Nat)} (r : Rd P t α) (k : Fds P (off + r.sz) tos β) : Fds P off ((t, off) :: tos) (α × β) where
  enc x := r.enc x.1 ++ k.enc x.2
  sz := r.sz + k.sz
  dflt := (r.dflt, k.dflt)
  good x := r.good x.1 ∧ k.good x.2
  bulk x := r.bulk x.1 + k.bulk x.2
  len x := by rw [List.length_append, r.len, k.len]
  read := by
    intro H en w base sp held fuel cs xs hl hs h
    cases xs with
    | nil => simp at hl
    | cons x xs =>
      have h0 := h 0 (t, off) rfl
      simp only [List.getElem?_cons_zero] at h0
      obtain ⟨a, h1, h2, h3, h4, h5⟩ := r.read h0
      obtain ⟨b, g1, g2, g3⟩ := k.read (w := w) (cs := cs) (by simpa using hl) (by omega) fun i f hf => by simpa using h (i + 1) f (by simpa using hf)
      refine ⟨(a, b), ⟨h1, g1⟩, by simp only [List.map_cons, Rows.uptoBulkAll]; omega, fun j hj => ?_⟩
      rw [List.getD_eq_getElem?_getD (l := r.enc a ++ k.enc b)]
      by_cases hj' : j < r.sz
      · rw [List.getElem?_append_left (by rw [r.len]; exact hj')]
        have e : (List.take (P.cellsOf t) (List.drop off cs)).getD j undef = cs.getD (off + j) undef := by
          rw [r.cells]
          simp only [List.getD_eq_getElem?_getD, List.getElem?_take, List.getElem?_drop, hj', if_true]
        have h5' := h5 j hj'
        simp only [e] at h5'
        refine ⟨?_, by rw [← List.getD_eq_getElem?_getD]; exact h5'⟩
        have hlt : off + j < cs.length := by omega
        rw [← e]
        have hm := h4 ((List.take (P.cellsOf t) (List.drop off cs)).getD j undef)
        apply hm
        rw [List.getD_eq_getElem?_getD, List.getElem?_eq_getElem (by simp only [h3]; exact hj')]
        exact List.getElem_mem _
      · rw [List.getElem?_append_right (by rw [r.len]; omega), r.len, ← List.getD_eq_getElem?_getD]
        have := g3 (j - r.sz) (by omega)
        rw [show off + r.sz + (j - r.sz) = off + j by omega] at this
        exact this
def fieldsAt (P : Program) (T : TypeId) : Option (List (TypeId × Nat)) := match P.underlying T with
  | some (.struct fs) => some (fs.toList.map fun f => (f.type, f.offset))
  | _ => none
theorem fieldsAt_spec {tos : List (TypeId × Nat)} (h : fieldsAt P T = some tos) : ∃ fs : Array Field, P.underlying T = some (.struct fs) ∧ tos = fs.toList.map fun f => (f.type, f.offset) := by
  unfold fieldsAt at h
  split at h
  · rename_i fs hu
    exact ⟨fs, hu, (Option.some.inj h).symm⟩
  · cases h
def Rd.struct {tos : List (TypeId × Nat)} (h : fieldsAt P T = some tos) (k : Fds P 0 tos α) (hc : P.cellsOf T = k.sz) : Rd P T α where
  enc := k.enc
  sz := k.sz
  dflt := k.dflt
  good := k.good
  bulk a := k.bulk a + 1
  cells := hc
  len := k.len
  read := by
    intro H en w base sp held fuel cs x hx
    obtain ⟨fs, hu, rfl⟩ := fieldsAt_spec h
    obtain ⟨xs, n, rfl, rfl, hl, hxl, hf⟩ := DataW.trod_struct hu hx
    rw [hc] at hl
    obtain ⟨a, h1, h2, h3⟩ := k.read (w := w) (cs := cs) (xs := xs) (by simp [hxl]) (by omega) fun i f hi => by
      rw [List.getElem?_map, Option.map_eq_some_iff] at hi
      obtain ⟨f', hf', rfl⟩ := hi
      exact hf i f' (by simpa using hf')
    refine ⟨a, h1, by simp only [Rows.uptoBulk]; omega, hl, ?_, fun j hj => by have := (h3 j hj).2; rwa [Nat.zero_add] at this⟩
    intro c hcm
    obtain ⟨i, hi, rfl⟩ := List.mem_iff_getElem.1 hcm
    have := (h3 i (by omega)).1
    rwa [Nat.zero_add, List.getD_eq_getElem?_getD, List.getElem?_eq_getElem hi] at this
structure Rds (P : Program) (ts : List TypeId) (α : Type) where
  svs : α → List SV
  good : α → Prop
  bulk : α → Nat
  len : ∀ a, (svs a).length = ts.length
  read : ∀ {H : Type} {en : TypeId × Value → H} {w : World} {base : Nat} {sp : Nat → Bool} {held : Bool} {vs : List Value} {ds : List (DataW H)} {ps : List MemPlace}, (∀ (j : Nat) t v, ts[j]? = some t → vs[j]? = some v → ∃ b, Value.okWide P w .any b t v) →
    DataW.TrodAll en P w base sp held ts vs ds ps → ∃ a, good a ∧ bulk a ≤ Rows.uptoBulkAll ds ∧ vs.length = ts.length ∧ ∀ j, j < ts.length → Rel Z0 w ((svs a).getD j .any) (vs.getD j undef)
def Rds.nil : Rds P [] Unit where
  svs _ := []
  good _ := True
  bulk _ := 0
  len _ := rfl
  read := by
    intro H en w base sp held vs ds ps hv h
    obtain ⟨rfl, rfl, rfl⟩ := trodAll_nil h
    exact ⟨(), trivial, by simp, rfl, fun j hj => by simp at hj⟩
def isAgg (P : Program) (T : TypeId) : Bool := match P.underlying T with
  | some (.struct _) | some (.array ..) => true
  | _ => false
theorem cell_of (h : isAgg P T = false) {w : World} {b : Nat} {v : Value} (hv : Value.okWide P w .any b T v) : v.cells = #[v] := by
  cases v with
  | agg cs =>
    exfalso
    unfold isAgg at h
    unfold Value.okWide at hv
    cases hu : P.underlying T with
    | none => rw [hu] at hv; simp [Cell.okWide, Cell.ok, hu] at hv
    | some d => cases d <;> simp [hu, Cell.okWide, Cell.ok] at hv h
  | _ => rfl
def Rds.cons {ts : List TypeId} (r : Rd P T α) (h1 : r.sz = 1) (hagg : isAgg P T = false) (k : Rds P ts β) : Rds P (T :: ts) (α × β) where
  svs x := (r.enc x.1).getD 0 .any :: k.svs x.2
  good x := r.good x.1 ∧ k.good x.2
  bulk x := r.bulk x.1 + k.bulk x.2
  len x := by simp [k.len]
  read := by
    intro H en w base sp held vs ds ps hv h
    obtain ⟨v, vs, d, ds, p, q, rfl, rfl, rfl, ht, hr⟩ := trodAll_cons h
    obtain ⟨fuel, hf⟩ := ht
    obtain ⟨b, hb⟩ := hv 0 T v rfl rfl
    rw [cell_of hagg hb] at hf
    obtain ⟨a, g1, g2, g3, g4, g5⟩ := r.read hf
    obtain ⟨c, f1, f2, f3, f4⟩ := k.read (fun j t v hj hv' => hv (j + 1) t v (by simpa using hj) (by simpa using hv')) hr
    refine ⟨(a, c), ⟨g1, f1⟩, by simp only [Rows.uptoBulkAll]; exact Nat.add_le_add g2 f2, by simp [f3], fun j hj => ?_⟩
    cases j with
    | zero => exact g5 0 (by omega)
    | succ j => simpa using f4 j (by simpa using hj)
end
theorem grown_of {W W' : World} (hb : Below W.heap.size W W') : (∀ may, W.keptBut W' may) ∧ ∀ a : Addr, a.block < W.heap.size → W'.frozen? a = W.frozen? a := by
  refine ⟨fun may => ⟨hb.os, hb.output, fun i hi => ?_⟩, fun a ha => ?_⟩
  · rw [hb.block i hi]
    split
    · rename_i h1 h2
      rw [h1] at h2; cases h2
      exact ⟨rfl, rfl, rfl, fun _ _ => rfl⟩
    · rename_i h1 h2
      rw [h1] at h2; cases h2
      exact .inr ⟨rfl, rfl⟩
    · rfl
  · unfold World.frozen?
    rw [hb.block a.block ha]
theorem post_same {H : Type} {enc : TypeId × Value → H} {P : Program} {f : Func} {s : ChangeSpec} {apart fresh handsOn again : Bool} {W W' : World} {args : Array Value} {v : Value} {ds gs : List (DataW H)} {before pa pv : List MemPlace}
    (hW : DataW.Whole enc P f.params.toList s.vars apart W args.toList ds gs before)
    (hres : ∀ (b : Nat) (sp : Nat → Bool) (hd : Bool), DataW.TrodAll enc P W' b sp hd f.resultTypes.toList (v.resultList f.resultTypes.size) (s.fn H (ds ++ gs)).results [])
    (hargs : ∀ sp : Nat → Bool, (∀ p ∈ before, sp p.block = true) → DataW.TrodAll enc P W' 0 sp true f.params.toList args.toList (s.fn H (ds ++ gs)).args pa)
    (hvars : ∀ sp : Nat → Bool, (∀ p ∈ before, sp p.block = true) → DataW.TrodVars enc P W' sp s.vars (s.fn H (ds ++ gs)).vars pv)
    (hps : before = pa ++ pv) (hb : Below W.heap.size W W')
    (hok : ∀ (j : Nat) (t : TypeId) (r : Value), f.resultTypes[j]? = some t → (v.resultList f.resultTypes.size)[j]? = some r → Value.okWide P W' .any 0 t r) :
    s.post enc P f apart fresh handsOn again W args v W' := by
  obtain ⟨hk, hfz⟩ := grown_of hb
  have hlt := hW.lt
  have hold : ∀ p ∈ before, (fun b => decide (b < W.heap.size)) p.block = true := fun p hp => by simpa using hlt p hp
  refine ⟨ds, gs, before, [], pa, pv, hW, hres _ _ _, hargs _ hold, hvars _ hold, World.keptBut_mono (fun p hp => ⟨hp, ?_⟩) (hk (· ∈ before)), fun _ => ?_⟩
  · rw [hps, List.mem_append] at hp
    exact Or.inr hp
  · obtain ⟨_, _, _, _, _, hz, hn⟩ := hW
    refine ⟨hok, _, _, ([] ++ pa) ++ pv, ⟨[] ++ pa, pv, trodAll_append (hargs _ (fun _ _ => rfl)) (hres _ _ _), hvars _ (fun _ _ => rfl), rfl, ?_, ?_⟩, ?_⟩
    · intro b off hp
      have hp' : MemPlace.cell b off ∈ before := by rw [hps]; simpa using hp
      rw [hfz _ (hlt _ hp')]
      exact hz b off hp'
    · intro ha
      have := hn ha
      rw [hps] at this
      simpa using this
    · intro p hp _
      rw [hps]
      simpa using hp
theorem stays_all {H : Type} {en : TypeId × Value → H} {P : Program} (hl : laidOutB P = true) {W W' : World} (hb : Below W.heap.size W W') {sp : Nat → Bool} :
    ∀ {ts : List TypeId} {vs : List Value} {ds : List (DataW H)} {ps : List MemPlace}, ts.all (fun t => P.readableRec t && decide (t < P.types.size)) = true → DataW.TrodAll en P W 0 (fun _ => true) true ts vs ds ps → (∀ x ∈ ps, x.block < W.heap.size) → (∀ x ∈ ps, sp x.block = true) →
    DataW.TrodAll en P W' 0 sp true ts vs ds ps
  | [], _, _, _, _, h, _, _ => by
    obtain ⟨rfl, rfl, rfl⟩ := trodAll_nil h
    exact trodAll_mk0
  | t :: ts, _, _, _, hr, h, hlt, hsp => by
    obtain ⟨v, vs, d, ds, p, q, rfl, rfl, rfl, h0, h1⟩ := trodAll_cons h
    simp only [List.all_cons, Bool.and_eq_true, decide_eq_true_eq] at hr
    exact trodAll_cons_mk (WideElems.Trod_stays hl hr.1.1 hr.1.2 h0 (fun x hx => hb.same (hlt x (by simp [hx]))) (fun x hx => hsp x (by simp [hx])))
      (stays_all hl hb (by simpa using hr.2) h1 (fun x hx => hlt x (by simp [hx])) (fun x hx => hsp x (by simp [hx])))
theorem calls_of {H : Type} {en : TypeId × Value → H} {P : Program} [Gl P] {f : Nat} {fn : Func} {ts : List TypeId} {α : Type} (rds : Rds P ts α) {s : ChangeSpec} {tb : TypeId} {apart fresh handsOn again : Bool} (hs : s.vars = []) (hp : fn.params.toList = ts) (hres : fn.resultTypes = #[tb])
    (htb : P.underlying tb = some .bool) (hl : laidOutB P = true) (hread : ts.all (fun t => P.readableRec t && decide (t < P.types.size)) = true)
    (hfn : ∀ ds : List (DataW H), ds.length = ts.length → (s.fn H ds).results = [.lit (.bool true)] ∧ (s.fn H ds).args = ds ∧ (s.fn H ds).vars = [])
    {W : World} {base : Nat} {args : Array Value} {ds gs : List (DataW H)} {before : List MemPlace}
    (hval : ∀ (j : Nat) t v, fn.params[j]? = some t → args[j]? = some v → Value.okWide P W .any base t v)
    (hW : DataW.Whole en P fn.params.toList s.vars apart W args.toList ds gs before)
    (hgl : ∀ x ∈ Gl.gl P, x.1 < W.heap.size ∧ ∀ i v, x.2[i]? = some v → W.cell? ⟨x.1, i, none⟩ = some v)
    (hC : ∀ a, rds.good a → rds.bulk a ≤ Rows.uptoBulkAll ds → ∃ R : SV → List Own → Prop, FnC P f (rds.svs a) [] R ∧ ∀ s L, R s L → s = Sse.bool true) :
    Calls P f args W fun e W' => ∃ v, e = .returned v ∧ s.post en P fn apart fresh handsOn again W args v W' := by
  have hW' := hW
  have hlt0 := hW.lt
  obtain ⟨p, q, hA, hV, rfl, hfz, hnd⟩ := hW
  rw [hs] at hV
  obtain ⟨rfl, rfl⟩ := trodVars_none hV
  rw [hp] at hA
  obtain ⟨a, ha, hb, hlen, hrel⟩ := rds.read (fun j t v hj hv => ⟨base, hval j t v (by rw [← hp] at hj; simpa using hj) (by simpa using hv)⟩) hA
  obtain ⟨R, hF, hR⟩ := hC a ha hb
  have hlen' : ds.length = ts.length := by
    have : ∀ {ts : List TypeId} {vs : List Value} {ds : List (DataW H)} {p : List MemPlace}, DataW.TrodAll en P W 0 (fun _ => true) true ts vs ds p → ds.length = ts.length := by
      intro ts
      induction ts with
      | nil => intro vs ds p h; obtain ⟨_, rfl, _⟩ := trodAll_nil h; rfl
      | cons t ts ih => intro vs ds p h; obtain ⟨_, _, _, _, _, _, rfl, rfl, rfl, _, h1⟩ := trodAll_cons h; simp [ih h1]
    exact this hA
  have := hF.go Z0 W args.toList (by rw [hlen, rds.len]) (fun j hj => (hrel j (by rwa [rds.len] at hj)).stable fun b _ _ => ⟨rfl, by simp [ZL, Z0, inF, foots]⟩) (by simp [Z0]) (by simp [foots]) (by simp [inF, foots]) (by simp) (fun x hx => ⟨(hgl x hx).1, by simp [inF, foots], (hgl x hx).2⟩)
  simp only [Array.toArray_toList] at this
  refine this.mono fun e W' ⟨v, sv, L', he, hr, hrv, hw⟩ => ?_
  subst he
  obtain rfl := hR _ _ hr
  obtain rfl : v = .bool true := hrv.val_eq
  have hbel : Below W.heap.size W W' := ⟨hw.os, hw.tape, hw.output, hw.size, fun k hk => hw.keep k hk (by simp [inF, foots])⟩
  obtain ⟨e1, e2, e3⟩ := hfn (ds ++ []) (by simpa using hlen')
  simp only [List.append_nil] at hlt0 hW'
  refine ⟨_, rfl, post_same (pa := p) (pv := []) hW' (fun b sp hd => ?_) (fun sp hsp => ?_) (fun _ _ => ?_) (by simp) hbel (ok_one hres rfl (okWide_bool_mk htb _))⟩
  · rw [e1, hres]; exact trodAll_cons_mk (shut_bool htb _) trodAll_mk0
  · rw [e2, List.append_nil, hp]; exact stays_all hl hbel hread hA hlt0 hsp
  · rw [e3, hs]; rfl
end Go.Proofs.YtafefapbiekmbaaDoor
namespace Go.Proofs.YtafefapbiekmbaaDoor
open Go Go.Sse Go.ChangeShapes Go.WideShapes Go.ChangeAt Go.RowKit
set_option linter.unusedVariables false
set_option linter.unusedSimpArgs false
set_option maxRecDepth 100000
theorem own : ownKnob Tryd.prog.godebug = none := by kernel_rfl
theorem laidOut : laidOutB Tryd.prog = true := by kernel_rfl
theorem laid_list : (Rows.laid_pharos_sha_k : DataW Unit) = .agg (shaK.map fun (n : Nat) => .lit (.int .u32 (n : Int))) := by rfl
theorem k_cell {W : World} (h : laidMetH Tryd.prog [("pharos/sha.k", Rows.laid_pharos_sha_k)] W) (r : Nat) (hr : r < 64) : W.cell? ⟨0, r, none⟩ = some (.int .u32 ((shaK.getD r 0 : Nat) : Int)) := by
  rw [MakeChecks.laidMetH_plain _ _ _ (by kernel_rfl)] at h
  obtain ⟨ps, ⟨g, t, cs, fuel, p, q, hg, ht, hv, hd, _, _⟩, _, _⟩ := h
  obtain rfl := Option.some.inj ((show Tryd.prog.globalNamed "pharos/sha.k" = some 0 by kernel_rfl).symm.trans hg)
  obtain rfl := Option.some.inj ((show (Tryd.prog.globals[0]?).map (·.type) = some 84 by kernel_rfl).symm.trans ht)
  have hu : Tryd.prog.underlying 84 = some (.array 64 69) := by kernel_rfl
  have hu2 : Tryd.prog.underlying 69 = some (.int .u32) := by kernel_rfl
  obtain ⟨xs, m, _, ex, _, hl, hel⟩ := DataW.trod_array hu hd
  have c5 : Tryd.prog.cellsOf 69 = 1 := by kernel_rfl
  have hE := hel r hr
  rw [c5, Nat.mul_one, List.getElem?_eq_getElem (by omega)] at hE
  obtain ⟨z, e1, e2, _⟩ := DataW.trod_int hu2 hE
  have hlen : shaK.length = 64 := by rfl
  have e3 : (xs.map (·.1)) = shaK.map fun (n : Nat) => .lit (.int .u32 (n : Int)) := by
    have := (Prod.mk.inj ex).1
    rw [laid_list] at this
    exact (DataW.agg.inj this).symm
  have e4 : (xs.map (·.1))[r]? = (shaK.map fun (n : Nat) => (DataW.lit (.int .u32 (n : Int)) : DataW Unit))[r]? := by rw [e3]
  rw [List.getElem?_map, List.getElem?_map, List.getElem?_eq_getElem (by omega : r < xs.length), List.getElem?_eq_getElem (by omega : r < shaK.length), e2] at e4
  have hz : z = ((shaK.getD r 0 : Nat) : Int) := by
    simp only [Option.map_some, Option.some.injEq, DataW.lit.injEq, Lit.int.injEq, true_and] at e4
    rw [e4, List.getD, List.getElem?_eq_getElem (by omega : r < shaK.length)]; rfl
  rw [World.var?_cell hg hv r, ← hz]
  have : cs.toList[r]? = some (.int .u32 z) := by
    have h0 : ((cs.toList.drop r).take 1)[0]? = some (.int .u32 z) := by rw [e1]; rfl
    simpa using h0
  simpa using this
theorem gl_met {W : World} (h : laidMetH Tryd.prog [("pharos/sha.k", Rows.laid_pharos_sha_k)] W) : ∀ x ∈ Gl.gl Tryd.prog, x.1 < W.heap.size ∧ ∀ i v, x.2[i]? = some v → W.cell? ⟨x.1, i, none⟩ = some v := by
  intro x hx
  have hx' : x ∈ [(0, shaK.map fun (n : Nat) => Value.int .u32 (n : Int))] := hx
  obtain rfl := List.mem_singleton.1 hx'
  have hc := k_cell h
  refine ⟨World.block_lt_of_cell? W ⟨0, 0, none⟩ (hc 0 (by omega)), fun i v hv => ?_⟩
  have hi : i < 64 := by
    rcases Nat.lt_or_ge i 64 with h | h
    · exact h
    · rw [List.getElem?_eq_none (by rw [List.length_map]; exact h)] at hv; cases hv
  have hl : i < shaK.length := hi
  rw [List.getElem?_map, List.getElem?_eq_getElem hl] at hv
  rw [hc i hi, ← hv]
  simp [List.getD_eq_getElem?_getD, List.getElem?_eq_getElem hl]
noncomputable def rdStr : Rd Tryd.prog 9 (List UInt8) := Rd.str (by kernel_rfl) (by kernel_rfl)
noncomputable def rdBool : Rd Tryd.prog 4 Bool := Rd.bool (by kernel_rfl) (by kernel_rfl)
noncomputable def rdInt : Rd Tryd.prog 3 Int := Rd.int (k := .i64) (by kernel_rfl) (by kernel_rfl)
noncomputable def rdIso {α β : Type} {T : TypeId} (r : Rd Tryd.prog T α) (g : α → β) (gi : β → α) (h : ∀ a, gi (g a) = a) (enc' : β → List SV) (he : ∀ a, enc' (g a) = r.enc a) (hl : ∀ b, (enc' b).length = r.sz) : Rd Tryd.prog T β :=
  r.as g (g r.dflt) enc' (fun b => r.good (gi b)) (fun b => r.bulk (gi b)) he hl (fun a ha => by rw [h]; exact ha) (fun a => by rw [h])
end Go.Proofs.YtafefapbiekmbaaDoor
namespace Go.Proofs.YtafefapbiekmbaaDoor
open Go Go.Sse
set_option linter.unusedVariables false
set_option linter.unusedSimpArgs false
set_option maxRecDepth 10000
def sumD (tag : Nat) (s : List UInt8) : List UInt8 := Sha.shaS ([UInt8.ofNat tag] ++ s)
theorem sumD_len (tag : Nat) (s : List UInt8) : (sumD tag s).length = 32 := Sha.shaS_len _
theorem dsum_ok (tag : Nat) (s : List UInt8) (h1 : 1 ≤ tag) (h2 : tag ≤ 255) (hs : s.length ≤ 1073741824) : FnC Tryd.prog 17 [int (tag : Int), str s] [] (fun v L => v = .tup [str (sumD tag s), int 0] ∧ L = []) := by
  have c := Sha.hsum_ok ([UInt8.ofNat tag] ++ s) (by simp only [List.length_append, List.length_cons, List.length_nil]; omega)
  have e : sumD tag s = Sha.shaS ([UInt8.ofNat tag] ++ s) := rfl
  rw [e]
  generalize Sha.shaS ([UInt8.ofNat tag] ++ s) = sm at *
  refine FnC.intro Tryd.func17 rfl Tryd.ntmps17 rfl fun Z w0 hG => ?_
  focus (
 (refine W.seq (W.region (Jx.assign rfl rfl (Jx.assign rfl rfl (J.nil (N.seq (W.seq (W.seq (W.region (Jx.move rfl rfl (Jx.lssI rfl rfl rfl (Jx.move rfl rfl (J.gY rfl rfl rfl ?_)))))))))))))
 (refine Jx.move rfl rfl (J.gY rfl rfl rfl ?_))
 (refine Jx.gtrI rfl rfl rfl (Jx.pF rfl rfl rfl ?_))
 (refine J.nil (N.seq (W.cF rfl ?_)))
 (refine W.skip (N.seq (W.seq (W.region (Jx.move rfl rfl ?_)))))
 (refine Jx.numByte tag rfl rfl rfl rfl ?_)
 (refine J.qs (Qs.buildBytes [UInt8.ofNat tag] rfl rfl rfl (by decide) (by decide)) rfl ?_)
 (refine Jx.bytesStr rfl rfl ?_)
 (refine Jx.move rfl rfl (Jx.cat rfl rfl (by first | omega | (simp only [List.length_append, List.length_cons, List.length_nil]; omega)) rfl ?_))
 (refine J.call (c) rfl (evs_args rfl) rfl ?_; rintro _ _ ⟨rfl, rfl⟩; simp only [la1, la2, la3])
 (refine Jx.assign rfl rfl (Jx.assign rfl rfl (J.nil (N.seq (W.ret ?_)))))
 (refine id ?_; rotate_left))
  exact N.ret (rs := [.tmp 4, .tmp 5]) rfl (.tmp rfl (.tmp rfl .nil)) ⟨rfl, rfl⟩
end Go.Proofs.YtafefapbiekmbaaDoor
namespace Go.Proofs.YtafefapbiekmbaaDoor
open Go Go.Sse
set_option maxRecDepth 10000
set_option linter.unusedVariables false
set_option linter.unusedSimpArgs false
end Go.Proofs.YtafefapbiekmbaaDoor
namespace Go.Proofs.YtafefapbiekmbaaDoor
open Go Go.Sse
set_option linter.unusedVariables false
set_option linter.unusedSimpArgs false
set_option maxRecDepth 10000
abbrev tU8 : Nat := 5
theorem ref0 {F : List (Nat × SV)} {i : Nat} {s : SV} (h : Sse.look F i = some s) : ∃ t, Sse.look F i = some t ∧ Sub t s := ⟨s, h, .refl _⟩
end Go.Proofs.YtafefapbiekmbaaDoor
namespace Go.Proofs.YtafefapbiekmbaaDoor
open Go Go.Sse
set_option linter.unusedVariables false
set_option linter.unusedSimpArgs false
set_option maxRecDepth 10000
end Go.Proofs.YtafefapbiekmbaaDoor
namespace Go.Proofs.YtafefapbiekmbaaDoor
open Go Go.Sse
set_option linter.unusedVariables false
set_option linter.unusedSimpArgs false
set_option maxRecDepth 10000
structure Nt where
  tag : Int
  text : List UInt8
  digest : List UInt8
theorem Nt.ext' {x y : Nt} (h1 : x.tag = y.tag) (h2 : x.text = y.text) (h3 : x.digest = y.digest) : x = y := by cases x; cases y; simp_all
instance : DecidableEq Nt := fun x y => decidable_of_iff ((x.tag = y.tag ∧ x.text = y.text) ∧ x.digest = y.digest) ⟨fun h => Nt.ext' h.1.1 h.1.2 h.2, fun h => by subst h; simp⟩
def ntC (n : Nt) : List SV := [.val (.int .i64 n.tag), str n.text, str n.digest]
def ntV (n : Nt) : List Value := [.int .i64 n.tag, sv n.text, sv n.digest]
def nt0 : Nt := ⟨0, [], []⟩
theorem ntV_inj (a b : Nt) (h : ntV a = ntV b) : a = b := by
  cases a; cases b
  simp only [ntV, List.cons.injEq, Value.int.injEq, Value.string.injEq, ByteArray.mk.injEq, and_true, true_and] at h
  obtain ⟨h1, h2, h3⟩ := h
  simp only [Nt.mk.injEq]
  exact ⟨h1, by simpa using h2, by simpa using h3⟩
theorem ntV_fit (a : Nt) : fitsL [.i .i64, .s, .s] (ntV a) = true := rfl
abbrev iV (i : Nat) : Value := .int .i64 (i : Int)
theorem lk_snoc {α β : Type} [DecidableEq α] (l : List (α × β)) (k k' : α) (v : β) : lk (l ++ [(k, v)]) k' = (lk l k').or (if k = k' then some v else none) := by
  induction l with
  | nil => by_cases h : k = k' <;> simp [lk, h]
  | cons p l ih =>
    by_cases h : p.1 = k'
    · simp [lk, h]
    · have e1 : lk (p :: l ++ [(k, v)]) k' = lk (l ++ [(k, v)]) k' := by simp [lk, h]
      have e2 : lk (p :: l) k' = lk l k' := by simp [lk, h]
      rw [e1, e2, ih]
def findP {α : Type} (p : α → Bool) : List α → Option Nat
  | [] => none
  | x :: r => if p x then some 0 else (findP p r).map (· + 1)
theorem findP_snoc {α : Type} (p : α → Bool) : ∀ (l : List α) (x : α), findP p (l ++ [x]) = (findP p l).or (if p x then some l.length else none)
  | [], x => by by_cases h : p x <;> simp [findP, h]
  | y :: l, x => by
    by_cases h : p y
    · simp [findP, h]
    · simp only [List.cons_append, findP, h, if_false, findP_snoc p l x, List.length_cons, Bool.false_eq_true]
      cases findP p l with
      | some i => simp
      | none => by_cases h2 : p x <;> simp [h2]
theorem findP_some {α : Type} {p : α → Bool} : ∀ {l : List α} {i : Nat} (d : α), findP p l = some i → i < l.length ∧ p (l.getD i d) = true ∧ ∀ j, j < i → p (l.getD j d) = false
  | [], i, d, h => by simp [findP] at h
  | x :: l, i, d, h => by
    by_cases hx : p x
    · simp only [findP, hx, if_true, Option.some.injEq] at h
      subst h
      exact ⟨by simp, by simpa using hx, fun j hj => by omega⟩
    · simp only [findP, hx, Bool.false_eq_true, if_false, Option.map_eq_some_iff] at h
      obtain ⟨k, hk, rfl⟩ := h
      obtain ⟨h1, h2, h3⟩ := findP_some d hk
      refine ⟨by simp; omega, by simpa using h2, fun j hj => ?_⟩
      cases j with
      | zero => simpa using hx
      | succ j => simpa using h3 j (by omega)
theorem findP_none {α : Type} {p : α → Bool} : ∀ {l : List α}, findP p l = none → ∀ x ∈ l, p x = false
  | [], _, x, hx => by simp at hx
  | y :: l, h, x, hx => by
    by_cases hy : p y
    · simp [findP, hy] at h
    · simp only [findP, hy, Bool.false_eq_true, if_false, Option.map_eq_none_iff] at h
      rcases List.mem_cons.1 hx with rfl | hx
      · simpa using hy
      · exact findP_none h x hx
theorem findP_eq {α : Type} {p : α → Bool} {l : List α} {i : Nat} (d : α) (h1 : i < l.length) (h2 : p (l.getD i d) = true) (h3 : ∀ j, j < i → p (l.getD j d) = false) : findP p l = some i := by
  cases h : findP p l with
  | none =>
    have := findP_none h (l.getD i d) (by rw [List.getD_eq_getElem?_getD, List.getElem?_eq_getElem h1]; exact List.getElem_mem _)
    rw [h2] at this; cases this
  | some k =>
    obtain ⟨k1, k2, k3⟩ := findP_some d h
    rcases Nat.lt_trichotomy k i with hk | hk | hk
    · rw [h3 k hk] at k2; cases k2
    · rw [hk]
    · rw [k3 i hk] at h2; cases h2
def findD (all : List Nt) (s : List UInt8) : Option Nat := findP (fun n => decide (n.digest = s)) all
def findN (all : List Nt) (n : Nt) : Option Nat := findP (fun m => decide (m = n)) all
theorem findD_snoc (all : List Nt) (n : Nt) (s : List UInt8) : findD (all ++ [n]) s = (findD all s).or (if n.digest = s then some all.length else none) := by
  have := findP_snoc (fun n : Nt => decide (n.digest = s)) all n
  simpa [findD] using this
theorem findN_snoc (all : List Nt) (n m : Nt) : findN (all ++ [n]) m = (findN all m).or (if n = m then some all.length else none) := by
  have := findP_snoc (fun n : Nt => decide (n = m)) all n
  simpa [findN] using this
def clashI : List Nt → List Nt → Nat → Option Nat
  | _, [], _ => none
  | pre, n :: r, i => if (findD pre n.digest).isSome then some i else clashI (pre ++ [n]) r (i + 1)
def clashA (all : List Nt) : Option Nat := clashI [] all 0
theorem clashI_snoc : ∀ (l pre : List Nt) (n : Nt) (i : Nat), clashI pre (l ++ [n]) i = (clashI pre l i).or (if (findD (pre ++ l) n.digest).isSome then some (i + l.length) else none)
  | [], pre, n, i => by simp [clashI]
  | x :: l, pre, n, i => by
    by_cases h : (findD pre x.digest).isSome
    · simp [clashI, h]
    · simp only [List.cons_append, clashI, h, Bool.false_eq_true, if_false, clashI_snoc l (pre ++ [x]) n (i + 1), List.append_assoc, List.nil_append, List.length_cons]
      congr 2
      rw [show i + 1 + l.length = i + (l.length + 1) by omega]
theorem clashA_snoc (all : List Nt) (n : Nt) : clashA (all ++ [n]) = (clashA all).or (if (findD all n.digest).isSome then some all.length else none) := by
  have := clashI_snoc all [] n 0
  simpa [clashA] using this
structure LogInv (all : List Nt) (M : List (Nt × Value)) (K : List (List UInt8 × Value)) : Prop where
  there : ∀ n, lk M n = (findN all n).map iV
  first : ∀ s, lk K s = (findD all s).map iV
  nodup : all.Nodup
theorem inv_nil : LogInv [] [] [] := ⟨fun n => rfl, fun s => rfl, List.nodup_nil⟩
theorem findN_none {all : List Nt} {n : Nt} (h : findN all n = none) : n ∉ all := fun hn => by
  have := findP_none h n hn
  simp at this
theorem findN_mem {all : List Nt} {n : Nt} (h : n ∈ all) : (findN all n).isSome = true := by
  cases hf : findN all n with
  | none => exact absurd h (findN_none hf)
  | some i => rfl
theorem inv_put {all : List Nt} {M : List (Nt × Value)} {K : List (List UInt8 × Value)} (h : LogInv all M K) {n : Nt} (hn : n ∉ all) :
    LogInv (all ++ [n]) (M ++ [(n, iV all.length)]) (if (findD all n.digest).isSome then K else K ++ [(n.digest, iV all.length)]) := by
  refine ⟨fun m => ?_, fun s => ?_, ?_⟩
  · rw [lk_snoc, h.there, findN_snoc]
    cases findN all m with
    | some i => simp
    | none => by_cases e : n = m <;> simp [e]
  · rw [findD_snoc]
    by_cases hd : (findD all n.digest).isSome
    · rw [if_pos hd, h.first]
      cases hs : findD all s with
      | some i => simp
      | none =>
        by_cases e : n.digest = s
        · rw [e, hs] at hd; cases hd
        · simp [e]
    · rw [if_neg hd, lk_snoc, h.first]
      cases findD all s with
      | some i => simp
      | none => by_cases e : n.digest = s <;> simp [e]
  · rw [List.nodup_append]
    exact ⟨h.nodup, by simp, fun x hx y hy => by simp only [List.mem_singleton] at hy; subst hy; exact fun e => hn (e ▸ hx)⟩
end Go.Proofs.YtafefapbiekmbaaDoor
namespace Go.Proofs.YtafefapbiekmbaaDoor
open Go Go.Sse
set_option linter.unusedVariables false
set_option linter.unusedSimpArgs false
set_option maxRecDepth 10000
theorem findP_append {α : Type} {p : α → Bool} : ∀ {a b : List α} {j : Nat}, findP p a = some j → findP p (a ++ b) = some j
  | [], b, j, h => by simp [findP] at h
  | x :: a, b, j, h => by
    by_cases hx : p x
    · simpa [findP, hx] using h
    · simp only [findP, hx, Bool.false_eq_true, if_false, Option.map_eq_some_iff] at h
      obtain ⟨k, hk, rfl⟩ := h
      simp [findP, hx, findP_append (b := b) hk]
theorem getD_left {α : Type} {a b : List α} {d : α} {k : Nat} (h : k < a.length) : (a ++ b).getD k d = a.getD k d := by
  simp only [List.getD_eq_getElem?_getD, List.getElem?_append_left h]
theorem getD_mid {α : Type} {a b : List α} {d x : α} : (a ++ x :: b).getD a.length d = x := by
  simp [List.getD_eq_getElem?_getD]
def firstAt (all : List Nt) (k : Nat) : Prop := findD all (all.getD k nt0).digest = some k
theorem clashI_spec : ∀ (r pre : List Nt), (∀ k, k < pre.length → firstAt pre k) →
    (∀ i, clashI pre r pre.length = some i → i < (pre ++ r).length ∧ (∃ j, j < i ∧ findD (pre ++ r) ((pre ++ r).getD i nt0).digest = some j) ∧ ∀ k, k < i → firstAt (pre ++ r) k) ∧
    (clashI pre r pre.length = none → ∀ k, k < (pre ++ r).length → firstAt (pre ++ r) k)
  | [], pre, h => by
    refine ⟨fun i hi => by simp [clashI] at hi, fun _ k hk => ?_⟩
    rw [List.append_nil] at hk ⊢
    exact h k hk
  | n :: r, pre, h => by
    cases hd : findD pre n.digest with
    | some j =>
      obtain ⟨hj, _⟩ := findP_some nt0 hd
      have hc : clashI pre (n :: r) pre.length = some pre.length := by simp [clashI, hd]
      rw [hc]
      refine ⟨fun i hi => ?_, fun hi => by cases hi⟩
      cases hi
      refine ⟨by simp, ⟨j, hj, ?_⟩, fun k hk => ?_⟩
      · rw [getD_mid]; exact findP_append hd
      · unfold firstAt
        rw [getD_left hk]
        exact findP_append (h k hk)
    | none =>
      have hc : clashI pre (n :: r) pre.length = clashI (pre ++ [n]) r (pre ++ [n]).length := by simp [clashI, hd]
      rw [hc, show pre ++ n :: r = (pre ++ [n]) ++ r by simp]
      refine clashI_spec r (pre ++ [n]) fun k hk => ?_
      unfold firstAt
      rcases Nat.lt_or_ge k pre.length with hk2 | hk2
      · rw [getD_left hk2]
        exact findP_append (h k hk2)
      · obtain rfl : k = pre.length := by simp at hk; omega
        rw [getD_mid, findD_snoc, hd]
        simp
theorem clashA_some {all : List Nt} {i : Nat} (h : clashA all = some i) : i < all.length ∧ (∃ j, j < i ∧ findD all (all.getD i nt0).digest = some j) ∧ ∀ k, k < i → firstAt all k := by
  have := (clashI_spec all [] (fun k hk => by simp at hk)).1 i h
  simpa using this
theorem clashA_none {all : List Nt} (h : clashA all = none) : ∀ k, k < all.length → firstAt all k := by
  have := (clashI_spec all [] (fun k hk => by simp at hk)).2 h
  simpa using this
theorem getD_mem' {α : Type} {l : List α} {d : α} {k : Nat} (h : k < l.length) : l.getD k d ∈ l := by
  rw [List.getD_eq_getElem?_getD, List.getElem?_eq_getElem h]; exact List.getElem_mem _
end Go.Proofs.YtafefapbiekmbaaDoor
namespace Go.Proofs.YtafefapbiekmbaaDoor
open Go Go.Sse
set_option linter.unusedVariables false
set_option linter.unusedSimpArgs false
set_option maxRecDepth 10000
noncomputable instance : TZero Tryd.prog 3 (.int .i64 0) := ⟨by kernel_rfl⟩
abbrev tNt : Nat := 28
abbrev tLog : Nat := 57
noncomputable instance : TKey Tryd.prog 28 [.i .i64, .s, .s] := ⟨inferInstance, by kernel_rfl⟩
def twI (all : List Nt) : Int := match clashA all with | some i => (i : Int) | none => -1
abbrev logO (b : Nat) (v : Value) (mt mf : Nat) (all : List Nt) (M : List (Nt × Value)) (K : List (List UInt8 × Value)) : List Own :=
  [.row v tNt 3 all.length (elOf ntC nt0 all), .obj b tLog [.val v, .val (.map (some mt)), .val (.map (some mf)), int (twI all)], mapO mt (M.map fun p => (.agg (ntV p.1).toArray, p.2)), mapO mf (K.map fun p => (sv p.1, p.2))]
theorem newLog_ok : FnC Tryd.prog 21 [] [] (fun s L => ∃ b mt mf, s = ptr b ∧ L = logO b (.slice none 0 0) mt mf [] [] []) := by
  refine FnC.intro Tryd.func21 rfl Tryd.ntmps21 rfl fun Z w0 hG => ?_
  focus (
 (refine W.seq (W.region (Jx.assign rfl rfl (J.nil (N.seq (W.seq (W.region ?_)))))))
 (refine J.makeMap rfl ?_; intro m)
 (refine J.makeMap rfl ?_; intro m)
 (refine Jx.buildB rfl rfl rfl rfl rfl ?_)
 (refine J.boxAg rfl rfl ?_; intro b')
 (refine Jx.assign rfl rfl (J.nil (N.seq (W.ret ?_))))
 (refine id ?_; rotate_left))
  refine N.rowNil tNt 3 (elOf ntC nt0 []) ?_
  refine N.perm (.cons _ (.cons _ (List.Perm.swap _ _ _))) ?_
  exact N.ret (rs := [.tmp 0]) rfl (.tmp rfl .nil) ⟨_, _, _, rfl, rfl⟩
def putR (all : List Nt) (n : Nt) : Int × List Nt :=
  if n.tag < 1 then (1, all) else if 255 < n.tag then (1, all) else if n.digest.length ≠ 32 then (3, all) else if n ∈ all then (0, all) else (0, all ++ [n])
set_option maxHeartbeats 2000000 in
theorem put_bad (b : Nat) (v : Value) (mt mf : Nat) (all : List Nt) (M : List (Nt × Value)) (K : List (List UInt8 × Value)) (n : Nt) (h : n.tag < 1 ∨ 255 < n.tag) :
    FnC Tryd.prog 12 [ptr b, .agg (ntC n)] (logO b v mt mf all M K) (fun r L => r = int 1 ∧ L = logO b v mt mf all M K) := by
  refine FnC.intro Tryd.func12 rfl Tryd.ntmps12 rfl fun Z w0 hG => ?_
  by_cases h1 : n.tag < 1
  · focus (
 (refine W.seq (W.region ?_))
 (refine J.boxAg rfl rfl ?_; intro b')
 (refine Jx.assign rfl rfl (J.nil (N.seq (W.seq (W.seq (W.region (Jx.fieldAddr rfl rfl ?_)))))))
 (refine Jx.load rfl 0 rfl rfl rfl ?_)
 (refine Jx.lssI rfl rfl rfl (Jx.move rfl rfl (J.gN rfl rfl rfl rfl ?_)))
 (refine J.gN rfl rfl rfl rfl ?_)
 (refine J.gN rfl rfl rfl rfl ?_)
 (refine Jx.pT rfl rfl rfl ?_)
 (refine J.nil (N.seq (W.cT rfl ?_)))
 (refine W.seq (W.region (Jx.assign rfl rfl (J.nil (N.seq (W.ret (N.noGotoRet ?_)))))))
 (refine id ?_; rotate_left))
    exact N.retD (rs := [.tmp 4]) rfl (.tmp rfl .nil) (List.sublist_cons_self _ _) ⟨rfl, rfl⟩
  · have h2 : 255 < n.tag := by omega
    focus (
 (refine W.seq (W.region ?_))
 (refine J.boxAg rfl rfl ?_; intro b')
 (refine Jx.assign rfl rfl (J.nil (N.seq (W.seq (W.seq (W.region (Jx.fieldAddr rfl rfl ?_)))))))
 (refine Jx.load rfl 0 rfl rfl rfl ?_)
 (refine Jx.lssI rfl rfl rfl (Jx.move rfl rfl (J.gY rfl rfl rfl ?_)))
 (refine Jx.fieldAddr rfl rfl ?_)
 (refine J.gY rfl rfl rfl ?_)
 (refine Jx.load rfl 0 rfl rfl rfl ?_)
 (refine J.gY rfl rfl rfl ?_)
 (refine Jx.gtrI rfl rfl rfl (Jx.pF rfl rfl rfl ?_))
 (refine J.nil (N.seq (W.cT rfl ?_)))
 (refine W.seq (W.region (Jx.assign rfl rfl (J.nil (N.seq (W.ret (N.noGotoRet ?_)))))))
 (refine id ?_; rotate_left))
    exact N.retD (rs := [.tmp 4]) rfl (.tmp rfl .nil) (List.sublist_cons_self _ _) ⟨rfl, rfl⟩
set_option maxHeartbeats 2000000 in
theorem put_form (b : Nat) (v : Value) (mt mf : Nat) (all : List Nt) (M : List (Nt × Value)) (K : List (List UInt8 × Value)) (n : Nt) (h1 : ¬ n.tag < 1) (h2 : ¬ 255 < n.tag) (h3 : n.digest.length ≠ 32) :
    FnC Tryd.prog 12 [ptr b, .agg (ntC n)] (logO b v mt mf all M K) (fun r L => r = int 3 ∧ L = logO b v mt mf all M K) := by
  have h4 : ¬ (n.digest.length : Int) = 32 := by omega
  refine FnC.intro Tryd.func12 rfl Tryd.ntmps12 rfl fun Z w0 hG => ?_
  focus (
 (refine W.seq (W.region ?_))
 (refine J.boxAg rfl rfl ?_; intro b')
 (refine Jx.assign rfl rfl (J.nil (N.seq (W.seq (W.seq (W.region (Jx.fieldAddr rfl rfl ?_)))))))
 (refine Jx.load rfl 0 rfl rfl rfl ?_)
 (refine Jx.lssI rfl rfl rfl (Jx.move rfl rfl (J.gY rfl rfl rfl ?_)))
 (refine Jx.fieldAddr rfl rfl ?_)
 (refine J.gY rfl rfl rfl ?_)
 (refine Jx.load rfl 0 rfl rfl rfl ?_)
 (refine J.gY rfl rfl rfl ?_)
 (refine Jx.gtrI rfl rfl rfl (Jx.pF rfl rfl rfl ?_))
 (refine J.nil (N.seq (W.cF rfl ?_)))
 (refine W.skip (N.seq (W.seq (W.seq (W.region (Jx.fieldAddr rfl rfl ?_))))))
 (refine Jx.load rfl 0 rfl rfl rfl ?_)
 (refine Jx.lenS rfl rfl ?_)
 (refine Jx.neqI rfl rfl rfl (J.nil (N.seq (W.cT rfl ?_))))
 (refine W.seq (W.region (Jx.assign rfl rfl (J.nil (N.seq (W.ret (N.noGotoRet ?_)))))))
 (refine id ?_; rotate_left))
  exact N.retD (rs := [.tmp 4]) rfl (.tmp rfl .nil) (List.sublist_cons_self _ _) ⟨rfl, rfl⟩
theorem getD_lt {all : List Nt} {n : Nt} {i : Nat} (h : findN all n = some i) : i < all.length ∧ all.getD i nt0 = n := by
  obtain ⟨h1, h2, _⟩ := findP_some nt0 h
  exact ⟨h1, by simpa using h2⟩
set_option maxHeartbeats 2000000 in
theorem put_there (b : Nat) (v : Value) (mt mf : Nat) (all : List Nt) (M : List (Nt × Value)) (K : List (List UInt8 × Value)) (n : Nt) (hI : LogInv all M K) (h1 : ¬ n.tag < 1) (h2 : ¬ 255 < n.tag) (h3 : n.digest.length = 32) (hn : n ∈ all) :
    FnC Tryd.prog 12 [ptr b, .agg (ntC n)] (logO b v mt mf all M K) (fun r L => r = int 0 ∧ L = logO b v mt mf all M K) := by
  have h4 : (n.digest.length : Int) = 32 := by omega
  have hlk := hI.there n
  obtain ⟨i, hi⟩ := Option.isSome_iff_exists.1 (findN_mem hn)
  rw [hi] at hlk
  obtain ⟨hlt, hgi⟩ := getD_lt hi
  have hel : elOf ntC nt0 all i = ntC n := by rw [← hgi]; rfl
  refine FnC.intro Tryd.func12 rfl Tryd.ntmps12 rfl fun Z w0 hG => ?_
  refine W.rowView 0 rfl (by omega) ?_
  rintro r cap rfl hc1 hc2
  focus (
 (refine W.seq (W.region ?_))
 (refine J.boxAg rfl rfl ?_; intro b')
 (refine Jx.assign rfl rfl (J.nil (N.seq (W.seq (W.seq (W.region (Jx.fieldAddr rfl rfl ?_)))))))
 (refine Jx.load rfl 0 rfl rfl rfl ?_)
 (refine Jx.lssI rfl rfl rfl (Jx.move rfl rfl (J.gY rfl rfl rfl ?_)))
 (refine Jx.fieldAddr rfl rfl ?_)
 (refine J.gY rfl rfl rfl ?_)
 (refine Jx.load rfl 0 rfl rfl rfl ?_)
 (refine J.gY rfl rfl rfl ?_)
 (refine Jx.gtrI rfl rfl rfl (Jx.pF rfl rfl rfl ?_))
 (refine J.nil (N.seq (W.cF rfl ?_)))
 (refine W.skip (N.seq (W.seq (W.seq (W.region (Jx.fieldAddr rfl rfl ?_))))))
 (refine Jx.load rfl 0 rfl rfl rfl ?_)
 (refine Jx.lenS rfl rfl ?_)
 (refine Jx.neqI rfl rfl rfl (J.nil (N.seq (W.cF rfl ?_))))
 (refine W.skip (N.seq (W.seq (W.seq ?_))))
 (refine W.draw follows ?_)
 (refine JD.calm rfl (by decide +kernel) ?_)
 (refine Cx.move rfl rfl ?_)
 (refine Cx.nilCheck rfl rfl ?_)
 (refine Cx.fieldAddr rfl rfl ?_)
 (refine Cx.load rfl 2 rfl rfl rfl ?_)
 (refine Cx.loadAll rfl 0 rfl rfl rfl ?_)
 (refine Cx.lookupA ntV ntV_fit ntV_inj rfl rfl rfl 3 rfl rfl ?_; rw [hlk])
 (refine Cx.move rfl rfl ?_)
 (refine Cx.extract rfl rfl rfl ?_)
 (refine Cx.extract rfl rfl rfl ?_)
 (refine Cx.assign rfl rfl ?_)
 (refine Cx.assign rfl rfl ?_)
 (refine SegC.nil ?_)
 (refine N.seq (W.seq ?_))
 (refine W.draw follows ?_)
 (refine JD.calm rfl (by decide +kernel) ?_)
 (refine Cx.move rfl rfl ?_)
 (refine Cx.move rfl rfl ?_)
 (refine SegC.gY rfl rfl rfl ?_)
 (refine Cx.move rfl rfl ?_)
 (refine SegC.gY rfl rfl rfl ?_)
 (refine Cx.nilCheck rfl rfl ?_)
 (refine SegC.gY rfl rfl rfl ?_)
 (refine Cx.fieldAddr rfl rfl ?_)
 (refine SegC.gY rfl rfl rfl ?_)
 (refine Cx.load rfl 2 rfl rfl rfl ?_)
 (refine SegC.gY rfl rfl rfl ?_)
 (refine Cx.move rfl rfl ?_)
 (refine SegC.gY rfl rfl rfl ?_)
 (refine Cx.indexRow i rfl rfl rfl hlt rfl ?_)
 (refine SegC.gY rfl rfl rfl ?_)
 (refine Cx.loadRowAg rfl 1 rfl i rfl hlt hel rfl ?_)
 (refine SegC.gY rfl rfl rfl ?_)
 (refine Cx.loadAll rfl 0 rfl rfl rfl ?_)
 (refine SegC.gY rfl rfl rfl ?_)
 (refine Cx.eqlAg true rfl rfl rfl rfl rfl rfl ⟨fun _ => rfl, fun _ => rfl⟩ rfl ?_)
 (refine Cx.pickT rfl (by first | rfl | assumption | (exact decide_eq_true (by first | assumption | omega | rfl)) | (exact decide_eq_false (by first | assumption | omega | rfl)) | (simp; done) | (simp; omega)) rfl rfl ?_)
 (refine SegC.nil ?_)
 (refine N.seq (W.cT rfl ?_))
 (refine W.seq (W.region (Jx.assign rfl rfl (J.nil (N.seq (W.ret (N.noGotoRet ?_)))))))
 (refine id ?_; rotate_left))
  exact N.retD (rs := [.tmp 4]) rfl (.tmp rfl .nil) (List.sublist_cons_self _ _) ⟨rfl, rfl⟩
end Go.Proofs.YtafefapbiekmbaaDoor
