/-
  Bytes and texts, parts of slices and arrays, structs and slices that are built, function values, in the frame's words.
-/
import Derived.Test.YtjlpknligekfeaaDoorSseF
import Derived.Lib.ConvBytes
namespace Go.Sse
open Go
set_option linter.unusedVariables false
set_option linter.unusedSimpArgs false

section
variable {P : Program} {Γ : Ctx} {ops : Array Oper} {Q : Exit → Act → World → Prop} {F : List (Nat × SV)} {L : List Own} {rest : List Oper}
variable {dst : Option Tmp} {ty : TypeId} {pos : String} {aft : Array Edge} {g : Option (Nat × Bool)}

theorem OpS.of_qs {o : Oper} {sv : SV} (h : Qs P Γ F L o sv) : OpS P Γ o F L (fun s L' => s = sv ∧ L' = L) :=
  fun a w K Q hst hK => h a w K Q hst.ws (fun x _ s hs => hst.ev hs) fun v w' hs hr => hK v w' sv L ⟨rfl, rfl⟩ hs hr

theorem J.qs {d : Nat} {op : Op} {sv : SV} (h : Qs P Γ F L ⟨some d, op, ty, pos, aft, none⟩ sv) (hlt : Nat.blt d Γ.nt = true) (k : J P Γ ops Q ((d, sv) :: F) L rest) : J P Γ ops Q F L (⟨some d, op, ty, pos, aft, none⟩ :: rest) :=
  J.op (OpS.of_qs h) rfl rfl hlt (by rintro s L' ⟨rfl, rfl⟩; exact k)

/-- A region whose operations turn nothing that is owned. -/
theorem JD.all {l : List Oper} {items G : List (Nat × SV)} (hseg : SegL P Γ l.toArray L F l items) (hc : chk l.toArray 0 l.toArray.size = true) (hG : pushAll F items = G) (h : N Γ (Q .normal) G L) : JD P Γ l.toArray Q 0 F L := by
  obtain ⟨h1, h2⟩ := hseg.seg 0 (fun j hj => by simp)
  exact JD.seg (n1 := l.toArray.size) 0 h1 (by simpa using h2) hc hG (JD.nil (by simp) h)

/-- The first n operations of a region turn nothing that is owned. -/
theorem JD.some {l : List Oper} {items G : List (Nat × SV)} (n : Nat) (hseg : SegL P Γ l.toArray L F (l.take n) items) (hc : chk l.toArray 0 n = true) (hG : pushAll F items = G) (h : JD P Γ l.toArray Q n G L) : JD P Γ l.toArray Q 0 F L := by
  obtain ⟨_, _, hn, _⟩ := chk_spec hc
  obtain ⟨h1, h2⟩ := hseg.seg 0 (fun j hj => by
    simp only [List.length_take] at hj
    simp [List.getElem?_take, show j < n by omega])
  refine JD.seg (n1 := n) 0 h1 (by rw [h2]; simp at hn ⊢; omega) hc hG h

/-- The operations from n0 to n1. -/
theorem JD.next {l : List Oper} {items G : List (Nat × SV)} {n0 : Nat} (n1 : Nat) (hseg : SegL P Γ l.toArray L F ((l.drop n0).take (n1 - n0)) items) (hc : chk l.toArray n0 n1 = true) (hG : pushAll F items = G) (h : JD P Γ l.toArray Q n1 G L) : JD P Γ l.toArray Q n0 F L := by
  obtain ⟨_, h01, hn, _⟩ := chk_spec hc
  obtain ⟨h1, h2⟩ := hseg.seg n0 (fun j hj => by
    simp only [List.length_take, List.length_drop] at hj
    simp [List.getElem?_take, show j < n1 - n0 by omega])
  refine JD.seg (n1 := n1) 0 h1 (by rw [h2]; simp at hn ⊢; omega) hc hG h

-- bytes to a text

theorem bytesRun {src d e : TypeId} (hs : TSlice P src e) (he : TInt P e .u8) (hd : TStr P d) (w : World) (a : Option Addr) (n cap : Nat) (l : List UInt8) (hl : l.length = n)
    (hc : n = 0 ∨ ∃ b off, a = some ⟨b, off, none⟩ ∧ ∀ i, i < n → w.cell? ⟨b, off + i, none⟩ = some (.int .u8 (l.getD i 0).toNat)) :
    (convert src d (.slice a n cap)).run P w = .ok (sv l) w := by
  have conv : ∀ b off, (∀ i, i < n → w.cell? ⟨b, off + i, none⟩ = some (.int .u8 (l.getD i 0).toNat)) → (convert src d (.slice (some ⟨b, off, none⟩) n cap)).run P w = .ok (sv l) w := by
    intro b off hcell
    have := run_convert_bytes_arg (P := P) w src e hs.ok he.ok b off n cap (l.map fun x => (x.toNat : Int)) (by simp [hl]) (fun i hi => by
      rw [hcell i hi]
      have : i < l.length := by omega
      simp [List.getD_eq_getElem?_getD, this]) d hd.ok
    rw [this]
    have e1 : strOfNums (l.map fun x => (x.toNat : Int)) = ⟨l.toArray⟩ := by
      unfold strOfNums
      rw [List.map_map]
      congr 2
      have : (fun n : Int => UInt8.ofNat n.toNat) ∘ (fun x : UInt8 => (x.toNat : Int)) = id := by
        funext x; simp
      rw [this, List.map_id]
    rw [e1]
  rcases hc with h0 | ⟨b, off, rfl, hcell⟩
  · subst h0
    have hnil : l = [] := List.eq_nil_of_length_eq_zero hl
    subst hnil
    cases a with
    | none => exact run_convert_bytes_nil (P := P) w src e hs.ok he.ok 0 cap d hd.ok
    | some a =>
      rw [run_convert_bytes_string w src d e _ 0 cap hs.ok he.ok hd.ok]
      simp [Conv.bytesToString, loadCells, loadCellsFrom]
      rfl
  · exact conv b off hcell

theorem Pv.bytesStr {src d e : TypeId} [hs : TSlice P src e] [he : TInt P e .u8] [hd : TStr P d] {x : Operand} {l : List UInt8} (hx : ev F x = some (bsl l)) : Pv P Γ F L ⟨dst, .convert src d x, ty, pos, aft, g⟩ (str l) := fun ρ w hst => by
  have hr := hst.ev x (by simp [Op.operands]) _ hx
  generalize hv : ρ x = v at hr
  cases hr with
  | sl _ _ _ a cap cs hcap hmax hb h1 hl hr =>
    refine ⟨_, ?_, .val _⟩
    have := bytesRun hs he hd w a l.length cap l rfl (by
      rcases hb with hb | ⟨b, off, rfl, hz, hc⟩
      · left; omega
      · refine .inr ⟨b, off, rfl, fun i hi => ?_⟩
        rw [hc i (by omega)]
        have := hr i 0 hi (by omega)
        simp only [elOf, encB, List.getD_cons_zero, Nat.mul_one, Nat.add_zero] at this
        rw [this.val_eq])
    simp [execOp, hv, this]
theorem Cx.bytesStr {src d e : TypeId} [hs : TSlice P src e] [he : TInt P e .u8] [hd : TStr P d] {x : Operand} {l : List UInt8} (hx : ev F x = some (bsl l)) {d0 : Nat} {K : List (Nat × SV) → Prop} (hlt : Nat.blt d0 Γ.nt = true) (hr : SegC P Γ ops L ((d0, (str l)) :: F) rest K) : SegC P Γ ops L F (⟨some d0, .convert src d x, ty, pos, aft, none⟩ :: rest) K :=
  SegC.q (Qs.pv (by apply Pv.bytesStr <;> assumption)) hlt hr
theorem Jx.bytesStr {src d e : TypeId} [hs : TSlice P src e] [he : TInt P e .u8] [hd : TStr P d] {x : Operand} {l : List UInt8} (hx : ev F x = some (bsl l)) {d0 : Nat} (hlt : Nat.blt d0 Γ.nt = true) (k : J P Γ ops Q ((d0, (str l)) :: F) L rest) : J P Γ ops Q F L (⟨some d0, .convert src d x, ty, pos, aft, none⟩ :: rest) :=
  J.pv (by apply Pv.bytesStr <;> assumption) hlt k

theorem Pv.bytesStrRow {src d e : TypeId} [hs : TSlice P src e] [he : TInt P e .u8] [hd : TStr P d] {x : Operand} {v : Value} {E : TypeId} {l : List UInt8} (hx : ev F x = some (.val v)) (i : Nat) (hi : L[i]? = some (.row v E 1 l.length (elOf encB 0 l))) :
    Pv P Γ F L ⟨dst, .convert src d x, ty, pos, aft, g⟩ (str l) := fun ρ w hst => by
  have hv := hst.evv (x := x) (by simp [Op.operands]) hx
  refine ⟨_, ?_, .val _⟩
  rcases hst.ws.holds _ (mem_of_idx hi) with ⟨h1, h2⟩ | ⟨b, cap, cur, fz, h1, hbk, hu, hnc, hcm, hcs, hone, hell, hrel⟩
  · have := bytesRun hs he hd w none l.length 0 l rfl (.inl h2)
    rw [h2] at this
    simp [execOp, hv, h1, this]
  · have := bytesRun hs he hd w (some ⟨b, 0, none⟩) l.length cap l rfl (.inr ⟨b, 0, rfl, fun i hi => by
      rw [Nat.zero_add, obj_cell hbk]
      have := hrel i 0 hi (by omega)
      simp only [elOf, encB, List.getD_cons_zero, Nat.mul_one, Nat.add_zero] at this
      have hv := this.val_eq
      have hlt : i < cur.size := by omega
      simp only [List.getD_eq_getElem?_getD, Array.getElem?_toList, Array.getElem?_eq_getElem hlt, Option.getD_some] at hv
      rw [Array.getElem?_eq_getElem hlt, hv]
      simp [List.getD_eq_getElem?_getD]⟩)
    simp [execOp, hv, h1, this]
theorem Cx.bytesStrRow {src d e : TypeId} [hs : TSlice P src e] [he : TInt P e .u8] [hd : TStr P d] {x : Operand} {v : Value} {E : TypeId} {l : List UInt8} (hx : ev F x = some (.val v)) (i : Nat) (hi : L[i]? = some (.row v E 1 l.length (elOf encB 0 l))) {d0 : Nat} {K : List (Nat × SV) → Prop} (hlt : Nat.blt d0 Γ.nt = true) (hr : SegC P Γ ops L ((d0, (str l)) :: F) rest K) : SegC P Γ ops L F (⟨some d0, .convert src d x, ty, pos, aft, none⟩ :: rest) K :=
  SegC.q (Qs.pv (by apply Pv.bytesStrRow <;> assumption)) hlt hr
theorem Jx.bytesStrRow {src d e : TypeId} [hs : TSlice P src e] [he : TInt P e .u8] [hd : TStr P d] {x : Operand} {v : Value} {E : TypeId} {l : List UInt8} (hx : ev F x = some (.val v)) (i : Nat) (hi : L[i]? = some (.row v E 1 l.length (elOf encB 0 l))) {d0 : Nat} (hlt : Nat.blt d0 Γ.nt = true) (k : J P Γ ops Q ((d0, (str l)) :: F) L rest) : J P Γ ops Q F L (⟨some d0, .convert src d x, ty, pos, aft, none⟩ :: rest) :=
  J.pv (by apply Pv.bytesStrRow <;> assumption) hlt k

/-- The bytes that lie in an array of the call's own. -/
theorem Pv.bytesStrObj {src d e : TypeId} [hs : TSlice P src e] [he : TInt P e .u8] [hd : TStr P d] {x : Operand} {b o n c : Nat} {T : TypeId} {cs : List SV} (l : List UInt8) (hx : ev F x = some (.val (.slice (some ⟨b, o, none⟩) n c))) (i : Nat) (hi : L[i]? = some (.obj b T cs))
    (hl : l.length = n) (hcs : ∀ k, k < n → cs[o + k]? = some (byte (l.getD k 0))) : Pv P Γ F L ⟨dst, .convert src d x, ty, pos, aft, g⟩ (str l) := fun ρ w hst => by
  have hv := hst.evv (x := x) (by simp [Op.operands]) hx
  obtain ⟨vs, fz, hb, hu, hr⟩ := hst.ws.holds _ (mem_of_idx hi)
  have := bytesRun hs he hd w (some ⟨b, o, none⟩) n c l hl (.inr ⟨b, o, rfl, fun k hk => by
    obtain ⟨v, h1, h2, _⟩ := hr.at (hcs k hk)
    rw [obj_cell hb, show vs[o + k]? = some v by simpa using h1, h2.val_eq]⟩)
  exact ⟨_, by simp [execOp, hv, this], .val _⟩
theorem Cx.bytesStrObj {src d e : TypeId} [hs : TSlice P src e] [he : TInt P e .u8] [hd : TStr P d] {x : Operand} {b o n c : Nat} {T : TypeId} {cs : List SV} (l : List UInt8) (hx : ev F x = some (.val (.slice (some ⟨b, o, none⟩) n c))) (i : Nat) (hi : L[i]? = some (.obj b T cs))
    (hl : l.length = n) (hcs : ∀ k, k < n → cs[o + k]? = some (byte (l.getD k 0))) {d0 : Nat} {K : List (Nat × SV) → Prop} (hlt : Nat.blt d0 Γ.nt = true) (hr : SegC P Γ ops L ((d0, (str l)) :: F) rest K) : SegC P Γ ops L F (⟨some d0, .convert src d x, ty, pos, aft, none⟩ :: rest) K :=
  SegC.q (Qs.pv (by apply Pv.bytesStrObj <;> assumption)) hlt hr
theorem Jx.bytesStrObj {src d e : TypeId} [hs : TSlice P src e] [he : TInt P e .u8] [hd : TStr P d] {x : Operand} {b o n c : Nat} {T : TypeId} {cs : List SV} (l : List UInt8) (hx : ev F x = some (.val (.slice (some ⟨b, o, none⟩) n c))) (i : Nat) (hi : L[i]? = some (.obj b T cs))
    (hl : l.length = n) (hcs : ∀ k, k < n → cs[o + k]? = some (byte (l.getD k 0))) {d0 : Nat} (hlt : Nat.blt d0 Γ.nt = true) (k : J P Γ ops Q ((d0, (str l)) :: F) L rest) : J P Γ ops Q F L (⟨some d0, .convert src d x, ty, pos, aft, none⟩ :: rest) :=
  J.pv (by apply Pv.bytesStrObj <;> assumption) hlt k

-- a text to bytes

theorem bytesWorld_eq (w : World) (e : TypeId) (s : ByteArray) : Lib.bytesWorld w e s = w.drew.alloc (.cells (Lib.bytesCells w e s) e ((Lib.bytesCells w e s).size, (Lib.bytesCells w e s).size + 1)) := by
  have hh : (Lib.bytesWorld w e s).heap = (w.drew.alloc (.cells (Lib.bytesCells w e s) e ((Lib.bytesCells w e s).size, (Lib.bytesCells w e s).size + 1))).heap := by
    apply Array.ext_getElem?
    intro j
    rcases Nat.lt_trichotomy j w.heap.size with h | h | h
    · rw [Lib.bytesWorld_at_old w e s j h, heap_alloc_old w.drew _ (show j < w.drew.heap.size from h)]; rfl
    · subst h
      rw [Lib.bytesWorld_at_new w e s]
      exact (heap_alloc_new w.drew _).symm
    · rw [Array.getElem?_eq_none (by rw [Lib.bytesWorld_size]; omega), Array.getElem?_eq_none (by simp; omega)]
  have h2 : Lib.bytesWorld w e s = { w.drew with heap := (Lib.bytesWorld w e s).heap } := by
    unfold Lib.bytesWorld World.freeze
    simp [World.alloc, World.drew, -World.alloc_eq, -World.drew_eq]
  rw [h2, hh]
  rfl

theorem bytesCells_list (w : World) (e : TypeId) (l : List UInt8) : (Lib.bytesCells w e ⟨l.toArray⟩).toList = (l.map fun b : UInt8 => Value.int .u8 (b.toNat : Int)) ++ List.replicate (grownCap w l.length 0 e - l.length) (Value.int .u8 0) := by
  simp [Lib.bytesCells, ByteArray.size_mk']

theorem J.strBytes {d src t e : TypeId} [hs : TStr P src] [hd : TSlice P t e] [he : TInt P e .u8] {x : Operand} {l : List UInt8} (hx : ev F x = some (str l)) (hm : l.length ≤ maxLen) (hlt : Nat.blt d Γ.nt = true)
    (k : ∀ v, J P Γ ops Q ((d, .val v) :: F) (.row v e 1 l.length (elOf encB 0 l) :: L) rest) : J P Γ ops Q F L (⟨some d, .convert src t x, ty, pos, aft, none⟩ :: rest) := by
  refine J.op (R := fun r L' => ∃ v, r = .val v ∧ L' = .row v e 1 l.length (elOf encB 0 l) :: L) ?_ rfl rfl hlt (by rintro r L' ⟨v, rfl, rfl⟩; exact k v)
  intro a w K Q hst hK
  have hrun := Lib.run_convert_string_bytes (P := P) w src t e ⟨l.toArray⟩ hs.ok hd.ok he.ok
  rw [bytesWorld_eq, ByteArray.size_mk', (show l.toArray.size = l.length by simp)] at hrun
  unfold Oper.wp
  have hexec : (execOp a.eval ⟨some d, .convert src t x, ty, pos, aft, none⟩).run P w = .ok (.value (.slice (some ⟨w.heap.size, 0, none⟩) l.length (grownCap w l.length 0 e))) (w.drew.alloc (.cells (Lib.bytesCells w e ⟨l.toArray⟩) e ((Lib.bytesCells w e ⟨l.toArray⟩).size, (Lib.bytesCells w e ⟨l.toArray⟩).size + 1))) := by
    simp only [execOp, hst.evv hx, Sem.run_bind, hrun, Result.andThen_ok, Sem.run_pure]
  rw [hexec]
  have hcl := bytesCells_list w e l
  have hge := grownCap_ge w l.length 0 e
  have hsz : (Lib.bytesCells w e ⟨l.toArray⟩).size = grownCap w l.length 0 e := by
    have := congrArg List.length hcl
    simp at this
    omega
  have hd2 : Step Γ L L w w.drew := Step.drew hst.ws
  refine hK _ _ _ _ ⟨_, rfl, rfl⟩ (hd2.trans (Step.alloc hd2.ws _ _ rfl (.inr ⟨_, grownCap w l.length 0 e, _, _, rfl, heap_alloc_new w.drew _, fun i hi => by simp only; omega, hge, grownCap_le_maxLen w _ _ _ hm, by rw [hsz]; simp, ?_, fun i _ => rfl, ?_⟩))) (.val _)
  · intro u hu
    rw [hcl, List.mem_append] at hu
    rcases hu with hu | hu
    · obtain ⟨b, _, rfl⟩ := List.mem_map.1 hu; rfl
    · rw [(List.mem_replicate.1 hu).2]; rfl
  · intro i j hi hj
    have : j = 0 := by omega
    subst this
    rw [hcl]
    simp only [Nat.mul_one, Nat.add_zero, List.getD_eq_getElem?_getD, elOf, encB]
    rw [List.getElem?_append_left (by simpa using hi)]
    simp only [List.getElem?_map, List.getElem?_eq_getElem hi, Option.map_some, Option.getD_some]
    exact .val _

/-- The same, of bytes that nobody changes. -/
theorem Qs.strBytes {src t e : TypeId} [hs : TStr P src] [hd : TSlice P t e] [he : TInt P e .u8] {x : Operand} {l : List UInt8} (hx : ev F x = some (str l)) (hm : l.length ≤ maxLen) :
    Qs P Γ F L ⟨dst, .convert src t x, ty, pos, aft, g⟩ (bsl l) := by
  intro a w K Q hws hops hK
  have hxv := (hops x (by simp [Op.operands]) _ hx).val_eq
  have hrun := Lib.run_convert_string_bytes (P := P) w src t e ⟨l.toArray⟩ hs.ok hd.ok he.ok
  rw [bytesWorld_eq, ByteArray.size_mk', (show l.toArray.size = l.length by simp)] at hrun
  unfold Oper.wp
  have hexec : (execOp a.eval ⟨dst, .convert src t x, ty, pos, aft, g⟩).run P w = .ok (.value (.slice (some ⟨w.heap.size, 0, none⟩) l.length (grownCap w l.length 0 e))) (w.drew.alloc (.cells (Lib.bytesCells w e ⟨l.toArray⟩) e ((Lib.bytesCells w e ⟨l.toArray⟩).size, (Lib.bytesCells w e ⟨l.toArray⟩).size + 1))) := by
    simp only [execOp, hxv, Sem.run_bind, hrun, Result.andThen_ok, Sem.run_pure]
  rw [hexec]
  have hcl := bytesCells_list w e l
  have hd2 : Step Γ L L w w.drew := Step.drew hws
  refine hK _ _ (hd2.trans (Step.alloc0 hd2.ws _)) (.sl 1 l.length _ _ (grownCap w l.length 0 e) (fun k => .int .u8 (l.getD k 0).toNat) (grownCap_ge w _ _ _) (grownCap_le_maxLen w _ _ _ hm) (.inr ⟨w.heap.size, 0, rfl, hws.fresh, fun k hk => ?_⟩) (fun _ _ => rfl) (fun _ _ => rfl) (fun i j hi hj => ?_))
  · have hc := obj_cell (b := w.heap.size) (heap_alloc_new w.drew (.cells (Lib.bytesCells w e ⟨l.toArray⟩) e ((Lib.bytesCells w e ⟨l.toArray⟩).size, (Lib.bytesCells w e ⟨l.toArray⟩).size + 1))) k
    rw [Nat.zero_add, hc, ← Array.getElem?_toList, hcl]
    have hk : k < l.length := by omega
    rw [List.getElem?_append_left (by simpa using hk)]
    simp [List.getD_eq_getElem?_getD, hk]
  · have : j = 0 := by omega
    subst this
    simp only [elOf, encB, List.getD_cons_zero, Nat.mul_one, Nat.add_zero]
    exact .val _

-- parts of slices

theorem sl_part {Z : Nat → Prop} {w : World} {sz n cap : Nat} {el : Nat → List SV} {a : Option Addr} (h : Rel Z w (.sl sz n el) (.slice a n cap)) (l m : Nat) (hlm : l ≤ m) (hm : m ≤ n) (c : Nat) (hc1 : m - l ≤ c) (hc2 : c ≤ maxLen) :
    Rel Z w (.sl sz (m - l) (fun i => el (l + i))) (.slice (a.map (·.add (l * sz))) (m - l) c) := by
  cases h with
  | sl _ _ _ _ _ cs hcap hmax hb h1 hl hr =>
    refine .sl sz (m - l) _ _ c (fun k => cs (l * sz + k)) hc1 hc2 ?_ (fun k hk => h1 _ ?_) (fun i hi => hl _ (by omega)) (fun i j hi hj => ?_)
    · rcases hb with hb | ⟨b, off, rfl, hz, hcell⟩
      · left
        rcases Nat.mul_eq_zero.1 hb with h0 | h0
        · subst h0; have : m - l = 0 := by omega
          rw [this]; simp
        · subst h0; simp
      · rcases Nat.eq_zero_or_pos ((m - l) * sz) with h0 | h0
        · exact .inl h0
        · refine .inr ⟨b, off + l * sz, by simp [add_plain], hz, fun k hk => ?_⟩
          rw [Nat.add_assoc]
          refine hcell _ ?_
          have : l * sz + (m - l) * sz = m * sz := by rw [← Nat.add_mul]; congr 1; omega
          have h2 : m * sz ≤ n * sz := Nat.mul_le_mul_right sz hm
          omega
    · have : l * sz + (m - l) * sz = m * sz := by rw [← Nat.add_mul]; congr 1; omega
      have h2 : m * sz ≤ n * sz := Nat.mul_le_mul_right sz hm
      omega
    · have := hr (l + i) j (by omega) hj
      have e : l * sz + (i * sz + j) = (l + i) * sz + j := by rw [Nat.add_mul]; omega
      rw [e]; exact this

theorem rel_addr {Z : Nat → Prop} {w : World} {sz n cap : Nat} {el : Nat → List SV} {a a' : Option Addr} (h : Rel Z w (.sl sz n el) (.slice a n cap)) (h0 : n = 0) : Rel Z w (.sl sz n el) (.slice a' n cap) := by
  cases h with
  | sl _ _ _ _ _ cs hcap hmax hb h1 hl hr => exact .sl sz n el a' cap cs hcap hmax (.inl (by rw [h0]; simp)) h1 hl hr

section
variable {T E : Nat} [h : TSlice P T E] {sz by' : Nat} {z : List Value} [hI : TInfo P E sz by' z] {x i j : Operand} {k k' k'' : IntKind} {n : Nat} {el : Nat → List SV} {m m' : Int}
include h hI

omit h in
theorem slice_sz (w : World) : (sizeOf E).run P w = .ok sz w := sizeOf_of (by have := hI.ok; cases hq : P.info? E <;> simp_all) w

theorem Pv.slSlh (hx : ev F x = some (.sl sz n el)) (hi : ev F i = some (.val (.int k m))) (hj : ev F j = some (.val (.int k' m'))) (h0 : 0 ≤ m) (h1 : m ≤ m') (h2 : m' ≤ n) :
    Pv P Γ F L ⟨dst, .slice T x (some i) (some j) none, ty, pos, aft, g⟩ (.sl sz (m'.toNat - m.toNat) (fun i => el (m.toNat + i))) := fun ρ w hst => by
  have hr := hst.ev x (by simp [Op.operands]) _ hx
  have hiv := hst.evv (x := i) (by simp [Op.operands]) hi
  have hjv := hst.evv (x := j) (by simp [Op.operands]) hj
  generalize hv : ρ x = v at hr
  obtain ⟨a, cap, rfl, hcap, hmax⟩ : ∃ a cap, v = .slice a n cap ∧ n ≤ cap ∧ cap ≤ maxLen := by cases hr with | sl _ _ _ a cap cs hcap hmax => exact ⟨a, cap, rfl, hcap, hmax⟩
  have e1 := run_sliceBoundNat (P := P) (k := k') (i := m') (y := cap) (code := .sliceAcap) (w := w) (by omega) (by omega)
  have e2 := run_sliceBoundNat (P := P) (k := k) (i := m) (y := m'.toNat) (code := .sliceB) (w := w) h0 (by omega)
  have hp := sl_part hr m.toNat m'.toNat (by omega) (by omega) (cap - m.toNat) (by omega) (by omega)
  refine ⟨.slice (if cap = m.toNat then a else a.map (·.add (m.toNat * sz))) (m'.toNat - m.toNat) (cap - m.toNat), ?_, ?_⟩
  · simp [execOp, hv, hiv, hjv, Instr.sliceAt, Instr.slice, Instr.sliceBounds, run_underlying h.ok, e1, e2, slice_sz (P := P) (E := E) (sz := sz)]
  · split
    · exact rel_addr hp (by omega)
    · exact hp
theorem Cx.slSlh (hx : ev F x = some (.sl sz n el)) (hi : ev F i = some (.val (.int k m))) (hj : ev F j = some (.val (.int k' m'))) (h0 : 0 ≤ m) (h1 : m ≤ m') (h2 : m' ≤ n) {d0 : Nat} {K : List (Nat × SV) → Prop} (hlt : Nat.blt d0 Γ.nt = true) (hr : SegC P Γ ops L ((d0, (.sl sz (m'.toNat - m.toNat) (fun i => el (m.toNat + i)))) :: F) rest K) : SegC P Γ ops L F (⟨some d0, .slice T x (some i) (some j) none, ty, pos, aft, none⟩ :: rest) K :=
  SegC.q (Qs.pv (by apply Pv.slSlh <;> assumption)) hlt hr
theorem Jx.slSlh (hx : ev F x = some (.sl sz n el)) (hi : ev F i = some (.val (.int k m))) (hj : ev F j = some (.val (.int k' m'))) (h0 : 0 ≤ m) (h1 : m ≤ m') (h2 : m' ≤ n) {d0 : Nat} (hlt : Nat.blt d0 Γ.nt = true) (k : J P Γ ops Q ((d0, (.sl sz (m'.toNat - m.toNat) (fun i => el (m.toNat + i)))) :: F) L rest) : J P Γ ops Q F L (⟨some d0, .slice T x (some i) (some j) none, ty, pos, aft, none⟩ :: rest) :=
  J.pv (by apply Pv.slSlh <;> assumption) hlt k

theorem Pv.slSh (hx : ev F x = some (.sl sz n el)) (hj : ev F j = some (.val (.int k' m'))) (h1 : 0 ≤ m') (h2 : m' ≤ n) :
    Pv P Γ F L ⟨dst, .slice T x none (some j) none, ty, pos, aft, g⟩ (.sl sz m'.toNat el) := fun ρ w hst => by
  have hr := hst.ev x (by simp [Op.operands]) _ hx
  have hjv := hst.evv (x := j) (by simp [Op.operands]) hj
  generalize hv : ρ x = v at hr
  obtain ⟨a, cap, rfl, hcap, hmax⟩ : ∃ a cap, v = .slice a n cap ∧ n ≤ cap ∧ cap ≤ maxLen := by cases hr with | sl _ _ _ a cap cs hcap hmax => exact ⟨a, cap, rfl, hcap, hmax⟩
  have e1 := run_sliceBoundNat (P := P) (k := k') (i := m') (y := cap) (code := .sliceAcap) (w := w) (by omega) (by omega)
  have hp := sl_part hr 0 m'.toNat (by omega) (by omega) cap (by omega) (by omega)
  refine ⟨.slice (if cap = 0 then a else a.map (·.add (0 * sz))) m'.toNat cap, ?_, ?_⟩
  · simp [execOp, hv, hjv, Instr.sliceAt, Instr.slice, Instr.sliceBounds, run_underlying h.ok, e1, slice_sz (P := P) (E := E) (sz := sz)]
  · simp only [Nat.sub_zero, Nat.zero_add] at hp
    split
    · exact rel_addr hp (by omega)
    · exact hp
theorem Cx.slSh (hx : ev F x = some (.sl sz n el)) (hj : ev F j = some (.val (.int k' m'))) (h1 : 0 ≤ m') (h2 : m' ≤ n) {d0 : Nat} {K : List (Nat × SV) → Prop} (hlt : Nat.blt d0 Γ.nt = true) (hr : SegC P Γ ops L ((d0, (.sl sz m'.toNat el)) :: F) rest K) : SegC P Γ ops L F (⟨some d0, .slice T x none (some j) none, ty, pos, aft, none⟩ :: rest) K :=
  SegC.q (Qs.pv (by apply Pv.slSh <;> assumption)) hlt hr
theorem Jx.slSh (hx : ev F x = some (.sl sz n el)) (hj : ev F j = some (.val (.int k' m'))) (h1 : 0 ≤ m') (h2 : m' ≤ n) {d0 : Nat} (hlt : Nat.blt d0 Γ.nt = true) (k : J P Γ ops Q ((d0, (.sl sz m'.toNat el)) :: F) L rest) : J P Γ ops Q F L (⟨some d0, .slice T x none (some j) none, ty, pos, aft, none⟩ :: rest) :=
  J.pv (by apply Pv.slSh <;> assumption) hlt k

theorem Pv.slSl (hx : ev F x = some (.sl sz n el)) (hi : ev F i = some (.val (.int k m))) (h0 : 0 ≤ m) (h1 : m ≤ n) :
    Pv P Γ F L ⟨dst, .slice T x (some i) none none, ty, pos, aft, g⟩ (.sl sz (n - m.toNat) (fun i => el (m.toNat + i))) := fun ρ w hst => by
  have hr := hst.ev x (by simp [Op.operands]) _ hx
  have hiv := hst.evv (x := i) (by simp [Op.operands]) hi
  generalize hv : ρ x = v at hr
  obtain ⟨a, cap, rfl, hcap, hmax⟩ : ∃ a cap, v = .slice a n cap ∧ n ≤ cap ∧ cap ≤ maxLen := by cases hr with | sl _ _ _ a cap cs hcap hmax => exact ⟨a, cap, rfl, hcap, hmax⟩
  have e2 := run_sliceBoundNat (P := P) (k := k) (i := m) (y := n) (code := .sliceB) (w := w) h0 (by omega)
  have hp := sl_part hr m.toNat n (by omega) (by omega) (cap - m.toNat) (by omega) (by omega)
  refine ⟨.slice (if cap = m.toNat then a else a.map (·.add (m.toNat * sz))) (n - m.toNat) (cap - m.toNat), ?_, ?_⟩
  · simp [execOp, hv, hiv, Instr.sliceAt, Instr.slice, Instr.sliceBounds, run_underlying h.ok, e2, slice_sz (P := P) (E := E) (sz := sz)]
  · split
    · exact rel_addr hp (by omega)
    · exact hp
theorem Cx.slSl (hx : ev F x = some (.sl sz n el)) (hi : ev F i = some (.val (.int k m))) (h0 : 0 ≤ m) (h1 : m ≤ n) {d0 : Nat} {K : List (Nat × SV) → Prop} (hlt : Nat.blt d0 Γ.nt = true) (hr : SegC P Γ ops L ((d0, (.sl sz (n - m.toNat) (fun i => el (m.toNat + i)))) :: F) rest K) : SegC P Γ ops L F (⟨some d0, .slice T x (some i) none none, ty, pos, aft, none⟩ :: rest) K :=
  SegC.q (Qs.pv (by apply Pv.slSl <;> assumption)) hlt hr
theorem Jx.slSl (hx : ev F x = some (.sl sz n el)) (hi : ev F i = some (.val (.int k m))) (h0 : 0 ≤ m) (h1 : m ≤ n) {d0 : Nat} (hlt : Nat.blt d0 Γ.nt = true) (k : J P Γ ops Q ((d0, (.sl sz (n - m.toNat) (fun i => el (m.toNat + i)))) :: F) L rest) : J P Γ ops Q F L (⟨some d0, .slice T x (some i) none none, ty, pos, aft, none⟩ :: rest) :=
  J.pv (by apply Pv.slSl <;> assumption) hlt k

/-- 's[:m:m]': a slice without room behind its end. -/
theorem Pv.clip {y : Operand} (hx : ev F x = some (.sl sz n el)) (hj : ev F j = some (.val (.int k' m'))) (hy : ev F y = some (.val (.int k'' m'))) (h1 : 0 ≤ m') (h2 : m' ≤ n) :
    Pv P Γ F L ⟨dst, .slice T x none (some j) (some y), ty, pos, aft, g⟩ (.slc sz m'.toNat el) := fun ρ w hst => by
  have hr := hst.ev x (by simp [Op.operands]) _ hx
  have hjv := hst.evv (x := j) (by simp [Op.operands]) hj
  have hyv := hst.evv (x := y) (by simp [Op.operands]) hy
  generalize hv : ρ x = v at hr
  obtain ⟨a, cap, rfl, hcap, hmax⟩ : ∃ a cap, v = .slice a n cap ∧ n ≤ cap ∧ cap ≤ maxLen := by cases hr with | sl _ _ _ a cap cs hcap hmax => exact ⟨a, cap, rfl, hcap, hmax⟩
  have e1 := run_sliceBoundNat (P := P) (k := k'') (i := m') (y := cap) (code := .slice3Acap) (w := w) (by omega) (by omega)
  have e2 := run_sliceBoundNat (P := P) (k := k') (i := m') (y := m'.toNat) (code := .slice3B) (w := w) (by omega) (by omega)
  have hp := sl_part hr 0 m'.toNat (by omega) (by omega) m'.toNat (by omega) (by omega)
  refine ⟨.slice (if m'.toNat = 0 then a else a.map (·.add (0 * sz))) m'.toNat m'.toNat, ?_, .slc _ _ _ _ ?_⟩
  · simp [execOp, hv, hjv, hyv, Instr.sliceAt, Instr.slice, Instr.sliceBounds, run_underlying h.ok, e1, e2, slice_sz (P := P) (E := E) (sz := sz)]
  · simp only [Nat.sub_zero, Nat.zero_add] at hp
    split
    · exact rel_addr hp (by omega)
    · exact hp
theorem Cx.clip {y : Operand} (hx : ev F x = some (.sl sz n el)) (hj : ev F j = some (.val (.int k' m'))) (hy : ev F y = some (.val (.int k'' m'))) (h1 : 0 ≤ m') (h2 : m' ≤ n) {d0 : Nat} {K : List (Nat × SV) → Prop} (hlt : Nat.blt d0 Γ.nt = true) (hr : SegC P Γ ops L ((d0, (.slc sz m'.toNat el)) :: F) rest K) : SegC P Γ ops L F (⟨some d0, .slice T x none (some j) (some y), ty, pos, aft, none⟩ :: rest) K :=
  SegC.q (Qs.pv (by apply Pv.clip <;> assumption)) hlt hr
theorem Jx.clip {y : Operand} (hx : ev F x = some (.sl sz n el)) (hj : ev F j = some (.val (.int k' m'))) (hy : ev F y = some (.val (.int k'' m'))) (h1 : 0 ≤ m') (h2 : m' ≤ n) {d0 : Nat} (hlt : Nat.blt d0 Γ.nt = true) (k : J P Γ ops Q ((d0, (.slc sz m'.toNat el)) :: F) L rest) : J P Γ ops Q F L (⟨some d0, .slice T x none (some j) (some y), ty, pos, aft, none⟩ :: rest) :=
  J.pv (by apply Pv.clip <;> assumption) hlt k

end

theorem run_append_zero {t xt e ty : TypeId} {sz by' : Nat} {z : List Value} {w : World} {x : Value} (ht : P.underlying t = some (.slice e)) (hI : TInfo P e sz by' z) {news : List Value}
    (hs : Src P sz xt w x 0 news) (base : Option Addr) (n cap : Nat) (hn : n ≤ cap) : (Builtin.append_ #[t, xt] ty #[.slice base n cap, x]).run P w = .ok (.slice base n cap) w := by
  obtain ⟨zv, hzr, hzc, i, hi, rfl, rfl, hiz⟩ := run_zero hI w
  obtain ⟨d, hd, hdk⟩ := hs.ty
  have hzi := zeros_match hdk
  have hnn : news = [] := List.eq_nil_of_length_eq_zero (by simpa using hs.nl)
  subst hnn
  cases base <;> simp [Builtin.append_, run_underlying ht, run_underlying hd, hzi, sizeOf, typeInfo, hi, hs.len, hs.cells, hn, storeCells]

/-- An append to a slice without room: a new row, or the old one if nothing is appended; nobody changes it. -/
theorem Qs.appendClip {t xt E sz by' n m : Nat} {z : List Value} [ht : TSlice P t E] [hI : TInfo P E sz by' z] {s x : Operand} {el el2 : Nat → List SV} (el' : Nat → List SV) (n' : Nat)
    (hsv : ev (F := F) s = some (.slc sz n el)) (hx : SrcOK P Γ F L sz xt x m el2) (hz : z.length = sz) (hz1 : z.all (·.oneCell') = true) (hsz : 0 < sz) (h63 : n + m ≤ maxLen) (hb : (n + m) * by' ≤ 140737488355328)
    (hn : n' = n + m) (h1 : ∀ i, i < n → el' i = el i) (h2 : ∀ i, i < m → el' (n + i) = el2 i) :
    Qs P Γ F L ⟨dst, .call { callee := .builtin .append, args := #[s, x], argTypes := #[t, xt] }, ty, pos, aft, g⟩ (.sl sz n' el') := by
  subst hn
  intro a w K Q hws hops hK
  obtain ⟨news, hsrc, hnew⟩ := hx a.eval w hws (hops x (by simp [Op.operands, Call.operands]))
  have hr := hops s (by simp [Op.operands, Call.operands]) _ hsv
  generalize hv : a.eval s = v at hr
  have hexec : ∀ r w', (Builtin.append_ #[t, xt] ty #[v, a.eval x]).run P w = .ok r w' →
      (execOp a.eval ⟨dst, .call { callee := .builtin .append, args := #[s, x], argTypes := #[t, xt] }, ty, pos, aft, g⟩).run P w = .ok (.value r) w' := by
    intro r w' h
    simp [execOp, resolve, invoke, builtin, hv, h]
  cases hr with
  | slc _ _ _ base hsl =>
    by_cases hm : m = 0
    · subst hm
      have hrun := run_append_zero (ty := ty) ht.ok hI hsrc base n n (Nat.le_refl _)
      unfold Oper.wp
      rw [hexec _ _ hrun]
      exact hK _ _ (Step.refl hws) (Sub.sl (fun i hi => (h1 i hi).symm) _ _ _ hsl)
    · obtain ⟨olds, hol, ho1, holen, holr, hof⟩ : ∃ olds : List Value, olds.length = n * sz ∧ (∀ u ∈ olds, u.oneCell' = true) ∧ (∀ i, i < n → (el i).length = sz) ∧
          (∀ i j, i < n → j < sz → Rel (ZL Γ.Z L) w ((el i).getD j .any) (olds.getD (i * sz + j) undef)) ∧ (Builtin.firstCells sz n (.slice base n n)).run P w.drew = .ok olds.toArray w.drew := by
        obtain ⟨news, hs, hn⟩ := SrcOK.sl (P := P) (Γ := Γ) (F := [(0, .sl sz n el)]) (L := L) (xt := t) (E := E) (x := .tmp 0) (sz := sz) (m := n) (el2 := el) rfl (fun _ => .slice base n n) w hws (by
          intro s hs; simp [ev, look] at hs; subst hs; exact hsl)
        exact ⟨news, hs.nl, hs.one, hn.1, hn.2, hs.drew⟩
      obtain ⟨c, rest', hc1, hc2, hc3, hc4, hrun⟩ := run_append_new (ty := ty) ht.ok hI hz hsrc base n n hof hol (by omega) h63 hb
      unfold Oper.wp
      rw [hexec _ _ hrun]
      have hd2 : Step Γ L L w w.drew := Step.drew hws
      refine hK _ _ (hd2.trans (Step.alloc0 hd2.ws _)) ?_
      have hlens : ∀ i, i < n + m → (el' i).length = sz := by
        intro i hi
        by_cases hin : i < n
        · rw [h1 i hin]; exact holen i hin
        · obtain ⟨k, rfl⟩ : ∃ k, i = n + k := ⟨i - n, by omega⟩
          rw [h2 k (by omega)]; exact hnew.1 k (by omega)
      have hlen : (n + m) * sz ≤ (olds ++ news ++ rest').length := by rw [hc3]; exact Nat.mul_le_mul_right _ hc1
      refine .sl sz (n + m) el' _ c (fun k => (olds ++ news ++ rest').getD k undef) hc1 hc2 (.inr ⟨w.heap.size, 0, rfl, hws.fresh, fun k hk => ?_⟩) (fun k hk => ?_) hlens (fun i j hi hj => ?_)
      · have hc := obj_cell (b := w.heap.size) (heap_alloc_new w.drew (.cells (olds ++ news ++ rest').toArray E)) k
        rw [Nat.zero_add, hc]
        have hk2 : k < (olds ++ news ++ rest').length := by omega
        generalize olds ++ news ++ rest' = all at hk2
        simp [List.getD_eq_getElem?_getD, hk2]
      · have : k < (olds ++ news ++ rest').length := by omega
        simp only [List.getD_eq_getElem?_getD, List.getElem?_eq_getElem this, Option.getD_some]
        have hu := List.getElem_mem this
        rcases List.mem_append.1 hu with hu | hu
        · rcases List.mem_append.1 hu with hu | hu
          · exact ho1 _ hu
          · exact hsrc.one _ hu
        · exact (List.all_eq_true.1 hz1) _ (hc4 _ hu)
      · exact (join_rel (rest := rest') hol hsrc.nl h1 h2 holr hnew i j hi hj).stable fun b hb hn => ⟨heap_alloc_old w.drew _ hb, hn⟩

-- arrays

/-- The address of an array's member. -/
theorem Pv.indexArr {T E sz by' n : Nat} {z : List Value} [h : TArr P T n E] [hI : TInfo P E sz by' z] {x i : Operand} {k : IntKind} {b o : Nat} {m : Int} (hx : ev F x = some (.val (.pointer (some ⟨b, o, none⟩))))
    (hi : ev F i = some (.val (.int k m))) (h0 : 0 ≤ m) (h1 : m < n) : Pv P Γ F L ⟨dst, .indexAddr T x i, ty, pos, aft, g⟩ (.val (.pointer (some ⟨b, o + m.toNat * sz, none⟩))) := fun ρ w hst => by
  have hxv := hst.evv (x := x) (by simp [Op.operands]) hx
  have hiv := hst.evv (x := i) (by simp [Op.operands]) hi
  have hs : (sizeOf E).run P w = .ok sz w := sizeOf_of (by have := hI.ok; cases hq : P.info? E <;> simp_all) w
  refine ⟨_, ?_, .val _⟩
  simp [execOp, hxv, hiv, Instr.indexAt, asIntOf, run_underlying h.ok, Instr.sureAddr, h0, h1, hs, add_plain]
theorem Cx.indexArr {T E sz by' n : Nat} {z : List Value} [h : TArr P T n E] [hI : TInfo P E sz by' z] {x i : Operand} {k : IntKind} {b o : Nat} {m : Int} (hx : ev F x = some (.val (.pointer (some ⟨b, o, none⟩))))
    (hi : ev F i = some (.val (.int k m))) (h0 : 0 ≤ m) (h1 : m < n) {d0 : Nat} {K : List (Nat × SV) → Prop} (hlt : Nat.blt d0 Γ.nt = true) (hr : SegC P Γ ops L ((d0, (.val (.pointer (some ⟨b, o + m.toNat * sz, none⟩)))) :: F) rest K) : SegC P Γ ops L F (⟨some d0, .indexAddr T x i, ty, pos, aft, none⟩ :: rest) K :=
  SegC.q (Qs.pv (by apply Pv.indexArr <;> assumption)) hlt hr
theorem Jx.indexArr {T E sz by' n : Nat} {z : List Value} [h : TArr P T n E] [hI : TInfo P E sz by' z] {x i : Operand} {k : IntKind} {b o : Nat} {m : Int} (hx : ev F x = some (.val (.pointer (some ⟨b, o, none⟩))))
    (hi : ev F i = some (.val (.int k m))) (h0 : 0 ≤ m) (h1 : m < n) {d0 : Nat} (hlt : Nat.blt d0 Γ.nt = true) (k : J P Γ ops Q ((d0, (.val (.pointer (some ⟨b, o + m.toNat * sz, none⟩)))) :: F) L rest) : J P Γ ops Q F L (⟨some d0, .indexAddr T x i, ty, pos, aft, none⟩ :: rest) :=
  J.pv (by apply Pv.indexArr <;> assumption) hlt k

/-- A slice of an array of the call's own. -/
theorem Pv.sliceArrL {T E sz by' n : Nat} {z : List Value} [h : TArr P T n E] [hI : TInfo P E sz by' z] {x i : Operand} {k : IntKind} {b o : Nat} {m : Int} (hx : ev F x = some (.val (.pointer (some ⟨b, o, none⟩))))
    (hi : ev F i = some (.val (.int k m))) (h0 : 0 ≤ m) (h1 : m ≤ n) : Pv P Γ F L ⟨dst, .slice T x (some i) none none, ty, pos, aft, g⟩ (.val (.slice (some (if n = m.toNat then ⟨b, o, none⟩ else ⟨b, o + m.toNat * sz, none⟩)) (n - m.toNat) (n - m.toNat))) := fun ρ w hst => by
  have hxv := hst.evv (x := x) (by simp [Op.operands]) hx
  have hiv := hst.evv (x := i) (by simp [Op.operands]) hi
  have hs : (sizeOf E).run P w = .ok sz w := sizeOf_of (by have := hI.ok; cases hq : P.info? E <;> simp_all) w
  have e2 := run_sliceBoundNat (P := P) (k := k) (i := m) (y := n) (code := .sliceB) (w := w) h0 (by omega)
  refine ⟨_, ?_, .val _⟩
  simp [execOp, hxv, hiv, Instr.sliceAt, Instr.sliceBounds, run_underlying h.ok, Instr.sureAddr, hs, e2, add_plain]
theorem Cx.sliceArrL {T E sz by' n : Nat} {z : List Value} [h : TArr P T n E] [hI : TInfo P E sz by' z] {x i : Operand} {k : IntKind} {b o : Nat} {m : Int} (hx : ev F x = some (.val (.pointer (some ⟨b, o, none⟩))))
    (hi : ev F i = some (.val (.int k m))) (h0 : 0 ≤ m) (h1 : m ≤ n) {d0 : Nat} {K : List (Nat × SV) → Prop} (hlt : Nat.blt d0 Γ.nt = true) (hr : SegC P Γ ops L ((d0, (.val (.slice (some (if n = m.toNat then ⟨b, o, none⟩ else ⟨b, o + m.toNat * sz, none⟩)) (n - m.toNat) (n - m.toNat)))) :: F) rest K) : SegC P Γ ops L F (⟨some d0, .slice T x (some i) none none, ty, pos, aft, none⟩ :: rest) K :=
  SegC.q (Qs.pv (by apply Pv.sliceArrL <;> assumption)) hlt hr
theorem Jx.sliceArrL {T E sz by' n : Nat} {z : List Value} [h : TArr P T n E] [hI : TInfo P E sz by' z] {x i : Operand} {k : IntKind} {b o : Nat} {m : Int} (hx : ev F x = some (.val (.pointer (some ⟨b, o, none⟩))))
    (hi : ev F i = some (.val (.int k m))) (h0 : 0 ≤ m) (h1 : m ≤ n) {d0 : Nat} (hlt : Nat.blt d0 Γ.nt = true) (k : J P Γ ops Q ((d0, (.val (.slice (some (if n = m.toNat then ⟨b, o, none⟩ else ⟨b, o + m.toNat * sz, none⟩)) (n - m.toNat) (n - m.toNat)))) :: F) L rest) : J P Γ ops Q F L (⟨some d0, .slice T x (some i) none none, ty, pos, aft, none⟩ :: rest) :=
  J.pv (by apply Pv.sliceArrL <;> assumption) hlt k

theorem Pv.sliceArr {T E sz by' n : Nat} {z : List Value} [h : TArr P T n E] [hI : TInfo P E sz by' z] {x : Operand} {b o : Nat} (hx : ev F x = some (.val (.pointer (some ⟨b, o, none⟩)))) :
    Pv P Γ F L ⟨dst, .slice T x none none none, ty, pos, aft, g⟩ (.val (.slice (some ⟨b, o, none⟩) n n)) := fun ρ w hst => by
  have hxv := hst.evv (x := x) (by simp [Op.operands]) hx
  have hs : (sizeOf E).run P w = .ok sz w := sizeOf_of (by have := hI.ok; cases hq : P.info? E <;> simp_all) w
  refine ⟨_, ?_, .val _⟩
  simp [execOp, hxv, Instr.sliceAt, Instr.sliceBounds, run_underlying h.ok, Instr.sureAddr, hs, add_plain]
theorem Cx.sliceArr {T E sz by' n : Nat} {z : List Value} [h : TArr P T n E] [hI : TInfo P E sz by' z] {x : Operand} {b o : Nat} (hx : ev F x = some (.val (.pointer (some ⟨b, o, none⟩)))) {d0 : Nat} {K : List (Nat × SV) → Prop} (hlt : Nat.blt d0 Γ.nt = true) (hr : SegC P Γ ops L ((d0, (.val (.slice (some ⟨b, o, none⟩) n n))) :: F) rest K) : SegC P Γ ops L F (⟨some d0, .slice T x none none none, ty, pos, aft, none⟩ :: rest) K :=
  SegC.q (Qs.pv (by apply Pv.sliceArr <;> assumption)) hlt hr
theorem Jx.sliceArr {T E sz by' n : Nat} {z : List Value} [h : TArr P T n E] [hI : TInfo P E sz by' z] {x : Operand} {b o : Nat} (hx : ev F x = some (.val (.pointer (some ⟨b, o, none⟩)))) {d0 : Nat} (hlt : Nat.blt d0 Γ.nt = true) (k : J P Γ ops Q ((d0, (.val (.slice (some ⟨b, o, none⟩) n n))) :: F) L rest) : J P Γ ops Q F L (⟨some d0, .slice T x none none none, ty, pos, aft, none⟩ :: rest) :=
  J.pv (by apply Pv.sliceArr <;> assumption) hlt k

-- structs and slices that are built

def cellsS : SV → List SV
  | .agg ds => ds
  | s => [s]

/-- A part that may be laid into a struct, an array, a slice. -/
inductive PartOK : SV → Prop
  | one {s : SV} (h : One s) : PartOK s
  | agg {ds : List SV} : PartOK (.agg ds)

inductive AllOK : List SV → Prop
  | nil : AllOK []
  | cons {s : SV} {ss : List SV} (h : PartOK s) (hr : AllOK ss) : AllOK (s :: ss)
theorem AllOK.mem : ∀ {ss : List SV}, AllOK ss → ∀ s ∈ ss, PartOK s
  | _, .cons h hr, s, hs => by
    rcases List.mem_cons.1 hs with rfl | hs
    · exact h
    · exact hr.mem s hs

theorem PartOK.rel {s : SV} (h : PartOK s) {Z : Nat → Prop} {w : World} {v : Value} (hr : Rel Z w s v) : RelL Z w (cellsS s) v.cells.toList := by
  cases h with
  | one h =>
    have hone := h.cell hr
    have hcs : v.cells = #[v] := by cases v <;> simp_all [Value.cells, Value.oneCell']
    have hc : cellsS s = [s] := by cases h <;> rfl
    rw [hcs, hc]
    refine ⟨rfl, by simp [hone], fun j hj => ?_⟩
    have : j = 0 := by simpa using hj
    subst this
    simpa using hr
  | agg =>
    cases hr with
    | agg _ vs hl h1 hr => simp only [Value.cells, cellsS]; exact ⟨hl, h1, hr⟩

def fillS (pl : List (Nat × Nat)) (cs : List SV) : List (Nat × SV) → Option (List SV)
  | [] => some cs
  | (i, s) :: r => match pl[i]? with
    | none => none
    | some (off, sz) => if (cellsS s).length = sz ∧ off + sz ≤ cs.length then fillS pl (cs.take off ++ cellsS s ++ cs.drop (off + sz)) r else none

theorem foldl_splice (off : Nat) : ∀ (vs : List Value) (k : Nat) (cells : Array Value), off + k + vs.length ≤ cells.size →
    ((vs.zipIdx k).foldl (fun cs (p : Value × Nat) => cs.setIfInBounds (off + p.2) p.1) cells).toList = cells.toList.take (off + k) ++ vs ++ cells.toList.drop (off + k + vs.length)
  | [], k, cells, _ => by simp
  | v :: vs, k, cells, h => by
    simp only [List.zipIdx_cons, List.foldl_cons]
    rw [foldl_splice off vs (k + 1) _ (by simp at h ⊢; omega)]
    have e := list_seg_step cells.toList (off + k) v vs (by simp at h ⊢; omega)
    simpa [Array.toList_setIfInBounds, Nat.add_assoc] using e

theorem RelL.splice {Z : Nat → Prop} {w : World} {cs ds : List SV} {vs us : List Value} (h : RelL Z w cs vs) (k : RelL Z w ds us) (off : Nat) (hle : off + ds.length ≤ cs.length) :
    RelL Z w (cs.take off ++ ds ++ cs.drop (off + ds.length)) (vs.take off ++ us ++ vs.drop (off + us.length)) := by
  have e1 := h.1
  have e2 := k.1
  refine ⟨by simp; omega, fun v hv => ?_, fun j hj => ?_⟩
  · rcases List.mem_append.1 hv with hv | hv
    · rcases List.mem_append.1 hv with hv | hv
      · exact h.2.1 v (List.mem_of_mem_take hv)
      · exact k.2.1 v hv
    · exact h.2.1 v (List.mem_of_mem_drop hv)
  · simp only [List.length_append, List.length_take, List.length_drop] at hj
    simp only [List.getD_eq_getElem?_getD]
    by_cases h1 : j < off
    · rw [List.append_assoc, List.getElem?_append_left (by simp; omega), List.append_assoc, List.getElem?_append_left (by simp; omega), List.getElem?_take, List.getElem?_take, if_pos h1, if_pos h1]
      simpa [List.getD_eq_getElem?_getD] using h.2.2 j (by omega)
    · by_cases h2 : j < off + ds.length
      · rw [List.append_assoc, List.getElem?_append_right (by simp; omega), List.getElem?_append_left (by simp; omega), List.append_assoc, List.getElem?_append_right (by simp; omega), List.getElem?_append_left (by simp; omega)]
        simp only [List.length_take]
        have e3 : min off cs.length = off := by omega
        have e4 : min off vs.length = off := by omega
        rw [e3, e4]
        simpa [List.getD_eq_getElem?_getD] using k.2.2 (j - off) (by omega)
      · rw [List.getElem?_append_right (by simp; omega), List.getElem?_append_right (by simp; omega), List.getElem?_drop, List.getElem?_drop]
        simp only [List.length_append, List.length_take]
        have e3 : off + ds.length + (j - (min off cs.length + ds.length)) = j := by omega
        have e4 : off + us.length + (j - (min off vs.length + us.length)) = j := by omega
        rw [e3, e4]
        simpa [List.getD_eq_getElem?_getD] using h.2.2 j (by omega)

theorem fill_rel {Z : Nat → Prop} {w : World} {pl : List (Nat × Nat)} {place : Nat → Option (Nat × Nat)} (hp : ∀ i q, pl[i]? = some q → place i = some q) :
    ∀ (ps : List (Nat × SV)) (vs : List (Nat × Value)) (cs : List SV) (cells : Array Value) (cs' : List SV), ps.length = vs.length → (∀ (j : Nat) (p : Nat × SV) (v : Nat × Value), ps[j]? = some p → vs[j]? = some v → p.1 = v.1 ∧ PartOK p.2 ∧ Rel Z w p.2 v.2) →
      RelL Z w cs cells.toList → fillS pl cs ps = some cs' → ∃ cells', Instr.fill place cells vs = some cells' ∧ RelL Z w cs' cells'.toList
  | [], [], cs, cells, cs', _, _, hr, hf => by
    simp only [fillS, Option.some.injEq] at hf
    subst hf
    exact ⟨cells, rfl, hr⟩
  | [], _ :: _, _, _, _, hl, _, _, _ => by simp at hl
  | _ :: _, [], _, _, _, hl, _, _, _ => by simp at hl
  | p :: ps, v :: vs, cs, cells, cs', hl, hall, hr, hf => by
    obtain ⟨hi, hok, hrel⟩ := hall 0 p v rfl rfl
    simp only [fillS] at hf
    cases hq : pl[p.1]? with
    | none => simp [hq] at hf
    | some q =>
      obtain ⟨off, sz⟩ := q
      simp only [hq] at hf
      split at hf
      · rename_i hc
        have hvc := hok.rel hrel
        have hsz : v.2.cells.size = sz := by have := hvc.1; simp at this; omega
        have hcl : cells.size = cs.length := by have := hr.1; simpa using this
        have hsp := foldl_splice off v.2.cells.toList 0 cells (by simp [hsz]; omega)
        have hsr := hr.splice hvc off (by rw [hc.1]; exact hc.2)
        rw [hc.1] at hsr
        have hfe : (v.2.cells.zipIdx.foldl (fun cs (p : Value × Nat) => cs.setIfInBounds (off + p.2) p.1) cells).toList = cells.toList.take off ++ v.2.cells.toList ++ cells.toList.drop (off + v.2.cells.toList.length) := by
          rw [← Array.foldl_toList, Array.toList_zipIdx]
          simpa using hsp
        obtain ⟨cells', h1, h2⟩ := fill_rel hp ps vs _ (v.2.cells.zipIdx.foldl (fun cs (p : Value × Nat) => cs.setIfInBounds (off + p.2) p.1) cells) cs' (by simpa using hl) (fun j p' v' h1 h2 => hall (j + 1) p' v' (by simpa using h1) (by simpa using h2))
          (by rw [hfe]; exact hsr) hf
        refine ⟨cells', ?_, h2⟩
        simp only [Instr.fill]
        rw [← hi, hp _ _ hq]
        have hcond : ¬ ((decide (v.2.cells.size ≠ sz) || decide (off + v.2.cells.size > cells.size)) = true) := by simp [hsz]; omega
        simp only [hcond, if_false]
        exact h1
      · simp at hf

/-- How a struct or an array lies. -/
class TBuild (P : Program) (T : Nat) (pl : outParam (List (Nat × Nat))) : Prop where
  ok : (match P.underlying T with
    | some (.struct fs) => fs.toList.mapM fun f => (P.info? f.type).map fun i => (f.offset, i.size)
    | _ => none) = some pl

theorem places_run (w : World) : ∀ (fs : List Field) (pl : List (Nat × Nat)), (fs.mapM fun f => (P.info? f.type).map fun i => (f.offset, i.size)) = some pl →
    (fs.mapM fun f => (do pure (f.offset, ← sizeOf f.type) : Sem (Nat × Nat))).run P w = .ok pl w
  | [], pl, h => by simp at h; subst h; rfl
  | f :: fs, pl, h => by
    rw [List.mapM_cons] at h
    cases hq : P.info? f.type with
    | none => simp [hq] at h
    | some i =>
      cases hr : fs.mapM fun f => (P.info? f.type).map fun i => (f.offset, i.size) with
      | none => rw [hr] at h; simp [hq] at h
      | some r =>
        rw [hr] at h
        simp [hq] at h
        subst h
        have := places_run w fs r hr
        simp only [List.mapM_cons, Sem.run_bind, sizeOf, typeInfo, run_program, Result.andThen_ok, hq, Sem.run_pure]
        simp only [sizeOf, typeInfo] at this
        rw [this]
        rfl

theorem Pv.build {T sz by' : Nat} {z : List Value} {pl : List (Nat × Nat)} [hI : TInfo P T sz by' z] [hB : TBuild P T pl] {parts : List (Nat × Operand)} {ss cs' : List SV} (ha : Args F (parts.map (·.2)) ss) (hok : AllOK ss)
    (hz1 : z.all (·.oneCell') = true) (hf : fillS pl (z.map .val) ((parts.map (·.1)).zip ss) = some cs') : Pv P Γ F L ⟨dst, .build T parts.toArray, ty, pos, aft, g⟩ (.agg cs') := fun ρ w hst => by
  obtain ⟨zv, hzr, hzc, i, hi, rfl, rfl, hiz⟩ := run_zero hI w
  have hb := hB.ok
  split at hb
  · rename_i fs hu
    have hpl := places_run w fs.toList pl hb
    have hrel : ∀ {xs : List Operand} {ss : List SV}, Args F xs ss → (∀ x ∈ xs, x ∈ parts.map (·.2)) → xs.length = ss.length ∧ ∀ (j : Nat) (s : SV) (x : Operand), ss[j]? = some s → xs[j]? = some x → Rel (ZL Γ.Z L) w s (ρ x) := by
      intro xs ss h
      induction h with
      | nil => exact fun _ => ⟨rfl, by simp⟩
      | @cons x s xs ss h hr ih =>
        intro hm
        obtain ⟨i1, i2⟩ := ih (fun y hy => hm y (List.mem_cons_of_mem _ hy))
        refine ⟨by simp [i1], fun j s' x' hs hx => ?_⟩
        cases j with
        | zero =>
          simp at hs hx; subst hs; subst hx
          exact hst.ev _ (by simp only [Op.operands, List.map_toArray, List.toList_toArray]; exact hm _ (List.mem_cons_self ..)) _ h
        | succ j => exact i2 j s' x' (by simpa using hs) (by simpa using hx)
      | @sub x s t xs ss h hsub hr ih =>
        intro hm
        obtain ⟨i1, i2⟩ := ih (fun y hy => hm y (List.mem_cons_of_mem _ hy))
        refine ⟨by simp [i1], fun j s' x' hs hx => ?_⟩
        cases j with
        | zero =>
          simp at hs hx; subst hs; subst hx
          exact hsub _ _ _ (hst.ev _ (by simp only [Op.operands, List.map_toArray, List.toList_toArray]; exact hm _ (List.mem_cons_self ..)) _ h)
        | succ j => exact i2 j s' x' (by simpa using hs) (by simpa using hx)
    obtain ⟨hl, hall⟩ := hrel ha (fun x hx => hx)
    have hzrel : RelL (ZL Γ.Z L) w (z.map .val) zv.cells.toList := by rw [hzc]; exact RelL.vals z (by simpa [List.all_eq_true] using hz1)
    obtain ⟨cells', hfill, hr'⟩ := fill_rel (pl := pl) (place := fun k => (pl.toArray)[k]?) (fun k q hq => by simpa using hq) ((parts.map (·.1)).zip ss) (parts.map fun p => (p.1, ρ p.2)) (z.map .val) zv.cells cs' (by simp at hl ⊢; omega) (by
      intro j p v hp hv
      rw [List.getElem?_zip_eq_some] at hp
      simp only [List.getElem?_map] at hp hv
      cases hq : parts[j]? with
      | none => rw [hq] at hv; simp at hv
      | some q =>
        rw [hq] at hp hv
        simp only [Option.map_some, Option.some.injEq] at hp hv
        subst hv
        exact ⟨hp.1.symm, hok.mem _ (List.mem_of_getElem? hp.2), hall j p.2 q.2 hp.2 (by simp [hq])⟩) hzrel hf
    refine ⟨.agg cells', ?_, ?_⟩
    · have hplA : (fs.mapM fun f => (do pure (f.offset, ← sizeOf f.type) : Sem (Nat × Nat))).run P w = .ok pl.toArray w := by
        rw [Array.mapM_eq_mapM_toList]
        simp only [Sem.run_map, hpl, Result.andThen_ok]
      have hpm : (parts.toArray.map fun (p : Nat × Operand) => (p.1, ρ p.2)).toList = parts.map fun p => (p.1, ρ p.2) := by simp
      simp only [execOp, Instr.build, Sem.run_bind, hzr, Result.andThen_ok, run_underlying hu, Sem.run_pure, hplA]
      rw [hpm, hfill]
      rfl
    · have := hr'.agg
      simpa using this
  · simp at hb
theorem Cx.build {T sz by' : Nat} {z : List Value} {pl : List (Nat × Nat)} [hI : TInfo P T sz by' z] [hB : TBuild P T pl] {parts : List (Nat × Operand)} {ss cs' : List SV} (ha : Args F (parts.map (·.2)) ss) (hok : AllOK ss)
    (hz1 : z.all (·.oneCell') = true) (hf : fillS pl (z.map .val) ((parts.map (·.1)).zip ss) = some cs') {d0 : Nat} {K : List (Nat × SV) → Prop} (hlt : Nat.blt d0 Γ.nt = true) (hr : SegC P Γ ops L ((d0, (.agg cs')) :: F) rest K) : SegC P Γ ops L F (⟨some d0, .build T parts.toArray, ty, pos, aft, none⟩ :: rest) K :=
  SegC.q (Qs.pv (by apply Pv.build <;> assumption)) hlt hr
theorem Jx.build {T sz by' : Nat} {z : List Value} {pl : List (Nat × Nat)} [hI : TInfo P T sz by' z] [hB : TBuild P T pl] {parts : List (Nat × Operand)} {ss cs' : List SV} (ha : Args F (parts.map (·.2)) ss) (hok : AllOK ss)
    (hz1 : z.all (·.oneCell') = true) (hf : fillS pl (z.map .val) ((parts.map (·.1)).zip ss) = some cs') {d0 : Nat} (hlt : Nat.blt d0 Γ.nt = true) (k : J P Γ ops Q ((d0, (.agg cs')) :: F) L rest) : J P Γ ops Q F L (⟨some d0, .build T parts.toArray, ty, pos, aft, none⟩ :: rest) :=
  J.pv (by apply Pv.build <;> assumption) hlt k

/-- The members of a slice that is built. -/
inductive Parts (F : List (Nat × SV)) : Nat → List (Nat × Operand) → List SV → Prop
  | nil {k : Nat} : Parts F k [] []
  | cons {k : Nat} {x : Operand} {s : SV} {r : List (Nat × Operand)} {ss : List SV} (h : ev F x = some s) (hok : PartOK s) (hr : Parts F (k + 1) r ss) : Parts F k ((k, x) :: r) (s :: ss)
  | sub {k : Nat} {x : Operand} {s t : SV} {r : List (Nat × Operand)} {ss : List SV} (h : ev F x = some t) (hs : Sub t s) (hok : PartOK s) (hr : Parts F (k + 1) r ss) : Parts F k ((k, x) :: r) (s :: ss)

theorem fillS_full (sz : Nat) : ∀ (ss : List SV) (k : Nat) (done base : List SV) (n : Nat), (∀ s ∈ ss, (cellsS s).length = sz) → done.length = k * sz → base.length = ss.length * sz → k + ss.length = n →
    fillS ((List.range n).map fun i => (i * sz, sz)) (done ++ base) ((List.range' k ss.length).zip ss) = some (done ++ ss.flatMap cellsS)
  | [], k, done, base, n, _, _, hb, _ => by
    have : base = [] := List.eq_nil_of_length_eq_zero (by simpa using hb)
    subst this
    simp [fillS]
  | s :: ss, k, done, base, n, hs, hd, hb, hn => by
    have hk : k < n := by simp at hn; omega
    have hcl := hs s (List.mem_cons_self ..)
    have hbl : base.length = ss.length * sz + sz := by rw [hb]; simp [Nat.add_mul]
    simp only [List.length_cons, List.range'_succ, List.zip_cons_cons, fillS]
    have hg : ((List.range n).map fun i => (i * sz, sz))[k]? = some (k * sz, sz) := by simp [hk]
    rw [hg]
    simp only
    rw [if_pos ⟨hcl, by rw [List.length_append]; omega⟩]
    have e1 : (done ++ base).take (k * sz) = done := by rw [← hd]; exact List.take_left
    have e2 : (done ++ base).drop (k * sz + sz) = base.drop sz := by rw [List.drop_append, ← hd]; simp
    rw [e1, e2]
    rw [fillS_full sz ss (k + 1) (done ++ cellsS s) (base.drop sz) n (fun x hx => hs x (List.mem_cons_of_mem _ hx)) (by simp [hd, hcl, Nat.add_mul]) (by simp [hbl]) (by simp at hn; omega)]
    simp

theorem Qs.buildSlice {t E sz by' len : Nat} {z : List Value} [ht : TSlice P t E] [hI : TInfo P E sz by' z] {parts : List (Nat × Operand)} {ss : List SV} (ha : Parts F 0 parts ss) (hl : ss.length = len) (hsz : ∀ s ∈ ss, (cellsS s).length = sz) (hz : z.length = sz) (hz0 : 0 < len * sz) (hmax : len * sz ≤ 16777216)
    (hz1 : z.all (·.oneCell') = true) : Qs P Γ F L ⟨dst, .buildSlice t len parts.toArray, ty, pos, aft, g⟩ (.sl sz len (fun i => cellsS (ss.getD i .any))) := by
  intro a w K Q hws hops hK
  subst hl
  obtain ⟨zv, hzr, hzc, i, hi, rfl, rfl, hiz⟩ := run_zero hI w
  have hops' : ∀ p ∈ parts, ∀ s, ev F p.2 = some s → Rel (ZL Γ.Z L) w s (a.eval p.2) := fun p hp s hs => hops p.2 (by simp only [Op.operands]; simpa using ⟨p.1, hp⟩) s hs
  have hrel : ∀ {k : Nat} {ps : List (Nat × Operand)} {ss : List SV}, Parts F k ps ss → (∀ p ∈ ps, ∀ s, ev F p.2 = some s → Rel (ZL Γ.Z L) w s (a.eval p.2)) →
      ps.length = ss.length ∧ ps.map (·.1) = List.range' k ss.length ∧ ∀ (j : Nat) (s : SV) (p : Nat × Operand), ss[j]? = some s → ps[j]? = some p → PartOK s ∧ Rel (ZL Γ.Z L) w s (a.eval p.2) := by
    intro k ps ss h
    induction h with
    | nil => exact fun _ => ⟨rfl, rfl, by simp⟩
    | cons h hok hr ih =>
      intro hm
      obtain ⟨i1, i2, i3⟩ := ih (fun p hp => hm p (List.mem_cons_of_mem _ hp))
      refine ⟨by simp [i1], by simp [i2, List.range'_succ], fun j s' p' hs hp => ?_⟩
      cases j with
      | zero => simp at hs hp; subst hs; subst hp; exact ⟨hok, hm _ (List.mem_cons_self ..) _ h⟩
      | succ j => exact i3 j s' p' (by simpa using hs) (by simpa using hp)
    | sub h hsub hok hr ih =>
      intro hm
      obtain ⟨i1, i2, i3⟩ := ih (fun p hp => hm p (List.mem_cons_of_mem _ hp))
      refine ⟨by simp [i1], by simp [i2, List.range'_succ], fun j s' p' hs hp => ?_⟩
      cases j with
      | zero => simp at hs hp; subst hs; subst hp; exact ⟨hok, hsub _ _ _ (hm _ (List.mem_cons_self ..) _ h)⟩
      | succ j => exact i3 j s' p' (by simpa using hs) (by simpa using hp)
  obtain ⟨hl, hidx, hall⟩ := hrel ha hops'
  have hzsz : zv.cells.size = i.size := by rw [← hz, ← hzc]; simp
  have hbase : RelL (ZL Γ.Z L) w (List.replicate (ss.length * i.size) .any) ((Array.range (ss.length * i.size)).map (zv.cells[· % zv.cells.size]!)).toList := by
    refine ⟨by simp, fun v hv => ?_, fun j hj => ?_⟩
    · simp only [Array.toList_map, List.mem_map] at hv
      obtain ⟨j, hj, rfl⟩ := hv
      have hpos : 0 < zv.cells.size := by
        rcases Nat.eq_zero_or_pos zv.cells.size with h0 | h0
        · have : i.size = 0 := by omega
          rw [this] at hz0; omega
        · exact h0
      rw [getElem!_pos zv.cells (j % zv.cells.size) (Nat.mod_lt j hpos)]
      refine (List.all_eq_true.1 hz1) _ ?_
      rw [← hzc]; simp
    · have e : (List.replicate (ss.length * i.size) SV.any).getD j .any = .any := by
        simp only [List.getD_eq_getElem?_getD, List.getElem?_replicate]; split <;> rfl
      rw [e]; exact .any _
  have hff := fillS_full i.size ss 0 [] (List.replicate (ss.length * i.size) .any) ss.length hsz (by simp) (by simp) (by simp)
  simp only [List.nil_append] at hff
  obtain ⟨cells', hfill, hr'⟩ := fill_rel (pl := (List.range ss.length).map fun k => (k * i.size, i.size)) (place := fun k => some (k * i.size, i.size)) (fun k q hq => by
      simp only [List.getElem?_map] at hq
      cases hk : (List.range ss.length)[k]? with
      | none => rw [hk] at hq; simp at hq
      | some k' =>
        rw [hk] at hq
        simp only [Option.map_some, Option.some.injEq] at hq
        have : k' = k := by
          have := List.getElem?_eq_some_iff.1 hk
          obtain ⟨h1, h2⟩ := this
          simpa using h2.symm
        subst this
        exact hq ▸ rfl) ((List.range' 0 ss.length).zip ss) (parts.map fun p => (p.1, a.eval p.2)) _ _ _ (by simp; omega) (by
    intro j p v hp hv
    rw [List.getElem?_zip_eq_some] at hp
    simp only [List.getElem?_map] at hv
    cases hq : parts[j]? with
    | none => rw [hq] at hv; simp at hv
    | some q =>
      rw [hq] at hv
      simp only [Option.map_some, Option.some.injEq] at hv
      subst hv
      have h1 : (parts.map (·.1))[j]? = some q.1 := by simp [hq]
      rw [hidx, hp.1] at h1
      exact ⟨Option.some.inj h1, hall j p.2 q hp.2 hq⟩) hbase hff
  have hexec : (execOp a.eval ⟨dst, .buildSlice t ss.length parts.toArray, ty, pos, aft, g⟩).run P w = .ok (.value (.slice (some ⟨w.heap.size, 0, none⟩) ss.length ss.length)) (w.alloc (.cells cells' E)) := by
    have hpm : (parts.toArray.map fun (p : Nat × Operand) => (p.1, a.eval p.2)).toList = parts.map fun p => (p.1, a.eval p.2) := by simp
    have h1 : ¬ ss.length * i.size > 2 ^ 24 := by omega
    have h2 : ¬ ss.length * i.size = 0 := by omega
    have hso : (sizeOf E).run P w = .ok i.size w := by simp [sizeOf, typeInfo, hi]
    simp only [execOp, Instr.buildSlice, Sem.run_bind, run_underlying ht.ok, Result.andThen_ok, Sem.run_pure, hso, h1, h2, if_false, hzr]
    rw [hpm, hfill]
    simp [newRow]
  unfold Oper.wp
  rw [hexec]
  refine hK _ _ (Step.alloc0 hws _) ?_
  have hcl : ∀ (ss : List SV) k j, (∀ s ∈ ss, (cellsS s).length = i.size) → k < ss.length → j < i.size → (ss.flatMap cellsS).getD (k * i.size + j) .any = (cellsS (ss.getD k .any)).getD j .any := by
    intro ss
    induction ss with
    | nil => intro k j _ hk; simp at hk
    | cons s ss ih =>
      intro k j hs hk hj
      have hsl := hs s (List.mem_cons_self ..)
      rw [List.flatMap_cons]
      cases k with
      | zero =>
        simp only [Nat.zero_mul, Nat.zero_add, List.getD_eq_getElem?_getD]
        rw [List.getElem?_append_left (by omega)]
        simp
      | succ k =>
        have := ih k j (fun x hx => hs x (List.mem_cons_of_mem _ hx)) (by simpa using hk) hj
        simp only [List.getD_eq_getElem?_getD] at this ⊢
        rw [List.getElem?_append_right (by rw [hsl, Nat.add_mul]; omega), hsl]
        have e : (k + 1) * i.size + j - i.size = k * i.size + j := by rw [Nat.add_mul]; omega
        rw [e, this]
        simp
  have hlen : cells'.size = ss.length * i.size := by
    have := hr'.1
    have h2 : ∀ (ss : List SV), (∀ s ∈ ss, (cellsS s).length = i.size) → (ss.flatMap cellsS).length = ss.length * i.size := by
      intro ss
      induction ss with
      | nil => simp
      | cons s ss ih => intro hs; rw [List.flatMap_cons, List.length_append, ih (fun x hx => hs x (List.mem_cons_of_mem _ hx)), hs s (List.mem_cons_self ..)]; simp [Nat.add_mul]; omega
    rw [h2 ss hsz] at this
    simpa using this
  have hle : ss.length ≤ maxLen := by
    have hpos : 0 < i.size := by
      rcases Nat.eq_zero_or_pos i.size with h0 | h0
      · rw [h0] at hz0; omega
      · exact h0
    have : ss.length ≤ ss.length * i.size := Nat.le_mul_of_pos_right _ hpos
    simp only [maxLen]; omega
  refine .sl i.size ss.length _ _ ss.length (fun k => cells'.toList.getD k undef) (Nat.le_refl _) hle (.inr ⟨w.heap.size, 0, rfl, hws.fresh, fun k hk => ?_⟩) (fun k hk => ?_) (fun k hk => ?_) (fun k j hk hj => ?_)
  · rw [Nat.zero_add, obj_cell (heap_alloc_new w _)]
    simp [List.getD_eq_getElem?_getD, show k < cells'.size by omega]
  · have : k < cells'.toList.length := by simp; omega
    simp only [List.getD_eq_getElem?_getD, List.getElem?_eq_getElem this, Option.getD_some]
    exact hr'.2.1 _ (List.getElem_mem this)
  · simp only [List.getD_eq_getElem?_getD, List.getElem?_eq_getElem hk, Option.getD_some]
    exact hsz _ (List.getElem_mem hk)
  · have hlt2 := idx_lt hk hj
    have := hr'.2.2 (k * i.size + j) (by rw [← hr'.1]; simp; omega)
    rw [hcl ss k j hsz hk hj] at this
    exact this.stable fun b hb hn => ⟨heap_alloc_old w _ hb, hn⟩
end
end Go.Sse
