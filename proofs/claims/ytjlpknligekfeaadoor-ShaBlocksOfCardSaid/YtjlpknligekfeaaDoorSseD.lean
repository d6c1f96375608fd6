/-
  Operations on memory, in the frame's words: reading and writing what a call owns, reading what nobody changes, new blocks, slices that grow.
-/
import Derived.Test.YtjlpknligekfeaaDoorSseC
namespace Go.Sse
open Go
set_option linter.unusedVariables false
set_option linter.unusedSimpArgs false

-- the world's steps

theorem WSt.fresh {Γ : Ctx} {L : List Own} {w : World} (h : WSt Γ L w) : ¬ ZL Γ.Z L w.heap.size := by
  rintro (hz | hi)
  · have := h.zlt _ hz; have := h.size; omega
  · have := h.foot_lt hi; omega

theorem Step.trans {Γ : Ctx} {L L' L'' : List Own} {w w' w'' : World} (h : Step Γ L L' w w') (k : Step Γ L' L'' w' w'') : Step Γ L L'' w w'' := by
  refine ⟨k.ws, Nat.le_trans h.size k.size, ?_, ?_⟩
  · intro b hb hn
    rw [k.same b (Nat.lt_of_lt_of_le hb h.size) (fun hi => by rcases h.fresh b hi with h1 | h1; exact hn h1; omega)]
    exact h.same b hb hn
  · intro b hb
    rcases k.fresh b hb with h1 | h1
    · exact h.fresh b h1
    · exact .inr (Nat.le_trans h.size h1)

theorem Step.drew {Γ : Ctx} {L : List Own} {w : World} (h : WSt Γ L w) : Step Γ L L w w.drew := by
  refine ⟨⟨h.os, h.tape, h.output, h.size, h.keep, h.zlt, h.nodup, h.foot, fun o ho => ?_⟩, Nat.le_refl _, fun _ _ _ => rfl, fun _ h => .inl h⟩
  exact Own.stable (h.holds o ho) (fun _ _ => rfl) (Nat.le_refl _) (fun b _ hz => ⟨rfl, hz⟩)

/-- A new block that nobody will change. -/
theorem Step.alloc0 {Γ : Ctx} {L : List Own} {w : World} (h : WSt Γ L w) (ob : Obj) : Step Γ L L w (w.alloc ob) := by
  have hold : ∀ b, b < w.heap.size → (w.alloc ob).heap[b]? = w.heap[b]? := fun b hb => heap_alloc_old w ob hb
  refine ⟨⟨h.os, h.tape, h.output, by have := h.size; simp; omega, ?_, h.zlt, h.nodup, h.foot, fun o ho => ?_⟩, by simp, fun b hb _ => hold b hb, fun _ h => .inl h⟩
  · exact fun b hb hf => (hold b (Nat.lt_of_lt_of_le hb h.size)).trans (h.keep b hb hf)
  · exact Own.stable (h.holds o ho) (fun b hb => hold b (Own.foot_lt (h.holds o ho) b hb)) (by simp) (fun b hb hz => ⟨hold b hb, hz⟩)

/-- A new block of the call's own. -/
theorem Step.alloc {Γ : Ctx} {L : List Own} {w : World} (h : WSt Γ L w) (ob : Obj) (o : Own) (hf : o.foot = [w.heap.size])
    (ho : o.holds (ZL Γ.Z (o :: L)) (w.alloc ob)) : Step Γ L (o :: L) w (w.alloc ob) := by
  have hold : ∀ b, b < w.heap.size → (w.alloc ob).heap[b]? = w.heap[b]? := fun b hb => heap_alloc_old w ob hb
  have hin : ∀ b, inF (o :: L) b ↔ b = w.heap.size ∨ inF L b := by intro b; simp [inF, foots_cons, hf]
  have hz : ∀ b, b < w.heap.size → ¬ ZL Γ.Z L b → ¬ ZL Γ.Z (o :: L) b := by
    rintro b hb hn (h1 | h1)
    · exact hn (.inl h1)
    · rcases (hin b).1 h1 with h2 | h2
      · omega
      · exact hn (.inr h2)
  refine ⟨⟨h.os, h.tape, h.output, by have := h.size; simp; omega, ?_, h.zlt, ?_, ?_, ?_⟩, by simp, fun b hb _ => hold b hb, ?_⟩
  · exact fun b hb hF => (hold b (Nat.lt_of_lt_of_le hb h.size)).trans (h.keep b hb hF)
  · rw [foots_cons, hf, List.singleton_append, List.nodup_cons]
    exact ⟨fun hm => by have := h.foot_lt (show inF L w.heap.size from hm); omega, h.nodup⟩
  · intro b hb
    rcases (hin b).1 hb with rfl | h2
    · exact ⟨fun hZ => by have := h.zlt _ hZ; have := h.size; omega, .inr h.size⟩
    · exact h.foot b h2
  · intro x hx
    rcases List.mem_cons.1 hx with rfl | hx
    · exact ho
    · exact Own.stable (h.holds x hx) (fun b hb => hold b (Own.foot_lt (h.holds x hx) b hb)) (by simp) (fun b hb hn => ⟨hold b hb, hz b hb hn⟩)
  · intro b hb
    rcases (hin b).1 hb with rfl | h2
    · exact .inr (Nat.le_refl _)
    · exact .inl h2

theorem mem_set {L : List Own} {i : Nat} {o x : Own} (h : x ∈ L.set i o) : x = o ∨ ∃ j, j ≠ i ∧ L[j]? = some x := by
  obtain ⟨j, hj⟩ := List.mem_iff_getElem?.1 h
  rw [List.getElem?_set] at hj
  split at hj
  · split at hj
    · simp at hj; exact .inl hj.symm
    · simp at hj
  · rename_i hne; exact .inr ⟨j, fun e => hne e.symm, hj⟩

theorem foots_set : ∀ {L : List Own} {i : Nat} {o o' : Own}, L[i]? = some o → o'.foot = o.foot → foots (L.set i o') = foots L
  | x :: L, 0, o, o', h, hf => by simp at h; subst h; simp [foots_cons, hf]
  | x :: L, i + 1, o, o', h, hf => by simp at h; simp [foots_cons, foots_set h hf]

theorem disj_of_nodup : ∀ {L : List Own} {i j : Nat} {o x : Own}, (foots L).Nodup → L[i]? = some o → L[j]? = some x → i ≠ j → ∀ b, b ∈ o.foot → b ∈ x.foot → False
  | y :: L, 0, 0, o, x, _, _, _, hne, _, _, _ => hne rfl
  | y :: L, 0, j + 1, o, x, hnd, hi, hj, _, b, hb, hx => by
    simp at hi hj; subst hi
    rw [foots_cons, List.nodup_append] at hnd
    exact hnd.2.2 b hb b (List.mem_flatMap.2 ⟨x, List.mem_of_getElem? hj, hx⟩) rfl
  | y :: L, i + 1, 0, o, x, hnd, hi, hj, _, b, hb, hx => by
    simp at hi hj; subst hj
    rw [foots_cons, List.nodup_append] at hnd
    exact hnd.2.2 b hx b (List.mem_flatMap.2 ⟨o, List.mem_of_getElem? hi, hb⟩) rfl
  | y :: L, i + 1, j + 1, o, x, hnd, hi, hj, hne, b, hb, hx => by
    simp at hi hj
    rw [foots_cons, List.nodup_append] at hnd
    exact disj_of_nodup hnd.2.1 hi hj (by omega) b hb hx

/-- What is owned at a place is written: the world turns in its blocks alone. -/
theorem Step.upd {Γ : Ctx} {L : List Own} {w w' : World} {i : Nat} {o o' : Own} (h : WSt Γ L w) (hi : L[i]? = some o) (hf : o'.foot = o.foot)
    (hw : w'.os = w.os ∧ w'.tape = w.tape ∧ w'.output = w.output ∧ w'.heap.size = w.heap.size) (hs : ∀ b, b ∉ o.foot → w'.heap[b]? = w.heap[b]?)
    (ho : o'.holds (ZL Γ.Z L) w') : Step Γ L (L.set i o') w w' := by
  have hfe := foots_set hi hf
  have hin : ∀ b, inF (L.set i o') b ↔ inF L b := by intro b; simp [inF, hfe]
  have hz : ∀ b, ZL Γ.Z (L.set i o') b ↔ ZL Γ.Z L b := by intro b; simp [ZL, hin]
  have hno : ∀ b, ¬ inF L b → b ∉ o.foot := fun b hn hb => hn (List.mem_flatMap.2 ⟨o, mem_of_idx hi, hb⟩)
  refine ⟨⟨hw.1.trans h.os, hw.2.1.trans h.tape, hw.2.2.1.trans h.output, by rw [hw.2.2.2]; exact h.size, ?_, h.zlt, by rw [hfe]; exact h.nodup, ?_, ?_⟩, Nat.le_of_eq hw.2.2.2.symm, fun b _ hn => hs b (hno b hn), fun b hb => .inl ((hin b).1 hb)⟩
  · intro b hb hF
    have : b ∉ o.foot := hno b (fun hi => by rcases (h.foot b hi).2 with h1 | h1; exact hF h1; omega)
    exact (hs b this).trans (h.keep b hb hF)
  · exact fun b hb => h.foot b ((hin b).1 hb)
  · intro x hx
    rcases mem_set hx with rfl | ⟨j, hne, hj⟩
    · exact Own.stable ho (fun _ _ => rfl) (Nat.le_refl _) (fun b _ hn => ⟨rfl, fun hc => hn ((hz b).1 hc)⟩)
    · refine Own.stable (h.holds x (mem_of_idx hj)) (fun b hb => hs b (fun hbo => disj_of_nodup h.nodup hi hj (fun e => hne e.symm) b hbo hb)) (Nat.le_of_eq hw.2.2.2.symm) (fun b _ hn => ⟨hs b (hno b (fun hc => hn (.inr hc))), fun hc => hn ((hz b).1 hc)⟩)

theorem foots_sublist {A B : List Own} (h : A.Sublist B) : (foots A).Sublist (foots B) := by
  induction h with
  | slnil => exact .slnil
  | cons o h ih => rw [foots_cons]; exact ih.trans (List.sublist_append_right _ _)
  | cons_cons o h ih => rw [foots_cons, foots_cons]; exact ih.append_left _

/-- What is owned is let go: nobody changes it any more, and what it was may be told as a fact. -/
theorem Step.drop {Γ : Ctx} {L L' : List Own} {w : World} (h : WSt Γ L w) (hsub : L'.Sublist L) : Step Γ L L' w w := by
  have hin : ∀ b, inF L' b → inF L b := fun b hb => by
    obtain ⟨o, ho, hbo⟩ := List.mem_flatMap.1 hb
    exact List.mem_flatMap.2 ⟨o, hsub.subset ho, hbo⟩
  refine ⟨⟨h.os, h.tape, h.output, h.size, h.keep, h.zlt, ?_, fun b hb => h.foot b (hin b hb), ?_⟩, Nat.le_refl _, fun _ _ _ => rfl, fun b hb => .inl (hin b hb)⟩
  · exact List.Sublist.nodup (foots_sublist hsub) h.nodup
  · exact fun o ho => Own.stable (h.holds o (hsub.subset ho)) (fun _ _ => rfl) (Nat.le_refl _) (fun b _ hn => ⟨rfl, fun hc => hn (by rcases hc with hc | hc; exact .inl hc; exact .inr (hin b hc))⟩)

theorem RetP.drop {P : Program} {Z : Nat → Prop} {w0 : World} {L0 L L1 : List Own} {R : SV → List Own → Prop} {nt : Nat} {w : World} {v : Value} {s : SV} (hws : WSt ⟨Z, w0, inF L0, nt, []⟩ L w) (hs : L1.Sublist L) (hR : R s L1) (hr : Rel (ZL Z L) w s v) : RetP Z w0 L0 R (.returned v) w := by
  have h := (Step.drop hws hs)
  have hin : ∀ b, inF L1 b → inF L b := fun b hb => (foots_sublist hs).subset hb
  exact ⟨v, s, L1, rfl, hR, rel_less hin hr, ⟨h.ws.os, h.ws.tape, h.ws.output, h.ws.size, h.ws.keep, h.ws.zlt, h.ws.nodup, h.ws.foot, h.ws.holds⟩⟩

/-- A function's end: what it owned beside what it hands back is let go. -/
theorem N.retD {P : Program} {Z : Nat → Prop} {w0 : World} {n : Nat} {F : List (Nat × SV)} {L L0 L1 : List Own} {R : SV → List Own → Prop} {fn : Func} {ss : List SV} {rs : List ResultVar} (hrs : fn.results = rs.toArray) (h : ResOK P F L rs ss) (hs : L1.Sublist L) (hR : R (oneOr ss) L1) :
    N ⟨Z, w0, inF L0, n, []⟩ (bodyPost P fn (RetP Z w0 L0 R) .ret) F L :=
  ⟨fun a w hst => by
    obtain ⟨v, h1, h2⟩ := run_results hst (fn := fn) (ss := ss) (by rw [hrs]; exact h)
    exact ⟨hst.df, v, h1, RetP.drop (P := P) hst.ws hs hR h2⟩⟩
theorem N.finD {P : Program} {Z : Nat → Prop} {w0 : World} {n : Nat} {F : List (Nat × SV)} {L L0 L1 : List Own} {R : SV → List Own → Prop} {fn : Func} {ss : List SV} {rs : List ResultVar} (hrs : fn.results = rs.toArray) (h : ResOK P F L rs ss) (hs : L1.Sublist L) (hR : R (oneOr ss) L1) :
    N ⟨Z, w0, inF L0, n, []⟩ (bodyPost P fn (RetP Z w0 L0 R) .normal) F L :=
  ⟨fun a w hst => by
    obtain ⟨v, h1, h2⟩ := run_results hst (fn := fn) (ss := ss) (by rw [hrs]; exact h)
    exact ⟨hst.df, v, h1, RetP.drop (P := P) hst.ws hs hR h2⟩⟩

theorem WSt.perm {Γ : Ctx} {L L' : List Own} {w : World} (h : WSt Γ L w) (hp : L.Perm L') : WSt Γ L' w := by
  have hin : ∀ b, inF L' b ↔ inF L b := fun b => (hp.flatMap_right _).mem_iff.symm
  refine ⟨h.os, h.tape, h.output, h.size, h.keep, h.zlt, (hp.flatMap_right _).nodup_iff.1 h.nodup, fun b hb => h.foot b ((hin b).1 hb), fun o ho => ?_⟩
  exact Own.stable (h.holds o (hp.mem_iff.2 ho)) (fun _ _ => rfl) (Nat.le_refl _) (fun b _ hn => ⟨rfl, fun hc => hn (by rcases hc with hc | hc; exact .inl hc; exact .inr ((hin b).1 hc))⟩)

section
variable {P : Program} {Γ : Ctx} {ops : Array Oper} {Q : Exit → Act → World → Prop} {F : List (Nat × SV)} {L L' : List Own} {rest : List Oper}
variable {dst : Option Tmp} {ty : TypeId} {pos : String} {aft : Array Edge} {g : Option (Nat × Bool)}

theorem J.drop {l : List Oper} (hs : L'.Sublist L) (h : J P Γ ops Q F L' l) : J P Γ ops Q F L l := ⟨fun a w hst => h.go a w (hst.step (Step.drop hst.ws hs))⟩
theorem W.drop {c : Code} (hs : L'.Sublist L) (h : W P Γ Q F L' c) : W P Γ Q F L c := ⟨fun a w hst => h.go a w (hst.step (Step.drop hst.ws hs))⟩
theorem N.drop {K : Act → World → Prop} (hs : L'.Sublist L) (h : N Γ K F L') : N Γ K F L := ⟨fun a w hst => h.go a w (hst.step (Step.drop hst.ws hs))⟩
theorem St.perm {a : Act} {w : World} (h : St Γ F L a w) (hp : L.Perm L') : St Γ F L' a w := by
  have hin : ∀ b, inF L' b ↔ inF L b := fun b => (hp.flatMap_right _).mem_iff.symm
  exact ⟨h.ws.perm hp, h.nt, h.df, fun i s hi => (h.fr i s hi).stable fun b _ hn => ⟨rfl, fun hc => hn (by rcases hc with hc | hc; exact .inl hc; exact .inr ((hin b).1 hc))⟩⟩
theorem J.perm {l : List Oper} (hp : L.Perm L') (h : J P Γ ops Q F L' l) : J P Γ ops Q F L l := ⟨fun a w hst => h.go a w (hst.perm hp)⟩
theorem W.perm {c : Code} (hp : L.Perm L') (h : W P Γ Q F L' c) : W P Γ Q F L c := ⟨fun a w hst => h.go a w (hst.perm hp)⟩
theorem N.perm {K : Act → World → Prop} (hp : L.Perm L') (h : N Γ K F L') : N Γ K F L := ⟨fun a w hst => h.go a w (hst.perm hp)⟩

-- reading

theorem RelL.at {Z : Nat → Prop} {w : World} {cs : List SV} {vs : List Value} (h : RelL Z w cs vs) {o : Nat} {s : SV} (hc : cs[o]? = some s) : ∃ v, vs[o]? = some v ∧ Rel Z w s v ∧ v.oneCell' = true := by
  have hlt : o < cs.length := by
    rcases Nat.lt_or_ge o cs.length with h | h
    · exact h
    · simp [List.getElem?_eq_none h] at hc
  have hlt' : o < vs.length := by rw [h.1]; exact hlt
  have hr := h.2.2 o hlt
  rw [List.getD_eq_getElem?_getD, hc, List.getD_eq_getElem?_getD, List.getElem?_eq_getElem hlt'] at hr
  exact ⟨vs[o], List.getElem?_eq_getElem hlt', hr, h.2.1 _ (List.getElem_mem hlt')⟩

theorem Pv.load {T b o : Nat} [h : TSc P T] {x : Operand} (hx : ev F x = some (.val (.pointer (some ⟨b, o, none⟩)))) (i : Nat) {T' : TypeId} {cs : List SV} (hi : L[i]? = some (.obj b T' cs)) {s : SV} (hc : cs[o]? = some s) :
    Pv P Γ F L ⟨dst, .load T x, ty, pos, aft, g⟩ s := fun ρ w hst => by
  obtain ⟨vs, fz, hb, hu, hr⟩ := hst.ws.holds _ (mem_of_idx hi)
  obtain ⟨v, hv, hrel, _⟩ := hr.at hc
  refine ⟨v, ?_, hrel⟩
  have := run_loadVar_sc h w ⟨b, o, none⟩ v (by rw [obj_cell hb]; simpa using hv)
  simp [execOp, hst.evv (x := x) (by simp [Op.operands]) hx, Instr.loadAt, Instr.sureAddr, this]
theorem Cx.load {T b o : Nat} [h : TSc P T] {x : Operand} (hx : ev F x = some (.val (.pointer (some ⟨b, o, none⟩)))) (i : Nat) {T' : TypeId} {cs : List SV} (hi : L[i]? = some (.obj b T' cs)) {s : SV} (hc : cs[o]? = some s) {d0 : Nat} {K : List (Nat × SV) → Prop} (hlt : Nat.blt d0 Γ.nt = true) (hr : SegC P Γ ops L ((d0, s) :: F) rest K) : SegC P Γ ops L F (⟨some d0, .load T x, ty, pos, aft, none⟩ :: rest) K :=
  SegC.q (Qs.pv (by apply Pv.load <;> assumption)) hlt hr
theorem Jx.load {T b o : Nat} [h : TSc P T] {x : Operand} (hx : ev F x = some (.val (.pointer (some ⟨b, o, none⟩)))) (i : Nat) {T' : TypeId} {cs : List SV} (hi : L[i]? = some (.obj b T' cs)) {s : SV} (hc : cs[o]? = some s) {d0 : Nat} (hlt : Nat.blt d0 Γ.nt = true) (k : J P Γ ops Q ((d0, s) :: F) L rest) : J P Γ ops Q F L (⟨some d0, .load T x, ty, pos, aft, none⟩ :: rest) :=
  J.pv (by apply Pv.load <;> assumption) hlt k

theorem RelL.agg {Z : Nat → Prop} {w : World} {cs : List SV} {vs : List Value} (h : RelL Z w cs vs) : Rel Z w (.agg cs) (.agg vs.toArray) := .agg cs vs h.1 h.2.1 h.2.2

theorem RelL.part {Z : Nat → Prop} {w : World} {cs : List SV} {vs : List Value} (h : RelL Z w cs vs) (o n : Nat) : RelL Z w ((cs.drop o).take n) ((vs.drop o).take n) := by
  refine ⟨by simp [h.1], fun v hv => h.2.1 v (List.mem_of_mem_drop (List.mem_of_mem_take hv)), fun j hj => ?_⟩
  simp only [List.length_take, List.length_drop] at hj
  have := h.2.2 (o + j) (by omega)
  have e1 : ((cs.drop o).take n).getD j .any = cs.getD (o + j) .any := by
    simp only [List.getD_eq_getElem?_getD, List.getElem?_take, List.getElem?_drop]
    rw [if_pos (by omega)]
  have e2 : ((vs.drop o).take n).getD j undef = vs.getD (o + j) undef := by
    simp only [List.getD_eq_getElem?_getD, List.getElem?_take, List.getElem?_drop]
    rw [if_pos (by omega)]
  rw [e1, e2]
  exact this

theorem Pv.loadAg {T b o n : Nat} [h : TAg P T n] {x : Operand} (hx : ev F x = some (.val (.pointer (some ⟨b, o, none⟩)))) (i : Nat) {T' : TypeId} {cs ds : List SV} (hi : L[i]? = some (.obj b T' cs)) (hd : (cs.drop o).take n = ds) (hn : ds.length = n) :
    Pv P Γ F L ⟨dst, .load T x, ty, pos, aft, g⟩ (.agg ds) := fun ρ w hst => by
  obtain ⟨vs, fz, hb, hu, hr⟩ := hst.ws.holds _ (mem_of_idx hi)
  have hp := hr.part o n
  rw [hd] at hp
  refine ⟨_, ?_, hp.agg⟩
  have hle : o + n ≤ cs.length ∨ n = 0 := by
    rcases Nat.eq_zero_or_pos n with h0 | h0
    · exact .inr h0
    · left; rw [← hd] at hn; simp only [List.length_take, List.length_drop] at hn; omega
  have := run_loadVar_agg h w b o ((vs.toList.drop o).take n) (by rw [hp.1, hn]) (fun j hj => by
    rw [obj_cell hb]
    have hvs : vs.size = cs.length := by have := hr.1; simpa using this
    have hlt : o + j < vs.size := by rcases hle with h1 | h1 <;> omega
    simp only [List.getD_eq_getElem?_getD, List.getElem?_take, List.getElem?_drop, hj, if_true]
    simp [hlt])
  simp [execOp, hst.evv (x := x) (by simp [Op.operands]) hx, Instr.loadAt, Instr.sureAddr, this]
theorem Cx.loadAg {T b o n : Nat} [h : TAg P T n] {x : Operand} (hx : ev F x = some (.val (.pointer (some ⟨b, o, none⟩)))) (i : Nat) {T' : TypeId} {cs ds : List SV} (hi : L[i]? = some (.obj b T' cs)) (hd : (cs.drop o).take n = ds) (hn : ds.length = n) {d0 : Nat} {K : List (Nat × SV) → Prop} (hlt : Nat.blt d0 Γ.nt = true) (hr : SegC P Γ ops L ((d0, (.agg ds)) :: F) rest K) : SegC P Γ ops L F (⟨some d0, .load T x, ty, pos, aft, none⟩ :: rest) K :=
  SegC.q (Qs.pv (by apply Pv.loadAg <;> assumption)) hlt hr
theorem Jx.loadAg {T b o n : Nat} [h : TAg P T n] {x : Operand} (hx : ev F x = some (.val (.pointer (some ⟨b, o, none⟩)))) (i : Nat) {T' : TypeId} {cs ds : List SV} (hi : L[i]? = some (.obj b T' cs)) (hd : (cs.drop o).take n = ds) (hn : ds.length = n) {d0 : Nat} (hlt : Nat.blt d0 Γ.nt = true) (k : J P Γ ops Q ((d0, (.agg ds)) :: F) L rest) : J P Γ ops Q F L (⟨some d0, .load T x, ty, pos, aft, none⟩ :: rest) :=
  J.pv (by apply Pv.loadAg <;> assumption) hlt k

/-- Reading what nobody changes. -/
theorem Pv.loadPP {T : Nat} [h : TSc P T] {x : Operand} {s : SV} {cs : List SV} (hx : ev F x = some (.pp (s :: cs))) : Pv P Γ F L ⟨dst, .load T x, ty, pos, aft, g⟩ s := fun ρ w hst => by
  have hr := hst.ev x (by simp [Op.operands]) _ hx
  generalize hv : ρ x = v at hr
  cases hr with
  | pp _ b off vs h0 hz hc h1 hr =>
    refine ⟨vs 0, ?_, by simpa using hr 0 (by simp)⟩
    have := run_loadVar_sc h w ⟨b, off, none⟩ (vs 0) (by simpa using hc 0 (by simp))
    simp [execOp, hv, Instr.loadAt, Instr.sureAddr, this]
theorem Cx.loadPP {T : Nat} [h : TSc P T] {x : Operand} {s : SV} {cs : List SV} (hx : ev F x = some (.pp (s :: cs))) {d0 : Nat} {K : List (Nat × SV) → Prop} (hlt : Nat.blt d0 Γ.nt = true) (hr : SegC P Γ ops L ((d0, s) :: F) rest K) : SegC P Γ ops L F (⟨some d0, .load T x, ty, pos, aft, none⟩ :: rest) K :=
  SegC.q (Qs.pv (by apply Pv.loadPP <;> assumption)) hlt hr
theorem Jx.loadPP {T : Nat} [h : TSc P T] {x : Operand} {s : SV} {cs : List SV} (hx : ev F x = some (.pp (s :: cs))) {d0 : Nat} (hlt : Nat.blt d0 Γ.nt = true) (k : J P Γ ops Q ((d0, s) :: F) L rest) : J P Γ ops Q F L (⟨some d0, .load T x, ty, pos, aft, none⟩ :: rest) :=
  J.pv (by apply Pv.loadPP <;> assumption) hlt k

theorem Pv.loadPPag {T n : Nat} [h : TAg P T n] {x : Operand} {cs ds : List SV} (hx : ev F x = some (.pp cs)) (hd : cs.take n = ds) (hn : ds.length = n) : Pv P Γ F L ⟨dst, .load T x, ty, pos, aft, g⟩ (.agg ds) := fun ρ w hst => by
  have hr := hst.ev x (by simp [Op.operands]) _ hx
  generalize hv : ρ x = v at hr
  cases hr with
  | pp _ b off vs h0 hz hc h1 hr =>
    have hle : n ≤ cs.length := by rw [← hd] at hn; simp only [List.length_take] at hn; omega
    have hload := run_loadVar_agg h w b off ((List.range n).map vs) (by simp) (fun j hj => by rw [hc j (by omega)]; simp [List.getD_eq_getElem?_getD, hj])
    refine ⟨.agg ((List.range n).map vs).toArray, by simp [execOp, hv, Instr.loadAt, Instr.sureAddr, hload], ?_⟩
    refine .agg ds _ (by simp [hn]) ?_ ?_
    · intro u hu
      obtain ⟨j, hj, rfl⟩ := List.mem_map.1 hu
      exact h1 j (by have := List.mem_range.1 hj; omega)
    · intro j hj
      have e : ds.getD j .any = cs.getD j .any := by
        rw [← hd]; simp only [List.getD_eq_getElem?_getD, List.getElem?_take]; rw [if_pos (by omega)]
      rw [e]
      have : ((List.range n).map vs).getD j undef = vs j := by simp [List.getD_eq_getElem?_getD, hn ▸ hj]
      rw [this]
      exact hr j (by omega)
theorem Cx.loadPPag {T n : Nat} [h : TAg P T n] {x : Operand} {cs ds : List SV} (hx : ev F x = some (.pp cs)) (hd : cs.take n = ds) (hn : ds.length = n) {d0 : Nat} {K : List (Nat × SV) → Prop} (hlt : Nat.blt d0 Γ.nt = true) (hr : SegC P Γ ops L ((d0, (.agg ds)) :: F) rest K) : SegC P Γ ops L F (⟨some d0, .load T x, ty, pos, aft, none⟩ :: rest) K :=
  SegC.q (Qs.pv (by apply Pv.loadPPag <;> assumption)) hlt hr
theorem Jx.loadPPag {T n : Nat} [h : TAg P T n] {x : Operand} {cs ds : List SV} (hx : ev F x = some (.pp cs)) (hd : cs.take n = ds) (hn : ds.length = n) {d0 : Nat} (hlt : Nat.blt d0 Γ.nt = true) (k : J P Γ ops Q ((d0, (.agg ds)) :: F) L rest) : J P Γ ops Q F L (⟨some d0, .load T x, ty, pos, aft, none⟩ :: rest) :=
  J.pv (by apply Pv.loadPPag <;> assumption) hlt k

theorem Pv.nilCheckPP {x : Operand} {cs : List SV} (hx : ev F x = some (.pp cs)) : Pv P Γ F L ⟨dst, .nilCheck x, ty, pos, aft, g⟩ (.pp cs) := fun ρ w hst => by
  have hr := hst.ev x (by simp [Op.operands]) _ hx
  generalize hv : ρ x = v at hr
  cases hr with
  | pp _ b off vs h0 hz hc h1 hr => exact ⟨_, by simp [execOp, hv], .pp cs b off vs h0 hz hc h1 hr⟩
theorem Cx.nilCheckPP {x : Operand} {cs : List SV} (hx : ev F x = some (.pp cs)) {d0 : Nat} {K : List (Nat × SV) → Prop} (hlt : Nat.blt d0 Γ.nt = true) (hr : SegC P Γ ops L ((d0, (.pp cs)) :: F) rest K) : SegC P Γ ops L F (⟨some d0, .nilCheck x, ty, pos, aft, none⟩ :: rest) K :=
  SegC.q (Qs.pv (by apply Pv.nilCheckPP <;> assumption)) hlt hr
theorem Jx.nilCheckPP {x : Operand} {cs : List SV} (hx : ev F x = some (.pp cs)) {d0 : Nat} (hlt : Nat.blt d0 Γ.nt = true) (k : J P Γ ops Q ((d0, (.pp cs)) :: F) L rest) : J P Γ ops Q F L (⟨some d0, .nilCheck x, ty, pos, aft, none⟩ :: rest) :=
  J.pv (by apply Pv.nilCheckPP <;> assumption) hlt k

theorem Pv.fieldPP {T f off FT sz : Nat} [h : TFld P T f off FT sz] {x : Operand} {cs ds : List SV} (hx : ev F x = some (.pp cs)) (hd : cs.drop off = ds) (hn : ds ≠ []) :
    Pv P Γ F L ⟨dst, .fieldAddr T x f, ty, pos, aft, g⟩ (.pp ds) := fun ρ w hst => by
  have hr := hst.ev x (by simp [Op.operands]) _ hx
  generalize hv : ρ x = v at hr
  cases hr with
  | pp _ b o vs h0 hz hc h1 hr =>
    refine ⟨.pointer (some ⟨b, o + off, none⟩), by simp [execOp, hv, run_fieldAt h b o w], ?_⟩
    have hlen : ds.length = cs.length - off := by rw [← hd]; simp
    have hpos : 0 < ds.length := List.length_pos_iff.2 hn
    refine .pp ds b (o + off) (fun j => vs (off + j)) hpos hz (fun j hj => ?_) (fun j hj => h1 _ (by omega)) (fun j hj => ?_)
    · rw [Nat.add_assoc]; exact hc _ (by omega)
    · have e : ds.getD j .any = cs.getD (off + j) .any := by rw [← hd]; simp [List.getD_eq_getElem?_getD]
      rw [e]; exact hr _ (by omega)
theorem Cx.fieldPP {T f off FT sz : Nat} [h : TFld P T f off FT sz] {x : Operand} {cs ds : List SV} (hx : ev F x = some (.pp cs)) (hd : cs.drop off = ds) (hn : ds ≠ []) {d0 : Nat} {K : List (Nat × SV) → Prop} (hlt : Nat.blt d0 Γ.nt = true) (hr : SegC P Γ ops L ((d0, (.pp ds)) :: F) rest K) : SegC P Γ ops L F (⟨some d0, .fieldAddr T x f, ty, pos, aft, none⟩ :: rest) K :=
  SegC.q (Qs.pv (by apply Pv.fieldPP <;> assumption)) hlt hr
theorem Jx.fieldPP {T f off FT sz : Nat} [h : TFld P T f off FT sz] {x : Operand} {cs ds : List SV} (hx : ev F x = some (.pp cs)) (hd : cs.drop off = ds) (hn : ds ≠ []) {d0 : Nat} (hlt : Nat.blt d0 Γ.nt = true) (k : J P Γ ops Q ((d0, (.pp ds)) :: F) L rest) : J P Γ ops Q F L (⟨some d0, .fieldAddr T x f, ty, pos, aft, none⟩ :: rest) :=
  J.pv (by apply Pv.fieldPP <;> assumption) hlt k

/-- The address of a slice's member. -/
theorem Pv.indexSl {T E sz n : Nat} [h : TSlice P T E] {by' : Nat} {z : List Value} [hI : TInfo P E sz by' z] {x i : Operand} {k : IntKind} {el : Nat → List SV} {m : Int} (hx : ev F x = some (.sl sz n el))
    (hi : ev F i = some (.val (.int k m))) (h0 : 0 ≤ m) (h1 : m < n) (hsz : 0 < sz) : Pv P Γ F L ⟨dst, .indexAddr T x i, ty, pos, aft, g⟩ (.pp (el m.toNat)) := fun ρ w hst => by
  have hr := hst.ev x (by simp [Op.operands]) _ hx
  have hiv := hst.evv (x := i) (by simp [Op.operands]) hi
  generalize hv : ρ x = v at hr
  cases hr with
  | sl _ _ _ a cap cs hcap hmax hb h1' hl hr =>
    have hlt : m.toNat < n := by omega
    have hpos : ¬ n * sz = 0 := by have := Nat.mul_pos (show 0 < n by omega) hsz; omega
    rcases hb with hb | ⟨b, off, rfl, hz, hc⟩
    · exact absurd hb hpos
    · have hs : (sizeOf E).run P w = .ok sz w := sizeOf_of (by have := hI.ok; cases hq : P.info? E <;> simp_all) w
      refine ⟨.pointer (some ⟨b, off + m.toNat * sz, none⟩), ?_, ?_⟩
      · simp [execOp, hv, hiv, Instr.indexAt, asIntOf, run_underlying h.ok, h0, h1, hs, add_plain]
      · have hin : ∀ j, j < sz → m.toNat * sz + j < n * sz := fun j hj => by
          have h2 : (m.toNat + 1) * sz ≤ n * sz := Nat.mul_le_mul_right sz (by omega)
          rw [Nat.add_mul, Nat.one_mul] at h2
          omega
        have hlen := hl m.toNat hlt
        refine .pp (el m.toNat) b (off + m.toNat * sz) (fun j => cs (m.toNat * sz + j)) (by omega) hz (fun j hj => ?_) (fun j hj => h1' _ (hin j (by omega))) (fun j hj => hr _ j hlt (by omega))
        rw [Nat.add_assoc]; exact hc _ (hin j (by omega))
theorem Cx.indexSl {T E sz n : Nat} [h : TSlice P T E] {by' : Nat} {z : List Value} [hI : TInfo P E sz by' z] {x i : Operand} {k : IntKind} {el : Nat → List SV} {m : Int} (hx : ev F x = some (.sl sz n el))
    (hi : ev F i = some (.val (.int k m))) (h0 : 0 ≤ m) (h1 : m < n) (hsz : 0 < sz) {d0 : Nat} {K : List (Nat × SV) → Prop} (hlt : Nat.blt d0 Γ.nt = true) (hr : SegC P Γ ops L ((d0, (.pp (el m.toNat))) :: F) rest K) : SegC P Γ ops L F (⟨some d0, .indexAddr T x i, ty, pos, aft, none⟩ :: rest) K :=
  SegC.q (Qs.pv (by apply Pv.indexSl <;> assumption)) hlt hr
theorem Jx.indexSl {T E sz n : Nat} [h : TSlice P T E] {by' : Nat} {z : List Value} [hI : TInfo P E sz by' z] {x i : Operand} {k : IntKind} {el : Nat → List SV} {m : Int} (hx : ev F x = some (.sl sz n el))
    (hi : ev F i = some (.val (.int k m))) (h0 : 0 ≤ m) (h1 : m < n) (hsz : 0 < sz) {d0 : Nat} (hlt : Nat.blt d0 Γ.nt = true) (k : J P Γ ops Q ((d0, (.pp (el m.toNat))) :: F) L rest) : J P Γ ops Q F L (⟨some d0, .indexAddr T x i, ty, pos, aft, none⟩ :: rest) :=
  J.pv (by apply Pv.indexSl <;> assumption) hlt k

-- writing

theorem setCell_same (w : World) (b o : Nat) (v : Value) : (w.setCell ⟨b, o, none⟩ v).os = w.os ∧ (w.setCell ⟨b, o, none⟩ v).tape = w.tape ∧ (w.setCell ⟨b, o, none⟩ v).output = w.output ∧ (w.setCell ⟨b, o, none⟩ v).heap.size = w.heap.size :=
  ⟨rfl, rfl, rfl, by simp⟩

theorem heap_setCell (w : World) (b o : Nat) (v : Value) (vs : Array Value) (T : TypeId) (fz : Nat × Nat) (h : w.heap[b]? = some (.cells vs T fz)) : (w.setCell ⟨b, o, none⟩ v).heap[b]? = some (.cells (vs.setIfInBounds o v) T fz) := by
  simp [World.setCell, Array.getElem?_modify, h]

theorem run_storeVar_sc {T : Nat} (h : TSc P T) (w : World) (b o : Nat) (v : Value) (hv : v.oneCell' = true) (vs : Array Value) (T' : TypeId) (fz : Nat × Nat) (hb : w.heap[b]? = some (.cells vs T' fz)) (ho : o < vs.size) (hu : Unfrozen fz vs.size) :
    (storeVar T ⟨b, o, none⟩ v).run P w = .ok () (w.setCell ⟨b, o, none⟩ v) := by
  have hcs : v.cells = #[v] := by cases v <;> simp_all [Value.cells, Value.oneCell']
  have hsz := sizeOf_of h.ok.2 w
  have hfz : w.frozen? ⟨b, o, none⟩ = false := by
    have := hu o ho
    simp only [World.frozen?, hb]
    cases hd : decide (fz.1 ≤ o) <;> simp_all
  have hc : w.cell? ⟨b, o, none⟩ = some vs[o] := by rw [obj_cell hb]; simp [ho]
  have hst := run_store P w ⟨b, o, none⟩ v .plain hv
  rw [hc] at hst
  simp only [hfz, Bool.false_eq_true, if_false] at hst
  simp [storeVar, hcs, hsz, storeCells, add_plain, hst]

theorem RelL.set {Z : Nat → Prop} {w : World} {cs : List SV} {vs : List Value} (h : RelL Z w cs vs) (o : Nat) {s : SV} {v : Value} (hr : Rel Z w s v) (hv : v.oneCell' = true) : RelL Z w (cs.set o s) (vs.set o v) := by
  refine ⟨by simp [h.1], fun u hu => ?_, fun j hj => ?_⟩
  · rcases List.mem_or_eq_of_mem_set hu with h1 | rfl
    · exact h.2.1 u h1
    · exact hv
  · simp only [List.length_set] at hj
    simp only [List.getD_eq_getElem?_getD, List.getElem?_set]
    by_cases e : o = j
    · subst e
      have : o < vs.length := by rw [h.1]; exact hj
      simp [hj, this, hr]
    · simp only [e, if_false]
      simpa [List.getD_eq_getElem?_getD] using h.2.2 j hj

/-- A value that fills one cell. -/
inductive One : SV → Prop
  | val {v : Value} (h : v.oneCell' = true) : One (.val v)
  | sl {sz n : Nat} {el : Nat → List SV} : One (.sl sz n el)
  | pp {cs : List SV} : One (.pp cs)
  | slc {sz n : Nat} {el : Nat → List SV} : One (.slc sz n el)

theorem One.cell {s : SV} (h : One s) {Z : Nat → Prop} {w : World} {v : Value} (hr : Rel Z w s v) : v.oneCell' = true := by
  cases h with
  | val h => rw [hr.val_eq]; exact h
  | sl => cases hr; rfl
  | pp => cases hr; rfl
  | slc => cases hr; rfl

theorem OpS.store {T b o : Nat} [h : TSc P T] {x y : Operand} (hx : ev F x = some (.val (.pointer (some ⟨b, o, none⟩)))) {s : SV} (hy : ev F y = some s) (h1 : One s) (i : Nat) {T' : TypeId} {cs : List SV}
    (hi : L[i]? = some (.obj b T' cs)) (ho : o < cs.length) : OpS P Γ ⟨dst, .store T x y, ty, pos, aft, g⟩ F L (fun _ L' => L' = L.set i (.obj b T' (cs.set o s))) := by
  intro a w K Q hst hK
  obtain ⟨vs, fz, hb, hu, hr⟩ := hst.ws.holds _ (mem_of_idx hi)
  have hrel := hst.ev hy
  have hone := h1.cell hrel
  have hlen : vs.size = cs.length := by have := hr.1; simpa using this
  have hrun := run_storeVar_sc h w b o (a.eval y) hone vs T' fz hb (by omega) hu
  unfold Oper.wp
  have he : (execOp a.eval ⟨dst, .store T x y, ty, pos, aft, g⟩).run P w = .ok .skip (w.setCell ⟨b, o, none⟩ (a.eval y)) := by
    simp [execOp, hst.evv hx, Instr.storeAt, Instr.sureAddr, hrun]
  rw [he]
  have hstep : Step Γ L (L.set i (.obj b T' (cs.set o s))) w (w.setCell ⟨b, o, none⟩ (a.eval y)) := by
    refine Step.upd hst.ws hi rfl (setCell_same w b o _) (fun b' hb' => heap_setCell_other w ⟨b, o, none⟩ b' _ (by simpa [Own.foot] using hb')) ?_
    refine ⟨vs.setIfInBounds o (a.eval y), fz, heap_setCell w b o _ vs T' fz hb, by simpa using hu, ?_⟩
    have hset := hr.set o hrel hone
    have : (vs.setIfInBounds o (a.eval y)).toList = vs.toList.set o (a.eval y) := by simp
    rw [this]
    exact hset.stable fun b' hlt hn => ⟨heap_setCell_other w ⟨b, o, none⟩ b' _ (fun e => hn (.inr (by subst e; exact List.mem_flatMap.2 ⟨_, mem_of_idx hi, by simp [Own.foot]⟩))), hn⟩
  exact hK undef _ .any _ rfl hstep (.any _)

theorem J.store {T b o : Nat} [h : TSc P T] {x y : Operand} (hx : ev F x = some (.val (.pointer (some ⟨b, o, none⟩)))) {s : SV} (hy : ev F y = some s) (h1 : One s) (i : Nat) {T' : TypeId} {cs cs' : List SV} {L' : List Own}
    (hi : L[i]? = some (.obj b T' cs)) (ho : Nat.blt o cs.length = true) (hcs : cs.set o s = cs') (hL : L.set i (.obj b T' cs') = L') (k : J P Γ ops Q F L' rest) : J P Γ ops Q F L (⟨none, .store T x y, ty, pos, aft, none⟩ :: rest) :=
  J.op0 (OpS.store hx hy h1 i hi (Nat.le_of_ble_eq_true ho)) rfl rfl (by rintro s L'' rfl; rw [hcs, hL]; exact k)

-- several cells at once

theorem storeCells_un (b o : Nat) (T : TypeId) (fz : Nat × Nat) : ∀ (news : List Value) (i : Nat) (cur : Array Value) (w : World), w.heap[b]? = some (.cells cur T fz) → Unfrozen fz cur.size → o + i + news.length ≤ cur.size → (∀ v ∈ news, v.oneCell' = true) →
    (storeCells ⟨b, o, none⟩ news i).run P w = .ok () (w.setRow b (cur.toList.take (o + i) ++ news ++ cur.toList.drop (o + i + news.length)).toArray)
  | [], i, cur, w, hg, _, _, _ => by
    simp only [storeCells, List.append_nil, List.length_nil, Nat.add_zero, List.take_append_drop, Array.toArray_toList]
    rw [setRow_self w b cur T fz hg]
    rfl
  | v :: rest, i, cur, w, hg, hu, hl, h1 => by
    have hi : o + i < cur.size := by simp at hl; omega
    have hcell : w.cell? ⟨b, o + i, none⟩ = some cur[o + i] := by rw [obj_cell hg]; simp [hi]
    have hfro : w.frozen? ⟨b, o + i, none⟩ = false := by
      have := hu (o + i) hi
      simp only [World.frozen?, hg]
      cases hd : decide (fz.1 ≤ o + i) <;> simp_all
    have hst : (store ((⟨b, o, none⟩ : Addr).add i) v).run P w = .ok () (w.setRow b (cur.setIfInBounds (o + i) v)) := by
      rw [add_plain, run_store P w _ v _ (h1 v (by simp)), hcell]
      simp only [hfro, Bool.false_eq_true, if_false]
      rw [setCell_eq_setRow w b (o + i) cur T fz v hg]
    have ih := storeCells_un b o T fz rest (i + 1) (cur.setIfInBounds (o + i) v) (w.setRow b (cur.setIfInBounds (o + i) v)) (setRow_heap w b cur _ T fz hg) (by simpa using hu) (by simp at hl ⊢; omega) (fun x hx => h1 x (by simp [hx]))
    simp only [storeCells, Sem.run_bind, hst, Result.andThen_ok, ih, setRow_setRow]
    congr 3
    have e := list_seg_step cur.toList (o + i) v rest (by simp at hl ⊢; omega)
    simpa [Array.toList_setIfInBounds, Nat.add_assoc] using e

-- new blocks

theorem run_zero {T sz by' : Nat} {z : List Value} (h : TInfo P T sz by' z) (w : World) : ∃ v : Value, (zeroValue T).run P w = .ok v w ∧ v.cells.toList = z ∧ ∃ i, P.info? T = some i ∧ i.size = sz ∧ i.bytes = by' ∧ i.zero = some v := by
  have h1 := h.ok
  cases hq : P.info? T with
  | none => simp [hq] at h1
  | some i =>
    rw [hq] at h1
    simp only [Option.map_some, Option.some.injEq, Prod.mk.injEq] at h1
    cases hz : i.zero with
    | none => simp [hz] at h1
    | some v =>
      rw [hz] at h1
      exact ⟨v, by simp [zeroValue, typeInfo, hq, hz], by simpa using h1.2.2, i, rfl, h1.1, h1.2.1, hz⟩

theorem RelL.vals {Z : Nat → Prop} {w : World} (z : List Value) (h1 : ∀ v ∈ z, v.oneCell' = true) : RelL Z w (z.map .val) z :=
  ⟨by simp, h1, fun j hj => by
    simp only [List.length_map] at hj
    simp only [List.getD_eq_getElem?_getD, List.getElem?_map, List.getElem?_eq_getElem hj, Option.map_some, Option.getD_some]
    exact .val _⟩

theorem OpS.newObj {op : Op} {ρ' : List Value → Prop} {E : TypeId} {cs : List SV}
    (hrun : ∀ a w, St Γ F L a w → ∃ vs : List Value, (execOp a.eval ⟨dst, op, ty, pos, aft, g⟩).run P w = .ok (.value (.pointer (some ⟨w.heap.size, 0, none⟩))) (w.alloc (.cells vs.toArray E)) ∧ RelL (ZL Γ.Z L) w cs vs) :
    OpS P Γ ⟨dst, op, ty, pos, aft, g⟩ F L (fun s L' => ∃ b, s = .val (.pointer (some ⟨b, 0, none⟩)) ∧ L' = .obj b E cs :: L) := by
  intro a w K Q hst hK
  obtain ⟨vs, he, hr⟩ := hrun a w hst
  unfold Oper.wp
  rw [he]
  refine hK _ _ _ _ ⟨w.heap.size, rfl, rfl⟩ (Step.alloc hst.ws _ (.obj w.heap.size E cs) rfl ⟨vs.toArray, (0, 0), heap_alloc_new w _, by intro i _; simp, ?_⟩) (.val _)
  simp only
  refine hr.stable fun b hb hn => ⟨heap_alloc_old w _ hb, ?_⟩
  rintro (h1 | h1)
  · exact hn (.inl h1)
  · simp only [inF, foots_cons, Own.foot, List.singleton_append, List.mem_cons] at h1
    rcases h1 with h1 | h1
    · omega
    · exact hn (.inr h1)

theorem J.alloc {d E sz by' : Nat} {z : List Value} [h : TInfo P E sz by' z] {cs : List SV} (hz : z.map .val = cs) (h1 : z.all (·.oneCell') = true) (hlt : Nat.blt d Γ.nt = true)
    (k : ∀ b, J P Γ ops Q ((d, .val (.pointer (some ⟨b, 0, none⟩))) :: F) (.obj b E cs :: L) rest) : J P Γ ops Q F L (⟨some d, .alloc E, ty, pos, aft, none⟩ :: rest) :=
  J.op (OpS.newObj (ρ' := fun _ => True) (E := E) (cs := cs) (fun a w hst => by
    obtain ⟨v, hv, hc, _⟩ := run_zero h w
    refine ⟨z, ?_, hz ▸ RelL.vals z (by simpa [List.all_eq_true] using h1)⟩
    have : v.cells = z.toArray := by rw [← hc]
    simp [execOp, Instr.alloc, hv, newVar, newRow, this])) rfl rfl hlt (by rintro s L' ⟨b, rfl, rfl⟩; exact k b)

theorem J.boxAg {d E : Nat} {x : Operand} {cs : List SV} (hx : ev F x = some (.agg cs)) (hlt : Nat.blt d Γ.nt = true)
    (k : ∀ b, J P Γ ops Q ((d, .val (.pointer (some ⟨b, 0, none⟩))) :: F) (.obj b E cs :: L) rest) : J P Γ ops Q F L (⟨some d, .box E x, ty, pos, aft, none⟩ :: rest) :=
  J.op (OpS.newObj (ρ' := fun _ => True) (E := E) (cs := cs) (fun a w hst => by
    have hr := hst.ev hx
    generalize hv : a.eval x = v at hr
    cases hr with
    | agg _ vs hl h1 hr => exact ⟨vs, by simp [execOp, hv, Instr.box, newVar, newRow, Value.cells], hl, h1, hr⟩)) rfl rfl hlt (by rintro s L' ⟨b, rfl, rfl⟩; exact k b)

theorem J.boxSc {d E : Nat} {x : Operand} {s : SV} (hx : ev F x = some s) (h1 : One s) (hlt : Nat.blt d Γ.nt = true)
    (k : ∀ b, J P Γ ops Q ((d, .val (.pointer (some ⟨b, 0, none⟩))) :: F) (.obj b E [s] :: L) rest) : J P Γ ops Q F L (⟨some d, .box E x, ty, pos, aft, none⟩ :: rest) :=
  J.op (OpS.newObj (ρ' := fun _ => True) (E := E) (cs := [s]) (fun a w hst => by
    have hr := hst.ev hx
    have hone := h1.cell hr
    have hcs : (a.eval x).cells = #[a.eval x] := by cases hv : a.eval x <;> simp_all [Value.cells, Value.oneCell']
    refine ⟨[a.eval x], by simp [execOp, Instr.box, newVar, newRow, hcs], rfl, by simp [hone], fun j hj => ?_⟩
    have : j = 0 := by simpa using hj
    subst this
    simpa using hr)) rfl rfl hlt (by rintro s L' ⟨b, rfl, rfl⟩; exact k b)

-- structs as values

theorem run_part_sc {T : Nat} (h : TSc P T) (w : World) (cs : Array Value) (o : Nat) (v : Value) (hv : cs[o]? = some v) : (part T cs o).run P w = .ok v w := by
  simp [part, isAgg_of_sc h, hv]
theorem run_part_ag {T n : Nat} (h : TAg P T n) (w : World) (cs : Array Value) (o : Nat) : (part T cs o).run P w = .ok (.agg (cs.extract o (o + n))) w := by
  simp [part, isAgg_of_ag h, sizeOf_of h.ok.2]

theorem field_run {T f off FT sz : Nat} (h : TFld P T f off FT sz) (cs : Array Value) (w : World) : (Instr.field T (.agg cs) f).run P w = (part FT cs off).run P w := by
  obtain ⟨h1, h2⟩ := h.ok
  unfold fldAt at h1
  split at h1
  · rename_i fs hu
    split at h1
    · rename_i fd hf
      split at h1
      · rename_i i hi
        simp only [Option.some.injEq, Prod.mk.injEq] at h1
        obtain ⟨rfl, rfl, rfl⟩ := h1
        simp [Instr.field, run_underlying hu, hf, asAgg]
      · simp at h1
    · simp at h1
  · simp at h1

theorem Pv.field {T f off FT sz : Nat} [h : TFld P T f off FT sz] [hs : TSc P FT] {x : Operand} {cs : List SV} {s : SV} (hx : ev F x = some (.agg cs)) (hc : cs[off]? = some s) : Pv P Γ F L ⟨dst, .field T x f, ty, pos, aft, g⟩ s := fun ρ w hst => by
  have hr := hst.ev x (by simp [Op.operands]) _ hx
  generalize hv : ρ x = v at hr
  cases hr with
  | agg _ vs hl h1 hr =>
    obtain ⟨u, hu, hru, _⟩ := RelL.at ⟨hl, h1, hr⟩ hc
    refine ⟨u, ?_, hru⟩
    have := run_part_sc hs w vs.toArray off u (by simpa using hu)
    simp [execOp, hv, field_run h, this]
theorem Cx.field {T f off FT sz : Nat} [h : TFld P T f off FT sz] [hs : TSc P FT] {x : Operand} {cs : List SV} {s : SV} (hx : ev F x = some (.agg cs)) (hc : cs[off]? = some s) {d0 : Nat} {K : List (Nat × SV) → Prop} (hlt : Nat.blt d0 Γ.nt = true) (hr : SegC P Γ ops L ((d0, s) :: F) rest K) : SegC P Γ ops L F (⟨some d0, .field T x f, ty, pos, aft, none⟩ :: rest) K :=
  SegC.q (Qs.pv (by apply Pv.field <;> assumption)) hlt hr
theorem Jx.field {T f off FT sz : Nat} [h : TFld P T f off FT sz] [hs : TSc P FT] {x : Operand} {cs : List SV} {s : SV} (hx : ev F x = some (.agg cs)) (hc : cs[off]? = some s) {d0 : Nat} (hlt : Nat.blt d0 Γ.nt = true) (k : J P Γ ops Q ((d0, s) :: F) L rest) : J P Γ ops Q F L (⟨some d0, .field T x f, ty, pos, aft, none⟩ :: rest) :=
  J.pv (by apply Pv.field <;> assumption) hlt k

theorem Pv.fieldAg {T f off FT sz n : Nat} [h : TFld P T f off FT sz] [hs : TAg P FT n] {x : Operand} {cs ds : List SV} (hx : ev F x = some (.agg cs)) (hd : (cs.drop off).take n = ds) : Pv P Γ F L ⟨dst, .field T x f, ty, pos, aft, g⟩ (.agg ds) := fun ρ w hst => by
  have hr := hst.ev x (by simp [Op.operands]) _ hx
  generalize hv : ρ x = v at hr
  cases hr with
  | agg _ vs hl h1 hr =>
    have hp := RelL.part ⟨hl, h1, hr⟩ off n
    rw [hd] at hp
    refine ⟨_, ?_, hp.agg⟩
    have := run_part_ag hs w vs.toArray off
    have e : vs.toArray.extract off (off + n) = ((vs.drop off).take n).toArray := by
      apply Array.ext'
      simp [List.extract_eq_take_drop]
    rw [e] at this
    simp [execOp, hv, field_run h, this]
theorem Cx.fieldAg {T f off FT sz n : Nat} [h : TFld P T f off FT sz] [hs : TAg P FT n] {x : Operand} {cs ds : List SV} (hx : ev F x = some (.agg cs)) (hd : (cs.drop off).take n = ds) {d0 : Nat} {K : List (Nat × SV) → Prop} (hlt : Nat.blt d0 Γ.nt = true) (hr : SegC P Γ ops L ((d0, (.agg ds)) :: F) rest K) : SegC P Γ ops L F (⟨some d0, .field T x f, ty, pos, aft, none⟩ :: rest) K :=
  SegC.q (Qs.pv (by apply Pv.fieldAg <;> assumption)) hlt hr
theorem Jx.fieldAg {T f off FT sz n : Nat} [h : TFld P T f off FT sz] [hs : TAg P FT n] {x : Operand} {cs ds : List SV} (hx : ev F x = some (.agg cs)) (hd : (cs.drop off).take n = ds) {d0 : Nat} (hlt : Nat.blt d0 Γ.nt = true) (k : J P Γ ops Q ((d0, (.agg ds)) :: F) L rest) : J P Γ ops Q F L (⟨some d0, .field T x f, ty, pos, aft, none⟩ :: rest) :=
  J.pv (by apply Pv.fieldAg <;> assumption) hlt k

end
end Go.Sse
