/-
  Slices that grow, parts of slices, bytes and texts, structs and slices that are built, in the frame's words.
-/
import Derived.Test.YtjlpknligekfeaaDoorSseD
namespace Go.Sse
open Go
set_option linter.unusedVariables false
set_option linter.unusedSimpArgs false

abbrev int (n : Int) : SV := .val (.int .i64 n)
abbrev bool (b : Bool) : SV := .val (.bool b)
abbrev ptr (b : Nat) : SV := .val (.pointer (some ⟨b, 0, none⟩))
abbrev byte (b : UInt8) : SV := .val (.int .u8 b.toNat)
/-- A list's members as cells. -/
def elOf {α : Type} (enc : α → List SV) (d : α) (l : List α) : Nat → List SV := fun i => enc (l.getD i d)
def encB (b : UInt8) : List SV := [byte b]
def encS (s : List UInt8) : List SV := [str s]
/-- Bytes; texts. -/
abbrev bsl (l : List UInt8) : SV := .sl 1 l.length (elOf encB 0 l)
abbrev ssl (l : List (List UInt8)) : SV := .sl 1 l.length (elOf encS [] l)

theorem elOf_append_left {α : Type} (enc : α → List SV) (d : α) (l m : List α) (i : Nat) (h : i < l.length) : elOf enc d (l ++ m) i = elOf enc d l i := by
  simp only [elOf, List.getD_eq_getElem?_getD]; rw [List.getElem?_append_left h]
theorem elOf_append_right {α : Type} (enc : α → List SV) (d : α) (l m : List α) (i : Nat) : elOf enc d (l ++ m) (l.length + i) = elOf enc d m i := by
  simp only [elOf, List.getD_eq_getElem?_getD]; rw [List.getElem?_append_right (by omega), Nat.add_sub_cancel_left]

section
variable {P : Program}

/-- What an append takes its new members from. -/
structure Src (P : Program) (sz xt : Nat) (w : World) (x : Value) (m : Nat) (news : List Value) : Prop where
  ty : ∃ d, P.underlying xt = some d ∧ ∀ k, d ≠ .int k
  len : ∀ w', (Builtin.lenOf x).run P w' = .ok m w'
  cells : (Builtin.firstCells sz m x).run P w = .ok news.toArray w
  drew : (Builtin.firstCells sz m x).run P w.drew = .ok news.toArray w.drew
  nl : news.length = m * sz
  one : ∀ v ∈ news, v.oneCell' = true

theorem zeros_match {d : TypeDesc} (h : ∀ k, d ≠ .int k) : (match d with | .int _ => true | _ => false) = false := by
  cases d with
  | int k => exact absurd rfl (h k)
  | _ => rfl

theorem run_append_new {t xt e ty : TypeId} {sz by' : Nat} {z : List Value} {w : World} {x : Value} {m : Nat} {news olds : List Value} (ht : P.underlying t = some (.slice e)) (hI : TInfo P e sz by' z) (hz : z.length = sz)
    (hs : Src P sz xt w x m news) (base : Option Addr) (n cap : Nat) (ho : (Builtin.firstCells sz n (.slice base n cap)).run P w.drew = .ok olds.toArray w.drew) (hol : olds.length = n * sz)
    (hg : cap < n + m) (h63 : n + m ≤ maxLen) (hb : (n + m) * by' ≤ 140737488355328) :
    ∃ c rest, n + m ≤ c ∧ c ≤ maxLen ∧ (olds ++ news ++ rest).length = c * sz ∧ (∀ u ∈ rest, u ∈ z) ∧
      (Builtin.append_ #[t, xt] ty #[.slice base n cap, x]).run P w = .ok (.slice (some ⟨w.heap.size, 0, none⟩) (n + m) c) (w.drew.alloc (.cells (olds ++ news ++ rest).toArray e)) := by
  obtain ⟨zv, hzr, hzc, i, hi, rfl, rfl, hiz⟩ := run_zero hI w
  obtain ⟨d, hd, hdk⟩ := hs.ty
  have hzi := zeros_match hdk
  have hn : ¬ (n + m ≤ cap) := by omega
  have hml : (n + m : Int) ≤ 9223372036854775807 := by simp only [maxLen] at h63; omega
  have h63' : ¬ (9223372036854775807 < ((n : Int) + (m : Int))) := by omega
  have hfit := growslice_fits hg hb
  have h48' : ¬ (281474976710656 < Builtin.nextslicecap (n + m) cap * i.bytes) := by omega
  have hzsz : zv.cells.size = i.size := by rw [← hz, ← hzc]; simp
  refine ⟨grownCap w (n + m) cap e, (Builtin.zeroCells zv.cells (grownCap w (n + m) cap e - (n + m))).toList, grownCap_ge w _ _ _, grownCap_le_maxLen w _ _ _ h63, ?_, ?_, ?_⟩
  · have hge := grownCap_ge w (n + m) cap e
    simp only [List.length_append, hol, hs.nl, Array.length_toList, size_zeroCells, hzsz, ← Nat.add_mul]
    congr 1; omega
  · intro u hu
    simp only [Builtin.zeroCells, Array.toList_map, List.mem_map] at hu
    obtain ⟨j, hj, rfl⟩ := hu
    rw [← hzc]
    simp only [Array.toList_range, List.mem_range] at hj
    have hpos : 0 < zv.cells.size := by
      rcases Nat.eq_zero_or_pos zv.cells.size with h0 | h0
      · rw [h0] at hj; simp at hj
      · exact h0
    have hlt := Nat.mod_lt j hpos
    rw [getElem!_pos zv.cells (j % zv.cells.size) hlt]
    simp
  · simp [Builtin.append_, run_underlying ht, run_underlying hd, hzi, sizeOf, typeInfo, zeroValue, hi, hiz, hs.len, hn, h63', h48', Question.forced, hs.drew, ho, newRow, grownCap]
    congr 2
    apply Array.ext'
    simp [List.append_assoc]

theorem run_append_room' {t xt e ty : TypeId} {sz by' : Nat} {z : List Value} {w : World} {x : Value} {m : Nat} {news : List Value} (ht : P.underlying t = some (.slice e)) (hI : TInfo P e sz by' z)
    (hs : Src P sz xt w x m news) (g n cap : Nat) (cur : Array Value) (fz : Nat × Nat) (hg : w.heap[g]? = some (.cells cur e fz)) (hu : Unfrozen fz cur.size) (hroom : n + m ≤ cap) (hcs : cur.size = cap * sz) :
    (Builtin.append_ #[t, xt] ty #[.slice (some ⟨g, 0, none⟩) n cap, x]).run P w = .ok (.slice (some ⟨g, 0, none⟩) (n + m) cap) (w.setRow g (cur.toList.take (n * sz) ++ news ++ cur.toList.drop (n * sz + news.length)).toArray) := by
  obtain ⟨zv, hzr, hzc, i, hi, rfl, rfl, hiz⟩ := run_zero hI w
  obtain ⟨d, hd, hdk⟩ := hs.ty
  have hzi := zeros_match hdk
  have hfit : n * i.size + news.length ≤ cur.size := by rw [hs.nl, hcs, ← Nat.add_mul]; exact Nat.mul_le_mul_right _ hroom
  have hst := storeCells_un (P := P) g (n * i.size) e fz news 0 cur w hg hu (by simpa using hfit) hs.one
  simp only [Nat.add_zero] at hst
  simp [Builtin.append_, run_underlying ht, run_underlying hd, hzi, sizeOf, typeInfo, hi, hs.len, hroom, hs.cells, add_plain, hst]

theorem run_append_nothing {t xt e ty : TypeId} {sz by' : Nat} {z : List Value} {w : World} {x : Value} (ht : P.underlying t = some (.slice e)) (hI : TInfo P e sz by' z) {news : List Value}
    (hs : Src P sz xt w x 0 news) (n cap : Nat) (hn : n ≤ cap) : (Builtin.append_ #[t, xt] ty #[.slice none n cap, x]).run P w = .ok (.slice none n cap) w := by
  obtain ⟨zv, hzr, hzc, i, hi, rfl, rfl, hiz⟩ := run_zero hI w
  obtain ⟨d, hd, hdk⟩ := hs.ty
  have hzi := zeros_match hdk
  simp [Builtin.append_, run_underlying ht, run_underlying hd, hzi, sizeOf, typeInfo, hi, hs.len, hs.cells, hn]

/-- New members by their meaning. -/
def NewOK (Z : Nat → Prop) (w : World) (sz m : Nat) (el2 : Nat → List SV) (news : List Value) : Prop :=
  (∀ i, i < m → (el2 i).length = sz) ∧ ∀ i j, i < m → j < sz → Rel Z w ((el2 i).getD j .any) (news.getD (i * sz + j) undef)

section
variable {Γ : Ctx} {ops : Array Oper} {Q : Exit → Act → World → Prop} {F : List (Nat × SV)} {L : List Own} {rest : List Oper}
variable {dst : Option Tmp} {ty : TypeId} {pos : String} {aft : Array Edge} {g : Option (Nat × Bool)}

def SrcOK (P : Program) (Γ : Ctx) (F : List (Nat × SV)) (L : List Own) (sz xt : Nat) (x : Operand) (m : Nat) (el2 : Nat → List SV) : Prop :=
  ∀ (ρ : Operand → Value) w, WSt Γ L w → (∀ s, ev F x = some s → Rel (ZL Γ.Z L) w s (ρ x)) → ∃ news, Src P sz xt w (ρ x) m news ∧ NewOK (ZL Γ.Z L) w sz m el2 news

theorem SrcOK.str {xt : Nat} [h : TStr P xt] {x : Operand} {l : List UInt8} (hx : ev F x = some (str l)) : SrcOK P Γ F L 1 xt x l.length (elOf encB 0 l) := by
  intro ρ w hws hev
  have hv : ρ x = sv l := (hev _ hx).val_eq
  have hc : ∀ w' : World, (Builtin.firstCells 1 l.length (sv l)).run P w' = .ok (l.map fun b => Value.int .u8 (b.toNat : Int)).toArray w' := by
    intro w'
    simp only [Builtin.firstCells, Sem.run_pure]
    congr 1
    apply Array.ext'
    have := extract_mk l 0 l.length
    simp [this]
  refine ⟨l.map fun b => Value.int .u8 (b.toNat : Int), ⟨⟨_, h.ok, by simp⟩, fun w' => ?_, ?_, ?_, by simp, ?_⟩, fun i _ => rfl, fun i j hi hj => ?_⟩
  · rw [hv]; rfl
  · rw [hv]; exact hc w
  · rw [hv]; exact hc w.drew
  · intro v hm; obtain ⟨b, _, rfl⟩ := List.mem_map.1 hm; rfl
  · have : j = 0 := by omega
    subst this
    simp only [Nat.mul_one, Nat.add_zero, List.getD_eq_getElem?_getD, List.getElem?_map, List.getElem?_eq_getElem hi, Option.map_some, Option.getD_some, elOf, encB]
    exact .val _

theorem list_of_fn (cs : Nat → Value) (k : Nat) : ((List.range k).map cs).length = k := by simp

theorem SrcOK.sl {xt E sz m : Nat} [h : TSlice P xt E] {x : Operand} {el2 : Nat → List SV} (hx : ev F x = some (.sl sz m el2)) : SrcOK P Γ F L sz xt x m el2 := by
  intro ρ w hws hev
  have hr := hev _ hx
  generalize hv : ρ x = v at hr
  cases hr with
  | sl _ _ _ a cap cs hcap hmax hb h1 hl hr =>
    have hcell : ∀ w' : World, w'.heap = w.heap → (Builtin.firstCells sz m (.slice a m cap)).run P w' = .ok ((List.range (m * sz)).map cs).toArray w' := by
      intro w' hw
      rcases Nat.eq_zero_or_pos (m * sz) with h0 | h0
      · rw [h0]
        cases a with
        | none => simp [Builtin.firstCells]
        | some a => simp [Builtin.firstCells, loadCells, loadCellsFrom, h0]
      · rcases hb with hb | ⟨b, off, rfl, hz, hc⟩
        · omega
        · refine run_firstCells_some (P := P) w' sz m ⟨b, off, none⟩ m cap _ (by simp) ?_
          intro j u hu
          have hj : j < m * sz := by
            rcases Nat.lt_or_ge j (m * sz) with h | h
            · exact h
            · rw [List.getElem?_eq_none (by simpa using h)] at hu; simp at hu
          simp [hj] at hu
          rw [add_plain, ← hu]
          have : w'.cell? ⟨b, off + j, none⟩ = w.cell? ⟨b, off + j, none⟩ := by simp [World.cell?, hw]
          rw [this]; exact hc j hj
    refine ⟨(List.range (m * sz)).map cs, ⟨⟨_, h.ok, by simp⟩, fun w' => by simp [Builtin.lenOf], hcell w rfl, hcell w.drew rfl, by simp, ?_⟩, hl, fun i j hi hj => ?_⟩
    · intro v hm
      obtain ⟨j, hj, rfl⟩ := List.mem_map.1 hm
      exact h1 j (List.mem_range.1 hj)
    · have hlt : i * sz + j < m * sz := by
        have h2 : (i + 1) * sz ≤ m * sz := Nat.mul_le_mul_right sz (by omega)
        rw [Nat.add_mul, Nat.one_mul] at h2
        omega
      have : ((List.range (m * sz)).map cs).getD (i * sz + j) undef = cs (i * sz + j) := by simp [List.getD_eq_getElem?_getD, hlt]
      rw [this]
      exact hr i j hi hj

theorem idx_lt {i j n sz : Nat} (hi : i < n) (hj : j < sz) : i * sz + j < n * sz := by
  have h2 : (i + 1) * sz ≤ n * sz := Nat.mul_le_mul_right sz (by omega)
  rw [Nat.add_mul, Nat.one_mul] at h2
  omega

/-- The members of an appended row. -/
theorem join_rel {Z : Nat → Prop} {w : World} {sz n m : Nat} {el el2 el' : Nat → List SV} {olds news rest : List Value} (ho : olds.length = n * sz) (hn : news.length = m * sz)
    (h1 : ∀ i, i < n → el' i = el i) (h2 : ∀ i, i < m → el' (n + i) = el2 i) (hold : ∀ i j, i < n → j < sz → Rel Z w ((el i).getD j .any) (olds.getD (i * sz + j) undef)) (hnew : NewOK Z w sz m el2 news) :
    ∀ i j, i < n + m → j < sz → Rel Z w ((el' i).getD j .any) ((olds ++ news ++ rest).getD (i * sz + j) undef) := by
  intro i j hi hj
  by_cases hin : i < n
  · have hlt := idx_lt hin hj
    rw [h1 i hin]
    have : (olds ++ news ++ rest).getD (i * sz + j) undef = olds.getD (i * sz + j) undef := by
      simp only [List.getD_eq_getElem?_getD, List.append_assoc]; rw [List.getElem?_append_left (by omega)]
    rw [this]; exact hold i j hin hj
  · obtain ⟨k, rfl⟩ : ∃ k, i = n + k := ⟨i - n, by omega⟩
    have hk : k < m := by omega
    have hlt := idx_lt hk hj
    rw [h2 k hk]
    have : (olds ++ news ++ rest).getD ((n + k) * sz + j) undef = news.getD (k * sz + j) undef := by
      simp only [List.getD_eq_getElem?_getD, List.append_assoc]
      rw [List.getElem?_append_right (by rw [ho, Nat.add_mul]; omega), List.getElem?_append_left (by rw [ho, hn, Nat.add_mul]; omega)]
      congr 2; rw [ho, Nat.add_mul]; omega
    rw [this]; exact hnew.2 k j hk hj

theorem OpS.appendRow {t xt E sz by' n m : Nat} {z : List Value} [ht : TSlice P t E] [hI : TInfo P E sz by' z] {s x : Operand} {v : Value} {el el2 el' : Nat → List SV}
    (hsv : ev (F := F) s = some (.val v)) (hx : SrcOK P Γ F (.row v E sz n el :: L) sz xt x m el2) (hz : z.length = sz) (hz1 : z.all (·.oneCell') = true) (h63 : n + m ≤ maxLen) (hb : (n + m) * by' ≤ 140737488355328)
    (h1 : ∀ i, i < n → el' i = el i) (h2 : ∀ i, i < m → el' (n + i) = el2 i) :
    OpS P Γ ⟨dst, .call { callee := .builtin .append, args := #[s, x], argTypes := #[t, xt] }, ty, pos, aft, g⟩ F (.row v E sz n el :: L) (fun r L' => ∃ v', v'.oneCell' = true ∧ r = .val v' ∧ L' = .row v' E sz (n + m) el' :: L) := by
  intro a w K Q hst hK
  obtain ⟨news, hsrc, hnew⟩ := hx a.eval w hst.ws (fun s hs => hst.ev hs)
  have hrow := hst.ws.holds _ (List.mem_cons_self ..)
  have hexec : ∀ r w', (Builtin.append_ #[t, xt] ty #[v, a.eval x]).run P w = .ok r w' →
      (execOp a.eval ⟨dst, .call { callee := .builtin .append, args := #[s, x], argTypes := #[t, xt] }, ty, pos, aft, g⟩).run P w = .ok (.value r) w' := by
    intro r w' h
    simp [execOp, resolve, invoke, builtin, hst.evv hsv, h]
  have hdrop : Step Γ (.row v E sz n el :: L) L w w := Step.drop hst.ws (List.sublist_cons_self _ _)
  have hlen' : ∀ i, i < n → (el i).length = sz → (el' i).length = sz := fun i hi h => by rw [h1 i hi]; exact h
  -- a new block
  have fresh : ∀ (base : Option Addr) (cap : Nat) (olds : List Value), v = .slice base n cap → (Builtin.firstCells sz n (.slice base n cap)).run P w.drew = .ok olds.toArray w.drew → olds.length = n * sz →
      (∀ u ∈ olds, u.oneCell' = true) → (∀ i, i < n → (el i).length = sz) → (∀ i j, i < n → j < sz → Rel (ZL Γ.Z (.row v E sz n el :: L)) w ((el i).getD j .any) (olds.getD (i * sz + j) undef)) → cap < n + m →
      Oper.wp P ⟨dst, .call { callee := .builtin .append, args := #[s, x], argTypes := #[t, xt] }, ty, pos, aft, g⟩ a w K Q := by
    intro base cap olds hv ho hol ho1 hell holr hg
    subst hv
    obtain ⟨c, rest', hc1, hc2, hc3, hc4, hrun⟩ := run_append_new (ty := ty) ht.ok hI hz hsrc base n cap ho hol hg h63 hb
    unfold Oper.wp
    rw [hexec _ _ hrun]
    have hd2 : Step Γ L L w w.drew := Step.drew hdrop.ws
    have hal : Step Γ L (.row (.slice (some ⟨w.drew.heap.size, 0, none⟩) (n + m) c) E sz (n + m) el' :: L) w.drew (w.drew.alloc (.cells (olds ++ news ++ rest').toArray E)) := by
      refine Step.alloc hd2.ws _ _ rfl (.inr ⟨_, c, _, (0, 0), rfl, heap_alloc_new w.drew _, by intro i _; simp, hc1, hc2, by simpa using hc3, ?_, ?_, ?_⟩)
      · intro u hu
        simp only [List.mem_append] at hu
        rcases hu with (hu | hu) | hu
        · exact ho1 u hu
        · exact hsrc.one u hu
        · exact (List.all_eq_true.1 hz1) u (hc4 u hu)
      · intro i hi
        by_cases hin : i < n
        · exact hlen' i hin (hell i hin)
        · obtain ⟨k, rfl⟩ : ∃ k, i = n + k := ⟨i - n, by omega⟩
          rw [h2 k (by omega)]; exact hnew.1 k (by omega)
      · intro i j hi hj
        have := join_rel (rest := rest') hol hsrc.nl h1 h2 holr hnew i j hi hj
        refine this.stable fun b hb hn => ⟨heap_alloc_old w.drew _ hb, ?_⟩
        rintro (h3 | h3)
        · exact hn (.inl h3)
        · simp only [inF, foots_cons, Own.foot, List.singleton_append, List.mem_cons] at h3
          rcases h3 with h3 | h3
          · have : w.drew.heap.size = w.heap.size := rfl
            omega
          · refine hn (.inr ?_)
            simp only [inF, foots_cons, List.mem_append]
            exact .inr h3
    exact hK _ _ _ _ ⟨_, rfl, rfl, rfl⟩ ((hdrop.trans hd2).trans hal) (.val _)
  rcases hrow with ⟨rfl, rfl⟩ | ⟨b, cap, cur, fz, rfl, hbk, hu, hnc, hcm, hcs, hone, hell, hrel⟩
  · by_cases hm : m = 0
    · subst hm
      have hrun := run_append_nothing (ty := ty) ht.ok hI hsrc 0 0 (Nat.le_refl _)
      unfold Oper.wp
      rw [hexec _ _ hrun]
      refine hK _ _ _ _ ⟨.slice none 0 0, rfl, rfl, rfl⟩ ?_ (.val _)
      exact Step.upd (i := 0) hst.ws rfl (by simp [Own.foot]) ⟨rfl, rfl, rfl, rfl⟩ (fun _ _ => rfl) (.inl ⟨rfl, rfl⟩)
    · exact fresh none 0 [] rfl (by simp [Builtin.firstCells]) (by simp) (by simp) (by omega) (by omega) (by omega)
  · have hold : ∀ i j, i < n → j < sz → cur.toList.getD (i * sz + j) undef = (cur.toList.take (n * sz)).getD (i * sz + j) undef := by
      intro i j hi hj
      have := idx_lt hi hj
      simp only [List.getD_eq_getElem?_getD, List.getElem?_take, this, if_true]
    have hle : n * sz ≤ cur.size := by rw [hcs]; exact Nat.mul_le_mul_right _ hnc
    by_cases hroom : n + m ≤ cap
    · have hrun := run_append_room' (ty := ty) ht.ok hI hsrc b n cap cur fz hbk hu hroom hcs
      unfold Oper.wp
      rw [hexec _ _ hrun]
      refine hK _ _ _ _ ⟨_, rfl, rfl, rfl⟩ ?_ (.val _)
      have hsz : (cur.toList.take (n * sz) ++ news ++ cur.toList.drop (n * sz + news.length)).length = cur.size := by
        have : n * sz + news.length ≤ cur.size := by rw [hsrc.nl, hcs, ← Nat.add_mul]; exact Nat.mul_le_mul_right _ hroom
        simp only [List.length_append, List.length_take, List.length_drop, Array.length_toList]; omega
      refine Step.upd (i := 0) hst.ws rfl rfl ⟨rfl, rfl, rfl, by simp⟩ (fun b' hb' => setRow_other w b b' _ (by simpa [Own.foot] using hb')) (.inr ⟨b, cap, _, fz, rfl, setRow_heap w b cur _ E fz hbk, ?_, hroom, hcm, ?_, ?_, ?_, ?_⟩)
      · simp only [List.size_toArray, hsz]; exact hu
      · simp only [List.size_toArray, hsz]; exact hcs
      · intro u hu
        simp only [List.mem_append] at hu
        rcases hu with (hu | hu) | hu
        · exact hone u (List.mem_of_mem_take hu)
        · exact hsrc.one u hu
        · exact hone u (List.mem_of_mem_drop hu)
      · intro i hi
        by_cases hin : i < n
        · exact hlen' i hin (hell i hin)
        · obtain ⟨k, rfl⟩ : ∃ k, i = n + k := ⟨i - n, by omega⟩
          rw [h2 k (by omega)]; exact hnew.1 k (by omega)
      · intro i j hi hj
        have := join_rel (rest := cur.toList.drop (n * sz + news.length)) (olds := cur.toList.take (n * sz)) (by simp only [List.length_take, Array.length_toList]; omega) hsrc.nl h1 h2 (fun i j hi hj => by rw [← hold i j hi hj]; exact hrel i j hi hj) hnew i j hi hj
        refine this.stable fun b' hb' hn => ⟨setRow_other w b b' _ (fun e => hn (.inr (by subst e; simp [inF, foots_cons, Own.foot]))), hn⟩
    · refine fresh (some ⟨b, 0, none⟩) cap (cur.toList.take (n * sz)) rfl ?_ (by simp only [List.length_take, Array.length_toList]; omega) (fun u hu => hone u (List.mem_of_mem_take hu)) hell (fun i j hi hj => by rw [← hold i j hi hj]; exact hrel i j hi hj) (by omega)
      refine run_firstCells_some (P := P) w.drew sz n ⟨b, 0, none⟩ n cap _ (by simp only [List.length_take, Array.length_toList]; omega) ?_
      intro j u hu
      have hj : j < n * sz := by
        rcases Nat.lt_or_ge j (n * sz) with h | h
        · exact h
        · rw [List.getElem?_eq_none (by simp only [List.length_take]; omega)] at hu; simp at hu
      rw [List.getElem?_take, if_pos hj] at hu
      rw [add_plain, Nat.zero_add]
      show w.cell? ⟨b, j, none⟩ = _
      rw [obj_cell hbk]
      simpa using hu

theorem J.appendRow {d t xt E sz by' n m : Nat} {z : List Value} [ht : TSlice P t E] [hI : TInfo P E sz by' z] {s x : Operand} {v : Value} {el el2 : Nat → List SV} (el' : Nat → List SV) (n' : Nat)
    (hsv : ev (F := F) s = some (.val v)) (hx : SrcOK P Γ F (.row v E sz n el :: L) sz xt x m el2) (hz : z.length = sz) (hz1 : z.all (·.oneCell') = true) (h63 : n + m ≤ maxLen) (hb : (n + m) * by' ≤ 140737488355328)
    (hn : n' = n + m) (h1 : ∀ i, i < n → el' i = el i) (h2 : ∀ i, i < m → el' (n + i) = el2 i) (hlt : Nat.blt d Γ.nt = true) (k : ∀ v', v'.oneCell' = true → J P Γ ops Q ((d, .val v') :: F) (.row v' E sz n' el' :: L) rest) :
    J P Γ ops Q F (.row v E sz n el :: L) (⟨some d, .call { callee := .builtin .append, args := #[s, x], argTypes := #[t, xt] }, ty, pos, aft, none⟩ :: rest) :=
  J.op (OpS.appendRow hsv hx hz hz1 h63 hb h1 h2) rfl rfl hlt (by rintro r L' ⟨v', hv', rfl, rfl⟩; subst hn; exact k v' hv')

/-- An append of a list's members to a list of its own. -/
theorem J.appendL {α : Type} {d t xt E sz by' : Nat} {z : List Value} [ht : TSlice P t E] [hI : TInfo P E sz by' z] {s x : Operand} {v : Value} {enc : α → List SV} {dd : α} {l l2 : List α}
    (hsv : ev (F := F) s = some (.val v)) (hx : SrcOK P Γ F (.row v E sz l.length (elOf enc dd l) :: L) sz xt x l2.length (elOf enc dd l2)) (hz : z.length = sz) (hz1 : z.all (·.oneCell') = true)
    (hb : l.length + l2.length ≤ maxLen ∧ (l.length + l2.length) * by' ≤ 140737488355328) (hlt : Nat.blt d Γ.nt = true) (k : ∀ v', v'.oneCell' = true → J P Γ ops Q ((d, .val v') :: F) (.row v' E sz (l ++ l2).length (elOf enc dd (l ++ l2)) :: L) rest) :
    J P Γ ops Q F (.row v E sz l.length (elOf enc dd l) :: L) (⟨some d, .call { callee := .builtin .append, args := #[s, x], argTypes := #[t, xt] }, ty, pos, aft, none⟩ :: rest) :=
  J.appendRow _ _ hsv hx hz hz1 hb.1 hb.2 (by simp) (fun i hi => elOf_append_left enc dd l l2 i hi) (fun i _ => elOf_append_right enc dd l l2 i) hlt k

/-- The empty slice owns nothing: it may be taken for a row of one's own. -/
theorem J.rowNil {l : List Oper} (E sz : Nat) (el : Nat → List SV) (h : J P Γ ops Q F (.row (.slice none 0 0) E sz 0 el :: L) l) : J P Γ ops Q F L l := by
  refine ⟨fun a w hst => h.go a w ⟨⟨hst.ws.os, hst.ws.tape, hst.ws.output, hst.ws.size, hst.ws.keep, hst.ws.zlt, hst.ws.nodup, hst.ws.foot, ?_⟩, hst.nt, hst.df, hst.fr⟩⟩
  intro o ho
  rcases List.mem_cons.1 ho with rfl | ho
  · exact .inl ⟨rfl, rfl⟩
  · exact hst.ws.holds o ho

/-- A row of one's own is let go: from now on nobody changes it. -/
theorem St.freeze {a : Act} {w : World} {v : Value} {E sz n i : Nat} {el : Nat → List SV} (hst : St Γ F (.row v E sz n el :: L) a w) (hi : look F i = some (.val v)) (hmax : n ≤ maxLen) : St Γ ((i, .sl sz n el) :: F) L a w := by
  have hs := hst.step (Step.drop hst.ws (List.sublist_cons_self _ _))
  have hrow := hst.ws.holds _ (List.mem_cons_self ..)
  have hval := (hst.fr i _ hi).val_eq
  refine ⟨hs.ws, hs.nt, hs.df, fun j s hj => ?_⟩
  simp only [look] at hj
  cases hb : Nat.beq i j with
  | false => rw [hb] at hj; exact hs.fr j s hj
  | true =>
    rw [hb] at hj
    simp only [cond_true, Option.some.injEq] at hj
    subst hj
    have := Nat.eq_of_beq_eq_true hb
    subst this
    rw [hval]
    rcases hrow with ⟨rfl, rfl⟩ | ⟨b, cap, cur, fz, rfl, hbk, hu, hnc, hcm, hcs, hone, hell, hrel⟩
    · exact .sl sz 0 el none 0 (fun _ => undef) (Nat.le_refl _) (Nat.zero_le _) (.inl (by simp)) (by simp) (by simp) (by simp)
    · have hle : n * sz ≤ cur.size := by rw [hcs]; exact Nat.mul_le_mul_right _ hnc
      have hnz : ¬ ZL Γ.Z L b := by
        have hnd := hst.ws.nodup
        rw [foots_cons, List.nodup_append] at hnd
        rintro (h | h)
        · exact (hst.ws.foot b (by simp [inF, foots_cons, Own.foot])).1 h
        · exact hnd.2.2 b (by simp [Own.foot]) b h rfl
      refine .sl sz n el (some ⟨b, 0, none⟩) cap (fun k => cur.toList.getD k undef) hnc hcm (.inr ⟨b, 0, rfl, hnz, fun k hk => ?_⟩) (fun k hk => ?_) hell (fun i j hi hj => (hrel i j hi hj).stable fun b' _ hn => ⟨rfl, fun hc => hn ?_⟩)
      · rw [Nat.zero_add, obj_cell hbk]
        have : k < cur.size := by omega
        simp [List.getD_eq_getElem?_getD, this]
      · have : k < cur.size := by omega
        refine hone _ ?_
        simp only [List.getD_eq_getElem?_getD, Array.getElem?_toList, Array.getElem?_eq_getElem this, Option.getD_some]
        exact Array.getElem_mem_toList this
      · rcases hc with hc | hc
        · exact .inl hc
        · refine .inr ?_
          simp only [inF, foots_cons, List.mem_append]
          exact .inr hc

theorem J.freeze {l : List Oper} (i : Nat) {v : Value} {E sz n : Nat} {el : Nat → List SV} (hi : look F i = some (.val v)) (hmax : n ≤ maxLen) (h : J P Γ ops Q ((i, .sl sz n el) :: F) L l) : J P Γ ops Q F (.row v E sz n el :: L) l :=
  ⟨fun a w hst => h.go a w (hst.freeze hi hmax)⟩
theorem W.freeze {c : Code} (i : Nat) {v : Value} {E sz n : Nat} {el : Nat → List SV} (hi : look F i = some (.val v)) (hmax : n ≤ maxLen) (h : W P Γ Q ((i, .sl sz n el) :: F) L c) : W P Γ Q F (.row v E sz n el :: L) c :=
  ⟨fun a w hst => h.go a w (hst.freeze hi hmax)⟩
theorem N.freeze {K : Act → World → Prop} (i : Nat) {v : Value} {E sz n : Nat} {el : Nat → List SV} (hi : look F i = some (.val v)) (hmax : n ≤ maxLen) (h : N Γ K ((i, .sl sz n el) :: F) L) : N Γ K F (.row v E sz n el :: L) :=
  ⟨fun a w hst => h.go a w (hst.freeze hi hmax)⟩
end
end
end Go.Sse
