/-
  Structs and arrays held against one another.
-/
import Derived.Test.YtjlpknligekfeaaDoorSseL
import Derived.DeepKeys
namespace Go.Sse
open Go Go.Sse
set_option linter.unusedVariables false
set_option linter.unusedSimpArgs false

/-- A cell's kind. -/
inductive Leaf where
  | b | i (k : IntKind) | s
def Leaf.fits : Leaf → Value → Bool
  | .b, .bool _ => true
  | .i k, .int k' _ => decide (k = k')
  | .s, .string _ => true
  | _, _ => false
def fitsL : List Leaf → List Value → Bool
  | [], [] => true
  | l :: ls, v :: vs => l.fits v && fitsL ls vs
  | _, _ => false

theorem fitsL_len : ∀ {ls : List Leaf} {vs : List Value}, fitsL ls vs = true → vs.length = ls.length
  | [], [], _ => rfl
  | l :: ls, v :: vs, h => by simp only [fitsL, Bool.and_eq_true] at h; simp [fitsL_len h.2]
  | [], v :: vs, h => by simp [fitsL] at h
  | l :: ls, [], h => by simp [fitsL] at h
theorem fitsL_append : ∀ {as bs : List Leaf} {vs : List Value}, fitsL (as ++ bs) vs = true → fitsL as (vs.take as.length) = true ∧ fitsL bs (vs.drop as.length) = true
  | [], bs, vs, h => by simpa [fitsL] using h
  | a :: as, bs, [], h => by simp [fitsL] at h
  | a :: as, bs, v :: vs, h => by
    simp only [List.cons_append, fitsL, Bool.and_eq_true] at h
    obtain ⟨h1, h2⟩ := fitsL_append h.2
    simp [fitsL, h.1, h1, h2]

def leafFields (P : Program) (g : TypeId → Option (List Leaf)) : List Field → Nat → Option (List Leaf)
  | [], _ => some []
  | f :: fs, off => if f.offset = off ∧ f.name ≠ "_" then
      match g f.type with
      | some l => if P.cellsOf f.type = l.length then (leafFields P g fs (off + l.length)).map (l ++ ·) else none
      | none => none
    else none
/-- A type's cells by their kinds: of truths, integers and texts alone. -/
def leavesAt (P : Program) : Nat → TypeId → Option (List Leaf)
  | 0, _ => none
  | d + 1, t => match P.underlying t with
    | some .bool => some [.b]
    | some (.int k) => some [.i k]
    | some .string => some [.s]
    | some (.array n e) => match leavesAt P d e with
      | some l => if P.cellsOf e = l.length then some (List.replicate n l).flatten else none
      | none => none
    | some (.struct fs) => if P.stoodInHeld t = true then none else leafFields P (leavesAt P d) fs.toList 0
    | _ => none

def isAggD : Option TypeDesc → Bool
  | some (.struct _) | some (.array _ _) => true
  | _ => false
def Shp (P : Program) (t : TypeId) (ls : List Leaf) (x : Value) : Prop :=
  if isAggD (P.underlying t) = true then ∃ cs, x = .agg cs ∧ fitsL ls cs.toList = true else fitsL ls [x] = true

def EqOK (P : Program) (dd : Nat) (t : TypeId) (ls : List Leaf) : Prop :=
  ∀ (w : World) (x y : Value), Shp P t ls x → Shp P t ls y → ∃ r : Bool, (Op.equalIn dd t x y).run P w = .ok r w ∧ (r = true ↔ x = y)

section
variable {P : Program}

theorem run_part_leaf {e : TypeId} {d : Nat} {l : List Leaf} {xs : Array Value} {off : Nat} (w : World) (hl : leavesAt P d e = some l) (hc : P.cellsOf e = l.length) (hf : fitsL l ((xs.toList.drop off).take l.length) = true) :
    ∃ a, (part e xs off).run P w = .ok a w ∧ Shp P e l a ∧ ((isAggD (P.underlying e) = true ∧ a = .agg ((xs.toList.drop off).take l.length).toArray) ∨ (isAggD (P.underlying e) = false ∧ (xs.toList.drop off).take l.length = [a])) := by
  cases d with
  | zero => simp [leavesAt] at hl
  | succ d =>
    cases hu : P.underlying e with
    | none => simp [leavesAt, hu] at hl
    | some kd =>
      have one : ∀ lf : Leaf, l = [lf] → isAggD (some kd) = false → (∀ w : World, (isAgg e).run P w = .ok false w) → ∃ a, (part e xs off).run P w = .ok a w ∧ Shp P e l a ∧ ((isAggD (some kd) = true ∧ a = .agg ((xs.toList.drop off).take l.length).toArray) ∨ (isAggD (some kd) = false ∧ (xs.toList.drop off).take l.length = [a])) := by
        intro lf hlf hk hag
        subst hlf
        have hlen := fitsL_len hf
        simp only [List.length_cons, List.length_nil, Nat.zero_add] at hlen hf ⊢
        obtain ⟨a, ha⟩ := List.length_eq_one_iff.1 hlen
        have hx : xs[off]? = some a := by
          have : ((xs.toList.drop off).take 1)[0]? = some a := by rw [ha]; rfl
          simpa using this
        refine ⟨a, by simp [part, hag, hx], ?_, .inr ⟨hk, ha⟩⟩
        unfold Shp
        rw [hu, if_neg (by rw [hk]; simp), ← ha]
        exact hf
      have agg : isAggD (some kd) = true → (∀ w : World, (isAgg e).run P w = .ok true w) → ∃ a, (part e xs off).run P w = .ok a w ∧ Shp P e l a ∧ ((isAggD (some kd) = true ∧ a = .agg ((xs.toList.drop off).take l.length).toArray) ∨ (isAggD (some kd) = false ∧ (xs.toList.drop off).take l.length = [a])) := by
        intro hk hag
        obtain ⟨i, hi⟩ := info_of_underlying hu
        have hsz : i.size = l.length := by rw [← hc]; simp [Program.cellsOf, hi]
        have hl' : (xs.extract off (off + l.length)) = ((xs.toList.drop off).take l.length).toArray := by
          apply Array.ext'
          simp [List.extract_eq_take_drop]
        refine ⟨.agg ((xs.toList.drop off).take l.length).toArray, ?_, ?_, .inl ⟨hk, rfl⟩⟩
        · simp [part, hag, run_sizeOf w hi, hc, hl']
        · unfold Shp
          rw [hu, if_pos hk]
          exact ⟨_, rfl, hf⟩
      cases kd
      case bool => simp only [leavesAt, hu, Option.some.injEq] at hl; exact one _ hl.symm rfl (fun w => by simp [isAgg, run_underlying hu])
      case int k => simp only [leavesAt, hu, Option.some.injEq] at hl; exact one _ hl.symm rfl (fun w => by simp [isAgg, run_underlying hu])
      case string => simp only [leavesAt, hu, Option.some.injEq] at hl; exact one _ hl.symm rfl (fun w => by simp [isAgg, run_underlying hu])
      case array n e' => exact agg rfl (fun w => by simp [isAgg, run_underlying hu])
      case struct fs => exact agg rfl (fun w => by simp [isAgg, run_underlying hu])
      all_goals (simp [leavesAt, hu] at hl; done)

theorem part_eq_iff {k : Bool} {a b : Value} {as bs : List Value} (ha : (k = true ∧ a = .agg as.toArray) ∨ (k = false ∧ as = [a])) (hb : (k = true ∧ b = .agg bs.toArray) ∨ (k = false ∧ bs = [b])) : a = b ↔ as = bs := by
  rcases ha with ⟨h1, rfl⟩ | ⟨h1, rfl⟩
  · rcases hb with ⟨h2, rfl⟩ | ⟨h2, rfl⟩
    · simp
    · rw [h1] at h2; cases h2
  · rcases hb with ⟨h2, rfl⟩ | ⟨h2, rfl⟩
    · rw [h1] at h2; cases h2
    · simp

theorem eqFields_leaf {d dd : Nat} (IH : ∀ t l, leavesAt P d t = some l → EqOK P dd t l) (w : World) (xs ys : Array Value) : ∀ (fs : List Field) (off : Nat) (ls : List Leaf), leafFields P (leavesAt P d) fs off = some ls → fitsL ls (xs.toList.drop off) = true → fitsL ls (ys.toList.drop off) = true →
    ∃ r : Bool, (Op.eqFields dd xs ys fs).run P w = .ok r w ∧ (r = true ↔ xs.toList.drop off = ys.toList.drop off)
  | [], off, ls, h, hx, hy => by
    simp only [leafFields, Option.some.injEq] at h
    subst h
    have h1 := fitsL_len hx; have h2 := fitsL_len hy
    simp only [List.length_nil] at h1 h2
    refine ⟨true, by simp [Op.eqFields], ?_⟩
    rw [List.eq_nil_of_length_eq_zero h1, List.eq_nil_of_length_eq_zero h2]
    simp
  | f :: fs, off, ls, h, hx, hy => by
    unfold leafFields at h
    split at h
    · rename_i hof
      obtain ⟨rfl, hnm⟩ := hof
      split at h
      · rename_i l hl
        split at h
        · rename_i hc
          cases hr : leafFields P (leavesAt P d) fs (f.offset + l.length) with
          | none => rw [hr] at h; simp at h
          | some ls' =>
            rw [hr] at h
            simp only [Option.map_some, Option.some.injEq] at h
            subst h
            obtain ⟨x1, x2⟩ := fitsL_append hx
            obtain ⟨y1, y2⟩ := fitsL_append hy
            rw [List.drop_drop] at x2 y2
            obtain ⟨a, pa, sa, ea⟩ := run_part_leaf w hl hc x1
            obtain ⟨b, pb, sb, eb⟩ := run_part_leaf w hl hc y1
            obtain ⟨r, hr1, hr2⟩ := IH f.type l hl w a b sa sb
            have hab := part_eq_iff ea eb
            obtain ⟨r', hr1', hr2'⟩ := eqFields_leaf IH w xs ys fs (f.offset + l.length) ls' hr x2 y2
            have split2 : xs.toList.drop f.offset = ys.toList.drop f.offset ↔ ((xs.toList.drop f.offset).take l.length = (ys.toList.drop f.offset).take l.length ∧ xs.toList.drop (f.offset + l.length) = ys.toList.drop (f.offset + l.length)) := by
              constructor
              · intro h; rw [← List.drop_drop, ← List.drop_drop, h]; exact ⟨rfl, rfl⟩
              · rintro ⟨h1, h2⟩
                rw [← List.drop_drop, ← List.drop_drop] at h2
                rw [← List.take_append_drop l.length (xs.toList.drop f.offset), ← List.take_append_drop l.length (ys.toList.drop f.offset), h1, h2]
            have hn : ¬ f.name = "_" := hnm
            cases r with
            | false =>
              refine ⟨false, by simp [Op.eqFields, hn, pa, pb, hr1], ?_⟩
              simp only [Bool.false_eq_true, false_iff]
              intro he
              have := hr2.2 (hab.2 (split2.1 he).1)
              cases this
            | true =>
              refine ⟨r', by simp [Op.eqFields, hn, pa, pb, hr1, hr1'], ?_⟩
              rw [hr2', split2]
              exact ⟨fun h => ⟨hab.1 (hr2.1 rfl), h⟩, fun h => h.2⟩
        · cases h
      · cases h
    · cases h

theorem eqItems_leaf {d dd : Nat} {e : TypeId} {l : List Leaf} (hl : leavesAt P d e = some l) (hc : P.cellsOf e = l.length) (IH : EqOK P dd e l) (w : World) (xs ys : Array Value) : ∀ (js : List Nat), (∀ j ∈ js, fitsL l ((xs.toList.drop (j * l.length)).take l.length) = true ∧ fitsL l ((ys.toList.drop (j * l.length)).take l.length) = true) →
    ∃ r : Bool, (Op.eqItems dd e (P.cellsOf e) xs ys js).run P w = .ok r w ∧ (r = true ↔ ∀ j ∈ js, (xs.toList.drop (j * l.length)).take l.length = (ys.toList.drop (j * l.length)).take l.length)
  | [], _ => ⟨true, by simp [Op.eqItems], by simp⟩
  | j :: js, h => by
    obtain ⟨x1, y1⟩ := h j (List.mem_cons_self ..)
    obtain ⟨a, pa, sa, ea⟩ := run_part_leaf w hl hc x1
    obtain ⟨b, pb, sb, eb⟩ := run_part_leaf w hl hc y1
    obtain ⟨r, hr1, hr2⟩ := IH w a b sa sb
    have hab := part_eq_iff ea eb
    obtain ⟨r', hr1', hr2'⟩ := eqItems_leaf hl hc IH w xs ys js fun k hk => h k (List.mem_cons_of_mem _ hk)
    rw [hc] at hr1' ⊢
    cases r with
    | false =>
      refine ⟨false, by simp [Op.eqItems, pa, pb, hr1], ?_⟩
      simp only [Bool.false_eq_true, false_iff]
      intro he
      have := hr2.2 (hab.2 (he j (List.mem_cons_self ..)))
      cases this
    | true =>
      refine ⟨r', by simp [Op.eqItems, pa, pb, hr1, hr1'], ?_⟩
      rw [hr2']
      constructor
      · intro h k hk
        rcases List.mem_cons.1 hk with rfl | hk
        · exact hab.1 (hr2.1 rfl)
        · exact h k hk
      · exact fun h k hk => h k (List.mem_cons_of_mem _ hk)

theorem fits_rep : ∀ {n : Nat} {l : List Leaf} {vs : List Value}, fitsL (List.replicate n l).flatten vs = true → vs.length = n * l.length ∧ ∀ j, j < n → fitsL l ((vs.drop (j * l.length)).take l.length) = true
  | 0, l, vs, h => by
    have := fitsL_len h
    exact ⟨by simpa using this, by omega⟩
  | n + 1, l, vs, h => by
    rw [List.replicate_succ, List.flatten_cons] at h
    obtain ⟨h1, h2⟩ := fitsL_append h
    obtain ⟨h3, h4⟩ := fits_rep h2
    have h5 := fitsL_len h1
    rw [List.length_take] at h5
    rw [List.length_drop] at h3
    refine ⟨by rw [Nat.add_mul, Nat.one_mul]; omega, fun j hj => ?_⟩
    cases j with
    | zero => simpa using h1
    | succ j =>
      have := h4 j (by omega)
      rw [List.drop_drop] at this
      rwa [show (j + 1) * l.length = l.length + j * l.length by rw [Nat.add_mul, Nat.one_mul]; omega]

theorem chunks_eq {n m : Nat} {xs ys : List Value} (hx : xs.length = n * m) (hy : ys.length = n * m) (h : ∀ j, j < n → (xs.drop (j * m)).take m = (ys.drop (j * m)).take m) : xs = ys := by
  induction n generalizing xs ys with
  | zero =>
    have h1 : xs = [] := List.eq_nil_of_length_eq_zero (by simpa using hx)
    have h2 : ys = [] := List.eq_nil_of_length_eq_zero (by simpa using hy)
    rw [h1, h2]
  | succ n ih =>
    rw [Nat.add_mul, Nat.one_mul] at hx hy
    have h0 := h 0 (by omega)
    simp only [Nat.zero_mul, List.drop_zero] at h0
    have h1 := ih (xs := xs.drop m) (ys := ys.drop m) (by rw [List.length_drop]; omega) (by rw [List.length_drop]; omega) fun j hj => by
      have := h (j + 1) (by omega)
      rw [Nat.add_mul, Nat.one_mul, Nat.add_comm (j * m) m] at this
      rw [List.drop_drop, List.drop_drop]; exact this
    rw [← List.take_append_drop m xs, ← List.take_append_drop m ys, h0, h1]

theorem eq_leaf (d' : Nat) : ∀ (m : Nat) (t : TypeId) (ls : List Leaf), leavesAt P m t = some ls → EqOK P (d' + m) t ls
  | 0, t, ls, h => by simp [leavesAt] at h
  | m + 1, t, ls, h => by
    intro w x y hx hy
    cases hu : P.underlying t with
    | none => simp [leavesAt, hu] at h
    | some kd =>
      unfold Shp at hx hy
      rw [hu] at hx hy
      cases kd
      case bool =>
        simp only [leavesAt, hu, Option.some.injEq] at h; subst h
        simp only [isAggD, Bool.false_eq_true, if_false] at hx hy
        cases x <;> simp [fitsL, Leaf.fits] at hx
        cases y <;> simp [fitsL, Leaf.fits] at hy
        exact ⟨_, run_equalIn_bool' w (d' + m) t _ _ hu, by simp⟩
      case int k =>
        simp only [leavesAt, hu, Option.some.injEq] at h; subst h
        simp only [isAggD, Bool.false_eq_true, if_false] at hx hy
        cases x <;> simp [fitsL, Leaf.fits] at hx
        cases y <;> simp [fitsL, Leaf.fits] at hy
        subst hx; subst hy
        exact ⟨_, run_equalIn_int w (d' + m) t _ _ _ _ hu, by simp⟩
      case string =>
        simp only [leavesAt, hu, Option.some.injEq] at h; subst h
        simp only [isAggD, Bool.false_eq_true, if_false] at hx hy
        cases x <;> simp [fitsL, Leaf.fits] at hx
        cases y <;> simp [fitsL, Leaf.fits] at hy
        rename_i a b
        exact ⟨_, run_equalIn_string w (d' + m) t _ _ hu, by
          rw [beq_iff_eq, ByteArray.toList_eq, ByteArray.toList_eq]
          obtain ⟨⟨a⟩⟩ := a
          obtain ⟨⟨b⟩⟩ := b
          simp⟩
      case array n e =>
        simp only [isAggD, if_true] at hx hy
        obtain ⟨xs, rfl, fx⟩ := hx
        obtain ⟨ys, rfl, fy⟩ := hy
        unfold leavesAt at h
        simp only [hu] at h
        split at h
        · rename_i l hl
          split at h
          · rename_i hc
            simp only [Option.some.injEq] at h
            subst h
            obtain ⟨lx, hx⟩ := fits_rep fx
            obtain ⟨ly, hy⟩ := fits_rep fy
            have hpe : ∃ i, P.info? e = some i := by
              cases m with
              | zero => simp [leavesAt] at hl
              | succ m' =>
                cases hue : P.underlying e with
                | none => simp [leavesAt, hue] at hl
                | some _ => exact info_of_underlying hue
            obtain ⟨i, hi⟩ := hpe
            obtain ⟨r, hr1, hr2⟩ := eqItems_leaf hl hc (eq_leaf d' m e l hl) w xs ys (List.range n) fun j hj => ⟨hx j (List.mem_range.1 hj), hy j (List.mem_range.1 hj)⟩
            refine ⟨r, by rw [show d' + (m + 1) = (d' + m) + 1 from rfl, run_equalIn_array w (d' + m) xs ys hu hi]; exact hr1, ?_⟩
            rw [hr2]
            constructor
            · intro h
              have := chunks_eq lx ly fun j hj => h j (List.mem_range.2 hj)
              rw [Array.toList_inj.1 this]
            · intro h; cases h; exact fun _ _ => rfl
          · cases h
        · cases h
      case struct fs =>
        simp only [isAggD, if_true] at hx hy
        obtain ⟨xs, rfl, fx⟩ := hx
        obtain ⟨ys, rfl, fy⟩ := hy
        unfold leavesAt at h
        simp only [hu] at h
        split at h
        · cases h
        · rename_i hst
          have hfs : P.fieldsOf t = fs := by simp [Program.fieldsOf, hu]
          obtain ⟨r, hr1, hr2⟩ := eqFields_leaf (eq_leaf d' m) w xs ys fs.toList 0 ls h (by simpa using fx) (by simpa using fy)
          refine ⟨r, by rw [show d' + (m + 1) = (d' + m) + 1 from rfl, run_equalIn_struct w (d' + m) t xs ys (by rw [hfs]; exact hu) (by simpa using hst), hfs]; exact hr1, ?_⟩
          rw [hr2]
          simp only [List.drop_zero]
          constructor
          · intro h; rw [Array.toList_inj.1 h]
          · intro h; cases h; rfl
      all_goals (simp [leavesAt, hu] at h; done)
end

/-- A struct or an array of truths, integers and texts. -/
class TLeaf (P : Program) (t : Nat) (ls : outParam (List Leaf)) : Prop where
  ok : leavesAt P 20 t = some ls ∧ isAggD (P.underlying t) = true ∧ P.eqGuardType P.depth t = false

def unval : SV → Option Value
  | .val v => some v
  | _ => none
def unvals : List SV → Option (List Value)
  | [] => some []
  | s :: r => match unval s, unvals r with
    | some v, some vs => some (v :: vs)
    | _, _ => none
theorem unvals_rel {Z : Nat → Prop} {w : World} : ∀ {cs : List SV} {us vs : List Value}, unvals cs = some us → vs.length = cs.length → (∀ j, j < cs.length → Rel Z w (cs.getD j .any) (vs.getD j undef)) → vs = us
  | [], us, vs, h, hl, _ => by
    simp only [unvals, Option.some.injEq] at h
    subst h
    exact List.eq_nil_of_length_eq_zero (by simpa using hl)
  | s :: r, us, [], h, hl, _ => by simp at hl
  | s :: r, us, v :: vs, h, hl, hr => by
    simp only [unvals] at h
    cases hs : unval s with
    | none => rw [hs] at h; simp at h
    | some u =>
      cases ht : unvals r with
      | none => rw [hs, ht] at h; simp at h
      | some us' =>
        rw [hs, ht] at h
        simp only [Option.some.injEq] at h
        subst h
        have h0 := hr 0 (by simp)
        simp only [List.getD_cons_zero] at h0
        have hsv : s = .val u := by cases s <;> simp [unval] at hs; rw [hs]
        rw [hsv] at h0
        have h9 : vs = us' := unvals_rel ht (by simpa using hl) fun j hj => by simpa using hr (j + 1) (by simpa using hj)
        rw [h0.val_eq, h9]

section
variable {P : Program} {Γ : Ctx} {ops : Array Oper} {Q : Exit → Act → World → Prop} {F : List (Nat × SV)} {L : List Own} {rest : List Oper}
variable {dst : Option Tmp} {ty : TypeId} {pos : String} {aft : Array Edge} {g : Option (Nat × Bool)}

theorem agg_vals {Γ : Ctx} {L : List Own} {w : World} {cs : List SV} {us : List Value} {v : Value} (h : Rel (ZL Γ.Z L) w (.agg cs) v) (hu : unvals cs = some us) : v = .agg us.toArray := by
  cases h with
  | agg _ vs hl h1 hr => rw [unvals_rel hu hl hr]

theorem eqAg_run {t : TypeId} {ls : List Leaf} (h : TLeaf P t ls) {us vs : List Value} (hf : fitsL ls us = true) (hg : fitsL ls vs = true) (w : World) : ∃ r : Bool, (Op.equalIn 10000 t (.agg us.toArray) (.agg vs.toArray)).run P w = .ok r w ∧ (r = true ↔ us = vs) := by
  obtain ⟨h1, h2, _⟩ := h.ok
  obtain ⟨r, hr, hi⟩ := eq_leaf (P := P) 9980 20 t ls h1 w (.agg us.toArray) (.agg vs.toArray) (by unfold Shp; rw [if_pos h2]; exact ⟨_, rfl, by simpa using hf⟩) (by unfold Shp; rw [if_pos h2]; exact ⟨_, rfl, by simpa using hg⟩)
  exact ⟨r, hr, by rw [hi]; simp⟩

section
variable {t t2 : TypeId} {ls : List Leaf} [h : TLeaf P t ls] {x y : Operand} {cs ds : List SV} {us vs : List Value} (b : Bool)
theorem Pv.eqlAg (hx : ev F x = some (.agg cs)) (hy : ev F y = some (.agg ds)) (hu : unvals cs = some us) (hv : unvals ds = some vs) (hf : fitsL ls us = true) (hg : fitsL ls vs = true) (hb : b = true ↔ us = vs) :
    Pv P Γ F L ⟨dst, .binOp .eql t x y t2, ty, pos, aft, g⟩ (.val (.bool b)) := fun ρ w hst => by
  have e1 := agg_vals (hst.ev x (by simp [Op.operands]) _ hx) hu
  have e2 := agg_vals (hst.ev y (by simp [Op.operands]) _ hy) hv
  obtain ⟨r, hr, hi⟩ := eqAg_run h hf hg w
  have : r = b := by rw [Bool.eq_iff_iff, hi, hb]
  subst this
  exact ⟨_, by simp [execOp, e1, e2, run_eqGuard_agg w .eql t x y us.toArray vs.toArray h.ok.2.2, run_eql_struct, hr], .val _⟩
theorem Cx.eqlAg (hx : ev F x = some (.agg cs)) (hy : ev F y = some (.agg ds)) (hu : unvals cs = some us) (hv : unvals ds = some vs) (hf : fitsL ls us = true) (hg : fitsL ls vs = true) (hb : b = true ↔ us = vs) {d0 : Nat} {K : List (Nat × SV) → Prop} (hlt : Nat.blt d0 Γ.nt = true) (hr : SegC P Γ ops L ((d0, (.val (.bool b))) :: F) rest K) : SegC P Γ ops L F (⟨some d0, .binOp .eql t x y t2, ty, pos, aft, none⟩ :: rest) K :=
  SegC.q (Qs.pv (by apply Pv.eqlAg <;> assumption)) hlt hr
theorem Jx.eqlAg (hx : ev F x = some (.agg cs)) (hy : ev F y = some (.agg ds)) (hu : unvals cs = some us) (hv : unvals ds = some vs) (hf : fitsL ls us = true) (hg : fitsL ls vs = true) (hb : b = true ↔ us = vs) {d0 : Nat} (hlt : Nat.blt d0 Γ.nt = true) (k : J P Γ ops Q ((d0, (.val (.bool b))) :: F) L rest) : J P Γ ops Q F L (⟨some d0, .binOp .eql t x y t2, ty, pos, aft, none⟩ :: rest) :=
  J.pv (by apply Pv.eqlAg <;> assumption) hlt k

theorem Pv.neqAg (hx : ev F x = some (.agg cs)) (hy : ev F y = some (.agg ds)) (hu : unvals cs = some us) (hv : unvals ds = some vs) (hf : fitsL ls us = true) (hg : fitsL ls vs = true) (hb : b = true ↔ us = vs) :
    Pv P Γ F L ⟨dst, .binOp .neq t x y t2, ty, pos, aft, g⟩ (.val (.bool (!b))) := fun ρ w hst => by
  have e1 := agg_vals (hst.ev x (by simp [Op.operands]) _ hx) hu
  have e2 := agg_vals (hst.ev y (by simp [Op.operands]) _ hy) hv
  obtain ⟨r, hr, hi⟩ := eqAg_run h hf hg w
  have : r = b := by rw [Bool.eq_iff_iff, hi, hb]
  subst this
  exact ⟨_, by simp [execOp, e1, e2, run_eqGuard_agg w .neq t x y us.toArray vs.toArray h.ok.2.2, run_neq_struct, hr], .val _⟩
theorem Cx.neqAg (hx : ev F x = some (.agg cs)) (hy : ev F y = some (.agg ds)) (hu : unvals cs = some us) (hv : unvals ds = some vs) (hf : fitsL ls us = true) (hg : fitsL ls vs = true) (hb : b = true ↔ us = vs) {d0 : Nat} {K : List (Nat × SV) → Prop} (hlt : Nat.blt d0 Γ.nt = true) (hr : SegC P Γ ops L ((d0, (.val (.bool (!b)))) :: F) rest K) : SegC P Γ ops L F (⟨some d0, .binOp .neq t x y t2, ty, pos, aft, none⟩ :: rest) K :=
  SegC.q (Qs.pv (by apply Pv.neqAg <;> assumption)) hlt hr
theorem Jx.neqAg (hx : ev F x = some (.agg cs)) (hy : ev F y = some (.agg ds)) (hu : unvals cs = some us) (hv : unvals ds = some vs) (hf : fitsL ls us = true) (hg : fitsL ls vs = true) (hb : b = true ↔ us = vs) {d0 : Nat} (hlt : Nat.blt d0 Γ.nt = true) (k : J P Γ ops Q ((d0, (.val (.bool (!b)))) :: F) L rest) : J P Γ ops Q F L (⟨some d0, .binOp .neq t x y t2, ty, pos, aft, none⟩ :: rest) :=
  J.pv (by apply Pv.neqAg <;> assumption) hlt k

end
end
end Go.Sse
