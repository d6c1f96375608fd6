/-
  What a law is handed, in the frame's words: readings of numbers, truths, texts, slices, structs and arrays; and the step from a contract to a given statement's step.
-/
import Derived.Test.YtjlpknligekfeaaDoorSseI
import Derived.Test.YtjlpknligekfeaaDoorRows
import Derived.OpenShut
import Derived.OpenVars
import Derived.JoinedCond
namespace Go.Proofs.YtjlpknligekfeaaDoor
open Go Go.Sse Go.ChangeShapes Go.WideShapes Go.ChangeAt Go.RowKit
set_option linter.unusedVariables false
set_option linter.unusedSimpArgs false

abbrev Z0 : Nat → Prop := fun _ => False

/-- A type's reading: of its cells, and of a value of it. -/
structure Rd (P : Program) (T : TypeId) (α : Type) where
  enc : α → List SV
  sz : Nat
  dflt : α
  good : α → Prop
  bulk : α → Nat
  cells : P.cellsOf T = sz
  len : ∀ a, (enc a).length = sz
  read : ∀ {H : Type} {en : TypeId × Value → H} {w : World} {base : Nat} {sp : Nat → Bool} {held : Bool} {fuel : Nat} {cs : List Value} {x : DataW H × List MemPlace},
    DataW.trod en P w base sp held fuel T cs = some x → ∃ a, good a ∧ bulk a ≤ Rows.uptoBulk x.1 ∧ cs.length = sz ∧ (∀ c ∈ cs, c.oneCell' = true) ∧ ∀ j, j < sz → Rel Z0 w ((enc a).getD j .any) (cs.getD j undef)

section
variable {P : Program} {T E : TypeId} {α β : Type}

def Rd.int {k : IntKind} (h : P.underlying T = some (.int k)) (hc : P.cellsOf T = 1) : Rd P T Int where
  enc n := [.val (.int k n)]
  sz := 1
  dflt := 0
  good n := (Lit.int k n).wf = true
  bulk _ := 1
  cells := hc
  len _ := rfl
  read := by
    intro H en w base sp held fuel cs x hx
    obtain ⟨n, rfl, rfl, hw⟩ := DataW.trod_int h hx
    refine ⟨n, hw, by simp [Rows.uptoBulk], rfl, by simp [Value.oneCell'], fun j hj => ?_⟩
    obtain rfl : j = 0 := by omega
    exact .val _

def Rd.bool (h : P.underlying T = some .bool) (hc : P.cellsOf T = 1) : Rd P T Bool where
  enc b := [.val (.bool b)]
  sz := 1
  dflt := false
  good _ := True
  bulk _ := 1
  cells := hc
  len _ := rfl
  read := by
    intro H en w base sp held fuel cs x hx
    obtain ⟨n, rfl, rfl⟩ := DataW.trod_bool h hx
    refine ⟨n, trivial, by simp [Rows.uptoBulk], rfl, by simp [Value.oneCell'], fun j hj => ?_⟩
    obtain rfl : j = 0 := by omega
    exact .val _

def Rd.str (h : P.underlying T = some .string) (hc : P.cellsOf T = 1) : Rd P T (List UInt8) where
  enc s := [Sse.str s]
  sz := 1
  dflt := []
  good s := s.length ≤ maxLen
  bulk s := s.length + 1
  cells := hc
  len _ := rfl
  read := by
    intro H en w base sp held fuel cs x hx
    obtain ⟨s, rfl, rfl, hw⟩ := DataW.trod_string h hx
    have hl : s.data.toList.length = s.size := Array.length_toList
    refine ⟨s.data.toList, by rw [hl]; exact hw, by simp only [Rows.uptoBulk]; exact Nat.le_refl _, rfl, by simp [Value.oneCell'], fun j hj => ?_⟩
    obtain rfl : j = 0 := by omega
    have e : Sse.str s.data.toList = .val (.string s) := rfl
    simp only [List.getD_cons_zero, e]
    exact .val _

theorem exists_list {d : α} {p : Nat → α → Prop} (n : Nat) (h : ∀ i, i < n → ∃ a, p i a) : ∃ l : List α, l.length = n ∧ ∀ i, i < n → p i (l.getD i d) := by
  induction n with
  | zero => exact ⟨[], rfl, fun i hi => by omega⟩
  | succ n ih =>
    obtain ⟨l, hl, hp⟩ := ih fun i hi => h i (by omega)
    obtain ⟨a, ha⟩ := h n (by omega)
    refine ⟨l ++ [a], by simp [hl], fun i hi => ?_⟩
    rw [List.getD_eq_getElem?_getD]
    by_cases hi' : i < n
    · rw [List.getElem?_append_left (by omega)]
      have := hp i hi'
      rwa [List.getD_eq_getElem?_getD] at this
    · obtain rfl : i = n := by omega
      rw [List.getElem?_append_right (by omega), hl, Nat.sub_self]
      exact ha

theorem bulkAll_le {H : Type} (f : α → Nat) (d : α) : ∀ (l : List α) (xs : List (DataW H)), l.length = xs.length → (∀ i, i < l.length → f (l.getD i d) ≤ Rows.uptoBulk (xs.getD i .nil)) → (l.map f).sum ≤ Rows.uptoBulkAll xs
  | [], [], _, _ => by simp
  | a :: l, x :: xs, hl, h => by
    have h0 := h 0 (by simp)
    have hr := bulkAll_le f d l xs (by simpa using hl) fun i hi => by simpa using h (i + 1) (by simpa using hi)
    simp only [List.map_cons, List.sum_cons, Rows.uptoBulkAll]
    simp only [List.getD_cons_zero] at h0
    omega

theorem getD_mem_all {p : α → Prop} {d : α} {l : List α} (h : ∀ i, i < l.length → p (l.getD i d)) : ∀ a ∈ l, p a := by
  intro a ha
  obtain ⟨i, hi, rfl⟩ := List.mem_iff_getElem.1 ha
  have := h i hi
  rwa [List.getD_eq_getElem?_getD, List.getElem?_eq_getElem hi] at this

theorem cells_addr {w : World} {base b off : Nat} {spot : Option Nat} {n : Nat} {cs : List Value} (k : Nat) (h : w.cells? base (Addr.add ⟨b, off, spot⟩ k) n = some cs) : ∀ j, j < n → w.cell? ⟨b, off + k + j, none⟩ = cs[j]? := by
  obtain ⟨_, hl, hc⟩ := World.cells?_some h
  intro j hj
  have := hc j hj
  rw [← this]
  by_cases h0 : k = 0 ∧ j = 0
  · obtain ⟨rfl, rfl⟩ := h0
    simp only [Addr.add, if_true, Nat.add_zero]
    simp only [Addr.add, if_true] at this
    have h1 : cs[0]? ≠ none := by rw [List.getElem?_eq_getElem (by omega)]; simp
    rw [← this] at h1
    unfold World.cell? at h1 ⊢
    simp only at h1 ⊢
    cases hb : w.heap[b]? with
    | none => simp [hb] at h1
    | some o =>
      rw [hb] at h1
      cases o with
      | cells c _ _ =>
        cases spot with
        | none => rfl
        | some _ => simp at h1
      | _ => exact absurd rfl h1
  · by_cases hk : k = 0
    · subst hk
      have hj0 : j ≠ 0 := fun e => h0 ⟨rfl, e⟩
      simp [Addr.add, hj0]
    · by_cases hj0 : j = 0
      · subst hj0; simp [Addr.add, hk]
      · simp [Addr.add, hk, hj0, Nat.add_assoc]

theorem spot_none {w : World} {base b off : Nat} {spot : Option Nat} {n : Nat} {cs : List Value} (hn : 0 < n) (h : w.cells? base (Addr.add ⟨b, off, spot⟩ 0) n = some cs) : spot = none := by
  obtain ⟨_, hl, hc⟩ := World.cells?_some h
  have := hc 0 hn
  simp only [Addr.add, if_true] at this
  cases spot with
  | none => rfl
  | some s =>
    exfalso
    have h1 : cs[0]? ≠ none := by rw [List.getElem?_eq_getElem (by omega)]; simp
    rw [← this] at h1
    unfold World.cell? at h1
    revert h1
    simp only [Option.isSome_some, if_true]
    split <;> simp

def Rd.slice (h : P.underlying T = some (.slice E)) (hc : P.cellsOf T = 1) (r : Rd P E α) (hs : Nat.blt 0 r.sz = true) : Rd P T (List α) where
  enc l := [.sl r.sz l.length (elOf r.enc r.dflt l)]
  sz := 1
  dflt := []
  good l := l.length ≤ maxLen ∧ ∀ a ∈ l, r.good a
  bulk l := (l.map r.bulk).sum + 1
  cells := hc
  len _ := rfl
  read := by
    intro H en w base sp held fuel cs x hx
    have hpos : 0 < r.sz := by simpa [Nat.blt_eq] using hs
    rcases DataW.trod_slice h hx with ⟨rfl, rfl⟩ | ⟨⟨b, off, spot⟩, len, cap, elems, rest, n, _, rfl, rfl, hb, hl, hm, hlen, hel, hsp, hns⟩
    · refine ⟨[], ⟨by simp, by simp⟩, by simp [Rows.uptoBulk], rfl, by simp [Value.oneCell'], fun j hj => ?_⟩
      obtain rfl : j = 0 := by omega
      exact .sl _ _ _ _ _ (fun _ => undef) (by simp) (by simp) (.inl (by simp)) (by simp) (by simp) (by simp)
    · have each : ∀ i, i < len → ∃ a, ∃ cs' x', w.cells? base (Addr.add ⟨b, off, spot⟩ (i * r.sz)) r.sz = some cs' ∧ elems[i]? = some x' ∧ r.good a ∧ r.bulk a ≤ Rows.uptoBulk x'.1 ∧ cs'.length = r.sz ∧ (∀ c ∈ cs', c.oneCell' = true) ∧ ∀ j, j < r.sz → Rel Z0 w ((r.enc a).getD j .any) (cs'.getD j undef) := by
        intro i hi
        have h1 := hel i hi
        rw [r.cells, List.getElem?_eq_getElem (by omega), Option.bind_eq_some_iff] at h1
        obtain ⟨cs', hcs, ht⟩ := h1
        obtain ⟨a, h2, h3, h4, h5, h6⟩ := r.read ht
        exact ⟨a, cs', _, hcs, List.getElem?_eq_getElem (by omega), h2, h3, h4, h5, h6⟩
      obtain ⟨l, hll, hp⟩ := exists_list (d := r.dflt) len each
      have cell : ∀ i j, i < len → j < r.sz → ∃ v, w.cell? ⟨b, off + (i * r.sz + j), none⟩ = some v ∧ v.oneCell' = true ∧ Rel Z0 w ((r.enc (l.getD i r.dflt)).getD j .any) v := by
        intro i j hi hj
        obtain ⟨cs', x', h1, _, _, _, h4, h5, h6⟩ := hp i hi
        have hj' : j < cs'.length := by omega
        refine ⟨cs'[j], ?_, h5 _ (List.getElem_mem _), ?_⟩
        · have := cells_addr (i * r.sz) h1 j hj
          rw [List.getElem?_eq_getElem hj'] at this
          rw [← Nat.add_assoc]; exact this
        · have := h6 j hj
          rwa [List.getD_eq_getElem?_getD (l := cs'), List.getElem?_eq_getElem hj'] at this
      refine ⟨l, ⟨by omega, ?_⟩, ?_, rfl, by simp [Value.oneCell'], fun j hj => ?_⟩
      · refine getD_mem_all (d := r.dflt) fun i hi => ?_
        obtain ⟨_, _, _, _, h2, _⟩ := hp i (by omega)
        exact h2
      · have := bulkAll_le r.bulk r.dflt l (elems.map (·.1)) (by simp [hll, hlen]) fun i hi => by
          obtain ⟨_, x', _, h1, _, h3, _⟩ := hp i (by omega)
          have e : (elems.map (·.1)).getD i .nil = x'.1 := by simp [List.getD_eq_getElem?_getD, h1]
          rw [e]; exact h3
        simp only [Rows.uptoBulk]; omega
      · obtain rfl : j = 0 := by omega
        simp only [List.getD_cons_zero]
        rw [hll]
        have hdec : ∀ k, k < len * r.sz → k / r.sz < len ∧ k % r.sz < r.sz ∧ k / r.sz * r.sz + k % r.sz = k := fun k hk => by
          refine ⟨Nat.div_lt_of_lt_mul (by rw [Nat.mul_comm]; exact hk), Nat.mod_lt _ hpos, ?_⟩
          rw [Nat.mul_comm]; exact Nat.div_add_mod k r.sz
        refine .sl _ _ _ _ _ (fun k => (w.cell? ⟨b, off + k, none⟩).getD undef) hl hm ?_ ?_ (fun i hi => r.len _) ?_
        · rcases Nat.eq_zero_or_pos len with h0 | h0
          · exact .inl (by simp [h0])
          · right
            obtain ⟨cs', _, h1, _⟩ := hp 0 h0
            rw [Nat.zero_mul] at h1
            refine ⟨b, off, by rw [spot_none hpos h1], fun f => f, fun k hk => ?_⟩
            obtain ⟨h2, h3, h4⟩ := hdec k hk
            obtain ⟨v, hv, _⟩ := cell _ _ h2 h3
            rw [h4] at hv
            rw [hv]; rfl
        · intro k hk
          obtain ⟨h2, h3, h4⟩ := hdec k hk
          obtain ⟨v, hv, h5, _⟩ := cell _ _ h2 h3
          rw [h4] at hv
          rw [hv]; exact h5
        · intro i j hi hj
          obtain ⟨v, hv, _, h6⟩ := cell i j hi hj
          rw [hv]; exact h6

/-- An array of members of one cell each. -/
def Rd.array {N : Nat} (h : P.underlying T = some (.array N E)) (hc : P.cellsOf T = N) (r : Rd P E α) (enc1 : α → SV) (he : ∀ a, r.enc a = [enc1 a]) (hs : r.sz = 1) : Rd P T { l : List α // l.length = N } where
  enc l := l.1.map enc1
  sz := N
  dflt := ⟨List.replicate N r.dflt, by simp⟩
  good l := ∀ a ∈ l.1, r.good a
  bulk l := (l.1.map r.bulk).sum
  cells := hc
  len l := by rw [List.length_map, l.2]
  read := by
    intro H en w base sp held fuel cs x hx
    obtain ⟨xs, m, _, rfl, hlen, hxl, hel⟩ := DataW.trod_array h hx
    have hce : P.cellsOf E = 1 := by rw [r.cells, hs]
    have each : ∀ i, i < N → ∃ a, ∃ x', xs[i]? = some x' ∧ r.good a ∧ r.bulk a ≤ Rows.uptoBulk x'.1 ∧ ∃ c, cs[i]? = some c ∧ c.oneCell' = true ∧ Rel Z0 w (enc1 a) c := by
      intro i hi
      have h1 := hel i hi
      rw [hce, Nat.mul_one, List.getElem?_eq_getElem (by omega)] at h1
      obtain ⟨a, h2, h3, h4, h5, h6⟩ := r.read h1
      have hic : i < cs.length := by rw [hlen, hc]; exact hi
      have hch : (cs.drop i).take 1 = [cs[i]] := by rw [List.drop_eq_getElem_cons hic]; rfl
      have h7 := h6 0 (by omega)
      rw [he, hch] at h7
      rw [hch] at h5
      exact ⟨a, _, List.getElem?_eq_getElem (by omega), h2, h3, cs[i], List.getElem?_eq_getElem hic, h5 _ (by simp), by simpa using h7⟩
    obtain ⟨l, hll, hp⟩ := exists_list (d := r.dflt) N each
    refine ⟨⟨l, hll⟩, ?_, ?_, by rw [hlen, hc], ?_, fun j hj => ?_⟩
    · refine getD_mem_all (d := r.dflt) fun i hi => ?_
      obtain ⟨_, _, h2, _⟩ := hp i (by simp only at hi; omega)
      exact h2
    · have := bulkAll_le r.bulk r.dflt l (xs.map (·.1)) (by simp [hll, hxl]) fun i hi => by
        obtain ⟨x', h1, _, h3, _⟩ := hp i (by omega)
        have e : (xs.map (·.1)).getD i .nil = x'.1 := by simp [List.getD_eq_getElem?_getD, h1]
        rw [e]; exact h3
      simp only [Rows.uptoBulk]; omega
    · intro c hcm
      obtain ⟨j, hj⟩ := List.mem_iff_getElem?.1 hcm
      have hjl : j < N := by
        have := (List.getElem?_eq_some_iff.1 hj).1
        rw [hlen, hc] at this; exact this
      obtain ⟨_, _, _, _, c', h5, h6, _⟩ := hp j hjl
      rw [hj] at h5; cases h5
      exact h6
    · obtain ⟨_, _, _, _, c', h5, _, h7⟩ := hp j hj
      have hjl : j < l.length := by omega
      simp only [List.getD_eq_getElem?_getD, List.getElem?_map, List.getElem?_eq_getElem hjl, Option.map_some, Option.getD_some, h5]
      rw [List.getD_eq_getElem?_getD, List.getElem?_eq_getElem hjl] at h7
      exact h7

/-- A reading told in other words. -/
def Rd.as (r : Rd P T α) (g : α → β) (d : β) (enc' : β → List SV) (good' : β → Prop) (bulk' : β → Nat) (he : ∀ a, enc' (g a) = r.enc a) (hl : ∀ b, (enc' b).length = r.sz) (hg : ∀ a, r.good a → good' (g a)) (hb : ∀ a, bulk' (g a) = r.bulk a) : Rd P T β where
  enc := enc'
  sz := r.sz
  dflt := d
  good := good'
  bulk := bulk'
  cells := r.cells
  len := hl
  read := by
    intro H en w base sp held fuel cs x hx
    obtain ⟨a, h1, h2, h3, h4, h5⟩ := r.read hx
    exact ⟨g a, hg a h1, by rw [hb]; exact h2, h3, h4, fun j hj => by rw [he]; exact h5 j hj⟩

/-- A struct's members, from an offset on. -/
structure Fds (P : Program) (off : Nat) (tos : List (TypeId × Nat)) (α : Type) where
  enc : α → List SV
  sz : Nat
  dflt : α
  good : α → Prop
  bulk : α → Nat
  len : ∀ a, (enc a).length = sz
  read : ∀ {H : Type} {en : TypeId × Value → H} {w : World} {base : Nat} {sp : Nat → Bool} {held : Bool} {fuel : Nat} {cs : List Value} {xs : List (DataW H × List MemPlace)}, xs.length = tos.length → off + sz = cs.length →
    (∀ (i : Nat) (f : TypeId × Nat), tos[i]? = some f → DataW.trod en P w base sp held fuel f.1 ((cs.drop f.2).take (P.cellsOf f.1)) = (xs[i]? : Option (DataW H × List MemPlace))) → ∃ a, good a ∧ bulk a ≤ Rows.uptoBulkAll (xs.map (·.1)) ∧
    ∀ j, j < sz → (cs.getD (off + j) undef).oneCell' = true ∧ Rel Z0 w ((enc a).getD j .any) (cs.getD (off + j) undef)

def Fds.nil {off : Nat} : Fds P off [] Unit where
  enc _ := []
  sz := 0
  dflt := ()
  good _ := True
  bulk _ := 0
  len _ := rfl
  read := by
    intro H en w base sp held fuel cs xs hl hs h
    exact ⟨(), trivial, by simp, fun j hj => by omega⟩

def Fds.cons {off : Nat} {t : TypeId} {tos : List (TypeId × Nat)} (r : Rd P t α) (k : Fds P (off + r.sz) tos β) : Fds P off ((t, off) :: tos) (α × β) where
  enc x := r.enc x.1 ++ k.enc x.2
  sz := r.sz + k.sz
  dflt := (r.dflt, k.dflt)
  good x := r.good x.1 ∧ k.good x.2
  bulk x := r.bulk x.1 + k.bulk x.2
  len x := by rw [List.length_append, r.len, k.len]
  read := by
    intro H en w base sp held fuel cs xs hl hs h
    cases xs with
    | nil => simp at hl
    | cons x xs =>
      have h0 := h 0 (t, off) rfl
      simp only [List.getElem?_cons_zero] at h0
      obtain ⟨a, h1, h2, h3, h4, h5⟩ := r.read h0
      obtain ⟨b, g1, g2, g3⟩ := k.read (w := w) (cs := cs) (by simpa using hl) (by omega) fun i f hf => by simpa using h (i + 1) f (by simpa using hf)
      refine ⟨(a, b), ⟨h1, g1⟩, by simp only [List.map_cons, Rows.uptoBulkAll]; omega, fun j hj => ?_⟩
      rw [List.getD_eq_getElem?_getD (l := r.enc a ++ k.enc b)]
      by_cases hj' : j < r.sz
      · rw [List.getElem?_append_left (by rw [r.len]; exact hj')]
        have e : (List.take (P.cellsOf t) (List.drop off cs)).getD j undef = cs.getD (off + j) undef := by
          rw [r.cells]
          simp only [List.getD_eq_getElem?_getD, List.getElem?_take, List.getElem?_drop, hj', if_true]
        have h5' := h5 j hj'
        simp only [e] at h5'
        refine ⟨?_, by rw [← List.getD_eq_getElem?_getD]; exact h5'⟩
        have hlt : off + j < cs.length := by omega
        rw [← e]
        have hm := h4 ((List.take (P.cellsOf t) (List.drop off cs)).getD j undef)
        apply hm
        rw [List.getD_eq_getElem?_getD, List.getElem?_eq_getElem (by simp only [h3]; exact hj')]
        exact List.getElem_mem _
      · rw [List.getElem?_append_right (by rw [r.len]; omega), r.len, ← List.getD_eq_getElem?_getD]
        have := g3 (j - r.sz) (by omega)
        rw [show off + r.sz + (j - r.sz) = off + j by omega] at this
        exact this

def fieldsAt (P : Program) (T : TypeId) : Option (List (TypeId × Nat)) := match P.underlying T with
  | some (.struct fs) => some (fs.toList.map fun f => (f.type, f.offset))
  | _ => none

theorem fieldsAt_spec {tos : List (TypeId × Nat)} (h : fieldsAt P T = some tos) : ∃ fs : Array Field, P.underlying T = some (.struct fs) ∧ tos = fs.toList.map fun f => (f.type, f.offset) := by
  unfold fieldsAt at h
  split at h
  · rename_i fs hu
    exact ⟨fs, hu, (Option.some.inj h).symm⟩
  · cases h

def Rd.struct {tos : List (TypeId × Nat)} (h : fieldsAt P T = some tos) (k : Fds P 0 tos α) (hc : P.cellsOf T = k.sz) : Rd P T α where
  enc := k.enc
  sz := k.sz
  dflt := k.dflt
  good := k.good
  bulk a := k.bulk a + 1
  cells := hc
  len := k.len
  read := by
    intro H en w base sp held fuel cs x hx
    obtain ⟨fs, hu, rfl⟩ := fieldsAt_spec h
    obtain ⟨xs, n, rfl, rfl, hl, hxl, hf⟩ := DataW.trod_struct hu hx
    rw [hc] at hl
    obtain ⟨a, h1, h2, h3⟩ := k.read (w := w) (cs := cs) (xs := xs) (by simp [hxl]) (by omega) fun i f hi => by
      rw [List.getElem?_map, Option.map_eq_some_iff] at hi
      obtain ⟨f', hf', rfl⟩ := hi
      exact hf i f' (by simpa using hf')
    refine ⟨a, h1, by simp only [Rows.uptoBulk]; omega, hl, ?_, fun j hj => by have := (h3 j hj).2; rwa [Nat.zero_add] at this⟩
    intro c hcm
    obtain ⟨i, hi, rfl⟩ := List.mem_iff_getElem.1 hcm
    have := (h3 i (by omega)).1
    rwa [Nat.zero_add, List.getD_eq_getElem?_getD, List.getElem?_eq_getElem hi] at this

/-- A law's arguments. -/
structure Rds (P : Program) (ts : List TypeId) (α : Type) where
  svs : α → List SV
  good : α → Prop
  bulk : α → Nat
  len : ∀ a, (svs a).length = ts.length
  read : ∀ {H : Type} {en : TypeId × Value → H} {w : World} {base : Nat} {sp : Nat → Bool} {held : Bool} {vs : List Value} {ds : List (DataW H)} {ps : List MemPlace}, (∀ (j : Nat) t v, ts[j]? = some t → vs[j]? = some v → ∃ b, Value.okWide P w .any b t v) →
    DataW.TrodAll en P w base sp held ts vs ds ps → ∃ a, good a ∧ bulk a ≤ Rows.uptoBulkAll ds ∧ vs.length = ts.length ∧ ∀ j, j < ts.length → Rel Z0 w ((svs a).getD j .any) (vs.getD j undef)

def Rds.nil : Rds P [] Unit where
  svs _ := []
  good _ := True
  bulk _ := 0
  len _ := rfl
  read := by
    intro H en w base sp held vs ds ps hv h
    obtain ⟨rfl, rfl, rfl⟩ := trodAll_nil h
    exact ⟨(), trivial, by simp, rfl, fun j hj => by simp at hj⟩

def isAgg (P : Program) (T : TypeId) : Bool := match P.underlying T with
  | some (.struct _) | some (.array ..) => true
  | _ => false

theorem agg_of (h : isAgg P T = true) {w : World} {b : Nat} {v : Value} (hv : Value.okWide P w .any b T v) : ∃ cs, v = .agg cs := by
  unfold isAgg at h
  unfold Value.okWide at hv
  split at h
  · rename_i hu; rw [hu] at hv; exact ⟨_, hv.choose_spec.1⟩
  · rename_i hu; rw [hu] at hv; exact ⟨_, hv.choose_spec.1⟩
  · cases h

theorem cell_of (h : isAgg P T = false) {w : World} {b : Nat} {v : Value} (hv : Value.okWide P w .any b T v) : v.cells = #[v] := by
  cases v with
  | agg cs =>
    exfalso
    unfold isAgg at h
    unfold Value.okWide at hv
    cases hu : P.underlying T with
    | none => rw [hu] at hv; simp [Cell.okWide, Cell.ok, hu] at hv
    | some d => cases d <;> simp [hu, Cell.okWide, Cell.ok] at hv h
  | _ => rfl

/-- One argument more: a value of one cell. -/
def Rds.cons {ts : List TypeId} (r : Rd P T α) (h1 : r.sz = 1) (hagg : isAgg P T = false) (k : Rds P ts β) : Rds P (T :: ts) (α × β) where
  svs x := (r.enc x.1).getD 0 .any :: k.svs x.2
  good x := r.good x.1 ∧ k.good x.2
  bulk x := r.bulk x.1 + k.bulk x.2
  len x := by simp [k.len]
  read := by
    intro H en w base sp held vs ds ps hv h
    obtain ⟨v, vs, d, ds, p, q, rfl, rfl, rfl, ht, hr⟩ := trodAll_cons h
    obtain ⟨fuel, hf⟩ := ht
    obtain ⟨b, hb⟩ := hv 0 T v rfl rfl
    rw [cell_of hagg hb] at hf
    obtain ⟨a, g1, g2, g3, g4, g5⟩ := r.read hf
    obtain ⟨c, f1, f2, f3, f4⟩ := k.read (fun j t v hj hv' => hv (j + 1) t v (by simpa using hj) (by simpa using hv')) hr
    refine ⟨(a, c), ⟨g1, f1⟩, by simp only [Rows.uptoBulkAll]; exact Nat.add_le_add g2 f2, by simp [f3], fun j hj => ?_⟩
    cases j with
    | zero => exact g5 0 (by omega)
    | succ j => simpa using f4 j (by simpa using hj)

/-- One argument more: a struct, an array. -/
def Rds.consAgg {ts : List TypeId} (r : Rd P T α) (hagg : isAgg P T = true) (k : Rds P ts β) : Rds P (T :: ts) (α × β) where
  svs x := .agg (r.enc x.1) :: k.svs x.2
  good x := r.good x.1 ∧ k.good x.2
  bulk x := r.bulk x.1 + k.bulk x.2
  len x := by simp [k.len]
  read := by
    intro H en w base sp held vs ds ps hv h
    obtain ⟨v, vs, d, ds, p, q, rfl, rfl, rfl, ht, hr⟩ := trodAll_cons h
    obtain ⟨fuel, hf⟩ := ht
    obtain ⟨b, hb⟩ := hv 0 T v rfl rfl
    obtain ⟨cs, rfl⟩ := agg_of hagg hb
    simp only [Value.cells] at hf
    obtain ⟨a, g1, g2, g3, g4, g5⟩ := r.read hf
    obtain ⟨c, f1, f2, f3, f4⟩ := k.read (fun j t v hj hv' => hv (j + 1) t v (by simpa using hj) (by simpa using hv')) hr
    refine ⟨(a, c), ⟨g1, f1⟩, by simp only [Rows.uptoBulkAll]; exact Nat.add_le_add g2 f2, by simp [f3], fun j hj => ?_⟩
    cases j with
    | zero => exact .agg _ cs.toList (by rw [g3, r.len]) g4 fun j hj => g5 j (by rwa [r.len] at hj)
    | succ j => simpa using f4 j (by simpa using hj)
end

theorem grown_of {W W' : World} (hb : Below W.heap.size W W') : (∀ may, W.keptBut W' may) ∧ ∀ a : Addr, a.block < W.heap.size → W'.frozen? a = W.frozen? a := by
  refine ⟨fun may => ⟨hb.os, hb.output, fun i hi => ?_⟩, fun a ha => ?_⟩
  · rw [hb.block i hi]
    split
    · rename_i h1 h2
      rw [h1] at h2; cases h2
      exact ⟨rfl, rfl, rfl, fun _ _ => rfl⟩
    · rename_i h1 h2
      rw [h1] at h2; cases h2
      exact .inr ⟨rfl, rfl⟩
    · rfl
  · unfold World.frozen?
    rw [hb.block a.block ha]

theorem post_same {H : Type} {enc : TypeId × Value → H} {P : Program} {f : Func} {s : ChangeSpec} {apart fresh handsOn again : Bool} {W W' : World} {args : Array Value} {v : Value} {ds gs : List (DataW H)} {before pa pv : List MemPlace}
    (hW : DataW.Whole enc P f.params.toList s.vars apart W args.toList ds gs before)
    (hres : ∀ (b : Nat) (sp : Nat → Bool) (hd : Bool), DataW.TrodAll enc P W' b sp hd f.resultTypes.toList (v.resultList f.resultTypes.size) (s.fn H (ds ++ gs)).results [])
    (hargs : ∀ sp : Nat → Bool, (∀ p ∈ before, sp p.block = true) → DataW.TrodAll enc P W' 0 sp true f.params.toList args.toList (s.fn H (ds ++ gs)).args pa)
    (hvars : ∀ sp : Nat → Bool, (∀ p ∈ before, sp p.block = true) → DataW.TrodVars enc P W' sp s.vars (s.fn H (ds ++ gs)).vars pv)
    (hps : before = pa ++ pv) (hb : Below W.heap.size W W')
    (hok : ∀ (j : Nat) (t : TypeId) (r : Value), f.resultTypes[j]? = some t → (v.resultList f.resultTypes.size)[j]? = some r → Value.okWide P W' .any 0 t r) :
    s.post enc P f apart fresh handsOn again W args v W' := by
  obtain ⟨hk, hfz⟩ := grown_of hb
  have hlt := hW.lt
  have hold : ∀ p ∈ before, (fun b => decide (b < W.heap.size)) p.block = true := fun p hp => by simpa using hlt p hp
  refine ⟨ds, gs, before, [], pa, pv, hW, hres _ _ _, hargs _ hold, hvars _ hold, World.keptBut_mono (fun p hp => ⟨hp, ?_⟩) (hk (· ∈ before)), fun _ => ?_⟩
  · rw [hps, List.mem_append] at hp
    exact Or.inr hp
  · obtain ⟨_, _, _, _, _, hz, hn⟩ := hW
    refine ⟨hok, _, _, ([] ++ pa) ++ pv, ⟨[] ++ pa, pv, trodAll_append (hargs _ (fun _ _ => rfl)) (hres _ _ _), hvars _ (fun _ _ => rfl), rfl, ?_, ?_⟩, ?_⟩
    · intro b off hp
      have hp' : MemPlace.cell b off ∈ before := by rw [hps]; simpa using hp
      rw [hfz _ (hlt _ hp')]
      exact hz b off hp'
    · intro ha
      have := hn ha
      rw [hps] at this
      simpa using this
    · intro p hp _
      rw [hps]
      simpa using hp

/-- All arguments read as they did. -/
theorem stays_all {H : Type} {en : TypeId × Value → H} {P : Program} (hl : laidOutB P = true) {W W' : World} (hb : Below W.heap.size W W') {sp : Nat → Bool} :
    ∀ {ts : List TypeId} {vs : List Value} {ds : List (DataW H)} {ps : List MemPlace}, ts.all (fun t => P.readableRec t && decide (t < P.types.size)) = true → DataW.TrodAll en P W 0 (fun _ => true) true ts vs ds ps → (∀ x ∈ ps, x.block < W.heap.size) → (∀ x ∈ ps, sp x.block = true) →
    DataW.TrodAll en P W' 0 sp true ts vs ds ps
  | [], _, _, _, _, h, _, _ => by
    obtain ⟨rfl, rfl, rfl⟩ := trodAll_nil h
    exact trodAll_mk0
  | t :: ts, _, _, _, hr, h, hlt, hsp => by
    obtain ⟨v, vs, d, ds, p, q, rfl, rfl, rfl, h0, h1⟩ := trodAll_cons h
    simp only [List.all_cons, Bool.and_eq_true, decide_eq_true_eq] at hr
    exact trodAll_cons_mk (WideElems.Trod_stays hl hr.1.1 hr.1.2 h0 (fun x hx => hb.same (hlt x (by simp [hx]))) (fun x hx => hsp x (by simp [hx])))
      (stays_all hl hb (by simpa using hr.2) h1 (fun x hx => hlt x (by simp [hx])) (fun x hx => hsp x (by simp [hx])))

/-- From a function's contract to a law's step: whatever the input, true; the input reads as it did. -/
theorem calls_of {H : Type} {en : TypeId × Value → H} {P : Program} [Gl P] {f : Nat} {fn : Func} {ts : List TypeId} {α : Type} (rds : Rds P ts α) {s : ChangeSpec} {tb : TypeId} {apart fresh handsOn again : Bool} (hs : s.vars = []) (hp : fn.params.toList = ts) (hres : fn.resultTypes = #[tb])
    (htb : P.underlying tb = some .bool) (hl : laidOutB P = true) (hread : ts.all (fun t => P.readableRec t && decide (t < P.types.size)) = true)
    (hfn : ∀ ds : List (DataW H), ds.length = ts.length → (s.fn H ds).results = [.lit (.bool true)] ∧ (s.fn H ds).args = ds ∧ (s.fn H ds).vars = [])
    {W : World} {base : Nat} {args : Array Value} {ds gs : List (DataW H)} {before : List MemPlace}
    (hval : ∀ (j : Nat) t v, fn.params[j]? = some t → args[j]? = some v → Value.okWide P W .any base t v)
    (hW : DataW.Whole en P fn.params.toList s.vars apart W args.toList ds gs before)
    (hgl : ∀ x ∈ Gl.gl P, x.1 < W.heap.size ∧ ∀ i v, x.2[i]? = some v → W.cell? ⟨x.1, i, none⟩ = some v)
    (hC : ∀ a, rds.good a → rds.bulk a ≤ Rows.uptoBulkAll ds → ∃ R : SV → List Own → Prop, FnC P f (rds.svs a) [] R ∧ ∀ s L, R s L → s = Sse.bool true) :
    Calls P f args W fun e W' => ∃ v, e = .returned v ∧ s.post en P fn apart fresh handsOn again W args v W' := by
  have hW' := hW
  have hlt0 := hW.lt
  obtain ⟨p, q, hA, hV, rfl, hfz, hnd⟩ := hW
  rw [hs] at hV
  obtain ⟨rfl, rfl⟩ := trodVars_none hV
  rw [hp] at hA
  obtain ⟨a, ha, hb, hlen, hrel⟩ := rds.read (fun j t v hj hv => ⟨base, hval j t v (by rw [← hp] at hj; simpa using hj) (by simpa using hv)⟩) hA
  obtain ⟨R, hF, hR⟩ := hC a ha hb
  have hlen' : ds.length = ts.length := by
    have : ∀ {ts : List TypeId} {vs : List Value} {ds : List (DataW H)} {p : List MemPlace}, DataW.TrodAll en P W 0 (fun _ => true) true ts vs ds p → ds.length = ts.length := by
      intro ts
      induction ts with
      | nil => intro vs ds p h; obtain ⟨_, rfl, _⟩ := trodAll_nil h; rfl
      | cons t ts ih => intro vs ds p h; obtain ⟨_, _, _, _, _, _, rfl, rfl, rfl, _, h1⟩ := trodAll_cons h; simp [ih h1]
    exact this hA
  have := hF.go Z0 W args.toList (by rw [hlen, rds.len]) (fun j hj => (hrel j (by rwa [rds.len] at hj)).stable fun b _ _ => ⟨rfl, by simp [ZL, Z0, inF, foots]⟩) (by simp [Z0]) (by simp [foots]) (by simp [inF, foots]) (by simp) (fun x hx => ⟨(hgl x hx).1, by simp [inF, foots], (hgl x hx).2⟩)
  simp only [Array.toArray_toList] at this
  refine this.mono fun e W' ⟨v, sv, L', he, hr, hrv, hw⟩ => ?_
  subst he
  obtain rfl := hR _ _ hr
  obtain rfl : v = .bool true := hrv.val_eq
  have hbel : Below W.heap.size W W' := ⟨hw.os, hw.tape, hw.output, hw.size, fun k hk => hw.keep k hk (by simp [inF, foots])⟩
  obtain ⟨e1, e2, e3⟩ := hfn (ds ++ []) (by simpa using hlen')
  simp only [List.append_nil] at hlt0 hW'
  refine ⟨_, rfl, post_same (pa := p) (pv := []) hW' (fun b sp hd => ?_) (fun sp hsp => ?_) (fun _ _ => ?_) (by simp) hbel (ok_one hres rfl (okWide_bool_mk htb _))⟩
  · rw [e1, hres]; exact trodAll_cons_mk (shut_bool htb _) trodAll_mk0
  · rw [e2, List.append_nil, hp]; exact stays_all hl hbel hread hA hlt0 hsp
  · rw [e3, hs]; rfl
end Go.Proofs.YtjlpknligekfeaaDoor
