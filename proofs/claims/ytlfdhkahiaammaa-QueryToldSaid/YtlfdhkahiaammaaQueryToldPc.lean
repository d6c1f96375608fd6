/-
  Lemmas for the claim, part 3.
-/
import Derived.Test.YtlfdhkahiaammaaQueryToldPb
namespace Go.Proofs.Ytlfdhkahiaammaa
open Go Go.Sse
set_option linter.unusedVariables false
set_option linter.unusedSimpArgs false
set_option maxRecDepth 10000
theorem numB_ap {a b : Nat} {r q : List UInt8} (ha : a < 9223372036854775808) (hb : b < 9223372036854775808) (h : numB a ++ r = numB b ++ q) : a = b ∧ r = q := by
  have := numP_back a ha r
  rw [h, numP_back b hb q] at this
  simp only [Prod.mk.injEq, Option.some.injEq] at this
  exact ⟨this.1.symm, this.2.symm⟩
theorem textB_ap {a b : List UInt8} {r q : List UInt8} (ha : a.length < 9223372036854775808) (hb : b.length < 9223372036854775808) (h : textB a ++ r = textB b ++ q) : a = b ∧ r = q := by
  have := textP_back (m := 9223372036854775808) a r (by omega) ha
  rw [h, textP_back b q (by omega) hb] at this
  simp only [Prod.mk.injEq, Option.some.injEq] at this
  exact ⟨this.1.symm, this.2.symm⟩
theorem mbs_inj : ∀ {a b : List Mb}, a.length = b.length → (∀ m ∈ a, m.name.length ≤ 6 ∧ 1 ≤ m.power ∧ m.power ≤ 1000) → (∀ m ∈ b, m.name.length ≤ 6 ∧ 1 ≤ m.power ∧ m.power ≤ 1000) → flT mbB a = flT mbB b → a = b
  | [], [], _, _, _, _ => rfl
  | [], _ :: _, h, _, _, _ => by simp at h
  | _ :: _, [], h, _, _, _ => by simp at h
  | x :: a, y :: b, h, ha, hb, he => by
    rw [flT_cons, flT_cons, mbB, mbB, List.append_assoc, List.append_assoc] at he
    obtain ⟨p1, p2, p3⟩ := ha x (List.mem_cons_self ..)
    obtain ⟨q1, q2, q3⟩ := hb y (List.mem_cons_self ..)
    obtain ⟨e1, he⟩ := textB_ap (by omega) (by omega) he
    obtain ⟨e2, he⟩ := numB_ap (by omega) (by omega) he
    have := mbs_inj (by simpa using h) (fun m hm => ha m (List.mem_cons_of_mem _ hm)) (fun m hm => hb m (List.mem_cons_of_mem _ hm)) he
    have hxy : x = y := by
      cases x; cases y
      simp only at e1 e2 p2 q2
      simp only [Mb.mk.injEq]
      exact ⟨e1, by omega⟩
    rw [this, hxy]
theorem encSet_inj {a b : List Mb} (ha : fineSet a = true) (hb : fineSet b = true) (h : encSet a = encSet b) : a = b := by
  obtain ⟨p1, p2, p3⟩ := fineSet_spec ha
  obtain ⟨q1, q2, q3⟩ := fineSet_spec hb
  obtain ⟨e1, e2⟩ := numB_ap (by omega) (by omega) h
  exact mbs_inj e1 p3 q3 e2
structure Tx where
  kind : Int
  from_ : List UInt8
  seq : Int
  to_ : List UInt8
  amount : Int
  key : List UInt8
  value : List UInt8
  members : List Mb
theorem Tx.ext' {x y : Tx} (h1 : x.kind = y.kind) (h2 : x.from_ = y.from_) (h3 : x.seq = y.seq) (h4 : x.to_ = y.to_) (h5 : x.amount = y.amount) (h6 : x.key = y.key) (h7 : x.value = y.value) (h8 : x.members = y.members) : x = y := by
  cases x; cases y; simp_all
instance : DecidableEq Tx := fun x y => decidable_of_iff ((((((((x.kind = y.kind ∧ x.from_ = y.from_) ∧ x.seq = y.seq) ∧ x.to_ = y.to_) ∧ x.amount = y.amount) ∧ x.key = y.key) ∧ x.value = y.value)) ∧ x.members = y.members) ⟨fun h => by cases x; cases y; simp_all, fun h => by subst h; simp⟩
def nameB (s : List UInt8) : Bool := decide (s ≠ []) && decide ((s.length : Int) ≤ 6)
def noneTA (x : Tx) : Bool := decide (x.to_ = []) && decide (x.amount = 0)
def noneKV (x : Tx) : Bool := decide (x.key = []) && decide (x.value = [])
def noneM (x : Tx) : Bool := decide ((x.members.length : Int) = 0)
def bareTx (x : Tx) : Bool := if x.kind = 1 then noneKV x && noneM x else if x.kind = 2 then noneTA x && noneM x else if x.kind = 3 then (noneTA x && noneM x) && decide (x.value = []) else if x.kind = 4 then noneTA x && noneKV x else false
def badTx (x : Tx) : Bool := ((!bareTx x || !nameB x.from_) || decide (x.seq < 0)) || decide (1099511627776 < x.seq)
def keyB (b : Bool) (x : Tx) : Bool := (b && decide (x.key ≠ [])) && decide ((x.key.length : Int) ≤ 6)
def valB' (x : Tx) : Bool := decide (x.value ≠ []) && decide ((x.value.length : Int) ≤ 32)
def moveB (x : Tx) : Bool := (nameB x.to_ && decide (1 ≤ x.amount)) && decide (x.amount ≤ 1099511627776)
def kindTx (x : Tx) : Bool := if x.kind = 1 then moveB x else if x.kind = 2 then keyB (valB' x) x else if x.kind = 3 then keyB true x else fineSet x.members
def fineTx (x : Tx) : Bool := !badTx x && kindTx x
def bodyTx (x : Tx) : List UInt8 := if x.kind = 1 then textB x.to_ ++ numB x.amount.toNat else if x.kind = 2 then textB x.key ++ textB x.value else if x.kind = 3 then textB x.key else textB (encSet x.members)
def encTx (x : Tx) : List UInt8 := [UInt8.ofNat x.kind.toNat] ++ textB x.from_ ++ numB x.seq.toNat ++ bodyTx x
structure FineT (x : Tx) : Prop where
  kind : 1 ≤ x.kind ∧ x.kind ≤ 4
  from1 : x.from_ ≠ []
  from6 : x.from_.length ≤ 6
  seq0 : 0 ≤ x.seq
  seqM : x.seq ≤ 1099511627776
  k1 : x.kind = 1 → (x.to_ ≠ [] ∧ x.to_.length ≤ 6 ∧ 1 ≤ x.amount ∧ x.amount ≤ 1099511627776) ∧ x.key = [] ∧ x.value = [] ∧ x.members = []
  k2 : x.kind = 2 → (x.value ≠ [] ∧ x.value.length ≤ 32 ∧ x.key ≠ [] ∧ x.key.length ≤ 6) ∧ x.to_ = [] ∧ x.amount = 0 ∧ x.members = []
  k3 : x.kind = 3 → (x.key ≠ [] ∧ x.key.length ≤ 6) ∧ x.value = [] ∧ x.to_ = [] ∧ x.amount = 0 ∧ x.members = []
  k4 : x.kind = 4 → fineSet x.members = true ∧ x.to_ = [] ∧ x.amount = 0 ∧ x.key = [] ∧ x.value = []
theorem len0 {α : Type} {l : List α} (h : (l.length : Int) = 0) : l = [] := List.eq_nil_of_length_eq_zero (by omega)
theorem fineTx_iff (x : Tx) : fineTx x = true ↔ FineT x := by
  constructor
  · intro h
    simp only [fineTx, badTx, Bool.and_eq_true, Bool.not_eq_true', Bool.or_eq_false_iff, Bool.not_eq_false', decide_eq_false_iff_not, nameB, decide_eq_true_eq] at h
    obtain ⟨⟨⟨⟨hb, hn1, hn2⟩, hs1⟩, hs2⟩, hk⟩ := h
    by_cases e1 : x.kind = 1
    · simp only [bareTx, if_pos e1, noneKV, noneM, Bool.and_eq_true, decide_eq_true_eq] at hb
      simp only [kindTx, if_pos e1, moveB, nameB, Bool.and_eq_true, decide_eq_true_eq] at hk
      exact ⟨by omega, hn1, by omega, by omega, by omega, fun _ => ⟨⟨hk.1.1.1, by omega, by omega, by omega⟩, hb.1.1, hb.1.2, len0 hb.2⟩, fun h => by omega, fun h => by omega, fun h => by omega⟩
    · by_cases e2 : x.kind = 2
      · simp only [bareTx, if_neg e1, if_pos e2, noneTA, noneM, Bool.and_eq_true, decide_eq_true_eq] at hb
        simp only [kindTx, if_neg e1, if_pos e2, keyB, valB', Bool.and_eq_true, decide_eq_true_eq] at hk
        exact ⟨by omega, hn1, by omega, by omega, by omega, fun h => by omega, fun _ => ⟨⟨hk.1.1.1, by omega, hk.1.2, by omega⟩, hb.1.1, hb.1.2, len0 hb.2⟩, fun h => by omega, fun h => by omega⟩
      · by_cases e3 : x.kind = 3
        · simp only [bareTx, if_neg e1, if_neg e2, if_pos e3, noneTA, noneM, Bool.and_eq_true, decide_eq_true_eq] at hb
          simp only [kindTx, if_neg e1, if_neg e2, if_pos e3, keyB, Bool.and_eq_true, decide_eq_true_eq] at hk
          exact ⟨by omega, hn1, by omega, by omega, by omega, fun h => by omega, fun h => by omega, fun _ => ⟨⟨hk.1.2, by omega⟩, hb.2, hb.1.1.1, hb.1.1.2, len0 hb.1.2⟩, fun h => by omega⟩
        · by_cases e4 : x.kind = 4
          · simp only [bareTx, if_neg e1, if_neg e2, if_neg e3, if_pos e4, noneTA, noneKV, Bool.and_eq_true, decide_eq_true_eq] at hb
            simp only [kindTx, if_neg e1, if_neg e2, if_neg e3] at hk
            exact ⟨by omega, hn1, by omega, by omega, by omega, fun h => by omega, fun h => by omega, fun h => by omega, fun _ => ⟨hk, hb.1.1, hb.1.2, hb.2.1, hb.2.2⟩⟩
          · simp only [bareTx, if_neg e1, if_neg e2, if_neg e3, if_neg e4] at hb
            cases hb
  · intro h
    have hk := h.kind
    have f1 := h.from1; have f2 := h.from6; have f3 := h.seq0; have f4 := h.seqM
    simp only [fineTx, badTx, Bool.and_eq_true, Bool.not_eq_true', Bool.or_eq_false_iff, Bool.not_eq_false', decide_eq_false_iff_not, nameB, decide_eq_true_eq]
    have hh : bareTx x = true ∧ kindTx x = true := by
      by_cases e1 : x.kind = 1
      · obtain ⟨⟨a1, a2, a3, a4⟩, b1, b2, b3⟩ := h.k1 e1
        simp only [bareTx, kindTx, if_pos e1, noneKV, noneM, moveB, nameB, Bool.and_eq_true, decide_eq_true_eq, b1, b2, b3]
        exact ⟨⟨by simp, by simp⟩, ⟨⟨a1, by omega⟩, a3⟩, a4⟩
      · by_cases e2 : x.kind = 2
        · obtain ⟨⟨a1, a2, a3, a4⟩, b1, b2, b3⟩ := h.k2 e2
          simp only [bareTx, kindTx, if_neg e1, if_pos e2, noneTA, noneM, keyB, valB', Bool.and_eq_true, decide_eq_true_eq, b1, b2, b3]
          exact ⟨⟨by simp, by simp⟩, ⟨⟨a1, by omega⟩, a3⟩, by omega⟩
        · by_cases e3 : x.kind = 3
          · obtain ⟨⟨a1, a2⟩, b1, b2, b3, b4⟩ := h.k3 e3
            simp only [bareTx, kindTx, if_neg e1, if_neg e2, if_pos e3, noneTA, noneM, keyB, Bool.and_eq_true, decide_eq_true_eq, b1, b2, b3, b4]
            exact ⟨⟨by simp, trivial⟩, ⟨trivial, a1⟩, by omega⟩
          · have e4 : x.kind = 4 := by omega
            obtain ⟨a1, b1, b2, b3, b4⟩ := h.k4 e4
            simp only [bareTx, kindTx, if_neg e1, if_neg e2, if_neg e3, if_pos e4, noneTA, noneKV, Bool.and_eq_true, decide_eq_true_eq, b1, b2, b3, b4, a1]
            simp
    exact ⟨⟨⟨⟨hh.1, f1, by omega⟩, by omega⟩, by omega⟩, hh.2⟩
theorem textB_len {s : List UInt8} {k : Nat} (h : s.length ≤ k) (hk : k ≤ 1099511627776) : (textB s).length ≤ k + 9 := by
  have := (numB_len (n := s.length) (by omega)).2
  rw [textB, List.length_append]; omega
theorem numB9 {n : Int} (h : n ≤ 1099511627776) : (numB n.toNat).length ≤ 9 := (numB_len (n := n.toNat) (by omega)).2
def TailR (m1 m2 m3 m4 : Int) (x : Tx) (st st' : PSt) : Prop :=
  if x.kind = 1 then (∃ (st1 : PSt) (n : Nat), textP m1 st = (x.to_, st1) ∧ numP st1 = (n, st') ∧ x.amount = (n : Int)) ∧ x.key = [] ∧ x.value = [] ∧ x.members = []
  else if x.kind = 2 then (∃ st1 : PSt, textP m2 st = (x.key, st1) ∧ textP m3 st1 = (x.value, st')) ∧ x.to_ = [] ∧ x.amount = 0 ∧ x.members = []
  else if x.kind = 3 then textP m2 st = (x.key, st') ∧ x.to_ = [] ∧ x.amount = 0 ∧ x.value = [] ∧ x.members = []
  else if x.kind = 4 then (∃ t o, textP m4 st = (t, st') ∧ DecR fineSet encSet t o ∧ x.members = o.getD []) ∧ x.to_ = [] ∧ x.amount = 0 ∧ x.key = [] ∧ x.value = []
  else True
structure ReadT (m0 m1 m2 m3 m4 : Int) (s : List UInt8) (x : Tx) (st : PSt) : Prop where
  go : ∃ (k : List UInt8) (st1 st2 st3 : PSt) (q : Nat), bytesP 1 (some s) = (k, st1) ∧ x.kind = (((k.getD 0 0).toNat : Nat) : Int) ∧ textP m0 st1 = (x.from_, st2) ∧ numP st2 = (q, st3) ∧ x.seq = (q : Int) ∧ TailR m1 m2 m3 m4 x st3 st
theorem ReadT.sound {m0 m1 m2 m3 m4 : Int} {s : List UInt8} {x : Tx} (h : ReadT m0 m1 m2 m3 m4 s x (some [])) (hf : fineTx x = true) : encTx x = s := by
  obtain ⟨k, st1, st2, st3, q, e1, ek, e2, e3, eq, e4⟩ := h.go
  have hF := (fineTx_iff x).1 hf
  have hk := hF.kind
  have h3 : st3 = some (bodyTx x) := by
    unfold TailR at e4
    unfold bodyTx
    by_cases c1 : x.kind = 1
    · rw [if_pos c1] at e4 ⊢
      obtain ⟨⟨s1, n, a1, a2, a3⟩, _⟩ := e4
      obtain ⟨rfl, _⟩ := numP_good a2
      rw [(textP_good a1).1, a3, List.append_nil, Int.toNat_natCast]
    · by_cases c2 : x.kind = 2
      · rw [if_neg c1, if_pos c2] at e4 ⊢
        obtain ⟨⟨s1, a1, a2⟩, _⟩ := e4
        obtain ⟨rfl, _⟩ := textP_good a2
        rw [(textP_good a1).1, List.append_nil]
      · by_cases c3 : x.kind = 3
        · rw [if_neg c1, if_neg c2, if_pos c3] at e4 ⊢
          rw [(textP_good e4.1).1, List.append_nil]
        · have c4 : x.kind = 4 := by omega
          rw [if_neg c1, if_neg c2, if_neg c3, if_pos c4] at e4
          rw [if_neg c1, if_neg c2, if_neg c3]
          obtain ⟨⟨t, o, a1, a2, a3⟩, _⟩ := e4
          have hm := (hF.k4 c4).1
          cases o with
          | none => rw [a3] at hm; cases hm
          | some l =>
            simp only [Option.getD_some] at a3
            rw [(textP_good a1).1, a3, a2.2, List.append_nil]
  subst h3
  obtain ⟨rfl, _⟩ := numP_good e3
  obtain ⟨rfl, _⟩ := textP_good e2
  obtain ⟨g1, g2⟩ := bytesP_good e1
  obtain ⟨b, rfl⟩ : ∃ b, k = [b] := by
    match k, g2 with
    | [b], _ => exact ⟨b, rfl⟩
  simp only [Option.some.injEq] at g1
  rw [g1, encTx, ek, eq]
  simp only [Int.toNat_natCast, List.getD_cons_zero, List.append_assoc]
  congr 2
  apply UInt8.toNat_inj.1
  simp
theorem ReadT.whole {m0 m1 m2 m3 m4 : Int} {s : List UInt8} {x y : Tx} {st : PSt} (h : ReadT m0 m1 m2 m3 m4 s x st) (h0 : 6 ≤ m0) (h1 : 6 ≤ m1) (h2 : 6 ≤ m2) (h3 : 32 ≤ m3) (h4 : 177 ≤ m4)
    (hf : fineTx y = true) (hs : encTx y = s) : x = y ∧ st = some [] := by
  obtain ⟨k, st1, st2, st3, q, e1, ek, e2, e3, eq, e4⟩ := h.go
  have hF := (fineTx_iff y).1 hf
  have hk := hF.kind
  have f6 := hF.from6
  have fs0 := hF.seq0
  have fsM := hF.seqM
  rw [← hs, encTx, List.append_assoc, List.append_assoc, bytesP_back' (n := 1) [UInt8.ofNat y.kind.toNat] _ rfl] at e1
  simp only [Prod.mk.injEq] at e1
  obtain ⟨rfl, rfl⟩ := e1
  rw [textP_back _ _ (by omega) (by omega)] at e2
  simp only [Prod.mk.injEq] at e2
  obtain ⟨p2, rfl⟩ := e2
  rw [numP_back _ (by omega)] at e3
  simp only [Prod.mk.injEq] at e3
  obtain ⟨rfl, rfl⟩ := e3
  have pk : x.kind = y.kind := by
    rw [ek]
    simp only [List.getD_cons_zero, UInt8.toNat_ofNat']
    omega
  have ps : x.seq = y.seq := by rw [eq]; omega
  unfold TailR at e4
  unfold bodyTx at e4
  by_cases c1 : y.kind = 1
  · rw [if_pos (by omega), if_pos c1] at e4
    obtain ⟨⟨a1, a2, a3, a4⟩, b1, b2, b3⟩ := hF.k1 c1
    obtain ⟨⟨s1, n, d1, d2, d3⟩, d4, d5, d6⟩ := e4
    rw [textP_back _ _ (by omega) (by omega)] at d1
    simp only [Prod.mk.injEq] at d1
    obtain ⟨d1, rfl⟩ := d1
    rw [← List.append_nil (numB y.amount.toNat), numP_back _ (by omega)] at d2
    simp only [Prod.mk.injEq] at d2
    obtain ⟨rfl, rfl⟩ := d2
    exact ⟨Tx.ext' pk p2.symm ps d1.symm (by omega) (by rw [d4, b1]) (by rw [d5, b2]) (by rw [d6, b3]), rfl⟩
  · by_cases c2 : y.kind = 2
    · rw [if_neg (by omega), if_pos (by omega), if_neg c1, if_pos c2] at e4
      obtain ⟨⟨a1, a2, a3, a4⟩, b1, b2, b3⟩ := hF.k2 c2
      obtain ⟨⟨s1, d1, d2⟩, d4, d5, d6⟩ := e4
      rw [textP_back _ _ (by omega) (by omega)] at d1
      simp only [Prod.mk.injEq] at d1
      obtain ⟨d1, rfl⟩ := d1
      rw [← List.append_nil (textB y.value), textP_back _ _ (by omega) (by omega)] at d2
      simp only [Prod.mk.injEq] at d2
      obtain ⟨d2, rfl⟩ := d2
      exact ⟨Tx.ext' pk p2.symm ps (by rw [d4, b1]) (by rw [d5, b2]) d1.symm d2.symm (by rw [d6, b3]), rfl⟩
    · by_cases c3 : y.kind = 3
      · rw [if_neg (by omega), if_neg (by omega), if_pos (by omega), if_neg c1, if_neg c2, if_pos c3] at e4
        obtain ⟨⟨a1, a2⟩, b1, b2, b3, b4⟩ := hF.k3 c3
        obtain ⟨d1, d2, d3, d4, d5⟩ := e4
        rw [← List.append_nil (textB y.key), textP_back _ _ (by omega) (by omega)] at d1
        simp only [Prod.mk.injEq] at d1
        obtain ⟨d1, rfl⟩ := d1
        exact ⟨Tx.ext' pk p2.symm ps (by rw [d2, b2]) (by rw [d3, b3]) d1.symm (by rw [d4, b1]) (by rw [d5, b4]), rfl⟩
      · have c4 : y.kind = 4 := by omega
        rw [if_neg (by omega), if_neg (by omega), if_neg (by omega), if_pos (by omega), if_neg c1, if_neg c2, if_neg c3] at e4
        obtain ⟨a1, b1, b2, b3, b4⟩ := hF.k4 c4
        have hl := encSet_len a1
        obtain ⟨⟨t, o, d1, d2, d3⟩, d4, d5, d6, d7⟩ := e4
        rw [← List.append_nil (textB (encSet y.members)), textP_back _ _ (by omega) (by omega)] at d1
        simp only [Prod.mk.injEq] at d1
        obtain ⟨d1, rfl⟩ := d1
        have hm : x.members = y.members := by
          cases o with
          | none => exact absurd d1 (d2 _ a1)
          | some l =>
            rw [d3]
            have e : encSet l = encSet y.members := by rw [d2.2, d1]
            have h7 := (fineSet_spec d2.1).2.1
            have h7' := (fineSet_spec a1).2.1
            exact encSet_inj d2.1 a1 e
        exact ⟨Tx.ext' pk p2.symm ps (by rw [d4, b1]) (by rw [d5, b2]) (by rw [d6, b3]) (by rw [d7, b4]) hm, rfl⟩
end Go.Proofs.Ytlfdhkahiaammaa
namespace Go.Proofs.Ytlfdhkahiaammaa
open Go Go.Sse
set_option linter.unusedVariables false
set_option linter.unusedSimpArgs false
set_option maxRecDepth 10000
theorem codeB_zero (b : Bool) (e : Int) (he : e ≠ 0) : decide (codeB b e = 0) = b := by cases b <;> simp [he]
end Go.Proofs.Ytlfdhkahiaammaa
namespace Go.Proofs.Ytlfdhkahiaammaa
open Go Go.Sse
set_option linter.unusedVariables false
set_option linter.unusedSimpArgs false
set_option maxRecDepth 10000
end Go.Proofs.Ytlfdhkahiaammaa
namespace Go.Proofs.Ytlfdhkahiaammaa
open Go Go.Sse
set_option linter.unusedVariables false
set_option linter.unusedSimpArgs false
set_option maxRecDepth 10000
def kdOf (k : List UInt8) : Int := (((k.getD 0 0).toNat : Nat) : Int)
theorem lf_len {s l : List UInt8} {a : Nat} {c : Int} (h : lf s a c = some l) : l.length ≤ s.length := by
  unfold lf at h
  split at h
  · simp only [Option.some.injEq] at h
    rw [← h, List.length_drop]; omega
  · cases h
theorem bound_text {m : Int} {s t : List UInt8} {a : Nat} {c : Int} {st : PSt} (h : textP m (lf s a c) = (t, st)) : t.length ≤ s.length := by
  cases st with
  | none => rw [textP_short h]; simp
  | some r =>
    have h1 := (textP_good h).1
    have h2 := lf_len h1
    rw [List.length_append, textB, List.length_append] at h2
    omega
end Go.Proofs.Ytlfdhkahiaammaa
namespace Go.Proofs.Ytlfdhkahiaammaa
open Go Go.Sse
set_option linter.unusedVariables false
set_option linter.unusedSimpArgs false
set_option maxRecDepth 10000
end Go.Proofs.Ytlfdhkahiaammaa
namespace Go.Proofs.Ytlfdhkahiaammaa
open Go Go.Sse
set_option linter.unusedVariables false
set_option linter.unusedSimpArgs false
set_option maxRecDepth 10000
structure Apart {α : Type} (fine : α → Bool) (enc : α → List UInt8) : Prop where
  ap : ∀ x y (r q : List UInt8), fine x = true → fine y = true → enc x ++ r = enc y ++ q → x = y ∧ r = q
theorem Apart.some' {α : Type} {fine : α → Bool} {enc : α → List UInt8} (h : Apart fine enc) {s : List UInt8} {o : Option α} {x : α} (ho : DecR fine enc s o) (h1 : fine x = true) (h2 : enc x = s) : o = some x := by
  cases o with
  | none => exact absurd h2 (ho x h1)
  | some y => rw [(h.ap y x [] [] ho.1 h1 (by rw [ho.2, h2])).1]
theorem Apart.same {α : Type} {fine : α → Bool} {enc : α → List UInt8} (h : Apart fine enc) {s : List UInt8} {o p : Option α} (ho : DecR fine enc s o) (hp : DecR fine enc s p) : o = p := by
  cases p with
  | some y => exact h.some' ho hp.1 hp.2
  | none =>
    cases o with
    | none => rfl
    | some x => exact absurd ho.2 (hp x ho.1)
theorem Apart.more {α : Type} {fine : α → Bool} {enc : α → List UInt8} (h : Apart fine enc) {o : Option α} {x : α} {b : UInt8} {t : List UInt8} (h1 : fine x = true) (ho : DecR fine enc (enc x ++ b :: t) o) : o = none := by
  cases o with
  | none => rfl
  | some y =>
    have := (h.ap y x [] (b :: t) ho.1 h1 (by rw [List.append_nil, ho.2])).2
    cases this
theorem Apart.less {α : Type} {fine : α → Bool} {enc : α → List UInt8} (h : Apart fine enc) {o : Option α} {x : α} {n : Nat} (h1 : fine x = true) (hn : n < (enc x).length) (ho : DecR fine enc ((enc x).take n) o) : o = none := by
  cases o with
  | none => rfl
  | some y =>
    have := (h.ap x y [] ((enc x).drop n) h1 ho.1 (by rw [List.append_nil, ho.2, List.take_append_drop])).2
    have h2 := congrArg List.length this
    rw [List.length_drop] at h2
    simp only [List.length_nil] at h2
    omega
theorem map_take {α β : Type} (f : α → β) (d : α) (l : List α) (i : Nat) (h : i < l.length) : (l.take i).map f ++ [f (l.getD i d)] = (l.take (i + 1)).map f := by
  rw [List.take_add_one, List.getElem?_eq_getElem h, List.getD_eq_getElem?_getD, List.getElem?_eq_getElem h]
  simp only [List.map_append, Option.toList_some, List.map_cons, List.map_nil, Option.getD_some]
theorem listB_len' {l : List (List UInt8)} {k n : Nat} (hl : l.length ≤ n) (hn : n ≤ 1048576) (h : ∀ s ∈ l, s.length ≤ k) (hk : k ≤ 1048576) : (listB l).length ≤ 9 + (k + 9) * n := by
  have h1 : (flT textB l).length ≤ (k + 9) * l.length := flT_len fun s hs => textB_len (h s hs) (by omega)
  have h2 := (numB_len (n := l.length) (by omega)).2
  have h3 : (k + 9) * l.length ≤ (k + 9) * n := Nat.mul_le_mul_left _ hl
  have h4 : (listB l).length = (numB l.length).length + (flT textB l).length := by rw [listB, List.length_append]; rfl
  omega
end Go.Proofs.Ytlfdhkahiaammaa
namespace Go.Proofs.Ytlfdhkahiaammaa
open Go Go.Sse
set_option linter.unusedVariables false
set_option linter.unusedSimpArgs false
set_option maxRecDepth 10000
theorem take_snoc {α : Type} {l : List α} {d : α} {i : Nat} (h : i < l.length) : l.take (i + 1) = l.take i ++ [l.getD i d] := by
  rw [List.take_add_one, List.getElem?_eq_getElem h, List.getD_eq_getElem?_getD, List.getElem?_eq_getElem h]; rfl
theorem listP_mem {m e : Int} {st st' : PSt} {l : List (List UInt8)} (he : 0 ≤ e) (h : listP m e st = (l, st')) : ∀ t ∈ l, (t.length : Int) ≤ e := by
  cases st' with
  | none => rw [listP_short h]; simp
  | some r => exact fun t ht => ((listP_good h).2.2.2 t ht).1
end Go.Proofs.Ytlfdhkahiaammaa
namespace Go.Proofs.Ytlfdhkahiaammaa
open Go Go.Sse
set_option linter.unusedVariables false
set_option linter.unusedSimpArgs false
set_option maxRecDepth 10000
structure Ak where
  kind : Int
  height : Int
  to_ : Int
  key : List UInt8
  fin : List UInt8
  most : Int
theorem Ak.ext' {x y : Ak} (h1 : x.kind = y.kind) (h2 : x.height = y.height) (h3 : x.to_ = y.to_) (h4 : x.key = y.key) (h5 : x.fin = y.fin) (h6 : x.most = y.most) : x = y := by
  cases x; cases y; simp_all
instance : DecidableEq Ak := fun x y => decidable_of_iff (((((x.kind = y.kind ∧ x.height = y.height) ∧ x.to_ = y.to_) ∧ x.key = y.key) ∧ x.fin = y.fin) ∧ x.most = y.most) ⟨fun h => Ak.ext' h.1.1.1.1.1 h.1.1.1.1.2 h.1.1.1.2 h.1.1.2 h.1.2 h.2, fun h => by subst h; simp⟩
abbrev akC (x : Ak) : List SV := [int x.kind, int x.height, int x.to_, str x.key, str x.fin, int x.most]
def ak0 : Ak := ⟨0, 0, 0, [], [], 0⟩
def highB (n : Int) : Bool := decide (0 ≤ n) && decide (n ≤ 1048576)
theorem highB_iff (n : Int) : highB n = true ↔ 0 ≤ n ∧ n ≤ 1048576 := by simp [highB]
def restA (x : Ak) : Bool := decide (x.fin = []) && decide (x.most = 0)
def kindA (x : Ak) : Bool :=
  if x.kind = 1 then (decide (x.to_ = 0) && decide (x.key = [])) && restA x
  else if x.kind = 2 then ((highB x.to_ && decide (x.height < x.to_)) && decide (x.key = [])) && restA x
  else if x.kind = 3 then ((highB x.to_ && decide (x.to_ ≤ x.height)) && decide (x.key = [])) && restA x
  else if x.kind = 4 then ((decide (x.to_ = 0) && decide (x.key ≠ [])) && decide (x.key.length ≤ 8)) && restA x
  else if x.kind = 5 then (((decide (x.to_ = 0) && decide (x.key.length ≤ 8)) && decide (x.fin.length ≤ 8)) && decide (1 ≤ x.most)) && decide (x.most ≤ 16)
  else if x.kind = 6 then (((decide (0 ≤ x.to_) && decide (x.to_ ≤ 255)) && decide (0 < x.height)) && decide (x.key = [])) && restA x
  else false
def fineAk (x : Ak) : Bool := highB x.height && kindA x
def encAk (x : Ak) : List UInt8 := [UInt8.ofNat x.kind.toNat] ++ numB x.height.toNat ++ numB x.to_.toNat ++ numB x.most.toNat ++ textB x.key ++ textB x.fin
structure FineA (x : Ak) : Prop where
  kind : 1 ≤ x.kind ∧ x.kind ≤ 6
  height : 0 ≤ x.height ∧ x.height ≤ 1048576
  to_ : 0 ≤ x.to_ ∧ x.to_ ≤ 1048576
  most : 0 ≤ x.most ∧ x.most ≤ 16
  key : x.key.length ≤ 8
  fin : x.fin.length ≤ 8
theorem fineAk_spec {x : Ak} (h : fineAk x = true) : FineA x := by
  simp only [fineAk, Bool.and_eq_true, highB_iff] at h
  obtain ⟨h1, h2⟩ := h
  unfold kindA restA at h2
  by_cases e1 : x.kind = 1
  · rw [if_pos e1] at h2
    simp only [Bool.and_eq_true, decide_eq_true_eq, highB_iff] at h2
    exact ⟨by omega, h1, by omega, by omega, by simp [h2.1.2], by simp [h2.2.1]⟩
  · rw [if_neg e1] at h2
    by_cases e2 : x.kind = 2
    · rw [if_pos e2] at h2
      simp only [Bool.and_eq_true, decide_eq_true_eq, highB_iff] at h2
      exact ⟨by omega, h1, by omega, by omega, by simp [h2.1.2], by simp [h2.2.1]⟩
    · rw [if_neg e2] at h2
      by_cases e3 : x.kind = 3
      · rw [if_pos e3] at h2
        simp only [Bool.and_eq_true, decide_eq_true_eq, highB_iff] at h2
        exact ⟨by omega, h1, by omega, by omega, by simp [h2.1.2], by simp [h2.2.1]⟩
      · rw [if_neg e3] at h2
        by_cases e4 : x.kind = 4
        · rw [if_pos e4] at h2
          simp only [Bool.and_eq_true, decide_eq_true_eq, highB_iff] at h2
          exact ⟨by omega, h1, by omega, by omega, h2.1.2, by simp [h2.2.1]⟩
        · rw [if_neg e4] at h2
          by_cases e5 : x.kind = 5
          · rw [if_pos e5] at h2
            simp only [Bool.and_eq_true, decide_eq_true_eq, highB_iff] at h2
            exact ⟨by omega, h1, by omega, by omega, h2.1.1.1.2, h2.1.1.2⟩
          · rw [if_neg e5] at h2
            by_cases e6 : x.kind = 6
            · rw [if_pos e6] at h2
              simp only [Bool.and_eq_true, decide_eq_true_eq, highB_iff] at h2
              exact ⟨by omega, h1, by omega, by omega, by simp [h2.1.2], by simp [h2.2.1]⟩
            · rw [if_neg e6] at h2; cases h2
theorem encAk_len {x : Ak} (f : FineA x) : (encAk x).length ≤ 62 := by
  have h1 := numB9 (n := x.height) (by have := f.height; omega)
  have h2 := numB9 (n := x.to_) (by have := f.to_; omega)
  have h3 := numB9 (n := x.most) (by have := f.most; omega)
  have h4 := textB_len f.key (by omega)
  have h5 := textB_len f.fin (by omega)
  simp only [encAk, List.length_append, List.length_cons, List.length_nil]; omega
structure ReadA (mn : Int) (s : List UInt8) (x : Ak) (st : PSt) : Prop where
  go : ∃ k s1 h s2 t s3 m s4 s5, bytesP 1 (some s) = (k, s1) ∧ x.kind = ((k.getD 0 0).toNat : Int) ∧ numP s1 = (h, s2) ∧ x.height = (h : Int) ∧ numP s2 = (t, s3) ∧ x.to_ = (t : Int) ∧ numP s3 = (m, s4) ∧ x.most = (m : Int) ∧ textP mn s4 = (x.key, s5) ∧ textP mn s5 = (x.fin, st)
theorem ReadA.sound {mn : Int} {s : List UInt8} {x : Ak} (h : ReadA mn s x (some [])) : encAk x = s := by
  obtain ⟨k, s1, h, s2, t, s3, m, s4, s5, h1, h2, h3, h4, h5, h6, h7, h8, h9, h10⟩ := h.go
  obtain ⟨rfl, _⟩ := textP_good h10
  obtain ⟨rfl, _⟩ := textP_good h9
  obtain ⟨rfl, _⟩ := numP_good h7
  obtain ⟨rfl, _⟩ := numP_good h5
  obtain ⟨rfl, _⟩ := numP_good h3
  obtain ⟨g1, g2⟩ := bytesP_good h1
  simp only [Option.some.injEq] at g1
  match k, g2 with
  | [b], _ =>
    have hk : x.kind = ((b.toNat : Nat) : Int) := h2
    rw [g1, encAk, hk, h4, h6, h8]
    simp
theorem kindA_byte {x : Ak} (f : FineA x) : ((UInt8.ofNat x.kind.toNat).toNat : Int) = x.kind := by
  have := f.kind
  have h : (UInt8.ofNat x.kind.toNat).toNat = x.kind.toNat := by
    rw [UInt8.toNat_ofNat']; omega
  rw [h]; omega
theorem encAk_cut {y : Ak} (r : List UInt8) : encAk y ++ r = [UInt8.ofNat y.kind.toNat] ++ (numB y.height.toNat ++ (numB y.to_.toNat ++ (numB y.most.toNat ++ (textB y.key ++ (textB y.fin ++ r))))) := by
  simp only [encAk, List.append_assoc]
theorem readA_back {mn : Int} (hn : 8 ≤ mn) {y : Ak} (hy : fineAk y = true) (r : List UInt8) : ReadA mn (encAk y ++ r) y (some r) := by
  have f := fineAk_spec hy
  have f1 := f.height; have f2 := f.to_; have f3 := f.most; have f4 := f.key; have f5 := f.fin
  exact ⟨[UInt8.ofNat y.kind.toNat], _, y.height.toNat, _, y.to_.toNat, _, y.most.toNat, _, _, by rw [encAk_cut]; exact bytesP_back' _ _ rfl, (kindA_byte f).symm, numP_back _ (by omega) _, by omega, numP_back _ (by omega) _, by omega, numP_back _ (by omega) _, by omega, textP_back _ _ (by omega) (by omega), textP_back _ _ (by omega) (by omega)⟩
theorem ReadA.same {mn : Int} {s : List UInt8} {x y : Ak} {st st' : PSt} (h : ReadA mn s x st) (hk : ReadA mn s y st') : x = y ∧ st = st' := by
  obtain ⟨k, s1, h, s2, t, s3, m, s4, s5, h1, h2, h3, h4, h5, h6, h7, h8, h9, h10⟩ := h.go
  obtain ⟨k', s1', h', s2', t', s3', m', s4', s5', g1, g2, g3, g4, g5, g6, g7, g8, g9, g10⟩ := hk.go
  rw [h1] at g1; simp only [Prod.mk.injEq] at g1; obtain ⟨rfl, rfl⟩ := g1
  rw [h3] at g3; simp only [Prod.mk.injEq] at g3; obtain ⟨rfl, rfl⟩ := g3
  rw [h5] at g5; simp only [Prod.mk.injEq] at g5; obtain ⟨rfl, rfl⟩ := g5
  rw [h7] at g7; simp only [Prod.mk.injEq] at g7; obtain ⟨rfl, rfl⟩ := g7
  rw [h9] at g9; simp only [Prod.mk.injEq] at g9; obtain ⟨k1, rfl⟩ := g9
  rw [h10] at g10; simp only [Prod.mk.injEq] at g10; obtain ⟨k2, rfl⟩ := g10
  exact ⟨Ak.ext' (by rw [h2, g2]) (by rw [h4, g4]) (by rw [h6, g6]) k1 k2 (by rw [h8, g8]), rfl⟩
theorem ReadA.whole {mn : Int} (hn : 8 ≤ mn) {s : List UInt8} {x y : Ak} {st : PSt} (h : ReadA mn s x st) (hy : fineAk y = true) {r : List UInt8} (hs : encAk y ++ r = s) : x = y ∧ st = some r :=
  h.same (by subst hs; exact readA_back hn hy r)
theorem apAk : Apart fineAk encAk := ⟨fun x y r q hx hy h => by
  have hr := readA_back (mn := 8) (by decide) hx r
  rw [h] at hr
  obtain ⟨e1, e2⟩ := hr.same (readA_back (mn := 8) (by decide) hy q)
  exact ⟨e1, by simpa using e2⟩⟩
end Go.Proofs.Ytlfdhkahiaammaa
namespace Go.Proofs.Ytlfdhkahiaammaa
open Go Go.Sse
set_option linter.unusedVariables false
set_option linter.unusedSimpArgs false
set_option maxRecDepth 10000
structure Ct where
  digest : List UInt8
  signers : List (List UInt8)
theorem Ct.ext' {x y : Ct} (h1 : x.digest = y.digest) (h2 : x.signers = y.signers) : x = y := by cases x; cases y; simp_all
instance : DecidableEq Ct := fun x y => decidable_of_iff (x.digest = y.digest ∧ x.signers = y.signers) ⟨fun h => Ct.ext' h.1 h.2, fun h => by subst h; simp⟩
abbrev ctC (c : Ct) : List SV := [str c.digest, ssl c.signers]
def ct0 : Ct := ⟨[], []⟩
def okN (last s : List UInt8) : Bool := !leB s last && decide (s.length ≤ 6)
def fineN : List UInt8 → List (List UInt8) → Bool
  | _, [] => true
  | last, s :: r => okN last s && fineN s r
def fineCt (c : Ct) : Bool := (decide (c.digest.length = 32) && decide (c.signers.length ≤ 7)) && fineN [] c.signers
def bareCt (c : Ct) : Bool := decide (c.digest = []) && decide ((c.signers.length : Int) = 0)
def encCt (c : Ct) : List UInt8 := c.digest ++ listB c.signers
def lastS (l : List (List UInt8)) (i : Nat) : List UInt8 := if i = 0 then [] else l.getD (i - 1) []
theorem lastS_succ (l : List (List UInt8)) (i : Nat) : lastS l (i + 1) = l.getD i [] := by simp [lastS]
theorem fineN_step (l : List (List UInt8)) (i : Nat) (h : i < l.length) (last : List UInt8) : fineN last (l.drop i) = (okN last (l.getD i []) && fineN (l.getD i []) (l.drop (i + 1))) := by
  rw [List.drop_eq_getElem_cons h, List.getD_eq_getElem?_getD, List.getElem?_eq_getElem h]; rfl
theorem fineN_mem : ∀ {l : List (List UInt8)} {last : List UInt8}, fineN last l = true → ∀ s ∈ l, s.length ≤ 6
  | [], _, _, m, hm => by simp at hm
  | x :: r, last, h, m, hm => by
    simp only [fineN, okN, Bool.and_eq_true, decide_eq_true_eq] at h
    rcases List.mem_cons.1 hm with rfl | hm
    · exact h.1.2
    · exact fineN_mem h.2 m hm
theorem fineCt_spec {c : Ct} (h : fineCt c = true) : c.digest.length = 32 ∧ c.signers.length ≤ 7 ∧ ∀ s ∈ c.signers, s.length ≤ 6 := by
  simp only [fineCt, Bool.and_eq_true, decide_eq_true_eq] at h
  exact ⟨h.1.1, h.1.2, fineN_mem h.2⟩
theorem encCt_len {c : Ct} (h : fineCt c = true) : (encCt c).length ≤ 146 := by
  obtain ⟨h1, h2, h3⟩ := fineCt_spec h
  have := listB_len' (l := c.signers) (k := 6) (n := 7) h2 (by decide) h3 (by decide)
  simp only [encCt, List.length_append]; omega
theorem bare_fine {c : Ct} (h : bareCt c = true) : fineCt c = false := by
  simp only [bareCt, Bool.and_eq_true, decide_eq_true_eq] at h
  simp [fineCt, h.1]
theorem bare_eq {c : Ct} (h : bareCt c = true) : c = ct0 := by
  simp only [bareCt, Bool.and_eq_true, decide_eq_true_eq] at h
  exact Ct.ext' h.1 (List.eq_nil_of_length_eq_zero (by omega))
structure ReadC (m e : Int) (s : List UInt8) (c : Ct) (st : PSt) : Prop where
  go : ∃ s1 : PSt, bytesP 32 (some s) = (c.digest, s1) ∧ listP m e s1 = (c.signers, st)
theorem ReadC.sound {m e : Int} {s : List UInt8} {c : Ct} (h : ReadC m e s c (some [])) : encCt c = s := by
  obtain ⟨s1, e1, e2⟩ := h.go
  obtain ⟨rfl, _⟩ := listP_good e2
  obtain ⟨h1, _⟩ := bytesP_good e1
  simp only [Option.some.injEq, List.append_nil] at h1
  rw [encCt, h1]
theorem readC_back {m e : Int} (hm : 7 ≤ m) (he : 6 ≤ e) {y : Ct} (r : List UInt8) (hf : fineCt y = true) : bytesP 32 (some (encCt y ++ r)) = (y.digest, some (listB y.signers ++ r)) ∧ listP m e (some (listB y.signers ++ r)) = (y.signers, some r) := by
  obtain ⟨h1, h2, h3⟩ := fineCt_spec hf
  refine ⟨by rw [encCt, List.append_assoc]; exact bytesP_back' _ _ h1, listP_back _ _ (by omega) (by omega) fun t ht => ?_⟩
  have := h3 t ht
  omega
theorem ReadC.whole {m e : Int} (hm : 7 ≤ m) (he : 6 ≤ e) {s : List UInt8} {c y : Ct} {st : PSt} (h : ReadC m e s c st) (hf : fineCt y = true) (hs : encCt y = s) : c = y ∧ st = some [] := by
  obtain ⟨s1, e1, e2⟩ := h.go
  obtain ⟨g1, g2⟩ := readC_back hm he [] hf
  rw [List.append_nil, hs, e1] at g1
  simp only [Prod.mk.injEq] at g1
  obtain ⟨k1, rfl⟩ := g1
  rw [e2] at g2
  simp only [Prod.mk.injEq] at g2
  exact ⟨Ct.ext' k1 g2.1, g2.2⟩
theorem apCt : Apart fineCt encCt := ⟨fun x y r q hx hy h => by
  obtain ⟨a1, a2⟩ := readC_back (m := 7) (e := 6) (by decide) (by decide) r hx
  obtain ⟨b1, b2⟩ := readC_back (m := 7) (e := 6) (by decide) (by decide) q hy
  rw [h, b1] at a1
  simp only [Prod.mk.injEq, Option.some.injEq] at a1
  rw [a1.2, a2] at b2
  simp only [Prod.mk.injEq, Option.some.injEq] at b2
  exact ⟨Ct.ext' a1.1.symm b2.1, b2.2⟩⟩
end Go.Proofs.Ytlfdhkahiaammaa
namespace Go.Proofs.Ytlfdhkahiaammaa
open Go Go.Sse
set_option linter.unusedVariables false
set_option linter.unusedSimpArgs false
set_option maxRecDepth 10000
abbrev isl (l : List Int) : SV := .sl 1 l.length (elOf (fun n => [int n]) 0 l)
def linksTo (n k : Nat) : List Int := ((List.range k).filter (fun j => n % 2 ^ (j + 1) = 0)).map (fun j => (n : Int) - ((2 ^ (j + 1) : Nat) : Int))
def linksI (h : Int) : List Int := if 1 ≤ h ∧ h ≤ 1048576 then linksTo h.toNat 20 else []
theorem linksTo_yes (n k : Nat) (h : n % 2 ^ (k + 1) = 0) : linksTo n (k + 1) = linksTo n k ++ [(n : Int) - ((2 ^ (k + 1) : Nat) : Int)] := by
  simp only [linksTo, List.range_succ, List.filter_append, List.map_append]
  simp [h]
theorem linksTo_no (n k : Nat) (h : ¬ n % 2 ^ (k + 1) = 0) : linksTo n (k + 1) = linksTo n k := by
  simp only [linksTo, List.range_succ, List.filter_append, List.map_append]
  simp [h]
theorem mod_up {n k : Nat} (h : ¬ n % 2 ^ (k + 1) = 0) : ∀ j, ¬ n % 2 ^ (k + 1 + j) = 0
  | 0 => h
  | j + 1 => fun h2 => by
    refine mod_up h j ?_
    have : 2 ^ (k + 1 + (j + 1)) = 2 ^ (k + 1 + j) * 2 := by rw [show k + 1 + (j + 1) = (k + 1 + j) + 1 by omega, Nat.pow_succ]
    rw [this] at h2
    exact Nat.mod_eq_zero_of_dvd (Nat.dvd_trans (Nat.dvd_mul_right _ _) (Nat.dvd_of_mod_eq_zero h2))
theorem linksTo_end {n k : Nat} (h : ¬ n % 2 ^ (k + 1) = 0) : ∀ d, linksTo n (k + d) = linksTo n k
  | 0 => rfl
  | d + 1 => by rw [show k + (d + 1) = (k + d) + 1 by omega, linksTo_no _ _ (by rw [show k + d + 1 = k + 1 + d by omega]; exact mod_up h d), linksTo_end h d]
theorem linksTo_len (n k : Nat) : (linksTo n k).length ≤ k := by
  simp only [linksTo, List.length_map]
  exact Nat.le_trans (List.length_filter_le _ _) (by simp)
theorem linksI_len (h : Int) : (linksI h).length ≤ 20 := by
  unfold linksI
  split
  · exact linksTo_len _ _
  · simp
theorem linksI_zero {h : Int} (h0 : h < 1) : linksI h = [] := by rw [linksI, if_neg (by omega)]
theorem pow_small {n k : Nat} (h1 : 1 ≤ n) (h2 : n ≤ 1048576) (h : n % 2 ^ (k + 1) = 0) : k < 20 ∧ 2 ^ (k + 1) ≤ 1048576 := by
  have hle : 2 ^ (k + 1) ≤ n := Nat.le_of_dvd (by omega) (Nat.dvd_of_mod_eq_zero h)
  refine ⟨?_, by omega⟩
  rcases Nat.lt_or_ge k 20 with hk | hk
  · exact hk
  · have : 2 ^ 21 ≤ 2 ^ (k + 1) := Nat.pow_le_pow_right (by omega) (by omega)
    have h21 : 2 ^ 21 = 2097152 := by decide
    omega
set_option maxHeartbeats 2000000 in
theorem links_ok (h : Int) : FnC Try.prog 76 [int h] [] (fun v L => v = isl (linksI h) ∧ L = []) := by
  refine FnC.intro Try.func76 rfl Try.ntmps76 rfl fun Z w0 hG => ?_
  by_cases hh : 1 ≤ h ∧ h ≤ 1048576
  · obtain ⟨n, rfl⟩ : ∃ n : Nat, h = n := ⟨h.toNat, by omega⟩
    have h1 : 1 ≤ n := by omega
    have h2 : n ≤ 1048576 := by omega
    have hl : linksI (n : Int) = linksTo n 20 := by rw [linksI, if_pos hh, Int.toNat_natCast]
    rw [hl]
    focus (
 (refine W.seq (W.region (Jx.assign rfl rfl (J.nil (N.seq ?_)))))
 (refine id ?_; rotate_left))
    refine W.scopeL (α := Nat × Value) 0 (fun x => [(3, .val x.2), (4, int ((2 ^ (x.1 + 1) : Nat) : Int)), (0, int (n : Int))]) (fun x => [.row x.2 3 1 (linksTo n x.1).length (elOf (fun n => [int n]) 0 (linksTo n x.1))]) (fun x => 2 ^ (x.1 + 1) ≤ 2097152) 4 (fun x => ((2 ^ (x.1 + 1) : Nat) : Int)) (fun m => (4194304 - m).toNat) rfl (fun _ _ => rfl) ?_ ?_
    · intro hr
      focus (
 (refine W.seq (W.seq (W.region (Jx.move rfl rfl (Jx.lssI rfl rfl rfl (Jx.move rfl rfl (J.gY rfl rfl rfl ?_)))))))
 (refine Jx.move rfl rfl (J.gY rfl rfl rfl ?_))
 (refine Jx.gtrI rfl rfl rfl (Jx.pF rfl rfl rfl ?_))
 (refine J.nil (N.seq (W.cF rfl ?_)))
 (refine W.skip (N.seq (W.seq (W.region (Jx.assign rfl rfl (J.nil (N.seq (W.seq (W.region (Jx.assign rfl rfl (J.nil (N.seq (W.seq ?_)))))))))))))
 (refine id ?_; rotate_left))
      refine W.label ?_
      refine N.seq ?_
      refine W.rowNil 3 1 (elOf (fun n => [int n]) 0 []) ?_
      refine W.told ?_ (hr (0, .slice none 0 0) (by decide))
      exact ⟨ref0 rfl, ref0 rfl, ref0 rfl, trivial⟩
    · rintro ⟨k, u⟩ hk
      simp only at hk ⊢
      have hlen := linksTo_len n k
      have hpos : 0 < 2 ^ (k + 1) := Nat.pow_pos (by omega)
      have hmax : (linksTo n k).length ≤ maxLen := by
        have : k ≤ 2 ^ (k + 1) := Nat.le_of_lt (Nat.lt_of_lt_of_le (Nat.lt_two_pow_self) (Nat.pow_le_pow_right (by omega) (by omega)))
        simp only [maxLen]; omega
      have hm : (n : Int) % ((2 ^ (k + 1) : Nat) : Int) = ((n % 2 ^ (k + 1) : Nat) : Int) := by rw [Int.natCast_emod]
      by_cases h0 : n % 2 ^ (k + 1) = 0
      · obtain ⟨g1, g2⟩ := pow_small h1 h2 h0
        have hy := linksTo_yes n k h0
        have hp : 2 ^ (k + 1 + 1) = 2 ^ (k + 1) * 2 := Nat.pow_succ ..
        have hp2 : (((2 ^ (k + 1) : Nat) : Int)) * 2 = ((2 ^ (k + 1 + 1) : Nat) : Int) := by omega
        have hmx : (linksTo n k).length + [(n : Int) - ((2 ^ (k + 1) : Nat) : Int)].length ≤ maxLen ∧ ((linksTo n k).length + [(n : Int) - ((2 ^ (k + 1) : Nat) : Int)].length) * 8 ≤ 140737488355328 := by simp only [maxLen, List.length_cons, List.length_nil]; omega
        rw [h0] at hm
        generalize 2 ^ (k + 1) = p at *
        generalize linksTo n k = acc at *
        focus (
 (refine W.seq (W.seq (W.region (Jx.move rfl rfl (Jx.move rfl rfl ?_)))))
 (refine Jx.rem64 rfl rfl (by omega) (by omega) rfl ?_; rw [hm])
 (refine Jx.eqlI rfl rfl rfl (J.nil (N.seq (W.cT rfl ?_))))
 (refine W.seq (W.region (Jx.move rfl rfl (Jx.move rfl rfl (Jx.move rfl rfl (Jx.sub64 rfl rfl (by omega) rfl ?_))))))
 (refine J.qs (Qs.buildL (fun n : Int => int n) 0 [(n : Int) - (p : Int)] (fun _ => .val rfl) rfl rfl rfl (by decide) (by decide) rfl) rfl ?_)
 (refine J.appendAt (l := acc) (l2 := [(n : Int) - (p : Int)]) 0 rfl rfl (SrcOK.sl rfl) rfl rfl hmx rfl ?_; intro v2 hv2)
 (refine Jx.assign rfl rfl (J.nil (N.seq (W.seq (W.region (Jx.move rfl rfl (Jx.mul64 rfl rfl (by omega) rfl ?_)))))))
 (refine Jx.assign rfl rfl (J.nil (N.seq (W.goto (N.seqGoto (N.jump ?_))))))
 (refine id ?_; rotate_left))
        exact N.atJump (k + 1, v2) ⟨by simp only; omega, by simp only [hp]; omega⟩ (by rw [hy]; rfl) ⟨ref0 rfl, ⟨_, rfl, Sub.of_eq (by simp only; rw [hp2])⟩, ref0 rfl, trivial⟩
      · have hle : k ≤ 20 := by
          rcases Nat.lt_or_ge 20 k with h | h
          · have : 2 ^ 22 ≤ 2 ^ (k + 1) := Nat.pow_le_pow_right (by omega) (by omega)
            have h22 : 2 ^ 22 = 4194304 := by decide
            omega
          · exact h
        have he : linksTo n 20 = linksTo n k := by rw [show 20 = k + (20 - k) by omega, linksTo_end h0]
        rw [he]
        have hm0 : ¬ ((n % 2 ^ (k + 1) : Nat) : Int) = 0 := by omega
        generalize n % 2 ^ (k + 1) = r at *
        generalize linksTo n k = acc at *
        refine W.freezeAt 0 3 rfl rfl hmax ?_
        focus (
 (refine W.seq (W.seq (W.region (Jx.move rfl rfl (Jx.move rfl rfl ?_)))))
 (refine Jx.rem64 rfl rfl (by omega) (by omega) rfl ?_; rw [hm])
 (refine Jx.eqlI rfl rfl rfl (J.nil (N.seq (W.cF rfl ?_))))
 (refine W.skip (N.seq (W.seq (W.region (Jx.move rfl rfl (Jx.assign rfl rfl (J.nil (N.seq (W.ret (N.noGotoRet ?_))))))))))
 (refine id ?_; rotate_left))
        exact N.ret (rs := [.tmp 2]) rfl (.tmp rfl .nil) ⟨rfl, rfl⟩
  · have hl : linksI h = [] := if_neg hh
    rw [hl]
    focus (
 (refine W.seq (W.region (Jx.assign rfl rfl (J.nil (N.seq ?_)))))
 (refine id ?_; rotate_left))
    refine W.scopeS ?_
    by_cases h1 : h < 1
    · focus (
 (refine W.seq (W.seq (W.region (Jx.move rfl rfl (Jx.lssI rfl rfl rfl (Jx.move rfl rfl (J.gN rfl rfl rfl rfl ?_)))))))
 (refine J.gN rfl rfl rfl rfl ?_)
 (refine Jx.pT rfl rfl rfl ?_)
 (refine J.nil (N.seq (W.cT rfl ?_)))
 (refine W.seq (W.region (Jx.assign rfl rfl (J.nil (N.seq (W.ret (N.noGotoRet (N.noGotoRet ?_))))))))
 (refine id ?_; rotate_left))
      refine N.told (G := [(2, isl [])]) ⟨⟨_, rfl, Sub.nil 1 _⟩, trivial⟩ ?_
      exact N.ret (rs := [.tmp 2]) rfl (.tmp rfl .nil) ⟨rfl, rfl⟩
    · focus (
 (refine W.seq (W.seq (W.region (Jx.move rfl rfl (Jx.lssI rfl rfl rfl (Jx.move rfl rfl (J.gY rfl rfl rfl ?_)))))))
 (refine Jx.move rfl rfl (J.gY rfl rfl rfl ?_))
 (refine Jx.gtrI rfl rfl rfl (Jx.pF rfl rfl rfl ?_))
 (refine J.nil (N.seq (W.cT rfl ?_)))
 (refine W.seq (W.region (Jx.assign rfl rfl (J.nil (N.seq (W.ret (N.noGotoRet (N.noGotoRet ?_))))))))
 (refine id ?_; rotate_left))
      refine N.told (G := [(2, isl [])]) ⟨⟨_, rfl, Sub.nil 1 _⟩, trivial⟩ ?_
      exact N.ret (rs := [.tmp 2]) rfl (.tmp rfl .nil) ⟨rfl, rfl⟩
theorem findIdx_take {α : Type} {p : α → Bool} {l : List α} {i : Nat} (h : ∀ y ∈ l.take i, p y = false) (hi : i < l.length) (d : α) (hp : p (l.getD i d) = true) : l.findIdx? p = some i := by
  rw [List.findIdx?_eq_some_iff_getElem]
  refine ⟨hi, by rw [List.getD_eq_getElem?_getD, List.getElem?_eq_getElem hi] at hp; exact hp, fun j hj => ?_⟩
  have : l[j] ∈ l.take i := by
    rw [List.mem_take_iff_getElem]
    exact ⟨j, by omega, rfl⟩
  rw [h _ this]; simp
end Go.Proofs.Ytlfdhkahiaammaa
namespace Go.Proofs.Ytlfdhkahiaammaa
open Go Go.Sse
set_option linter.unusedVariables false
set_option linter.unusedSimpArgs false
set_option maxRecDepth 10000
structure Hd where
  height : Int
  epoch : Int
  view : Int
  last : Bool
  parent : List UInt8
  state : List UInt8
  receipts : List UInt8
  txs : List UInt8
  members : List UInt8
  next : List UInt8
  skips : List (List UInt8)
theorem Hd.ext' {x y : Hd} (h1 : x.height = y.height) (h2 : x.epoch = y.epoch) (h3 : x.view = y.view) (h4 : x.last = y.last) (h5 : x.parent = y.parent) (h6 : x.state = y.state) (h7 : x.receipts = y.receipts) (h8 : x.txs = y.txs) (h9 : x.members = y.members) (h10 : x.next = y.next) (h11 : x.skips = y.skips) : x = y := by
  cases x; cases y; simp_all
instance : DecidableEq Hd := fun x y => decidable_of_iff (x.height = y.height ∧ x.epoch = y.epoch ∧ x.view = y.view ∧ x.last = y.last ∧ x.parent = y.parent ∧ x.state = y.state ∧ x.receipts = y.receipts ∧ x.txs = y.txs ∧ x.members = y.members ∧ x.next = y.next ∧ x.skips = y.skips) ⟨fun h => by cases x; cases y; simp_all, fun h => by subst h; simp⟩
abbrev hdC (h : Hd) : List SV := [int h.height, int h.epoch, int h.view, bool h.last, str h.parent, str h.state, str h.receipts, str h.txs, str h.members, str h.next, ssl h.skips]
def hd0 : Hd := ⟨0, 0, 0, false, [], [], [], [], [], [], []⟩
def inB (n : Int) : Bool := decide (0 ≤ n) && decide (n ≤ 1048576)
def sumB (s : List UInt8) : Bool := decide ((s.length : Int) = 32)
def maybeB (s : List UInt8) : Bool := decide (s = []) || sumB s
def numbersH (h : Hd) : Bool := (inB h.height && inB h.epoch) && inB h.view
def firstH (h : Hd) : Bool := if 0 < h.height then sumB h.parent else ((decide (h.parent = []) && decide (h.epoch = 0)) && decide (h.view = 0)) && h.last
def tailH (b : Bool) (h : Hd) : Bool := ((((b && sumB h.txs) && sumB h.members) && sumB h.next) && maybeB h.state) && maybeB h.receipts
def skipsH (h : Hd) : Bool := decide ((h.skips.length : Int) = ((linksI h.height).length : Int)) && !h.skips.any fun s => !sumB s
def sumsH (h : Hd) : Bool := if 0 < h.height then tailH (skipsH h) h else if (h.skips.length : Int) = 0 then tailH true h else false
def badH (h : Hd) : Bool := ((!numbersH h || !firstH h) || !sumsH h) || (!h.last && decide (h.next ≠ h.members))
def fineHd (h : Hd) : Bool := !badH h
structure FineH (h : Hd) : Prop where
  height : 0 ≤ h.height ∧ h.height ≤ 1048576
  epoch : 0 ≤ h.epoch ∧ h.epoch ≤ 1048576
  view : 0 ≤ h.view ∧ h.view ≤ 1048576
  parent : (0 < h.height → h.parent.length = 32) ∧ (h.height = 0 → h.parent = [] ∧ h.epoch = 0 ∧ h.view = 0 ∧ h.last = true)
  txs : h.txs.length = 32
  members : h.members.length = 32
  next : h.next.length = 32
  state : h.state = [] ∨ h.state.length = 32
  receipts : h.receipts = [] ∨ h.receipts.length = 32
  skips : h.skips.length = (linksI h.height).length
  each : ∀ s ∈ h.skips, s.length = 32
  same : h.last = false → h.next = h.members
theorem sumB_iff (s : List UInt8) : sumB s = true ↔ s.length = 32 := by simp only [sumB, decide_eq_true_eq]; omega
theorem maybeB_iff (s : List UInt8) : maybeB s = true ↔ s = [] ∨ s.length = 32 := by simp only [maybeB, Bool.or_eq_true, decide_eq_true_eq, sumB_iff]
theorem inB_iff (n : Int) : inB n = true ↔ 0 ≤ n ∧ n ≤ 1048576 := by simp only [inB, Bool.and_eq_true, decide_eq_true_eq]
theorem tailH_iff (b : Bool) (h : Hd) : tailH b h = true ↔ b = true ∧ h.txs.length = 32 ∧ h.members.length = 32 ∧ h.next.length = 32 ∧ (h.state = [] ∨ h.state.length = 32) ∧ (h.receipts = [] ∨ h.receipts.length = 32) := by
  simp only [tailH, Bool.and_eq_true, sumB_iff, maybeB_iff]
  constructor
  · rintro ⟨⟨⟨⟨⟨a, b⟩, c⟩, d⟩, e⟩, f⟩; exact ⟨a, b, c, d, e, f⟩
  · rintro ⟨a, b, c, d, e, f⟩; exact ⟨⟨⟨⟨⟨a, b⟩, c⟩, d⟩, e⟩, f⟩
theorem skipsH_iff (h : Hd) : skipsH h = true ↔ h.skips.length = (linksI h.height).length ∧ ∀ s ∈ h.skips, s.length = 32 := by
  simp only [skipsH, Bool.and_eq_true, decide_eq_true_eq, Bool.not_eq_true', List.any_eq_false, Bool.not_eq_true]
  constructor
  · rintro ⟨a, b⟩
    refine ⟨by omega, fun s hs => ?_⟩
    have := b s hs
    exact (sumB_iff s).1 (by simpa using this)
  · rintro ⟨a, b⟩
    refine ⟨by omega, fun s hs => ?_⟩
    have := (sumB_iff s).2 (b s hs)
    simp [this]
theorem fineHd_iff (h : Hd) : fineHd h = true ↔ FineH h := by
  simp only [fineHd, badH, Bool.not_eq_true', Bool.or_eq_false_iff, Bool.not_eq_false', Bool.and_eq_false_iff, numbersH, Bool.and_eq_true, inB_iff, decide_eq_false_iff_not, Classical.not_not]
  constructor
  · rintro ⟨⟨⟨⟨⟨n1, n2⟩, n3⟩, hf⟩, hs⟩, hl⟩
    have hsame : h.last = false → h.next = h.members := fun he => by
      rcases hl with h' | h'
      · rw [he] at h'; cases h'
      · exact h'
    by_cases h0 : 0 < h.height
    · rw [firstH, if_pos h0, sumB_iff] at hf
      rw [sumsH, if_pos h0, tailH_iff, skipsH_iff] at hs
      obtain ⟨⟨s1, s2⟩, t1, t2, t3, t4, t5⟩ := hs
      exact ⟨n1, n2, n3, ⟨fun _ => hf, fun h' => by omega⟩, t1, t2, t3, t4, t5, s1, s2, hsame⟩
    · have hz : h.height = 0 := by omega
      rw [firstH, if_neg h0] at hf
      simp only [Bool.and_eq_true, decide_eq_true_eq] at hf
      obtain ⟨⟨⟨f1, f2⟩, f3⟩, f4⟩ := hf
      rw [sumsH, if_neg h0] at hs
      split at hs
      · rename_i hk
        rw [tailH_iff] at hs
        obtain ⟨_, t1, t2, t3, t4, t5⟩ := hs
        have he : h.skips = [] := List.eq_nil_of_length_eq_zero (by omega)
        refine ⟨n1, n2, n3, ⟨fun h' => by omega, fun _ => ⟨f1, f2, f3, f4⟩⟩, t1, t2, t3, t4, t5, ?_, by rw [he]; simp, hsame⟩
        rw [he, linksI_zero (by omega)]; rfl
      · cases hs
  · intro f
    have hl : h.last = true ∨ h.next = h.members := by
      cases hb : h.last with
      | true => exact .inl rfl
      | false => exact .inr (f.same hb)
    refine ⟨⟨⟨⟨⟨f.height, f.epoch⟩, f.view⟩, ?_⟩, ?_⟩, hl⟩
    · by_cases h0 : 0 < h.height
      · rw [firstH, if_pos h0, sumB_iff]; exact f.parent.1 h0
      · have hz : h.height = 0 := by have := f.height; omega
        obtain ⟨p1, p2, p3, p4⟩ := f.parent.2 hz
        rw [firstH, if_neg h0, p1, p2, p3, p4]; rfl
    · by_cases h0 : 0 < h.height
      · rw [sumsH, if_pos h0, tailH_iff, skipsH_iff]
        exact ⟨⟨f.skips, f.each⟩, f.txs, f.members, f.next, f.state, f.receipts⟩
      · have hz : h.height = 0 := by have := f.height; omega
        have hk := f.skips
        rw [linksI_zero (by omega)] at hk
        simp only [List.length_nil] at hk
        rw [sumsH, if_neg h0, if_pos (by omega), tailH_iff]
        exact ⟨rfl, f.txs, f.members, f.next, f.state, f.receipts⟩
def idB (s : List UInt8) : List UInt8 := s
def encHd (h : Hd) : List UInt8 := numB h.height.toNat ++ (numB h.epoch.toNat ++ (numB h.view.toNat ++ (flagB h.last ++ (textB h.parent ++ (textB h.state ++ (textB h.receipts ++ (h.txs ++ (h.members ++ (h.next ++ flT idB h.skips)))))))))
theorem flag_len (f : Bool) : (flagB f).length = 1 := by cases f <;> rfl
theorem FineH.parent32 {h : Hd} (f : FineH h) : h.parent.length ≤ 32 := by
  have := f.height
  by_cases h0 : 0 < h.height
  · have := f.parent.1 h0; omega
  · have := (f.parent.2 (by omega)).1; rw [this]; simp
theorem FineH.state32 {h : Hd} (f : FineH h) : h.state.length ≤ 32 := by rcases f.state with h | h <;> simp [h]
theorem FineH.receipts32 {h : Hd} (f : FineH h) : h.receipts.length ≤ 32 := by rcases f.receipts with h | h <;> simp [h]
theorem FineH.skips20 {h : Hd} (f : FineH h) : h.skips.length ≤ 20 := by rw [f.skips]; exact linksI_len _
theorem flS_len {h : Hd} (f : FineH h) : (flT idB h.skips).length ≤ 640 := by
  have h1 := flT_len (f := idB) (k := 32) (l := h.skips) fun s hs => by rw [idB, f.each s hs]; exact Nat.le_refl _
  have := f.skips20
  omega
theorem numBs {n : Int} (h : n ≤ 1048576) : (numB n.toNat).length ≤ 9 := (numB_len (n := n.toNat) (by omega)).2
theorem encHd_len {h : Hd} (f : FineH h) : (encHd h).length ≤ 887 := by
  have := numBs f.height.2; have := numBs f.epoch.2; have := numBs f.view.2; have := flag_len h.last
  have := textB_len f.parent32 (by omega); have := textB_len f.state32 (by omega); have := textB_len f.receipts32 (by omega)
  have := flS_len f
  simp only [encHd, List.length_append, f.txs, f.members, f.next]
  omega
def reps : Nat → PSt → List (List UInt8) × PSt
  | 0, st => ([], st)
  | n + 1, st => ((bytesP 32 st).1 :: (reps n (bytesP 32 st).2).1, (reps n (bytesP 32 st).2).2)
theorem reps_none : ∀ n, (reps n none).2 = none
  | 0 => rfl
  | n + 1 => by simp only [reps, bytesP]; exact reps_none n
theorem reps_good : ∀ {n : Nat} {st : PSt} {l : List (List UInt8)} {r : List UInt8}, reps n st = (l, some r) → st = some (flT idB l ++ r) ∧ l.length = n ∧ ∀ t ∈ l, t.length = 32
  | 0, st, l, r, h => by
    simp only [reps, Prod.mk.injEq] at h
    obtain ⟨rfl, rfl⟩ := h
    exact ⟨rfl, rfl, by simp⟩
  | n + 1, st, l, r, h => by
    simp only [reps, Prod.mk.injEq] at h
    obtain ⟨rfl, h2⟩ := h
    cases hb : bytesP 32 st with
    | mk t s1 =>
      rw [hb] at h2
      simp only at h2 ⊢
      cases s1 with
      | none => rw [reps_none] at h2; cases h2
      | some q =>
        obtain ⟨g1, g2⟩ := bytesP_good hb
        cases hr : reps n (some q) with
        | mk l2 s2 =>
          rw [hr] at h2
          simp only at h2 ⊢
          subst h2
          obtain ⟨e1, e2, e3⟩ := reps_good hr
          simp only [Option.some.injEq] at e1
          refine ⟨by rw [g1, e1, flT_cons, idB, List.append_assoc], by simp [e2], ?_⟩
          intro u hu
          rcases List.mem_cons.1 hu with rfl | hu
          · exact g2
          · exact e3 u hu
theorem reps_back : ∀ (l : List (List UInt8)) (r : List UInt8), (∀ t ∈ l, t.length = 32) → reps l.length (some (flT idB l ++ r)) = (l, some r)
  | [], r, _ => rfl
  | t :: l, r, h => by
    have h0 := h t (List.mem_cons_self ..)
    simp only [List.length_cons, reps, flT_cons, List.append_assoc]
    rw [show idB t = t from rfl, bytesP_back' t _ h0]
    simp only
    rw [reps_back l r fun u hu => h u (List.mem_cons_of_mem _ hu)]
structure ReadH (s : List UInt8) (h : Hd) (st : PSt) : Prop where
  go : ∃ (n1 n2 n3 : Nat) (s1 s2 s3 s4 s5 s6 s7 s8 s9 s10 : PSt), numP (some s) = (n1, s1) ∧ h.height = n1 ∧ numP s1 = (n2, s2) ∧ h.epoch = n2 ∧ numP s2 = (n3, s3) ∧ h.view = n3 ∧ flagP s3 = (h.last, s4) ∧
    textP 32 s4 = (h.parent, s5) ∧ textP 32 s5 = (h.state, s6) ∧ textP 32 s6 = (h.receipts, s7) ∧ bytesP 32 s7 = (h.txs, s8) ∧ bytesP 32 s8 = (h.members, s9) ∧ bytesP 32 s9 = (h.next, s10) ∧ reps (linksI h.height).length s10 = (h.skips, st)
theorem ReadH.sound {s : List UInt8} {h : Hd} (hr : ReadH s h (some [])) : encHd h = s := by
  obtain ⟨n1, n2, n3, s1, s2, s3, s4, s5, s6, s7, s8, s9, s10, e1, k1, e2, k2, e3, k3, e4, e5, e6, e7, e8, e9, e10, e11⟩ := hr.go
  obtain ⟨rfl, _⟩ := reps_good e11
  obtain ⟨rfl, _⟩ := bytesP_good e10
  obtain ⟨rfl, _⟩ := bytesP_good e9
  obtain ⟨rfl, _⟩ := bytesP_good e8
  obtain ⟨rfl, _⟩ := textP_good e7
  obtain ⟨rfl, _⟩ := textP_good e6
  obtain ⟨rfl, _⟩ := textP_good e5
  obtain rfl := flagP_good e4
  obtain ⟨rfl, _⟩ := numP_good e3
  obtain ⟨rfl, _⟩ := numP_good e2
  obtain ⟨h1, _⟩ := numP_good e1
  simp only [Option.some.injEq] at h1
  rw [h1, encHd, k1, k2, k3]
  simp only [Int.toNat_natCast, List.append_nil]
theorem ReadH.whole {s : List UInt8} {h y : Hd} {st : PSt} (hr : ReadH s h st) (hf : FineH y) (hs : encHd y = s) : h = y ∧ st = some [] := by
  obtain ⟨n1, n2, n3, s1, s2, s3, s4, s5, s6, s7, s8, s9, s10, e1, k1, e2, k2, e3, k3, e4, e5, e6, e7, e8, e9, e10, e11⟩ := hr.go
  have f1 := hf.height; have f2 := hf.epoch; have f3 := hf.view
  have p1 := hf.parent32; have p2 := hf.state32; have p3 := hf.receipts32
  rw [← hs, encHd, numP_back _ (by omega)] at e1
  simp only [Prod.mk.injEq] at e1
  obtain ⟨rfl, rfl⟩ := e1
  rw [numP_back _ (by omega)] at e2
  simp only [Prod.mk.injEq] at e2
  obtain ⟨rfl, rfl⟩ := e2
  rw [numP_back _ (by omega)] at e3
  simp only [Prod.mk.injEq] at e3
  obtain ⟨rfl, rfl⟩ := e3
  rw [flagP_back] at e4
  simp only [Prod.mk.injEq] at e4
  obtain ⟨g4, rfl⟩ := e4
  rw [textP_back _ _ (by omega) (by omega)] at e5
  simp only [Prod.mk.injEq] at e5
  obtain ⟨g5, rfl⟩ := e5
  rw [textP_back _ _ (by omega) (by omega)] at e6
  simp only [Prod.mk.injEq] at e6
  obtain ⟨g6, rfl⟩ := e6
  rw [textP_back _ _ (by omega) (by omega)] at e7
  simp only [Prod.mk.injEq] at e7
  obtain ⟨g7, rfl⟩ := e7
  rw [bytesP_back' _ _ hf.txs] at e8
  simp only [Prod.mk.injEq] at e8
  obtain ⟨g8, rfl⟩ := e8
  rw [bytesP_back' _ _ hf.members] at e9
  simp only [Prod.mk.injEq] at e9
  obtain ⟨g9, rfl⟩ := e9
  rw [bytesP_back' _ _ hf.next] at e10
  simp only [Prod.mk.injEq] at e10
  obtain ⟨g10, rfl⟩ := e10
  have kh : h.height = y.height := by omega
  rw [kh, ← hf.skips, ← List.append_nil (flT idB y.skips), reps_back _ _ hf.each] at e11
  simp only [Prod.mk.injEq] at e11
  obtain ⟨g11, rfl⟩ := e11
  exact ⟨Hd.ext' kh (by omega) (by omega) g4.symm g5.symm g6.symm g7.symm g8.symm g9.symm g10.symm g11.symm, rfl⟩
theorem flS_ap : ∀ {a b : List (List UInt8)} {r q : List UInt8}, a.length = b.length → (∀ s ∈ a, s.length = 32) → (∀ s ∈ b, s.length = 32) → flT idB a ++ r = flT idB b ++ q → a = b ∧ r = q
  | [], [], r, q, _, _, _, h => ⟨rfl, h⟩
  | [], _ :: _, _, _, h, _, _, _ => by simp at h
  | _ :: _, [], _, _, h, _, _, _ => by simp at h
  | x :: a, y :: b, r, q, h, ha, hb, he => by
    rw [flT_cons, flT_cons, List.append_assoc, List.append_assoc] at he
    obtain ⟨e1, he⟩ := List.append_inj he (by rw [idB, idB, ha x (List.mem_cons_self ..), hb y (List.mem_cons_self ..)])
    obtain ⟨e2, e3⟩ := flS_ap (by simpa using h) (fun s hs => ha s (List.mem_cons_of_mem _ hs)) (fun s hs => hb s (List.mem_cons_of_mem _ hs)) he
    rw [show x = y from e1, e2]
    exact ⟨rfl, e3⟩
theorem flag_ap {a b : Bool} {r q : List UInt8} (h : flagB a ++ r = flagB b ++ q) : a = b ∧ r = q := by
  have h1 := flagP_back a r
  rw [h, flagP_back] at h1
  simp only [Prod.mk.injEq, Option.some.injEq] at h1
  exact ⟨h1.1.symm, h1.2.symm⟩
theorem encHd_ap {x y : Hd} {r q : List UInt8} (hx : fineHd x = true) (hy : fineHd y = true) (h : encHd x ++ r = encHd y ++ q) : x = y ∧ r = q := by
  have fx := (fineHd_iff x).1 hx
  have fy := (fineHd_iff y).1 hy
  have f1 := fx.height; have f2 := fx.epoch; have f3 := fx.view; have p1 := fx.parent32; have p2 := fx.state32; have p3 := fx.receipts32
  have g1 := fy.height; have g2 := fy.epoch; have g3 := fy.view; have q1 := fy.parent32; have q2 := fy.state32; have q3 := fy.receipts32
  simp only [encHd, List.append_assoc] at h
  obtain ⟨e1, h⟩ := numB_ap (by omega) (by omega) h
  obtain ⟨e2, h⟩ := numB_ap (by omega) (by omega) h
  obtain ⟨e3, h⟩ := numB_ap (by omega) (by omega) h
  obtain ⟨e4, h⟩ := flag_ap h
  obtain ⟨e5, h⟩ := textB_ap (by omega) (by omega) h
  obtain ⟨e6, h⟩ := textB_ap (by omega) (by omega) h
  obtain ⟨e7, h⟩ := textB_ap (by omega) (by omega) h
  obtain ⟨e8, h⟩ := List.append_inj h (by rw [fx.txs, fy.txs])
  obtain ⟨e9, h⟩ := List.append_inj h (by rw [fx.members, fy.members])
  obtain ⟨e10, h⟩ := List.append_inj h (by rw [fx.next, fy.next])
  have kh : x.height = y.height := by omega
  obtain ⟨e11, h⟩ := flS_ap (by rw [fx.skips, fy.skips, kh]) fx.each fy.each h
  exact ⟨Hd.ext' kh (by omega) (by omega) e4 e5 e6 e7 e8 e9 e10 e11, h⟩
theorem apHd : Apart fineHd encHd := ⟨fun x y r q hx hy h => encHd_ap hx hy h⟩
end Go.Proofs.Ytlfdhkahiaammaa
namespace Go.Proofs.Ytlfdhkahiaammaa
open Go Go.Sse
set_option linter.unusedVariables false
set_option linter.unusedSimpArgs false
set_option maxRecDepth 10000
abbrev tHd : Nat := 66
abbrev fnV (f : Nat) : SV := .val (.func (.func f) #[] #[])
theorem hin_ok (n m : Int) : FnC Try.prog 78 [int n, int m] [] (fun v L => v = bool (decide (0 ≤ n) && decide (n ≤ m)) ∧ L = []) := by
  refine FnC.intro Try.func78 rfl Try.ntmps78 rfl fun Z w0 hG => ?_
  focus (
 (refine W.seq (W.region (Jx.assign rfl rfl (J.nil (N.seq (W.seq (W.region (Jx.move rfl rfl (Jx.geqI rfl rfl rfl (Jx.move rfl rfl ?_))))))))))
 (refine' J.guardAnd rfl rfl rfl rfl rfl rfl rfl rfl (fun _ => ?_) ?_; rotate_left)
 (refine J.gY rfl rfl rfl ?_)
 (refine Jx.move rfl rfl (J.gY rfl rfl rfl ?_))
 (refine Jx.move rfl rfl (J.gY rfl rfl rfl ?_))
 (refine Jx.leqI rfl rfl rfl (J.nil ?_))
 (refine N.joinedN rfl rfl rfl)
 (refine Jx.assign rfl rfl (J.nil (N.seq (W.ret ?_))))
 (refine id ?_; rotate_left))
  exact N.ret (rs := [.tmp 4]) rfl (.tmp rfl .nil) ⟨rfl, rfl⟩
theorem hsum_ok (s : List UInt8) : FnC Try.prog 79 [str s] [] (fun v L => v = bool (sumB s) ∧ L = []) := by
  refine FnC.intro Try.func79 rfl Try.ntmps79 rfl fun Z w0 hG => ?_
  focus (
 (refine W.seq (W.region (Jx.assign rfl rfl (J.nil (N.seq (W.seq (W.region (Jx.move rfl rfl (Jx.lenS rfl rfl ?_)))))))))
 (refine Jx.eqlI rfl rfl rfl (Jx.assign rfl rfl (J.nil (N.seq (W.ret ?_)))))
 (refine id ?_; rotate_left))
  exact N.ret (rs := [.tmp 2]) rfl (.tmp rfl .nil) ⟨rfl, rfl⟩
theorem hodd_ok (s : List UInt8) : FnC Try.prog 80 [str s] [] (fun v L => v = bool (!sumB s) ∧ L = []) := by
  have c := hsum_ok s
  refine FnC.intro Try.func80 rfl Try.ntmps80 rfl fun Z w0 hG => ?_
  focus (
 (refine W.seq (W.region (Jx.assign rfl rfl (J.nil (N.seq (W.seq (W.region (Jx.move rfl rfl ?_))))))))
 (refine J.call (c) rfl (evs_args rfl) rfl ?_; rintro _ _ ⟨rfl, rfl⟩; simp only [la1, la2, la3])
 (refine Jx.not rfl rfl (Jx.assign rfl rfl (J.nil (N.seq (W.ret ?_)))))
 (refine id ?_; rotate_left))
  exact N.ret (rs := [.tmp 2]) rfl (.tmp rfl .nil) ⟨rfl, rfl⟩
theorem hmaybe_ok (s : List UInt8) : FnC Try.prog 82 [str s] [] (fun v L => v = bool (maybeB s) ∧ L = []) := by
  have c := hsum_ok s
  refine FnC.intro Try.func82 rfl Try.ntmps82 rfl fun Z w0 hG => ?_
  focus (
 (refine W.seq (W.region (Jx.assign rfl rfl (J.nil (N.seq (W.seq (W.region (Jx.move rfl rfl (Jx.eqlS rfl rfl rfl (Jx.move rfl rfl ?_))))))))))
 (refine' J.guardOr rfl rfl rfl rfl rfl rfl rfl rfl (fun _ => ?_) ?_; rotate_left)
 (refine J.gY rfl rfl rfl ?_)
 (refine Jx.move rfl rfl (J.gY rfl rfl rfl ?_))
 (refine J.call (c) rfl (evs_args rfl) rfl ?_; rintro _ _ ⟨rfl, rfl⟩; simp only [la1, la2, la3])
 (refine J.nil ?_)
 (refine N.joinedN rfl rfl rfl)
 (refine Jx.assign rfl rfl (J.nil (N.seq (W.ret ?_))))
 (refine id ?_; rotate_left))
  exact N.ret (rs := [.tmp 2]) rfl (.tmp rfl .nil) ⟨rfl, rfl⟩
def idxP (l : List (List UInt8)) (p : List UInt8 → Bool) : Int := match l.findIdx? p with
  | some i => (i : Int)
  | none => -1
theorem indexF_ok (l : List (List UInt8)) (hl : l.length ≤ 1048576) : FnC Try.prog 83 [ssl l, fnV 80] [] (fun v L => v = int (idxP l fun s => !sumB s) ∧ L = []) := by
  have c := fun i => hodd_ok (l.getD i [])
  refine FnC.intro Try.func83 rfl Try.ntmps83 rfl fun Z w0 hG => ?_
  focus (
 (refine W.seq (W.region (Jx.assign rfl rfl (J.nil (N.seq (W.seq (W.seq (W.region (Jx.move rfl rfl (Jx.lenSl rfl rfl ?_))))))))))
 (refine Jx.move rfl rfl (J.nil (N.seq (W.block ?_))))
 (refine id ?_; rotate_left))
  refine W.loop (α := Nat) (fun i => [(8, int (i : Int)), (7, int l.length), (1, fnV 80), (0, ssl l)]) (fun _ => []) (fun i => i ≤ l.length ∧ ∀ y ∈ l.take i, (!sumB y) = false) (fun i => l.length - i) 0 (by simp) rfl ⟨ref0 rfl, ref0 rfl, ref0 rfl, ref0 rfl, trivial⟩ ?_
  rintro i ⟨hi, hn⟩
  by_cases h1 : i < l.length
  · have ci := c i
    cases h2 : (!sumB (l.getD i [])) with
    | true =>
      rw [h2] at ci
      have := findIdx_take (p := fun s => !sumB s) hn h1 [] h2
      focus (
 (refine W.seq (W.region (Jx.lssI rfl rfl rfl (J.nil (N.seq (W.seq (W.cT rfl ?_)))))))
 (refine W.skip (N.seq (W.seq (W.block (W.seq (W.region (Jx.move rfl rfl (Jx.assign rfl rfl (J.nil (N.seq (W.seq (W.region (Jx.move rfl rfl (Jx.move rfl rfl ?_))))))))))))))
 (refine Jx.move rfl rfl (Jx.indexEl rfl rfl (by assumption) rfl rfl ?_))
 (refine Jx.loadPP rfl rfl ?_)
 (refine J.callV (us := []) (vs := []) (args := [str (l.getD i [])]) (Lc := []) rfl ci rfl (evs_args rfl) rfl ?_; rintro _ _ ⟨rfl, rfl⟩; simp only [la1, la2, la3])
 (refine J.nil (N.seq (W.cT rfl ?_)))
 (refine W.seq (W.region (Jx.move rfl rfl (Jx.assign rfl rfl (J.nil (N.seq (W.ret (N.noGotoRet (N.noGotoRet (N.noGotoRet (N.noGotoRet (N.noGotoRet ?_))))))))))))
 (refine id ?_; rotate_left))
      exact N.ret (rs := [.tmp 4]) rfl (.tmp rfl .nil) ⟨by rw [idxP, this]; rfl, rfl⟩
    | false =>
      rw [h2] at ci
      focus (
 (refine W.seq (W.region (Jx.lssI rfl rfl rfl (J.nil (N.seq (W.seq (W.cT rfl ?_)))))))
 (refine W.skip (N.seq (W.seq (W.block (W.seq (W.region (Jx.move rfl rfl (Jx.assign rfl rfl (J.nil (N.seq (W.seq (W.region (Jx.move rfl rfl (Jx.move rfl rfl ?_))))))))))))))
 (refine Jx.move rfl rfl (Jx.indexEl rfl rfl (by assumption) rfl rfl ?_))
 (refine Jx.loadPP rfl rfl ?_)
 (refine J.callV (us := []) (vs := []) (args := [str (l.getD i [])]) (Lc := []) rfl ci rfl (evs_args rfl) rfl ?_; rintro _ _ ⟨rfl, rfl⟩; simp only [la1, la2, la3])
 (refine J.nil (N.seq (W.cF rfl ?_)))
 (refine W.skip (N.seq (W.region (Jx.add64 rfl rfl (by omega) rfl ?_))))
 (refine Jx.move rfl rfl (J.nil ?_))
 (refine id ?_; rotate_left))
      refine N.round (i + 1) ⟨h1, fun y hy => ?_⟩ (by omega) rfl ⟨ref0 rfl, ref0 rfl, ref0 rfl, ref0 rfl, trivial⟩
      rw [List.take_add_one, List.getElem?_eq_getElem h1] at hy
      rcases List.mem_append.1 hy with hy | hy
      · exact hn y hy
      · simp only [Option.toList_some, List.mem_singleton] at hy
        subst hy
        rw [List.getD_eq_getElem?_getD, List.getElem?_eq_getElem h1] at h2
        exact h2
  · have : l.findIdx? (fun s => !sumB s) = none := List.findIdx?_eq_none_iff.2 fun y hy => hn y (by rw [List.take_of_length_le (by omega)]; exact hy)
    focus (
 (refine W.seq (W.region (Jx.lssI rfl rfl rfl (J.nil (N.seq (W.seq (W.cF rfl ?_)))))))
 (refine W.exit (N.seq (W.seq (W.region (Jx.assign rfl rfl (J.nil (N.seq (W.ret ?_))))))))
 (refine id ?_; rotate_left))
    exact N.ret (rs := [.tmp 4]) rfl (.tmp rfl .nil) ⟨by rw [idxP, this]; rfl, rfl⟩
theorem idxP_any (l : List (List UInt8)) (p : List UInt8 → Bool) : decide (0 ≤ idxP l p) = l.any p := by
  unfold idxP
  cases h : l.findIdx? p with
  | none =>
    have := List.findIdx?_eq_none_iff.1 h
    have ha : l.any p = false := List.any_eq_false.2 fun x hx => by rw [this x hx]; simp
    rw [ha]; rfl
  | some i =>
    obtain ⟨hi, hp, _⟩ := List.findIdx?_eq_some_iff_getElem.1 h
    have ha : l.any p = true := List.any_eq_true.2 ⟨_, List.getElem_mem hi, hp⟩
    rw [ha]
    exact decide_eq_true (by show (0 : Int) ≤ (i : Int); omega)
theorem contains_ok (l : List (List UInt8)) (hl : l.length ≤ 1048576) : FnC Try.prog 81 [ssl l, fnV 80] [] (fun v L => v = bool (l.any fun s => !sumB s) ∧ L = []) := by
  have c := indexF_ok l hl
  have h := idxP_any l fun s => !sumB s
  refine FnC.intro Try.func81 rfl Try.ntmps81 rfl fun Z w0 hG => ?_
  focus (
 (refine W.seq (W.region (Jx.assign rfl rfl (J.nil (N.seq (W.seq (W.region (Jx.move rfl rfl (Jx.move rfl rfl ?_)))))))))
 (refine J.call (c) rfl (evs_args rfl) rfl ?_; rintro _ _ ⟨rfl, rfl⟩; simp only [la1, la2, la3])
 (refine Jx.geqI rfl rfl rfl (Jx.assign rfl rfl (J.nil (N.seq (W.ret ?_)))))
 (refine id ?_; rotate_left))
  exact N.ret (rs := [.tmp 4]) rfl (.tmp rfl .nil) ⟨congrArg Sse.bool h, rfl⟩
theorem hnumbers_ok (h : Hd) : FnC Try.prog 72 [.agg (hdC h)] [] (fun v L => v = bool (numbersH h) ∧ L = []) := by
  have c1 := hin_ok h.height 1048576
  have c2 := hin_ok h.epoch 1048576
  have c3 := hin_ok h.view 1048576
  refine FnC.intro Try.func72 rfl Try.ntmps72 rfl fun Z w0 hG => ?_
  focus (
 (refine W.seq (W.region ?_))
 (refine J.boxAg rfl rfl ?_; intro b')
 (refine Jx.assign rfl rfl (J.nil (N.seq (W.seq (W.region (Jx.assign rfl rfl (J.nil (N.seq (W.seq (W.region (Jx.move rfl rfl (Jx.fieldAddr rfl rfl ?_))))))))))))
 (refine Jx.load rfl 0 rfl rfl rfl ?_)
 (refine J.callV (us := []) (vs := []) (args := [int h.height, int 1048576]) (Lc := []) rfl c1 rfl (evs_args rfl) rfl ?_; rintro _ _ ⟨rfl, rfl⟩; simp only [la1, la2, la3])
 (refine Jx.move rfl rfl ?_)
 (refine' J.guardAnd rfl rfl rfl rfl rfl rfl rfl rfl (fun _ => ?_) ?_; rotate_left)
 (refine J.gY rfl rfl rfl ?_)
 (refine Jx.move rfl rfl (J.gY rfl rfl rfl ?_))
 (refine Jx.fieldAddr rfl rfl ?_)
 (refine J.gY rfl rfl rfl ?_)
 (refine Jx.load rfl 0 rfl rfl rfl ?_)
 (refine J.gY rfl rfl rfl ?_)
 (refine J.callV (us := []) (vs := []) (args := [int h.epoch, int 1048576]) (Lc := []) rfl c2 rfl (evs_args rfl) rfl ?_; rintro _ _ ⟨rfl, rfl⟩; simp only [la1, la2, la3])
 (refine J.nil ?_)
 (refine N.joinedN rfl rfl rfl)
 (refine Jx.move rfl rfl ?_)
 (refine' J.guardAnd rfl rfl rfl rfl rfl rfl rfl rfl (fun _ => ?_) ?_; rotate_left)
 (refine J.gY rfl rfl rfl ?_)
 (refine Jx.move rfl rfl (J.gY rfl rfl rfl ?_))
 (refine Jx.fieldAddr rfl rfl ?_)
 (refine J.gY rfl rfl rfl ?_)
 (refine Jx.load rfl 0 rfl rfl rfl ?_)
 (refine J.gY rfl rfl rfl ?_)
 (refine J.callV (us := []) (vs := []) (args := [int h.view, int 1048576]) (Lc := []) rfl c3 rfl (evs_args rfl) rfl ?_; rintro _ _ ⟨rfl, rfl⟩; simp only [la1, la2, la3])
 (refine J.nil ?_)
 (refine N.joinedN rfl rfl rfl)
 (refine Jx.assign rfl rfl (J.nil (N.seq (W.ret ?_))))
 (refine id ?_; rotate_left))
  exact N.retD (rs := [.tmp 2]) (L1 := []) rfl (.tmp rfl .nil) (List.nil_sublist _) ⟨rfl, rfl⟩
theorem hfirst_ok (h : Hd) : FnC Try.prog 73 [.agg (hdC h)] [] (fun v L => v = bool (firstH h) ∧ L = []) := by
  have c1 := hsum_ok h.parent
  refine FnC.intro Try.func73 rfl Try.ntmps73 rfl fun Z w0 hG => ?_
  by_cases h0 : 0 < h.height
  · focus (
 (refine W.seq (W.region ?_))
 (refine J.boxAg rfl rfl ?_; intro b')
 (refine Jx.assign rfl rfl (J.nil (N.seq (W.seq (W.seq (W.region (Jx.fieldAddr rfl rfl ?_)))))))
 (refine Jx.load rfl 0 rfl rfl rfl ?_)
 (refine Jx.gtrI rfl rfl rfl (J.nil (N.seq (W.cT rfl ?_))))
 (refine W.seq (W.region (Jx.fieldAddr rfl rfl ?_)))
 (refine Jx.load rfl 0 rfl rfl rfl ?_)
 (refine J.call (c1) rfl (evs_args rfl) rfl ?_; rintro _ _ ⟨rfl, rfl⟩; simp only [la1, la2, la3])
 (refine Jx.assign rfl rfl (J.nil (N.seq (W.ret (N.noGotoRet ?_)))))
 (refine id ?_; rotate_left))
    exact N.retD (rs := [.tmp 2]) (L1 := []) rfl (.tmp rfl .nil) (List.nil_sublist _) ⟨by rw [firstH, if_pos h0]; rfl, rfl⟩
  · focus (
 (refine W.seq (W.region ?_))
 (refine J.boxAg rfl rfl ?_; intro b')
 (refine Jx.assign rfl rfl (J.nil (N.seq (W.seq (W.seq (W.region (Jx.fieldAddr rfl rfl ?_)))))))
 (refine Jx.load rfl 0 rfl rfl rfl ?_)
 (refine Jx.gtrI rfl rfl rfl (J.nil (N.seq (W.cF rfl ?_))))
 (refine W.skip (N.seq (W.seq (W.region (Jx.fieldAddr rfl rfl ?_)))))
 (refine Jx.load rfl 0 rfl rfl rfl ?_)
 (refine Jx.eqlS rfl rfl rfl (Jx.move rfl rfl ?_))
 (refine' J.guardAnd rfl rfl rfl rfl rfl rfl rfl rfl (fun _ => ?_) ?_; rotate_left)
 (refine J.gY rfl rfl rfl ?_)
 (refine Jx.fieldAddr rfl rfl ?_)
 (refine J.gY rfl rfl rfl ?_)
 (refine Jx.load rfl 0 rfl rfl rfl ?_)
 (refine J.gY rfl rfl rfl ?_)
 (refine Jx.eqlI rfl rfl rfl (J.nil ?_))
 (refine N.joinedN rfl rfl rfl)
 (refine Jx.move rfl rfl ?_)
 (refine' J.guardAnd rfl rfl rfl rfl rfl rfl rfl rfl (fun _ => ?_) ?_; rotate_left)
 (refine J.gY rfl rfl rfl ?_)
 (refine Jx.fieldAddr rfl rfl ?_)
 (refine J.gY rfl rfl rfl ?_)
 (refine Jx.load rfl 0 rfl rfl rfl ?_)
 (refine J.gY rfl rfl rfl ?_)
 (refine Jx.eqlI rfl rfl rfl (J.nil ?_))
 (refine N.joinedN rfl rfl rfl)
 (refine Jx.move rfl rfl ?_)
 (refine' J.guardAnd rfl rfl rfl rfl rfl rfl rfl rfl (fun _ => ?_) ?_; rotate_left)
 (refine J.gY rfl rfl rfl ?_)
 (refine Jx.fieldAddr rfl rfl ?_)
 (refine J.gY rfl rfl rfl ?_)
 (refine Jx.load rfl 0 rfl rfl rfl ?_)
 (refine J.nil ?_)
 (refine N.joinedN rfl rfl rfl)
 (refine Jx.assign rfl rfl (J.nil (N.seq (W.ret ?_))))
 (refine id ?_; rotate_left))
    exact N.retD (rs := [.tmp 2]) (L1 := []) rfl (.tmp rfl .nil) (List.nil_sublist _) ⟨by rw [firstH, if_neg h0]; rfl, rfl⟩
set_option maxHeartbeats 2000000 in
theorem hsums_ok (h : Hd) (hl : h.skips.length ≤ 1048576) : FnC Try.prog 74 [.agg (hdC h)] [] (fun v L => v = bool (sumsH h) ∧ L = []) := by
  have c1 := hsum_ok h.txs
  have c2 := hsum_ok h.members
  have c3 := hsum_ok h.next
  have c4 := hmaybe_ok h.state
  have c5 := hmaybe_ok h.receipts
  have c6 := links_ok h.height
  have c7 := contains_ok h.skips hl
  refine FnC.intro Try.func74 rfl Try.ntmps74 rfl fun Z w0 hG => ?_
  by_cases h0 : 0 < h.height
  · by_cases h1 : (h.skips.length : Int) = ((linksI h.height).length : Int)
    · focus (
 (refine W.seq (W.region ?_))
 (refine J.boxAg rfl rfl ?_; intro b')
 (refine Jx.assign rfl rfl (J.nil (N.seq (W.seq (W.region (Jx.assign rfl rfl (J.nil (N.seq (W.seq (W.region (Jx.assign rfl rfl (J.nil (N.seq (W.seq ?_))))))))))))))
 (refine W.block (W.seq (W.block (W.seq (W.block (W.seq (W.seq (W.seq (W.region (Jx.fieldAddr rfl rfl ?_))))))))))
 (refine Jx.load rfl 0 rfl rfl rfl ?_)
 (refine Jx.gtrI rfl rfl rfl (Jx.assign rfl rfl (J.nil (N.seq (W.cT rfl ?_)))))
 (refine W.exit (N.seq ?_))
 (refine W.draw follows ?_)
 (refine JD.calm rfl (by decide +kernel) ?_)
 (refine Cx.fieldAddr rfl rfl ?_)
 (refine Cx.load rfl 0 rfl rfl rfl ?_)
 (refine Cx.lenSl rfl rfl ?_)
 (refine Cx.fieldAddr rfl rfl ?_)
 (refine Cx.load rfl 0 rfl rfl rfl ?_)
 (refine SegC.q (Qs.call (Lc := []) (c6) (fun s L' h => h) (List.Perm.refl _) (evs_args rfl)) rfl ?_)
 (refine Cx.lenSl rfl rfl ?_)
 (refine Cx.eqlI rfl rfl rfl ?_)
 (refine Cx.move rfl rfl ?_)
 (refine SegC.gY rfl rfl rfl ?_)
 (refine Cx.fieldAddr rfl rfl ?_)
 (refine SegC.gY rfl rfl rfl ?_)
 (refine Cx.load rfl 0 rfl rfl rfl ?_)
 (refine SegC.gY rfl rfl rfl ?_)
 (refine Cx.move rfl rfl ?_)
 (refine SegC.gY rfl rfl rfl ?_)
 (refine SegC.q (Qs.call (Lc := []) (c7) (fun s L' h => h) (List.Perm.refl _) (evs_args rfl)) rfl ?_)
 (refine SegC.gY rfl rfl rfl ?_)
 (refine Cx.not rfl rfl ?_)
 (refine Cx.pickT rfl (by first | rfl | assumption | (exact decide_eq_true (by first | assumption | omega | rfl)) | (exact decide_eq_false (by first | assumption | omega | rfl)) | (simp; done) | (simp; omega)) rfl rfl ?_)
 (refine Cx.assign rfl rfl ?_)
 (refine SegC.nil ?_)
 (refine N.seq (W.seq (W.seq (W.region (Jx.move rfl rfl (Jx.move rfl rfl ?_))))))
 (refine' J.guardAnd rfl rfl rfl rfl rfl rfl rfl rfl (fun _ => ?_) ?_; rotate_left)
 (refine J.gY rfl rfl rfl ?_)
 (refine Jx.fieldAddr rfl rfl ?_)
 (refine J.gY rfl rfl rfl ?_)
 (refine Jx.load rfl 0 rfl rfl rfl ?_)
 (refine J.gY rfl rfl rfl ?_)
 (refine J.call (c1) rfl (evs_args rfl) rfl ?_; rintro _ _ ⟨rfl, rfl⟩; simp only [la1, la2, la3])
 (refine J.nil ?_)
 (refine N.joinedN rfl rfl rfl)
 (refine Jx.move rfl rfl ?_)
 (refine' J.guardAnd rfl rfl rfl rfl rfl rfl rfl rfl (fun _ => ?_) ?_; rotate_left)
 (refine J.gY rfl rfl rfl ?_)
 (refine Jx.fieldAddr rfl rfl ?_)
 (refine J.gY rfl rfl rfl ?_)
 (refine Jx.load rfl 0 rfl rfl rfl ?_)
 (refine J.gY rfl rfl rfl ?_)
 (refine J.call (c2) rfl (evs_args rfl) rfl ?_; rintro _ _ ⟨rfl, rfl⟩; simp only [la1, la2, la3])
 (refine J.nil ?_)
 (refine N.joinedN rfl rfl rfl)
 (refine Jx.move rfl rfl ?_)
 (refine' J.guardAnd rfl rfl rfl rfl rfl rfl rfl rfl (fun _ => ?_) ?_; rotate_left)
 (refine J.gY rfl rfl rfl ?_)
 (refine Jx.fieldAddr rfl rfl ?_)
 (refine J.gY rfl rfl rfl ?_)
 (refine Jx.load rfl 0 rfl rfl rfl ?_)
 (refine J.gY rfl rfl rfl ?_)
 (refine J.call (c3) rfl (evs_args rfl) rfl ?_; rintro _ _ ⟨rfl, rfl⟩; simp only [la1, la2, la3])
 (refine J.nil ?_)
 (refine N.joinedN rfl rfl rfl)
 (refine Jx.move rfl rfl ?_)
 (refine' J.guardAnd rfl rfl rfl rfl rfl rfl rfl rfl (fun _ => ?_) ?_; rotate_left)
 (refine J.gY rfl rfl rfl ?_)
 (refine Jx.fieldAddr rfl rfl ?_)
 (refine J.gY rfl rfl rfl ?_)
 (refine Jx.load rfl 0 rfl rfl rfl ?_)
 (refine J.gY rfl rfl rfl ?_)
 (refine J.call (c4) rfl (evs_args rfl) rfl ?_; rintro _ _ ⟨rfl, rfl⟩; simp only [la1, la2, la3])
 (refine J.nil ?_)
 (refine N.joinedN rfl rfl rfl)
 (refine Jx.move rfl rfl ?_)
 (refine' J.guardAnd rfl rfl rfl rfl rfl rfl rfl rfl (fun _ => ?_) ?_; rotate_left)
 (refine J.gY rfl rfl rfl ?_)
 (refine Jx.fieldAddr rfl rfl ?_)
 (refine J.gY rfl rfl rfl ?_)
 (refine Jx.load rfl 0 rfl rfl rfl ?_)
 (refine J.gY rfl rfl rfl ?_)
 (refine J.call (c5) rfl (evs_args rfl) rfl ?_; rintro _ _ ⟨rfl, rfl⟩; simp only [la1, la2, la3])
 (refine J.nil ?_)
 (refine N.joinedN rfl rfl rfl)
 (refine Jx.assign rfl rfl (J.nil (N.seq (W.ret (N.noGotoRet (N.noGotoRet (N.noGotoRet ?_)))))))
 (refine id ?_; rotate_left))
      refine N.retD (rs := [.tmp 2]) (L1 := []) rfl (.tmp rfl .nil) (List.nil_sublist _) ⟨congrArg Sse.bool ?_, rfl⟩
      rw [sumsH, if_pos h0, skipsH, decide_eq_true h1, Bool.true_and]; rfl
    · focus (
 (refine W.seq (W.region ?_))
 (refine J.boxAg rfl rfl ?_; intro b')
 (refine Jx.assign rfl rfl (J.nil (N.seq (W.seq (W.region (Jx.assign rfl rfl (J.nil (N.seq (W.seq (W.region (Jx.assign rfl rfl (J.nil (N.seq (W.seq ?_))))))))))))))
 (refine W.block (W.seq (W.block (W.seq (W.block (W.seq (W.seq (W.seq (W.region (Jx.fieldAddr rfl rfl ?_))))))))))
 (refine Jx.load rfl 0 rfl rfl rfl ?_)
 (refine Jx.gtrI rfl rfl rfl (Jx.assign rfl rfl (J.nil (N.seq (W.cT rfl ?_)))))
 (refine W.exit (N.seq ?_))
 (refine W.draw follows ?_)
 (refine JD.calm rfl (by decide +kernel) ?_)
 (refine Cx.fieldAddr rfl rfl ?_)
 (refine Cx.load rfl 0 rfl rfl rfl ?_)
 (refine Cx.lenSl rfl rfl ?_)
 (refine Cx.fieldAddr rfl rfl ?_)
 (refine Cx.load rfl 0 rfl rfl rfl ?_)
 (refine SegC.q (Qs.call (Lc := []) (c6) (fun s L' h => h) (List.Perm.refl _) (evs_args rfl)) rfl ?_)
 (refine Cx.lenSl rfl rfl ?_)
 (refine Cx.eqlI rfl rfl rfl ?_)
 (refine Cx.move rfl rfl ?_)
 (refine SegC.gN rfl rfl rfl rfl ?_)
 (refine SegC.gN rfl rfl rfl rfl ?_)
 (refine SegC.gN rfl rfl rfl rfl ?_)
 (refine SegC.gN rfl rfl rfl rfl ?_)
 (refine SegC.gN rfl rfl rfl rfl ?_)
 (refine Cx.pickF rfl (by first | rfl | assumption | (exact decide_eq_true (by first | assumption | omega | rfl)) | (exact decide_eq_false (by first | assumption | omega | rfl)) | (simp; done) | (simp; omega)) rfl rfl ?_)
 (refine Cx.assign rfl rfl ?_)
 (refine SegC.nil ?_)
 (refine N.seq (W.seq (W.seq (W.region (Jx.move rfl rfl (Jx.move rfl rfl (J.gN rfl rfl rfl rfl ?_)))))))
 (refine J.gN rfl rfl rfl rfl ?_)
 (refine J.gN rfl rfl rfl rfl ?_)
 (refine Jx.pF rfl rfl rfl ?_)
 (refine Jx.move rfl rfl (J.gN rfl rfl rfl rfl ?_))
 (refine J.gN rfl rfl rfl rfl ?_)
 (refine J.gN rfl rfl rfl rfl ?_)
 (refine Jx.pF rfl rfl rfl ?_)
 (refine Jx.move rfl rfl (J.gN rfl rfl rfl rfl ?_))
 (refine J.gN rfl rfl rfl rfl ?_)
 (refine J.gN rfl rfl rfl rfl ?_)
 (refine Jx.pF rfl rfl rfl ?_)
 (refine Jx.move rfl rfl (J.gN rfl rfl rfl rfl ?_))
 (refine J.gN rfl rfl rfl rfl ?_)
 (refine J.gN rfl rfl rfl rfl ?_)
 (refine Jx.pF rfl rfl rfl ?_)
 (refine Jx.move rfl rfl (J.gN rfl rfl rfl rfl ?_))
 (refine J.gN rfl rfl rfl rfl ?_)
 (refine J.gN rfl rfl rfl rfl ?_)
 (refine Jx.pF rfl rfl rfl ?_)
 (refine Jx.assign rfl rfl (J.nil (N.seq (W.ret (N.noGotoRet (N.noGotoRet (N.noGotoRet ?_)))))))
 (refine id ?_; rotate_left))
      refine N.retD (rs := [.tmp 2]) (L1 := []) rfl (.tmp rfl .nil) (List.nil_sublist _) ⟨congrArg Sse.bool ?_, rfl⟩
      rw [sumsH, if_pos h0, skipsH, decide_eq_false h1, Bool.false_and]; rfl
  · by_cases h1 : (h.skips.length : Int) = 0
    · focus (
 (refine W.seq (W.region ?_))
 (refine J.boxAg rfl rfl ?_; intro b')
 (refine Jx.assign rfl rfl (J.nil (N.seq (W.seq (W.region (Jx.assign rfl rfl (J.nil (N.seq (W.seq (W.region (Jx.assign rfl rfl (J.nil (N.seq (W.seq ?_))))))))))))))
 (refine W.block (W.seq (W.block (W.seq (W.block (W.seq (W.seq (W.seq (W.region (Jx.fieldAddr rfl rfl ?_))))))))))
 (refine Jx.load rfl 0 rfl rfl rfl ?_)
 (refine Jx.gtrI rfl rfl rfl (Jx.assign rfl rfl (J.nil (N.seq (W.cF rfl ?_)))))
 (refine W.skip (N.seq (W.seq (W.region (Jx.fieldAddr rfl rfl ?_)))))
 (refine Jx.load rfl 0 rfl rfl rfl ?_)
 (refine Jx.lenSl rfl rfl ?_)
 (refine Jx.eqlI rfl rfl rfl (Jx.assign rfl rfl (J.nil (N.seq (W.cT rfl ?_)))))
 (refine W.exit (N.seq (W.seq (W.seq (W.region (Jx.move rfl rfl (Jx.move rfl rfl (J.gY rfl rfl rfl ?_))))))))
 (refine Jx.fieldAddr rfl rfl ?_)
 (refine J.gY rfl rfl rfl ?_)
 (refine Jx.load rfl 0 rfl rfl rfl ?_)
 (refine J.gY rfl rfl rfl ?_)
 (refine J.call (c1) rfl (evs_args rfl) rfl ?_; rintro _ _ ⟨rfl, rfl⟩; simp only [la1, la2, la3])
 (refine Jx.pT rfl rfl rfl ?_)
 (refine Jx.move rfl rfl ?_)
 (refine' J.guardAnd rfl rfl rfl rfl rfl rfl rfl rfl (fun _ => ?_) ?_; rotate_left)
 (refine J.gY rfl rfl rfl ?_)
 (refine Jx.fieldAddr rfl rfl ?_)
 (refine J.gY rfl rfl rfl ?_)
 (refine Jx.load rfl 0 rfl rfl rfl ?_)
 (refine J.gY rfl rfl rfl ?_)
 (refine J.call (c2) rfl (evs_args rfl) rfl ?_; rintro _ _ ⟨rfl, rfl⟩; simp only [la1, la2, la3])
 (refine J.nil ?_)
 (refine N.joinedN rfl rfl rfl)
 (refine Jx.move rfl rfl ?_)
 (refine' J.guardAnd rfl rfl rfl rfl rfl rfl rfl rfl (fun _ => ?_) ?_; rotate_left)
 (refine J.gY rfl rfl rfl ?_)
 (refine Jx.fieldAddr rfl rfl ?_)
 (refine J.gY rfl rfl rfl ?_)
 (refine Jx.load rfl 0 rfl rfl rfl ?_)
 (refine J.gY rfl rfl rfl ?_)
 (refine J.call (c3) rfl (evs_args rfl) rfl ?_; rintro _ _ ⟨rfl, rfl⟩; simp only [la1, la2, la3])
 (refine J.nil ?_)
 (refine N.joinedN rfl rfl rfl)
 (refine Jx.move rfl rfl ?_)
 (refine' J.guardAnd rfl rfl rfl rfl rfl rfl rfl rfl (fun _ => ?_) ?_; rotate_left)
 (refine J.gY rfl rfl rfl ?_)
 (refine Jx.fieldAddr rfl rfl ?_)
 (refine J.gY rfl rfl rfl ?_)
 (refine Jx.load rfl 0 rfl rfl rfl ?_)
 (refine J.gY rfl rfl rfl ?_)
 (refine J.call (c4) rfl (evs_args rfl) rfl ?_; rintro _ _ ⟨rfl, rfl⟩; simp only [la1, la2, la3])
 (refine J.nil ?_)
 (refine N.joinedN rfl rfl rfl)
 (refine Jx.move rfl rfl ?_)
 (refine' J.guardAnd rfl rfl rfl rfl rfl rfl rfl rfl (fun _ => ?_) ?_; rotate_left)
 (refine J.gY rfl rfl rfl ?_)
 (refine Jx.fieldAddr rfl rfl ?_)
 (refine J.gY rfl rfl rfl ?_)
 (refine Jx.load rfl 0 rfl rfl rfl ?_)
 (refine J.gY rfl rfl rfl ?_)
 (refine J.call (c5) rfl (evs_args rfl) rfl ?_; rintro _ _ ⟨rfl, rfl⟩; simp only [la1, la2, la3])
 (refine J.nil ?_)
 (refine N.joinedN rfl rfl rfl)
 (refine Jx.assign rfl rfl (J.nil (N.seq (W.ret (N.noGotoRet (N.noGotoRet (N.noGotoRet ?_)))))))
 (refine id ?_; rotate_left))
      refine N.retD (rs := [.tmp 2]) (L1 := []) rfl (.tmp rfl .nil) (List.nil_sublist _) ⟨congrArg Sse.bool ?_, rfl⟩
      rw [sumsH, if_neg h0, if_pos h1]; rfl
    · focus (
 (refine W.seq (W.region ?_))
 (refine J.boxAg rfl rfl ?_; intro b')
 (refine Jx.assign rfl rfl (J.nil (N.seq (W.seq (W.region (Jx.assign rfl rfl (J.nil (N.seq (W.seq (W.region (Jx.assign rfl rfl (J.nil (N.seq (W.seq ?_))))))))))))))
 (refine W.block (W.seq (W.block (W.seq (W.block (W.seq (W.seq (W.seq (W.region (Jx.fieldAddr rfl rfl ?_))))))))))
 (refine Jx.load rfl 0 rfl rfl rfl ?_)
 (refine Jx.gtrI rfl rfl rfl (Jx.assign rfl rfl (J.nil (N.seq (W.cF rfl ?_)))))
 (refine W.skip (N.seq (W.seq (W.region (Jx.fieldAddr rfl rfl ?_)))))
 (refine Jx.load rfl 0 rfl rfl rfl ?_)
 (refine Jx.lenSl rfl rfl ?_)
 (refine Jx.eqlI rfl rfl rfl (Jx.assign rfl rfl (J.nil (N.seq (W.cF rfl ?_)))))
 (refine W.skip (N.seq (W.exit (N.seq (W.seq (W.region (Jx.assign rfl rfl (J.nil (N.seq (W.ret ?_))))))))))
 (refine id ?_; rotate_left))
      refine N.retD (rs := [.tmp 2]) (L1 := []) rfl (.tmp rfl .nil) (List.nil_sublist _) ⟨congrArg Sse.bool ?_, rfl⟩
      rw [sumsH, if_neg h0, if_neg h1]
theorem hcheck_ok (h : Hd) (hl : h.skips.length ≤ 1048576) : FnC Try.prog 51 [.agg (hdC h)] [] (fun v L => v = int (codeB (fineHd h) 190) ∧ L = []) := by
  have c1 := hnumbers_ok h
  have c2 := hfirst_ok h
  have c3 := hsums_ok h hl
  refine FnC.intro Try.func51 rfl Try.ntmps51 rfl fun Z w0 hG => ?_
  focus (
 (refine W.seq (W.region ?_))
 (refine J.boxAg rfl rfl ?_; intro b')
 (refine Jx.assign rfl rfl (J.nil (N.seq (W.seq (W.seq (W.region (Jx.loadAll rfl 0 rfl rfl rfl ?_)))))))
 (refine J.call (c1) rfl (evs_args rfl) rfl ?_; rintro _ _ ⟨rfl, rfl⟩; simp only [la1, la2, la3])
 (refine Jx.not rfl rfl (Jx.move rfl rfl ?_))
 (refine' J.guardOr rfl rfl rfl rfl rfl rfl rfl rfl (fun _ => ?_) ?_; rotate_left)
 (refine J.gY rfl rfl rfl ?_)
 (refine Jx.loadAll rfl 0 rfl rfl rfl ?_)
 (refine J.gY rfl rfl rfl ?_)
 (refine J.call (c2) rfl (evs_args rfl) rfl ?_; rintro _ _ ⟨rfl, rfl⟩; simp only [la1, la2, la3])
 (refine J.gY rfl rfl rfl ?_)
 (refine Jx.not rfl rfl (J.nil ?_))
 (refine N.joinedN rfl rfl rfl)
 (refine Jx.move rfl rfl ?_)
 (refine' J.guardOr rfl rfl rfl rfl rfl rfl rfl rfl (fun _ => ?_) ?_; rotate_left)
 (refine J.gY rfl rfl rfl ?_)
 (refine Jx.loadAll rfl 0 rfl rfl rfl ?_)
 (refine J.gY rfl rfl rfl ?_)
 (refine J.call (c3) rfl (evs_args rfl) rfl ?_; rintro _ _ ⟨rfl, rfl⟩; simp only [la1, la2, la3])
 (refine J.gY rfl rfl rfl ?_)
 (refine Jx.not rfl rfl (J.nil ?_))
 (refine N.joinedN rfl rfl rfl)
 (refine Jx.move rfl rfl ?_)
 (refine' J.guardOr rfl rfl rfl rfl rfl rfl rfl rfl (fun _ => ?_) ?_; rotate_left)
 (refine J.gY rfl rfl rfl ?_)
 (refine Jx.fieldAddr rfl rfl ?_)
 (refine J.gY rfl rfl rfl ?_)
 (refine Jx.load rfl 0 rfl rfl rfl ?_)
 (refine J.gY rfl rfl rfl ?_)
 (refine Jx.not rfl rfl (J.gY rfl rfl rfl ?_))
 (refine Jx.move rfl rfl ?_)
 (refine' J.guardAndG rfl rfl rfl (by first | rfl | assumption | (exact decide_eq_true (by first | assumption | omega | rfl)) | (exact decide_eq_false (by first | assumption | omega | rfl)) | (simp; done) | (simp; omega)) rfl rfl rfl rfl rfl rfl rfl rfl (fun _ => ?_) ?_; rotate_left)
 (refine J.gY rfl rfl rfl ?_)
 (refine Jx.fieldAddr rfl rfl ?_)
 (refine J.gY rfl rfl rfl ?_)
 (refine Jx.load rfl 0 rfl rfl rfl ?_)
 (refine J.gY rfl rfl rfl ?_)
 (refine Jx.fieldAddr rfl rfl ?_)
 (refine J.gY rfl rfl rfl ?_)
 (refine Jx.load rfl 0 rfl rfl rfl ?_)
 (refine J.gY rfl rfl rfl ?_)
 (refine Jx.neqS rfl rfl rfl (J.nil ?_))
 (refine N.joinedN rfl rfl rfl)
 (refine J.nil ?_)
 (refine N.joinedN rfl rfl rfl)
 (refine J.nil (N.seq ?_))
 (refine id ?_; rotate_left))
  refine W.cond rfl (fun hb => ?_) (fun hb => ?_)
  · have hf : fineHd h = false := by rw [fineHd, show badH h = true from hb]; rfl
    rw [hf]
    focus (
 (refine W.seq (W.region (Jx.assign rfl rfl (J.nil (N.seq (W.ret (N.noGotoRet ?_)))))))
 (refine id ?_; rotate_left))
    exact N.retD (rs := [.tmp 2]) (L1 := []) rfl (.tmp rfl .nil) (List.nil_sublist _) ⟨rfl, rfl⟩
  · have hf : fineHd h = true := by rw [fineHd, show badH h = false from hb]; rfl
    rw [hf]
    focus (
 (refine W.skip (N.seq (W.seq (W.region (Jx.assign rfl rfl (J.nil (N.seq (W.ret ?_))))))))
 (refine id ?_; rotate_left))
    exact N.retD (rs := [.tmp 2]) (L1 := []) rfl (.tmp rfl .nil) (List.nil_sublist _) ⟨rfl, rfl⟩
def nB (n : Int) : List UInt8 := numB n.toNat
set_option maxHeartbeats 4000000 in
theorem hencode_ok (h : Hd) (hl : h.skips.length ≤ 1048576) : FnC Try.prog 37 [.agg (hdC h)] [] (fun v L => v = .tup [str (encO fineHd encHd h), int (codeB (fineHd h) 190)] ∧ L = []) := by
  have c0 := hcheck_ok h hl
  refine FnC.intro Try.func37 rfl Try.ntmps37 rfl fun Z w0 hG => ?_
  unfold encO
  cases hf : fineHd h with
  | false =>
    rw [hf] at c0
    focus (
 (refine W.seq (W.region ?_))
 (refine J.boxAg rfl rfl ?_; intro b')
 (refine Jx.assign rfl rfl (Jx.assign rfl rfl (J.nil (N.seq (W.seq (W.seq (W.region (Jx.loadAll rfl 0 rfl rfl rfl ?_))))))))
 (refine J.call (c0) rfl (evs_args rfl) rfl ?_; rintro _ _ ⟨rfl, rfl⟩; simp only [la1, la2, la3])
 (refine Jx.assign rfl rfl (J.nil (N.seq (W.seq (W.region (Jx.move rfl rfl (Jx.neqI rfl rfl rfl (J.nil (N.seq (W.cT rfl ?_))))))))))
 (refine W.seq (W.region (Jx.move rfl rfl (Jx.assign rfl rfl (Jx.assign rfl rfl (J.nil (N.seq (W.ret (N.noGotoRet ?_)))))))))
 (refine id ?_; rotate_left))
    exact N.retD (rs := [.tmp 2, .tmp 3]) (L1 := []) rfl (.tmp rfl (.tmp rfl .nil)) (List.nil_sublist _) ⟨rfl, rfl⟩
  | true =>
    rw [hf] at c0
    rw [if_pos rfl]
    have f := (fineHd_iff h).1 hf
    have f1 := f.height; have f2 := f.epoch; have f3 := f.view
    focus (
 (refine W.seq (W.region ?_))
 (refine J.boxAg rfl rfl ?_; intro b')
 (refine Jx.assign rfl rfl (Jx.assign rfl rfl (J.nil (N.seq (W.seq (W.seq (W.region (Jx.loadAll rfl 0 rfl rfl rfl ?_))))))))
 (refine J.call (c0) rfl (evs_args rfl) rfl ?_; rintro _ _ ⟨rfl, rfl⟩; simp only [la1, la2, la3])
 (refine Jx.assign rfl rfl (J.nil (N.seq (W.seq (W.region (Jx.move rfl rfl (Jx.neqI rfl rfl rfl (J.nil (N.seq (W.cF rfl ?_))))))))))
 (refine W.skip (N.seq (W.seq (W.region (Jx.assign rfl rfl (J.nil (N.seq (W.seq (W.seq (W.region (Jx.fieldAddr rfl rfl ?_)))))))))))
 (refine Jx.load rfl 0 rfl rfl rfl ?_)
 (refine Jx.fieldAddr rfl rfl ?_)
 (refine Jx.load rfl 0 rfl rfl rfl ?_)
 (refine Jx.fieldAddr rfl rfl ?_)
 (refine Jx.load rfl 0 rfl rfl rfl ?_)
 (refine J.qs (Qs.buildL (fun n : Int => int n) 0 [h.height, h.epoch, h.view] (fun _ => .val rfl) rfl rfl rfl (by decide) (by decide) rfl) rfl ?_)
 (refine Jx.lenSl rfl rfl ?_)
 (refine Jx.move rfl rfl (J.nil (N.seq (W.block ?_))))
 (refine id ?_; rotate_left))
    refine W.loop (α := Nat) (fun i => [(25, int (i : Int)), (24, int (3 : Nat)), (23, isl [h.height, h.epoch, h.view]), (5, str (flT nB ([h.height, h.epoch, h.view].take i))), (1, ptr b')]) (fun _ => [.obj b' tHd (hdC h)]) (fun i => i ≤ 3) (fun i => 3 - i) 0 (by simp) rfl ⟨ref0 rfl, ref0 rfl, ref0 rfl, ref0 rfl, ref0 rfl, trivial⟩ ?_
    intro i hi
    by_cases h1 : i < 3
    · have hg : [h.height, h.epoch, h.view].getD i 0 ≤ 1048576 ∧ 0 ≤ [h.height, h.epoch, h.view].getD i 0 := by
        match i, h1 with
        | 0, _ => exact ⟨f1.2, f1.1⟩
        | 1, _ => exact ⟨f2.2, f2.1⟩
        | 2, _ => exact ⟨f3.2, f3.1⟩
      have h1' : i < [h.height, h.epoch, h.view].length := h1
      have c1 := Num_ok ([h.height, h.epoch, h.view].getD i 0) (by omega)
      rw [numR_pos hg.2] at c1
      have hst := flT_take nB 0 [h.height, h.epoch, h.view] i h1
      have hlen : (flT nB ([h.height, h.epoch, h.view].take i)).length ≤ 27 := by
        have := flT_len (f := nB) (k := 9) (l := [h.height, h.epoch, h.view].take i) (fun n hn => by
          have hn := List.mem_of_mem_take hn
          simp only [List.mem_cons, List.not_mem_nil, or_false] at hn
          rcases hn with rfl | rfl | rfl
          · exact numBs f1.2
          · exact numBs f2.2
          · exact numBs f3.2)
        have h3 : ([h.height, h.epoch, h.view].take i).length ≤ 3 := by rw [List.length_take]; simp only [List.length_cons, List.length_nil]; omega
        omega
      have hnl := numBs hg.1
      have hnn : nB ([h.height, h.epoch, h.view].getD i 0) = numB ([h.height, h.epoch, h.view].getD i 0).toNat := rfl
      rw [hnn] at hst
      generalize numB ([h.height, h.epoch, h.view].getD i 0).toNat = nb at *
      generalize flT nB ([h.height, h.epoch, h.view].take i) = acc at *
      focus (
 (refine W.seq (W.region (Jx.lssI rfl rfl rfl (J.nil (N.seq (W.seq (W.cT rfl ?_)))))))
 (refine W.skip (N.seq (W.seq (W.block (W.seq (W.region (Jx.indexEl rfl rfl (by assumption) rfl rfl ?_)))))))
 (refine Jx.loadPP rfl rfl ?_)
 (refine Jx.assign rfl rfl (J.nil (N.seq (W.seq (W.region (Jx.move rfl rfl ?_))))))
 (refine J.call (c1) rfl (evs_args rfl) rfl ?_; rintro _ _ ⟨rfl, rfl⟩; simp only [la1, la2, la3])
 (refine Jx.move rfl rfl (Jx.extract rfl rfl rfl ?_))
 (refine Jx.extract rfl rfl rfl ?_)
 (refine Jx.assign rfl rfl (Jx.assign rfl rfl (J.nil (N.seq (W.region (Jx.move rfl rfl (Jx.move rfl rfl (Jx.cat rfl rfl (by first | omega | (simp only [List.length_append, List.length_cons, List.length_nil]; omega)) rfl ?_))))))))
 (refine Jx.assign rfl rfl (J.nil (N.seq (W.region (Jx.add64 rfl rfl (by omega) rfl ?_)))))
 (refine Jx.move rfl rfl (J.nil ?_))
 (refine id ?_; rotate_left))
      exact N.round (i + 1) h1 (by omega) rfl ⟨ref0 rfl, ref0 rfl, ref0 rfl, ⟨_, rfl, Sub.of_eq (by rw [hst])⟩, ref0 rfl, trivial⟩
    · have hi3 : i = 3 := by omega
      subst hi3
      have hd : flT nB ([h.height, h.epoch, h.view].take 3) = numB h.height.toNat ++ (numB h.epoch.toNat ++ (numB h.view.toNat ++ [])) := rfl
      rw [hd]
      have n1 := numBs f1.2; have n2 := numBs f2.2; have n3 := numBs f3.2
      have p1 := f.parent32; have p2 := f.state32; have p3 := f.receipts32
      have t1 := textB_len p1 (by omega); have t2 := textB_len p2 (by omega); have t3 := textB_len p3 (by omega)
      have tf := flag_len h.last
      have c2 := flag_ok h.last
      have c3 := text_ok h.parent (by omega)
      have c4 := text_ok h.state (by omega)
      have c5 := text_ok h.receipts (by omega)
      have x1 := f.txs; have x2 := f.members; have x3 := f.next
      have hel := flS_len f
      have he : encHd h = numB h.height.toNat ++ (numB h.epoch.toNat ++ (numB h.view.toNat ++ (flagB h.last ++ (textB h.parent ++ (textB h.state ++ (textB h.receipts ++ (h.txs ++ (h.members ++ (h.next ++ flT idB h.skips))))))))) := rfl
      rw [he]
      have hsk : ∀ i, (flT idB (h.skips.take i)).length ≤ 640 := fun i => by
        have h2 := flT_len (f := idB) (k := 32) (l := h.skips.take i) fun s hs => by rw [idB, f.each s (List.mem_of_mem_take hs)]; exact Nat.le_refl _
        have := f.skips20
        have h3 : (h.skips.take i).length ≤ 20 := by rw [List.length_take]; omega
        omega
      generalize numB h.height.toNat = nb1 at *
      generalize numB h.epoch.toNat = nb2 at *
      generalize numB h.view.toNat = nb3 at *
      generalize flagB h.last = fb at *
      generalize textB h.parent = tp at *
      generalize textB h.state = ts at *
      generalize textB h.receipts = tr at *
      generalize hX : nb1 ++ (nb2 ++ (nb3 ++ [])) ++ (fb ++ tp ++ ts ++ tr ++ h.txs ++ h.members ++ h.next) = X at *
      have hXl : X.length ≤ 300 := by rw [← hX]; simp only [List.length_append, List.length_nil]; omega
      focus (
 (refine W.seq (W.region (Jx.lssI rfl rfl rfl (J.nil (N.seq (W.seq (W.cF rfl ?_)))))))
 (refine W.exit (N.seq (W.seq ?_)))
 (refine W.draw follows ?_)
 (refine JD.calm rfl (by decide +kernel) ?_)
 (refine Cx.move rfl rfl ?_)
 (refine Cx.fieldAddr rfl rfl ?_)
 (refine Cx.load rfl 0 rfl rfl rfl ?_)
 (refine SegC.q (Qs.call (Lc := []) (c2) (fun s L' h => h) (List.Perm.refl _) (evs_args rfl)) rfl ?_)
 (refine Cx.fieldAddr rfl rfl ?_)
 (refine Cx.load rfl 0 rfl rfl rfl ?_)
 (refine SegC.q (Qs.call (Lc := []) (c3) (fun s L' h => h) (List.Perm.refl _) (evs_args rfl)) rfl ?_)
 (refine Cx.cat rfl rfl (by first | omega | (simp only [List.length_append, List.length_cons, List.length_nil]; omega)) rfl ?_)
 (refine Cx.fieldAddr rfl rfl ?_)
 (refine Cx.load rfl 0 rfl rfl rfl ?_)
 (refine SegC.q (Qs.call (Lc := []) (c4) (fun s L' h => h) (List.Perm.refl _) (evs_args rfl)) rfl ?_)
 (refine Cx.cat rfl rfl (by first | omega | (simp only [List.length_append, List.length_cons, List.length_nil]; omega)) rfl ?_)
 (refine Cx.fieldAddr rfl rfl ?_)
 (refine Cx.load rfl 0 rfl rfl rfl ?_)
 (refine SegC.q (Qs.call (Lc := []) (c5) (fun s L' h => h) (List.Perm.refl _) (evs_args rfl)) rfl ?_)
 (refine Cx.cat rfl rfl (by first | omega | (simp only [List.length_append, List.length_cons, List.length_nil]; omega)) rfl ?_)
 (refine Cx.fieldAddr rfl rfl ?_)
 (refine Cx.load rfl 0 rfl rfl rfl ?_)
 (refine Cx.cat rfl rfl (by first | omega | (simp only [List.length_append, List.length_cons, List.length_nil]; omega)) rfl ?_)
 (refine Cx.fieldAddr rfl rfl ?_)
 (refine Cx.load rfl 0 rfl rfl rfl ?_)
 (refine Cx.cat rfl rfl (by first | omega | (simp only [List.length_append, List.length_cons, List.length_nil]; omega)) rfl ?_)
 (refine Cx.fieldAddr rfl rfl ?_)
 (refine Cx.load rfl 0 rfl rfl rfl ?_)
 (refine Cx.cat rfl rfl (by first | omega | (simp only [List.length_append, List.length_cons, List.length_nil]; omega)) rfl ?_)
 (refine Cx.cat rfl rfl (by first | omega | (simp only [List.length_append, List.length_cons, List.length_nil]; omega)) rfl ?_)
 (refine Cx.assign rfl rfl ?_)
 (refine SegC.nil ?_)
 (refine N.seq (W.seq (W.seq (W.region (Jx.fieldAddr rfl rfl ?_)))))
 (refine Jx.load rfl 0 rfl rfl rfl ?_)
 (refine Jx.lenSl rfl rfl ?_)
 (refine Jx.move rfl rfl (J.nil (N.seq (W.block ?_))))
 (refine id ?_; rotate_left))
      refine W.loop (α := Nat) (fun i => [(67, int (i : Int)), (66, int h.skips.length), (65, ssl h.skips), (5, str (X ++ flT idB (h.skips.take i)))]) (fun _ => [.obj b' tHd (hdC h)]) (fun i => i ≤ h.skips.length) (fun i => h.skips.length - i) 0 (by simp) rfl ⟨ref0 rfl, ref0 rfl, ref0 rfl, ⟨_, rfl, Sub.of_eq (by rw [hX]; simp [flT])⟩, trivial⟩ ?_
      intro i hi
      by_cases h2 : i < h.skips.length
      · have hst := flT_take idB [] h.skips i h2
        have hsi : (h.skips.getD i []).length = 32 := f.each _ (getD_mem h2)
        have hki := hsk i
        have hst2 : X ++ flT idB (h.skips.take i) ++ h.skips.getD i [] = X ++ flT idB (h.skips.take (i + 1)) := by rw [← hst, List.append_assoc]; rfl
        generalize flT idB (h.skips.take i) = acc at *
        focus (
 (refine W.seq (W.region (Jx.lssI rfl rfl rfl (J.nil (N.seq (W.seq (W.cT rfl ?_)))))))
 (refine W.skip (N.seq (W.seq (W.block (W.seq (W.region (Jx.indexEl rfl rfl (by assumption) rfl rfl ?_)))))))
 (refine Jx.loadPP rfl rfl ?_)
 (refine Jx.assign rfl rfl (J.nil (N.seq (W.region (Jx.move rfl rfl (Jx.move rfl rfl (Jx.cat rfl rfl (by first | omega | (simp only [List.length_append, List.length_cons, List.length_nil]; omega)) rfl ?_)))))))
 (refine Jx.assign rfl rfl (J.nil (N.seq (W.region (Jx.add64 rfl rfl (by omega) rfl ?_)))))
 (refine Jx.move rfl rfl (J.nil ?_))
 (refine id ?_; rotate_left))
        exact N.round (i + 1) h2 (by omega) rfl ⟨ref0 rfl, ref0 rfl, ref0 rfl, ⟨_, rfl, Sub.of_eq (by rw [hst2])⟩, trivial⟩
      · rw [List.take_of_length_le (by omega)]
        focus (
 (refine W.seq (W.region (Jx.lssI rfl rfl rfl (J.nil (N.seq (W.seq (W.cF rfl ?_)))))))
 (refine W.exit (N.seq (W.seq (W.region (Jx.move rfl rfl (Jx.assign rfl rfl (Jx.assign rfl rfl (J.nil (N.seq (W.ret ?_))))))))))
 (refine id ?_; rotate_left))
        refine N.retD (rs := [.tmp 2, .tmp 3]) (L1 := []) rfl (.tmp rfl (.tmp rfl .nil)) (List.nil_sublist _) ⟨?_, rfl⟩
        rw [← hX]
        simp only [oneOr, List.append_assoc, List.append_nil]
        rfl
end Go.Proofs.Ytlfdhkahiaammaa
namespace Go.Proofs.Ytlfdhkahiaammaa
open Go Go.Sse
set_option linter.unusedVariables false
set_option linter.unusedSimpArgs false
set_option maxRecDepth 10000
set_option maxHeartbeats 2000000 in
theorem sameH_ok (x y : Hd) (hb : x.skips.length ≤ 1048576) : FnC Try.prog 69 [.agg (hdC x), .agg (hdC y)] [] (fun v L => v = bool (decide (x = y)) ∧ L = []) := by
  have c := same_ok x.skips y.skips hb
  refine FnC.intro Try.func69 rfl Try.ntmps69 rfl fun Z w0 hG => ?_
  focus (
 (refine W.seq (W.region ?_))
 (refine J.boxAg rfl rfl ?_; intro b')
 (refine J.boxAg rfl rfl ?_; intro b')
 (refine Jx.assign rfl rfl (J.nil (N.seq (W.seq (W.seq (W.region (Jx.fieldAddr rfl rfl ?_)))))))
 (refine Jx.load rfl 1 rfl rfl rfl ?_)
 (refine Jx.fieldAddr rfl rfl ?_)
 (refine Jx.load rfl 0 rfl rfl rfl ?_)
 (refine Jx.neqI rfl rfl rfl (Jx.move rfl rfl ?_))
 (refine' J.guardOr rfl rfl rfl rfl rfl rfl rfl rfl (fun _ => ?_) ?_; rotate_left)
 (refine J.gY rfl rfl rfl ?_)
 (refine Jx.fieldAddr rfl rfl ?_)
 (refine J.gY rfl rfl rfl ?_)
 (refine Jx.load rfl 1 rfl rfl rfl ?_)
 (refine J.gY rfl rfl rfl ?_)
 (refine Jx.fieldAddr rfl rfl ?_)
 (refine J.gY rfl rfl rfl ?_)
 (refine Jx.load rfl 0 rfl rfl rfl ?_)
 (refine J.gY rfl rfl rfl ?_)
 (refine Jx.neqI rfl rfl rfl (J.nil ?_))
 (refine N.joinedN rfl rfl rfl)
 (refine Jx.move rfl rfl ?_)
 (refine' J.guardOr rfl rfl rfl rfl rfl rfl rfl rfl (fun _ => ?_) ?_; rotate_left)
 (refine J.gY rfl rfl rfl ?_)
 (refine Jx.fieldAddr rfl rfl ?_)
 (refine J.gY rfl rfl rfl ?_)
 (refine Jx.load rfl 1 rfl rfl rfl ?_)
 (refine J.gY rfl rfl rfl ?_)
 (refine Jx.fieldAddr rfl rfl ?_)
 (refine J.gY rfl rfl rfl ?_)
 (refine Jx.load rfl 0 rfl rfl rfl ?_)
 (refine J.gY rfl rfl rfl ?_)
 (refine Jx.neqI rfl rfl rfl (J.nil ?_))
 (refine N.joinedN rfl rfl rfl)
 (refine Jx.move rfl rfl ?_)
 (refine' J.guardOr rfl rfl rfl rfl rfl rfl rfl rfl (fun _ => ?_) ?_; rotate_left)
 (refine J.gY rfl rfl rfl ?_)
 (refine Jx.fieldAddr rfl rfl ?_)
 (refine J.gY rfl rfl rfl ?_)
 (refine Jx.load rfl 1 rfl rfl rfl ?_)
 (refine J.gY rfl rfl rfl ?_)
 (refine Jx.fieldAddr rfl rfl ?_)
 (refine J.gY rfl rfl rfl ?_)
 (refine Jx.load rfl 0 rfl rfl rfl ?_)
 (refine J.gY rfl rfl rfl ?_)
 (refine Jx.neqB rfl rfl rfl ?_)
 (refine J.nil ?_)
 (refine N.joinedN rfl rfl rfl)
 (refine Jx.move rfl rfl ?_)
 (refine' J.guardOr rfl rfl rfl rfl rfl rfl rfl rfl (fun _ => ?_) ?_; rotate_left)
 (refine J.gY rfl rfl rfl ?_)
 (refine Jx.fieldAddr rfl rfl ?_)
 (refine J.gY rfl rfl rfl ?_)
 (refine Jx.load rfl 1 rfl rfl rfl ?_)
 (refine J.gY rfl rfl rfl ?_)
 (refine Jx.fieldAddr rfl rfl ?_)
 (refine J.gY rfl rfl rfl ?_)
 (refine Jx.load rfl 0 rfl rfl rfl ?_)
 (refine J.gY rfl rfl rfl ?_)
 (refine Jx.neqS rfl rfl rfl (J.nil ?_))
 (refine N.joinedN rfl rfl rfl)
 (refine Jx.move rfl rfl ?_)
 (refine' J.guardOr rfl rfl rfl rfl rfl rfl rfl rfl (fun _ => ?_) ?_; rotate_left)
 (refine J.gY rfl rfl rfl ?_)
 (refine Jx.fieldAddr rfl rfl ?_)
 (refine J.gY rfl rfl rfl ?_)
 (refine Jx.load rfl 1 rfl rfl rfl ?_)
 (refine J.gY rfl rfl rfl ?_)
 (refine Jx.fieldAddr rfl rfl ?_)
 (refine J.gY rfl rfl rfl ?_)
 (refine Jx.load rfl 0 rfl rfl rfl ?_)
 (refine J.gY rfl rfl rfl ?_)
 (refine Jx.neqS rfl rfl rfl (J.nil ?_))
 (refine N.joinedN rfl rfl rfl)
 (refine J.nil (N.seq ?_))
 (refine id ?_; rotate_left))
  refine W.cond rfl (fun hb => ?_) (fun hb => ?_)
  · have hne : x ≠ y := fun e => by subst e; simp at hb
    rw [decide_eq_false hne]
    focus (
 (refine W.seq (W.region (Jx.assign rfl rfl (J.nil (N.seq (W.ret (N.noGotoRet ?_)))))))
 (refine id ?_; rotate_left))
    exact N.retD (rs := [.tmp 4]) (L1 := []) rfl (.tmp rfl .nil) (List.nil_sublist _) ⟨rfl, rfl⟩
  · simp only [Bool.or_eq_false_iff, decide_eq_false_iff_not, Classical.not_not, Bool.not_eq_false', beq_iff_eq] at hb
    obtain ⟨⟨⟨⟨⟨e1, e2⟩, e3⟩, e4⟩, e5⟩, e6⟩ := hb
    focus (
 (refine W.skip (N.seq (W.seq (W.region (Jx.fieldAddr rfl rfl ?_)))))
 (refine Jx.load rfl 1 rfl rfl rfl ?_)
 (refine Jx.fieldAddr rfl rfl ?_)
 (refine Jx.load rfl 0 rfl rfl rfl ?_)
 (refine Jx.eqlS rfl rfl rfl (Jx.move rfl rfl ?_))
 (refine' J.guardAnd rfl rfl rfl rfl rfl rfl rfl rfl (fun _ => ?_) ?_; rotate_left)
 (refine J.gY rfl rfl rfl ?_)
 (refine Jx.fieldAddr rfl rfl ?_)
 (refine J.gY rfl rfl rfl ?_)
 (refine Jx.load rfl 1 rfl rfl rfl ?_)
 (refine J.gY rfl rfl rfl ?_)
 (refine Jx.fieldAddr rfl rfl ?_)
 (refine J.gY rfl rfl rfl ?_)
 (refine Jx.load rfl 0 rfl rfl rfl ?_)
 (refine J.gY rfl rfl rfl ?_)
 (refine Jx.eqlS rfl rfl rfl (J.nil ?_))
 (refine N.joinedN rfl rfl rfl)
 (refine Jx.move rfl rfl ?_)
 (refine' J.guardAnd rfl rfl rfl rfl rfl rfl rfl rfl (fun _ => ?_) ?_; rotate_left)
 (refine J.gY rfl rfl rfl ?_)
 (refine Jx.fieldAddr rfl rfl ?_)
 (refine J.gY rfl rfl rfl ?_)
 (refine Jx.load rfl 1 rfl rfl rfl ?_)
 (refine J.gY rfl rfl rfl ?_)
 (refine Jx.fieldAddr rfl rfl ?_)
 (refine J.gY rfl rfl rfl ?_)
 (refine Jx.load rfl 0 rfl rfl rfl ?_)
 (refine J.gY rfl rfl rfl ?_)
 (refine Jx.eqlS rfl rfl rfl (J.nil ?_))
 (refine N.joinedN rfl rfl rfl)
 (refine Jx.move rfl rfl ?_)
 (refine' J.guardAnd rfl rfl rfl rfl rfl rfl rfl rfl (fun _ => ?_) ?_; rotate_left)
 (refine J.gY rfl rfl rfl ?_)
 (refine Jx.fieldAddr rfl rfl ?_)
 (refine J.gY rfl rfl rfl ?_)
 (refine Jx.load rfl 1 rfl rfl rfl ?_)
 (refine J.gY rfl rfl rfl ?_)
 (refine Jx.fieldAddr rfl rfl ?_)
 (refine J.gY rfl rfl rfl ?_)
 (refine Jx.load rfl 0 rfl rfl rfl ?_)
 (refine J.gY rfl rfl rfl ?_)
 (refine Jx.eqlS rfl rfl rfl (J.nil ?_))
 (refine N.joinedN rfl rfl rfl)
 (refine Jx.move rfl rfl ?_)
 (refine' J.guardAnd rfl rfl rfl rfl rfl rfl rfl rfl (fun _ => ?_) ?_; rotate_left)
 (refine J.gY rfl rfl rfl ?_)
 (refine Jx.fieldAddr rfl rfl ?_)
 (refine J.gY rfl rfl rfl ?_)
 (refine Jx.load rfl 1 rfl rfl rfl ?_)
 (refine J.gY rfl rfl rfl ?_)
 (refine Jx.fieldAddr rfl rfl ?_)
 (refine J.gY rfl rfl rfl ?_)
 (refine Jx.load rfl 0 rfl rfl rfl ?_)
 (refine J.gY rfl rfl rfl ?_)
 (refine J.call (c) rfl (evs_args rfl) rfl ?_; rintro _ _ ⟨rfl, rfl⟩; simp only [la1, la2, la3])
 (refine J.nil ?_)
 (refine N.joinedN rfl rfl rfl)
 (refine Jx.assign rfl rfl (J.nil (N.seq (W.ret ?_))))
 (refine id ?_; rotate_left))
    refine N.retD (rs := [.tmp 4]) (L1 := []) rfl (.tmp rfl .nil) (List.nil_sublist _) ⟨congrArg Sse.bool ?_, rfl⟩
    rw [Bool.eq_iff_iff]
    simp only [Bool.and_eq_true, decide_eq_true_eq]
    constructor
    · rintro ⟨⟨⟨⟨e7, e8⟩, e9⟩, e10⟩, e11⟩
      exact Hd.ext' e1 e2 e3 e4 e5 e6 e7 e8 e9 e10 e11
    · rintro rfl
      exact ⟨⟨⟨⟨rfl, rfl⟩, rfl⟩, rfl⟩, rfl⟩
end Go.Proofs.Ytlfdhkahiaammaa
namespace Go.Proofs.Ytlfdhkahiaammaa
open Go Go.Sse
set_option linter.unusedVariables false
set_option linter.unusedSimpArgs false
set_option maxRecDepth 10000
abbrev hdz : List SV := [int 0, int 0, int 0, bool false, str [], str [], str [], str [], str [], str [], .val (.slice none 0 0)]
theorem hdz_sub : SubL hdz (hdC hd0) := .cons (.refl _) (.cons (.refl _) (.cons (.refl _) (.cons (.refl _) (.cons (.refl _) (.cons (.refl _) (.cons (.refl _) (.cons (.refl _) (.cons (.refl _) (.cons (.refl _) (.cons (Sub.nil 1 _) .nil))))))))))
theorem agHd : TAg Try.prog tHd 11 := inferInstance
theorem reps_step {n : Nat} {acc : List (List UInt8)} {t : List UInt8} {st st' : PSt} {all : List (List UInt8) × PSt} (h : all = (acc ++ (reps (n + 1) st).1, (reps (n + 1) st).2)) (hb : bytesP 32 st = (t, st')) : all = ((acc ++ [t]) ++ (reps n st').1, (reps n st').2) := by
  rw [h]; simp only [reps, hb, List.append_assoc, List.cons_append, List.nil_append]
set_option maxHeartbeats 8000000 in
theorem hdecode_ok (s : List UInt8) (hs : s.length ≤ 1099511627776) : FnC Try.prog 63 [str s] [] (fun v L => (∃ o, DecR fineHd encHd s o ∧ v = .tup [.agg (hdC (o.getD hd0)), int (codeO o 190)]) ∧ L = []) := by
  have c0 := read_ok s
  refine FnC.intro Try.func63 rfl Try.ntmps63 rfl fun Z w0 hG => ?_
  focus (
 (refine W.seq (W.region ?_))
 (refine J.alloc (by simp only [List.map_cons, List.map_nil]; rfl) rfl rfl ?_; intro b')
 (refine Jx.assign rfl rfl (J.nil (N.seq (W.seq (W.region (Jx.move rfl rfl ?_))))))
 (refine J.call (Lc := []) c0 rfl (evs_args rfl) rfl ?_; rintro _ _ ⟨b, rfl, rfl⟩; simp only [la1, la2, la3])
 (refine Jx.assign rfl rfl (J.nil (N.seq (W.seq (W.region ?_)))))
 (refine J.alloc (by simp only [List.map_cons, List.map_nil]; rfl) rfl rfl ?_; intro b')
 (refine J.nil (N.seq (W.seq (W.region (Jx.move rfl rfl ?_)))))
 (refine J.call1 1 ((rd_Num b s 0 0 (Nat.zero_le _) hs)) rfl (evs_args rfl) rfl (by rintro _ _ ⟨n1, a1, c1, rfl, rfl, ha1, hl1, e1⟩; exact ⟨_, rfl⟩) ?_; rintro _ _ ⟨n1, a1, c1, rfl, ⟨⟩, ha1, hl1, e1⟩; simp only [la4, la5])
 (refine Jx.move rfl rfl ?_)
 (refine J.call1 1 ((rd_Num b s a1 c1 ha1 hs)) rfl (evs_args rfl) rfl (by rintro _ _ ⟨n2, a2, c2, rfl, rfl, ha2, hl2, e2⟩; exact ⟨_, rfl⟩) ?_; rintro _ _ ⟨n2, a2, c2, rfl, ⟨⟩, ha2, hl2, e2⟩; simp only [la4, la5])
 (refine Jx.move rfl rfl ?_)
 (refine J.call1 1 ((rd_Num b s a2 c2 ha2 hs)) rfl (evs_args rfl) rfl (by rintro _ _ ⟨n3, a3, c3, rfl, rfl, ha3, hl3, e3⟩; exact ⟨_, rfl⟩) ?_; rintro _ _ ⟨n3, a3, c3, rfl, ⟨⟩, ha3, hl3, e3⟩; simp only [la4, la5])
 (refine Jx.fieldAddr rfl rfl ?_)
 (refine J.st 0 rfl rfl rfl rfl rfl rfl ?_)
 (refine Jx.fieldAddr rfl rfl ?_)
 (refine J.st 0 rfl rfl rfl rfl rfl rfl ?_)
 (refine Jx.fieldAddr rfl rfl ?_)
 (refine J.st 0 rfl rfl rfl rfl rfl rfl ?_)
 (refine J.nil (N.seq (W.seq (W.region (Jx.move rfl rfl ?_)))))
 (refine J.call1 1 ((rd_Flag b s a3 c3 ha3 hs)) rfl (evs_args rfl) rfl (by rintro _ _ ⟨lf', a4, c4, rfl, rfl, ha4, e4⟩; exact ⟨_, rfl⟩) ?_; rintro _ _ ⟨lf', a4, c4, rfl, ⟨⟩, ha4, e4⟩; simp only [la4, la5])
 (refine Jx.fieldAddr rfl rfl ?_)
 (refine J.st 0 rfl rfl rfl rfl rfl rfl ?_)
 (refine J.nil (N.seq (W.seq (W.region (Jx.move rfl rfl ?_)))))
 (refine J.call1 1 ((rd_Text b s a4 c4 32 ha4 hs)) rfl (evs_args rfl) rfl (by rintro _ _ ⟨t5, a5, c5, rfl, rfl, ha5, e5⟩; exact ⟨_, rfl⟩) ?_; rintro _ _ ⟨t5, a5, c5, rfl, ⟨⟩, ha5, e5⟩; simp only [la4, la5])
 (refine Jx.move rfl rfl ?_)
 (refine J.call1 1 ((rd_Text b s a5 c5 32 ha5 hs)) rfl (evs_args rfl) rfl (by rintro _ _ ⟨t6, a6, c6, rfl, rfl, ha6, e6⟩; exact ⟨_, rfl⟩) ?_; rintro _ _ ⟨t6, a6, c6, rfl, ⟨⟩, ha6, e6⟩; simp only [la4, la5])
 (refine Jx.move rfl rfl ?_)
 (refine J.call1 1 ((rd_Text b s a6 c6 32 ha6 hs)) rfl (evs_args rfl) rfl (by rintro _ _ ⟨t7, a7, c7, rfl, rfl, ha7, e7⟩; exact ⟨_, rfl⟩) ?_; rintro _ _ ⟨t7, a7, c7, rfl, ⟨⟩, ha7, e7⟩; simp only [la4, la5])
 (refine Jx.fieldAddr rfl rfl ?_)
 (refine J.st 0 rfl rfl rfl rfl rfl rfl ?_)
 (refine Jx.fieldAddr rfl rfl ?_)
 (refine J.st 0 rfl rfl rfl rfl rfl rfl ?_)
 (refine Jx.fieldAddr rfl rfl ?_)
 (refine J.st 0 rfl rfl rfl rfl rfl rfl ?_)
 (refine J.nil (N.seq (W.seq (W.region (Jx.move rfl rfl ?_)))))
 (refine J.call1 1 ((rd_Bytes b s a7 c7 32 ha7 hs)) rfl (evs_args rfl) rfl (by rintro _ _ ⟨t8, a8, c8, rfl, rfl, ha8, e8⟩; exact ⟨_, rfl⟩) ?_; rintro _ _ ⟨t8, a8, c8, rfl, ⟨⟩, ha8, e8⟩; simp only [la4, la5])
 (refine Jx.move rfl rfl ?_)
 (refine J.call1 1 ((rd_Bytes b s a8 c8 32 ha8 hs)) rfl (evs_args rfl) rfl (by rintro _ _ ⟨t9, a9, c9, rfl, rfl, ha9, e9⟩; exact ⟨_, rfl⟩) ?_; rintro _ _ ⟨t9, a9, c9, rfl, ⟨⟩, ha9, e9⟩; simp only [la4, la5])
 (refine Jx.move rfl rfl ?_)
 (refine J.call1 1 ((rd_Bytes b s a9 c9 32 ha9 hs)) rfl (evs_args rfl) rfl (by rintro _ _ ⟨t10, a10, c10, rfl, rfl, ha10, e10⟩; exact ⟨_, rfl⟩) ?_; rintro _ _ ⟨t10, a10, c10, rfl, ⟨⟩, ha10, e10⟩; simp only [la4, la5])
 (refine Jx.fieldAddr rfl rfl ?_)
 (refine J.st 0 rfl rfl rfl rfl rfl rfl ?_)
 (refine Jx.fieldAddr rfl rfl ?_)
 (refine J.st 0 rfl rfl rfl rfl rfl rfl ?_)
 (refine Jx.fieldAddr rfl rfl ?_)
 (refine J.st 0 rfl rfl rfl rfl rfl rfl ?_)
 (refine J.nil (N.seq (W.seq (W.seq (W.region (Jx.fieldAddr rfl rfl ?_))))))
 (refine Jx.load rfl 0 rfl rfl rfl ?_)
 (refine J.call ((links_ok (n1 : Int))) rfl (evs_args rfl) rfl ?_; rintro _ _ ⟨rfl, rfl⟩; simp only [la1, la2, la3])
 (refine Jx.lenSl rfl rfl ?_)
 (refine Jx.move rfl rfl (J.nil (N.seq (W.block ?_))))
 (refine id ?_; rotate_left))
  rename_i p2
  have hln := linksI_len (n1 : Int)
  refine W.rowNil 9 1 (elOf (fun a => [str a]) [] []) ?_
  refine W.perm (List.Perm.trans (List.Perm.cons _ (List.Perm.swap _ _ _)) (List.Perm.swap _ _ _)) ?_
  refine W.loop (α := Value × List (List UInt8) × Nat × Int) (fun x => [(42, int (x.2.1.length : Int)), (41, int ((linksI (n1 : Int)).length : Int)), (5, ptr b'), (4, ptr b), (2, ptr p2)])
    (fun x => [rdO b ⟨s, x.2.2.1, x.2.2.2⟩, .row x.1 9 1 x.2.1.length (elOf (fun a => [str a]) [] x.2.1), .obj b' tHd [int (n1 : Int), int (n2 : Int), int (n3 : Int), bool lf', str t5, str t6, str t7, str t8, str t9, str t10, .val x.1], .obj p2 tHd hdz])
    (fun x => x.2.2.1 ≤ s.length ∧ x.2.1.length ≤ (linksI (n1 : Int)).length ∧ reps (linksI (n1 : Int)).length (lf s a10 c10) = (x.2.1 ++ (reps ((linksI (n1 : Int)).length - x.2.1.length) (lf s x.2.2.1 x.2.2.2)).1, (reps ((linksI (n1 : Int)).length - x.2.1.length) (lf s x.2.2.1 x.2.2.2)).2)) (fun x => (linksI (n1 : Int)).length - x.2.1.length) (.slice none 0 0, [], a10, c10) ⟨ha10, by simp, by simp⟩ rfl ⟨ref0 rfl, ref0 rfl, ref0 rfl, ref0 rfl, ref0 rfl, trivial⟩ ?_
  rintro ⟨u, acc, a, c⟩ ⟨ha, hi, hr⟩
  simp only at ha hi hr ⊢
  have rdh : ∀ (sk : List (List UInt8)) (st : PSt), reps (linksI (n1 : Int)).length (lf s a10 c10) = (sk, st) → ReadH s ⟨n1, n2, n3, lf', t5, t6, t7, t8, t9, t10, sk⟩ st := fun sk st h =>
    ⟨n1, n2, n3, _, _, _, _, _, _, _, _, _, _, e1, rfl, e2, rfl, e3, rfl, e4, e5, e6, e7, e8, e9, e10, h⟩
  by_cases h1 : acc.length < (linksI (n1 : Int)).length
  · have cb := rd_Bytes b s a c 32 ha hs
    have hmx : ∀ t : List UInt8, acc.length + [t].length ≤ maxLen ∧ (acc.length + [t].length) * 16 ≤ 140737488355328 := fun t => by simp only [maxLen, List.length_cons, List.length_nil]; omega
    have hsucc : (linksI (n1 : Int)).length - acc.length = ((linksI (n1 : Int)).length - (acc.length + 1)) + 1 := by omega
    focus (
 (refine W.seq (W.region (Jx.lssI rfl rfl rfl (J.nil (N.seq (W.seq (W.cT rfl ?_)))))))
 (refine W.skip (N.seq (W.seq (W.block ?_))))
 (refine W.draw follows ?_)
 (refine JD.begin 8 rfl ?_; refine JP.more [0, 1, 2] _ rfl (by decide +kernel) ?_)
 (refine Cx.fieldAddr rfl rfl ?_)
 (refine Cx.load rfl 2 rfl rfl rfl ?_)
 (refine Cx.move rfl rfl ?_)
 (refine SegC.nil ?_)
 (refine JP.call (idx := [0, 1, 2]) (Lc := [rdO b ⟨s, a, c⟩]) 3 [46] [2, 3] [0, 1] cb rfl (by decide +kernel) rfl ?_ (evs_args rfl) rfl ?_; rotate_left; rintro _ _ ⟨t, a', c', rfl, rfl, ha', hb'⟩; simp only [List.cons_append, List.nil_append]; refine JP.more [4] _ rfl (by decide +kernel) ?_; rotate_left)
 (refine Cx.fieldAddr rfl rfl ?_)
 (refine Cx.load rfl 2 rfl rfl rfl ?_)
 (refine Cx.move rfl rfl ?_)
 (refine SegC.nil ?_)
 (refine Ag.cons rfl ?_)
 (refine Ag.cons rfl ?_)
 (refine Ag.cons rfl ?_)
 (refine Ag.nil)
 (refine SegC.q (Qs.buildTexts [t] rfl rfl rfl (by decide) (by decide)) rfl ?_)
 (refine SegC.nil ?_)
 (refine JP.perm (List.Perm.swap _ _ _) ?_; refine JP.append (idx := [0, 1, 4]) (m := acc) (m2 := [t]) 5 [45, 48] [0, 1, 2, 3, 4, 5] [] (by decide +kernel) rfl ?_ rfl (SrcOK.sl rfl) rfl rfl (hmx t) rfl ?_; rotate_left; intro v' hv'; rotate_left)
 (refine Cx.fieldAddr rfl rfl ?_)
 (refine Cx.load rfl 2 rfl rfl rfl ?_)
 (refine SegC.q (Qs.buildTexts [t] rfl rfl rfl (by decide) (by decide)) rfl ?_)
 (refine SegC.nil ?_)
 (refine Ag.cons rfl ?_)
 (refine Ag.cons rfl ?_)
 (refine Ag.cons rfl ?_)
 (refine Ag.nil)
 (refine JP.tail (idx := []) 6 (by decide +kernel) (by decide +kernel) rfl rfl ?_ ?_)
 (refine SegC.nil ?_)
 (refine Ag.nil)
 (refine Jx.fieldAddr rfl rfl ?_)
 (refine J.store rfl rfl (One.val hv') 2 rfl rfl rfl rfl ?_)
 (refine J.nil (N.seq (W.region (Jx.add64 rfl rfl (by omega) rfl ?_))))
 (refine Jx.move rfl rfl (J.nil ?_))
 (refine id ?_; rotate_left))
    refine N.perm (List.Perm.swap _ _ _) ?_
    refine N.round (v', acc ++ [t], a', c') ⟨ha', by simp only [List.length_append, List.length_cons, List.length_nil]; omega, ?_⟩ (by simp only [List.length_append, List.length_cons, List.length_nil]; omega) rfl ⟨⟨_, rfl, Sub.of_eq (by simp)⟩, ref0 rfl, ref0 rfl, ref0 rfl, ref0 rfl, trivial⟩
    rw [hsucc] at hr
    have := reps_step hr hb'
    simpa only [List.length_append, List.length_cons, List.length_nil, Nat.zero_add] using this
  · have hlen : acc.length = (linksI (n1 : Int)).length := by omega
    rw [hlen, Nat.sub_self] at hr
    simp only [reps, List.append_nil] at hr
    have hrd := rdh _ _ hr
    refine W.freezeCell 1 1 10 rfl rfl rfl (by simp only [maxLen]; omega) rfl ?_
    have ce := rd_End b s a c ha hs
    have ck := hcheck_ok ⟨n1, n2, n3, lf', t5, t6, t7, t8, t9, t10, acc⟩ (by simp only; omega)
    generalize hx : (⟨n1, n2, n3, lf', t5, t6, t7, t8, t9, t10, acc⟩ : Hd) = x at *
    rw [show [int (n1 : Int), int (n2 : Int), int (n3 : Int), bool lf', str t5, str t6, str t7, str t8, str t9, str t10, SV.val u].set 10 (SV.sl 1 acc.length (elOf (fun a => [str a]) [] acc)) = hdC x by rw [← hx]; rfl]
    focus (
 (refine W.seq (W.region (Jx.lssI rfl rfl rfl (J.nil (N.seq (W.seq (W.cF rfl ?_)))))))
 (refine W.exit (N.seq (W.seq (W.seq (W.region (Jx.move rfl rfl ?_))))))
 (refine J.call (ce) rfl (evs_args rfl) rfl ?_; rintro _ _ ⟨e, a', c', rfl, rfl, he⟩; simp only [la1, la2, la3])
 (refine Jx.neqI rfl rfl rfl (Jx.move rfl rfl ?_))
 (refine' J.guardOr rfl rfl rfl rfl rfl rfl rfl rfl (fun _ => ?_) ?_; rotate_left)
 (refine J.gY rfl rfl rfl ?_)
 (refine Jx.loadAll rfl 1 rfl rfl rfl ?_)
 (refine J.gY rfl rfl rfl ?_)
 (refine J.cP ck (evs_args rfl) rfl ?_; try simp only)
 (refine J.gY rfl rfl rfl ?_)
 (refine Jx.neqI rfl rfl rfl (J.nil ?_))
 (refine N.joinedN rfl rfl rfl)
 (refine J.nil (N.seq ?_))
 (refine id ?_; rotate_left))
    refine W.cond rfl (fun hb => ?_) (fun hb => ?_)
    · focus (
 (refine W.seq (W.region (Jx.buildB rfl rfl rfl rfl rfl ?_)))
 (refine J.storeAll rfl rfl rfl 2 rfl rfl rfl ?_)
 (refine Jx.assign rfl rfl (J.nil (N.seq (W.ret (N.noGotoRet ?_)))))
 (refine id ?_; rotate_left))
      refine N.objSub 2 (hdC hd0) rfl hdz_sub rfl ?_
      refine N.retD (rs := [.cell 2 tHd, .tmp 3]) (L1 := []) rfl (.cell rfl 2 rfl agHd (.tmp rfl .nil)) (List.nil_sublist _) ⟨⟨none, fun y hy hz => ?_, rfl⟩, rfl⟩
      obtain ⟨rfl, h2⟩ := hrd.whole ((fineHd_iff y).1 hy) hz
      rw [he.2 h2, hy] at hb
      simp at hb
    · focus (
 (refine W.skip (N.seq (W.seq (W.region (Jx.loadAll rfl 1 rfl rfl rfl ?_)))))
 (refine J.storeAll rfl rfl rfl 2 rfl rfl rfl ?_)
 (refine Jx.assign rfl rfl (J.nil (N.seq (W.ret ?_))))
 (refine id ?_; rotate_left))
      refine N.retD (rs := [.cell 2 tHd, .tmp 3]) (L1 := []) rfl (.cell rfl 2 rfl agHd (.tmp rfl .nil)) (List.nil_sublist _) ⟨⟨some x, ?_, rfl⟩, rfl⟩
      simp only [Bool.or_eq_false_iff, decide_eq_false_iff_not] at hb
      have hf : fineHd x = true := by
        cases hf : fineHd x with
        | true => rfl
        | false => rw [hf] at hb; simp at hb
      rw [he.1 (by omega)] at hrd
      exact ⟨hf, hrd.sound⟩
end Go.Proofs.Ytlfdhkahiaammaa
namespace Go.Proofs.Ytlfdhkahiaammaa
open Go Go.Sse
set_option linter.unusedVariables false
set_option linter.unusedSimpArgs false
set_option maxRecDepth 10000
noncomputable def decF {α : Type} (fine : α → Bool) (enc : α → List UInt8) (s : List UInt8) : Option α := open Classical in if h : ∃ x, fine x = true ∧ enc x = s then some (Classical.choose h) else none
theorem decF_spec {α : Type} (fine : α → Bool) (enc : α → List UInt8) (s : List UInt8) : DecR fine enc s (decF fine enc s) := by
  unfold decF
  split
  · rename_i h; exact Classical.choose_spec h
  · rename_i h; exact fun x h1 h2 => h ⟨x, h1, h2⟩
theorem Apart.decF {α : Type} {fine : α → Bool} {enc : α → List UInt8} (h : Apart fine enc) {s : List UInt8} {o : Option α} (ho : DecR fine enc s o) : o = Ytlfdhkahiaammaa.decF fine enc s := h.same ho (decF_spec fine enc s)
theorem Apart.decF_enc {α : Type} {fine : α → Bool} {enc : α → List UInt8} (h : Apart fine enc) {x : α} (hx : fine x = true) : Ytlfdhkahiaammaa.decF fine enc (enc x) = some x := h.some' (decF_spec fine enc _) hx rfl
theorem decF_some {α : Type} {fine : α → Bool} {enc : α → List UInt8} {s : List UInt8} {x : α} (h : decF fine enc s = some x) : fine x = true ∧ enc x = s := by
  have := decF_spec fine enc s
  rwa [h] at this
noncomputable abbrev decH : List UInt8 → Option Hd := decF fineHd encHd
noncomputable abbrev decS : List UInt8 → Option (List Mb) := decF fineSet encSet
noncomputable abbrev decC : List UInt8 → Option Ct := decF fineCt encCt
theorem apSet : Apart fineSet encSet := ⟨fun x y r q hx hy h => by
  obtain ⟨p1, p2, p3⟩ := fineSet_spec hx
  obtain ⟨q1, q2, q3⟩ := fineSet_spec hy
  rw [encSet, encSet, List.append_assoc, List.append_assoc] at h
  obtain ⟨e1, h⟩ := numB_ap (by omega) (by omega) h
  have key : ∀ {a b : List Mb}, a.length = b.length → (∀ m ∈ a, m.name.length ≤ 6 ∧ 1 ≤ m.power ∧ m.power ≤ 1000) → (∀ m ∈ b, m.name.length ≤ 6 ∧ 1 ≤ m.power ∧ m.power ≤ 1000) → ∀ {r q : List UInt8}, flT mbB a ++ r = flT mbB b ++ q → a = b ∧ r = q := by
    intro a
    induction a with
    | nil =>
      intro b hl _ _ r q h
      cases b with
      | nil => exact ⟨rfl, h⟩
      | cons y b => simp at hl
    | cons m a ih =>
      intro b hl ha hb r q h
      cases b with
      | nil => simp at hl
      | cons n b =>
        rw [flT_cons, flT_cons, mbB, mbB, List.append_assoc, List.append_assoc, List.append_assoc, List.append_assoc] at h
        obtain ⟨a1, a2, a3⟩ := ha m (List.mem_cons_self ..)
        obtain ⟨b1, b2, b3⟩ := hb n (List.mem_cons_self ..)
        obtain ⟨e1, h⟩ := textB_ap (by omega) (by omega) h
        obtain ⟨e2, h⟩ := numB_ap (by omega) (by omega) h
        obtain ⟨e3, e4⟩ := ih (by simpa using hl) (fun m hm => ha m (List.mem_cons_of_mem _ hm)) (fun m hm => hb m (List.mem_cons_of_mem _ hm)) h
        have hmn : m = n := by
          cases m; cases n
          simp only at e1 e2 a2 b2
          simp only [Mb.mk.injEq]
          exact ⟨e1, by omega⟩
        exact ⟨by rw [hmn, e3], e4⟩
  exact key e1 p3 q3 h⟩
structure It where
  key : List UInt8
  value : List UInt8
abbrev itC (x : It) : List SV := [str x.key, str x.value]
def it0 : It := ⟨[], []⟩
theorem It.ext' {x y : It} (h1 : x.key = y.key) (h2 : x.value = y.value) : x = y := by cases x; cases y; simp_all
instance : DecidableEq It := fun x y => decidable_of_iff (x.key = y.key ∧ x.value = y.value) ⟨fun h => It.ext' h.1 h.2, fun h => by subst h; simp⟩
abbrev itsl (l : List It) : SV := .sl 2 l.length (elOf itC it0 l)
abbrev hdsl (l : List Hd) : SV := .sl 11 l.length (elOf hdC hd0 l)
structure An where
  code : Int
  height : Int
  heads : List Hd
  set : List Mb
  nxt : List Mb
  cert : Ct
  nodes : List (List UInt8)
  items : List It
  pnext : List UInt8
  pnodes : List (List UInt8)
abbrev anC (x : An) : List SV := [int x.code, int x.height, hdsl x.heads, msl x.set, msl x.nxt, str x.cert.digest, ssl x.cert.signers, ssl x.nodes, itsl x.items, str x.pnext, ssl x.pnodes]
def an0 : An := ⟨0, 0, [], [], [], ct0, [], [], [], []⟩
def flatI : List It → List (List UInt8)
  | [] => []
  | x :: r => x.key :: x.value :: flatI r
def pairsI : List (List UInt8) → List It
  | k :: v :: r => ⟨k, v⟩ :: pairsI r
  | _ => []
theorem pairs_flat : ∀ l, pairsI (flatI l) = l
  | [] => rfl
  | x :: r => by rw [flatI, pairsI, pairs_flat r]
theorem flat_len : ∀ l, (flatI l).length = 2 * l.length
  | [] => rfl
  | x :: r => by simp only [flatI, List.length_cons, flat_len r]; omega
theorem flat_pairs : ∀ {l : List (List UInt8)}, l.length % 2 = 0 → flatI (pairsI l) = l
  | [], _ => rfl
  | [a], h => by simp at h
  | a :: b :: r, h => by
    simp only [List.length_cons] at h
    rw [pairsI, flatI, flat_pairs (l := r) (by omega)]
def setB (l : List Mb) : Bool := decide ((l.length : Int) = 0) || fineSet l
def textsB (l : List (List UInt8)) : Bool := decide (l.length ≤ 1024) && l.all fun s => decide (s.length ≤ 700)
def itemB (x : It) : Bool := decide (x.key.length ≤ 8) && decide (x.value.length ≤ 32)
def pageB (items : List It) (pnext : List UInt8) (pnodes : List (List UInt8)) : Bool := ((decide (items.length ≤ 16) && decide (pnext.length ≤ 8)) && items.all itemB) && textsB pnodes
def emptyP (items : List It) (pnext : List UInt8) (pnodes : List (List UInt8)) : Bool := (decide ((items.length : Int) = 0) && decide (pnext = [])) && decide ((pnodes.length : Int) = 0)
def aloneB (x : An) : Bool := ((((decide ((x.heads.length : Int) = 0) && decide ((x.set.length : Int) = 0)) && decide ((x.nxt.length : Int) = 0)) && bareCt x.cert) && decide ((x.nodes.length : Int) = 0)) && emptyP x.items x.pnext x.pnodes
def oneA (x : An) : Bool := ((decide (0 ≤ x.code) && decide (x.code ≤ 1000)) && highB x.height) && (decide (x.code = 0) || aloneB x)
def twoA (x : An) : Bool := ((((decide (x.heads.length ≤ 64) && setB x.set) && setB x.nxt) && (bareCt x.cert || fineCt x.cert)) && textsB x.nodes) && pageB x.items x.pnext x.pnodes
def fineAn (x : An) : Bool := (oneA x && twoA x) && x.heads.all fineHd
abbrev encS (l : List Mb) : List UInt8 := encO fineSet encSet l
abbrev encC (c : Ct) : List UInt8 := encO fineCt encCt c
def encAn (x : An) : List UInt8 := numB x.code.toNat ++ (numB x.height.toNat ++ (listB (x.heads.map encHd) ++ (textB (encS x.set) ++ (textB (encS x.nxt) ++ (textB (encC x.cert) ++ (listB x.nodes ++ (listB (flatI x.items) ++ (textB x.pnext ++ listB x.pnodes))))))))
structure FineN (x : An) : Prop where
  code : 0 ≤ x.code ∧ x.code ≤ 1000
  height : 0 ≤ x.height ∧ x.height ≤ 1048576
  heads : x.heads.length ≤ 64
  each : ∀ h ∈ x.heads, fineHd h = true
  set : x.set = [] ∨ fineSet x.set = true
  nxt : x.nxt = [] ∨ fineSet x.nxt = true
  cert : bareCt x.cert = true ∨ fineCt x.cert = true
  nodes : x.nodes.length ≤ 1024 ∧ ∀ s ∈ x.nodes, s.length ≤ 700
  items : x.items.length ≤ 16 ∧ ∀ i ∈ x.items, i.key.length ≤ 8 ∧ i.value.length ≤ 32
  pnext : x.pnext.length ≤ 8
  pnodes : x.pnodes.length ≤ 1024 ∧ ∀ s ∈ x.pnodes, s.length ≤ 700
theorem textsB_spec {l : List (List UInt8)} (h : textsB l = true) : l.length ≤ 1024 ∧ ∀ s ∈ l, s.length ≤ 700 := by
  simp only [textsB, Bool.and_eq_true, decide_eq_true_eq, List.all_eq_true] at h
  exact h
theorem setB_spec {l : List Mb} (h : setB l = true) : l = [] ∨ fineSet l = true := by
  simp only [setB, Bool.or_eq_true, decide_eq_true_eq] at h
  rcases h with h | h
  · exact .inl (len0 h)
  · exact .inr h
theorem fineAn_spec {x : An} (h : fineAn x = true) : FineN x := by
  simp only [fineAn, oneA, twoA, pageB, Bool.and_eq_true, Bool.or_eq_true, decide_eq_true_eq, List.all_eq_true, highB_iff, itemB] at h
  obtain ⟨⟨⟨⟨h1, h2⟩, h3⟩, ⟨⟨⟨⟨⟨h4, h5⟩, h6⟩, h7⟩, h8⟩, ⟨⟨h9, h10⟩, h11⟩, h12⟩⟩, h13⟩ := h
  exact ⟨h1, h2, h4, h13, setB_spec h5, setB_spec h6, h7, textsB_spec h8, ⟨h9, h11⟩, h10, textsB_spec h12⟩
theorem fineSet_nil : fineSet [] = false := rfl
theorem encS_nil : encS [] = [] := by rw [encS, encO, fineSet_nil]; rfl
theorem encS_len {l : List Mb} (h : l = [] ∨ fineSet l = true) : (encS l).length ≤ 177 := by
  rcases h with rfl | h
  · rw [encS_nil]; simp
  · rw [encS, encO, if_pos h]; exact encSet_len h
theorem encC_len {c : Ct} (h : bareCt c = true ∨ fineCt c = true) : (encC c).length ≤ 146 := by
  rcases h with h | h
  · rw [encC, encO, bare_fine h]; simp
  · rw [encC, encO, if_pos h]; exact encCt_len h
theorem encSet_pos (l : List Mb) : encSet l ≠ [] := by
  intro h
  have h2 : (encSet l).length = 0 := by rw [h]; rfl
  simp only [encSet, numB, List.length_append, List.length_cons] at h2
  omega
noncomputable def headsP (st : PSt) : List Hd × Bool × PSt := ((listP 64 65536 st).1.map (fun t => (decH t).getD hd0), (listP 64 65536 st).1.any (fun t => (decH t).isNone), (listP 64 65536 st).2)
noncomputable def setP (st : PSt) : List Mb × Bool × PSt := if (textP 65536 st).1 = [] then ([], false, (textP 65536 st).2) else ((decS (textP 65536 st).1).getD [], (decS (textP 65536 st).1).isNone, (textP 65536 st).2)
noncomputable def certP (st : PSt) : Ct × Bool × PSt := if (textP 65536 st).1 = [] then (ct0, false, (textP 65536 st).2) else ((decC (textP 65536 st).1).getD ct0, (decC (textP 65536 st).1).isNone, (textP 65536 st).2)
def itemsP (st : PSt) : List It × Bool × PSt := (pairsI (listP 32 32 st).1, decide ((listP 32 32 st).1.length % 2 = 1), (listP 32 32 st).2)
theorem headsP_good {st : PSt} {l : List Hd} {r : List UInt8} (h : headsP st = (l, false, some r)) : st = some (listB (l.map encHd) ++ r) := by
  simp only [headsP, Prod.mk.injEq] at h
  obtain ⟨h1, h2, h3⟩ := h
  obtain ⟨ts, hts⟩ : ∃ ts, (listP 64 65536 st).1 = ts := ⟨_, rfl⟩
  rw [hts] at h1 h2
  obtain ⟨g, _⟩ := listP_good (m := 64) (e := 65536) (st := st) (l := ts) (r := r) (by rw [← hts, ← h3])
  rw [g]
  have : l.map encHd = ts := by
    rw [← h1, List.map_map]
    have : ∀ t ∈ ts, (encHd ∘ fun t => (decH t).getD hd0) t = t := fun t ht => by
      have hn := List.any_eq_false.1 h2 t ht
      cases hd : decH t with
      | none => rw [hd] at hn; simp at hn
      | some x => simp only [Function.comp, hd, Option.getD_some]; exact (decF_some hd).2
    exact (List.map_congr_left this).trans (List.map_id' ts)
  rw [this]
theorem headsP_back {l : List Hd} (hl : l.length ≤ 64) (hf : ∀ h ∈ l, fineHd h = true) (r : List UInt8) : headsP (some (listB (l.map encHd) ++ r)) = (l, false, some r) := by
  have h1 := listP_back (m := 64) (e := 65536) (l.map encHd) r (by rw [List.length_map]; omega) (by rw [List.length_map]; omega) (fun t ht => by
    obtain ⟨x, hx, rfl⟩ := List.mem_map.1 ht
    have := encHd_len ((fineHd_iff x).1 (hf x hx))
    exact ⟨by omega, by omega⟩)
  have hd : ∀ h ∈ l, decH (encHd h) = some h := fun h hh => apHd.decF_enc (hf h hh)
  simp only [headsP, h1, List.map_map, Prod.mk.injEq, and_true]
  refine ⟨?_, ?_⟩
  · exact (List.map_congr_left (g := id) fun h hh => by simp only [Function.comp, hd h hh, Option.getD_some, id]).trans (List.map_id l)
  · rw [List.any_map]
    exact List.any_eq_false.2 fun h hh => by simp only [Function.comp, hd h hh]; simp
theorem setP_good {st : PSt} {l : List Mb} {r : List UInt8} (h : setP st = (l, false, some r)) : st = some (textB (encS l) ++ r) := by
  unfold setP at h
  split at h
  · rename_i h0
    simp only [Prod.mk.injEq] at h
    obtain ⟨g, _⟩ := textP_good (m := 65536) (st := st) (t := []) (r := r) (by rw [← h0, ← h.2.2])
    rw [g, ← h.1, encS_nil]
  · simp only [Prod.mk.injEq] at h
    obtain ⟨h1, h2, h3⟩ := h
    obtain ⟨t, ht⟩ : ∃ t, (textP 65536 st).1 = t := ⟨_, rfl⟩
    rw [ht] at h1 h2
    obtain ⟨g, _⟩ := textP_good (m := 65536) (st := st) (t := t) (r := r) (by rw [← ht, ← h3])
    cases hd : decS t with
    | none => rw [hd] at h2; cases h2
    | some x =>
      rw [hd, Option.getD_some] at h1
      subst h1
      obtain ⟨e1, e2⟩ := decF_some hd
      rw [g, encS, encO, if_pos e1, e2]
theorem setP_back {l : List Mb} (hl : l = [] ∨ fineSet l = true) (r : List UInt8) : setP (some (textB (encS l) ++ r)) = (l, false, some r) := by
  have hlen := encS_len hl
  unfold setP
  rw [textP_back _ _ (by omega) (by omega)]
  rcases hl with rfl | hf
  · rw [encS_nil]; simp
  · have e : encS l = encSet l := by rw [encS, encO, if_pos hf]
    rw [e]
    simp only [encSet_pos l, if_false]
    rw [show decS (encSet l) = some l from apSet.decF_enc hf]
    rfl
theorem certP_good {st : PSt} {c : Ct} {r : List UInt8} (h : certP st = (c, false, some r)) : st = some (textB (encC c) ++ r) := by
  unfold certP at h
  split at h
  · rename_i h0
    simp only [Prod.mk.injEq] at h
    obtain ⟨g, _⟩ := textP_good (m := 65536) (st := st) (t := []) (r := r) (by rw [← h0, ← h.2.2])
    rw [g, ← h.1]; rfl
  · simp only [Prod.mk.injEq] at h
    obtain ⟨h1, h2, h3⟩ := h
    obtain ⟨t, ht⟩ : ∃ t, (textP 65536 st).1 = t := ⟨_, rfl⟩
    rw [ht] at h1 h2
    obtain ⟨g, _⟩ := textP_good (m := 65536) (st := st) (t := t) (r := r) (by rw [← ht, ← h3])
    cases hd : decC t with
    | none => rw [hd] at h2; cases h2
    | some x =>
      rw [hd, Option.getD_some] at h1
      subst h1
      obtain ⟨e1, e2⟩ := decF_some hd
      rw [g, encC, encO, if_pos e1, e2]
theorem certP_back {c : Ct} (hc : bareCt c = true ∨ fineCt c = true) (r : List UInt8) : certP (some (textB (encC c) ++ r)) = (c, false, some r) := by
  have hlen := encC_len hc
  unfold certP
  rw [textP_back _ _ (by omega) (by omega)]
  by_cases hf : fineCt c = true
  · have e : encC c = encCt c := by rw [encC, encO, if_pos hf]
    have hne : encCt c ≠ [] := fun h => by
      have h1 := (fineCt_spec hf).1
      have h2 : (encCt c).length = 0 := by rw [h]; rfl
      simp only [encCt, List.length_append] at h2
      omega
    rw [e]
    simp only [hne, if_false]
    rw [show decC (encCt c) = some c from apCt.decF_enc hf]
    rfl
  · have hb : bareCt c = true := by rcases hc with h | h; exact h; exact absurd h hf
    rw [bare_eq hb]
    rfl
theorem itemsP_good {st : PSt} {l : List It} {r : List UInt8} (h : itemsP st = (l, false, some r)) : st = some (listB (flatI l) ++ r) := by
  simp only [itemsP, Prod.mk.injEq, decide_eq_false_iff_not] at h
  obtain ⟨h1, h2, h3⟩ := h
  obtain ⟨g, _⟩ := listP_good (m := 32) (e := 32) (st := st) (l := (listP 32 32 st).1) (r := r) (by rw [← h3])
  rw [← h1, flat_pairs (by omega)]
  exact g
theorem flat_mem : ∀ {l : List It} {s : List UInt8}, s ∈ flatI l → ∃ i ∈ l, s = i.key ∨ s = i.value
  | [], s, h => by simp [flatI] at h
  | x :: r, s, h => by
    simp only [flatI, List.mem_cons] at h
    rcases h with h | h | h
    · exact ⟨x, List.mem_cons_self .., .inl h⟩
    · exact ⟨x, List.mem_cons_self .., .inr h⟩
    · obtain ⟨i, hi, hs⟩ := flat_mem h
      exact ⟨i, List.mem_cons_of_mem _ hi, hs⟩
theorem itemsP_back {l : List It} (hl : l.length ≤ 16) (hi : ∀ i ∈ l, i.key.length ≤ 8 ∧ i.value.length ≤ 32) (r : List UInt8) : itemsP (some (listB (flatI l) ++ r)) = (l, false, some r) := by
  have h1 := listP_back (m := 32) (e := 32) (flatI l) r (by rw [flat_len]; omega) (by rw [flat_len]; omega) (fun t ht => by
    obtain ⟨i, him, h⟩ := flat_mem ht
    have := hi i him
    rcases h with rfl | rfl
    · exact ⟨by omega, by omega⟩
    · exact ⟨by omega, by omega⟩)
  simp only [itemsP, h1, pairs_flat, flat_len, Prod.mk.injEq, and_true, true_and, decide_eq_false_iff_not]
  omega
structure ReadN (s : List UInt8) (x : An) (bad : Bool) (st : PSt) : Prop where
  go : ∃ n s1 h s2 b1 s3 b2 s4 b3 s5 b4 s6 s7 b5 s8 s9, numP (some s) = (n, s1) ∧ x.code = (n : Int) ∧ numP s1 = (h, s2) ∧ x.height = (h : Int) ∧ headsP s2 = (x.heads, b1, s3) ∧ setP s3 = (x.set, b2, s4) ∧ setP s4 = (x.nxt, b3, s5) ∧ certP s5 = (x.cert, b4, s6) ∧
    listP 1024 700 s6 = (x.nodes, s7) ∧ itemsP s7 = (x.items, b5, s8) ∧ textP 8 s8 = (x.pnext, s9) ∧ listP 1024 700 s9 = (x.pnodes, st) ∧ bad = ((((b1 || b2) || b3) || b4) || b5)
theorem ReadN.sound {s : List UInt8} {x : An} (h : ReadN s x false (some [])) : encAn x = s := by
  obtain ⟨n, s1, h, s2, b1, s3, b2, s4, b3, s5, b4, s6, s7, b5, s8, s9, h1, h2, h3, h4, h5, h6, h7, h8, h9, h10, h11, h12, h13⟩ := h.go
  have h13 := h13.symm
  simp only [Bool.or_eq_false_iff] at h13
  obtain ⟨⟨⟨⟨rfl, rfl⟩, rfl⟩, rfl⟩, rfl⟩ := h13
  obtain ⟨rfl, _⟩ := listP_good h12
  obtain ⟨rfl, _⟩ := textP_good h11
  have := itemsP_good h10; subst this
  obtain ⟨rfl, _⟩ := listP_good h9
  have := certP_good h8; subst this
  have := setP_good h7; subst this
  have := setP_good h6; subst this
  have := headsP_good h5; subst this
  obtain ⟨rfl, _⟩ := numP_good h3
  obtain ⟨e, _⟩ := numP_good h1
  simp only [Option.some.injEq] at e
  rw [e, encAn, h2, h4, Int.toNat_natCast, Int.toNat_natCast, List.append_nil]
theorem readN_back {y : An} (hy : fineAn y = true) (r : List UInt8) : ReadN (encAn y ++ r) y false (some r) := by
  have f := fineAn_spec hy
  have f1 := f.code; have f2 := f.height; have f3 := f.pnext
  refine ⟨y.code.toNat, _, y.height.toNat, _, false, _, false, _, false, _, false, _, _, false, _, _, ?_, by omega, numP_back _ (by omega) _, by omega, headsP_back f.heads f.each _, setP_back f.set _, setP_back f.nxt _, certP_back f.cert _,
    listP_back _ _ (by have := f.nodes.1; omega) (by have := f.nodes.1; omega) (fun t ht => by have := f.nodes.2 t ht; exact ⟨by omega, by omega⟩), itemsP_back f.items.1 f.items.2 _, textP_back _ _ (by omega) (by omega),
    listP_back _ _ (by have := f.pnodes.1; omega) (by have := f.pnodes.1; omega) (fun t ht => by have := f.pnodes.2 t ht; exact ⟨by omega, by omega⟩), rfl⟩
  rw [encAn]
  simp only [List.append_assoc]
  exact numP_back _ (by omega) _
theorem An.ext' {x y : An} (h1 : x.code = y.code) (h2 : x.height = y.height) (h3 : x.heads = y.heads) (h4 : x.set = y.set) (h5 : x.nxt = y.nxt) (h6 : x.cert = y.cert) (h7 : x.nodes = y.nodes) (h8 : x.items = y.items) (h9 : x.pnext = y.pnext) (h10 : x.pnodes = y.pnodes) : x = y := by
  cases x; cases y; simp_all
theorem ReadN.same {s : List UInt8} {x y : An} {b c : Bool} {st st' : PSt} (h : ReadN s x b st) (hk : ReadN s y c st') : x = y ∧ b = c ∧ st = st' := by
  obtain ⟨n, s1, h, s2, b1, s3, b2, s4, b3, s5, b4, s6, s7, b5, s8, s9, h1, h2, h3, h4, h5, h6, h7, h8, h9, h10, h11, h12, h13⟩ := h.go
  obtain ⟨n', s1', h', s2', b1', s3', b2', s4', b3', s5', b4', s6', s7', b5', s8', s9', g1, g2, g3, g4, g5, g6, g7, g8, g9, g10, g11, g12, g13⟩ := hk.go
  rw [h1] at g1; simp only [Prod.mk.injEq] at g1; obtain ⟨rfl, rfl⟩ := g1
  rw [h3] at g3; simp only [Prod.mk.injEq] at g3; obtain ⟨rfl, rfl⟩ := g3
  rw [h5] at g5; simp only [Prod.mk.injEq] at g5; obtain ⟨k1, rfl, rfl⟩ := g5
  rw [h6] at g6; simp only [Prod.mk.injEq] at g6; obtain ⟨k2, rfl, rfl⟩ := g6
  rw [h7] at g7; simp only [Prod.mk.injEq] at g7; obtain ⟨k3, rfl, rfl⟩ := g7
  rw [h8] at g8; simp only [Prod.mk.injEq] at g8; obtain ⟨k4, rfl, rfl⟩ := g8
  rw [h9] at g9; simp only [Prod.mk.injEq] at g9; obtain ⟨k5, rfl⟩ := g9
  rw [h10] at g10; simp only [Prod.mk.injEq] at g10; obtain ⟨k6, rfl, rfl⟩ := g10
  rw [h11] at g11; simp only [Prod.mk.injEq] at g11; obtain ⟨k7, rfl⟩ := g11
  rw [h12] at g12; simp only [Prod.mk.injEq] at g12; obtain ⟨k8, rfl⟩ := g12
  exact ⟨An.ext' (by rw [h2, g2]) (by rw [h4, g4]) k1 k2 k3 k4 k5 k6 k7 k8, by rw [h13, g13], rfl⟩
theorem ReadN.whole {s : List UInt8} {x y : An} {b : Bool} {st : PSt} (h : ReadN s x b st) (hy : fineAn y = true) {r : List UInt8} (hs : encAn y ++ r = s) : x = y ∧ b = false ∧ st = some r :=
  h.same (by subst hs; exact readN_back hy r)
theorem apAn : Apart fineAn encAn := ⟨fun x y r q hx hy h => by
  have hr := readN_back hx r
  rw [h] at hr
  obtain ⟨e1, _, e2⟩ := hr.same (readN_back hy q)
  exact ⟨e1, by simpa using e2⟩⟩
end Go.Proofs.Ytlfdhkahiaammaa
namespace Go.Proofs.Ytlfdhkahiaammaa
open Go Go.Sse Go.ChangeShapes Go.WideShapes Go.ChangeAt Go.RowKit
set_option linter.unusedVariables false
set_option linter.unusedSimpArgs false
abbrev Z0 : Nat → Prop := fun _ => False
structure Rd (P : Program) (T : TypeId) (α : Type) where
  enc : α → List SV
  sz : Nat
  dflt : α
  good : α → Prop
  bulk : α → Nat
  cells : P.cellsOf T = sz
  len : ∀ a, (enc a).length = sz
  read : ∀ {H : Type} {en : TypeId × Value → H} {w : World} {base : Nat} {sp : Nat → Bool} {held : Bool} {fuel : Nat} {cs : List Value} {x : DataW H × List MemPlace},
    DataW.trod en P w base sp held fuel T cs = some x → ∃ a, good a ∧ bulk a ≤ Rows.uptoBulk x.1 ∧ cs.length = sz ∧ (∀ c ∈ cs, c.oneCell' = true) ∧ ∀ j, j < sz → Rel Z0 w ((enc a).getD j .any) (cs.getD j undef)
section
variable {P : Program} {T E : TypeId} {α β : Type}
def Rd.int {k : IntKind} (h : P.underlying T = some (.int k)) (hc : P.cellsOf T = 1) : Rd P T Int where
  enc n := [.val (.int k n)]
  sz := 1
  dflt := 0
  good n := (Lit.int k n).wf = true
  bulk _ := 1
  cells := hc
  len _ := rfl
  read := by
    intro H en w base sp held fuel cs x hx
    obtain ⟨n, rfl, rfl, hw⟩ := DataW.trod_int h hx
    refine ⟨n, hw, by simp [Rows.uptoBulk], rfl, by simp [Value.oneCell'], fun j hj => ?_⟩
    obtain rfl : j = 0 := by omega
    exact .val _
def Rd.bool (h : P.underlying T = some .bool) (hc : P.cellsOf T = 1) : Rd P T Bool where
  enc b := [.val (.bool b)]
  sz := 1
  dflt := false
  good _ := True
  bulk _ := 1
  cells := hc
  len _ := rfl
  read := by
    intro H en w base sp held fuel cs x hx
    obtain ⟨n, rfl, rfl⟩ := DataW.trod_bool h hx
    refine ⟨n, trivial, by simp [Rows.uptoBulk], rfl, by simp [Value.oneCell'], fun j hj => ?_⟩
    obtain rfl : j = 0 := by omega
    exact .val _
def Rd.str (h : P.underlying T = some .string) (hc : P.cellsOf T = 1) : Rd P T (List UInt8) where
  enc s := [Sse.str s]
  sz := 1
  dflt := []
  good s := s.length ≤ maxLen
  bulk s := s.length + 1
  cells := hc
  len _ := rfl
  read := by
    intro H en w base sp held fuel cs x hx
    obtain ⟨s, rfl, rfl, hw⟩ := DataW.trod_string h hx
    have hl : s.data.toList.length = s.size := Array.length_toList
    refine ⟨s.data.toList, by rw [hl]; exact hw, by simp only [Rows.uptoBulk]; exact Nat.le_refl _, rfl, by simp [Value.oneCell'], fun j hj => ?_⟩
    obtain rfl : j = 0 := by omega
    have e : Sse.str s.data.toList = .val (.string s) := rfl
    simp only [List.getD_cons_zero, e]
    exact .val _
theorem exists_list {d : α} {p : Nat → α → Prop} (n : Nat) (h : ∀ i, i < n → ∃ a, p i a) : ∃ l : List α, l.length = n ∧ ∀ i, i < n → p i (l.getD i d) := by
  induction n with
  | zero => exact ⟨[], rfl, fun i hi => by omega⟩
  | succ n ih =>
    obtain ⟨l, hl, hp⟩ := ih fun i hi => h i (by omega)
    obtain ⟨a, ha⟩ := h n (by omega)
    refine ⟨l ++ [a], by simp [hl], fun i hi => ?_⟩
    rw [List.getD_eq_getElem?_getD]
    by_cases hi' : i < n
    · rw [List.getElem?_append_left (by omega)]
      have := hp i hi'
      rwa [List.getD_eq_getElem?_getD] at this
    · obtain rfl : i = n := by omega
      rw [List.getElem?_append_right (by omega), hl, Nat.sub_self]
      exact ha
theorem bulkAll_le {H : Type} (f : α → Nat) (d : α) : ∀ (l : List α) (xs : List (DataW H)), l.length = xs.length → (∀ i, i < l.length → f (l.getD i d) ≤ Rows.uptoBulk (xs.getD i .nil)) → (l.map f).sum ≤ Rows.uptoBulkAll xs
  | [], [], _, _ => by simp
  | a :: l, x :: xs, hl, h => by
    have h0 := h 0 (by simp)
    have hr := bulkAll_le f d l xs (by simpa using hl) fun i hi => by simpa using h (i + 1) (by simpa using hi)
    simp only [List.map_cons, List.sum_cons, Rows.uptoBulkAll]
    simp only [List.getD_cons_zero] at h0
    omega
theorem getD_mem_all {p : α → Prop} {d : α} {l : List α} (h : ∀ i, i < l.length → p (l.getD i d)) : ∀ a ∈ l, p a := by
  intro a ha
  obtain ⟨i, hi, rfl⟩ := List.mem_iff_getElem.1 ha
  have := h i hi
  rwa [List.getD_eq_getElem?_getD, List.getElem?_eq_getElem hi] at this
theorem cells_addr {w : World} {base b off : Nat} {spot : Option Nat} {n : Nat} {cs : List Value} (k : Nat) (h : w.cells? base (Addr.add ⟨b, off, spot⟩ k) n = some cs) : ∀ j, j < n → w.cell? ⟨b, off + k + j, none⟩ = cs[j]? := by
  obtain ⟨_, hl, hc⟩ := World.cells?_some h
  intro j hj
  have := hc j hj
  rw [← this]
  by_cases h0 : k = 0 ∧ j = 0
  · obtain ⟨rfl, rfl⟩ := h0
    simp only [Addr.add, if_true, Nat.add_zero]
    simp only [Addr.add, if_true] at this
    have h1 : cs[0]? ≠ none := by rw [List.getElem?_eq_getElem (by omega)]; simp
    rw [← this] at h1
    unfold World.cell? at h1 ⊢
    simp only at h1 ⊢
    cases hb : w.heap[b]? with
    | none => simp [hb] at h1
    | some o =>
      rw [hb] at h1
      cases o with
      | cells c _ _ =>
        cases spot with
        | none => rfl
        | some _ => simp at h1
      | _ => exact absurd rfl h1
  · by_cases hk : k = 0
    · subst hk
      have hj0 : j ≠ 0 := fun e => h0 ⟨rfl, e⟩
      simp [Addr.add, hj0]
    · by_cases hj0 : j = 0
      · subst hj0; simp [Addr.add, hk]
      · simp [Addr.add, hk, hj0, Nat.add_assoc]
theorem spot_none {w : World} {base b off : Nat} {spot : Option Nat} {n : Nat} {cs : List Value} (hn : 0 < n) (h : w.cells? base (Addr.add ⟨b, off, spot⟩ 0) n = some cs) : spot = none := by
  obtain ⟨_, hl, hc⟩ := World.cells?_some h
  have := hc 0 hn
  simp only [Addr.add, if_true] at this
  cases spot with
  | none => rfl
  | some s =>
    exfalso
    have h1 : cs[0]? ≠ none := by rw [List.getElem?_eq_getElem (by omega)]; simp
    rw [← this] at h1
    unfold World.cell? at h1
    revert h1
    simp only [Option.isSome_some, if_true]
    split <;> simp
def Rd.slice (h : P.underlying T = some (.slice E)) (hc : P.cellsOf T = 1) (r : Rd P E α) (hs : Nat.blt 0 r.sz = true) : Rd P T (List α) where
  enc l := [.sl r.sz l.length (elOf r.enc r.dflt l)]
  sz := 1
  dflt := []
  good l := l.length ≤ maxLen ∧ ∀ a ∈ l, r.good a
  bulk l := (l.map r.bulk).sum + 1
  cells := hc
  len _ := rfl
  read := by
    intro H en w base sp held fuel cs x hx
    have hpos : 0 < r.sz := by simpa [Nat.blt_eq] using hs
    rcases DataW.trod_slice h hx with ⟨rfl, rfl⟩ | ⟨⟨b, off, spot⟩, len, cap, elems, rest, n, _, rfl, rfl, hb, hl, hm, hlen, hel, hsp, hns⟩
    · refine ⟨[], ⟨by simp, by simp⟩, by simp [Rows.uptoBulk], rfl, by simp [Value.oneCell'], fun j hj => ?_⟩
      obtain rfl : j = 0 := by omega
      exact .sl _ _ _ _ _ (fun _ => undef) (by simp) (by simp) (.inl (by simp)) (by simp) (by simp) (by simp)
    · have each : ∀ i, i < len → ∃ a, ∃ cs' x', w.cells? base (Addr.add ⟨b, off, spot⟩ (i * r.sz)) r.sz = some cs' ∧ elems[i]? = some x' ∧ r.good a ∧ r.bulk a ≤ Rows.uptoBulk x'.1 ∧ cs'.length = r.sz ∧ (∀ c ∈ cs', c.oneCell' = true) ∧ ∀ j, j < r.sz → Rel Z0 w ((r.enc a).getD j .any) (cs'.getD j undef) := by
        intro i hi
        have h1 := hel i hi
        rw [r.cells, List.getElem?_eq_getElem (by omega), Option.bind_eq_some_iff] at h1
        obtain ⟨cs', hcs, ht⟩ := h1
        obtain ⟨a, h2, h3, h4, h5, h6⟩ := r.read ht
        exact ⟨a, cs', _, hcs, List.getElem?_eq_getElem (by omega), h2, h3, h4, h5, h6⟩
      obtain ⟨l, hll, hp⟩ := exists_list (d := r.dflt) len each
      have cell : ∀ i j, i < len → j < r.sz → ∃ v, w.cell? ⟨b, off + (i * r.sz + j), none⟩ = some v ∧ v.oneCell' = true ∧ Rel Z0 w ((r.enc (l.getD i r.dflt)).getD j .any) v := by
        intro i j hi hj
        obtain ⟨cs', x', h1, _, _, _, h4, h5, h6⟩ := hp i hi
        have hj' : j < cs'.length := by omega
        refine ⟨cs'[j], ?_, h5 _ (List.getElem_mem _), ?_⟩
        · have := cells_addr (i * r.sz) h1 j hj
          rw [List.getElem?_eq_getElem hj'] at this
          rw [← Nat.add_assoc]; exact this
        · have := h6 j hj
          rwa [List.getD_eq_getElem?_getD (l := cs'), List.getElem?_eq_getElem hj'] at this
      refine ⟨l, ⟨by omega, ?_⟩, ?_, rfl, by simp [Value.oneCell'], fun j hj => ?_⟩
      · refine getD_mem_all (d := r.dflt) fun i hi => ?_
        obtain ⟨_, _, _, _, h2, _⟩ := hp i (by omega)
        exact h2
      · have := bulkAll_le r.bulk r.dflt l (elems.map (·.1)) (by simp [hll, hlen]) fun i hi => by
          obtain ⟨_, x', _, h1, _, h3, _⟩ := hp i (by omega)
          have e : (elems.map (·.1)).getD i .nil = x'.1 := by simp [List.getD_eq_getElem?_getD, h1]
          rw [e]; exact h3
        simp only [Rows.uptoBulk]; omega
      · obtain rfl : j = 0 := by omega
        simp only [List.getD_cons_zero]
        rw [hll]
        have hdec : ∀ k, k < len * r.sz → k / r.sz < len ∧ k % r.sz < r.sz ∧ k / r.sz * r.sz + k % r.sz = k := fun k hk => by
          refine ⟨Nat.div_lt_of_lt_mul (by rw [Nat.mul_comm]; exact hk), Nat.mod_lt _ hpos, ?_⟩
          rw [Nat.mul_comm]; exact Nat.div_add_mod k r.sz
        refine .sl _ _ _ _ _ (fun k => (w.cell? ⟨b, off + k, none⟩).getD undef) hl hm ?_ ?_ (fun i hi => r.len _) ?_
        · rcases Nat.eq_zero_or_pos len with h0 | h0
          · exact .inl (by simp [h0])
          · right
            obtain ⟨cs', _, h1, _⟩ := hp 0 h0
            rw [Nat.zero_mul] at h1
            refine ⟨b, off, by rw [spot_none hpos h1], fun f => f, fun k hk => ?_⟩
            obtain ⟨h2, h3, h4⟩ := hdec k hk
            obtain ⟨v, hv, _⟩ := cell _ _ h2 h3
            rw [h4] at hv
            rw [hv]; rfl
        · intro k hk
          obtain ⟨h2, h3, h4⟩ := hdec k hk
          obtain ⟨v, hv, h5, _⟩ := cell _ _ h2 h3
          rw [h4] at hv
          rw [hv]; exact h5
        · intro i j hi hj
          obtain ⟨v, hv, _, h6⟩ := cell i j hi hj
          rw [hv]; exact h6
def Rd.array {N : Nat} (h : P.underlying T = some (.array N E)) (hc : P.cellsOf T = N) (r : Rd P E α) (enc1 : α → SV) (he : ∀ a, r.enc a = [enc1 a]) (hs : r.sz = 1) : Rd P T { l : List α // l.length = N } where
  enc l := l.1.map enc1
  sz := N
  dflt := ⟨List.replicate N r.dflt, by simp⟩
  good l := ∀ a ∈ l.1, r.good a
  bulk l := (l.1.map r.bulk).sum
  cells := hc
  len l := by rw [List.length_map, l.2]
  read := by
    intro H en w base sp held fuel cs x hx
    obtain ⟨xs, m, _, rfl, hlen, hxl, hel⟩ := DataW.trod_array h hx
    have hce : P.cellsOf E = 1 := by rw [r.cells, hs]
    have each : ∀ i, i < N → ∃ a, ∃ x', xs[i]? = some x' ∧ r.good a ∧ r.bulk a ≤ Rows.uptoBulk x'.1 ∧ ∃ c, cs[i]? = some c ∧ c.oneCell' = true ∧ Rel Z0 w (enc1 a) c := by
      intro i hi
      have h1 := hel i hi
      rw [hce, Nat.mul_one, List.getElem?_eq_getElem (by omega)] at h1
      obtain ⟨a, h2, h3, h4, h5, h6⟩ := r.read h1
      have hic : i < cs.length := by rw [hlen, hc]; exact hi
      have hch : (cs.drop i).take 1 = [cs[i]] := by rw [List.drop_eq_getElem_cons hic]; rfl
      have h7 := h6 0 (by omega)
      rw [he, hch] at h7
      rw [hch] at h5
      exact ⟨a, _, List.getElem?_eq_getElem (by omega), h2, h3, cs[i], List.getElem?_eq_getElem hic, h5 _ (by simp), by simpa using h7⟩
    obtain ⟨l, hll, hp⟩ := exists_list (d := r.dflt) N each
    refine ⟨⟨l, hll⟩, ?_, ?_, by rw [hlen, hc], ?_, fun j hj => ?_⟩
    · refine getD_mem_all (d := r.dflt) fun i hi => ?_
      obtain ⟨_, _, h2, _⟩ := hp i (by simp only at hi; omega)
      exact h2
    · have := bulkAll_le r.bulk r.dflt l (xs.map (·.1)) (by simp [hll, hxl]) fun i hi => by
        obtain ⟨x', h1, _, h3, _⟩ := hp i (by omega)
        have e : (xs.map (·.1)).getD i .nil = x'.1 := by simp [List.getD_eq_getElem?_getD, h1]
        rw [e]; exact h3
      simp only [Rows.uptoBulk]; omega
    · intro c hcm
      obtain ⟨j, hj⟩ := List.mem_iff_getElem?.1 hcm
      have hjl : j < N := by
        have := (List.getElem?_eq_some_iff.1 hj).1
        rw [hlen, hc] at this; exact this
      obtain ⟨_, _, _, _, c', h5, h6, _⟩ := hp j hjl
      rw [hj] at h5; cases h5
      exact h6
    · obtain ⟨_, _, _, _, c', h5, _, h7⟩ := hp j hj
      have hjl : j < l.length := by omega
      simp only [List.getD_eq_getElem?_getD, List.getElem?_map, List.getElem?_eq_getElem hjl, Option.map_some, Option.getD_some, h5]
      rw [List.getD_eq_getElem?_getD, List.getElem?_eq_getElem hjl] at h7
      exact h7
def Rd.as (r : Rd P T α) (g : α → β) (d : β) (enc' : β → List SV) (good' : β → Prop) (bulk' : β → Nat) (he : ∀ a, enc' (g a) = r.enc a) (hl : ∀ b, (enc' b).length = r.sz) (hg : ∀ a, r.good a → good' (g a)) (hb : ∀ a, bulk' (g a) = r.bulk a) : Rd P T β where
  enc := enc'
  sz := r.sz
  dflt := d
  good := good'
  bulk := bulk'
  cells := r.cells
  len := hl
  read := by
    intro H en w base sp held fuel cs x hx
    obtain ⟨a, h1, h2, h3, h4, h5⟩ := r.read hx
    exact ⟨g a, hg a h1, by rw [hb]; exact h2, h3, h4, fun j hj => by rw [he]; exact h5 j hj⟩
structure Fds (P : Program) (off : Nat) (tos : List (TypeId × Nat)) (α : Type) where
  enc : α → List SV
  sz : Nat
  dflt : α
  good : α → Prop
  bulk : α → Nat
  len : ∀ a, (enc a).length = sz
  read : ∀ {H : Type} {en : TypeId × Value → H} {w : World} {base : Nat} {sp : Nat → Bool} {held : Bool} {fuel : Nat} {cs : List Value} {xs : List (DataW H × List MemPlace)}, xs.length = tos.length → off + sz = cs.length →
    (∀ (i : Nat) (f : TypeId × Nat), tos[i]? = some f → DataW.trod en P w base sp held fuel f.1 ((cs.drop f.2).take (P.cellsOf f.1)) = (xs[i]? : Option (DataW H × List MemPlace))) → ∃ a, good a ∧ bulk a ≤ Rows.uptoBulkAll (xs.map (·.1)) ∧
    ∀ j, j < sz → (cs.getD (off + j) undef).oneCell' = true ∧ Rel Z0 w ((enc a).getD j .any) (cs.getD (off + j) undef)
def Fds.nil {off : Nat} : Fds P off [] Unit where
  enc _ := []
  sz := 0
  dflt := ()
  good _ := True
  bulk _ := 0
  len _ := rfl
  read := by
    intro H en w base sp held fuel cs xs hl hs h
    exact ⟨(), trivial, by simp, fun j hj => by omega⟩
def Fds.cons {off : Nat} {t : TypeId} {tos : List (TypeId × Nat)} (r : Rd P t α) (k : Fds P (off + r.sz) tos β) : Fds P off ((t, off) :: tos) (α × β) where
  enc x := r.enc x.1 ++ k.enc x.2
  sz := r.sz + k.sz
  dflt := (r.dflt, k.dflt)
  good x := r.good x.1 ∧ k.good x.2
  bulk x := r.bulk x.1 + k.bulk x.2
  len x := by rw [List.length_append, r.len, k.len]
  read := by
    intro H en w base sp held fuel cs xs hl hs h
    cases xs with
    | nil => simp at hl
    | cons x xs =>
      have h0 := h 0 (t, off) rfl
      simp only [List.getElem?_cons_zero] at h0
      obtain ⟨a, h1, h2, h3, h4, h5⟩ := r.read h0
      obtain ⟨b, g1, g2, g3⟩ := k.read (w := w) (cs := cs) (by simpa using hl) (by omega) fun i f hf => by simpa using h (i + 1) f (by simpa using hf)
      refine ⟨(a, b), ⟨h1, g1⟩, by simp only [List.map_cons, Rows.uptoBulkAll]; omega, fun j hj => ?_⟩
      rw [List.getD_eq_getElem?_getD (l := r.enc a ++ k.enc b)]
      by_cases hj' : j < r.sz
      · rw [List.getElem?_append_left (by rw [r.len]; exact hj')]
        have e : (List.take (P.cellsOf t) (List.drop off cs)).getD j undef = cs.getD (off + j) undef := by
          rw [r.cells]
          simp only [List.getD_eq_getElem?_getD, List.getElem?_take, List.getElem?_drop, hj', if_true]
        have h5' := h5 j hj'
        simp only [e] at h5'
        refine ⟨?_, by rw [← List.getD_eq_getElem?_getD]; exact h5'⟩
        have hlt : off + j < cs.length := by omega
        rw [← e]
        have hm := h4 ((List.take (P.cellsOf t) (List.drop off cs)).getD j undef)
        apply hm
        rw [List.getD_eq_getElem?_getD, List.getElem?_eq_getElem (by simp only [h3]; exact hj')]
        exact List.getElem_mem _
      · rw [List.getElem?_append_right (by rw [r.len]; omega), r.len, ← List.getD_eq_getElem?_getD]
        have := g3 (j - r.sz) (by omega)
        rw [show off + r.sz + (j - r.sz) = off + j by omega] at this
        exact this
def fieldsAt (P : Program) (T : TypeId) : Option (List (TypeId × Nat)) := match P.underlying T with
  | some (.struct fs) => some (fs.toList.map fun f => (f.type, f.offset))
  | _ => none
theorem fieldsAt_spec {tos : List (TypeId × Nat)} (h : fieldsAt P T = some tos) : ∃ fs : Array Field, P.underlying T = some (.struct fs) ∧ tos = fs.toList.map fun f => (f.type, f.offset) := by
  unfold fieldsAt at h
  split at h
  · rename_i fs hu
    exact ⟨fs, hu, (Option.some.inj h).symm⟩
  · cases h
def Rd.struct {tos : List (TypeId × Nat)} (h : fieldsAt P T = some tos) (k : Fds P 0 tos α) (hc : P.cellsOf T = k.sz) : Rd P T α where
  enc := k.enc
  sz := k.sz
  dflt := k.dflt
  good := k.good
  bulk a := k.bulk a + 1
  cells := hc
  len := k.len
  read := by
    intro H en w base sp held fuel cs x hx
    obtain ⟨fs, hu, rfl⟩ := fieldsAt_spec h
    obtain ⟨xs, n, rfl, rfl, hl, hxl, hf⟩ := DataW.trod_struct hu hx
    rw [hc] at hl
    obtain ⟨a, h1, h2, h3⟩ := k.read (w := w) (cs := cs) (xs := xs) (by simp [hxl]) (by omega) fun i f hi => by
      rw [List.getElem?_map, Option.map_eq_some_iff] at hi
      obtain ⟨f', hf', rfl⟩ := hi
      exact hf i f' (by simpa using hf')
    refine ⟨a, h1, by simp only [Rows.uptoBulk]; omega, hl, ?_, fun j hj => by have := (h3 j hj).2; rwa [Nat.zero_add] at this⟩
    intro c hcm
    obtain ⟨i, hi, rfl⟩ := List.mem_iff_getElem.1 hcm
    have := (h3 i (by omega)).1
    rwa [Nat.zero_add, List.getD_eq_getElem?_getD, List.getElem?_eq_getElem hi] at this
structure Rds (P : Program) (ts : List TypeId) (α : Type) where
  svs : α → List SV
  good : α → Prop
  bulk : α → Nat
  len : ∀ a, (svs a).length = ts.length
  read : ∀ {H : Type} {en : TypeId × Value → H} {w : World} {base : Nat} {sp : Nat → Bool} {held : Bool} {vs : List Value} {ds : List (DataW H)} {ps : List MemPlace}, (∀ (j : Nat) t v, ts[j]? = some t → vs[j]? = some v → ∃ b, Value.okWide P w .any b t v) →
    DataW.TrodAll en P w base sp held ts vs ds ps → ∃ a, good a ∧ bulk a ≤ Rows.uptoBulkAll ds ∧ vs.length = ts.length ∧ ∀ j, j < ts.length → Rel Z0 w ((svs a).getD j .any) (vs.getD j undef)
def Rds.nil : Rds P [] Unit where
  svs _ := []
  good _ := True
  bulk _ := 0
  len _ := rfl
  read := by
    intro H en w base sp held vs ds ps hv h
    obtain ⟨rfl, rfl, rfl⟩ := trodAll_nil h
    exact ⟨(), trivial, by simp, rfl, fun j hj => by simp at hj⟩
def isAgg (P : Program) (T : TypeId) : Bool := match P.underlying T with
  | some (.struct _) | some (.array ..) => true
  | _ => false
theorem agg_of (h : isAgg P T = true) {w : World} {b : Nat} {v : Value} (hv : Value.okWide P w .any b T v) : ∃ cs, v = .agg cs := by
  unfold isAgg at h
  unfold Value.okWide at hv
  split at h
  · rename_i hu; rw [hu] at hv; exact ⟨_, hv.choose_spec.1⟩
  · rename_i hu; rw [hu] at hv; exact ⟨_, hv.choose_spec.1⟩
  · cases h
theorem cell_of (h : isAgg P T = false) {w : World} {b : Nat} {v : Value} (hv : Value.okWide P w .any b T v) : v.cells = #[v] := by
  cases v with
  | agg cs =>
    exfalso
    unfold isAgg at h
    unfold Value.okWide at hv
    cases hu : P.underlying T with
    | none => rw [hu] at hv; simp [Cell.okWide, Cell.ok, hu] at hv
    | some d => cases d <;> simp [hu, Cell.okWide, Cell.ok] at hv h
  | _ => rfl
def Rds.cons {ts : List TypeId} (r : Rd P T α) (h1 : r.sz = 1) (hagg : isAgg P T = false) (k : Rds P ts β) : Rds P (T :: ts) (α × β) where
  svs x := (r.enc x.1).getD 0 .any :: k.svs x.2
  good x := r.good x.1 ∧ k.good x.2
  bulk x := r.bulk x.1 + k.bulk x.2
  len x := by simp [k.len]
  read := by
    intro H en w base sp held vs ds ps hv h
    obtain ⟨v, vs, d, ds, p, q, rfl, rfl, rfl, ht, hr⟩ := trodAll_cons h
    obtain ⟨fuel, hf⟩ := ht
    obtain ⟨b, hb⟩ := hv 0 T v rfl rfl
    rw [cell_of hagg hb] at hf
    obtain ⟨a, g1, g2, g3, g4, g5⟩ := r.read hf
    obtain ⟨c, f1, f2, f3, f4⟩ := k.read (fun j t v hj hv' => hv (j + 1) t v (by simpa using hj) (by simpa using hv')) hr
    refine ⟨(a, c), ⟨g1, f1⟩, by simp only [Rows.uptoBulkAll]; exact Nat.add_le_add g2 f2, by simp [f3], fun j hj => ?_⟩
    cases j with
    | zero => exact g5 0 (by omega)
    | succ j => simpa using f4 j (by simpa using hj)
def Rds.consAgg {ts : List TypeId} (r : Rd P T α) (hagg : isAgg P T = true) (k : Rds P ts β) : Rds P (T :: ts) (α × β) where
  svs x := .agg (r.enc x.1) :: k.svs x.2
  good x := r.good x.1 ∧ k.good x.2
  bulk x := r.bulk x.1 + k.bulk x.2
  len x := by simp [k.len]
  read := by
    intro H en w base sp held vs ds ps hv h
    obtain ⟨v, vs, d, ds, p, q, rfl, rfl, rfl, ht, hr⟩ := trodAll_cons h
    obtain ⟨fuel, hf⟩ := ht
    obtain ⟨b, hb⟩ := hv 0 T v rfl rfl
    obtain ⟨cs, rfl⟩ := agg_of hagg hb
    simp only [Value.cells] at hf
    obtain ⟨a, g1, g2, g3, g4, g5⟩ := r.read hf
    obtain ⟨c, f1, f2, f3, f4⟩ := k.read (fun j t v hj hv' => hv (j + 1) t v (by simpa using hj) (by simpa using hv')) hr
    refine ⟨(a, c), ⟨g1, f1⟩, by simp only [Rows.uptoBulkAll]; exact Nat.add_le_add g2 f2, by simp [f3], fun j hj => ?_⟩
    cases j with
    | zero => exact .agg _ cs.toList (by rw [g3, r.len]) g4 fun j hj => g5 j (by rwa [r.len] at hj)
    | succ j => simpa using f4 j (by simpa using hj)
end
theorem grown_of {W W' : World} (hb : Below W.heap.size W W') : (∀ may, W.keptBut W' may) ∧ ∀ a : Addr, a.block < W.heap.size → W'.frozen? a = W.frozen? a := by
  refine ⟨fun may => ⟨hb.os, hb.output, fun i hi => ?_⟩, fun a ha => ?_⟩
  · rw [hb.block i hi]
    split
    · rename_i h1 h2
      rw [h1] at h2; cases h2
      exact ⟨rfl, rfl, rfl, fun _ _ => rfl⟩
    · rename_i h1 h2
      rw [h1] at h2; cases h2
      exact .inr ⟨rfl, rfl⟩
    · rfl
  · unfold World.frozen?
    rw [hb.block a.block ha]
theorem post_same {H : Type} {enc : TypeId × Value → H} {P : Program} {f : Func} {s : ChangeSpec} {apart fresh handsOn again : Bool} {W W' : World} {args : Array Value} {v : Value} {ds gs : List (DataW H)} {before pa pv : List MemPlace}
    (hW : DataW.Whole enc P f.params.toList s.vars apart W args.toList ds gs before)
    (hres : ∀ (b : Nat) (sp : Nat → Bool) (hd : Bool), DataW.TrodAll enc P W' b sp hd f.resultTypes.toList (v.resultList f.resultTypes.size) (s.fn H (ds ++ gs)).results [])
    (hargs : ∀ sp : Nat → Bool, (∀ p ∈ before, sp p.block = true) → DataW.TrodAll enc P W' 0 sp true f.params.toList args.toList (s.fn H (ds ++ gs)).args pa)
    (hvars : ∀ sp : Nat → Bool, (∀ p ∈ before, sp p.block = true) → DataW.TrodVars enc P W' sp s.vars (s.fn H (ds ++ gs)).vars pv)
    (hps : before = pa ++ pv) (hb : Below W.heap.size W W')
    (hok : ∀ (j : Nat) (t : TypeId) (r : Value), f.resultTypes[j]? = some t → (v.resultList f.resultTypes.size)[j]? = some r → Value.okWide P W' .any 0 t r) :
    s.post enc P f apart fresh handsOn again W args v W' := by
  obtain ⟨hk, hfz⟩ := grown_of hb
  have hlt := hW.lt
  have hold : ∀ p ∈ before, (fun b => decide (b < W.heap.size)) p.block = true := fun p hp => by simpa using hlt p hp
  refine ⟨ds, gs, before, [], pa, pv, hW, hres _ _ _, hargs _ hold, hvars _ hold, World.keptBut_mono (fun p hp => ⟨hp, ?_⟩) (hk (· ∈ before)), fun _ => ?_⟩
  · rw [hps, List.mem_append] at hp
    exact Or.inr hp
  · obtain ⟨_, _, _, _, _, hz, hn⟩ := hW
    refine ⟨hok, _, _, ([] ++ pa) ++ pv, ⟨[] ++ pa, pv, trodAll_append (hargs _ (fun _ _ => rfl)) (hres _ _ _), hvars _ (fun _ _ => rfl), rfl, ?_, ?_⟩, ?_⟩
    · intro b off hp
      have hp' : MemPlace.cell b off ∈ before := by rw [hps]; simpa using hp
      rw [hfz _ (hlt _ hp')]
      exact hz b off hp'
    · intro ha
      have := hn ha
      rw [hps] at this
      simpa using this
    · intro p hp _
      rw [hps]
      simpa using hp
theorem stays_all {H : Type} {en : TypeId × Value → H} {P : Program} (hl : laidOutB P = true) {W W' : World} (hb : Below W.heap.size W W') {sp : Nat → Bool} :
    ∀ {ts : List TypeId} {vs : List Value} {ds : List (DataW H)} {ps : List MemPlace}, ts.all (fun t => P.readableRec t && decide (t < P.types.size)) = true → DataW.TrodAll en P W 0 (fun _ => true) true ts vs ds ps → (∀ x ∈ ps, x.block < W.heap.size) → (∀ x ∈ ps, sp x.block = true) →
    DataW.TrodAll en P W' 0 sp true ts vs ds ps
  | [], _, _, _, _, h, _, _ => by
    obtain ⟨rfl, rfl, rfl⟩ := trodAll_nil h
    exact trodAll_mk0
  | t :: ts, _, _, _, hr, h, hlt, hsp => by
    obtain ⟨v, vs, d, ds, p, q, rfl, rfl, rfl, h0, h1⟩ := trodAll_cons h
    simp only [List.all_cons, Bool.and_eq_true, decide_eq_true_eq] at hr
    exact trodAll_cons_mk (WideElems.Trod_stays hl hr.1.1 hr.1.2 h0 (fun x hx => hb.same (hlt x (by simp [hx]))) (fun x hx => hsp x (by simp [hx])))
      (stays_all hl hb (by simpa using hr.2) h1 (fun x hx => hlt x (by simp [hx])) (fun x hx => hsp x (by simp [hx])))
theorem calls_of {H : Type} {en : TypeId × Value → H} {P : Program} [Gl P] {f : Nat} {fn : Func} {ts : List TypeId} {α : Type} (rds : Rds P ts α) {s : ChangeSpec} {tb : TypeId} {apart fresh handsOn again : Bool} (hs : s.vars = []) (hp : fn.params.toList = ts) (hres : fn.resultTypes = #[tb])
    (htb : P.underlying tb = some .bool) (hl : laidOutB P = true) (hread : ts.all (fun t => P.readableRec t && decide (t < P.types.size)) = true)
    (hfn : ∀ ds : List (DataW H), ds.length = ts.length → (s.fn H ds).results = [.lit (.bool true)] ∧ (s.fn H ds).args = ds ∧ (s.fn H ds).vars = [])
    {W : World} {base : Nat} {args : Array Value} {ds gs : List (DataW H)} {before : List MemPlace}
    (hval : ∀ (j : Nat) t v, fn.params[j]? = some t → args[j]? = some v → Value.okWide P W .any base t v)
    (hW : DataW.Whole en P fn.params.toList s.vars apart W args.toList ds gs before)
    (hgl : ∀ x ∈ Gl.gl P, x.1 < W.heap.size ∧ ∀ i v, x.2[i]? = some v → W.cell? ⟨x.1, i, none⟩ = some v)
    (hC : ∀ a, rds.good a → rds.bulk a ≤ Rows.uptoBulkAll ds → ∃ R : SV → List Own → Prop, FnC P f (rds.svs a) [] R ∧ ∀ s L, R s L → s = Sse.bool true) :
    Calls P f args W fun e W' => ∃ v, e = .returned v ∧ s.post en P fn apart fresh handsOn again W args v W' := by
  have hW' := hW
  have hlt0 := hW.lt
  obtain ⟨p, q, hA, hV, rfl, hfz, hnd⟩ := hW
  rw [hs] at hV
  obtain ⟨rfl, rfl⟩ := trodVars_none hV
  rw [hp] at hA
  obtain ⟨a, ha, hb, hlen, hrel⟩ := rds.read (fun j t v hj hv => ⟨base, hval j t v (by rw [← hp] at hj; simpa using hj) (by simpa using hv)⟩) hA
  obtain ⟨R, hF, hR⟩ := hC a ha hb
  have hlen' : ds.length = ts.length := by
    have : ∀ {ts : List TypeId} {vs : List Value} {ds : List (DataW H)} {p : List MemPlace}, DataW.TrodAll en P W 0 (fun _ => true) true ts vs ds p → ds.length = ts.length := by
      intro ts
      induction ts with
      | nil => intro vs ds p h; obtain ⟨_, rfl, _⟩ := trodAll_nil h; rfl
      | cons t ts ih => intro vs ds p h; obtain ⟨_, _, _, _, _, _, rfl, rfl, rfl, _, h1⟩ := trodAll_cons h; simp [ih h1]
    exact this hA
  have := hF.go Z0 W args.toList (by rw [hlen, rds.len]) (fun j hj => (hrel j (by rwa [rds.len] at hj)).stable fun b _ _ => ⟨rfl, by simp [ZL, Z0, inF, foots]⟩) (by simp [Z0]) (by simp [foots]) (by simp [inF, foots]) (by simp) (fun x hx => ⟨(hgl x hx).1, by simp [inF, foots], (hgl x hx).2⟩)
  simp only [Array.toArray_toList] at this
  refine this.mono fun e W' ⟨v, sv, L', he, hr, hrv, hw⟩ => ?_
  subst he
  obtain rfl := hR _ _ hr
  obtain rfl : v = .bool true := hrv.val_eq
  have hbel : Below W.heap.size W W' := ⟨hw.os, hw.tape, hw.output, hw.size, fun k hk => hw.keep k hk (by simp [inF, foots])⟩
  obtain ⟨e1, e2, e3⟩ := hfn (ds ++ []) (by simpa using hlen')
  simp only [List.append_nil] at hlt0 hW'
  refine ⟨_, rfl, post_same (pa := p) (pv := []) hW' (fun b sp hd => ?_) (fun sp hsp => ?_) (fun _ _ => ?_) (by simp) hbel (ok_one hres rfl (okWide_bool_mk htb _))⟩
  · rw [e1, hres]; exact trodAll_cons_mk (shut_bool htb _) trodAll_mk0
  · rw [e2, List.append_nil, hp]; exact stays_all hl hbel hread hA hlt0 hsp
  · rw [e3, hs]; rfl
end Go.Proofs.Ytlfdhkahiaammaa
namespace Go.Proofs.Ytlfdhkahiaammaa
open Go Go.Sse Go.ChangeShapes Go.WideShapes Go.ChangeAt Go.RowKit
set_option linter.unusedVariables false
set_option linter.unusedSimpArgs false
set_option maxRecDepth 100000
theorem own : ownKnob Try.prog.godebug = none := by kernel_rfl
theorem laidOut : laidOutB Try.prog = true := by kernel_rfl
noncomputable def rdStr : Rd Try.prog 9 (List UInt8) := Rd.str (by kernel_rfl) (by kernel_rfl)
noncomputable def rdBool : Rd Try.prog 4 Bool := Rd.bool (by kernel_rfl) (by kernel_rfl)
noncomputable def rdInt : Rd Try.prog 3 Int := Rd.int (k := .i64) (by kernel_rfl) (by kernel_rfl)
noncomputable def rdCode : Rd Try.prog 25 Int := Rd.int (k := .i64) (by kernel_rfl) (by kernel_rfl)
noncomputable def rdStrs : Rd Try.prog 34 (List (List UInt8)) := Rd.slice (by kernel_rfl) (by kernel_rfl) rdStr rfl
noncomputable def rdIso {α β : Type} {T : TypeId} (r : Rd Try.prog T α) (g : α → β) (gi : β → α) (h : ∀ a, gi (g a) = a) (enc' : β → List SV) (he : ∀ a, enc' (g a) = r.enc a) (hl : ∀ b, (enc' b).length = r.sz) : Rd Try.prog T β :=
  r.as g (g r.dflt) enc' (fun b => r.good (gi b)) (fun b => r.bulk (gi b)) he hl (fun a ha => by rw [h]; exact ha) (fun a => by rw [h])
noncomputable def rdMb : Rd Try.prog 112 Mb :=
  rdIso (Rd.struct (tos := [(9, 0), (3, 1)]) (by kernel_rfl) (Fds.cons rdStr (Fds.cons rdInt Fds.nil)) (by kernel_rfl)) (fun x => ⟨x.1, x.2.1⟩) (fun m => (m.name, m.power, ())) (fun _ => rfl) mbC (fun _ => rfl) (fun _ => rfl)
noncomputable def rdMbs : Rd Try.prog 33 (List Mb) := Rd.slice (by kernel_rfl) (by kernel_rfl) rdMb rfl
noncomputable def rdHd : Rd Try.prog 66 Hd :=
  rdIso (Rd.struct (tos := [(3, 0), (3, 1), (3, 2), (4, 3), (9, 4), (9, 5), (9, 6), (9, 7), (9, 8), (9, 9), (34, 10)]) (by kernel_rfl)
    (Fds.cons rdInt (Fds.cons rdInt (Fds.cons rdInt (Fds.cons rdBool (Fds.cons rdStr (Fds.cons rdStr (Fds.cons rdStr (Fds.cons rdStr (Fds.cons rdStr (Fds.cons rdStr (Fds.cons rdStrs Fds.nil))))))))))) (by kernel_rfl))
    (fun x => ⟨x.1, x.2.1, x.2.2.1, x.2.2.2.1, x.2.2.2.2.1, x.2.2.2.2.2.1, x.2.2.2.2.2.2.1, x.2.2.2.2.2.2.2.1, x.2.2.2.2.2.2.2.2.1, x.2.2.2.2.2.2.2.2.2.1, x.2.2.2.2.2.2.2.2.2.2.1⟩) (fun x => (x.height, x.epoch, x.view, x.last, x.parent, x.state, x.receipts, x.txs, x.members, x.next, x.skips, ())) (fun _ => rfl) hdC (fun _ => rfl) (fun _ => rfl)
noncomputable def rdHds : Rd Try.prog 32 (List Hd) := Rd.slice (by kernel_rfl) (by kernel_rfl) rdHd rfl
noncomputable def rdCt : Rd Try.prog 36 Ct :=
  rdIso (Rd.struct (tos := [(9, 0), (34, 1)]) (by kernel_rfl) (Fds.cons rdStr (Fds.cons rdStrs Fds.nil)) (by kernel_rfl)) (fun x => ⟨x.1, x.2.1⟩) (fun c => (c.digest, c.signers, ())) (fun _ => rfl) ctC (fun _ => rfl) (fun _ => rfl)
noncomputable def rdIt : Rd Try.prog 69 It :=
  rdIso (Rd.struct (tos := [(9, 0), (9, 1)]) (by kernel_rfl) (Fds.cons rdStr (Fds.cons rdStr Fds.nil)) (by kernel_rfl)) (fun x => ⟨x.1, x.2.1⟩) (fun m => (m.key, m.value, ())) (fun _ => rfl) itC (fun _ => rfl) (fun _ => rfl)
noncomputable def rdIts : Rd Try.prog 37 (List It) := Rd.slice (by kernel_rfl) (by kernel_rfl) rdIt rfl
noncomputable def rdPg : Rd Try.prog 39 (List It × List UInt8 × List (List UInt8)) :=
  rdIso (Rd.struct (tos := [(37, 0), (9, 1), (34, 2)]) (by kernel_rfl) (Fds.cons rdIts (Fds.cons rdStr (Fds.cons rdStrs Fds.nil))) (by kernel_rfl)) (fun x => (x.1, x.2.1, x.2.2.1)) (fun m => (m.1, m.2.1, m.2.2, ())) (fun _ => rfl) (fun m => [itsl m.1, str m.2.1, ssl m.2.2]) (fun _ => rfl) (fun _ => rfl)
noncomputable def rdAn : Rd Try.prog 41 An :=
  rdIso (Rd.struct (tos := [(25, 0), (3, 1), (32, 2), (33, 3), (33, 4), (36, 5), (34, 7), (39, 8)]) (by kernel_rfl) (Fds.cons rdCode (Fds.cons rdInt (Fds.cons rdHds (Fds.cons rdMbs (Fds.cons rdMbs (Fds.cons rdCt (Fds.cons rdStrs (Fds.cons rdPg Fds.nil)))))))) (by kernel_rfl)) (fun x => ⟨x.1, x.2.1, x.2.2.1, x.2.2.2.1, x.2.2.2.2.1, x.2.2.2.2.2.1, x.2.2.2.2.2.2.1, x.2.2.2.2.2.2.2.1.1, x.2.2.2.2.2.2.2.1.2.1, x.2.2.2.2.2.2.2.1.2.2⟩)
    (fun m => (m.code, m.height, m.heads, m.set, m.nxt, m.cert, m.nodes, (m.items, m.pnext, m.pnodes), ())) (fun _ => rfl) anC (fun _ => rfl) (fun _ => rfl)
end Go.Proofs.Ytlfdhkahiaammaa
namespace Go.Proofs.Ytlfdhkahiaammaa
open Go Go.Sse
set_option linter.unusedVariables false
set_option linter.unusedSimpArgs false
set_option maxRecDepth 10000
abbrev tCt : Nat := 36
theorem agCt : TAg Try.prog tCt 2 := inferInstance
abbrev ctz : List SV := [str [], .val (.slice none 0 0)]
theorem ctz_sub : SubL ctz (ctC ct0) := .cons (.refl _) (.cons (Sub.nil 1 _) .nil)
set_option maxHeartbeats 1000000 in
theorem cmay_ok (c : Ct) : FnC Try.prog 68 [.agg (ctC c)] [] (fun v L => v = bool (fineCt c) ∧ L = []) := by
  refine FnC.intro Try.func68 rfl Try.ntmps68 rfl fun Z w0 hG => ?_
  focus (
 (refine W.seq (W.region ?_))
 (refine J.boxAg rfl rfl ?_; intro b')
 (refine Jx.assign rfl rfl (J.nil (N.seq (W.seq (W.seq (W.region (Jx.fieldAddr rfl rfl ?_)))))))
 (refine Jx.load rfl 0 rfl rfl rfl ?_)
 (refine Jx.lenS rfl rfl ?_)
 (refine Jx.neqI rfl rfl rfl (Jx.move rfl rfl ?_))
 (refine' J.guardOr rfl rfl rfl rfl rfl rfl rfl rfl (fun _ => ?_) ?_; rotate_left)
 (refine J.gY rfl rfl rfl ?_)
 (refine Jx.fieldAddr rfl rfl ?_)
 (refine J.gY rfl rfl rfl ?_)
 (refine Jx.load rfl 0 rfl rfl rfl ?_)
 (refine J.gY rfl rfl rfl ?_)
 (refine Jx.lenSl rfl rfl ?_)
 (refine J.gY rfl rfl rfl ?_)
 (refine Jx.gtrI rfl rfl rfl (J.nil ?_))
 (refine N.joinedN rfl rfl rfl)
 (refine J.nil (N.seq ?_))
 (refine id ?_; rotate_left))
  refine W.cond rfl (fun hb => ?_) (fun hb => ?_)
  · have hf : fineCt c = false := by
      simp only [Bool.or_eq_true, decide_eq_true_eq] at hb
      simp only [fineCt, Bool.and_eq_false_iff, decide_eq_false_iff_not]
      omega
    rw [hf]
    focus (
 (refine W.seq (W.region (Jx.assign rfl rfl (J.nil (N.seq (W.ret (N.noGotoRet ?_)))))))
 (refine id ?_; rotate_left))
    exact N.retD (rs := [.tmp 2]) (L1 := []) rfl (.tmp rfl .nil) (List.nil_sublist _) ⟨rfl, rfl⟩
  · simp only [Bool.or_eq_false_iff, decide_eq_false_iff_not] at hb
    have hf : fineCt c = fineN [] c.signers := by
      simp only [fineCt]
      rw [decide_eq_true (by omega), decide_eq_true (by omega)]
      rfl
    focus (
 (refine W.skip (N.seq (W.seq (W.region (Jx.assign rfl rfl (J.nil (N.seq (W.seq (W.seq (W.region (Jx.fieldAddr rfl rfl ?_)))))))))))
 (refine Jx.load rfl 0 rfl rfl rfl ?_)
 (refine Jx.lenSl rfl rfl ?_)
 (refine Jx.move rfl rfl (J.nil (N.seq (W.block ?_))))
 (refine id ?_; rotate_left))
    refine W.loop (α := Nat) (fun i => [(19, int (i : Int)), (18, int (c.signers.length : Int)), (17, ssl c.signers), (3, str (lastS c.signers i))]) (fun _ => [.obj b' tCt (ctC c)]) (fun i => i ≤ c.signers.length ∧ fineCt c = fineN (lastS c.signers i) (c.signers.drop i)) (fun i => c.signers.length - i) 0 ⟨by omega, hf⟩ rfl ⟨ref0 rfl, ref0 rfl, ref0 rfl, ref0 rfl, trivial⟩ ?_
    rintro i ⟨hi, hs⟩
    by_cases h1 : i < c.signers.length
    · rw [fineN_step c.signers i h1] at hs
      have hns := lastS_succ c.signers i
      generalize lastS c.signers i = last at *
      focus (
 (refine W.seq (W.region (Jx.lssI rfl rfl rfl (J.nil (N.seq (W.seq (W.cT rfl ?_)))))))
 (refine W.skip (N.seq (W.seq (W.block (W.seq (W.region (Jx.indexEl rfl rfl (by assumption) rfl rfl ?_)))))))
 (refine Jx.loadPP rfl rfl ?_)
 (refine Jx.assign rfl rfl (J.nil (N.seq (W.seq (W.seq (W.region (Jx.move rfl rfl (Jx.move rfl rfl (Jx.leqS rfl rfl rfl ?_)))))))))
 (refine Jx.move rfl rfl ?_)
 (refine' J.guardOr rfl rfl rfl rfl rfl rfl rfl rfl (fun _ => ?_) ?_; rotate_left)
 (refine J.gY rfl rfl rfl ?_)
 (refine Jx.move rfl rfl (J.gY rfl rfl rfl ?_))
 (refine Jx.lenS rfl rfl ?_)
 (refine J.gY rfl rfl rfl ?_)
 (refine Jx.gtrI rfl rfl rfl (J.nil ?_))
 (refine N.joinedN rfl rfl rfl)
 (refine J.nil (N.seq ?_))
 (refine id ?_; rotate_left))
      refine W.cond rfl (fun hb => ?_) (fun hb => ?_)
      · have hf : fineCt c = false := by
          rw [hs]
          cases hk : okN last (c.signers.getD i []) with
          | false => rfl
          | true =>
            simp only [okN, leB, Bool.and_eq_true, decide_eq_true_eq, Bool.not_eq_true', Bool.or_eq_false_iff, decide_eq_false_iff_not] at hk
            obtain ⟨⟨k1, k2⟩, k3⟩ := hk
            simp only [Bool.or_eq_true, decide_eq_true_eq] at hb
            rcases hb with (h | h) | h
            · rw [k1] at h; cases h
            · exact absurd h k2
            · omega
        rw [hf]
        focus (
 (refine W.seq (W.region (Jx.assign rfl rfl (J.nil (N.seq (W.ret (N.noGotoRet (N.noGotoRet (N.noGotoRet (N.noGotoRet (N.noGotoRet (N.noGotoRet ?_))))))))))))
 (refine id ?_; rotate_left))
        exact N.retD (rs := [.tmp 2]) (L1 := []) rfl (.tmp rfl .nil) (List.nil_sublist _) ⟨rfl, rfl⟩
      · focus (
 (refine W.skip (N.seq (W.region (Jx.move rfl rfl (Jx.assign rfl rfl (J.nil (N.seq (W.region (Jx.add64 rfl rfl (by omega) rfl ?_)))))))))
 (refine Jx.move rfl rfl (J.nil ?_))
 (refine id ?_; rotate_left))
        refine N.round (i + 1) ⟨h1, ?_⟩ (by omega) rfl ⟨ref0 rfl, ref0 rfl, ref0 rfl, ⟨_, rfl, Sub.of_eq (by rw [hns])⟩, trivial⟩
        have : okN last (c.signers.getD i []) = true := by
          simp only [Bool.or_eq_false_iff, decide_eq_false_iff_not] at hb
          simp only [okN, leB, Bool.and_eq_true, decide_eq_true_eq, Bool.not_eq_true', Bool.or_eq_false_iff, decide_eq_false_iff_not]
          exact ⟨hb.1, by omega⟩
        rw [hs, this, hns, Bool.true_and]
    · have hil : i = c.signers.length := by omega
      subst hil
      rw [List.drop_length] at hs
      rw [hs]
      focus (
 (refine W.seq (W.region (Jx.lssI rfl rfl rfl (J.nil (N.seq (W.seq (W.cF rfl ?_)))))))
 (refine W.exit (N.seq (W.seq (W.region (Jx.assign rfl rfl (J.nil (N.seq (W.ret ?_))))))))
 (refine id ?_; rotate_left))
      exact N.retD (rs := [.tmp 2]) (L1 := []) rfl (.tmp rfl .nil) (List.nil_sublist _) ⟨rfl, rfl⟩
theorem cencode_ok (c : Ct) : FnC Try.prog 39 [.agg (ctC c)] [] (fun v L => v = .tup [str (encO fineCt encCt c), int (codeB (fineCt c) 3)] ∧ L = []) := by
  have c0 := cmay_ok c
  refine FnC.intro Try.func39 rfl Try.ntmps39 rfl fun Z w0 hG => ?_
  unfold encO
  cases hf : fineCt c with
  | false =>
    rw [hf] at c0
    focus (
 (refine W.seq (W.region ?_))
 (refine J.boxAg rfl rfl ?_; intro b')
 (refine Jx.assign rfl rfl (Jx.assign rfl rfl (J.nil (N.seq (W.seq (W.seq (W.region (Jx.loadAll rfl 0 rfl rfl rfl ?_))))))))
 (refine J.call (c0) rfl (evs_args rfl) rfl ?_; rintro _ _ ⟨rfl, rfl⟩; simp only [la1, la2, la3])
 (refine Jx.not rfl rfl (J.nil (N.seq (W.cT rfl ?_))))
 (refine W.seq (W.region (Jx.assign rfl rfl (Jx.assign rfl rfl (J.nil (N.seq (W.ret (N.noGotoRet ?_))))))))
 (refine id ?_; rotate_left))
    exact N.retD (rs := [.tmp 2, .tmp 3]) (L1 := []) rfl (.tmp rfl (.tmp rfl .nil)) (List.nil_sublist _) ⟨rfl, rfl⟩
  | true =>
    rw [hf] at c0
    obtain ⟨h1, h2, h3⟩ := fineCt_spec hf
    have c1 := list_ok c.signers (by omega) (fun s hs => by have := h3 s hs; omega)
    have hlb := listB_len' (l := c.signers) (k := 6) (n := 7) h2 (by decide) h3 (by decide)
    focus (
 (refine W.seq (W.region ?_))
 (refine J.boxAg rfl rfl ?_; intro b')
 (refine Jx.assign rfl rfl (Jx.assign rfl rfl (J.nil (N.seq (W.seq (W.seq (W.region (Jx.loadAll rfl 0 rfl rfl rfl ?_))))))))
 (refine J.call (c0) rfl (evs_args rfl) rfl ?_; rintro _ _ ⟨rfl, rfl⟩; simp only [la1, la2, la3])
 (refine Jx.not rfl rfl (J.nil (N.seq (W.cF rfl ?_))))
 (refine W.skip (N.seq (W.seq ?_)))
 (refine W.draw follows ?_)
 (refine JD.calm rfl (by decide +kernel) ?_)
 (refine Cx.fieldAddr rfl rfl ?_)
 (refine Cx.load rfl 0 rfl rfl rfl ?_)
 (refine Cx.fieldAddr rfl rfl ?_)
 (refine Cx.load rfl 0 rfl rfl rfl ?_)
 (refine SegC.q (Qs.call (Lc := []) (c1) (fun s L' h => h) (List.Perm.refl _) (evs_args rfl)) rfl ?_)
 (refine Cx.cat rfl rfl (by first | omega | (simp only [List.length_append, List.length_cons, List.length_nil]; omega)) rfl ?_)
 (refine Cx.assign rfl rfl ?_)
 (refine Cx.assign rfl rfl ?_)
 (refine SegC.nil ?_)
 (refine N.seq (W.ret ?_))
 (refine id ?_; rotate_left))
    exact N.retD (rs := [.tmp 2, .tmp 3]) (L1 := []) rfl (.tmp rfl (.tmp rfl .nil)) (List.nil_sublist _) ⟨rfl, rfl⟩
theorem cdecode_ok (s : List UInt8) (hs : s.length ≤ 1099511627776) : FnC Try.prog 65 [str s] [] (fun v L => (∃ o, DecR fineCt encCt s o ∧ v = .tup [.agg (ctC (o.getD ct0)), int (codeO o 3)]) ∧ L = []) := by
  have c0 := read_ok s
  refine FnC.intro Try.func65 rfl Try.ntmps65 rfl fun Z w0 hG => ?_
  focus (
 (refine W.seq (W.region ?_))
 (refine J.alloc (by simp only [List.map_cons, List.map_nil]; rfl) rfl rfl ?_; intro b')
 (refine Jx.assign rfl rfl (J.nil (N.seq (W.seq (W.region (Jx.move rfl rfl ?_))))))
 (refine J.call (Lc := []) c0 rfl (evs_args rfl) rfl ?_; rintro _ _ ⟨b, rfl, rfl⟩; simp only [la1, la2, la3])
 (refine Jx.assign rfl rfl (J.nil (N.seq (W.seq (W.region (Jx.move rfl rfl ?_))))))
 (refine J.call1 0 ((rd_Bytes b s 0 0 32 (Nat.zero_le _) hs)) rfl (evs_args rfl) rfl (by rintro _ _ ⟨t, a1, c1, rfl, rfl, ha1, e1⟩; exact ⟨_, rfl⟩) ?_; rintro _ _ ⟨t, a1, c1, rfl, ⟨⟩, ha1, e1⟩; simp only [la4, la5])
 (refine Jx.move rfl rfl ?_)
 (refine J.call1 0 ((rd_List b s a1 c1 7 6 ha1 hs (by decide))) rfl (evs_args rfl) rfl (by rintro _ _ ⟨l, a2, c2, rfl, rfl, ha2, e2⟩; exact ⟨_, rfl⟩) ?_; rintro _ _ ⟨l, a2, c2, rfl, ⟨⟩, ha2, e2⟩; simp only [la4, la5])
 (refine Jx.buildB rfl rfl rfl rfl rfl ?_)
 (refine J.alloc (by simp only [List.map_cons, List.map_nil]; rfl) rfl rfl ?_; intro b')
 (refine J.storeAll rfl rfl rfl 0 rfl rfl rfl ?_)
 (refine J.nil (N.seq (W.seq (W.seq (W.region (Jx.move rfl rfl ?_))))))
 (refine J.call1 1 ((rd_End b s a2 c2 ha2 hs)) rfl (evs_args rfl) rfl (by rintro _ _ ⟨e, a3, c3, rfl, rfl, he⟩; exact ⟨_, rfl⟩) ?_; rintro _ _ ⟨e, a3, c3, rfl, ⟨⟩, he⟩; simp only [la4, la5])
 (refine Jx.neqI rfl rfl rfl (Jx.move rfl rfl ?_))
 (refine' J.guardOr rfl rfl rfl rfl rfl rfl rfl rfl (fun _ => ?_) ?_; rotate_left)
 (refine J.gY rfl rfl rfl ?_)
 (refine Jx.loadAll rfl 0 rfl rfl rfl ?_)
 (refine J.gY rfl rfl rfl ?_)
 (refine J.cP (cmay_ok ⟨t, l⟩) (evs_args rfl) rfl ?_; try simp only)
 (refine J.gY rfl rfl rfl ?_)
 (refine Jx.not rfl rfl (J.nil ?_))
 (refine N.joinedN rfl rfl rfl)
 (refine J.nil (N.seq ?_))
 (refine id ?_; rotate_left))
  have hr : ReadC 7 6 s ⟨t, l⟩ (lf s a2 c2) := ⟨_, e1, e2⟩
  refine W.cond rfl (fun hb => ?_) (fun hb => ?_)
  · focus (
 (refine W.seq (W.region (Jx.buildB rfl rfl rfl rfl rfl ?_)))
 (refine J.storeAll rfl rfl rfl 2 rfl rfl rfl ?_)
 (refine Jx.assign rfl rfl (J.nil (N.seq (W.ret (N.noGotoRet ?_)))))
 (refine id ?_; rotate_left))
    refine N.objSub 2 (ctC ct0) rfl ctz_sub rfl ?_
    refine N.retD (rs := [.cell 2 tCt, .tmp 3]) (L1 := []) rfl (.cell rfl 2 rfl agCt (.tmp rfl .nil)) (List.nil_sublist _) ⟨⟨none, fun y hy hz => ?_, rfl⟩, rfl⟩
    obtain ⟨rfl, h2⟩ := hr.whole (by decide) (by decide) hy hz
    rw [he.2 h2, hy] at hb
    simp at hb
  · focus (
 (refine W.skip (N.seq (W.seq (W.region (Jx.loadAll rfl 0 rfl rfl rfl ?_)))))
 (refine J.storeAll rfl rfl rfl 2 rfl rfl rfl ?_)
 (refine Jx.assign rfl rfl (J.nil (N.seq (W.ret ?_))))
 (refine id ?_; rotate_left))
    refine N.retD (rs := [.cell 2 tCt, .tmp 3]) (L1 := []) rfl (.cell rfl 2 rfl agCt (.tmp rfl .nil)) (List.nil_sublist _) ⟨⟨some ⟨t, l⟩, ?_, rfl⟩, rfl⟩
    simp only [Bool.or_eq_false_iff, decide_eq_false_iff_not, Bool.not_eq_false'] at hb
    rw [he.1 (by omega)] at hr
    exact ⟨hb.2, hr.sound⟩
theorem sameC_ok (x y : Ct) (hb : x.signers.length ≤ 1048576) : FnC Try.prog 43 [.agg (ctC x), .agg (ctC y)] [] (fun v L => v = bool (decide (x = y)) ∧ L = []) := by
  have c := same_ok x.signers y.signers hb
  refine FnC.intro Try.func43 rfl Try.ntmps43 rfl fun Z w0 hG => ?_
  focus (
 (refine W.seq (W.region ?_))
 (refine J.boxAg rfl rfl ?_; intro b')
 (refine J.boxAg rfl rfl ?_; intro b')
 (refine Jx.assign rfl rfl (J.nil (N.seq (W.seq (W.region (Jx.fieldAddr rfl rfl ?_))))))
 (refine Jx.load rfl 1 rfl rfl rfl ?_)
 (refine Jx.fieldAddr rfl rfl ?_)
 (refine Jx.load rfl 0 rfl rfl rfl ?_)
 (refine Jx.eqlS rfl rfl rfl (Jx.move rfl rfl ?_))
 (refine' J.guardAnd rfl rfl rfl rfl rfl rfl rfl rfl (fun _ => ?_) ?_; rotate_left)
 (refine J.gY rfl rfl rfl ?_)
 (refine Jx.fieldAddr rfl rfl ?_)
 (refine J.gY rfl rfl rfl ?_)
 (refine Jx.load rfl 1 rfl rfl rfl ?_)
 (refine J.gY rfl rfl rfl ?_)
 (refine Jx.fieldAddr rfl rfl ?_)
 (refine J.gY rfl rfl rfl ?_)
 (refine Jx.load rfl 0 rfl rfl rfl ?_)
 (refine J.gY rfl rfl rfl ?_)
 (refine J.call (c) rfl (evs_args rfl) rfl ?_; rintro _ _ ⟨rfl, rfl⟩; simp only [la1, la2, la3])
 (refine J.nil ?_)
 (refine N.joinedN rfl rfl rfl)
 (refine Jx.assign rfl rfl (J.nil (N.seq (W.ret ?_))))
 (refine id ?_; rotate_left))
  refine N.retD (rs := [.tmp 4]) (L1 := []) rfl (.tmp rfl .nil) (List.nil_sublist _) ⟨congrArg Sse.bool ?_, rfl⟩
  rw [Bool.eq_iff_iff]
  simp only [Bool.and_eq_true, decide_eq_true_eq]
  exact ⟨fun h => Ct.ext' h.1 h.2, fun h => by subst h; exact ⟨rfl, rfl⟩⟩
theorem qbare_ok (c : Ct) : FnC Try.prog 48 [.agg (ctC c)] [] (fun v L => v = bool (bareCt c) ∧ L = []) := by
  refine FnC.intro Try.func48 rfl Try.ntmps48 rfl fun Z w0 hG => ?_
  focus (
 (refine W.seq (W.region ?_))
 (refine J.boxAg rfl rfl ?_; intro b')
 (refine Jx.assign rfl rfl (J.nil (N.seq (W.seq (W.region (Jx.fieldAddr rfl rfl ?_))))))
 (refine Jx.load rfl 0 rfl rfl rfl ?_)
 (refine Jx.eqlS rfl rfl rfl (Jx.move rfl rfl ?_))
 (refine' J.guardAnd rfl rfl rfl rfl rfl rfl rfl rfl (fun _ => ?_) ?_; rotate_left)
 (refine J.gY rfl rfl rfl ?_)
 (refine Jx.fieldAddr rfl rfl ?_)
 (refine J.gY rfl rfl rfl ?_)
 (refine Jx.load rfl 0 rfl rfl rfl ?_)
 (refine J.gY rfl rfl rfl ?_)
 (refine Jx.lenSl rfl rfl ?_)
 (refine J.gY rfl rfl rfl ?_)
 (refine Jx.eqlI rfl rfl rfl (J.nil ?_))
 (refine N.joinedN rfl rfl rfl)
 (refine Jx.assign rfl rfl (J.nil (N.seq (W.ret ?_))))
 (refine id ?_; rotate_left))
  exact N.retD (rs := [.tmp 2]) (L1 := []) rfl (.tmp rfl .nil) (List.nil_sublist _) ⟨rfl, rfl⟩
end Go.Proofs.Ytlfdhkahiaammaa
namespace Go.Proofs.Ytlfdhkahiaammaa
open Go Go.Sse
set_option linter.unusedVariables false
set_option linter.unusedSimpArgs false
set_option maxRecDepth 10000
abbrev tAk : Nat := 23
theorem agAk : TAg Try.prog tAk 6 := inferInstance
theorem qhigh_ok (n : Int) : FnC Try.prog 30 [int n] [] (fun v L => v = bool (highB n) ∧ L = []) := by
  refine FnC.intro Try.func30 rfl Try.ntmps30 rfl fun Z w0 hG => ?_
  focus (
 (refine W.seq (W.region (Jx.assign rfl rfl (J.nil (N.seq (W.seq (W.region (Jx.move rfl rfl (Jx.geqI rfl rfl rfl (Jx.move rfl rfl ?_))))))))))
 (refine' J.guardAnd rfl rfl rfl rfl rfl rfl rfl rfl (fun _ => ?_) ?_; rotate_left)
 (refine J.gY rfl rfl rfl ?_)
 (refine Jx.move rfl rfl (J.gY rfl rfl rfl ?_))
 (refine Jx.leqI rfl rfl rfl (J.nil ?_))
 (refine N.joinedN rfl rfl rfl)
 (refine Jx.assign rfl rfl (J.nil (N.seq (W.ret ?_))))
 (refine id ?_; rotate_left))
  exact N.ret (rs := [.tmp 2]) rfl (.tmp rfl .nil) ⟨rfl, rfl⟩
def bareB (x : Ak) (to key page : Bool) : Bool := ((to || decide (x.to_ = 0)) && (key || decide (x.key = []))) && (page || restA x)
set_option maxHeartbeats 2000000 in
theorem qbare000_ok (x : Ak) : FnC Try.prog 29 [.agg (akC x), bool false, bool false, bool false] [] (fun v L => v = bool (bareB x false false false) ∧ L = []) := by
  refine FnC.intro Try.func29 rfl Try.ntmps29 rfl fun Z w0 hG => ?_
  by_cases h1 : x.to_ = 0
  · by_cases h2 : x.key = []
    · by_cases h3 : x.fin = []
      · focus (
 (refine W.seq (W.region ?_))
 (refine J.boxAg rfl rfl ?_; intro b')
 (refine Jx.assign rfl rfl (J.nil (N.seq (W.seq (W.region (Jx.move rfl rfl (Jx.move rfl rfl (J.gY rfl rfl rfl ?_))))))))
 (refine Jx.fieldAddr rfl rfl ?_)
 (refine J.gY rfl rfl rfl ?_)
 (refine Jx.load rfl 0 rfl rfl rfl ?_)
 (refine J.gY rfl rfl rfl ?_)
 (refine Jx.eqlI rfl rfl rfl (Jx.pF rfl rfl rfl ?_))
 (refine Jx.move rfl rfl (J.gY rfl rfl rfl ?_))
 (refine Jx.move rfl rfl (J.gY rfl rfl rfl ?_))
 (refine Jx.move rfl rfl (J.gY rfl rfl rfl ?_))
 (refine Jx.fieldAddr rfl rfl ?_)
 (refine J.gY rfl rfl rfl ?_)
 (refine Jx.load rfl 0 rfl rfl rfl ?_)
 (refine J.gY rfl rfl rfl ?_)
 (refine Jx.eqlS rfl rfl rfl (J.gY rfl rfl rfl ?_))
 (refine Jx.pF rfl rfl rfl ?_)
 (refine Jx.pT rfl rfl rfl ?_)
 (refine Jx.move rfl rfl (J.gY rfl rfl rfl ?_))
 (refine Jx.move rfl rfl (J.gY rfl rfl rfl ?_))
 (refine Jx.move rfl rfl (J.gY rfl rfl rfl ?_))
 (refine Jx.fieldAddr rfl rfl ?_)
 (refine J.gY rfl rfl rfl ?_)
 (refine Jx.load rfl 0 rfl rfl rfl ?_)
 (refine J.gY rfl rfl rfl ?_)
 (refine Jx.eqlS rfl rfl rfl (J.gY rfl rfl rfl ?_))
 (refine Jx.move rfl rfl (J.gY rfl rfl rfl ?_))
 (refine Jx.fieldAddr rfl rfl ?_)
 (refine J.gY rfl rfl rfl ?_)
 (refine Jx.load rfl 0 rfl rfl rfl ?_)
 (refine J.gY rfl rfl rfl ?_)
 (refine Jx.eqlI rfl rfl rfl (J.gY rfl rfl rfl ?_))
 (refine Jx.pT rfl rfl rfl ?_)
 (refine J.gY rfl rfl rfl ?_)
 (refine Jx.pF rfl rfl rfl ?_)
 (refine Jx.pT rfl rfl rfl ?_)
 (refine Jx.assign rfl rfl (J.nil (N.seq (W.ret ?_))))
 (refine id ?_; rotate_left))
        exact N.retD (rs := [.tmp 8]) (L1 := []) rfl (.tmp rfl .nil) (List.nil_sublist _) ⟨by simp [oneOr, bareB, restA, *], rfl⟩
      · focus (
 (refine W.seq (W.region ?_))
 (refine J.boxAg rfl rfl ?_; intro b')
 (refine Jx.assign rfl rfl (J.nil (N.seq (W.seq (W.region (Jx.move rfl rfl (Jx.move rfl rfl (J.gY rfl rfl rfl ?_))))))))
 (refine Jx.fieldAddr rfl rfl ?_)
 (refine J.gY rfl rfl rfl ?_)
 (refine Jx.load rfl 0 rfl rfl rfl ?_)
 (refine J.gY rfl rfl rfl ?_)
 (refine Jx.eqlI rfl rfl rfl (Jx.pF rfl rfl rfl ?_))
 (refine Jx.move rfl rfl (J.gY rfl rfl rfl ?_))
 (refine Jx.move rfl rfl (J.gY rfl rfl rfl ?_))
 (refine Jx.move rfl rfl (J.gY rfl rfl rfl ?_))
 (refine Jx.fieldAddr rfl rfl ?_)
 (refine J.gY rfl rfl rfl ?_)
 (refine Jx.load rfl 0 rfl rfl rfl ?_)
 (refine J.gY rfl rfl rfl ?_)
 (refine Jx.eqlS rfl rfl rfl (J.gY rfl rfl rfl ?_))
 (refine Jx.pF rfl rfl rfl ?_)
 (refine Jx.pT rfl rfl rfl ?_)
 (refine Jx.move rfl rfl (J.gY rfl rfl rfl ?_))
 (refine Jx.move rfl rfl (J.gY rfl rfl rfl ?_))
 (refine Jx.move rfl rfl (J.gY rfl rfl rfl ?_))
 (refine Jx.fieldAddr rfl rfl ?_)
 (refine J.gY rfl rfl rfl ?_)
 (refine Jx.load rfl 0 rfl rfl rfl ?_)
 (refine J.gY rfl rfl rfl ?_)
 (refine Jx.eqlS rfl rfl rfl (J.gY rfl rfl rfl ?_))
 (refine Jx.move rfl rfl (J.gN rfl rfl rfl rfl ?_))
 (refine J.gN rfl rfl rfl rfl ?_)
 (refine J.gN rfl rfl rfl rfl ?_)
 (refine J.gY rfl rfl rfl ?_)
 (refine Jx.pF rfl rfl rfl ?_)
 (refine J.gY rfl rfl rfl ?_)
 (refine Jx.pF rfl rfl rfl ?_)
 (refine Jx.pT rfl rfl rfl ?_)
 (refine Jx.assign rfl rfl (J.nil (N.seq (W.ret ?_))))
 (refine id ?_; rotate_left))
        exact N.retD (rs := [.tmp 8]) (L1 := []) rfl (.tmp rfl .nil) (List.nil_sublist _) ⟨by simp [oneOr, bareB, restA, *], rfl⟩
    · focus (
 (refine W.seq (W.region ?_))
 (refine J.boxAg rfl rfl ?_; intro b')
 (refine Jx.assign rfl rfl (J.nil (N.seq (W.seq (W.region (Jx.move rfl rfl (Jx.move rfl rfl (J.gY rfl rfl rfl ?_))))))))
 (refine Jx.fieldAddr rfl rfl ?_)
 (refine J.gY rfl rfl rfl ?_)
 (refine Jx.load rfl 0 rfl rfl rfl ?_)
 (refine J.gY rfl rfl rfl ?_)
 (refine Jx.eqlI rfl rfl rfl (Jx.pF rfl rfl rfl ?_))
 (refine Jx.move rfl rfl (J.gY rfl rfl rfl ?_))
 (refine Jx.move rfl rfl (J.gY rfl rfl rfl ?_))
 (refine Jx.move rfl rfl (J.gY rfl rfl rfl ?_))
 (refine Jx.fieldAddr rfl rfl ?_)
 (refine J.gY rfl rfl rfl ?_)
 (refine Jx.load rfl 0 rfl rfl rfl ?_)
 (refine J.gY rfl rfl rfl ?_)
 (refine Jx.eqlS rfl rfl rfl (J.gY rfl rfl rfl ?_))
 (refine Jx.pF rfl rfl rfl ?_)
 (refine Jx.pT rfl rfl rfl ?_)
 (refine Jx.move rfl rfl (J.gN rfl rfl rfl rfl ?_))
 (refine J.gN rfl rfl rfl rfl ?_)
 (refine J.guardSkip rfl rfl rfl rfl ?_)
 (refine J.guardSkip rfl rfl rfl rfl ?_)
 (refine J.guardSkip rfl rfl rfl rfl ?_)
 (refine J.guardSkip rfl rfl rfl rfl ?_)
 (refine J.guardSkip rfl rfl rfl rfl ?_)
 (refine J.guardSkip rfl rfl rfl rfl ?_)
 (refine J.guardSkip rfl rfl rfl rfl ?_)
 (refine J.guardSkip rfl rfl rfl rfl ?_)
 (refine J.gN rfl rfl rfl rfl ?_)
 (refine Jx.pF rfl rfl rfl ?_)
 (refine Jx.assign rfl rfl (J.nil (N.seq (W.ret ?_))))
 (refine id ?_; rotate_left))
      exact N.retD (rs := [.tmp 8]) (L1 := []) rfl (.tmp rfl .nil) (List.nil_sublist _) ⟨by simp [oneOr, bareB, restA, *], rfl⟩
  · focus (
 (refine W.seq (W.region ?_))
 (refine J.boxAg rfl rfl ?_; intro b')
 (refine Jx.assign rfl rfl (J.nil (N.seq (W.seq (W.region (Jx.move rfl rfl (Jx.move rfl rfl (J.gY rfl rfl rfl ?_))))))))
 (refine Jx.fieldAddr rfl rfl ?_)
 (refine J.gY rfl rfl rfl ?_)
 (refine Jx.load rfl 0 rfl rfl rfl ?_)
 (refine J.gY rfl rfl rfl ?_)
 (refine Jx.eqlI rfl rfl rfl (Jx.pF rfl rfl rfl ?_))
 (refine Jx.move rfl rfl (J.gN rfl rfl rfl rfl ?_))
 (refine J.gN rfl rfl rfl rfl ?_)
 (refine J.guardSkip rfl rfl rfl rfl ?_)
 (refine J.guardSkip rfl rfl rfl rfl ?_)
 (refine J.guardSkip rfl rfl rfl rfl ?_)
 (refine J.gN rfl rfl rfl rfl ?_)
 (refine Jx.pF rfl rfl rfl ?_)
 (refine Jx.move rfl rfl (J.gN rfl rfl rfl rfl ?_))
 (refine J.gN rfl rfl rfl rfl ?_)
 (refine J.guardSkip rfl rfl rfl rfl ?_)
 (refine J.guardSkip rfl rfl rfl rfl ?_)
 (refine J.guardSkip rfl rfl rfl rfl ?_)
 (refine J.guardSkip rfl rfl rfl rfl ?_)
 (refine J.guardSkip rfl rfl rfl rfl ?_)
 (refine J.guardSkip rfl rfl rfl rfl ?_)
 (refine J.guardSkip rfl rfl rfl rfl ?_)
 (refine J.guardSkip rfl rfl rfl rfl ?_)
 (refine J.gN rfl rfl rfl rfl ?_)
 (refine Jx.pF rfl rfl rfl ?_)
 (refine Jx.assign rfl rfl (J.nil (N.seq (W.ret ?_))))
 (refine id ?_; rotate_left))
    exact N.retD (rs := [.tmp 8]) (L1 := []) rfl (.tmp rfl .nil) (List.nil_sublist _) ⟨by simp [oneOr, bareB, restA, *], rfl⟩
set_option maxHeartbeats 2000000 in
theorem qbare100_ok (x : Ak) : FnC Try.prog 29 [.agg (akC x), bool true, bool false, bool false] [] (fun v L => v = bool (bareB x true false false) ∧ L = []) := by
  refine FnC.intro Try.func29 rfl Try.ntmps29 rfl fun Z w0 hG => ?_
  by_cases h2 : x.key = []
  · by_cases h3 : x.fin = []
    · focus (
 (refine W.seq (W.region ?_))
 (refine J.boxAg rfl rfl ?_; intro b')
 (refine Jx.assign rfl rfl (J.nil (N.seq (W.seq (W.region (Jx.move rfl rfl (Jx.move rfl rfl (J.gN rfl rfl rfl rfl ?_))))))))
 (refine J.gN rfl rfl rfl rfl ?_)
 (refine J.gN rfl rfl rfl rfl ?_)
 (refine Jx.pT rfl rfl rfl ?_)
 (refine Jx.move rfl rfl (J.gY rfl rfl rfl ?_))
 (refine Jx.move rfl rfl (J.gY rfl rfl rfl ?_))
 (refine Jx.move rfl rfl (J.gY rfl rfl rfl ?_))
 (refine Jx.fieldAddr rfl rfl ?_)
 (refine J.gY rfl rfl rfl ?_)
 (refine Jx.load rfl 0 rfl rfl rfl ?_)
 (refine J.gY rfl rfl rfl ?_)
 (refine Jx.eqlS rfl rfl rfl (J.gY rfl rfl rfl ?_))
 (refine Jx.pF rfl rfl rfl ?_)
 (refine Jx.pT rfl rfl rfl ?_)
 (refine Jx.move rfl rfl (J.gY rfl rfl rfl ?_))
 (refine Jx.move rfl rfl (J.gY rfl rfl rfl ?_))
 (refine Jx.move rfl rfl (J.gY rfl rfl rfl ?_))
 (refine Jx.fieldAddr rfl rfl ?_)
 (refine J.gY rfl rfl rfl ?_)
 (refine Jx.load rfl 0 rfl rfl rfl ?_)
 (refine J.gY rfl rfl rfl ?_)
 (refine Jx.eqlS rfl rfl rfl (J.gY rfl rfl rfl ?_))
 (refine Jx.move rfl rfl (J.gY rfl rfl rfl ?_))
 (refine Jx.fieldAddr rfl rfl ?_)
 (refine J.gY rfl rfl rfl ?_)
 (refine Jx.load rfl 0 rfl rfl rfl ?_)
 (refine J.gY rfl rfl rfl ?_)
 (refine Jx.eqlI rfl rfl rfl (J.gY rfl rfl rfl ?_))
 (refine Jx.pT rfl rfl rfl ?_)
 (refine J.gY rfl rfl rfl ?_)
 (refine Jx.pF rfl rfl rfl ?_)
 (refine Jx.pT rfl rfl rfl ?_)
 (refine Jx.assign rfl rfl (J.nil (N.seq (W.ret ?_))))
 (refine id ?_; rotate_left))
      exact N.retD (rs := [.tmp 8]) (L1 := []) rfl (.tmp rfl .nil) (List.nil_sublist _) ⟨by simp [oneOr, bareB, restA, *], rfl⟩
    · focus (
 (refine W.seq (W.region ?_))
 (refine J.boxAg rfl rfl ?_; intro b')
 (refine Jx.assign rfl rfl (J.nil (N.seq (W.seq (W.region (Jx.move rfl rfl (Jx.move rfl rfl (J.gN rfl rfl rfl rfl ?_))))))))
 (refine J.gN rfl rfl rfl rfl ?_)
 (refine J.gN rfl rfl rfl rfl ?_)
 (refine Jx.pT rfl rfl rfl ?_)
 (refine Jx.move rfl rfl (J.gY rfl rfl rfl ?_))
 (refine Jx.move rfl rfl (J.gY rfl rfl rfl ?_))
 (refine Jx.move rfl rfl (J.gY rfl rfl rfl ?_))
 (refine Jx.fieldAddr rfl rfl ?_)
 (refine J.gY rfl rfl rfl ?_)
 (refine Jx.load rfl 0 rfl rfl rfl ?_)
 (refine J.gY rfl rfl rfl ?_)
 (refine Jx.eqlS rfl rfl rfl (J.gY rfl rfl rfl ?_))
 (refine Jx.pF rfl rfl rfl ?_)
 (refine Jx.pT rfl rfl rfl ?_)
 (refine Jx.move rfl rfl (J.gY rfl rfl rfl ?_))
 (refine Jx.move rfl rfl (J.gY rfl rfl rfl ?_))
 (refine Jx.move rfl rfl (J.gY rfl rfl rfl ?_))
 (refine Jx.fieldAddr rfl rfl ?_)
 (refine J.gY rfl rfl rfl ?_)
 (refine Jx.load rfl 0 rfl rfl rfl ?_)
 (refine J.gY rfl rfl rfl ?_)
 (refine Jx.eqlS rfl rfl rfl (J.gY rfl rfl rfl ?_))
 (refine Jx.move rfl rfl (J.gN rfl rfl rfl rfl ?_))
 (refine J.gN rfl rfl rfl rfl ?_)
 (refine J.gN rfl rfl rfl rfl ?_)
 (refine J.gY rfl rfl rfl ?_)
 (refine Jx.pF rfl rfl rfl ?_)
 (refine J.gY rfl rfl rfl ?_)
 (refine Jx.pF rfl rfl rfl ?_)
 (refine Jx.pT rfl rfl rfl ?_)
 (refine Jx.assign rfl rfl (J.nil (N.seq (W.ret ?_))))
 (refine id ?_; rotate_left))
      exact N.retD (rs := [.tmp 8]) (L1 := []) rfl (.tmp rfl .nil) (List.nil_sublist _) ⟨by simp [oneOr, bareB, restA, *], rfl⟩
  · focus (
 (refine W.seq (W.region ?_))
 (refine J.boxAg rfl rfl ?_; intro b')
 (refine Jx.assign rfl rfl (J.nil (N.seq (W.seq (W.region (Jx.move rfl rfl (Jx.move rfl rfl (J.gN rfl rfl rfl rfl ?_))))))))
 (refine J.gN rfl rfl rfl rfl ?_)
 (refine J.gN rfl rfl rfl rfl ?_)
 (refine Jx.pT rfl rfl rfl ?_)
 (refine Jx.move rfl rfl (J.gY rfl rfl rfl ?_))
 (refine Jx.move rfl rfl (J.gY rfl rfl rfl ?_))
 (refine Jx.move rfl rfl (J.gY rfl rfl rfl ?_))
 (refine Jx.fieldAddr rfl rfl ?_)
 (refine J.gY rfl rfl rfl ?_)
 (refine Jx.load rfl 0 rfl rfl rfl ?_)
 (refine J.gY rfl rfl rfl ?_)
 (refine Jx.eqlS rfl rfl rfl (J.gY rfl rfl rfl ?_))
 (refine Jx.pF rfl rfl rfl ?_)
 (refine Jx.pT rfl rfl rfl ?_)
 (refine Jx.move rfl rfl (J.gN rfl rfl rfl rfl ?_))
 (refine J.gN rfl rfl rfl rfl ?_)
 (refine J.guardSkip rfl rfl rfl rfl ?_)
 (refine J.guardSkip rfl rfl rfl rfl ?_)
 (refine J.guardSkip rfl rfl rfl rfl ?_)
 (refine J.guardSkip rfl rfl rfl rfl ?_)
 (refine J.guardSkip rfl rfl rfl rfl ?_)
 (refine J.guardSkip rfl rfl rfl rfl ?_)
 (refine J.guardSkip rfl rfl rfl rfl ?_)
 (refine J.guardSkip rfl rfl rfl rfl ?_)
 (refine J.gN rfl rfl rfl rfl ?_)
 (refine Jx.pF rfl rfl rfl ?_)
 (refine Jx.assign rfl rfl (J.nil (N.seq (W.ret ?_))))
 (refine id ?_; rotate_left))
    exact N.retD (rs := [.tmp 8]) (L1 := []) rfl (.tmp rfl .nil) (List.nil_sublist _) ⟨by simp [oneOr, bareB, restA, *], rfl⟩
set_option maxHeartbeats 2000000 in
theorem qbare010_ok (x : Ak) : FnC Try.prog 29 [.agg (akC x), bool false, bool true, bool false] [] (fun v L => v = bool (bareB x false true false) ∧ L = []) := by
  refine FnC.intro Try.func29 rfl Try.ntmps29 rfl fun Z w0 hG => ?_
  by_cases h1 : x.to_ = 0
  · by_cases h3 : x.fin = []
    · focus (
 (refine W.seq (W.region ?_))
 (refine J.boxAg rfl rfl ?_; intro b')
 (refine Jx.assign rfl rfl (J.nil (N.seq (W.seq (W.region (Jx.move rfl rfl (Jx.move rfl rfl (J.gY rfl rfl rfl ?_))))))))
 (refine Jx.fieldAddr rfl rfl ?_)
 (refine J.gY rfl rfl rfl ?_)
 (refine Jx.load rfl 0 rfl rfl rfl ?_)
 (refine J.gY rfl rfl rfl ?_)
 (refine Jx.eqlI rfl rfl rfl (Jx.pF rfl rfl rfl ?_))
 (refine Jx.move rfl rfl (J.gY rfl rfl rfl ?_))
 (refine Jx.move rfl rfl (J.gY rfl rfl rfl ?_))
 (refine Jx.move rfl rfl (J.gN rfl rfl rfl rfl ?_))
 (refine J.gN rfl rfl rfl rfl ?_)
 (refine J.gN rfl rfl rfl rfl ?_)
 (refine J.gY rfl rfl rfl ?_)
 (refine Jx.pT rfl rfl rfl ?_)
 (refine Jx.pT rfl rfl rfl ?_)
 (refine Jx.move rfl rfl (J.gY rfl rfl rfl ?_))
 (refine Jx.move rfl rfl (J.gY rfl rfl rfl ?_))
 (refine Jx.move rfl rfl (J.gY rfl rfl rfl ?_))
 (refine Jx.fieldAddr rfl rfl ?_)
 (refine J.gY rfl rfl rfl ?_)
 (refine Jx.load rfl 0 rfl rfl rfl ?_)
 (refine J.gY rfl rfl rfl ?_)
 (refine Jx.eqlS rfl rfl rfl (J.gY rfl rfl rfl ?_))
 (refine Jx.move rfl rfl (J.gY rfl rfl rfl ?_))
 (refine Jx.fieldAddr rfl rfl ?_)
 (refine J.gY rfl rfl rfl ?_)
 (refine Jx.load rfl 0 rfl rfl rfl ?_)
 (refine J.gY rfl rfl rfl ?_)
 (refine Jx.eqlI rfl rfl rfl (J.gY rfl rfl rfl ?_))
 (refine Jx.pT rfl rfl rfl ?_)
 (refine J.gY rfl rfl rfl ?_)
 (refine Jx.pF rfl rfl rfl ?_)
 (refine Jx.pT rfl rfl rfl ?_)
 (refine Jx.assign rfl rfl (J.nil (N.seq (W.ret ?_))))
 (refine id ?_; rotate_left))
      exact N.retD (rs := [.tmp 8]) (L1 := []) rfl (.tmp rfl .nil) (List.nil_sublist _) ⟨by simp [oneOr, bareB, restA, *], rfl⟩
    · focus (
 (refine W.seq (W.region ?_))
 (refine J.boxAg rfl rfl ?_; intro b')
 (refine Jx.assign rfl rfl (J.nil (N.seq (W.seq (W.region (Jx.move rfl rfl (Jx.move rfl rfl (J.gY rfl rfl rfl ?_))))))))
 (refine Jx.fieldAddr rfl rfl ?_)
 (refine J.gY rfl rfl rfl ?_)
 (refine Jx.load rfl 0 rfl rfl rfl ?_)
 (refine J.gY rfl rfl rfl ?_)
 (refine Jx.eqlI rfl rfl rfl (Jx.pF rfl rfl rfl ?_))
 (refine Jx.move rfl rfl (J.gY rfl rfl rfl ?_))
 (refine Jx.move rfl rfl (J.gY rfl rfl rfl ?_))
 (refine Jx.move rfl rfl (J.gN rfl rfl rfl rfl ?_))
 (refine J.gN rfl rfl rfl rfl ?_)
 (refine J.gN rfl rfl rfl rfl ?_)
 (refine J.gY rfl rfl rfl ?_)
 (refine Jx.pT rfl rfl rfl ?_)
 (refine Jx.pT rfl rfl rfl ?_)
 (refine Jx.move rfl rfl (J.gY rfl rfl rfl ?_))
 (refine Jx.move rfl rfl (J.gY rfl rfl rfl ?_))
 (refine Jx.move rfl rfl (J.gY rfl rfl rfl ?_))
 (refine Jx.fieldAddr rfl rfl ?_)
 (refine J.gY rfl rfl rfl ?_)
 (refine Jx.load rfl 0 rfl rfl rfl ?_)
 (refine J.gY rfl rfl rfl ?_)
 (refine Jx.eqlS rfl rfl rfl (J.gY rfl rfl rfl ?_))
 (refine Jx.move rfl rfl (J.gN rfl rfl rfl rfl ?_))
 (refine J.gN rfl rfl rfl rfl ?_)
 (refine J.gN rfl rfl rfl rfl ?_)
 (refine J.gY rfl rfl rfl ?_)
 (refine Jx.pF rfl rfl rfl ?_)
 (refine J.gY rfl rfl rfl ?_)
 (refine Jx.pF rfl rfl rfl ?_)
 (refine Jx.pT rfl rfl rfl ?_)
 (refine Jx.assign rfl rfl (J.nil (N.seq (W.ret ?_))))
 (refine id ?_; rotate_left))
      exact N.retD (rs := [.tmp 8]) (L1 := []) rfl (.tmp rfl .nil) (List.nil_sublist _) ⟨by simp [oneOr, bareB, restA, *], rfl⟩
  · focus (
 (refine W.seq (W.region ?_))
 (refine J.boxAg rfl rfl ?_; intro b')
 (refine Jx.assign rfl rfl (J.nil (N.seq (W.seq (W.region (Jx.move rfl rfl (Jx.move rfl rfl (J.gY rfl rfl rfl ?_))))))))
 (refine Jx.fieldAddr rfl rfl ?_)
 (refine J.gY rfl rfl rfl ?_)
 (refine Jx.load rfl 0 rfl rfl rfl ?_)
 (refine J.gY rfl rfl rfl ?_)
 (refine Jx.eqlI rfl rfl rfl (Jx.pF rfl rfl rfl ?_))
 (refine Jx.move rfl rfl (J.gN rfl rfl rfl rfl ?_))
 (refine J.gN rfl rfl rfl rfl ?_)
 (refine J.guardSkip rfl rfl rfl rfl ?_)
 (refine J.guardSkip rfl rfl rfl rfl ?_)
 (refine J.guardSkip rfl rfl rfl rfl ?_)
 (refine J.gN rfl rfl rfl rfl ?_)
 (refine Jx.pF rfl rfl rfl ?_)
 (refine Jx.move rfl rfl (J.gN rfl rfl rfl rfl ?_))
 (refine J.gN rfl rfl rfl rfl ?_)
 (refine J.guardSkip rfl rfl rfl rfl ?_)
 (refine J.guardSkip rfl rfl rfl rfl ?_)
 (refine J.guardSkip rfl rfl rfl rfl ?_)
 (refine J.guardSkip rfl rfl rfl rfl ?_)
 (refine J.guardSkip rfl rfl rfl rfl ?_)
 (refine J.guardSkip rfl rfl rfl rfl ?_)
 (refine J.guardSkip rfl rfl rfl rfl ?_)
 (refine J.guardSkip rfl rfl rfl rfl ?_)
 (refine J.gN rfl rfl rfl rfl ?_)
 (refine Jx.pF rfl rfl rfl ?_)
 (refine Jx.assign rfl rfl (J.nil (N.seq (W.ret ?_))))
 (refine id ?_; rotate_left))
    exact N.retD (rs := [.tmp 8]) (L1 := []) rfl (.tmp rfl .nil) (List.nil_sublist _) ⟨by simp [oneOr, bareB, restA, *], rfl⟩
set_option maxHeartbeats 2000000 in
theorem qbare011_ok (x : Ak) : FnC Try.prog 29 [.agg (akC x), bool false, bool true, bool true] [] (fun v L => v = bool (bareB x false true true) ∧ L = []) := by
  refine FnC.intro Try.func29 rfl Try.ntmps29 rfl fun Z w0 hG => ?_
  by_cases h1 : x.to_ = 0
  · focus (
 (refine W.seq (W.region ?_))
 (refine J.boxAg rfl rfl ?_; intro b')
 (refine Jx.assign rfl rfl (J.nil (N.seq (W.seq (W.region (Jx.move rfl rfl (Jx.move rfl rfl (J.gY rfl rfl rfl ?_))))))))
 (refine Jx.fieldAddr rfl rfl ?_)
 (refine J.gY rfl rfl rfl ?_)
 (refine Jx.load rfl 0 rfl rfl rfl ?_)
 (refine J.gY rfl rfl rfl ?_)
 (refine Jx.eqlI rfl rfl rfl (Jx.pF rfl rfl rfl ?_))
 (refine Jx.move rfl rfl (J.gY rfl rfl rfl ?_))
 (refine Jx.move rfl rfl (J.gY rfl rfl rfl ?_))
 (refine Jx.move rfl rfl (J.gN rfl rfl rfl rfl ?_))
 (refine J.gN rfl rfl rfl rfl ?_)
 (refine J.gN rfl rfl rfl rfl ?_)
 (refine J.gY rfl rfl rfl ?_)
 (refine Jx.pT rfl rfl rfl ?_)
 (refine Jx.pT rfl rfl rfl ?_)
 (refine Jx.move rfl rfl (J.gY rfl rfl rfl ?_))
 (refine Jx.move rfl rfl (J.gY rfl rfl rfl ?_))
 (refine Jx.move rfl rfl (J.gN rfl rfl rfl rfl ?_))
 (refine J.gN rfl rfl rfl rfl ?_)
 (refine J.gN rfl rfl rfl rfl ?_)
 (refine J.gN rfl rfl rfl rfl ?_)
 (refine J.guardSkip rfl rfl rfl rfl ?_)
 (refine J.guardSkip rfl rfl rfl rfl ?_)
 (refine J.guardSkip rfl rfl rfl rfl ?_)
 (refine J.gN rfl rfl rfl rfl ?_)
 (refine J.gY rfl rfl rfl ?_)
 (refine Jx.pT rfl rfl rfl ?_)
 (refine Jx.pT rfl rfl rfl ?_)
 (refine Jx.assign rfl rfl (J.nil (N.seq (W.ret ?_))))
 (refine id ?_; rotate_left))
    exact N.retD (rs := [.tmp 8]) (L1 := []) rfl (.tmp rfl .nil) (List.nil_sublist _) ⟨by simp [oneOr, bareB, restA, *], rfl⟩
  · focus (
 (refine W.seq (W.region ?_))
 (refine J.boxAg rfl rfl ?_; intro b')
 (refine Jx.assign rfl rfl (J.nil (N.seq (W.seq (W.region (Jx.move rfl rfl (Jx.move rfl rfl (J.gY rfl rfl rfl ?_))))))))
 (refine Jx.fieldAddr rfl rfl ?_)
 (refine J.gY rfl rfl rfl ?_)
 (refine Jx.load rfl 0 rfl rfl rfl ?_)
 (refine J.gY rfl rfl rfl ?_)
 (refine Jx.eqlI rfl rfl rfl (Jx.pF rfl rfl rfl ?_))
 (refine Jx.move rfl rfl (J.gN rfl rfl rfl rfl ?_))
 (refine J.gN rfl rfl rfl rfl ?_)
 (refine J.guardSkip rfl rfl rfl rfl ?_)
 (refine J.guardSkip rfl rfl rfl rfl ?_)
 (refine J.guardSkip rfl rfl rfl rfl ?_)
 (refine J.gN rfl rfl rfl rfl ?_)
 (refine Jx.pF rfl rfl rfl ?_)
 (refine Jx.move rfl rfl (J.gN rfl rfl rfl rfl ?_))
 (refine J.gN rfl rfl rfl rfl ?_)
 (refine J.guardSkip rfl rfl rfl rfl ?_)
 (refine J.guardSkip rfl rfl rfl rfl ?_)
 (refine J.guardSkip rfl rfl rfl rfl ?_)
 (refine J.guardSkip rfl rfl rfl rfl ?_)
 (refine J.guardSkip rfl rfl rfl rfl ?_)
 (refine J.guardSkip rfl rfl rfl rfl ?_)
 (refine J.guardSkip rfl rfl rfl rfl ?_)
 (refine J.guardSkip rfl rfl rfl rfl ?_)
 (refine J.gN rfl rfl rfl rfl ?_)
 (refine Jx.pF rfl rfl rfl ?_)
 (refine Jx.assign rfl rfl (J.nil (N.seq (W.ret ?_))))
 (refine id ?_; rotate_left))
    exact N.retD (rs := [.tmp 8]) (L1 := []) rfl (.tmp rfl .nil) (List.nil_sublist _) ⟨by simp [oneOr, bareB, restA, *], rfl⟩
set_option maxHeartbeats 8000000 in
theorem qcheckA_ok (x : Ak) : FnC Try.prog 11 [.agg (akC x)] [] (fun v L => v = int (codeB (fineAk x) 290) ∧ L = []) := by
  have c0 := qbare000_ok x
  have c1 := qbare100_ok x
  have c2 := qbare010_ok x
  have c3 := qbare011_ok x
  have ch := qhigh_ok x.height
  have ct := qhigh_ok x.to_
  refine FnC.intro Try.func11 rfl Try.ntmps11 rfl fun Z w0 hG => ?_
  by_cases e1 : x.kind = 1
  · focus (
 (refine W.seq (W.region ?_))
 (refine J.boxAg rfl rfl ?_; intro b')
 (refine Jx.assign rfl rfl (J.nil (N.seq (W.seq (W.region (Jx.assign rfl rfl (J.nil (N.seq (W.seq (W.seq (W.region (Jx.fieldAddr rfl rfl ?_))))))))))))
 (refine Jx.load rfl 0 rfl rfl rfl ?_)
 (refine J.nil (N.seq (W.block (W.seq (W.region (Jx.eqlI rfl rfl rfl (Jx.assign rfl rfl (J.nil (N.seq (W.cT rfl ?_))))))))))
 (refine W.region (Jx.loadAll rfl 0 rfl rfl rfl ?_))
 (refine J.call (c0) rfl (evs_args rfl) rfl ?_; rintro _ _ ⟨rfl, rfl⟩; simp only [la1, la2, la3])
 (refine Jx.assign rfl rfl (J.nil (N.seq (W.seq (W.seq (W.region (Jx.move rfl rfl (Jx.not rfl rfl (Jx.move rfl rfl ?_)))))))))
 (refine' J.guardOr rfl rfl rfl rfl rfl rfl rfl rfl (fun _ => ?_) ?_; rotate_left)
 (refine J.gY rfl rfl rfl ?_)
 (refine Jx.fieldAddr rfl rfl ?_)
 (refine J.gY rfl rfl rfl ?_)
 (refine Jx.load rfl 0 rfl rfl rfl ?_)
 (refine J.gY rfl rfl rfl ?_)
 (refine J.call (ch) rfl (evs_args rfl) rfl ?_; rintro _ _ ⟨rfl, rfl⟩; simp only [la1, la2, la3])
 (refine J.gY rfl rfl rfl ?_)
 (refine Jx.not rfl rfl (J.nil ?_))
 (refine N.joinedN rfl rfl rfl)
 (refine J.nil (N.seq ?_))
 (refine id ?_; rotate_left))
    refine W.cond rfl (fun hb => ?_) (fun hb => ?_)
    · have hf : fineAk x = false := by
        cases hF : fineAk x with
        | false => rfl
        | true =>
          exfalso
          simp only [fineAk, kindA, if_pos e1, restA, highB, bareB, Bool.false_or, Bool.true_or, Bool.true_and, Bool.and_true, Bool.and_eq_true, Bool.or_eq_true, Bool.not_eq_true', Bool.and_eq_false_iff, Bool.or_eq_false_iff, Bool.not_eq_false', decide_eq_true_eq, decide_eq_false_iff_not] at hF hb
          grind
      rw [hf]
      focus (
 (refine W.seq (W.region (Jx.assign rfl rfl (J.nil (N.seq (W.ret (N.noGotoRet ?_)))))))
 (refine id ?_; rotate_left))
      exact N.retD (rs := [.tmp 2]) (L1 := []) rfl (.tmp rfl .nil) (List.nil_sublist _) ⟨rfl, rfl⟩
    · have hf : fineAk x = true := by
        simp only [fineAk, kindA, if_pos e1, restA, highB, bareB, Bool.false_or, Bool.true_or, Bool.true_and, Bool.and_true, Bool.and_eq_true, Bool.or_eq_true, Bool.not_eq_true', Bool.and_eq_false_iff, Bool.or_eq_false_iff, Bool.not_eq_false', decide_eq_true_eq, decide_eq_false_iff_not] at hb ⊢
        grind
      rw [hf]
      focus (
 (refine W.skip (N.seq (W.seq (W.region (Jx.assign rfl rfl (J.nil (N.seq (W.ret ?_))))))))
 (refine id ?_; rotate_left))
      exact N.retD (rs := [.tmp 2]) (L1 := []) rfl (.tmp rfl .nil) (List.nil_sublist _) ⟨rfl, rfl⟩
  · by_cases e2 : x.kind = 2
    · focus (
 (refine W.seq (W.region ?_))
 (refine J.boxAg rfl rfl ?_; intro b')
 (refine Jx.assign rfl rfl (J.nil (N.seq (W.seq (W.region (Jx.assign rfl rfl (J.nil (N.seq (W.seq (W.seq (W.region (Jx.fieldAddr rfl rfl ?_))))))))))))
 (refine Jx.load rfl 0 rfl rfl rfl ?_)
 (refine J.nil (N.seq (W.block (W.seq (W.region (Jx.eqlI rfl rfl rfl (Jx.assign rfl rfl (J.nil (N.seq (W.cF rfl ?_))))))))))
 (refine W.seq (W.region (Jx.eqlI rfl rfl rfl (Jx.assign rfl rfl (J.nil (N.seq (W.cT rfl ?_)))))))
 (refine W.region (Jx.loadAll rfl 0 rfl rfl rfl ?_))
 (refine J.call (c1) rfl (evs_args rfl) rfl ?_; rintro _ _ ⟨rfl, rfl⟩; simp only [la1, la2, la3])
 (refine Jx.move rfl rfl ?_)
 (refine' J.guardAnd rfl rfl rfl rfl rfl rfl rfl rfl (fun _ => ?_) ?_; rotate_left)
 (refine J.gY rfl rfl rfl ?_)
 (refine Jx.fieldAddr rfl rfl ?_)
 (refine J.gY rfl rfl rfl ?_)
 (refine Jx.load rfl 0 rfl rfl rfl ?_)
 (refine J.gY rfl rfl rfl ?_)
 (refine J.call (ct) rfl (evs_args rfl) rfl ?_; rintro _ _ ⟨rfl, rfl⟩; simp only [la1, la2, la3])
 (refine J.nil ?_)
 (refine N.joinedN rfl rfl rfl)
 (refine Jx.move rfl rfl ?_)
 (refine' J.guardAnd rfl rfl rfl rfl rfl rfl rfl rfl (fun _ => ?_) ?_; rotate_left)
 (refine J.gY rfl rfl rfl ?_)
 (refine Jx.fieldAddr rfl rfl ?_)
 (refine J.gY rfl rfl rfl ?_)
 (refine Jx.load rfl 0 rfl rfl rfl ?_)
 (refine J.gY rfl rfl rfl ?_)
 (refine Jx.fieldAddr rfl rfl ?_)
 (refine J.gY rfl rfl rfl ?_)
 (refine Jx.load rfl 0 rfl rfl rfl ?_)
 (refine J.gY rfl rfl rfl ?_)
 (refine Jx.gtrI rfl rfl rfl (J.nil ?_))
 (refine N.joinedN rfl rfl rfl)
 (refine Jx.assign rfl rfl (J.nil (N.seq (W.seq (W.seq (W.region (Jx.move rfl rfl (Jx.not rfl rfl (Jx.move rfl rfl ?_)))))))))
 (refine' J.guardOr rfl rfl rfl rfl rfl rfl rfl rfl (fun _ => ?_) ?_; rotate_left)
 (refine J.gY rfl rfl rfl ?_)
 (refine Jx.fieldAddr rfl rfl ?_)
 (refine J.gY rfl rfl rfl ?_)
 (refine Jx.load rfl 0 rfl rfl rfl ?_)
 (refine J.gY rfl rfl rfl ?_)
 (refine J.call (ch) rfl (evs_args rfl) rfl ?_; rintro _ _ ⟨rfl, rfl⟩; simp only [la1, la2, la3])
 (refine J.gY rfl rfl rfl ?_)
 (refine Jx.not rfl rfl (J.nil ?_))
 (refine N.joinedN rfl rfl rfl)
 (refine J.nil (N.seq ?_))
 (refine id ?_; rotate_left))
      refine W.cond rfl (fun hb => ?_) (fun hb => ?_)
      · have hf : fineAk x = false := by
          cases hF : fineAk x with
          | false => rfl
          | true =>
            exfalso
            simp only [fineAk, kindA, if_neg e1, if_pos e2, restA, highB, bareB, Bool.false_or, Bool.true_or, Bool.true_and, Bool.and_true, Bool.and_eq_true, Bool.or_eq_true, Bool.not_eq_true', Bool.and_eq_false_iff, Bool.or_eq_false_iff, Bool.not_eq_false', decide_eq_true_eq, decide_eq_false_iff_not] at hF hb
            grind
        rw [hf]
        focus (
 (refine W.seq (W.region (Jx.assign rfl rfl (J.nil (N.seq (W.ret (N.noGotoRet ?_)))))))
 (refine id ?_; rotate_left))
        exact N.retD (rs := [.tmp 2]) (L1 := []) rfl (.tmp rfl .nil) (List.nil_sublist _) ⟨rfl, rfl⟩
      · have hf : fineAk x = true := by
          simp only [fineAk, kindA, if_neg e1, if_pos e2, restA, highB, bareB, Bool.false_or, Bool.true_or, Bool.true_and, Bool.and_true, Bool.and_eq_true, Bool.or_eq_true, Bool.not_eq_true', Bool.and_eq_false_iff, Bool.or_eq_false_iff, Bool.not_eq_false', decide_eq_true_eq, decide_eq_false_iff_not] at hb ⊢
          grind
        rw [hf]
        focus (
 (refine W.skip (N.seq (W.seq (W.region (Jx.assign rfl rfl (J.nil (N.seq (W.ret ?_))))))))
 (refine id ?_; rotate_left))
        exact N.retD (rs := [.tmp 2]) (L1 := []) rfl (.tmp rfl .nil) (List.nil_sublist _) ⟨rfl, rfl⟩
    · by_cases e3 : x.kind = 3
      · focus (
 (refine W.seq (W.region ?_))
 (refine J.boxAg rfl rfl ?_; intro b')
 (refine Jx.assign rfl rfl (J.nil (N.seq (W.seq (W.region (Jx.assign rfl rfl (J.nil (N.seq (W.seq (W.seq (W.region (Jx.fieldAddr rfl rfl ?_))))))))))))
 (refine Jx.load rfl 0 rfl rfl rfl ?_)
 (refine J.nil (N.seq (W.block (W.seq (W.region (Jx.eqlI rfl rfl rfl (Jx.assign rfl rfl (J.nil (N.seq (W.cF rfl ?_))))))))))
 (refine W.seq (W.region (Jx.eqlI rfl rfl rfl (Jx.assign rfl rfl (J.nil (N.seq (W.cF rfl ?_)))))))
 (refine W.seq (W.region (Jx.eqlI rfl rfl rfl (Jx.assign rfl rfl (J.nil (N.seq (W.cT rfl ?_)))))))
 (refine W.region (Jx.loadAll rfl 0 rfl rfl rfl ?_))
 (refine J.call (c1) rfl (evs_args rfl) rfl ?_; rintro _ _ ⟨rfl, rfl⟩; simp only [la1, la2, la3])
 (refine Jx.move rfl rfl ?_)
 (refine' J.guardAnd rfl rfl rfl rfl rfl rfl rfl rfl (fun _ => ?_) ?_; rotate_left)
 (refine J.gY rfl rfl rfl ?_)
 (refine Jx.fieldAddr rfl rfl ?_)
 (refine J.gY rfl rfl rfl ?_)
 (refine Jx.load rfl 0 rfl rfl rfl ?_)
 (refine J.gY rfl rfl rfl ?_)
 (refine J.call (ct) rfl (evs_args rfl) rfl ?_; rintro _ _ ⟨rfl, rfl⟩; simp only [la1, la2, la3])
 (refine J.nil ?_)
 (refine N.joinedN rfl rfl rfl)
 (refine Jx.move rfl rfl ?_)
 (refine' J.guardAnd rfl rfl rfl rfl rfl rfl rfl rfl (fun _ => ?_) ?_; rotate_left)
 (refine J.gY rfl rfl rfl ?_)
 (refine Jx.fieldAddr rfl rfl ?_)
 (refine J.gY rfl rfl rfl ?_)
 (refine Jx.load rfl 0 rfl rfl rfl ?_)
 (refine J.gY rfl rfl rfl ?_)
 (refine Jx.fieldAddr rfl rfl ?_)
 (refine J.gY rfl rfl rfl ?_)
 (refine Jx.load rfl 0 rfl rfl rfl ?_)
 (refine J.gY rfl rfl rfl ?_)
 (refine Jx.leqI rfl rfl rfl (J.nil ?_))
 (refine N.joinedN rfl rfl rfl)
 (refine Jx.assign rfl rfl (J.nil (N.seq (W.seq (W.seq (W.region (Jx.move rfl rfl (Jx.not rfl rfl (Jx.move rfl rfl ?_)))))))))
 (refine' J.guardOr rfl rfl rfl rfl rfl rfl rfl rfl (fun _ => ?_) ?_; rotate_left)
 (refine J.gY rfl rfl rfl ?_)
 (refine Jx.fieldAddr rfl rfl ?_)
 (refine J.gY rfl rfl rfl ?_)
 (refine Jx.load rfl 0 rfl rfl rfl ?_)
 (refine J.gY rfl rfl rfl ?_)
 (refine J.call (ch) rfl (evs_args rfl) rfl ?_; rintro _ _ ⟨rfl, rfl⟩; simp only [la1, la2, la3])
 (refine J.gY rfl rfl rfl ?_)
 (refine Jx.not rfl rfl (J.nil ?_))
 (refine N.joinedN rfl rfl rfl)
 (refine J.nil (N.seq ?_))
 (refine id ?_; rotate_left))
        refine W.cond rfl (fun hb => ?_) (fun hb => ?_)
        · have hf : fineAk x = false := by
            cases hF : fineAk x with
            | false => rfl
            | true =>
              exfalso
              simp only [fineAk, kindA, if_neg e1, if_neg e2, if_pos e3, restA, highB, bareB, Bool.false_or, Bool.true_or, Bool.true_and, Bool.and_true, Bool.and_eq_true, Bool.or_eq_true, Bool.not_eq_true', Bool.and_eq_false_iff, Bool.or_eq_false_iff, Bool.not_eq_false', decide_eq_true_eq, decide_eq_false_iff_not] at hF hb
              grind
          rw [hf]
          focus (
 (refine W.seq (W.region (Jx.assign rfl rfl (J.nil (N.seq (W.ret (N.noGotoRet ?_)))))))
 (refine id ?_; rotate_left))
          exact N.retD (rs := [.tmp 2]) (L1 := []) rfl (.tmp rfl .nil) (List.nil_sublist _) ⟨rfl, rfl⟩
        · have hf : fineAk x = true := by
            simp only [fineAk, kindA, if_neg e1, if_neg e2, if_pos e3, restA, highB, bareB, Bool.false_or, Bool.true_or, Bool.true_and, Bool.and_true, Bool.and_eq_true, Bool.or_eq_true, Bool.not_eq_true', Bool.and_eq_false_iff, Bool.or_eq_false_iff, Bool.not_eq_false', decide_eq_true_eq, decide_eq_false_iff_not] at hb ⊢
            grind
          rw [hf]
          focus (
 (refine W.skip (N.seq (W.seq (W.region (Jx.assign rfl rfl (J.nil (N.seq (W.ret ?_))))))))
 (refine id ?_; rotate_left))
          exact N.retD (rs := [.tmp 2]) (L1 := []) rfl (.tmp rfl .nil) (List.nil_sublist _) ⟨rfl, rfl⟩
      · by_cases e4 : x.kind = 4
        · focus (
 (refine W.seq (W.region ?_))
 (refine J.boxAg rfl rfl ?_; intro b')
 (refine Jx.assign rfl rfl (J.nil (N.seq (W.seq (W.region (Jx.assign rfl rfl (J.nil (N.seq (W.seq (W.seq (W.region (Jx.fieldAddr rfl rfl ?_))))))))))))
 (refine Jx.load rfl 0 rfl rfl rfl ?_)
 (refine J.nil (N.seq (W.block (W.seq (W.region (Jx.eqlI rfl rfl rfl (Jx.assign rfl rfl (J.nil (N.seq (W.cF rfl ?_))))))))))
 (refine W.seq (W.region (Jx.eqlI rfl rfl rfl (Jx.assign rfl rfl (J.nil (N.seq (W.cF rfl ?_)))))))
 (refine W.seq (W.region (Jx.eqlI rfl rfl rfl (Jx.assign rfl rfl (J.nil (N.seq (W.cF rfl ?_)))))))
 (refine W.seq (W.region (Jx.eqlI rfl rfl rfl (Jx.assign rfl rfl (J.nil (N.seq (W.cT rfl ?_)))))))
 (refine W.region (Jx.loadAll rfl 0 rfl rfl rfl ?_))
 (refine J.call (c2) rfl (evs_args rfl) rfl ?_; rintro _ _ ⟨rfl, rfl⟩; simp only [la1, la2, la3])
 (refine Jx.move rfl rfl ?_)
 (refine' J.guardAnd rfl rfl rfl rfl rfl rfl rfl rfl (fun _ => ?_) ?_; rotate_left)
 (refine J.gY rfl rfl rfl ?_)
 (refine Jx.fieldAddr rfl rfl ?_)
 (refine J.gY rfl rfl rfl ?_)
 (refine Jx.load rfl 0 rfl rfl rfl ?_)
 (refine J.gY rfl rfl rfl ?_)
 (refine Jx.neqS rfl rfl rfl (J.nil ?_))
 (refine N.joinedN rfl rfl rfl)
 (refine Jx.move rfl rfl ?_)
 (refine' J.guardAnd rfl rfl rfl rfl rfl rfl rfl rfl (fun _ => ?_) ?_; rotate_left)
 (refine J.gY rfl rfl rfl ?_)
 (refine Jx.fieldAddr rfl rfl ?_)
 (refine J.gY rfl rfl rfl ?_)
 (refine Jx.load rfl 0 rfl rfl rfl ?_)
 (refine J.gY rfl rfl rfl ?_)
 (refine Jx.lenS rfl rfl ?_)
 (refine J.gY rfl rfl rfl ?_)
 (refine Jx.leqI rfl rfl rfl (J.nil ?_))
 (refine N.joinedN rfl rfl rfl)
 (refine Jx.assign rfl rfl (J.nil (N.seq (W.seq (W.seq (W.region (Jx.move rfl rfl (Jx.not rfl rfl (Jx.move rfl rfl ?_)))))))))
 (refine' J.guardOr rfl rfl rfl rfl rfl rfl rfl rfl (fun _ => ?_) ?_; rotate_left)
 (refine J.gY rfl rfl rfl ?_)
 (refine Jx.fieldAddr rfl rfl ?_)
 (refine J.gY rfl rfl rfl ?_)
 (refine Jx.load rfl 0 rfl rfl rfl ?_)
 (refine J.gY rfl rfl rfl ?_)
 (refine J.call (ch) rfl (evs_args rfl) rfl ?_; rintro _ _ ⟨rfl, rfl⟩; simp only [la1, la2, la3])
 (refine J.gY rfl rfl rfl ?_)
 (refine Jx.not rfl rfl (J.nil ?_))
 (refine N.joinedN rfl rfl rfl)
 (refine J.nil (N.seq ?_))
 (refine id ?_; rotate_left))
          refine W.cond rfl (fun hb => ?_) (fun hb => ?_)
          · have hf : fineAk x = false := by
              cases hF : fineAk x with
              | false => rfl
              | true =>
                exfalso
                simp only [fineAk, kindA, if_neg e1, if_neg e2, if_neg e3, if_pos e4, restA, highB, bareB, Bool.false_or, Bool.true_or, Bool.true_and, Bool.and_true, Bool.and_eq_true, Bool.or_eq_true, Bool.not_eq_true', Bool.and_eq_false_iff, Bool.or_eq_false_iff, Bool.not_eq_false', decide_eq_true_eq, decide_eq_false_iff_not] at hF hb
                grind
            rw [hf]
            focus (
 (refine W.seq (W.region (Jx.assign rfl rfl (J.nil (N.seq (W.ret (N.noGotoRet ?_)))))))
 (refine id ?_; rotate_left))
            exact N.retD (rs := [.tmp 2]) (L1 := []) rfl (.tmp rfl .nil) (List.nil_sublist _) ⟨rfl, rfl⟩
          · have hf : fineAk x = true := by
              simp only [fineAk, kindA, if_neg e1, if_neg e2, if_neg e3, if_pos e4, restA, highB, bareB, Bool.false_or, Bool.true_or, Bool.true_and, Bool.and_true, Bool.and_eq_true, Bool.or_eq_true, Bool.not_eq_true', Bool.and_eq_false_iff, Bool.or_eq_false_iff, Bool.not_eq_false', decide_eq_true_eq, decide_eq_false_iff_not] at hb ⊢
              grind
            rw [hf]
            focus (
 (refine W.skip (N.seq (W.seq (W.region (Jx.assign rfl rfl (J.nil (N.seq (W.ret ?_))))))))
 (refine id ?_; rotate_left))
            exact N.retD (rs := [.tmp 2]) (L1 := []) rfl (.tmp rfl .nil) (List.nil_sublist _) ⟨rfl, rfl⟩
        · by_cases e5 : x.kind = 5
          · focus (
 (refine W.seq (W.region ?_))
 (refine J.boxAg rfl rfl ?_; intro b')
 (refine Jx.assign rfl rfl (J.nil (N.seq (W.seq (W.region (Jx.assign rfl rfl (J.nil (N.seq (W.seq (W.seq (W.region (Jx.fieldAddr rfl rfl ?_))))))))))))
 (refine Jx.load rfl 0 rfl rfl rfl ?_)
 (refine J.nil (N.seq (W.block (W.seq (W.region (Jx.eqlI rfl rfl rfl (Jx.assign rfl rfl (J.nil (N.seq (W.cF rfl ?_))))))))))
 (refine W.seq (W.region (Jx.eqlI rfl rfl rfl (Jx.assign rfl rfl (J.nil (N.seq (W.cF rfl ?_)))))))
 (refine W.seq (W.region (Jx.eqlI rfl rfl rfl (Jx.assign rfl rfl (J.nil (N.seq (W.cF rfl ?_)))))))
 (refine W.seq (W.region (Jx.eqlI rfl rfl rfl (Jx.assign rfl rfl (J.nil (N.seq (W.cF rfl ?_)))))))
 (refine W.seq (W.region (Jx.eqlI rfl rfl rfl (Jx.assign rfl rfl (J.nil (N.seq (W.cT rfl ?_)))))))
 (refine W.region (Jx.loadAll rfl 0 rfl rfl rfl ?_))
 (refine J.call (c3) rfl (evs_args rfl) rfl ?_; rintro _ _ ⟨rfl, rfl⟩; simp only [la1, la2, la3])
 (refine Jx.move rfl rfl ?_)
 (refine' J.guardAnd rfl rfl rfl rfl rfl rfl rfl rfl (fun _ => ?_) ?_; rotate_left)
 (refine J.gY rfl rfl rfl ?_)
 (refine Jx.fieldAddr rfl rfl ?_)
 (refine J.gY rfl rfl rfl ?_)
 (refine Jx.load rfl 0 rfl rfl rfl ?_)
 (refine J.gY rfl rfl rfl ?_)
 (refine Jx.lenS rfl rfl ?_)
 (refine J.gY rfl rfl rfl ?_)
 (refine Jx.leqI rfl rfl rfl (J.nil ?_))
 (refine N.joinedN rfl rfl rfl)
 (refine Jx.move rfl rfl ?_)
 (refine' J.guardAnd rfl rfl rfl rfl rfl rfl rfl rfl (fun _ => ?_) ?_; rotate_left)
 (refine J.gY rfl rfl rfl ?_)
 (refine Jx.fieldAddr rfl rfl ?_)
 (refine J.gY rfl rfl rfl ?_)
 (refine Jx.load rfl 0 rfl rfl rfl ?_)
 (refine J.gY rfl rfl rfl ?_)
 (refine Jx.lenS rfl rfl ?_)
 (refine J.gY rfl rfl rfl ?_)
 (refine Jx.leqI rfl rfl rfl (J.nil ?_))
 (refine N.joinedN rfl rfl rfl)
 (refine Jx.move rfl rfl ?_)
 (refine' J.guardAnd rfl rfl rfl rfl rfl rfl rfl rfl (fun _ => ?_) ?_; rotate_left)
 (refine J.gY rfl rfl rfl ?_)
 (refine Jx.fieldAddr rfl rfl ?_)
 (refine J.gY rfl rfl rfl ?_)
 (refine Jx.load rfl 0 rfl rfl rfl ?_)
 (refine J.gY rfl rfl rfl ?_)
 (refine Jx.geqI rfl rfl rfl (J.nil ?_))
 (refine N.joinedN rfl rfl rfl)
 (refine Jx.move rfl rfl ?_)
 (refine' J.guardAnd rfl rfl rfl rfl rfl rfl rfl rfl (fun _ => ?_) ?_; rotate_left)
 (refine J.gY rfl rfl rfl ?_)
 (refine Jx.fieldAddr rfl rfl ?_)
 (refine J.gY rfl rfl rfl ?_)
 (refine Jx.load rfl 0 rfl rfl rfl ?_)
 (refine J.gY rfl rfl rfl ?_)
 (refine Jx.leqI rfl rfl rfl (J.nil ?_))
 (refine N.joinedN rfl rfl rfl)
 (refine Jx.assign rfl rfl (J.nil (N.seq (W.seq (W.seq (W.region (Jx.move rfl rfl (Jx.not rfl rfl (Jx.move rfl rfl ?_)))))))))
 (refine' J.guardOr rfl rfl rfl rfl rfl rfl rfl rfl (fun _ => ?_) ?_; rotate_left)
 (refine J.gY rfl rfl rfl ?_)
 (refine Jx.fieldAddr rfl rfl ?_)
 (refine J.gY rfl rfl rfl ?_)
 (refine Jx.load rfl 0 rfl rfl rfl ?_)
 (refine J.gY rfl rfl rfl ?_)
 (refine J.call (ch) rfl (evs_args rfl) rfl ?_; rintro _ _ ⟨rfl, rfl⟩; simp only [la1, la2, la3])
 (refine J.gY rfl rfl rfl ?_)
 (refine Jx.not rfl rfl (J.nil ?_))
 (refine N.joinedN rfl rfl rfl)
 (refine J.nil (N.seq ?_))
 (refine id ?_; rotate_left))
            refine W.cond rfl (fun hb => ?_) (fun hb => ?_)
            · have hf : fineAk x = false := by
                cases hF : fineAk x with
                | false => rfl
                | true =>
                  exfalso
                  simp only [fineAk, kindA, if_neg e1, if_neg e2, if_neg e3, if_neg e4, if_pos e5, restA, highB, bareB, Bool.false_or, Bool.true_or, Bool.true_and, Bool.and_true, Bool.and_eq_true, Bool.or_eq_true, Bool.not_eq_true', Bool.and_eq_false_iff, Bool.or_eq_false_iff, Bool.not_eq_false', decide_eq_true_eq, decide_eq_false_iff_not] at hF hb
                  grind
              rw [hf]
              focus (
 (refine W.seq (W.region (Jx.assign rfl rfl (J.nil (N.seq (W.ret (N.noGotoRet ?_)))))))
 (refine id ?_; rotate_left))
              exact N.retD (rs := [.tmp 2]) (L1 := []) rfl (.tmp rfl .nil) (List.nil_sublist _) ⟨rfl, rfl⟩
            · have hf : fineAk x = true := by
                simp only [fineAk, kindA, if_neg e1, if_neg e2, if_neg e3, if_neg e4, if_pos e5, restA, highB, bareB, Bool.false_or, Bool.true_or, Bool.true_and, Bool.and_true, Bool.and_eq_true, Bool.or_eq_true, Bool.not_eq_true', Bool.and_eq_false_iff, Bool.or_eq_false_iff, Bool.not_eq_false', decide_eq_true_eq, decide_eq_false_iff_not] at hb ⊢
                grind
              rw [hf]
              focus (
 (refine W.skip (N.seq (W.seq (W.region (Jx.assign rfl rfl (J.nil (N.seq (W.ret ?_))))))))
 (refine id ?_; rotate_left))
              exact N.retD (rs := [.tmp 2]) (L1 := []) rfl (.tmp rfl .nil) (List.nil_sublist _) ⟨rfl, rfl⟩
          · by_cases e6 : x.kind = 6
            · focus (
 (refine W.seq (W.region ?_))
 (refine J.boxAg rfl rfl ?_; intro b')
 (refine Jx.assign rfl rfl (J.nil (N.seq (W.seq (W.region (Jx.assign rfl rfl (J.nil (N.seq (W.seq (W.seq (W.region (Jx.fieldAddr rfl rfl ?_))))))))))))
 (refine Jx.load rfl 0 rfl rfl rfl ?_)
 (refine J.nil (N.seq (W.block (W.seq (W.region (Jx.eqlI rfl rfl rfl (Jx.assign rfl rfl (J.nil (N.seq (W.cF rfl ?_))))))))))
 (refine W.seq (W.region (Jx.eqlI rfl rfl rfl (Jx.assign rfl rfl (J.nil (N.seq (W.cF rfl ?_)))))))
 (refine W.seq (W.region (Jx.eqlI rfl rfl rfl (Jx.assign rfl rfl (J.nil (N.seq (W.cF rfl ?_)))))))
 (refine W.seq (W.region (Jx.eqlI rfl rfl rfl (Jx.assign rfl rfl (J.nil (N.seq (W.cF rfl ?_)))))))
 (refine W.seq (W.region (Jx.eqlI rfl rfl rfl (Jx.assign rfl rfl (J.nil (N.seq (W.cF rfl ?_)))))))
 (refine W.seq (W.region (Jx.eqlI rfl rfl rfl (Jx.assign rfl rfl (J.nil (N.seq (W.cT rfl ?_)))))))
 (refine W.region (Jx.loadAll rfl 0 rfl rfl rfl ?_))
 (refine J.call (c1) rfl (evs_args rfl) rfl ?_; rintro _ _ ⟨rfl, rfl⟩; simp only [la1, la2, la3])
 (refine Jx.move rfl rfl ?_)
 (refine' J.guardAnd rfl rfl rfl rfl rfl rfl rfl rfl (fun _ => ?_) ?_; rotate_left)
 (refine J.gY rfl rfl rfl ?_)
 (refine Jx.fieldAddr rfl rfl ?_)
 (refine J.gY rfl rfl rfl ?_)
 (refine Jx.load rfl 0 rfl rfl rfl ?_)
 (refine J.gY rfl rfl rfl ?_)
 (refine Jx.geqI rfl rfl rfl (J.nil ?_))
 (refine N.joinedN rfl rfl rfl)
 (refine Jx.move rfl rfl ?_)
 (refine' J.guardAnd rfl rfl rfl rfl rfl rfl rfl rfl (fun _ => ?_) ?_; rotate_left)
 (refine J.gY rfl rfl rfl ?_)
 (refine Jx.fieldAddr rfl rfl ?_)
 (refine J.gY rfl rfl rfl ?_)
 (refine Jx.load rfl 0 rfl rfl rfl ?_)
 (refine J.gY rfl rfl rfl ?_)
 (refine Jx.leqI rfl rfl rfl (J.nil ?_))
 (refine N.joinedN rfl rfl rfl)
 (refine Jx.move rfl rfl ?_)
 (refine' J.guardAnd rfl rfl rfl rfl rfl rfl rfl rfl (fun _ => ?_) ?_; rotate_left)
 (refine J.gY rfl rfl rfl ?_)
 (refine Jx.fieldAddr rfl rfl ?_)
 (refine J.gY rfl rfl rfl ?_)
 (refine Jx.load rfl 0 rfl rfl rfl ?_)
 (refine J.gY rfl rfl rfl ?_)
 (refine Jx.gtrI rfl rfl rfl (J.nil ?_))
 (refine N.joinedN rfl rfl rfl)
 (refine Jx.assign rfl rfl (J.nil (N.seq (W.seq (W.seq (W.region (Jx.move rfl rfl (Jx.not rfl rfl (Jx.move rfl rfl ?_)))))))))
 (refine' J.guardOr rfl rfl rfl rfl rfl rfl rfl rfl (fun _ => ?_) ?_; rotate_left)
 (refine J.gY rfl rfl rfl ?_)
 (refine Jx.fieldAddr rfl rfl ?_)
 (refine J.gY rfl rfl rfl ?_)
 (refine Jx.load rfl 0 rfl rfl rfl ?_)
 (refine J.gY rfl rfl rfl ?_)
 (refine J.call (ch) rfl (evs_args rfl) rfl ?_; rintro _ _ ⟨rfl, rfl⟩; simp only [la1, la2, la3])
 (refine J.gY rfl rfl rfl ?_)
 (refine Jx.not rfl rfl (J.nil ?_))
 (refine N.joinedN rfl rfl rfl)
 (refine J.nil (N.seq ?_))
 (refine id ?_; rotate_left))
              refine W.cond rfl (fun hb => ?_) (fun hb => ?_)
              · have hf : fineAk x = false := by
                  cases hF : fineAk x with
                  | false => rfl
                  | true =>
                    exfalso
                    simp only [fineAk, kindA, if_neg e1, if_neg e2, if_neg e3, if_neg e4, if_neg e5, if_pos e6, restA, highB, bareB, Bool.false_or, Bool.true_or, Bool.true_and, Bool.and_true, Bool.and_eq_true, Bool.or_eq_true, Bool.not_eq_true', Bool.and_eq_false_iff, Bool.or_eq_false_iff, Bool.not_eq_false', decide_eq_true_eq, decide_eq_false_iff_not] at hF hb
                    grind
                rw [hf]
                focus (
 (refine W.seq (W.region (Jx.assign rfl rfl (J.nil (N.seq (W.ret (N.noGotoRet ?_)))))))
 (refine id ?_; rotate_left))
                exact N.retD (rs := [.tmp 2]) (L1 := []) rfl (.tmp rfl .nil) (List.nil_sublist _) ⟨rfl, rfl⟩
              · have hf : fineAk x = true := by
                  simp only [fineAk, kindA, if_neg e1, if_neg e2, if_neg e3, if_neg e4, if_neg e5, if_pos e6, restA, highB, bareB, Bool.false_or, Bool.true_or, Bool.true_and, Bool.and_true, Bool.and_eq_true, Bool.or_eq_true, Bool.not_eq_true', Bool.and_eq_false_iff, Bool.or_eq_false_iff, Bool.not_eq_false', decide_eq_true_eq, decide_eq_false_iff_not] at hb ⊢
                  grind
                rw [hf]
                focus (
 (refine W.skip (N.seq (W.seq (W.region (Jx.assign rfl rfl (J.nil (N.seq (W.ret ?_))))))))
 (refine id ?_; rotate_left))
                exact N.retD (rs := [.tmp 2]) (L1 := []) rfl (.tmp rfl .nil) (List.nil_sublist _) ⟨rfl, rfl⟩
            · have hf : fineAk x = false := by rw [fineAk, kindA, if_neg e1, if_neg e2, if_neg e3, if_neg e4, if_neg e5, if_neg e6, Bool.and_false]
              rw [hf]
              focus (
 (refine W.seq (W.region ?_))
 (refine J.boxAg rfl rfl ?_; intro b')
 (refine Jx.assign rfl rfl (J.nil (N.seq (W.seq (W.region (Jx.assign rfl rfl (J.nil (N.seq (W.seq (W.seq (W.region (Jx.fieldAddr rfl rfl ?_))))))))))))
 (refine Jx.load rfl 0 rfl rfl rfl ?_)
 (refine J.nil (N.seq (W.block (W.seq (W.region (Jx.eqlI rfl rfl rfl (Jx.assign rfl rfl (J.nil (N.seq (W.cF rfl ?_))))))))))
 (refine W.seq (W.region (Jx.eqlI rfl rfl rfl (Jx.assign rfl rfl (J.nil (N.seq (W.cF rfl ?_)))))))
 (refine W.seq (W.region (Jx.eqlI rfl rfl rfl (Jx.assign rfl rfl (J.nil (N.seq (W.cF rfl ?_)))))))
 (refine W.seq (W.region (Jx.eqlI rfl rfl rfl (Jx.assign rfl rfl (J.nil (N.seq (W.cF rfl ?_)))))))
 (refine W.seq (W.region (Jx.eqlI rfl rfl rfl (Jx.assign rfl rfl (J.nil (N.seq (W.cF rfl ?_)))))))
 (refine W.seq (W.region (Jx.eqlI rfl rfl rfl (Jx.assign rfl rfl (J.nil (N.seq (W.cF rfl ?_)))))))
 (refine W.skip (N.seq (W.seq (W.seq (W.region (Jx.move rfl rfl (Jx.not rfl rfl (Jx.move rfl rfl (J.gN rfl rfl rfl rfl ?_)))))))))
 (refine J.gN rfl rfl rfl rfl ?_)
 (refine J.gN rfl rfl rfl rfl ?_)
 (refine J.gN rfl rfl rfl rfl ?_)
 (refine Jx.pT rfl rfl rfl ?_)
 (refine J.nil (N.seq (W.cT rfl ?_)))
 (refine W.seq (W.region (Jx.assign rfl rfl (J.nil (N.seq (W.ret (N.noGotoRet ?_)))))))
 (refine id ?_; rotate_left))
              exact N.retD (rs := [.tmp 2]) (L1 := []) rfl (.tmp rfl .nil) (List.nil_sublist _) ⟨rfl, rfl⟩
end Go.Proofs.Ytlfdhkahiaammaa
namespace Go.Proofs.Ytlfdhkahiaammaa
open Go Go.Sse
set_option linter.unusedVariables false
set_option linter.unusedSimpArgs false
set_option maxRecDepth 10000
set_option maxHeartbeats 4000000 in
theorem qencodeA_ok (x : Ak) : FnC Try.prog 7 [.agg (akC x)] [] (fun v L => v = .tup [str (encO fineAk encAk x), int (codeB (fineAk x) 290)] ∧ L = []) := by
  have c0 := qcheckA_ok x
  refine FnC.intro Try.func7 rfl Try.ntmps7 rfl fun Z w0 hG => ?_
  unfold encO
  cases hf : fineAk x with
  | false =>
    rw [hf] at c0
    focus (
 (refine W.seq (W.region ?_))
 (refine J.boxAg rfl rfl ?_; intro b')
 (refine Jx.assign rfl rfl (Jx.assign rfl rfl (J.nil (N.seq (W.seq (W.seq (W.region (Jx.loadAll rfl 0 rfl rfl rfl ?_))))))))
 (refine J.call (c0) rfl (evs_args rfl) rfl ?_; rintro _ _ ⟨rfl, rfl⟩; simp only [la1, la2, la3])
 (refine Jx.assign rfl rfl (J.nil (N.seq (W.seq (W.region (Jx.move rfl rfl (Jx.neqI rfl rfl rfl (J.nil (N.seq (W.cT rfl ?_))))))))))
 (refine W.seq (W.region (Jx.move rfl rfl (Jx.assign rfl rfl (Jx.assign rfl rfl (J.nil (N.seq (W.ret (N.noGotoRet ?_)))))))))
 (refine id ?_; rotate_left))
    exact N.retD (rs := [.tmp 2, .tmp 3]) (L1 := []) rfl (.tmp rfl (.tmp rfl .nil)) (List.nil_sublist _) ⟨rfl, rfl⟩
  | true =>
    rw [hf] at c0
    rw [if_pos rfl]
    have f := fineAk_spec hf
    have f1 := f.height; have f2 := f.to_; have f3 := f.most; have fk := f.kind; have f4 := f.key; have f5 := f.fin
    have hkn : x.kind = ((x.kind.toNat : Nat) : Int) := by omega
    focus (
 (refine W.seq (W.region ?_))
 (refine J.boxAg rfl rfl ?_; intro b')
 (refine Jx.assign rfl rfl (Jx.assign rfl rfl (J.nil (N.seq (W.seq (W.seq (W.region (Jx.loadAll rfl 0 rfl rfl rfl ?_))))))))
 (refine J.call (c0) rfl (evs_args rfl) rfl ?_; rintro _ _ ⟨rfl, rfl⟩; simp only [la1, la2, la3])
 (refine Jx.assign rfl rfl (J.nil (N.seq (W.seq (W.region (Jx.move rfl rfl (Jx.neqI rfl rfl rfl (J.nil (N.seq (W.cF rfl ?_))))))))))
 (refine W.skip (N.seq (W.seq (W.region (Jx.fieldAddr rfl rfl ?_)))))
 (refine Jx.load rfl 0 rfl rfl rfl ?_)
 (refine Jx.numByte x.kind.toNat rfl rfl hkn rfl ?_)
 (refine J.qs (Qs.buildBytes [UInt8.ofNat x.kind.toNat] rfl rfl rfl (by decide) (by decide)) rfl ?_)
 (refine Jx.bytesStr rfl rfl ?_)
 (refine Jx.assign rfl rfl (J.nil (N.seq (W.seq (W.seq (W.region (Jx.fieldAddr rfl rfl ?_)))))))
 (refine Jx.load rfl 0 rfl rfl rfl ?_)
 (refine Jx.fieldAddr rfl rfl ?_)
 (refine Jx.load rfl 0 rfl rfl rfl ?_)
 (refine Jx.fieldAddr rfl rfl ?_)
 (refine Jx.load rfl 0 rfl rfl rfl ?_)
 (refine J.qs (Qs.buildL (fun n : Int => int n) 0 [x.height, x.to_, x.most] (fun _ => .val rfl) rfl rfl rfl (by decide) (by decide) rfl) rfl ?_)
 (refine Jx.lenSl rfl rfl ?_)
 (refine Jx.move rfl rfl (J.nil (N.seq (W.block ?_))))
 (refine id ?_; rotate_left))
    refine W.loop (α := Nat) (fun i => [(28, int (i : Int)), (27, int (3 : Nat)), (26, isl [x.height, x.to_, x.most]), (5, str ([UInt8.ofNat x.kind.toNat] ++ flT nB ([x.height, x.to_, x.most].take i))), (1, ptr b')]) (fun _ => [.obj b' tAk (akC x)]) (fun i => i ≤ 3) (fun i => 3 - i) 0 (by simp) rfl ⟨ref0 rfl, ref0 rfl, ref0 rfl, ref0 rfl, ref0 rfl, trivial⟩ ?_
    intro i hi
    by_cases h1 : i < 3
    · have hg : [x.height, x.to_, x.most].getD i 0 ≤ 1048576 ∧ 0 ≤ [x.height, x.to_, x.most].getD i 0 := by
        match i, h1 with
        | 0, _ => exact ⟨f1.2, f1.1⟩
        | 1, _ => exact ⟨f2.2, f2.1⟩
        | 2, _ => exact ⟨by simp only [List.getD_cons_succ, List.getD_cons_zero]; omega, f3.1⟩
      have h1' : i < [x.height, x.to_, x.most].length := h1
      have c1 := Num_ok ([x.height, x.to_, x.most].getD i 0) (by omega)
      rw [numR_pos hg.2] at c1
      have hst := flT_take nB 0 [x.height, x.to_, x.most] i h1
      have hlen : (flT nB ([x.height, x.to_, x.most].take i)).length ≤ 27 := by
        have := flT_len (f := nB) (k := 9) (l := [x.height, x.to_, x.most].take i) (fun n hn => by
          have hn := List.mem_of_mem_take hn
          simp only [List.mem_cons, List.not_mem_nil, or_false] at hn
          rcases hn with rfl | rfl | rfl
          · exact numBs f1.2
          · exact numBs f2.2
          · exact numBs (by omega))
        have h3 : ([x.height, x.to_, x.most].take i).length ≤ 3 := by rw [List.length_take]; simp only [List.length_cons, List.length_nil]; omega
        omega
      have hnl := numBs hg.1
      have hnn : nB ([x.height, x.to_, x.most].getD i 0) = numB ([x.height, x.to_, x.most].getD i 0).toNat := rfl
      rw [hnn] at hst
      generalize numB ([x.height, x.to_, x.most].getD i 0).toNat = nb at *
      generalize flT nB ([x.height, x.to_, x.most].take i) = acc at *
      focus (
 (refine W.seq (W.region (Jx.lssI rfl rfl rfl (J.nil (N.seq (W.seq (W.cT rfl ?_)))))))
 (refine W.skip (N.seq (W.seq (W.block (W.seq (W.region (Jx.indexEl rfl rfl (by assumption) rfl rfl ?_)))))))
 (refine Jx.loadPP rfl rfl ?_)
 (refine Jx.assign rfl rfl (J.nil (N.seq (W.seq (W.region (Jx.move rfl rfl ?_))))))
 (refine J.call (c1) rfl (evs_args rfl) rfl ?_; rintro _ _ ⟨rfl, rfl⟩; simp only [la1, la2, la3])
 (refine Jx.move rfl rfl (Jx.extract rfl rfl rfl ?_))
 (refine Jx.extract rfl rfl rfl ?_)
 (refine Jx.assign rfl rfl (Jx.assign rfl rfl (J.nil (N.seq (W.region (Jx.move rfl rfl (Jx.move rfl rfl (Jx.cat rfl rfl (by first | omega | (simp only [List.length_append, List.length_cons, List.length_nil]; omega)) rfl ?_))))))))
 (refine Jx.assign rfl rfl (J.nil (N.seq (W.region (Jx.add64 rfl rfl (by omega) rfl ?_)))))
 (refine Jx.move rfl rfl (J.nil ?_))
 (refine id ?_; rotate_left))
      exact N.round (i + 1) h1 (by omega) rfl ⟨ref0 rfl, ref0 rfl, ref0 rfl, ⟨_, rfl, Sub.of_eq (by rw [← hst]; rfl)⟩, ref0 rfl, trivial⟩
    · have hi3 : i = 3 := by omega
      subst hi3
      have hd : flT nB ([x.height, x.to_, x.most].take 3) = numB x.height.toNat ++ (numB x.to_.toNat ++ (numB x.most.toNat ++ [])) := rfl
      rw [hd]
      have n1 := numBs f1.2; have n2 := numBs f2.2; have n3 := numBs (n := x.most) (by omega)
      have t1 := textB_len f4 (by omega); have t2 := textB_len f5 (by omega)
      have c2 := text_ok x.key (by omega)
      have c3 := text_ok x.fin (by omega)
      have he : encAk x = [UInt8.ofNat x.kind.toNat] ++ numB x.height.toNat ++ numB x.to_.toNat ++ numB x.most.toNat ++ textB x.key ++ textB x.fin := rfl
      rw [he]
      generalize numB x.height.toNat = nb1 at *
      generalize numB x.to_.toNat = nb2 at *
      generalize numB x.most.toNat = nb3 at *
      generalize textB x.key = tk at *
      generalize textB x.fin = tf at *
      focus (
 (refine W.seq (W.region (Jx.lssI rfl rfl rfl (J.nil (N.seq (W.seq (W.cF rfl ?_)))))))
 (refine W.exit (N.seq (W.seq ?_)))
 (refine W.draw follows ?_)
 (refine JD.calm rfl (by decide +kernel) ?_)
 (refine Cx.move rfl rfl ?_)
 (refine Cx.fieldAddr rfl rfl ?_)
 (refine Cx.load rfl 0 rfl rfl rfl ?_)
 (refine SegC.q (Qs.call (Lc := []) (c2) (fun s L' h => h) (List.Perm.refl _) (evs_args rfl)) rfl ?_)
 (refine Cx.cat rfl rfl (by first | omega | (simp only [List.length_append, List.length_cons, List.length_nil]; omega)) rfl ?_)
 (refine Cx.fieldAddr rfl rfl ?_)
 (refine Cx.load rfl 0 rfl rfl rfl ?_)
 (refine SegC.q (Qs.call (Lc := []) (c3) (fun s L' h => h) (List.Perm.refl _) (evs_args rfl)) rfl ?_)
 (refine Cx.cat rfl rfl (by first | omega | (simp only [List.length_append, List.length_cons, List.length_nil]; omega)) rfl ?_)
 (refine Cx.assign rfl rfl ?_)
 (refine Cx.assign rfl rfl ?_)
 (refine SegC.nil ?_)
 (refine N.seq (W.ret ?_))
 (refine id ?_; rotate_left))
      exact N.retD (rs := [.tmp 2, .tmp 3]) (L1 := []) rfl (.tmp rfl (.tmp rfl .nil)) (List.nil_sublist _) ⟨by simp [oneOr], rfl⟩
set_option maxHeartbeats 4000000 in
theorem qdecodeA_ok (s : List UInt8) (hs : s.length ≤ 1099511627776) : FnC Try.prog 9 [str s] [] (fun v L => (∃ o, DecR fineAk encAk s o ∧ v = .tup [.agg (akC (o.getD ak0)), int (codeO o 290)]) ∧ L = []) := by
  have c0 := read_ok s
  have c1 := fun b => rd_Bytes b s 0 0 1 (Nat.zero_le _) hs
  refine FnC.intro Try.func9 rfl Try.ntmps9 rfl fun Z w0 hG => ?_
  focus (
 (refine W.seq (W.region ?_))
 (refine J.alloc (by simp only [List.map_cons, List.map_nil]; rfl) rfl rfl ?_; intro b')
 (refine Jx.assign rfl rfl (J.nil (N.seq (W.seq (W.region (Jx.move rfl rfl ?_))))))
 (refine J.call (Lc := []) c0 rfl (evs_args rfl) rfl ?_; rintro _ _ ⟨b, rfl, rfl⟩; simp only [la1, la2, la3])
 (refine Jx.assign rfl rfl (J.nil (N.seq (W.seq (W.region ?_)))))
 (refine J.alloc (by simp only [List.map_cons, List.map_nil]; rfl) rfl rfl ?_; intro b')
 (refine J.nil (N.seq (W.seq (W.seq (W.region (Jx.move rfl rfl ?_))))))
 (refine J.call1 1 ((c1 _)) rfl (evs_args rfl) rfl (by rintro _ _ ⟨k, a1, c1', rfl, rfl, ha1, hk⟩; exact ⟨_, rfl⟩) ?_; rintro _ _ ⟨k, a1, c1', rfl, ⟨⟩, ha1, hk⟩; simp only [la4, la5])
 (refine Jx.assign rfl rfl (J.nil (N.seq (W.seq (W.region (Jx.move rfl rfl (Jx.neqS rfl rfl rfl (J.nil (N.seq ?_)))))))))
 (refine id ?_; rotate_left))
  rename_i p2
  refine W.joinE (α := Unit) (fun _ => [(4, ptr b), (5, ptr b'), (2, ptr p2)]) (fun _ => [.obj b' tAk (akC ⟨kdOf k, 0, 0, [], [], 0⟩), rdO b ⟨s, a1, c1'⟩, .obj p2 tAk (akC ak0)]) (fun _ => True) ?_ ?_
  · refine W.cond rfl (fun h1 => ?_) (fun h1 => ?_)
    · have h1 := of_decide_eq_true h1
      have hl : (0 : Int) < (k.length : Int) := by have := List.length_pos_iff.2 h1; omega
      focus (
 (refine W.region (Jx.move rfl rfl ?_))
 (refine Jx.indexS (m := 0) rfl rfl (by decide) hl rfl ?_)
 (refine Jx.byteNum rfl rfl rfl ?_)
 (refine Jx.fieldAddr rfl rfl ?_)
 (refine J.st 0 rfl rfl rfl rfl rfl rfl ?_)
 (refine J.nil ?_)
 (refine id ?_; rotate_left))
      exact N.joinE () trivial rfl ⟨ref0 rfl, ref0 rfl, ref0 rfl, trivial⟩
    · have h1 : k = [] := by have := of_decide_eq_false h1; exact Classical.not_not.1 this
      focus (
 (refine W.skip ?_)
 (refine id ?_; rotate_left))
      exact N.joinE () trivial (by rw [h1]; rfl) ⟨ref0 rfl, ref0 rfl, ref0 rfl, trivial⟩
  · intro _ _
    have hke : kdOf k = ((k.getD 0 0).toNat : Int) := by cases k <;> rfl
    generalize kdOf k = kd at *
    have n1 := rd_Num b s a1 c1' ha1 hs
    refine N.perm (List.Perm.swap _ _ _) ?_
    focus (
 (refine N.seq (W.seq (W.region (Jx.move rfl rfl ?_))))
 (refine J.pv (Pv.makeFunc (us := [.pointer (some ⟨b, 0, none⟩)]) (vs := []) (evs_args rfl) (evs_args rfl) (fun _ => rfl)) rfl ?_)
 (refine Jx.assign rfl rfl (J.nil (N.seq (W.seq (W.region (Jx.move rfl rfl ?_))))))
 (refine J.callV (us := [.pointer (some ⟨b, 0, none⟩)]) (vs := []) (args := []) (Lc := [rdO b ⟨s, a1, c1'⟩]) rfl (rd_Num b s a1 c1' ha1 hs) rfl (evs_args rfl) rfl ?_; rintro _ _ ⟨h, a2, c2', rfl, rfl, ha2, hhl, hh⟩; simp only [List.cons_append, List.nil_append])
 (refine Jx.move rfl rfl ?_)
 (refine J.callV (us := [.pointer (some ⟨b, 0, none⟩)]) (vs := []) (args := []) (Lc := [rdO b ⟨s, a2, c2'⟩]) rfl (rd_Num b s a2 c2' ha2 hs) rfl (evs_args rfl) rfl ?_; rintro _ _ ⟨t, a3, c3', rfl, rfl, ha3, htl, ht⟩; simp only [List.cons_append, List.nil_append])
 (refine Jx.move rfl rfl ?_)
 (refine J.callV (us := [.pointer (some ⟨b, 0, none⟩)]) (vs := []) (args := []) (Lc := [rdO b ⟨s, a3, c3'⟩]) rfl (rd_Num b s a3 c3' ha3 hs) rfl (evs_args rfl) rfl ?_; rintro _ _ ⟨m, a4, c4', rfl, rfl, ha4, hml, hm⟩; simp only [List.cons_append, List.nil_append])
 (refine Jx.fieldAddr rfl rfl ?_)
 (refine J.st 1 rfl rfl rfl rfl rfl rfl ?_)
 (refine Jx.fieldAddr rfl rfl ?_)
 (refine J.st 1 rfl rfl rfl rfl rfl rfl ?_)
 (refine Jx.fieldAddr rfl rfl ?_)
 (refine J.st 1 rfl rfl rfl rfl rfl rfl ?_)
 (refine J.nil (N.seq (W.seq (W.region (Jx.move rfl rfl ?_)))))
 (refine J.call1 0 ((rd_Text b s a4 c4' 8 ha4 hs)) rfl (evs_args rfl) rfl (by rintro _ _ ⟨ky, a5, c5', rfl, rfl, ha5, hky⟩; exact ⟨_, rfl⟩) ?_; rintro _ _ ⟨ky, a5, c5', rfl, ⟨⟩, ha5, hky⟩; simp only [la4, la5])
 (refine Jx.move rfl rfl ?_)
 (refine J.call1 0 ((rd_Text b s a5 c5' 8 ha5 hs)) rfl (evs_args rfl) rfl (by rintro _ _ ⟨fi, a6, c6', rfl, rfl, ha6, hfi⟩; exact ⟨_, rfl⟩) ?_; rintro _ _ ⟨fi, a6, c6', rfl, ⟨⟩, ha6, hfi⟩; simp only [la4, la5])
 (refine Jx.fieldAddr rfl rfl ?_)
 (refine J.st 1 rfl rfl rfl rfl rfl rfl ?_)
 (refine Jx.fieldAddr rfl rfl ?_)
 (refine J.st 1 rfl rfl rfl rfl rfl rfl ?_)
 (refine J.nil (N.seq (W.seq (W.seq (W.region (Jx.move rfl rfl ?_))))))
 (refine J.call1 0 ((rd_End b s a6 c6' ha6 hs)) rfl (evs_args rfl) rfl (by rintro _ _ ⟨e, a7, c7', rfl, rfl, he⟩; exact ⟨_, rfl⟩) ?_; rintro _ _ ⟨e, a7, c7', rfl, ⟨⟩, he⟩; simp only [la4, la5])
 (refine Jx.neqI rfl rfl rfl (Jx.move rfl rfl ?_))
 (refine' J.guardOr rfl rfl rfl rfl rfl rfl rfl rfl (fun _ => ?_) ?_; rotate_left)
 (refine J.gY rfl rfl rfl ?_)
 (refine Jx.loadAll rfl 1 rfl rfl rfl ?_)
 (refine J.gY rfl rfl rfl ?_)
 (refine J.call ((qcheckA_ok ⟨kd, h, t, ky, fi, m⟩)) rfl (evs_args rfl) rfl ?_; rintro _ _ ⟨rfl, rfl⟩; simp only [la1, la2, la3])
 (refine J.gY rfl rfl rfl ?_)
 (refine Jx.neqI rfl rfl rfl (J.nil ?_))
 (refine N.joinedN rfl rfl rfl)
 (refine J.nil (N.seq ?_))
 (refine id ?_; rotate_left))
    have hr : ReadA 8 s ⟨kd, h, t, ky, fi, m⟩ (lf s a6 c6') := ⟨k, _, h, _, t, _, m, _, _, hk, hke, hh, rfl, ht, rfl, hm, rfl, hky, hfi⟩
    refine W.cond rfl (fun hb => ?_) (fun hb => ?_)
    · focus (
 (refine W.seq (W.region (Jx.buildB rfl rfl rfl rfl rfl ?_)))
 (refine J.storeAll rfl rfl rfl 2 rfl rfl rfl ?_)
 (refine Jx.assign rfl rfl (J.nil (N.seq (W.ret (N.noGotoRet ?_)))))
 (refine id ?_; rotate_left))
      refine N.retD (rs := [.cell 2 tAk, .tmp 3]) (L1 := []) rfl (.cell rfl 2 rfl agAk (.tmp rfl .nil)) (List.nil_sublist _) ⟨⟨none, fun y hy hz => ?_, rfl⟩, rfl⟩
      obtain ⟨rfl, h2⟩ := hr.whole (by decide) hy (r := []) (by rw [List.append_nil, hz])
      rw [he.2 h2, hy] at hb
      simp at hb
    · focus (
 (refine W.skip (N.seq (W.seq (W.region (Jx.loadAll rfl 1 rfl rfl rfl ?_)))))
 (refine J.storeAll rfl rfl rfl 2 rfl rfl rfl ?_)
 (refine Jx.assign rfl rfl (J.nil (N.seq (W.ret ?_))))
 (refine id ?_; rotate_left))
      refine N.retD (rs := [.cell 2 tAk, .tmp 3]) (L1 := []) rfl (.cell rfl 2 rfl agAk (.tmp rfl .nil)) (List.nil_sublist _) ⟨⟨some ⟨kd, h, t, ky, fi, m⟩, ?_, rfl⟩, rfl⟩
      simp only [Bool.or_eq_false_iff, decide_eq_false_iff_not, Classical.not_not] at hb
      have hf : fineAk ⟨kd, h, t, ky, fi, m⟩ = true := by
        cases hf : fineAk ⟨kd, h, t, ky, fi, m⟩ with
        | true => rfl
        | false => rw [hf] at hb; simp at hb
      rw [he.1 hb.1] at hr
      exact ⟨hf, hr.sound⟩
end Go.Proofs.Ytlfdhkahiaammaa
