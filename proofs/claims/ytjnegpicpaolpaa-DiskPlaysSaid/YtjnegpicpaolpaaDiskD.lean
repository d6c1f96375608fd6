/-
  What the document's disk acts and the check that a disk works come to.
-/
import Derived.Test.YtjnegpicpaolpaaDiskC
namespace Go.Proofs.Ytjnegpicpaolpaa
open Go Go.Sse
set_option linter.unusedVariables false
set_option linter.unusedSimpArgs false

theorem ref0 {F : List (Nat × SV)} {i : Nat} {s : SV} (h : Sse.look F i = some s) : ∃ t, Sse.look F i = some t ∧ Sub t s := ⟨s, h, .refl _⟩

theorem works_ok : FnC Try.prog 7 [] [] (fun s L => s = bool true ∧ L = []) := by
  refine FnC.intro Try.func7 rfl Try.ntmps7 rfl fun Z w0 hG => ?_
  have c0 := new_ok 10 (by omega)
  have c1 : ∀ b, FnC Try.prog 19 [ptr b, str [97, 98]] [dk b ⟨[], 0, 10, -1, false⟩] (fun r L => r = int 0 ∧ L = [dk b ⟨[97, 98], 0, 10, -1, false⟩]) := fun b => append_ok b ⟨[], 0, 10, -1, false⟩ [97, 98] (by decide) (by decide) (by decide) (by decide)
  have c2 : ∀ b, FnC Try.prog 13 [ptr b] [dk b ⟨[97, 98], 0, 10, -1, false⟩] (fun r L => r = int 0 ∧ L = [dk b ⟨[97, 98], 2, 10, -1, false⟩]) := fun b => sync_ok b ⟨[97, 98], 0, 10, -1, false⟩ (by decide)
  have c3 : ∀ b, FnC Try.prog 19 [ptr b, str [99, 100]] [dk b ⟨[97, 98], 2, 10, -1, false⟩] (fun r L => r = int 0 ∧ L = [dk b ⟨[97, 98, 99, 100], 2, 10, -1, false⟩]) := fun b => append_ok b ⟨[97, 98], 2, 10, -1, false⟩ [99, 100] (by decide) (by decide) (by decide) (by decide)
  have c4 : ∀ b, FnC Try.prog 11 [ptr b, int 1] [dk b ⟨[97, 98, 99, 100], 2, 10, -1, false⟩] (fun s L => L = [dk b ⟨[97, 98, 99], 3, 10, -1, false⟩]) := fun b => crash_ok b ⟨[97, 98, 99, 100], 2, 10, -1, false⟩ ⟨by decide, by decide, by decide, by decide, by decide⟩ 1
  have c5 := fun b => read_ok b ⟨[97, 98, 99], 3, 10, -1, false⟩
  have c6 := fun b => safe_ok b ⟨[97, 98, 99], 3, 10, -1, false⟩
  have c7 : ∀ b, FnC Try.prog 19 [ptr b, str [49, 50, 51, 52, 53, 54, 55, 56]] [dk b ⟨[97, 98, 99], 3, 10, -1, false⟩] (fun r L => r = int 310 ∧ L = [dk b ⟨[97, 98, 99], 3, 10, -1, false⟩]) := fun b => append_ok b ⟨[97, 98, 99], 3, 10, -1, false⟩ [49, 50, 51, 52, 53, 54, 55, 56] (by decide) (by decide) (by decide) (by decide)
  focus (
    (refine W.seq ?_)
    (refine W.region ?_)
    (refine Jx.assign rfl rfl ?_)
    (refine J.nil ?_)
    (refine N.seq ?_)
    (refine W.seq ?_)
    (refine W.region ?_)
    (refine J.call c0 rfl (.cons rfl .nil) rfl ?_; rintro _ _ ⟨b, rfl, rfl⟩; simp only [List.cons_append, List.nil_append, List.append_nil])
    (refine Jx.move rfl rfl ?_)
    (refine Jx.extract rfl rfl rfl ?_)
    (refine Jx.extract rfl rfl rfl ?_)
    (refine Jx.assign rfl rfl ?_)
    (refine Jx.assign rfl rfl ?_)
    (refine J.nil ?_)
    (refine N.seq ?_)
    (refine W.seq ?_)
    (refine W.seq ?_)
    (refine W.region ?_)
    (refine Jx.move rfl rfl ?_)
    (refine Jx.eqlNil rfl rfl ?_)
    (refine Jx.move rfl rfl ?_)
    (refine J.guardYes rfl rfl rfl (by first | rfl | assumption | (simp; done) | (simp; omega)) ?_)
    (refine Jx.move rfl rfl ?_)
    (refine J.guardYes rfl rfl rfl (by first | rfl | assumption | (simp; done) | (simp; omega)) ?_)
    (refine Jx.neqI rfl rfl rfl ?_)
    (refine Jx.pickF rfl (by first | rfl | assumption | (simp; done) | (simp; omega)) rfl rfl ?_)
    (refine J.nil ?_)
    (refine N.seq ?_)
    (refine W.condF rfl (by first | rfl | assumption | (simp; done) | (simp; omega)) ?_)
    (refine W.skip ?_)
    (refine N.seq ?_)
    (refine W.seq ?_)
    (refine W.region ?_)
    (refine Jx.move rfl rfl ?_)
    (refine J.call (c1 _) rfl (.cons rfl (.cons rfl .nil)) rfl ?_; rintro _ _ ⟨rfl, rfl⟩; simp only [List.cons_append, List.nil_append, List.append_nil])
    (refine Jx.eqlI rfl rfl rfl ?_)
    (refine Jx.move rfl rfl ?_)
    (refine J.guardYes rfl rfl rfl (by first | rfl | assumption | (simp; done) | (simp; omega)) ?_)
    (refine Jx.move rfl rfl ?_)
    (refine J.guardYes rfl rfl rfl (by first | rfl | assumption | (simp; done) | (simp; omega)) ?_)
    (refine J.call (c2 _) rfl (.cons rfl .nil) rfl ?_; rintro _ _ ⟨rfl, rfl⟩; simp only [List.cons_append, List.nil_append, List.append_nil])
    (refine J.guardYes rfl rfl rfl (by first | rfl | assumption | (simp; done) | (simp; omega)) ?_)
    (refine Jx.eqlI rfl rfl rfl ?_)
    (refine Jx.pickT rfl (by first | rfl | assumption | (simp; done) | (simp; omega)) rfl rfl ?_)
    (refine Jx.move rfl rfl ?_)
    (refine J.guardYes rfl rfl rfl (by first | rfl | assumption | (simp; done) | (simp; omega)) ?_)
    (refine Jx.move rfl rfl ?_)
    (refine J.guardYes rfl rfl rfl (by first | rfl | assumption | (simp; done) | (simp; omega)) ?_)
    (refine J.call (c3 _) rfl (.cons rfl (.cons rfl .nil)) rfl ?_; rintro _ _ ⟨rfl, rfl⟩; simp only [List.cons_append, List.nil_append, List.append_nil])
    (refine J.guardYes rfl rfl rfl (by first | rfl | assumption | (simp; done) | (simp; omega)) ?_)
    (refine Jx.eqlI rfl rfl rfl ?_)
    (refine Jx.pickT rfl (by first | rfl | assumption | (simp; done) | (simp; omega)) rfl rfl ?_)
    (refine Jx.assign rfl rfl ?_)
    (refine J.nil ?_)
    (refine N.seq ?_)
    (refine W.seq ?_)
    (refine W.region ?_)
    (refine Jx.move rfl rfl ?_)
    (refine J.call (c4 _) rfl (.cons rfl (.cons rfl .nil)) rfl ?_; rintro _ _ rfl; simp only [List.cons_append, List.nil_append, List.append_nil])
    (refine J.nil ?_)
    (refine N.seq ?_)
    (refine W.seq ?_)
    (refine W.region ?_)
    (refine Jx.move rfl rfl ?_)
    (refine Jx.move rfl rfl ?_)
    (refine J.guardYes rfl rfl rfl (by first | rfl | assumption | (simp; done) | (simp; omega)) ?_)
    (refine Jx.move rfl rfl ?_)
    (refine J.guardYes rfl rfl rfl (by first | rfl | assumption | (simp; done) | (simp; omega)) ?_)
    (refine J.call (c5 _) rfl (.cons rfl .nil) rfl ?_; rintro _ _ ⟨rfl, rfl⟩; simp only [List.cons_append, List.nil_append, List.append_nil])
    (refine J.guardYes rfl rfl rfl (by first | rfl | assumption | (simp; done) | (simp; omega)) ?_)
    (refine Jx.eqlS rfl rfl rfl ?_)
    (refine Jx.pickT rfl (by first | rfl | assumption | (simp; done) | (simp; omega)) rfl rfl ?_)
    (refine Jx.move rfl rfl ?_)
    (refine J.guardYes rfl rfl rfl (by first | rfl | assumption | (simp; done) | (simp; omega)) ?_)
    (refine Jx.move rfl rfl ?_)
    (refine J.guardYes rfl rfl rfl (by first | rfl | assumption | (simp; done) | (simp; omega)) ?_)
    (refine J.call (c6 _) rfl (.cons rfl .nil) rfl ?_; rintro _ _ ⟨rfl, rfl⟩; simp only [List.cons_append, List.nil_append, List.append_nil])
    (refine J.guardYes rfl rfl rfl (by first | rfl | assumption | (simp; done) | (simp; omega)) ?_)
    (refine Jx.eqlI rfl rfl rfl ?_)
    (refine Jx.pickT rfl (by first | rfl | assumption | (simp; done) | (simp; omega)) rfl rfl ?_)
    (refine Jx.move rfl rfl ?_)
    (refine J.guardYes rfl rfl rfl (by first | rfl | assumption | (simp; done) | (simp; omega)) ?_)
    (refine Jx.move rfl rfl ?_)
    (refine J.guardYes rfl rfl rfl (by first | rfl | assumption | (simp; done) | (simp; omega)) ?_)
    (refine J.call (c7 _) rfl (.cons rfl (.cons rfl .nil)) rfl ?_; rintro _ _ ⟨rfl, rfl⟩; simp only [List.cons_append, List.nil_append, List.append_nil])
    (refine J.guardYes rfl rfl rfl (by first | rfl | assumption | (simp; done) | (simp; omega)) ?_)
    (refine Jx.eqlI rfl rfl rfl ?_)
    (refine Jx.pickT rfl (by first | rfl | assumption | (simp; done) | (simp; omega)) rfl rfl ?_)
    (refine Jx.assign rfl rfl ?_)
    (refine J.nil ?_)
    (refine N.seq ?_)
    (refine W.ret ?_)
    (refine id ?_; rotate_left))
  exact N.retD (rs := [.tmp 0]) (L1 := []) rfl (.tmp rfl .nil) (List.nil_sublist _) ⟨rfl, rfl⟩

/-- One act; a list of them. -/
structure Act where
  k : Int
  n : Int
  s : List UInt8
def encA (a : Act) : List SV := [int a.k, int a.n, str a.s]
abbrev asl (l : List Act) : SV := .sl 3 l.length (elOf encA ⟨0, 0, []⟩ l)

def Dk.fused (d : Dk) (n : Int) : Dk := { d with fuse := if -1 > n then -1 else n }
def Dk.act (d : Dk) (a : Act) : Dk :=
  if a.k = 0 then (d.append (a.s.take 1000)).2 else if a.k = 1 then d.sync.2 else if a.k = 2 then (d.cut a.n).2 else if a.k = 3 then d.fused a.n else d
def Dk.acts (d : Dk) (l : List Act) : Dk := l.foldl Dk.act d

theorem Dk.ok.burn {d : Dk} (h : d.ok) : d.burn.ok := by
  obtain ⟨s0, s1, r, b, f⟩ := h
  refine ⟨s0, s1, r, b, ?_⟩
  simp only [Dk.burn]; split <;> omega
theorem Dk.ok.append {d : Dk} (h : d.ok) (s : List UInt8) : (d.append s).2.ok := by
  have hb := h.burn
  unfold Dk.append
  split
  · exact h
  split
  · exact h
  split
  · exact ⟨h.s0, h.s1, h.r, h.b, h.f⟩
  · have := h.s1; have := h.b
    refine ⟨h.s0, ?_, h.r, ?_, hb.f⟩
    · simp only [List.length_append, Dk.burn]; omega
    · simp only [List.length_append, Dk.burn]; omega
theorem Dk.ok.sync {d : Dk} (h : d.ok) : d.sync.2.ok := by
  have hb := h.burn
  unfold Dk.sync
  split
  · exact h
  split
  · exact ⟨h.s0, h.s1, h.r, h.b, h.f⟩
  · exact ⟨by simp [Dk.burn], by simp [Dk.burn], h.r, h.b, hb.f⟩
theorem Dk.ok.cut {d : Dk} (h : d.ok) (n : Int) : (d.cut n).2.ok := by
  have hb := h.burn; have := h.s0; have := h.s1; have := h.b
  unfold Dk.cut
  split
  · exact h
  split
  · exact h
  split
  · exact ⟨h.s0, h.s1, h.r, h.b, h.f⟩
  · refine ⟨?_, ?_, h.r, ?_, hb.f⟩
    · simp only [Dk.burn]; split <;> omega
    · simp only [Dk.burn, List.length_take]; split <;> omega
    · simp only [Dk.burn, List.length_take]; omega
theorem Dk.ok.fused {d : Dk} (h : d.ok) {n : Int} (hn : n ≤ 9223372036854775807) : (d.fused n).ok := by
  refine ⟨h.s0, h.s1, h.r, h.b, ?_⟩
  simp only [Dk.fused]; split <;> omega
theorem Dk.ok.act {d : Dk} (h : d.ok) {a : Act} (hn : a.n ≤ 9223372036854775807) : (d.act a).ok := by
  unfold Dk.act
  split
  · exact h.append _
  split
  · exact h.sync
  split
  · exact h.cut _
  split
  · exact h.fused hn
  · exact h
theorem Dk.ok.acts {l : List Act} (hl : ∀ a ∈ l, a.n ≤ 9223372036854775807) : ∀ {d : Dk}, d.ok → (d.acts l).ok := by
  induction l with
  | nil => exact fun h => h
  | cons a l ih => exact fun h => ih (fun x hx => hl x (List.mem_cons_of_mem _ hx)) (h.act (hl a (List.mem_cons_self ..)))
theorem Dk.acts_snoc (d : Dk) (l : List Act) (i : Nat) (h : i < l.length) : d.acts (l.take (i + 1)) = (d.acts (l.take i)).act (l.getD i ⟨0, 0, []⟩) := by
  unfold Dk.acts
  rw [List.take_add_one, List.foldl_append, List.getD_eq_getElem?_getD, List.getElem?_eq_getElem h]; rfl
theorem Dk.fresh_ok {n : Int} (h : 0 ≤ n ∧ n ≤ 1048576) : (Dk.fresh n).ok := ⟨by simp [Dk.fresh], by simp [Dk.fresh], h, by simp [Dk.fresh, h.1], by simp [Dk.fresh]⟩

abbrev d0 : Dk := Dk.fresh 5000

set_option maxHeartbeats 4000000 in
theorem acted_ok (l : List Act) (hl : ∀ a ∈ l, a.n ≤ 9223372036854775807) : FnC Try.prog 8 [asl l] [] (fun s L => ∃ b, s = ptr b ∧ L = [dk b (d0.acts (l.take 60))]) := by
  refine FnC.intro Try.func8 rfl Try.ntmps8 rfl fun Z w0 hG => ?_
  have c0 := new_ok 5000 (by omega)
  focus (
    (refine W.seq ?_)
    (refine W.region ?_)
    (refine Jx.assign rfl rfl ?_)
    (refine J.nil ?_)
    (refine N.seq ?_)
    (refine W.seq ?_)
    (refine W.region ?_)
    (refine J.call c0 rfl (.cons rfl .nil) rfl ?_; rintro _ _ ⟨b, rfl, rfl⟩; simp only [List.cons_append, List.nil_append, List.append_nil])
    (refine Jx.move rfl rfl ?_)
    (refine Jx.extract rfl rfl rfl ?_)
    (refine Jx.extract rfl rfl rfl ?_)
    (refine Jx.assign rfl rfl ?_)
    (refine Jx.assign rfl rfl ?_)
    (refine J.nil ?_)
    (refine N.seq ?_)
    (refine W.seq ?_)
    (refine W.seq ?_)
    (refine W.region ?_)
    (refine Jx.assign rfl rfl ?_)
    (refine J.nil ?_)
    (refine N.seq ?_)
    (refine W.block ?_)
    (refine id ?_; rotate_left))
  refine W.loop (α := Nat) (fun i => [(5, int i), (3, ptr b), (0, asl l)]) (fun i => [dk b (d0.acts (l.take i))]) (fun i => i ≤ l.length ∧ i ≤ 60) (fun i => 60 - i) 0 ⟨by omega, by omega⟩ rfl ⟨ref0 rfl, ref0 rfl, ref0 rfl, trivial⟩ ?_
  rintro i ⟨hi, hi'⟩
  by_cases h1 : i < l.length
  · by_cases h2 : i < 60
    · have h1' : (i : Int) < l.length := by omega
      have h2' : (i : Int) < 60 := by omega
      have hok : (d0.acts (l.take i)).ok := Dk.ok.acts (fun a ha => hl a (List.mem_of_mem_take ha)) (Dk.fresh_ok (by omega))
      have e := Dk.acts_snoc d0 l i h1
      have hn : (l.getD i ⟨0, 0, []⟩).n ≤ 9223372036854775807 := by
        rw [List.getD_eq_getElem?_getD, List.getElem?_eq_getElem h1]; exact hl _ (List.getElem_mem _)
      generalize d0.acts (l.take i) = d at *
      have ht : ((l.getD i ⟨0, 0, []⟩).s.take 1000).length ≤ 1048576 := by simp only [List.length_take]; omega
      have hr := hok.r; have hb := hok.b
      unfold Dk.act at e
      by_cases k0 : (l.getD i ⟨0, 0, []⟩).k = 0
      · have c1 := bcut_ok (l.getD i ⟨0, 0, []⟩).s 1000 (by decide)
        rw [if_pos k0] at e
        focus (
    (refine W.seq ?_)
    (refine W.seq ?_)
    (refine W.region ?_)
    (refine Jx.move rfl rfl ?_)
    (refine Jx.move rfl rfl ?_)
    (refine Jx.lenSl rfl rfl ?_)
    (refine Jx.lssI rfl rfl rfl ?_)
    (refine Jx.move rfl rfl ?_)
    (refine J.guardYes rfl rfl rfl (by first | rfl | assumption | (exact decide_eq_true (by first | assumption | omega)) | (exact decide_eq_false (by first | assumption | omega)) | (simp; done) | (simp; omega)) ?_)
    (refine Jx.move rfl rfl ?_)
    (refine J.guardYes rfl rfl rfl (by first | rfl | assumption | (exact decide_eq_true (by first | assumption | omega)) | (exact decide_eq_false (by first | assumption | omega)) | (simp; done) | (simp; omega)) ?_)
    (refine Jx.lssI rfl rfl rfl ?_)
    (refine Jx.pickT rfl (by first | rfl | assumption | (exact decide_eq_true (by first | assumption | omega)) | (exact decide_eq_false (by first | assumption | omega)) | (simp; done) | (simp; omega)) rfl rfl ?_)
    (refine J.nil ?_)
    (refine N.seq ?_)
    (refine W.condT rfl (by first | rfl | assumption | (exact decide_eq_true (by first | assumption | omega)) | (exact decide_eq_false (by first | assumption | omega)) | (simp; done) | (simp; omega)) ?_)
    (refine W.skip ?_)
    (refine N.seq ?_)
    (refine W.seq ?_)
    (refine W.block ?_)
    (refine W.seq ?_)
    (refine W.region ?_)
    (refine Jx.move rfl rfl ?_)
    (refine Jx.move rfl rfl ?_)
    (refine Jx.indexEl rfl rfl (by assumption) rfl rfl ?_)
    (refine Jx.fieldEl rfl rfl rfl ?_)
    (refine Jx.loadPP rfl rfl ?_)
    (refine J.nil ?_)
    (refine N.seq ?_)
    (refine W.block ?_)
    (refine W.seq ?_)
    (refine W.region ?_)
    (refine Jx.eqlI rfl rfl rfl ?_)
    (refine Jx.assign rfl rfl ?_)
    (refine J.nil ?_)
    (refine N.seq ?_)
    (refine W.condT rfl (by first | rfl | assumption | (exact decide_eq_true (by first | assumption | omega)) | (exact decide_eq_false (by first | assumption | omega)) | (simp; done) | (simp; omega)) ?_)
    (refine W.region ?_)
    (refine Jx.move rfl rfl ?_)
    (refine Jx.move rfl rfl ?_)
    (refine Jx.move rfl rfl ?_)
    (refine Jx.indexEl rfl rfl (by assumption) rfl rfl ?_)
    (refine Jx.fieldEl rfl rfl rfl ?_)
    (refine Jx.loadPP rfl rfl ?_)
    (refine J.call c1 rfl (.cons rfl (.cons rfl .nil)) rfl ?_; rintro _ _ ⟨rfl, rfl⟩; simp only [List.cons_append, List.nil_append, List.append_nil])
    (refine J.call (append_ok _ d ((l.getD i ⟨0, 0, []⟩).s.take 1000) hok.f.2 hr (by omega) ht) rfl (.cons rfl (.cons rfl .nil)) rfl ?_; rintro _ _ ⟨rfl, rfl⟩; simp only [List.cons_append, List.nil_append, List.append_nil])
    (refine J.nil ?_)
    (refine N.seq ?_)
    (refine W.region ?_)
    (refine Jx.move rfl rfl ?_)
    (refine Jx.add64 rfl rfl (by omega) rfl ?_)
    (refine Jx.assign rfl rfl ?_)
    (refine J.nil ?_)
    (refine id ?_; rotate_left))
        exact N.round (i + 1) ⟨h1, h2⟩ (by omega) (by simp only [e]) ⟨ref0 rfl, ref0 rfl, ref0 rfl, trivial⟩
      · rw [if_neg k0] at e
        by_cases k1 : (l.getD i ⟨0, 0, []⟩).k = 1
        · rw [if_pos k1] at e
          focus (
    (refine W.seq ?_)
    (refine W.seq ?_)
    (refine W.region ?_)
    (refine Jx.move rfl rfl ?_)
    (refine Jx.move rfl rfl ?_)
    (refine Jx.lenSl rfl rfl ?_)
    (refine Jx.lssI rfl rfl rfl ?_)
    (refine Jx.move rfl rfl ?_)
    (refine J.guardYes rfl rfl rfl (by first | rfl | assumption | (exact decide_eq_true (by first | assumption | omega)) | (exact decide_eq_false (by first | assumption | omega)) | (simp; done) | (simp; omega)) ?_)
    (refine Jx.move rfl rfl ?_)
    (refine J.guardYes rfl rfl rfl (by first | rfl | assumption | (exact decide_eq_true (by first | assumption | omega)) | (exact decide_eq_false (by first | assumption | omega)) | (simp; done) | (simp; omega)) ?_)
    (refine Jx.lssI rfl rfl rfl ?_)
    (refine Jx.pickT rfl (by first | rfl | assumption | (exact decide_eq_true (by first | assumption | omega)) | (exact decide_eq_false (by first | assumption | omega)) | (simp; done) | (simp; omega)) rfl rfl ?_)
    (refine J.nil ?_)
    (refine N.seq ?_)
    (refine W.condT rfl (by first | rfl | assumption | (exact decide_eq_true (by first | assumption | omega)) | (exact decide_eq_false (by first | assumption | omega)) | (simp; done) | (simp; omega)) ?_)
    (refine W.skip ?_)
    (refine N.seq ?_)
    (refine W.seq ?_)
    (refine W.block ?_)
    (refine W.seq ?_)
    (refine W.region ?_)
    (refine Jx.move rfl rfl ?_)
    (refine Jx.move rfl rfl ?_)
    (refine Jx.indexEl rfl rfl (by assumption) rfl rfl ?_)
    (refine Jx.fieldEl rfl rfl rfl ?_)
    (refine Jx.loadPP rfl rfl ?_)
    (refine J.nil ?_)
    (refine N.seq ?_)
    (refine W.block ?_)
    (refine W.seq ?_)
    (refine W.region ?_)
    (refine Jx.eqlI rfl rfl rfl ?_)
    (refine Jx.assign rfl rfl ?_)
    (refine J.nil ?_)
    (refine N.seq ?_)
    (refine W.condF rfl (by first | rfl | assumption | (exact decide_eq_true (by first | assumption | omega)) | (exact decide_eq_false (by first | assumption | omega)) | (simp; done) | (simp; omega)) ?_)
    (refine W.seq ?_)
    (refine W.region ?_)
    (refine Jx.eqlI rfl rfl rfl ?_)
    (refine Jx.assign rfl rfl ?_)
    (refine J.nil ?_)
    (refine N.seq ?_)
    (refine W.condT rfl (by first | rfl | assumption | (exact decide_eq_true (by first | assumption | omega)) | (exact decide_eq_false (by first | assumption | omega)) | (simp; done) | (simp; omega)) ?_)
    (refine W.region ?_)
    (refine Jx.move rfl rfl ?_)
    (refine J.call (sync_ok _ d hok.f.2) rfl (.cons rfl .nil) rfl ?_; rintro _ _ ⟨rfl, rfl⟩; simp only [List.cons_append, List.nil_append, List.append_nil])
    (refine J.nil ?_)
    (refine N.seq ?_)
    (refine W.region ?_)
    (refine Jx.move rfl rfl ?_)
    (refine Jx.add64 rfl rfl (by omega) rfl ?_)
    (refine Jx.assign rfl rfl ?_)
    (refine J.nil ?_)
    (refine id ?_; rotate_left))
          exact N.round (i + 1) ⟨h1, h2⟩ (by omega) (by simp only [e]) ⟨ref0 rfl, ref0 rfl, ref0 rfl, trivial⟩
        · rw [if_neg k1] at e
          by_cases k2 : (l.getD i ⟨0, 0, []⟩).k = 2
          · rw [if_pos k2] at e
            focus (
    (refine W.seq ?_)
    (refine W.seq ?_)
    (refine W.region ?_)
    (refine Jx.move rfl rfl ?_)
    (refine Jx.move rfl rfl ?_)
    (refine Jx.lenSl rfl rfl ?_)
    (refine Jx.lssI rfl rfl rfl ?_)
    (refine Jx.move rfl rfl ?_)
    (refine J.guardYes rfl rfl rfl (by first | rfl | assumption | (exact decide_eq_true (by first | assumption | omega)) | (exact decide_eq_false (by first | assumption | omega)) | (simp; done) | (simp; omega)) ?_)
    (refine Jx.move rfl rfl ?_)
    (refine J.guardYes rfl rfl rfl (by first | rfl | assumption | (exact decide_eq_true (by first | assumption | omega)) | (exact decide_eq_false (by first | assumption | omega)) | (simp; done) | (simp; omega)) ?_)
    (refine Jx.lssI rfl rfl rfl ?_)
    (refine Jx.pickT rfl (by first | rfl | assumption | (exact decide_eq_true (by first | assumption | omega)) | (exact decide_eq_false (by first | assumption | omega)) | (simp; done) | (simp; omega)) rfl rfl ?_)
    (refine J.nil ?_)
    (refine N.seq ?_)
    (refine W.condT rfl (by first | rfl | assumption | (exact decide_eq_true (by first | assumption | omega)) | (exact decide_eq_false (by first | assumption | omega)) | (simp; done) | (simp; omega)) ?_)
    (refine W.skip ?_)
    (refine N.seq ?_)
    (refine W.seq ?_)
    (refine W.block ?_)
    (refine W.seq ?_)
    (refine W.region ?_)
    (refine Jx.move rfl rfl ?_)
    (refine Jx.move rfl rfl ?_)
    (refine Jx.indexEl rfl rfl (by assumption) rfl rfl ?_)
    (refine Jx.fieldEl rfl rfl rfl ?_)
    (refine Jx.loadPP rfl rfl ?_)
    (refine J.nil ?_)
    (refine N.seq ?_)
    (refine W.block ?_)
    (refine W.seq ?_)
    (refine W.region ?_)
    (refine Jx.eqlI rfl rfl rfl ?_)
    (refine Jx.assign rfl rfl ?_)
    (refine J.nil ?_)
    (refine N.seq ?_)
    (refine W.condF rfl (by first | rfl | assumption | (exact decide_eq_true (by first | assumption | omega)) | (exact decide_eq_false (by first | assumption | omega)) | (simp; done) | (simp; omega)) ?_)
    (refine W.seq ?_)
    (refine W.region ?_)
    (refine Jx.eqlI rfl rfl rfl ?_)
    (refine Jx.assign rfl rfl ?_)
    (refine J.nil ?_)
    (refine N.seq ?_)
    (refine W.condF rfl (by first | rfl | assumption | (exact decide_eq_true (by first | assumption | omega)) | (exact decide_eq_false (by first | assumption | omega)) | (simp; done) | (simp; omega)) ?_)
    (refine W.seq ?_)
    (refine W.region ?_)
    (refine Jx.eqlI rfl rfl rfl ?_)
    (refine Jx.assign rfl rfl ?_)
    (refine J.nil ?_)
    (refine N.seq ?_)
    (refine W.condT rfl (by first | rfl | assumption | (exact decide_eq_true (by first | assumption | omega)) | (exact decide_eq_false (by first | assumption | omega)) | (simp; done) | (simp; omega)) ?_)
    (refine W.region ?_)
    (refine Jx.move rfl rfl ?_)
    (refine Jx.move rfl rfl ?_)
    (refine Jx.move rfl rfl ?_)
    (refine Jx.indexEl rfl rfl (by assumption) rfl rfl ?_)
    (refine Jx.fieldEl rfl rfl rfl ?_)
    (refine Jx.loadPP rfl rfl ?_)
    (refine J.call (cut_ok _ d _ hok.f.2) rfl (.cons rfl (.cons rfl .nil)) rfl ?_; rintro _ _ ⟨rfl, rfl⟩; simp only [List.cons_append, List.nil_append, List.append_nil])
    (refine J.nil ?_)
    (refine N.seq ?_)
    (refine W.region ?_)
    (refine Jx.move rfl rfl ?_)
    (refine Jx.add64 rfl rfl (by omega) rfl ?_)
    (refine Jx.assign rfl rfl ?_)
    (refine J.nil ?_)
    (refine id ?_; rotate_left))
            exact N.round (i + 1) ⟨h1, h2⟩ (by omega) (by simp only [e]) ⟨ref0 rfl, ref0 rfl, ref0 rfl, trivial⟩
          · rw [if_neg k2] at e
            by_cases k3 : (l.getD i ⟨0, 0, []⟩).k = 3
            · rw [if_pos k3] at e
              focus (
    (refine W.seq ?_)
    (refine W.seq ?_)
    (refine W.region ?_)
    (refine Jx.move rfl rfl ?_)
    (refine Jx.move rfl rfl ?_)
    (refine Jx.lenSl rfl rfl ?_)
    (refine Jx.lssI rfl rfl rfl ?_)
    (refine Jx.move rfl rfl ?_)
    (refine J.guardYes rfl rfl rfl (by first | rfl | assumption | (exact decide_eq_true (by first | assumption | omega)) | (exact decide_eq_false (by first | assumption | omega)) | (simp; done) | (simp; omega)) ?_)
    (refine Jx.move rfl rfl ?_)
    (refine J.guardYes rfl rfl rfl (by first | rfl | assumption | (exact decide_eq_true (by first | assumption | omega)) | (exact decide_eq_false (by first | assumption | omega)) | (simp; done) | (simp; omega)) ?_)
    (refine Jx.lssI rfl rfl rfl ?_)
    (refine Jx.pickT rfl (by first | rfl | assumption | (exact decide_eq_true (by first | assumption | omega)) | (exact decide_eq_false (by first | assumption | omega)) | (simp; done) | (simp; omega)) rfl rfl ?_)
    (refine J.nil ?_)
    (refine N.seq ?_)
    (refine W.condT rfl (by first | rfl | assumption | (exact decide_eq_true (by first | assumption | omega)) | (exact decide_eq_false (by first | assumption | omega)) | (simp; done) | (simp; omega)) ?_)
    (refine W.skip ?_)
    (refine N.seq ?_)
    (refine W.seq ?_)
    (refine W.block ?_)
    (refine W.seq ?_)
    (refine W.region ?_)
    (refine Jx.move rfl rfl ?_)
    (refine Jx.move rfl rfl ?_)
    (refine Jx.indexEl rfl rfl (by assumption) rfl rfl ?_)
    (refine Jx.fieldEl rfl rfl rfl ?_)
    (refine Jx.loadPP rfl rfl ?_)
    (refine J.nil ?_)
    (refine N.seq ?_)
    (refine W.block ?_)
    (refine W.seq ?_)
    (refine W.region ?_)
    (refine Jx.eqlI rfl rfl rfl ?_)
    (refine Jx.assign rfl rfl ?_)
    (refine J.nil ?_)
    (refine N.seq ?_)
    (refine W.condF rfl (by first | rfl | assumption | (exact decide_eq_true (by first | assumption | omega)) | (exact decide_eq_false (by first | assumption | omega)) | (simp; done) | (simp; omega)) ?_)
    (refine W.seq ?_)
    (refine W.region ?_)
    (refine Jx.eqlI rfl rfl rfl ?_)
    (refine Jx.assign rfl rfl ?_)
    (refine J.nil ?_)
    (refine N.seq ?_)
    (refine W.condF rfl (by first | rfl | assumption | (exact decide_eq_true (by first | assumption | omega)) | (exact decide_eq_false (by first | assumption | omega)) | (simp; done) | (simp; omega)) ?_)
    (refine W.seq ?_)
    (refine W.region ?_)
    (refine Jx.eqlI rfl rfl rfl ?_)
    (refine Jx.assign rfl rfl ?_)
    (refine J.nil ?_)
    (refine N.seq ?_)
    (refine W.condF rfl (by first | rfl | assumption | (exact decide_eq_true (by first | assumption | omega)) | (exact decide_eq_false (by first | assumption | omega)) | (simp; done) | (simp; omega)) ?_)
    (refine W.seq ?_)
    (refine W.region ?_)
    (refine Jx.eqlI rfl rfl rfl ?_)
    (refine Jx.assign rfl rfl ?_)
    (refine J.nil ?_)
    (refine N.seq ?_)
    (refine W.condT rfl (by first | rfl | assumption | (exact decide_eq_true (by first | assumption | omega)) | (exact decide_eq_false (by first | assumption | omega)) | (simp; done) | (simp; omega)) ?_)
    (refine W.region ?_)
    (refine Jx.move rfl rfl ?_)
    (refine Jx.move rfl rfl ?_)
    (refine Jx.move rfl rfl ?_)
    (refine Jx.indexEl rfl rfl (by assumption) rfl rfl ?_)
    (refine Jx.fieldEl rfl rfl rfl ?_)
    (refine Jx.loadPP rfl rfl ?_)
    (refine J.call (fuse_ok _ d _) rfl (.cons rfl (.cons rfl .nil)) rfl ?_; rintro _ _ rfl; simp only [List.cons_append, List.nil_append, List.append_nil])
    (refine J.nil ?_)
    (refine N.seq ?_)
    (refine W.region ?_)
    (refine Jx.move rfl rfl ?_)
    (refine Jx.add64 rfl rfl (by omega) rfl ?_)
    (refine Jx.assign rfl rfl ?_)
    (refine J.nil ?_)
    (refine id ?_; rotate_left))
              exact N.round (i + 1) ⟨h1, h2⟩ (by omega) (by simp only [e]; rfl) ⟨ref0 rfl, ref0 rfl, ref0 rfl, trivial⟩
            · rw [if_neg k3] at e
              focus (
    (refine W.seq ?_)
    (refine W.seq ?_)
    (refine W.region ?_)
    (refine Jx.move rfl rfl ?_)
    (refine Jx.move rfl rfl ?_)
    (refine Jx.lenSl rfl rfl ?_)
    (refine Jx.lssI rfl rfl rfl ?_)
    (refine Jx.move rfl rfl ?_)
    (refine J.guardYes rfl rfl rfl (by first | rfl | assumption | (exact decide_eq_true (by first | assumption | omega)) | (exact decide_eq_false (by first | assumption | omega)) | (simp; done) | (simp; omega)) ?_)
    (refine Jx.move rfl rfl ?_)
    (refine J.guardYes rfl rfl rfl (by first | rfl | assumption | (exact decide_eq_true (by first | assumption | omega)) | (exact decide_eq_false (by first | assumption | omega)) | (simp; done) | (simp; omega)) ?_)
    (refine Jx.lssI rfl rfl rfl ?_)
    (refine Jx.pickT rfl (by first | rfl | assumption | (exact decide_eq_true (by first | assumption | omega)) | (exact decide_eq_false (by first | assumption | omega)) | (simp; done) | (simp; omega)) rfl rfl ?_)
    (refine J.nil ?_)
    (refine N.seq ?_)
    (refine W.condT rfl (by first | rfl | assumption | (exact decide_eq_true (by first | assumption | omega)) | (exact decide_eq_false (by first | assumption | omega)) | (simp; done) | (simp; omega)) ?_)
    (refine W.skip ?_)
    (refine N.seq ?_)
    (refine W.seq ?_)
    (refine W.block ?_)
    (refine W.seq ?_)
    (refine W.region ?_)
    (refine Jx.move rfl rfl ?_)
    (refine Jx.move rfl rfl ?_)
    (refine Jx.indexEl rfl rfl (by assumption) rfl rfl ?_)
    (refine Jx.fieldEl rfl rfl rfl ?_)
    (refine Jx.loadPP rfl rfl ?_)
    (refine J.nil ?_)
    (refine N.seq ?_)
    (refine W.block ?_)
    (refine W.seq ?_)
    (refine W.region ?_)
    (refine Jx.eqlI rfl rfl rfl ?_)
    (refine Jx.assign rfl rfl ?_)
    (refine J.nil ?_)
    (refine N.seq ?_)
    (refine W.condF rfl (by first | rfl | assumption | (exact decide_eq_true (by first | assumption | omega)) | (exact decide_eq_false (by first | assumption | omega)) | (simp; done) | (simp; omega)) ?_)
    (refine W.seq ?_)
    (refine W.region ?_)
    (refine Jx.eqlI rfl rfl rfl ?_)
    (refine Jx.assign rfl rfl ?_)
    (refine J.nil ?_)
    (refine N.seq ?_)
    (refine W.condF rfl (by first | rfl | assumption | (exact decide_eq_true (by first | assumption | omega)) | (exact decide_eq_false (by first | assumption | omega)) | (simp; done) | (simp; omega)) ?_)
    (refine W.seq ?_)
    (refine W.region ?_)
    (refine Jx.eqlI rfl rfl rfl ?_)
    (refine Jx.assign rfl rfl ?_)
    (refine J.nil ?_)
    (refine N.seq ?_)
    (refine W.condF rfl (by first | rfl | assumption | (exact decide_eq_true (by first | assumption | omega)) | (exact decide_eq_false (by first | assumption | omega)) | (simp; done) | (simp; omega)) ?_)
    (refine W.seq ?_)
    (refine W.region ?_)
    (refine Jx.eqlI rfl rfl rfl ?_)
    (refine Jx.assign rfl rfl ?_)
    (refine J.nil ?_)
    (refine N.seq ?_)
    (refine W.condF rfl (by first | rfl | assumption | (exact decide_eq_true (by first | assumption | omega)) | (exact decide_eq_false (by first | assumption | omega)) | (simp; done) | (simp; omega)) ?_)
    (refine W.skip ?_)
    (refine N.seq ?_)
    (refine W.region ?_)
    (refine Jx.move rfl rfl ?_)
    (refine Jx.add64 rfl rfl (by omega) rfl ?_)
    (refine Jx.assign rfl rfl ?_)
    (refine J.nil ?_)
    (refine id ?_; rotate_left))
              exact N.round (i + 1) ⟨h1, h2⟩ (by omega) (by simp only [e]) ⟨ref0 rfl, ref0 rfl, ref0 rfl, trivial⟩
    · have : i = 60 := by omega
      subst this
      focus (
    (refine W.seq ?_)
    (refine W.seq ?_)
    (refine W.region ?_)
    (refine Jx.move rfl rfl ?_)
    (refine Jx.move rfl rfl ?_)
    (refine Jx.lenSl rfl rfl ?_)
    (refine Jx.lssI rfl rfl rfl ?_)
    (refine Jx.move rfl rfl ?_)
    (refine J.guardYes rfl rfl rfl (by first | rfl | assumption | (exact decide_eq_true (by first | assumption | omega)) | (exact decide_eq_false (by first | assumption | omega)) | (simp; done) | (simp; omega)) ?_)
    (refine Jx.move rfl rfl ?_)
    (refine J.guardYes rfl rfl rfl (by first | rfl | assumption | (exact decide_eq_true (by first | assumption | omega)) | (exact decide_eq_false (by first | assumption | omega)) | (simp; done) | (simp; omega)) ?_)
    (refine Jx.lssI rfl rfl rfl ?_)
    (refine Jx.pickT rfl (by first | rfl | assumption | (exact decide_eq_true (by first | assumption | omega)) | (exact decide_eq_false (by first | assumption | omega)) | (simp; done) | (simp; omega)) rfl rfl ?_)
    (refine J.nil ?_)
    (refine N.seq ?_)
    (refine W.condF rfl (by first | rfl | assumption | (exact decide_eq_true (by first | assumption | omega)) | (exact decide_eq_false (by first | assumption | omega)) | (simp; done) | (simp; omega)) ?_)
    (refine W.exit ?_)
    (refine N.seq ?_)
    (refine W.seq ?_)
    (refine W.region ?_)
    (refine Jx.move rfl rfl ?_)
    (refine Jx.assign rfl rfl ?_)
    (refine J.nil ?_)
    (refine N.seq ?_)
    (refine W.ret ?_)
    (refine id ?_; rotate_left))
      exact N.ret (rs := [.tmp 2]) rfl (.tmp rfl .nil) ⟨_, rfl, rfl⟩
  · have : i = l.length := by omega
    subst this
    focus (
    (refine W.seq ?_)
    (refine W.seq ?_)
    (refine W.region ?_)
    (refine Jx.move rfl rfl ?_)
    (refine Jx.move rfl rfl ?_)
    (refine Jx.lenSl rfl rfl ?_)
    (refine Jx.lssI rfl rfl rfl ?_)
    (refine Jx.move rfl rfl ?_)
    (refine J.guardNo rfl rfl rfl (by first | rfl | assumption | (exact decide_eq_true (by first | assumption | omega)) | (exact decide_eq_false (by first | assumption | omega)) | (simp; done) | (simp; omega)) rfl ?_)
    (refine J.guardNo rfl rfl rfl (by first | rfl | assumption | (exact decide_eq_true (by first | assumption | omega)) | (exact decide_eq_false (by first | assumption | omega)) | (simp; done) | (simp; omega)) rfl ?_)
    (refine Jx.pickF rfl (by first | rfl | assumption | (exact decide_eq_true (by first | assumption | omega)) | (exact decide_eq_false (by first | assumption | omega)) | (simp; done) | (simp; omega)) rfl rfl ?_)
    (refine J.nil ?_)
    (refine N.seq ?_)
    (refine W.condF rfl (by first | rfl | assumption | (exact decide_eq_true (by first | assumption | omega)) | (exact decide_eq_false (by first | assumption | omega)) | (simp; done) | (simp; omega)) ?_)
    (refine W.exit ?_)
    (refine N.seq ?_)
    (refine W.seq ?_)
    (refine W.region ?_)
    (refine Jx.move rfl rfl ?_)
    (refine Jx.assign rfl rfl ?_)
    (refine J.nil ?_)
    (refine N.seq ?_)
    (refine W.ret ?_)
    (refine id ?_; rotate_left))
    refine N.ret (rs := [.tmp 2]) rfl (.tmp rfl .nil) ⟨_, rfl, ?_⟩
    rw [List.take_of_length_le (show l.length ≤ l.length by omega), List.take_of_length_le (show l.length ≤ 60 by omega)]
end Go.Proofs.Ytjnegpicpaolpaa
