/-
  A list is read back; CodeApart.
-/
import Derived.Test.YtjlpknligekfeaaCodeG
namespace Go.Proofs.Ytjlpknligekfeaa
open Go Go.Sse
set_option linter.unusedVariables false
set_option linter.unusedSimpArgs false
set_option maxRecDepth 10000

theorem list_rest (l : List (List UInt8)) (i : Nat) (h : i < l.length) : ((l.drop i).map textB).flatten = textB (l.getD i []) ++ ((l.drop (i + 1)).map textB).flatten := by
  rw [List.drop_eq_getElem_cons h, List.getD_eq_getElem?_getD, List.getElem?_eq_getElem h]; rfl
theorem list_split (l : List (List UInt8)) (i : Nat) : (l.map textB).flatten = ((l.take i).map textB).flatten ++ ((l.drop i).map textB).flatten := by
  rw [← List.flatten_append, ← List.map_append, List.take_append_drop]
theorem list_place {s : List UInt8} {a : Nat} {l : List (List UInt8)} {more : List UInt8} (ha : a ≤ s.length) (hs : s.drop a = listB l ++ more) (i : Nat) : a + ((numB l.length).length + ((l.take i).map textB).flatten.length) ≤ s.length ∧ s.drop (a + ((numB l.length).length + ((l.take i).map textB).flatten.length)) = ((l.drop i).map textB).flatten ++ more := by
  have h : s.drop a = (numB l.length ++ ((l.take i).map textB).flatten) ++ (((l.drop i).map textB).flatten ++ more) := by
    rw [hs, listB, list_split l i]; simp only [List.append_assoc]
  have := drop_len h ha
  rw [List.length_append] at this
  exact this

set_option maxHeartbeats 1000000 in
theorem list_back (b : Nat) (s : List UInt8) (a : Nat) (l : List (List UInt8)) (more : List UInt8) (m e : Int) (h : Rdr.ok ⟨s, a, 0⟩) (hl : l.length ≤ 1048576) (hm : (l.length : Int) ≤ m) (he : ∀ t ∈ l, (t.length : Int) ≤ e) (hs : s.drop a = listB l ++ more) :
    FnC Try.prog 21 [ptr b, int m, int e] [rdO b ⟨s, a, 0⟩] (fun v L => v = ssl l ∧ L = [rdO b ⟨s, a + (listB l).length, 0⟩]) := by
  have h1 := h.le; have h2 := h.mx
  simp only at h1 h2
  have c1 := number_back b s a l.length ((l.map textB).flatten ++ more) h (by omega) (by rw [hs, listB, List.append_assoc])
  have hpl := list_place h1 hs
  have hend : a + (listB l).length = a + ((numB l.length).length + ((l.take l.length).map textB).flatten.length) := by rw [List.take_length, listB, List.length_append]
  have hst : ∀ i, i < l.length → ((l.take (i + 1)).map textB).flatten.length = ((l.take i).map textB).flatten.length + (textB (l.getD i [])).length := fun i hi => by rw [← list_take i hi, List.length_append]
  rw [hend]
  generalize (numB l.length).length = k at *
  refine FnC.intro Try.func21 rfl Try.ntmps21 rfl fun Z w0 hG => ?_
  focus (
    (refine W.seq ?_)
    (refine W.region ?_)
    (refine Jx.assign rfl rfl ?_)
    (refine J.nil ?_)
    (refine N.seq ?_)
    (refine W.seq ?_)
    (refine W.region ?_)
    (refine Jx.move rfl rfl ?_)
    (refine Jx.nilCheck rfl rfl ?_)
    (refine Jx.fieldAddr rfl rfl ?_)
    (refine Jx.load rfl 0 rfl rfl rfl ?_)
    (refine Jx.assign rfl rfl ?_)
    (refine J.nil ?_)
    (refine N.seq ?_)
    (refine W.seq ?_)
    (refine W.region ?_)
    (refine Jx.move rfl rfl ?_)
    (refine J.call (c1) rfl (evs_args rfl) rfl ?_; rintro _ _ ⟨rfl, rfl⟩; simp only [List.cons_append, List.nil_append, List.append_nil])
    (refine Jx.move rfl rfl ?_)
    (refine Jx.extract rfl rfl rfl ?_)
    (refine Jx.extract rfl rfl rfl ?_)
    (refine Jx.assign rfl rfl ?_)
    (refine Jx.assign rfl rfl ?_)
    (refine J.nil ?_)
    (refine N.seq ?_)
    (refine W.seq ?_)
    (refine W.seq ?_)
    (refine W.region ?_)
    (refine Jx.move rfl rfl ?_)
    (refine Jx.eqlI rfl rfl rfl ?_)
    (refine Jx.move rfl rfl ?_)
    (refine J.guardYes rfl rfl rfl (by first | rfl | assumption | (exact decide_eq_true (by first | assumption | omega | rfl)) | (exact decide_eq_false (by first | assumption | omega | rfl)) | (simp; done) | (simp; omega)) ?_)
    (refine Jx.move rfl rfl ?_)
    (refine J.guardYes rfl rfl rfl (by first | rfl | assumption | (exact decide_eq_true (by first | assumption | omega | rfl)) | (exact decide_eq_false (by first | assumption | omega | rfl)) | (simp; done) | (simp; omega)) ?_)
    (refine Jx.move rfl rfl ?_)
    (refine J.guardYes rfl rfl rfl (by first | rfl | assumption | (exact decide_eq_true (by first | assumption | omega | rfl)) | (exact decide_eq_false (by first | assumption | omega | rfl)) | (simp; done) | (simp; omega)) ?_)
    (refine Jx.gtrI rfl rfl rfl ?_)
    (refine Jx.pickT rfl (by first | rfl | assumption | (exact decide_eq_true (by first | assumption | omega | rfl)) | (exact decide_eq_false (by first | assumption | omega | rfl)) | (simp; done) | (simp; omega)) rfl rfl ?_)
    (refine J.nil ?_)
    (refine N.seq ?_)
    (refine W.condF rfl (by first | rfl | assumption | (exact decide_eq_true (by first | assumption | omega | rfl)) | (exact decide_eq_false (by first | assumption | omega | rfl)) | (simp; done) | (simp; omega)) ?_)
    (refine W.skip ?_)
    (refine N.seq ?_)
    (refine W.seq ?_)
    (refine W.region ?_)
    (refine Jx.move rfl rfl ?_)
    (refine J.pv (Pv.makeFunc (us := [.pointer (some ⟨b, 0, none⟩)]) (vs := []) (evs_args rfl) (evs_args rfl) (fun _ => rfl)) rfl ?_)
    (refine Jx.assign rfl rfl ?_)
    (refine J.nil ?_)
    (refine N.seq ?_)
    (refine W.seq ?_)
    (refine W.region ?_)
    (refine Jx.assign rfl rfl ?_)
    (refine J.nil ?_)
    (refine N.seq ?_)
    (refine W.seq ?_)
    (refine W.seq ?_)
    (refine W.region ?_)
    (refine Jx.assign rfl rfl ?_)
    (refine J.nil ?_)
    (refine N.seq ?_)
    (refine W.block ?_)
    (refine id ?_; rotate_left))
  refine W.rowNil 9 1 (elOf (fun a => [str a]) [] []) ?_
  refine W.perm (List.Perm.swap _ _ _) ?_
  refine W.loop (α := Nat × Value) (fun x => [(12, int (x.1 : Int)), (11, .val x.2), (10, .val (.func (.func 30) #[.pointer (some ⟨b, 0, none⟩)] #[])), (9, int 0), (8, int (l.length : Int)), (2, int e), (0, ptr b)]) (fun x => [rdO b ⟨s, a + (k + ((l.take x.1).map textB).flatten.length), 0⟩, .row x.2 9 1 (l.take x.1).length (elOf (fun a => [str a]) [] (l.take x.1))]) (fun x => x.1 ≤ l.length) (fun x => l.length - x.1) (0, .slice none 0 0) (by simp) (by simp) ⟨ref0 rfl, ref0 rfl, ref0 rfl, ref0 rfl, ref0 rfl, ref0 rfl, ref0 rfl, trivial⟩ ?_
  rintro ⟨i, u⟩ hi
  simp only at hi ⊢
  by_cases h3 : i < l.length
  · obtain ⟨g1, g2⟩ := hpl i
    rw [list_rest l i h3, List.append_assoc] at g2
    have hte : ((l.getD i []).length : Int) ≤ e := by
      rw [List.getD_eq_getElem?_getD, List.getElem?_eq_getElem h3]; exact he _ (List.getElem_mem _)
    have c2 := text_back b s _ _ _ e ⟨g1, h2⟩ hte g2
    have hti : (l.take i).length = i := by rw [List.length_take]; omega
    have hti2 : l.take i ++ [l.getD i []] = l.take (i + 1) := by rw [List.take_add_one, List.getElem?_eq_getElem h3, List.getD_eq_getElem?_getD, List.getElem?_eq_getElem h3]; rfl
    have hmx : (l.take i).length + [l.getD i []].length ≤ maxLen ∧ ((l.take i).length + [l.getD i []].length) * 16 ≤ 140737488355328 := by rw [hti]; simp only [maxLen, List.length_cons, List.length_nil]; omega
    have hn := hst i h3
    rw [show a + (k + ((l.take i).map textB).flatten.length) + (textB (l.getD i [])).length = a + (k + ((l.take (i + 1)).map textB).flatten.length) by omega] at c2
    generalize hp2 : a + (k + ((l.take (i + 1)).map textB).flatten.length) = p2 at *
    generalize a + (k + ((l.take i).map textB).flatten.length) = p1 at *
    generalize l.getD i [] = tx at *
    focus (
    (refine W.seq ?_)
    (refine W.seq ?_)
    (refine W.region ?_)
    (refine Jx.move rfl rfl ?_)
    (refine Jx.move rfl rfl ?_)
    (refine Jx.lssI rfl rfl rfl ?_)
    (refine Jx.move rfl rfl ?_)
    (refine J.guardYes rfl rfl rfl (by first | rfl | assumption | (exact decide_eq_true (by first | assumption | omega | rfl)) | (exact decide_eq_false (by first | assumption | omega | rfl)) | (simp; done) | (simp; omega)) ?_)
    (refine Jx.move rfl rfl ?_)
    (refine J.guardYes rfl rfl rfl (by first | rfl | assumption | (exact decide_eq_true (by first | assumption | omega | rfl)) | (exact decide_eq_false (by first | assumption | omega | rfl)) | (simp; done) | (simp; omega)) ?_)
    (refine Jx.eqlI rfl rfl rfl ?_)
    (refine Jx.pickT rfl (by first | rfl | assumption | (exact decide_eq_true (by first | assumption | omega | rfl)) | (exact decide_eq_false (by first | assumption | omega | rfl)) | (simp; done) | (simp; omega)) rfl rfl ?_)
    (refine J.nil ?_)
    (refine N.seq ?_)
    (refine W.condT rfl (by first | rfl | assumption | (exact decide_eq_true (by first | assumption | omega | rfl)) | (exact decide_eq_false (by first | assumption | omega | rfl)) | (simp; done) | (simp; omega)) ?_)
    (refine W.skip ?_)
    (refine N.seq ?_)
    (refine W.seq ?_)
    (refine W.block ?_)
    (refine W.seq ?_)
    (refine W.region ?_)
    (refine Jx.assign rfl rfl ?_)
    (refine J.nil ?_)
    (refine N.seq ?_)
    (refine W.seq ?_)
    (refine W.region ?_)
    (refine Jx.move rfl rfl ?_)
    (refine Jx.move rfl rfl ?_)
    (refine J.callV (args := [int e]) (Lc := [rdO b ⟨s, p1, 0⟩]) rfl c2 rfl (evs_args rfl) rfl ?_; rintro _ _ ⟨rfl, rfl⟩; simp only [List.cons_append, List.nil_append, List.append_nil])
    (refine Jx.move rfl rfl ?_)
    (refine Jx.extract rfl rfl rfl ?_)
    (refine Jx.extract rfl rfl rfl ?_)
    (refine Jx.assign rfl rfl ?_)
    (refine Jx.assign rfl rfl ?_)
    (refine J.nil ?_)
    (refine N.seq ?_)
    (refine W.seq ?_)
    (refine W.region ?_)
    (refine Jx.move rfl rfl ?_)
    (refine Jx.eqlI rfl rfl rfl ?_)
    (refine J.nil ?_)
    (refine N.seq ?_)
    (refine W.condT rfl (by first | rfl | assumption | (exact decide_eq_true (by first | assumption | omega | rfl)) | (exact decide_eq_false (by first | assumption | omega | rfl)) | (simp; done) | (simp; omega)) ?_)
    (refine W.region ?_)
    (refine Jx.move rfl rfl ?_)
    (refine Jx.move rfl rfl ?_)
    (refine J.qs (Qs.buildTexts [tx] rfl rfl rfl (by decide) (by decide)) rfl ?_)
    (refine J.appendAt (l := l.take i) (l2 := [tx]) 1 rfl rfl (SrcOK.sl rfl) rfl rfl hmx rfl ?_; intro v2 hv2)
    (refine Jx.assign rfl rfl ?_)
    (refine J.nil ?_)
    (refine N.seq ?_)
    (refine W.region ?_)
    (refine Jx.move rfl rfl ?_)
    (refine Jx.add64 rfl rfl (by omega) rfl ?_)
    (refine Jx.assign rfl rfl ?_)
    (refine J.nil ?_)
    (refine id ?_; rotate_left))
    exact N.round (i + 1, v2) h3 (by simp only; omega) (by simp only [hti2, hp2]; rfl) ⟨ref0 rfl, ref0 rfl, ref0 rfl, ref0 rfl, ref0 rfl, ref0 rfl, ref0 rfl, trivial⟩
  · have hil : i = l.length := by omega
    subst hil
    have e1 : l.take l.length = l := List.take_length
    rw [show (Own.row u 9 1 (l.take l.length).length (elOf (fun a => [str a]) [] (l.take l.length))) = .row u 9 1 l.length (elOf (fun a => [str a]) [] l) by rw [e1]]
    generalize a + (k + ((l.take l.length).map textB).flatten.length) = p1 at *
    have hmx : l.length ≤ maxLen := by simp only [maxLen]; omega
    refine W.freezeAt 1 11 rfl rfl hmx ?_
    focus (
    (refine W.seq ?_)
    (refine W.seq ?_)
    (refine W.region ?_)
    (refine Jx.move rfl rfl ?_)
    (refine Jx.move rfl rfl ?_)
    (refine Jx.lssI rfl rfl rfl ?_)
    (refine Jx.move rfl rfl ?_)
    (refine J.guardNoU rfl rfl rfl (by first | rfl | assumption | (exact decide_eq_true (by first | assumption | omega | rfl)) | (exact decide_eq_false (by first | assumption | omega | rfl)) | (simp; done) | (simp; omega)) rfl ?_)
    (refine J.guardNoU rfl rfl rfl (by first | rfl | assumption | (exact decide_eq_true (by first | assumption | omega | rfl)) | (exact decide_eq_false (by first | assumption | omega | rfl)) | (simp; done) | (simp; omega)) rfl ?_)
    (refine Jx.pickF rfl (by first | rfl | assumption | (exact decide_eq_true (by first | assumption | omega | rfl)) | (exact decide_eq_false (by first | assumption | omega | rfl)) | (simp; done) | (simp; omega)) rfl rfl ?_)
    (refine J.nil ?_)
    (refine N.seq ?_)
    (refine W.condF rfl (by first | rfl | assumption | (exact decide_eq_true (by first | assumption | omega | rfl)) | (exact decide_eq_false (by first | assumption | omega | rfl)) | (simp; done) | (simp; omega)) ?_)
    (refine W.exit ?_)
    (refine N.seq ?_)
    (refine W.seq ?_)
    (refine W.seq ?_)
    (refine W.region ?_)
    (refine Jx.move rfl rfl ?_)
    (refine Jx.neqI rfl rfl rfl ?_)
    (refine J.nil ?_)
    (refine N.seq ?_)
    (refine W.condF rfl (by first | rfl | assumption | (exact decide_eq_true (by first | assumption | omega | rfl)) | (exact decide_eq_false (by first | assumption | omega | rfl)) | (simp; done) | (simp; omega)) ?_)
    (refine W.skip ?_)
    (refine N.seq ?_)
    (refine W.seq ?_)
    (refine W.region ?_)
    (refine Jx.move rfl rfl ?_)
    (refine Jx.assign rfl rfl ?_)
    (refine J.nil ?_)
    (refine N.seq ?_)
    (refine W.ret ?_)
    (refine id ?_; rotate_left))
    refine N.ret (rs := [.tmp 6]) rfl (.tmp rfl .nil) ⟨rfl, rfl⟩
end Go.Proofs.Ytjlpknligekfeaa
