/-
  Lemmas for the claim, part 3.
-/
import Derived.Test.YtfalljmdhclgaaaTreeStaysPb
namespace Go.Proofs.Ytfalljmdhclgaaa
open Go Go.Sse
set_option linter.unusedVariables false
set_option linter.unusedSimpArgs false
set_option maxRecDepth 10000
abbrev lnsL (l : List (List (List UInt8))) : SV := .sl 1 l.length (elOf (fun x => [ssl x]) [] l)
abbrev lnsO (u : Value) (l : List (List (List UInt8))) : Own := .row u 32 1 l.length (elOf (fun x => [ssl x]) [] l)
abbrev bosL (l : List Bool) : SV := .sl 1 l.length (elOf (fun q : Bool => [bool q]) false l)
abbrev bosO (u : Value) (l : List Bool) : Own := .row u 4 1 l.length (elOf (fun q : Bool => [bool q]) false l)
theorem map_tk {α : Type} (f : Int → α) (l : List Int) (i : Nat) (h : i < l.length) : (l.take i).map f ++ [f (l.getD i 0)] = (l.take (i + 1)).map f := by
  rw [List.take_add_one, List.getElem?_eq_getElem h, List.map_append, List.getD_eq_getElem?_getD, List.getElem?_eq_getElem h]; rfl
def lnsA (T : Tr) (inn : List Int) (i : Nat) : List (List (List UInt8)) := (inn.take i).map fun n => lineT T (plc T n)
def bosA (T : Tr) (inn : List Int) (i : Nat) : List Bool := (inn.take i).map fun n => (T.all.getD (plc T n) tw0).cert
set_option maxHeartbeats 8000000 in
theorem treeStays_ok (l more : List Ac) : FnC Try.prog 3 [acL l, acL more] [] (fun r L => r = bool true ∧ L = []) := by
  have cw := tworks_ok
  have cg := grown_ok l
  have hg := grownR_is l
  generalize grownR l = s at *
  obtain ⟨T, inn⟩ := s
  obtain ⟨hT, hlen, hil, hth⟩ := hg
  simp only at cg hT hlen hil hth
  have chi := fun b v m => High_ok b v m T hT.high.1
  refine FnC.intro Try.func3 rfl Try.ntmps3 rfl fun Z w0 hG => ?_
  focus (
 (refine W.seq (W.region (Jx.assign rfl rfl (J.nil (N.seq (W.seq (W.seq (W.region ?_))))))))
 (refine J.call (cw) rfl (evs_args rfl) rfl ?_; rintro _ _ ⟨rfl, rfl⟩; simp only [la1, la2, la3])
 (refine Jx.not rfl rfl (J.nil (N.seq (W.cF rfl ?_))))
 (refine W.skip (N.seq (W.seq (W.region (Jx.move rfl rfl ?_)))))
 (refine J.call (cg) rfl (evs_args rfl) rfl ?_; rintro _ _ ⟨b, v, m, rfl, rfl⟩; simp only [la1, la2, la3])
 (refine Jx.move rfl rfl (Jx.extract rfl rfl rfl ?_))
 (refine Jx.extract rfl rfl rfl ?_)
 (refine Jx.assign rfl rfl (Jx.assign rfl rfl (J.nil (N.seq (W.seq (W.region (Jx.move rfl rfl ?_)))))))
 (refine J.call ((chi b v m)) rfl (evs_args rfl) rfl ?_; rintro _ _ ⟨rfl, rfl⟩; simp only [la1, la2, la3])
 (refine Jx.move rfl rfl (Jx.extract rfl rfl rfl ?_))
 (refine Jx.extract rfl rfl rfl ?_)
 (refine Jx.assign rfl rfl (Jx.assign rfl rfl (J.nil (N.seq (W.seq (W.region (Jx.assign rfl rfl (J.nil (N.seq (W.seq (W.region (Jx.assign rfl rfl (J.nil (N.seq ?_))))))))))))))
 (refine W.seq (W.seq (W.region (Jx.move rfl rfl (Jx.lenSl rfl rfl ?_)))))
 (refine Jx.move rfl rfl (J.nil (N.seq (W.block ?_))))
 (refine id ?_; rotate_left))
  refine W.rowNil 4 1 (elOf (fun q : Bool => [bool q]) false []) ?_
  refine W.rowNil 32 1 (elOf (fun x => [ssl x]) [] []) ?_
  refine W.perm (List.perm_append_comm (l₁ := [_, _]) (l₂ := [_, _, _])) ?_
  refine W.loop (α := Nat × Value × Value) (fun x => [(36, int (x.1 : Int)), (35, int (inn.length : Int)), (34, intL inn), (9, .val x.2.1), (10, .val x.2.2), (6, intL inn), (5, ptr b), (8, int (T.all.getD T.high tw0).view), (1, acL more)]) (fun x => treeO b v m T ++ [lnsO x.2.1 (lnsA T inn x.1), bosO x.2.2 (bosA T inn x.1)]) (fun x => x.1 ≤ inn.length) (fun x => inn.length - x.1) (0, .slice none 0 0, .slice none 0 0) (by simp) rfl ⟨ref0 rfl, ref0 rfl, ref0 rfl, ref0 rfl, ref0 rfl, ref0 rfl, ref0 rfl, ref0 rfl, ref0 rfl, trivial⟩ ?_
  rintro ⟨i, u, w⟩ hi
  simp only at hi ⊢
  have ll1 : (lnsA T inn i).length ≤ 40 := by simp only [lnsA, List.length_map, List.length_take]; omega
  have ll2 : (bosA T inn i).length ≤ 40 := by simp only [bosA, List.length_map, List.length_take]; omega
  by_cases h1 : i < inn.length
  · obtain ⟨j, hj0, hjf⟩ := hth (inn.getD i 0) (by rw [List.getD_eq_getElem?_getD, List.getElem?_eq_getElem h1]; exact List.getElem_mem _)
    have hpl : plc T (inn.getD i 0) = j := by unfold plc; rw [hjf]; rfl
    have sn := sum_ok (inn.getD i 0)
    have cl := Line_yes b v m T hT (by omega) (sumT (inn.getD i 0)) j hjf
    have cc := Certified_yes b v m T (sumT (inn.getD i 0)) j hjf
    have e1 : lnsA T inn (i + 1) = lnsA T inn i ++ [lineT T j] := by rw [← hpl]; exact (map_tk (fun n => lineT T (plc T n)) inn i h1).symm
    have e2 : bosA T inn (i + 1) = bosA T inn i ++ [(T.all.getD j tw0).cert] := by rw [← hpl]; exact (map_tk (fun n => (T.all.getD (plc T n) tw0).cert) inn i h1).symm
    generalize lineT T j = ln at *
    generalize (T.all.getD j tw0).cert = q at *
    generalize lnsA T inn i = A at *
    generalize bosA T inn i = B at *
    have hm1 : A.length + [ln].length ≤ maxLen ∧ (A.length + [ln].length) * 24 ≤ 140737488355328 := by simp only [maxLen, List.length_cons, List.length_nil]; omega
    have hm2 : B.length + [q].length ≤ maxLen ∧ (B.length + [q].length) * 1 ≤ 140737488355328 := by simp only [maxLen, List.length_cons, List.length_nil]; omega
    focus (
 (refine W.seq (W.region (Jx.lssI rfl rfl rfl (J.nil (N.seq (W.seq (W.cT rfl ?_)))))))
 (refine W.skip (N.seq (W.seq (W.block (W.seq (W.region (Jx.indexEl rfl rfl (by assumption) rfl rfl ?_)))))))
 (refine Jx.loadPP rfl rfl ?_)
 (refine Jx.assign rfl rfl (J.nil (N.seq (W.seq (W.region (Jx.move rfl rfl (Jx.move rfl rfl ?_)))))))
 (refine J.call (sn) rfl (evs_args rfl) rfl ?_; rintro _ _ ⟨rfl, rfl⟩; simp only [la1, la2, la3])
 (refine J.call (cl) rfl (evs_args rfl) rfl ?_; rintro _ _ ⟨rfl, rfl⟩; simp only [la1, la2, la3])
 (refine Jx.move rfl rfl (Jx.extract rfl rfl rfl ?_))
 (refine Jx.extract rfl rfl rfl ?_)
 (refine Jx.assign rfl rfl (Jx.assign rfl rfl (J.nil (N.seq (W.seq (W.region (Jx.move rfl rfl (Jx.move rfl rfl ?_))))))))
 (refine J.qs (Qs.buildL (fun x : List (List UInt8) => ssl x) [] [ln] (fun _ => .sl) rfl rfl rfl (by decide) (by decide) rfl) rfl ?_)
 (refine J.appendAt (l := A) (l2 := [ln]) 3 rfl rfl (SrcOK.sl rfl) rfl rfl hm1 rfl ?_; intro u2 hu2)
 (refine Jx.assign rfl rfl (J.nil (N.seq (W.region (Jx.move rfl rfl (Jx.move rfl rfl (Jx.move rfl rfl ?_)))))))
 (refine J.call (sn) rfl (evs_args rfl) rfl ?_; rintro _ _ ⟨rfl, rfl⟩; simp only [la1, la2, la3])
 (refine J.call (cc) rfl (evs_args rfl) rfl ?_; rintro _ _ ⟨rfl, rfl⟩; simp only [la1, la2, la3])
 (refine J.qs (Qs.buildL (fun x : Bool => bool x) false [q] (fun _ => .val rfl) rfl rfl rfl (by decide) (by decide) rfl) rfl ?_)
 (refine J.appendAt (l := B) (l2 := [q]) 4 rfl rfl (SrcOK.sl rfl) rfl rfl hm2 rfl ?_; intro w2 hw2)
 (refine Jx.assign rfl rfl (J.nil (N.seq (W.region (Jx.add64 rfl rfl (by omega) rfl ?_)))))
 (refine Jx.move rfl rfl (J.nil ?_))
 (refine id ?_; rotate_left))
    exact N.round (i + 1, u2, w2) h1 (by simp only; omega) (by first | (simp only [e1, e2]; done) | (simp only [e1, e2]; rfl)) ⟨ref0 rfl, ref0 rfl, ref0 rfl, ref0 rfl, ref0 rfl, ref0 rfl, ref0 rfl, ref0 rfl, ref0 rfl, trivial⟩
  · obtain rfl : i = inn.length := by omega
    have g1 : ∀ i, i < inn.length → (lnsA T inn inn.length).getD i [] = lineT T (plc T (inn.getD i 0)) := fun i h => by
      simp [lnsA, List.getD_eq_getElem?_getD, h]
    have g2 : ∀ i, i < inn.length → (bosA T inn inn.length).getD i false = (T.all.getD (plc T (inn.getD i 0)) tw0).cert := fun i h => by
      simp [bosA, List.getD_eq_getElem?_getD, h]
    have n1 : (lnsA T inn inn.length).length = inn.length := by simp [lnsA]
    have n2 : (bosA T inn inn.length).length = inn.length := by simp [bosA]
    generalize lnsA T inn inn.length = A at *
    generalize bosA T inn inn.length = B at *
    refine W.freezeAt 4 10 rfl rfl (by simp only [maxLen]; omega) ?_
    refine W.freezeAt 3 9 rfl rfl (by simp only [maxLen]; omega) ?_
    focus (
 (refine W.seq (W.region (Jx.lssI rfl rfl rfl (J.nil (N.seq (W.seq (W.cF rfl ?_)))))))
 (refine W.exit (N.seq (W.seq (W.seq (W.region (Jx.assign rfl rfl (J.nil (N.seq (W.block ?_)))))))))
 (refine id ?_; rotate_left))
    refine W.loop (α := Nat × Value) (fun x => [(15, int (x.1 : Int)), (1, acL more), (5, ptr b), (6, intL inn), (9, lnsL A), (10, bosL B), (8, int (T.all.getD T.high tw0).view)]) (fun x => treeO b x.2 m (moreA T more x.1)) (fun x => x.1 ≤ more.length ∧ x.1 ≤ 40) (fun x => 40 - x.1) (0, v) ⟨by simp, by simp⟩ rfl ⟨ref0 rfl, ref0 rfl, ref0 rfl, ref0 rfl, ref0 rfl, ref0 rfl, ref0 rfl, trivial⟩ ?_
    rintro ⟨k, v⟩ ⟨hk, h40⟩
    simp only at hk h40 ⊢
    obtain ⟨hT2, hE, hl2⟩ := moreA_is hT more k hk
    by_cases h3 : k < more.length
    · have h3' : (k : Int) < (more.length : Int) := by omega
      by_cases h4 : k < 40
      · have h4' : (k : Int) < 40 := by omega
        have hs := moreA_succ (T := T) h3
        generalize moreA T more k = T2 at *
        have s1 := sum_ok (more.getD k ac0).sum
        have s2 := sum_ok (more.getD k ac0).par
        unfold stepM at hs
        by_cases k0 : (more.getD k ac0).kind = 0
        · rw [if_pos k0] at hs
          have cp := Put_ok b v m T2 (sumT (more.getD k ac0).sum) (sumT (more.getD k ac0).par) (more.getD k ac0).view (by omega)
          generalize putT T2 (sumT (more.getD k ac0).sum) (sumT (more.getD k ac0).par) (more.getD k ac0).view = pr at *
          focus (
 (refine W.seq (W.seq (W.region (Jx.move rfl rfl (Jx.move rfl rfl (Jx.lenSl rfl rfl ?_))))))
 (refine Jx.lssI rfl rfl rfl (Jx.move rfl rfl (J.gY rfl rfl rfl ?_)))
 (refine Jx.move rfl rfl (J.gY rfl rfl rfl ?_))
 (refine Jx.lssI rfl rfl rfl (Jx.pT rfl rfl rfl ?_))
 (refine J.nil (N.seq (W.cT rfl ?_)))
 (refine W.skip (N.seq (W.seq (W.block (W.seq (W.region (Jx.move rfl rfl (Jx.move rfl rfl (Jx.indexEl rfl rfl (by assumption) rfl rfl ?_)))))))))
 (refine Jx.fieldEl rfl rfl rfl ?_)
 (refine Jx.loadPP rfl rfl ?_)
 (refine Jx.eqlI rfl rfl rfl (J.nil (N.seq (W.cT rfl ?_))))
 (refine W.draw follows ?_)
 (refine JD.till 18 (by decide +kernel) (by decide +kernel) rfl rfl ?_)
 (refine Cx.move rfl rfl ?_)
 (refine Cx.move rfl rfl ?_)
 (refine Cx.move rfl rfl ?_)
 (refine Cx.indexEl rfl rfl (by assumption) rfl rfl ?_)
 (refine Cx.fieldEl rfl rfl rfl ?_)
 (refine Cx.loadPP rfl rfl ?_)
 (refine SegC.q (Qs.call (Lc := []) (s1) (fun s L' h => h) (List.Perm.refl _) (evs_args rfl)) rfl ?_)
 (refine Cx.move rfl rfl ?_)
 (refine Cx.move rfl rfl ?_)
 (refine Cx.indexEl rfl rfl (by assumption) rfl rfl ?_)
 (refine Cx.fieldEl rfl rfl rfl ?_)
 (refine Cx.loadPP rfl rfl ?_)
 (refine SegC.q (Qs.call (Lc := []) (s2) (fun s L' h => h) (List.Perm.refl _) (evs_args rfl)) rfl ?_)
 (refine Cx.move rfl rfl ?_)
 (refine Cx.move rfl rfl ?_)
 (refine Cx.indexEl rfl rfl (by assumption) rfl rfl ?_)
 (refine Cx.fieldEl rfl rfl rfl ?_)
 (refine Cx.loadPP rfl rfl ?_)
 (refine SegC.nil ?_)
 (refine J.call (cp) rfl (evs_args rfl) rfl ?_; rintro _ _ ⟨v2, rfl, rfl⟩; simp only [la1, la2, la3])
 (refine J.nil (N.seq (W.region (Jx.move rfl rfl (Jx.add64 rfl rfl (by omega) rfl ?_)))))
 (refine Jx.assign rfl rfl (J.nil ?_))
 (refine id ?_; rotate_left))
          exact N.round (k + 1, v2) ⟨by simp only; omega, by simp only; omega⟩ (by simp only; omega) (by first | (simp only [hs]; done) | (simp only [hs]; rfl)) ⟨ref0 rfl, ref0 rfl, ref0 rfl, ref0 rfl, ref0 rfl, ref0 rfl, ref0 rfl, trivial⟩
        · rw [if_neg k0] at hs
          have cc := Certify_ok b v m T2 hT2 (sumT (more.getD k ac0).sum)
          generalize certT T2 (sumT (more.getD k ac0).sum) = pr at *
          focus (
 (refine W.seq (W.seq (W.region (Jx.move rfl rfl (Jx.move rfl rfl (Jx.lenSl rfl rfl ?_))))))
 (refine Jx.lssI rfl rfl rfl (Jx.move rfl rfl (J.gY rfl rfl rfl ?_)))
 (refine Jx.move rfl rfl (J.gY rfl rfl rfl ?_))
 (refine Jx.lssI rfl rfl rfl (Jx.pT rfl rfl rfl ?_))
 (refine J.nil (N.seq (W.cT rfl ?_)))
 (refine W.skip (N.seq (W.seq (W.block (W.seq (W.region (Jx.move rfl rfl (Jx.move rfl rfl (Jx.indexEl rfl rfl (by assumption) rfl rfl ?_)))))))))
 (refine Jx.fieldEl rfl rfl rfl ?_)
 (refine Jx.loadPP rfl rfl ?_)
 (refine Jx.eqlI rfl rfl rfl (J.nil (N.seq (W.cF rfl ?_))))
 (refine W.region (Jx.move rfl rfl (Jx.move rfl rfl (Jx.move rfl rfl (Jx.indexEl rfl rfl (by assumption) rfl rfl ?_)))))
 (refine Jx.fieldEl rfl rfl rfl ?_)
 (refine Jx.loadPP rfl rfl ?_)
 (refine J.call (s1) rfl (evs_args rfl) rfl ?_; rintro _ _ ⟨rfl, rfl⟩; simp only [la1, la2, la3])
 (refine J.call (cc) rfl (evs_args rfl) rfl ?_; rintro _ _ ⟨rfl, rfl⟩; simp only [la1, la2, la3])
 (refine J.nil (N.seq (W.region (Jx.move rfl rfl (Jx.add64 rfl rfl (by omega) rfl ?_)))))
 (refine Jx.assign rfl rfl (J.nil ?_))
 (refine id ?_; rotate_left))
          exact N.round (k + 1, v) ⟨by simp only; omega, by simp only; omega⟩ (by simp only; omega) (by first | (simp only [hs]; done) | (simp only [hs]; rfl)) ⟨ref0 rfl, ref0 rfl, ref0 rfl, ref0 rfl, ref0 rfl, ref0 rfl, ref0 rfl, trivial⟩
      · have h4' : ¬ (k : Int) < 40 := by omega
        generalize moreA T more k = T2 at *
        focus (
 (refine W.seq (W.seq (W.region (Jx.move rfl rfl (Jx.move rfl rfl (Jx.lenSl rfl rfl ?_))))))
 (refine Jx.lssI rfl rfl rfl (Jx.move rfl rfl (J.gY rfl rfl rfl ?_)))
 (refine Jx.move rfl rfl (J.gY rfl rfl rfl ?_))
 (refine Jx.lssI rfl rfl rfl (Jx.pT rfl rfl rfl ?_))
 (refine J.nil (N.seq (W.cF rfl ?_)))
 (refine W.exit (N.seq (W.seq (W.seq (W.region (Jx.move rfl rfl (Jx.lenSl rfl rfl ?_)))))))
 (refine Jx.move rfl rfl (J.nil (N.seq (W.block ?_))))
 (refine id ?_; rotate_left))
        refine W.loop (α := Nat) (fun i => [(104, int (i : Int)), (103, int (inn.length : Int)), (102, intL inn), (5, ptr b), (9, lnsL A), (10, bosL B), (8, int (T.all.getD T.high tw0).view)]) (fun _ => treeO b v m T2) (fun i => i ≤ inn.length) (fun i => inn.length - i) 0 (by simp) rfl ⟨ref0 rfl, ref0 rfl, ref0 rfl, ref0 rfl, ref0 rfl, ref0 rfl, ref0 rfl, trivial⟩ ?_
        intro i hi
        by_cases h1 : i < inn.length
        · obtain ⟨j, hj0, hjf⟩ := hth (inn.getD i 0) (by rw [List.getD_eq_getElem?_getD, List.getElem?_eq_getElem h1]; exact List.getElem_mem _)
          have hpl : plc T (inn.getD i 0) = j := by unfold plc; rw [hjf]; rfl
          have hj := (findT_some hjf).1
          have hf2 := hE.find _ _ hjf
          have sn := sum_ok (inn.getD i 0)
          have cl := Line_yes b v m T2 hT2 (by omega) (sumT (inn.getD i 0)) j hf2
          rw [lineT_ext hT hE hj] at cl
          have cc := Certified_yes b v m T2 (sumT (inn.getD i 0)) j hf2
          have hgl := g1 i h1
          have hgc := g2 i h1
          rw [hpl] at hgl hgc
          have hsm := (hE.same j hj).2.2.2
          simp only [Tr.at] at hsm
          have hll := lineF_len T.all (j + 1) j
          rw [show lineF T.all (j + 1) j = lineT T j from rfl] at hll
          generalize lineT T j = ln at *
          have sm := same_ok ln ln (by omega)
          rw [decide_eq_true rfl] at sm
          have hiA : i < A.length := by omega
          have hiB : i < B.length := by omega
          cases hcr : B.getD i false with
          | false =>
            focus (
 (refine W.seq (W.region (Jx.lssI rfl rfl rfl (J.nil (N.seq (W.seq (W.cT rfl ?_)))))))
 (refine W.skip (N.seq (W.seq (W.block (W.seq (W.region (Jx.move rfl rfl (Jx.indexEl rfl rfl (by assumption) rfl rfl ?_))))))))
 (refine Jx.loadPP rfl rfl ?_)
 (refine Jx.assign rfl rfl (Jx.assign rfl rfl (J.nil (N.seq (W.seq (W.region (Jx.move rfl rfl (Jx.move rfl rfl ?_))))))))
 (refine J.call (sn) rfl (evs_args rfl) rfl ?_; rintro _ _ ⟨rfl, rfl⟩; simp only [la1, la2, la3])
 (refine J.call (cl) rfl (evs_args rfl) rfl ?_; rintro _ _ ⟨rfl, rfl⟩; simp only [la1, la2, la3])
 (refine Jx.move rfl rfl (Jx.extract rfl rfl rfl ?_))
 (refine Jx.extract rfl rfl rfl ?_)
 (refine Jx.assign rfl rfl (Jx.assign rfl rfl (J.nil (N.seq (W.seq (W.region (Jx.move rfl rfl (Jx.move rfl rfl (Jx.lenSl rfl rfl ?_)))))))))
 (refine Jx.geqI rfl rfl rfl (Jx.move rfl rfl (J.gY rfl rfl rfl ?_)))
 (refine Jx.move rfl rfl (J.gY rfl rfl rfl ?_))
 (refine Jx.move rfl rfl (J.gY rfl rfl rfl ?_))
 (refine Jx.lenSl rfl rfl ?_)
 (refine J.gY rfl rfl rfl ?_)
 (refine Jx.geqI rfl rfl rfl (Jx.pF rfl rfl rfl ?_))
 (refine Jx.move rfl rfl (J.gY rfl rfl rfl ?_))
 (refine Jx.move rfl rfl (J.gY rfl rfl rfl ?_))
 (refine Jx.neqI rfl rfl rfl (Jx.pF rfl rfl rfl ?_))
 (refine Jx.move rfl rfl (J.gY rfl rfl rfl ?_))
 (refine Jx.move rfl rfl (J.gY rfl rfl rfl ?_))
 (refine Jx.move rfl rfl (J.gY rfl rfl rfl ?_))
 (refine Jx.move rfl rfl (J.gY rfl rfl rfl ?_))
 (refine Jx.indexEl rfl rfl hiA rfl rfl ?_)
 (refine J.gY rfl rfl rfl ?_)
 (refine Jx.loadPP rfl rfl ?_; rw [hgl])
 (refine J.gY rfl rfl rfl ?_)
 (refine J.call (sm) rfl (evs_args rfl) rfl ?_; rintro _ _ ⟨rfl, rfl⟩; simp only [la1, la2, la3])
 (refine J.gY rfl rfl rfl ?_)
 (refine Jx.not rfl rfl (Jx.pF rfl rfl rfl ?_))
 (refine Jx.move rfl rfl (J.gY rfl rfl rfl ?_))
 (refine Jx.move rfl rfl (J.gY rfl rfl rfl ?_))
 (refine Jx.move rfl rfl (J.gY rfl rfl rfl ?_))
 (refine Jx.indexEl rfl rfl hiB rfl rfl ?_)
 (refine J.gY rfl rfl rfl ?_)
 (refine Jx.loadPP rfl rfl ?_; rw [hcr])
 (refine J.gY rfl rfl rfl ?_)
 (refine Jx.move rfl rfl (J.gN rfl rfl rfl rfl ?_))
 (refine J.gN rfl rfl rfl rfl ?_)
 (refine J.gN rfl rfl rfl rfl ?_)
 (refine J.gN rfl rfl rfl rfl ?_)
 (refine J.gN rfl rfl rfl rfl ?_)
 (refine J.gY rfl rfl rfl ?_)
 (refine Jx.pF rfl rfl rfl ?_)
 (refine Jx.pF rfl rfl rfl ?_)
 (refine J.nil (N.seq (W.cF rfl ?_)))
 (refine W.skip (N.seq (W.region (Jx.add64 rfl rfl (by omega) rfl ?_))))
 (refine Jx.move rfl rfl (J.nil ?_))
 (refine id ?_; rotate_left))
            exact N.round (i + 1) h1 (by omega) rfl ⟨ref0 rfl, ref0 rfl, ref0 rfl, ref0 rfl, ref0 rfl, ref0 rfl, ref0 rfl, trivial⟩
          | true =>
            rw [hsm (by rw [← hgc, hcr])] at cc
            focus (
 (refine W.seq (W.region (Jx.lssI rfl rfl rfl (J.nil (N.seq (W.seq (W.cT rfl ?_)))))))
 (refine W.skip (N.seq (W.seq (W.block (W.seq (W.region (Jx.move rfl rfl (Jx.indexEl rfl rfl (by assumption) rfl rfl ?_))))))))
 (refine Jx.loadPP rfl rfl ?_)
 (refine Jx.assign rfl rfl (Jx.assign rfl rfl (J.nil (N.seq (W.seq (W.region (Jx.move rfl rfl (Jx.move rfl rfl ?_))))))))
 (refine J.call (sn) rfl (evs_args rfl) rfl ?_; rintro _ _ ⟨rfl, rfl⟩; simp only [la1, la2, la3])
 (refine J.call (cl) rfl (evs_args rfl) rfl ?_; rintro _ _ ⟨rfl, rfl⟩; simp only [la1, la2, la3])
 (refine Jx.move rfl rfl (Jx.extract rfl rfl rfl ?_))
 (refine Jx.extract rfl rfl rfl ?_)
 (refine Jx.assign rfl rfl (Jx.assign rfl rfl (J.nil (N.seq (W.seq (W.region (Jx.move rfl rfl (Jx.move rfl rfl (Jx.lenSl rfl rfl ?_)))))))))
 (refine Jx.geqI rfl rfl rfl (Jx.move rfl rfl (J.gY rfl rfl rfl ?_)))
 (refine Jx.move rfl rfl (J.gY rfl rfl rfl ?_))
 (refine Jx.move rfl rfl (J.gY rfl rfl rfl ?_))
 (refine Jx.lenSl rfl rfl ?_)
 (refine J.gY rfl rfl rfl ?_)
 (refine Jx.geqI rfl rfl rfl (Jx.pF rfl rfl rfl ?_))
 (refine Jx.move rfl rfl (J.gY rfl rfl rfl ?_))
 (refine Jx.move rfl rfl (J.gY rfl rfl rfl ?_))
 (refine Jx.neqI rfl rfl rfl (Jx.pF rfl rfl rfl ?_))
 (refine Jx.move rfl rfl (J.gY rfl rfl rfl ?_))
 (refine Jx.move rfl rfl (J.gY rfl rfl rfl ?_))
 (refine Jx.move rfl rfl (J.gY rfl rfl rfl ?_))
 (refine Jx.move rfl rfl (J.gY rfl rfl rfl ?_))
 (refine Jx.indexEl rfl rfl hiA rfl rfl ?_)
 (refine J.gY rfl rfl rfl ?_)
 (refine Jx.loadPP rfl rfl ?_; rw [hgl])
 (refine J.gY rfl rfl rfl ?_)
 (refine J.call (sm) rfl (evs_args rfl) rfl ?_; rintro _ _ ⟨rfl, rfl⟩; simp only [la1, la2, la3])
 (refine J.gY rfl rfl rfl ?_)
 (refine Jx.not rfl rfl (Jx.pF rfl rfl rfl ?_))
 (refine Jx.move rfl rfl (J.gY rfl rfl rfl ?_))
 (refine Jx.move rfl rfl (J.gY rfl rfl rfl ?_))
 (refine Jx.move rfl rfl (J.gY rfl rfl rfl ?_))
 (refine Jx.indexEl rfl rfl hiB rfl rfl ?_)
 (refine J.gY rfl rfl rfl ?_)
 (refine Jx.loadPP rfl rfl ?_; rw [hcr])
 (refine J.gY rfl rfl rfl ?_)
 (refine Jx.move rfl rfl (J.gY rfl rfl rfl ?_))
 (refine Jx.move rfl rfl (J.gY rfl rfl rfl ?_))
 (refine Jx.move rfl rfl (J.gY rfl rfl rfl ?_))
 (refine J.call (sn) rfl (evs_args rfl) rfl ?_; rintro _ _ ⟨rfl, rfl⟩; simp only [la1, la2, la3])
 (refine J.gY rfl rfl rfl ?_)
 (refine J.call (cc) rfl (evs_args rfl) rfl ?_; rintro _ _ ⟨rfl, rfl⟩; simp only [la1, la2, la3])
 (refine J.gY rfl rfl rfl ?_)
 (refine Jx.not rfl rfl (J.gY rfl rfl rfl ?_))
 (refine Jx.pT rfl rfl rfl ?_)
 (refine Jx.pF rfl rfl rfl ?_)
 (refine J.nil (N.seq (W.cF rfl ?_)))
 (refine W.skip (N.seq (W.region (Jx.add64 rfl rfl (by omega) rfl ?_))))
 (refine Jx.move rfl rfl (J.nil ?_))
 (refine id ?_; rotate_left))
            exact N.round (i + 1) h1 (by omega) rfl ⟨ref0 rfl, ref0 rfl, ref0 rfl, ref0 rfl, ref0 rfl, ref0 rfl, ref0 rfl, trivial⟩
        · have ch := High_ok b v m T2 hT2.high.1
          have cc := Certified_yes b v m T2 (T2.at T2.high).sum T2.high (find_at hT2 hT2.high.1)
          have hcx := hT2.high.2.1
          have hhi := hE.high
          simp only [Tr.at] at cc hcx hhi
          rw [hcx] at cc
          focus (
 (refine W.seq (W.region (Jx.lssI rfl rfl rfl (J.nil (N.seq (W.seq (W.cF rfl ?_)))))))
 (refine W.exit (N.seq (W.seq (W.region (Jx.move rfl rfl ?_)))))
 (refine J.call (ch) rfl (evs_args rfl) rfl ?_; rintro _ _ ⟨rfl, rfl⟩; simp only [la1, la2, la3])
 (refine Jx.move rfl rfl (Jx.extract rfl rfl rfl ?_))
 (refine Jx.extract rfl rfl rfl ?_)
 (refine Jx.assign rfl rfl (Jx.assign rfl rfl (J.nil (N.seq (W.seq (W.region (Jx.move rfl rfl (Jx.move rfl rfl (Jx.geqI rfl rfl rfl (Jx.move rfl rfl (J.gY rfl rfl rfl ?_)))))))))))
 (refine Jx.move rfl rfl (J.gY rfl rfl rfl ?_))
 (refine Jx.move rfl rfl (J.gY rfl rfl rfl ?_))
 (refine J.call (cc) rfl (evs_args rfl) rfl ?_; rintro _ _ ⟨rfl, rfl⟩; simp only [la1, la2, la3])
 (refine Jx.pT rfl rfl rfl ?_)
 (refine Jx.assign rfl rfl (J.nil (N.seq (W.ret ?_))))
 (refine id ?_; rotate_left))
          exact N.retD (rs := [.tmp 4]) (L1 := []) rfl (.tmp rfl .nil) (List.nil_sublist _) ⟨rfl, rfl⟩
    · have h3' : ¬ (k : Int) < (more.length : Int) := by omega
      generalize moreA T more k = T2 at *
      focus (
 (refine W.seq (W.seq (W.region (Jx.move rfl rfl (Jx.move rfl rfl (Jx.lenSl rfl rfl ?_))))))
 (refine Jx.lssI rfl rfl rfl (Jx.move rfl rfl (J.gN rfl rfl rfl rfl ?_)))
 (refine J.gN rfl rfl rfl rfl ?_)
 (refine Jx.pF rfl rfl rfl ?_)
 (refine J.nil (N.seq (W.cF rfl ?_)))
 (refine W.exit (N.seq (W.seq (W.seq (W.region (Jx.move rfl rfl (Jx.lenSl rfl rfl ?_)))))))
 (refine Jx.move rfl rfl (J.nil (N.seq (W.block ?_))))
 (refine id ?_; rotate_left))
      refine W.loop (α := Nat) (fun i => [(104, int (i : Int)), (103, int (inn.length : Int)), (102, intL inn), (5, ptr b), (9, lnsL A), (10, bosL B), (8, int (T.all.getD T.high tw0).view)]) (fun _ => treeO b v m T2) (fun i => i ≤ inn.length) (fun i => inn.length - i) 0 (by simp) rfl ⟨ref0 rfl, ref0 rfl, ref0 rfl, ref0 rfl, ref0 rfl, ref0 rfl, ref0 rfl, trivial⟩ ?_
      intro i hi
      by_cases h1 : i < inn.length
      · obtain ⟨j, hj0, hjf⟩ := hth (inn.getD i 0) (by rw [List.getD_eq_getElem?_getD, List.getElem?_eq_getElem h1]; exact List.getElem_mem _)
        have hpl : plc T (inn.getD i 0) = j := by unfold plc; rw [hjf]; rfl
        have hj := (findT_some hjf).1
        have hf2 := hE.find _ _ hjf
        have sn := sum_ok (inn.getD i 0)
        have cl := Line_yes b v m T2 hT2 (by omega) (sumT (inn.getD i 0)) j hf2
        rw [lineT_ext hT hE hj] at cl
        have cc := Certified_yes b v m T2 (sumT (inn.getD i 0)) j hf2
        have hgl := g1 i h1
        have hgc := g2 i h1
        rw [hpl] at hgl hgc
        have hsm := (hE.same j hj).2.2.2
        simp only [Tr.at] at hsm
        have hll := lineF_len T.all (j + 1) j
        rw [show lineF T.all (j + 1) j = lineT T j from rfl] at hll
        generalize lineT T j = ln at *
        have sm := same_ok ln ln (by omega)
        rw [decide_eq_true rfl] at sm
        have hiA : i < A.length := by omega
        have hiB : i < B.length := by omega
        cases hcr : B.getD i false with
        | false =>
          focus (
 (refine W.seq (W.region (Jx.lssI rfl rfl rfl (J.nil (N.seq (W.seq (W.cT rfl ?_)))))))
 (refine W.skip (N.seq (W.seq (W.block (W.seq (W.region (Jx.move rfl rfl (Jx.indexEl rfl rfl (by assumption) rfl rfl ?_))))))))
 (refine Jx.loadPP rfl rfl ?_)
 (refine Jx.assign rfl rfl (Jx.assign rfl rfl (J.nil (N.seq (W.seq (W.region (Jx.move rfl rfl (Jx.move rfl rfl ?_))))))))
 (refine J.call (sn) rfl (evs_args rfl) rfl ?_; rintro _ _ ⟨rfl, rfl⟩; simp only [la1, la2, la3])
 (refine J.call (cl) rfl (evs_args rfl) rfl ?_; rintro _ _ ⟨rfl, rfl⟩; simp only [la1, la2, la3])
 (refine Jx.move rfl rfl (Jx.extract rfl rfl rfl ?_))
 (refine Jx.extract rfl rfl rfl ?_)
 (refine Jx.assign rfl rfl (Jx.assign rfl rfl (J.nil (N.seq (W.seq (W.region (Jx.move rfl rfl (Jx.move rfl rfl (Jx.lenSl rfl rfl ?_)))))))))
 (refine Jx.geqI rfl rfl rfl (Jx.move rfl rfl (J.gY rfl rfl rfl ?_)))
 (refine Jx.move rfl rfl (J.gY rfl rfl rfl ?_))
 (refine Jx.move rfl rfl (J.gY rfl rfl rfl ?_))
 (refine Jx.lenSl rfl rfl ?_)
 (refine J.gY rfl rfl rfl ?_)
 (refine Jx.geqI rfl rfl rfl (Jx.pF rfl rfl rfl ?_))
 (refine Jx.move rfl rfl (J.gY rfl rfl rfl ?_))
 (refine Jx.move rfl rfl (J.gY rfl rfl rfl ?_))
 (refine Jx.neqI rfl rfl rfl (Jx.pF rfl rfl rfl ?_))
 (refine Jx.move rfl rfl (J.gY rfl rfl rfl ?_))
 (refine Jx.move rfl rfl (J.gY rfl rfl rfl ?_))
 (refine Jx.move rfl rfl (J.gY rfl rfl rfl ?_))
 (refine Jx.move rfl rfl (J.gY rfl rfl rfl ?_))
 (refine Jx.indexEl rfl rfl hiA rfl rfl ?_)
 (refine J.gY rfl rfl rfl ?_)
 (refine Jx.loadPP rfl rfl ?_; rw [hgl])
 (refine J.gY rfl rfl rfl ?_)
 (refine J.call (sm) rfl (evs_args rfl) rfl ?_; rintro _ _ ⟨rfl, rfl⟩; simp only [la1, la2, la3])
 (refine J.gY rfl rfl rfl ?_)
 (refine Jx.not rfl rfl (Jx.pF rfl rfl rfl ?_))
 (refine Jx.move rfl rfl (J.gY rfl rfl rfl ?_))
 (refine Jx.move rfl rfl (J.gY rfl rfl rfl ?_))
 (refine Jx.move rfl rfl (J.gY rfl rfl rfl ?_))
 (refine Jx.indexEl rfl rfl hiB rfl rfl ?_)
 (refine J.gY rfl rfl rfl ?_)
 (refine Jx.loadPP rfl rfl ?_; rw [hcr])
 (refine J.gY rfl rfl rfl ?_)
 (refine Jx.move rfl rfl (J.gN rfl rfl rfl rfl ?_))
 (refine J.gN rfl rfl rfl rfl ?_)
 (refine J.gN rfl rfl rfl rfl ?_)
 (refine J.gN rfl rfl rfl rfl ?_)
 (refine J.gN rfl rfl rfl rfl ?_)
 (refine J.gY rfl rfl rfl ?_)
 (refine Jx.pF rfl rfl rfl ?_)
 (refine Jx.pF rfl rfl rfl ?_)
 (refine J.nil (N.seq (W.cF rfl ?_)))
 (refine W.skip (N.seq (W.region (Jx.add64 rfl rfl (by omega) rfl ?_))))
 (refine Jx.move rfl rfl (J.nil ?_))
 (refine id ?_; rotate_left))
          exact N.round (i + 1) h1 (by omega) rfl ⟨ref0 rfl, ref0 rfl, ref0 rfl, ref0 rfl, ref0 rfl, ref0 rfl, ref0 rfl, trivial⟩
        | true =>
          rw [hsm (by rw [← hgc, hcr])] at cc
          focus (
 (refine W.seq (W.region (Jx.lssI rfl rfl rfl (J.nil (N.seq (W.seq (W.cT rfl ?_)))))))
 (refine W.skip (N.seq (W.seq (W.block (W.seq (W.region (Jx.move rfl rfl (Jx.indexEl rfl rfl (by assumption) rfl rfl ?_))))))))
 (refine Jx.loadPP rfl rfl ?_)
 (refine Jx.assign rfl rfl (Jx.assign rfl rfl (J.nil (N.seq (W.seq (W.region (Jx.move rfl rfl (Jx.move rfl rfl ?_))))))))
 (refine J.call (sn) rfl (evs_args rfl) rfl ?_; rintro _ _ ⟨rfl, rfl⟩; simp only [la1, la2, la3])
 (refine J.call (cl) rfl (evs_args rfl) rfl ?_; rintro _ _ ⟨rfl, rfl⟩; simp only [la1, la2, la3])
 (refine Jx.move rfl rfl (Jx.extract rfl rfl rfl ?_))
 (refine Jx.extract rfl rfl rfl ?_)
 (refine Jx.assign rfl rfl (Jx.assign rfl rfl (J.nil (N.seq (W.seq (W.region (Jx.move rfl rfl (Jx.move rfl rfl (Jx.lenSl rfl rfl ?_)))))))))
 (refine Jx.geqI rfl rfl rfl (Jx.move rfl rfl (J.gY rfl rfl rfl ?_)))
 (refine Jx.move rfl rfl (J.gY rfl rfl rfl ?_))
 (refine Jx.move rfl rfl (J.gY rfl rfl rfl ?_))
 (refine Jx.lenSl rfl rfl ?_)
 (refine J.gY rfl rfl rfl ?_)
 (refine Jx.geqI rfl rfl rfl (Jx.pF rfl rfl rfl ?_))
 (refine Jx.move rfl rfl (J.gY rfl rfl rfl ?_))
 (refine Jx.move rfl rfl (J.gY rfl rfl rfl ?_))
 (refine Jx.neqI rfl rfl rfl (Jx.pF rfl rfl rfl ?_))
 (refine Jx.move rfl rfl (J.gY rfl rfl rfl ?_))
 (refine Jx.move rfl rfl (J.gY rfl rfl rfl ?_))
 (refine Jx.move rfl rfl (J.gY rfl rfl rfl ?_))
 (refine Jx.move rfl rfl (J.gY rfl rfl rfl ?_))
 (refine Jx.indexEl rfl rfl hiA rfl rfl ?_)
 (refine J.gY rfl rfl rfl ?_)
 (refine Jx.loadPP rfl rfl ?_; rw [hgl])
 (refine J.gY rfl rfl rfl ?_)
 (refine J.call (sm) rfl (evs_args rfl) rfl ?_; rintro _ _ ⟨rfl, rfl⟩; simp only [la1, la2, la3])
 (refine J.gY rfl rfl rfl ?_)
 (refine Jx.not rfl rfl (Jx.pF rfl rfl rfl ?_))
 (refine Jx.move rfl rfl (J.gY rfl rfl rfl ?_))
 (refine Jx.move rfl rfl (J.gY rfl rfl rfl ?_))
 (refine Jx.move rfl rfl (J.gY rfl rfl rfl ?_))
 (refine Jx.indexEl rfl rfl hiB rfl rfl ?_)
 (refine J.gY rfl rfl rfl ?_)
 (refine Jx.loadPP rfl rfl ?_; rw [hcr])
 (refine J.gY rfl rfl rfl ?_)
 (refine Jx.move rfl rfl (J.gY rfl rfl rfl ?_))
 (refine Jx.move rfl rfl (J.gY rfl rfl rfl ?_))
 (refine Jx.move rfl rfl (J.gY rfl rfl rfl ?_))
 (refine J.call (sn) rfl (evs_args rfl) rfl ?_; rintro _ _ ⟨rfl, rfl⟩; simp only [la1, la2, la3])
 (refine J.gY rfl rfl rfl ?_)
 (refine J.call (cc) rfl (evs_args rfl) rfl ?_; rintro _ _ ⟨rfl, rfl⟩; simp only [la1, la2, la3])
 (refine J.gY rfl rfl rfl ?_)
 (refine Jx.not rfl rfl (J.gY rfl rfl rfl ?_))
 (refine Jx.pT rfl rfl rfl ?_)
 (refine Jx.pF rfl rfl rfl ?_)
 (refine J.nil (N.seq (W.cF rfl ?_)))
 (refine W.skip (N.seq (W.region (Jx.add64 rfl rfl (by omega) rfl ?_))))
 (refine Jx.move rfl rfl (J.nil ?_))
 (refine id ?_; rotate_left))
          exact N.round (i + 1) h1 (by omega) rfl ⟨ref0 rfl, ref0 rfl, ref0 rfl, ref0 rfl, ref0 rfl, ref0 rfl, ref0 rfl, trivial⟩
      · have ch := High_ok b v m T2 hT2.high.1
        have cc := Certified_yes b v m T2 (T2.at T2.high).sum T2.high (find_at hT2 hT2.high.1)
        have hcx := hT2.high.2.1
        have hhi := hE.high
        simp only [Tr.at] at cc hcx hhi
        rw [hcx] at cc
        focus (
 (refine W.seq (W.region (Jx.lssI rfl rfl rfl (J.nil (N.seq (W.seq (W.cF rfl ?_)))))))
 (refine W.exit (N.seq (W.seq (W.region (Jx.move rfl rfl ?_)))))
 (refine J.call (ch) rfl (evs_args rfl) rfl ?_; rintro _ _ ⟨rfl, rfl⟩; simp only [la1, la2, la3])
 (refine Jx.move rfl rfl (Jx.extract rfl rfl rfl ?_))
 (refine Jx.extract rfl rfl rfl ?_)
 (refine Jx.assign rfl rfl (Jx.assign rfl rfl (J.nil (N.seq (W.seq (W.region (Jx.move rfl rfl (Jx.move rfl rfl (Jx.geqI rfl rfl rfl (Jx.move rfl rfl (J.gY rfl rfl rfl ?_)))))))))))
 (refine Jx.move rfl rfl (J.gY rfl rfl rfl ?_))
 (refine Jx.move rfl rfl (J.gY rfl rfl rfl ?_))
 (refine J.call (cc) rfl (evs_args rfl) rfl ?_; rintro _ _ ⟨rfl, rfl⟩; simp only [la1, la2, la3])
 (refine Jx.pT rfl rfl rfl ?_)
 (refine Jx.assign rfl rfl (J.nil (N.seq (W.ret ?_))))
 (refine id ?_; rotate_left))
        exact N.retD (rs := [.tmp 4]) (L1 := []) rfl (.tmp rfl .nil) (List.nil_sublist _) ⟨rfl, rfl⟩
end Go.Proofs.Ytfalljmdhclgaaa
