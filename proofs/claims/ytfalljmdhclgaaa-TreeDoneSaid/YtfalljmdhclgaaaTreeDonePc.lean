/-
  Lemmas for the claim, part 3.
-/
import Derived.Test.YtfalljmdhclgaaaTreeDonePb
namespace Go.Proofs.Ytfalljmdhclgaaa
open Go Go.Sse
set_option linter.unusedVariables false
set_option linter.unusedSimpArgs false
set_option maxRecDepth 10000
def plc (T : Tr) (n : Int) : Nat := (findT T.all (sumT n)).getD 0
def shC (T : Tr) (d : Nat) (n : Int) : Bool := okC T (T.at (plc T n)) && decide ((T.at (qc T (T.at (plc T n)))).sum = (T.at d).sum)
def shI (T : Tr) (d : Nat) (inn : List Int) (i : Nat) : Bool := (List.range i).any fun a => shC T d (inn.getD a 0)
theorem shI_succ (T : Tr) (d : Nat) (inn : List Int) (i : Nat) : shI T d inn (i + 1) = (shI T d inn i || shC T d (inn.getD i 0)) := by simp [shI, List.range_succ]
theorem shown_all {T : Tr} (hT : TInv T) {inn : List Int} (hall : ∀ j, 0 < j → j < T.all.length → ∃ n ∈ inn, sumT n = (T.at j).sum) (h : doneI T T.all.length ≠ 0) : shI T (doneI T T.all.length) inn inn.length = true := by
  rcases (doneI_spec T _ (Nat.le_refl _)).2 with h0 | ⟨j, h1, h2, h3⟩
  · exact absurd h0 h
  · obtain ⟨hj0, _⟩ := okC_places hT h1 h2
    obtain ⟨n, hn, hs⟩ := hall j hj0 h1
    obtain ⟨a, ha, rfl⟩ := List.getElem_of_mem hn
    have hp : plc T inn[a] = j := by unfold plc; rw [hs, find_at hT h1]; rfl
    simp only [shI, List.any_eq_true, List.mem_range]
    refine ⟨a, ha, ?_⟩
    have e : inn.getD a 0 = inn[a] := by simp [List.getD_eq_getElem?_getD, ha]
    rw [e]
    unfold shC
    rw [hp, h2, h3]
    simp
set_option maxHeartbeats 8000000 in
theorem treeDone_ok (l : List Ac) : FnC Try.prog 4 [acL l] [] (fun r L => r = bool true ∧ L = []) := by
  have cw := tworks_ok
  have cg := grown_ok l
  have hg := grownR_is l
  have hr : ((grownR l).1.at 0).sum = sumT 0 := grown_root l _ (by omega)
  have hall : ∀ j, 0 < j → j < (grownR l).1.all.length → ∃ n ∈ (grownR l).2, sumT n = ((grownR l).1.at j).sum := grown_all l _ (by omega)
  generalize grownR l = s at *
  obtain ⟨T, inn⟩ := s
  obtain ⟨hT, hlen, hil, hth⟩ := hg
  simp only at cg hr hT hlen hil hth hall
  have s0 := sum_ok 0
  have hsh := shown_all hT hall
  have hdc := done_cert hT
  have hdl := doneI_lt hT _ (Nat.le_refl _)
  have hmax := (doneI_spec T _ (Nat.le_refl _)).1
  have cd := fun b v m => Done_ok b v m T hT (by omega)
  generalize doneI T T.all.length = d at *
  have hp := path_ok hT (d + 1) d (by omega) hdl
  have hll := lineF_len T.all (d + 1) d
  rw [show lineT T d = lineF T.all (d + 1) d from rfl] at cd
  have hz : d = 0 → lineF T.all (d + 1) d = [] := fun e => by subst e; rfl
  generalize lineF T.all (d + 1) d = ln at *
  generalize pathF T.all (d + 1) d = P at *
  obtain ⟨q1, q2, q3, q4⟩ := hp
  have hlp : ln.length = P.length := by rw [q1, List.length_map]
  have hget : ∀ k, k < P.length → ln.getD k [] = (T.at (P.getD k 0)).sum := fun k hk => by
    rw [q1]; simp [List.getD_eq_getElem?_getD, List.getElem?_map, hk]
  have hmx : ln.length ≤ maxLen := by simp only [maxLen]; omega
  refine FnC.intro Try.func4 rfl Try.ntmps4 rfl fun Z w0 hG => ?_
  focus (
 (refine W.seq (W.region (Jx.assign rfl rfl (J.nil (N.seq (W.seq (W.seq (W.region ?_))))))))
 (refine J.call (cw) rfl (evs_args rfl) rfl ?_; rintro _ _ ⟨rfl, rfl⟩; simp only [la1, la2, la3])
 (refine Jx.not rfl rfl (J.nil (N.seq (W.cF rfl ?_))))
 (refine W.skip (N.seq (W.seq (W.region (Jx.move rfl rfl ?_)))))
 (refine J.call (cg) rfl (evs_args rfl) rfl ?_; rintro _ _ ⟨b, v, m, rfl, rfl⟩; simp only [la1, la2, la3])
 (refine Jx.move rfl rfl (Jx.extract rfl rfl rfl ?_))
 (refine Jx.extract rfl rfl rfl ?_)
 (refine Jx.assign rfl rfl (Jx.assign rfl rfl (J.nil (N.seq (W.seq (W.region (Jx.move rfl rfl ?_)))))))
 (refine J.call (cd b v m) rfl (evs_args rfl) rfl ?_; rintro _ _ ⟨u, rfl, rfl⟩; simp only [la1, la2, la3]; refine J.freezeAt 0 34 rfl rfl hmx ?_)
 (refine Jx.assign rfl rfl (J.nil (N.seq (W.seq (W.region ?_)))))
 (refine J.call (s0) rfl (evs_args rfl) rfl ?_; rintro _ _ ⟨rfl, rfl⟩; simp only [la1, la2, la3])
 (refine Jx.assign rfl rfl (J.nil (N.seq (W.seq (W.seq (W.region (Jx.move rfl rfl (Jx.lenSl rfl rfl ?_))))))))
 (refine Jx.move rfl rfl (J.nil (N.seq (W.block ?_))))
 (refine id ?_; rotate_left))
  refine W.loop (α := Nat) (fun k => [(38, int (k : Int)), (37, int (ln.length : Int)), (36, ssl ln), (5, ssl ln), (6, str (T.all.getD (prev P k) tw0).sum), (3, ptr b), (4, intL inn)]) (fun _ => treeO b v m T) (fun k => k ≤ ln.length) (fun k => ln.length - k) 0 (by simp) rfl ⟨ref0 rfl, ref0 rfl, ref0 rfl, ref0 rfl, ⟨_, rfl, Sub.of_eq (by show str (sumT 0) = str (T.at 0).sum; rw [hr])⟩, ref0 rfl, ref0 rfl, trivial⟩ ?_
  intro k hk
  by_cases h2 : k < ln.length
  · have h2' : k < P.length := by omega
    have hx := q2 (P.getD k 0) (by rw [List.getD_eq_getElem?_getD, List.getElem?_eq_getElem h2']; exact List.getElem_mem _)
    obtain ⟨x0, xl, xc⟩ := hx
    have hpx := q3 k h2'
    have hpv := hT.par (P.getD k 0) x0 xl
    have hgk := hget k h2'
    have hfx := find_at hT xl
    rw [← hgk] at hfx
    have hnx : prev P (k + 1) = P.getD k 0 := by simp [prev]
    generalize P.getD k 0 = x at *
    obtain ⟨w1, w2, w3, _⟩ := hpv
    have hpt : (T.at x).par.toNat = prev P k := by omega
    rw [hpt] at w2 w3
    have xc2 := xc hdc
    simp only [Tr.at] at hpx xc2 hgk
    have c1 := Parent_yes b v m T (ln.getD k []) x (prev P k) hfx x0 hpx (by omega)
    have c4 := Certified_yes b v m T (ln.getD k []) x hfx
    rw [xc2] at c4
    focus (
 (refine W.seq (W.region (Jx.lssI rfl rfl rfl (J.nil (N.seq (W.seq (W.cT rfl ?_)))))))
 (refine W.skip (N.seq (W.seq (W.block (W.seq (W.region (Jx.indexEl rfl rfl (by assumption) rfl rfl ?_)))))))
 (refine Jx.loadPP rfl rfl ?_)
 (refine Jx.assign rfl rfl (J.nil (N.seq (W.seq (W.region (Jx.move rfl rfl (Jx.move rfl rfl ?_)))))))
 (refine J.call (c1) rfl (evs_args rfl) rfl ?_; rintro _ _ ⟨rfl, rfl⟩; simp only [la1, la2, la3])
 (refine Jx.move rfl rfl (Jx.extract rfl rfl rfl ?_))
 (refine Jx.extract rfl rfl rfl ?_)
 (refine Jx.assign rfl rfl (Jx.assign rfl rfl (J.nil (N.seq (W.seq (W.seq (W.region (Jx.move rfl rfl (Jx.neqI rfl rfl rfl (Jx.move rfl rfl (J.gY rfl rfl rfl ?_)))))))))))
 (refine Jx.move rfl rfl (J.gY rfl rfl rfl ?_))
 (refine Jx.move rfl rfl (J.gY rfl rfl rfl ?_))
 (refine Jx.neqS rfl rfl rfl (Jx.pF rfl rfl rfl ?_))
 (refine Jx.move rfl rfl (J.gY rfl rfl rfl ?_))
 (refine Jx.move rfl rfl (J.gY rfl rfl rfl ?_))
 (refine Jx.move rfl rfl (J.gY rfl rfl rfl ?_))
 (refine J.call (c4) rfl (evs_args rfl) rfl ?_; rintro _ _ ⟨rfl, rfl⟩; simp only [la1, la2, la3])
 (refine J.gY rfl rfl rfl ?_)
 (refine Jx.not rfl rfl (Jx.pF rfl rfl rfl ?_))
 (refine J.nil (N.seq (W.cF rfl ?_)))
 (refine W.skip (N.seq (W.region (Jx.move rfl rfl (Jx.assign rfl rfl (J.nil (N.seq (W.region (Jx.add64 rfl rfl (by omega) rfl ?_)))))))))
 (refine Jx.move rfl rfl (J.nil ?_))
 (refine id ?_; rotate_left))
    exact N.round (k + 1) h2 (by omega) rfl ⟨ref0 rfl, ref0 rfl, ref0 rfl, ref0 rfl, ⟨_, rfl, Sub.of_eq (by rw [hnx, hgk])⟩, ref0 rfl, ref0 rfl, trivial⟩
  · obtain rfl : k = ln.length := by omega
    have c2 := View_yes b v m T (T.at d).sum d (find_at hT hdl)
    rw [hlp, q4, ← hlp]
    simp only [Tr.at] at c2
    focus (
 (refine W.seq (W.region (Jx.lssI rfl rfl rfl (J.nil (N.seq (W.seq (W.cF rfl ?_)))))))
 (refine W.exit (N.seq (W.seq (W.region (Jx.move rfl rfl (Jx.move rfl rfl ?_))))))
 (refine J.call (c2) rfl (evs_args rfl) rfl ?_; rintro _ _ ⟨rfl, rfl⟩; simp only [la1, la2, la3])
 (refine Jx.move rfl rfl (Jx.extract rfl rfl rfl ?_))
 (refine Jx.extract rfl rfl rfl ?_)
 (refine Jx.assign rfl rfl (Jx.assign rfl rfl (J.nil (N.seq (W.seq (W.region (Jx.move rfl rfl (Jx.lenSl rfl rfl ?_))))))))
 (refine Jx.eqlI rfl rfl rfl (Jx.assign rfl rfl (J.nil (N.seq (W.seq (W.seq (W.region (Jx.move rfl rfl (Jx.lenSl rfl rfl ?_)))))))))
 (refine Jx.move rfl rfl (J.nil (N.seq (W.block ?_))))
 (refine id ?_; rotate_left))
    refine W.loop (α := Nat) (fun i => [(74, int (i : Int)), (73, int (inn.length : Int)), (72, intL inn), (13, bool (or (decide ((ln.length : Int) = 0)) (shI T d inn i))), (11, int (T.all.getD d tw0).view), (6, str (T.all.getD d tw0).sum), (3, ptr b)]) (fun _ => treeO b v m T) (fun i => i ≤ inn.length) (fun i => inn.length - i) 0 (by simp) rfl ⟨ref0 rfl, ref0 rfl, ref0 rfl, ⟨_, rfl, Sub.of_eq (by simp [shI])⟩, ref0 rfl, ref0 rfl, ref0 rfl, trivial⟩ ?_
    intro i hi
    by_cases h1 : i < inn.length
    · obtain ⟨j, hj0, hjf⟩ := hth (inn.getD i 0) (by rw [List.getD_eq_getElem?_getD, List.getElem?_eq_getElem h1]; exact List.getElem_mem _)
      obtain ⟨hjl, hjs⟩ := findT_some hjf
      have sn := sum_ok (inn.getD i 0)
      have hpl : plc T (inn.getD i 0) = j := by unfold plc; rw [hjf]; rfl
      have hs := shI_succ T d inn i
      have hsc : shC T d (inn.getD i 0) = (okC T (T.at j) && decide ((T.at (qc T (T.at j))).sum = (T.at d).sum)) := by unfold shC; rw [hpl]
      rw [hsc] at hs
      have c3 := Certified_yes b v m T (sumT (inn.getD i 0)) j hjf
      cases hc : (T.all.getD j tw0).cert with
      | false =>
        rw [hc] at c3
        have hok : okC T (T.at j) = false := by unfold okC; simp only [Tr.at]; rw [hc]; rfl
        rw [hok, Bool.false_and, Bool.or_false] at hs
        focus (
 (refine W.seq (W.region (Jx.lssI rfl rfl rfl (J.nil (N.seq (W.seq (W.cT rfl ?_)))))))
 (refine W.skip (N.seq (W.seq (W.block (W.seq (W.region (Jx.indexEl rfl rfl (by assumption) rfl rfl ?_)))))))
 (refine Jx.loadPP rfl rfl ?_)
 (refine Jx.assign rfl rfl (J.nil (N.seq (W.seq (W.seq (W.region (Jx.move rfl rfl (Jx.move rfl rfl ?_))))))))
 (refine J.call (sn) rfl (evs_args rfl) rfl ?_; rintro _ _ ⟨rfl, rfl⟩; simp only [la1, la2, la3])
 (refine J.call (c3) rfl (evs_args rfl) rfl ?_; rintro _ _ ⟨rfl, rfl⟩; simp only [la1, la2, la3])
 (refine Jx.not rfl rfl (J.nil (N.seq (W.cT rfl ?_))))
 (refine W.exit (N.seq (W.region (Jx.add64 rfl rfl (by omega) rfl ?_))))
 (refine Jx.move rfl rfl (J.nil ?_))
 (refine id ?_; rotate_left))
        exact N.round (i + 1) h1 (by omega) rfl ⟨ref0 rfl, ref0 rfl, ref0 rfl, ⟨_, rfl, Sub.of_eq (by rw [hs])⟩, ref0 rfl, ref0 rfl, ref0 rfl, trivial⟩
      | true =>
        rw [hc] at c3
        obtain ⟨p1, p2, _, _⟩ := hT.par j hj0 hjl
        obtain ⟨p, hpp⟩ : ∃ p : Nat, (T.at j).par = (p : Int) := ⟨(T.at j).par.toNat, by omega⟩
        have hpt : pc (T.at j) = p := by show (T.at j).par.toNat = p; omega
        have hpt' : (T.at j).par.toNat = p := hpt
        rw [hpt'] at p2
        have hplt : p < T.all.length := by omega
        have hvj := hT.view j hjl
        have hvp := hT.view p hplt
        have c5 := Parent_yes b v m T (sumT (inn.getD i 0)) j p hjf hj0 (by simp only [Tr.at] at hpp; exact hpp) hplt
        by_cases hp0 : p = 0
        · subst hp0
          have hok : okC T (T.at j) = false := by unfold okC; rw [hpp]; simp
          rw [hok, Bool.false_and, Bool.or_false] at hs
          have c6 := Parent_root b v m T (T.at 0).sum (find_at hT hplt)
          simp only [Tr.at] at c6
          focus (
 (refine W.seq (W.region (Jx.lssI rfl rfl rfl (J.nil (N.seq (W.seq (W.cT rfl ?_)))))))
 (refine W.skip (N.seq (W.seq (W.block (W.seq (W.region (Jx.indexEl rfl rfl (by assumption) rfl rfl ?_)))))))
 (refine Jx.loadPP rfl rfl ?_)
 (refine Jx.assign rfl rfl (J.nil (N.seq (W.seq (W.seq (W.region (Jx.move rfl rfl (Jx.move rfl rfl ?_))))))))
 (refine J.call (sn) rfl (evs_args rfl) rfl ?_; rintro _ _ ⟨rfl, rfl⟩; simp only [la1, la2, la3])
 (refine J.call (c3) rfl (evs_args rfl) rfl ?_; rintro _ _ ⟨rfl, rfl⟩; simp only [la1, la2, la3])
 (refine Jx.not rfl rfl (J.nil (N.seq (W.cF rfl ?_))))
 (refine W.skip (N.seq (W.seq (W.region (Jx.move rfl rfl (Jx.move rfl rfl ?_))))))
 (refine J.call (sn) rfl (evs_args rfl) rfl ?_; rintro _ _ ⟨rfl, rfl⟩; simp only [la1, la2, la3])
 (refine J.call (c5) rfl (evs_args rfl) rfl ?_; rintro _ _ ⟨rfl, rfl⟩; simp only [la1, la2, la3])
 (refine Jx.move rfl rfl (Jx.extract rfl rfl rfl ?_))
 (refine Jx.extract rfl rfl rfl ?_)
 (refine Jx.assign rfl rfl (Jx.assign rfl rfl (J.nil (N.seq (W.seq (W.region (Jx.move rfl rfl (Jx.move rfl rfl ?_))))))))
 (refine J.call (c6) rfl (evs_args rfl) rfl ?_; rintro _ _ ⟨rfl, rfl⟩; simp only [la1, la2, la3])
 (refine Jx.move rfl rfl (Jx.extract rfl rfl rfl ?_))
 (refine Jx.extract rfl rfl rfl ?_)
 (refine Jx.assign rfl rfl (Jx.assign rfl rfl (J.nil (N.seq (W.seq (W.seq (W.region (Jx.move rfl rfl (Jx.neqI rfl rfl rfl (Jx.move rfl rfl (J.gY rfl rfl rfl ?_)))))))))))
 (refine Jx.move rfl rfl (J.gY rfl rfl rfl ?_))
 (refine Jx.neqI rfl rfl rfl (Jx.pF rfl rfl rfl ?_))
 (refine J.nil (N.seq (W.cT rfl ?_)))
 (refine W.exit (N.seq (W.region (Jx.add64 rfl rfl (by omega) rfl ?_))))
 (refine Jx.move rfl rfl (J.nil ?_))
 (refine id ?_; rotate_left))
          exact N.round (i + 1) h1 (by omega) rfl ⟨ref0 rfl, ref0 rfl, ref0 rfl, ⟨_, rfl, Sub.of_eq (by rw [hs])⟩, ref0 rfl, ref0 rfl, ref0 rfl, trivial⟩
        · obtain ⟨r1, r2, _, _⟩ := hT.par p (by omega) hplt
          obtain ⟨q, hqq⟩ : ∃ q : Nat, (T.at p).par = (q : Int) := ⟨(T.at p).par.toNat, by omega⟩
          have hqt : qc T (T.at j) = q := by show (T.at (pc (T.at j))).par.toNat = q; rw [hpt]; omega
          have hqlt : q < T.all.length := by have : (T.at p).par.toNat = q := by omega
                                             omega
          have hvq := hT.view q hqlt
          have c6 := Parent_yes b v m T (T.at p).sum p q (find_at hT hplt) (by omega) (by simp only [Tr.at] at hqq; exact hqq) hqlt
          have v1 := View_yes b v m T (T.at q).sum q (find_at hT hqlt)
          have v2 := View_yes b v m T (T.at p).sum p (find_at hT hplt)
          have v3 := View_yes b v m T (sumT (inn.getD i 0)) j hjf
          have hok : okC T (T.at j) = threeB (T.at q).view (T.at p).view (T.at j).view := by
            unfold okC; rw [hqt, hpt, hpp, decide_eq_true (show (1 : Int) ≤ (p : Int) by omega)]
            simp only [Tr.at]; rw [hc]; rfl
          have hm := hmax j hjl
          rw [hok, hqt] at hm hs
          simp only [Tr.at] at c6 v1 v2 v3 hok hm hs hvq hvp hvj
          by_cases h3 : (T.all.getD p tw0).view - (T.all.getD q tw0).view = 1
          · by_cases h4 : (T.all.getD j tw0).view - (T.all.getD p tw0).view = 1
            · have h5 : threeB (T.all.getD q tw0).view (T.all.getD p tw0).view (T.all.getD j tw0).view = true := decide_eq_true (by omega)
              rw [h5] at hm hs
              have hle := hm rfl
              have hnl : ¬ (T.all.getD d tw0).view < (T.all.getD q tw0).view := by omega
              rw [Bool.true_and] at hs
              cases hb : or (decide ((ln.length : Int) = 0)) (shI T d inn i) with
              | false =>
                focus (
 (refine W.seq (W.region (Jx.lssI rfl rfl rfl (J.nil (N.seq (W.seq (W.cT rfl ?_)))))))
 (refine W.skip (N.seq (W.seq (W.block (W.seq (W.region (Jx.indexEl rfl rfl (by assumption) rfl rfl ?_)))))))
 (refine Jx.loadPP rfl rfl ?_)
 (refine Jx.assign rfl rfl (J.nil (N.seq (W.seq (W.seq (W.region (Jx.move rfl rfl (Jx.move rfl rfl ?_))))))))
 (refine J.call (sn) rfl (evs_args rfl) rfl ?_; rintro _ _ ⟨rfl, rfl⟩; simp only [la1, la2, la3])
 (refine J.call (c3) rfl (evs_args rfl) rfl ?_; rintro _ _ ⟨rfl, rfl⟩; simp only [la1, la2, la3])
 (refine Jx.not rfl rfl (J.nil (N.seq (W.cF rfl ?_))))
 (refine W.skip (N.seq (W.seq (W.region (Jx.move rfl rfl (Jx.move rfl rfl ?_))))))
 (refine J.call (sn) rfl (evs_args rfl) rfl ?_; rintro _ _ ⟨rfl, rfl⟩; simp only [la1, la2, la3])
 (refine J.call (c5) rfl (evs_args rfl) rfl ?_; rintro _ _ ⟨rfl, rfl⟩; simp only [la1, la2, la3])
 (refine Jx.move rfl rfl (Jx.extract rfl rfl rfl ?_))
 (refine Jx.extract rfl rfl rfl ?_)
 (refine Jx.assign rfl rfl (Jx.assign rfl rfl (J.nil (N.seq (W.seq (W.region (Jx.move rfl rfl (Jx.move rfl rfl ?_))))))))
 (refine J.call (c6) rfl (evs_args rfl) rfl ?_; rintro _ _ ⟨rfl, rfl⟩; simp only [la1, la2, la3])
 (refine Jx.move rfl rfl (Jx.extract rfl rfl rfl ?_))
 (refine Jx.extract rfl rfl rfl ?_)
 (refine Jx.assign rfl rfl (Jx.assign rfl rfl (J.nil (N.seq (W.seq (W.seq (W.region (Jx.move rfl rfl (Jx.neqI rfl rfl rfl (Jx.move rfl rfl (J.gY rfl rfl rfl ?_)))))))))))
 (refine Jx.move rfl rfl (J.gY rfl rfl rfl ?_))
 (refine Jx.neqI rfl rfl rfl (Jx.pF rfl rfl rfl ?_))
 (refine J.nil (N.seq (W.cF rfl ?_)))
 (refine W.skip (N.seq (W.seq (W.region (Jx.move rfl rfl (Jx.move rfl rfl ?_))))))
 (refine J.call (v1) rfl (evs_args rfl) rfl ?_; rintro _ _ ⟨rfl, rfl⟩; simp only [la1, la2, la3])
 (refine Jx.move rfl rfl (Jx.extract rfl rfl rfl ?_))
 (refine Jx.extract rfl rfl rfl ?_)
 (refine Jx.assign rfl rfl (Jx.assign rfl rfl (J.nil (N.seq (W.seq (W.region (Jx.move rfl rfl (Jx.move rfl rfl ?_))))))))
 (refine J.call (v2) rfl (evs_args rfl) rfl ?_; rintro _ _ ⟨rfl, rfl⟩; simp only [la1, la2, la3])
 (refine Jx.move rfl rfl (Jx.extract rfl rfl rfl ?_))
 (refine Jx.extract rfl rfl rfl ?_)
 (refine Jx.assign rfl rfl (Jx.assign rfl rfl (J.nil (N.seq (W.seq (W.region (Jx.move rfl rfl (Jx.move rfl rfl ?_))))))))
 (refine J.call (sn) rfl (evs_args rfl) rfl ?_; rintro _ _ ⟨rfl, rfl⟩; simp only [la1, la2, la3])
 (refine J.call (v3) rfl (evs_args rfl) rfl ?_; rintro _ _ ⟨rfl, rfl⟩; simp only [la1, la2, la3])
 (refine Jx.move rfl rfl (Jx.extract rfl rfl rfl ?_))
 (refine Jx.extract rfl rfl rfl ?_)
 (refine Jx.assign rfl rfl (Jx.assign rfl rfl (J.nil (N.seq (W.seq (W.seq (W.region (Jx.move rfl rfl (Jx.move rfl rfl (Jx.sub64 rfl rfl (by omega) rfl ?_))))))))))
 (refine Jx.neqI rfl rfl rfl (Jx.move rfl rfl (J.gY rfl rfl rfl ?_)))
 (refine Jx.move rfl rfl (J.gY rfl rfl rfl ?_))
 (refine Jx.move rfl rfl (J.gY rfl rfl rfl ?_))
 (refine Jx.sub64 rfl rfl (by omega) rfl ?_)
 (refine J.gY rfl rfl rfl ?_)
 (refine Jx.neqI rfl rfl rfl (Jx.pF rfl rfl rfl ?_))
 (refine J.nil (N.seq (W.cF rfl ?_)))
 (refine W.skip (N.seq (W.seq (W.seq (W.region (Jx.move rfl rfl (Jx.move rfl rfl (Jx.gtrI rfl rfl rfl (J.nil (N.seq (W.cF rfl ?_)))))))))))
 (refine W.skip (N.seq (W.region (Jx.move rfl rfl (Jx.move rfl rfl (J.gY rfl rfl rfl ?_))))))
 (refine Jx.move rfl rfl (J.gY rfl rfl rfl ?_))
 (refine Jx.move rfl rfl (J.gY rfl rfl rfl ?_))
 (refine Jx.eqlS rfl rfl rfl (Jx.pF rfl rfl rfl ?_))
 (refine Jx.assign rfl rfl (J.nil (N.seq (W.region (Jx.add64 rfl rfl (by omega) rfl ?_)))))
 (refine Jx.move rfl rfl (J.nil ?_))
 (refine id ?_; rotate_left))
                exact N.round (i + 1) h1 (by omega) rfl ⟨ref0 rfl, ref0 rfl, ref0 rfl, ⟨_, rfl, Sub.of_eq (by rw [hs, ← Bool.or_assoc, hb]; rfl)⟩, ref0 rfl, ref0 rfl, ref0 rfl, trivial⟩
              | true =>
                focus (
 (refine W.seq (W.region (Jx.lssI rfl rfl rfl (J.nil (N.seq (W.seq (W.cT rfl ?_)))))))
 (refine W.skip (N.seq (W.seq (W.block (W.seq (W.region (Jx.indexEl rfl rfl (by assumption) rfl rfl ?_)))))))
 (refine Jx.loadPP rfl rfl ?_)
 (refine Jx.assign rfl rfl (J.nil (N.seq (W.seq (W.seq (W.region (Jx.move rfl rfl (Jx.move rfl rfl ?_))))))))
 (refine J.call (sn) rfl (evs_args rfl) rfl ?_; rintro _ _ ⟨rfl, rfl⟩; simp only [la1, la2, la3])
 (refine J.call (c3) rfl (evs_args rfl) rfl ?_; rintro _ _ ⟨rfl, rfl⟩; simp only [la1, la2, la3])
 (refine Jx.not rfl rfl (J.nil (N.seq (W.cF rfl ?_))))
 (refine W.skip (N.seq (W.seq (W.region (Jx.move rfl rfl (Jx.move rfl rfl ?_))))))
 (refine J.call (sn) rfl (evs_args rfl) rfl ?_; rintro _ _ ⟨rfl, rfl⟩; simp only [la1, la2, la3])
 (refine J.call (c5) rfl (evs_args rfl) rfl ?_; rintro _ _ ⟨rfl, rfl⟩; simp only [la1, la2, la3])
 (refine Jx.move rfl rfl (Jx.extract rfl rfl rfl ?_))
 (refine Jx.extract rfl rfl rfl ?_)
 (refine Jx.assign rfl rfl (Jx.assign rfl rfl (J.nil (N.seq (W.seq (W.region (Jx.move rfl rfl (Jx.move rfl rfl ?_))))))))
 (refine J.call (c6) rfl (evs_args rfl) rfl ?_; rintro _ _ ⟨rfl, rfl⟩; simp only [la1, la2, la3])
 (refine Jx.move rfl rfl (Jx.extract rfl rfl rfl ?_))
 (refine Jx.extract rfl rfl rfl ?_)
 (refine Jx.assign rfl rfl (Jx.assign rfl rfl (J.nil (N.seq (W.seq (W.seq (W.region (Jx.move rfl rfl (Jx.neqI rfl rfl rfl (Jx.move rfl rfl (J.gY rfl rfl rfl ?_)))))))))))
 (refine Jx.move rfl rfl (J.gY rfl rfl rfl ?_))
 (refine Jx.neqI rfl rfl rfl (Jx.pF rfl rfl rfl ?_))
 (refine J.nil (N.seq (W.cF rfl ?_)))
 (refine W.skip (N.seq (W.seq (W.region (Jx.move rfl rfl (Jx.move rfl rfl ?_))))))
 (refine J.call (v1) rfl (evs_args rfl) rfl ?_; rintro _ _ ⟨rfl, rfl⟩; simp only [la1, la2, la3])
 (refine Jx.move rfl rfl (Jx.extract rfl rfl rfl ?_))
 (refine Jx.extract rfl rfl rfl ?_)
 (refine Jx.assign rfl rfl (Jx.assign rfl rfl (J.nil (N.seq (W.seq (W.region (Jx.move rfl rfl (Jx.move rfl rfl ?_))))))))
 (refine J.call (v2) rfl (evs_args rfl) rfl ?_; rintro _ _ ⟨rfl, rfl⟩; simp only [la1, la2, la3])
 (refine Jx.move rfl rfl (Jx.extract rfl rfl rfl ?_))
 (refine Jx.extract rfl rfl rfl ?_)
 (refine Jx.assign rfl rfl (Jx.assign rfl rfl (J.nil (N.seq (W.seq (W.region (Jx.move rfl rfl (Jx.move rfl rfl ?_))))))))
 (refine J.call (sn) rfl (evs_args rfl) rfl ?_; rintro _ _ ⟨rfl, rfl⟩; simp only [la1, la2, la3])
 (refine J.call (v3) rfl (evs_args rfl) rfl ?_; rintro _ _ ⟨rfl, rfl⟩; simp only [la1, la2, la3])
 (refine Jx.move rfl rfl (Jx.extract rfl rfl rfl ?_))
 (refine Jx.extract rfl rfl rfl ?_)
 (refine Jx.assign rfl rfl (Jx.assign rfl rfl (J.nil (N.seq (W.seq (W.seq (W.region (Jx.move rfl rfl (Jx.move rfl rfl (Jx.sub64 rfl rfl (by omega) rfl ?_))))))))))
 (refine Jx.neqI rfl rfl rfl (Jx.move rfl rfl (J.gY rfl rfl rfl ?_)))
 (refine Jx.move rfl rfl (J.gY rfl rfl rfl ?_))
 (refine Jx.move rfl rfl (J.gY rfl rfl rfl ?_))
 (refine Jx.sub64 rfl rfl (by omega) rfl ?_)
 (refine J.gY rfl rfl rfl ?_)
 (refine Jx.neqI rfl rfl rfl (Jx.pF rfl rfl rfl ?_))
 (refine J.nil (N.seq (W.cF rfl ?_)))
 (refine W.skip (N.seq (W.seq (W.seq (W.region (Jx.move rfl rfl (Jx.move rfl rfl (Jx.gtrI rfl rfl rfl (J.nil (N.seq (W.cF rfl ?_)))))))))))
 (refine W.skip (N.seq (W.region (Jx.move rfl rfl (Jx.move rfl rfl (J.gN rfl rfl rfl rfl ?_))))))
 (refine J.gN rfl rfl rfl rfl ?_)
 (refine J.gN rfl rfl rfl rfl ?_)
 (refine Jx.pT rfl rfl rfl ?_)
 (refine Jx.assign rfl rfl (J.nil (N.seq (W.region (Jx.add64 rfl rfl (by omega) rfl ?_)))))
 (refine Jx.move rfl rfl (J.nil ?_))
 (refine id ?_; rotate_left))
                exact N.round (i + 1) h1 (by omega) rfl ⟨ref0 rfl, ref0 rfl, ref0 rfl, ⟨_, rfl, Sub.of_eq (by rw [hs, ← Bool.or_assoc, hb]; rfl)⟩, ref0 rfl, ref0 rfl, ref0 rfl, trivial⟩
            · have h5 : threeB (T.all.getD q tw0).view (T.all.getD p tw0).view (T.all.getD j tw0).view = false := decide_eq_false (by omega)
              rw [h5, Bool.false_and, Bool.or_false] at hs
              focus (
 (refine W.seq (W.region (Jx.lssI rfl rfl rfl (J.nil (N.seq (W.seq (W.cT rfl ?_)))))))
 (refine W.skip (N.seq (W.seq (W.block (W.seq (W.region (Jx.indexEl rfl rfl (by assumption) rfl rfl ?_)))))))
 (refine Jx.loadPP rfl rfl ?_)
 (refine Jx.assign rfl rfl (J.nil (N.seq (W.seq (W.seq (W.region (Jx.move rfl rfl (Jx.move rfl rfl ?_))))))))
 (refine J.call (sn) rfl (evs_args rfl) rfl ?_; rintro _ _ ⟨rfl, rfl⟩; simp only [la1, la2, la3])
 (refine J.call (c3) rfl (evs_args rfl) rfl ?_; rintro _ _ ⟨rfl, rfl⟩; simp only [la1, la2, la3])
 (refine Jx.not rfl rfl (J.nil (N.seq (W.cF rfl ?_))))
 (refine W.skip (N.seq (W.seq (W.region (Jx.move rfl rfl (Jx.move rfl rfl ?_))))))
 (refine J.call (sn) rfl (evs_args rfl) rfl ?_; rintro _ _ ⟨rfl, rfl⟩; simp only [la1, la2, la3])
 (refine J.call (c5) rfl (evs_args rfl) rfl ?_; rintro _ _ ⟨rfl, rfl⟩; simp only [la1, la2, la3])
 (refine Jx.move rfl rfl (Jx.extract rfl rfl rfl ?_))
 (refine Jx.extract rfl rfl rfl ?_)
 (refine Jx.assign rfl rfl (Jx.assign rfl rfl (J.nil (N.seq (W.seq (W.region (Jx.move rfl rfl (Jx.move rfl rfl ?_))))))))
 (refine J.call (c6) rfl (evs_args rfl) rfl ?_; rintro _ _ ⟨rfl, rfl⟩; simp only [la1, la2, la3])
 (refine Jx.move rfl rfl (Jx.extract rfl rfl rfl ?_))
 (refine Jx.extract rfl rfl rfl ?_)
 (refine Jx.assign rfl rfl (Jx.assign rfl rfl (J.nil (N.seq (W.seq (W.seq (W.region (Jx.move rfl rfl (Jx.neqI rfl rfl rfl (Jx.move rfl rfl (J.gY rfl rfl rfl ?_)))))))))))
 (refine Jx.move rfl rfl (J.gY rfl rfl rfl ?_))
 (refine Jx.neqI rfl rfl rfl (Jx.pF rfl rfl rfl ?_))
 (refine J.nil (N.seq (W.cF rfl ?_)))
 (refine W.skip (N.seq (W.seq (W.region (Jx.move rfl rfl (Jx.move rfl rfl ?_))))))
 (refine J.call (v1) rfl (evs_args rfl) rfl ?_; rintro _ _ ⟨rfl, rfl⟩; simp only [la1, la2, la3])
 (refine Jx.move rfl rfl (Jx.extract rfl rfl rfl ?_))
 (refine Jx.extract rfl rfl rfl ?_)
 (refine Jx.assign rfl rfl (Jx.assign rfl rfl (J.nil (N.seq (W.seq (W.region (Jx.move rfl rfl (Jx.move rfl rfl ?_))))))))
 (refine J.call (v2) rfl (evs_args rfl) rfl ?_; rintro _ _ ⟨rfl, rfl⟩; simp only [la1, la2, la3])
 (refine Jx.move rfl rfl (Jx.extract rfl rfl rfl ?_))
 (refine Jx.extract rfl rfl rfl ?_)
 (refine Jx.assign rfl rfl (Jx.assign rfl rfl (J.nil (N.seq (W.seq (W.region (Jx.move rfl rfl (Jx.move rfl rfl ?_))))))))
 (refine J.call (sn) rfl (evs_args rfl) rfl ?_; rintro _ _ ⟨rfl, rfl⟩; simp only [la1, la2, la3])
 (refine J.call (v3) rfl (evs_args rfl) rfl ?_; rintro _ _ ⟨rfl, rfl⟩; simp only [la1, la2, la3])
 (refine Jx.move rfl rfl (Jx.extract rfl rfl rfl ?_))
 (refine Jx.extract rfl rfl rfl ?_)
 (refine Jx.assign rfl rfl (Jx.assign rfl rfl (J.nil (N.seq (W.seq (W.seq (W.region (Jx.move rfl rfl (Jx.move rfl rfl (Jx.sub64 rfl rfl (by omega) rfl ?_))))))))))
 (refine Jx.neqI rfl rfl rfl (Jx.move rfl rfl (J.gY rfl rfl rfl ?_)))
 (refine Jx.move rfl rfl (J.gY rfl rfl rfl ?_))
 (refine Jx.move rfl rfl (J.gY rfl rfl rfl ?_))
 (refine Jx.sub64 rfl rfl (by omega) rfl ?_)
 (refine J.gY rfl rfl rfl ?_)
 (refine Jx.neqI rfl rfl rfl (Jx.pF rfl rfl rfl ?_))
 (refine J.nil (N.seq (W.cT rfl ?_)))
 (refine W.exit (N.seq (W.region (Jx.add64 rfl rfl (by omega) rfl ?_))))
 (refine Jx.move rfl rfl (J.nil ?_))
 (refine id ?_; rotate_left))
              exact N.round (i + 1) h1 (by omega) rfl ⟨ref0 rfl, ref0 rfl, ref0 rfl, ⟨_, rfl, Sub.of_eq (by rw [hs])⟩, ref0 rfl, ref0 rfl, ref0 rfl, trivial⟩
          · have h5 : threeB (T.all.getD q tw0).view (T.all.getD p tw0).view (T.all.getD j tw0).view = false := decide_eq_false (by omega)
            rw [h5, Bool.false_and, Bool.or_false] at hs
            focus (
 (refine W.seq (W.region (Jx.lssI rfl rfl rfl (J.nil (N.seq (W.seq (W.cT rfl ?_)))))))
 (refine W.skip (N.seq (W.seq (W.block (W.seq (W.region (Jx.indexEl rfl rfl (by assumption) rfl rfl ?_)))))))
 (refine Jx.loadPP rfl rfl ?_)
 (refine Jx.assign rfl rfl (J.nil (N.seq (W.seq (W.seq (W.region (Jx.move rfl rfl (Jx.move rfl rfl ?_))))))))
 (refine J.call (sn) rfl (evs_args rfl) rfl ?_; rintro _ _ ⟨rfl, rfl⟩; simp only [la1, la2, la3])
 (refine J.call (c3) rfl (evs_args rfl) rfl ?_; rintro _ _ ⟨rfl, rfl⟩; simp only [la1, la2, la3])
 (refine Jx.not rfl rfl (J.nil (N.seq (W.cF rfl ?_))))
 (refine W.skip (N.seq (W.seq (W.region (Jx.move rfl rfl (Jx.move rfl rfl ?_))))))
 (refine J.call (sn) rfl (evs_args rfl) rfl ?_; rintro _ _ ⟨rfl, rfl⟩; simp only [la1, la2, la3])
 (refine J.call (c5) rfl (evs_args rfl) rfl ?_; rintro _ _ ⟨rfl, rfl⟩; simp only [la1, la2, la3])
 (refine Jx.move rfl rfl (Jx.extract rfl rfl rfl ?_))
 (refine Jx.extract rfl rfl rfl ?_)
 (refine Jx.assign rfl rfl (Jx.assign rfl rfl (J.nil (N.seq (W.seq (W.region (Jx.move rfl rfl (Jx.move rfl rfl ?_))))))))
 (refine J.call (c6) rfl (evs_args rfl) rfl ?_; rintro _ _ ⟨rfl, rfl⟩; simp only [la1, la2, la3])
 (refine Jx.move rfl rfl (Jx.extract rfl rfl rfl ?_))
 (refine Jx.extract rfl rfl rfl ?_)
 (refine Jx.assign rfl rfl (Jx.assign rfl rfl (J.nil (N.seq (W.seq (W.seq (W.region (Jx.move rfl rfl (Jx.neqI rfl rfl rfl (Jx.move rfl rfl (J.gY rfl rfl rfl ?_)))))))))))
 (refine Jx.move rfl rfl (J.gY rfl rfl rfl ?_))
 (refine Jx.neqI rfl rfl rfl (Jx.pF rfl rfl rfl ?_))
 (refine J.nil (N.seq (W.cF rfl ?_)))
 (refine W.skip (N.seq (W.seq (W.region (Jx.move rfl rfl (Jx.move rfl rfl ?_))))))
 (refine J.call (v1) rfl (evs_args rfl) rfl ?_; rintro _ _ ⟨rfl, rfl⟩; simp only [la1, la2, la3])
 (refine Jx.move rfl rfl (Jx.extract rfl rfl rfl ?_))
 (refine Jx.extract rfl rfl rfl ?_)
 (refine Jx.assign rfl rfl (Jx.assign rfl rfl (J.nil (N.seq (W.seq (W.region (Jx.move rfl rfl (Jx.move rfl rfl ?_))))))))
 (refine J.call (v2) rfl (evs_args rfl) rfl ?_; rintro _ _ ⟨rfl, rfl⟩; simp only [la1, la2, la3])
 (refine Jx.move rfl rfl (Jx.extract rfl rfl rfl ?_))
 (refine Jx.extract rfl rfl rfl ?_)
 (refine Jx.assign rfl rfl (Jx.assign rfl rfl (J.nil (N.seq (W.seq (W.region (Jx.move rfl rfl (Jx.move rfl rfl ?_))))))))
 (refine J.call (sn) rfl (evs_args rfl) rfl ?_; rintro _ _ ⟨rfl, rfl⟩; simp only [la1, la2, la3])
 (refine J.call (v3) rfl (evs_args rfl) rfl ?_; rintro _ _ ⟨rfl, rfl⟩; simp only [la1, la2, la3])
 (refine Jx.move rfl rfl (Jx.extract rfl rfl rfl ?_))
 (refine Jx.extract rfl rfl rfl ?_)
 (refine Jx.assign rfl rfl (Jx.assign rfl rfl (J.nil (N.seq (W.seq (W.seq (W.region (Jx.move rfl rfl (Jx.move rfl rfl (Jx.sub64 rfl rfl (by omega) rfl ?_))))))))))
 (refine Jx.neqI rfl rfl rfl (Jx.move rfl rfl (J.gN rfl rfl rfl rfl ?_)))
 (refine J.gN rfl rfl rfl rfl ?_)
 (refine J.gN rfl rfl rfl rfl ?_)
 (refine J.gN rfl rfl rfl rfl ?_)
 (refine Jx.pT rfl rfl rfl ?_)
 (refine J.nil (N.seq (W.cT rfl ?_)))
 (refine W.exit (N.seq (W.region (Jx.add64 rfl rfl (by omega) rfl ?_))))
 (refine Jx.move rfl rfl (J.nil ?_))
 (refine id ?_; rotate_left))
            exact N.round (i + 1) h1 (by omega) rfl ⟨ref0 rfl, ref0 rfl, ref0 rfl, ⟨_, rfl, Sub.of_eq (by rw [hs])⟩, ref0 rfl, ref0 rfl, ref0 rfl, trivial⟩
    · obtain rfl : i = inn.length := by omega
      have hfin : or (decide ((ln.length : Int) = 0)) (shI T d inn inn.length) = true := by
        by_cases hd0 : d = 0
        · rw [hz hd0]; rfl
        · rw [hsh hd0]; simp
      rw [hfin]
      focus (
 (refine W.seq (W.region (Jx.lssI rfl rfl rfl (J.nil (N.seq (W.seq (W.cF rfl ?_)))))))
 (refine W.exit (N.seq (W.seq (W.region (Jx.move rfl rfl (Jx.assign rfl rfl (J.nil (N.seq (W.ret ?_)))))))))
 (refine id ?_; rotate_left))
      exact N.retD (rs := [.tmp 2]) (L1 := []) rfl (.tmp rfl .nil) (List.nil_sublist _) ⟨rfl, rfl⟩
end Go.Proofs.Ytfalljmdhclgaaa
