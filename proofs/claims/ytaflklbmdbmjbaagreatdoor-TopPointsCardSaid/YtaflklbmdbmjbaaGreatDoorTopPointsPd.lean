/-
  Lemmas for the claim, part 4.
-/
import Derived.Test.YtaflklbmdbmjbaaGreatDoorTopPointsPc
namespace Go.Proofs.YtaflklbmdbmjbaaGreatDoor
open Go Go.Sse
set_option linter.unusedVariables false
set_option linter.unusedSimpArgs false
set_option maxRecDepth 10000
abbrev tNd : Nat := 76
def ndC (n : Nd) : List SV := int n.kind :: str n.path :: str n.value :: n.kids.map str
abbrev rowT (v : Value) (l : List Bs) : Own := .row v 9 1 l.length (elOf encS [] l)
theorem kids_cells {n : Nd} (h : n.kids.length = 16) : ((ndC n).drop 3).take 16 = n.kids.map str := by
  show (n.kids.map str).take 16 = _
  rw [List.take_of_length_le (by rw [List.length_map]; omega)]
def kidsB (n : Nd) : List Bs := n.kids.filter (fun k => decide (k ≠ []))
set_option maxHeartbeats 4000000 in
theorem nkids_ok (n : Nd) (hn : n.kids.length = 16) : FnC Tryz.prog 78 [.agg (ndC n)] [] (fun r L => ∃ v, v.oneCell' = true ∧ r = .val v ∧ L = [rowT v (kidsB n)]) := by
  have hk3 := kids_cells hn
  have hkl : (n.kids.map str).length = 16 := by rw [List.length_map]; exact hn
  refine FnC.intro Tryz.func78 rfl Tryz.ntmps78 rfl fun Z w0 hG => ?_
  refine W.rowNil 9 1 (elOf encS [] []) ?_
  focus (
 (refine W.seq (W.region ?_))
 (refine J.boxAg rfl rfl ?_; intro b')
 (refine Jx.assign rfl rfl (J.nil (N.seq (W.seq (W.region (Jx.assign rfl rfl (J.nil (N.seq (W.seq (W.seq (W.region (Jx.fieldAddr rfl rfl ?_))))))))))))
 (refine Jx.loadAg rfl 0 rfl hk3 hkl rfl ?_)
 (refine Jx.move rfl rfl (J.nil (N.seq (W.block ?_))))
 (refine id ?_; rotate_left))
  refine W.drop (List.sublist_cons_self _ _) ?_
  refine W.loop (α := Nat × Value × List Bs) (fun x => [(8, int (x.1 : Int)), (7, .agg (n.kids.map str)), (3, .val x.2.1)]) (fun x => [rowT x.2.1 x.2.2]) (fun x => x.1 ≤ 16 ∧ x.2.2 = (n.kids.take x.1).filter (fun k => decide (k ≠ [])) ∧ x.2.1.oneCell' = true) (fun x => 16 - x.1) (0, .slice none 0 0, []) ⟨Nat.zero_le _, rfl, rfl⟩ rfl ⟨ref0 rfl, ref0 rfl, ref0 rfl, trivial⟩ ?_
  rintro ⟨i, v, out⟩ ⟨hi, ho, hv⟩
  simp only at hi ho hv ⊢
  have hol : out.length ≤ i := by rw [ho]; refine Nat.le_trans (List.length_filter_le _ _) ?_; rw [List.length_take]; omega
  by_cases h1 : i < 16
  · have h1' : (i : Int) < 16 := by omega
    have e1 : (i : Int) + 1 = ((i + 1 : Nat) : Int) := by omega
    have h1n : i < n.kids.length := by omega
    have htk : n.kids.take (i + 1) = n.kids.take i ++ [n.kids.getD i []] := by rw [List.take_add_one, List.getElem?_eq_getElem h1n, List.getD_eq_getElem?_getD, List.getElem?_eq_getElem h1n]; rfl
    have ho2 : (n.kids.take (i + 1)).filter (fun k => decide (k ≠ [])) = out ++ [n.kids.getD i []].filter (fun k => decide (k ≠ [])) := by rw [htk, List.filter_append, ← ho]
    by_cases h2 : n.kids.getD i [] = []
    · have h2n : ¬ (n.kids.getD i [] ≠ []) := fun h => h h2
      rw [h2] at ho2
      have ho3 : (n.kids.take (i + 1)).filter (fun k => decide (k ≠ [])) = out := by rw [ho2]; simp
      focus (
 (refine W.seq (W.region (Jx.lssI rfl rfl rfl (J.nil (N.seq (W.seq (W.cT rfl ?_)))))))
 (refine W.skip (N.seq (W.seq (W.block (W.seq (W.region ?_))))))
 (refine Jx.indexAg str [] i rfl rfl rfl h1 h1n rfl ?_)
 (refine Jx.assign rfl rfl (J.nil (N.seq (W.seq (W.region (Jx.move rfl rfl (Jx.neqS rfl rfl rfl (J.nil (N.seq (W.cF rfl ?_))))))))))
 (refine W.skip (N.seq (W.region ?_)))
 (refine Jx.add64 rfl rfl (by omega) rfl ?_; rw [e1])
 (refine Jx.move rfl rfl (J.nil ?_))
 (refine id ?_; rotate_left))
      exact N.round (i + 1, v, out) ⟨h1, ho3.symm, hv⟩ (by simp only; omega) rfl ⟨ref0 rfl, ref0 rfl, ref0 rfl, trivial⟩
    · rw [List.filter_cons_of_pos (by simpa using h2), List.filter_nil] at ho2
      have hmx : out.length + [n.kids.getD i []].length ≤ maxLen ∧ (out.length + [n.kids.getD i []].length) * 16 ≤ 140737488355328 := by simp only [maxLen, List.length_cons, List.length_nil]; omega
      focus (
 (refine W.seq (W.region (Jx.lssI rfl rfl rfl (J.nil (N.seq (W.seq (W.cT rfl ?_)))))))
 (refine W.skip (N.seq (W.seq (W.block (W.seq (W.region ?_))))))
 (refine Jx.indexAg str [] i rfl rfl rfl h1 h1n rfl ?_)
 (refine Jx.assign rfl rfl (J.nil (N.seq (W.seq (W.region (Jx.move rfl rfl (Jx.neqS rfl rfl rfl (J.nil (N.seq (W.cT rfl ?_))))))))))
 (refine W.region (Jx.move rfl rfl (Jx.move rfl rfl ?_)))
 (refine J.qs (Qs.buildTexts [n.kids.getD i []] rfl rfl rfl (by decide) (by decide)) rfl ?_)
 (refine J.appendAt (enc := encS) (l := out) (l2 := [n.kids.getD i []]) 0 rfl rfl (SrcOK.sl rfl) rfl rfl hmx rfl ?_; intro v' hv')
 (refine Jx.assign rfl rfl (J.nil (N.seq (W.region ?_))))
 (refine Jx.add64 rfl rfl (by omega) rfl ?_; rw [e1])
 (refine Jx.move rfl rfl (J.nil ?_))
 (refine id ?_; rotate_left))
      exact N.round (i + 1, v', out ++ [n.kids.getD i []]) ⟨h1, ho2.symm, hv'⟩ (by simp only; omega) rfl ⟨ref0 rfl, ref0 rfl, ref0 rfl, trivial⟩
  · have h1' : ¬ (i : Int) < 16 := by omega
    rw [List.take_of_length_le (by omega)] at ho
    subst ho
    focus (
 (refine W.seq (W.region (Jx.lssI rfl rfl rfl (J.nil (N.seq (W.seq (W.cF rfl ?_)))))))
 (refine W.exit (N.seq (W.seq (W.region (Jx.move rfl rfl (Jx.assign rfl rfl (J.nil (N.seq (W.ret ?_)))))))))
 (refine id ?_; rotate_left))
    exact N.ret (rs := [.tmp 2]) rfl (.tmp rfl .nil) ⟨v, hv, rfl, rfl⟩
def sumsB (l : List Bs) : Bool := l.all (fun s => decide (s.length = 32))
set_option maxHeartbeats 4000000 in
theorem sums_ok (l : List Bs) (hl : l.length ≤ 1000000) : FnC Tryz.prog 80 [ssl l] [] (fun r L => r = Sse.bool (sumsB l) ∧ L = []) := by
  refine FnC.intro Tryz.func80 rfl Tryz.ntmps80 rfl fun Z w0 hG => ?_
  focus (
 (refine W.seq (W.region (Jx.assign rfl rfl (J.nil (N.seq (W.seq (W.seq (W.region (Jx.move rfl rfl (Jx.lenSl rfl rfl ?_))))))))))
 (refine Jx.move rfl rfl (J.nil (N.seq (W.block ?_))))
 (refine id ?_; rotate_left))
  refine W.loop (α := Nat) (fun i => [(7, int (i : Int)), (6, int (l.length : Int)), (5, ssl l)]) (fun _ => []) (fun i => i ≤ l.length ∧ sumsB (l.take i) = true) (fun i => l.length - i) 0 ⟨Nat.zero_le _, rfl⟩ rfl ⟨ref0 rfl, ref0 rfl, ref0 rfl, trivial⟩ ?_
  rintro i ⟨hi, hc⟩
  by_cases h1 : i < l.length
  · have h1' : (i : Int) < (l.length : Int) := by omega
    have e1 : (i : Int) + 1 = ((i + 1 : Nat) : Int) := by omega
    by_cases h2 : (l.getD i []).length = 32
    · have h2' : ((l.getD i []).length : Int) = 32 := by omega
      have h2n : ¬ (((l.getD i []).length : Int) ≠ 32) := fun h => h h2'
      focus (
 (refine W.seq (W.region (Jx.lssI rfl rfl rfl (J.nil (N.seq (W.seq (W.cT rfl ?_)))))))
 (refine W.skip (N.seq (W.seq (W.block (W.seq (W.region (Jx.indexEl rfl rfl (by assumption) rfl rfl ?_)))))))
 (refine Jx.loadPP rfl rfl ?_)
 (refine Jx.assign rfl rfl (J.nil (N.seq (W.seq (W.region (Jx.move rfl rfl (Jx.lenS rfl rfl ?_)))))))
 (refine Jx.neqI rfl rfl rfl (J.nil (N.seq (W.cF rfl ?_))))
 (refine W.skip (N.seq (W.region ?_)))
 (refine Jx.add64 rfl rfl (by omega) rfl ?_; rw [e1])
 (refine Jx.move rfl rfl (J.nil ?_))
 (refine id ?_; rotate_left))
      refine N.round (i + 1) ⟨h1, ?_⟩ (by omega) rfl ⟨ref0 rfl, ref0 rfl, ref0 rfl, trivial⟩
      have htk : l.take (i + 1) = l.take i ++ [l.getD i []] := by rw [List.take_add_one, List.getElem?_eq_getElem h1, List.getD_eq_getElem?_getD, List.getElem?_eq_getElem h1]; rfl
      rw [htk, sumsB, List.all_append]
      simp only [sumsB] at hc
      rw [hc]
      simpa using h2
    · have h2' : ¬ ((l.getD i []).length : Int) = 32 := by omega
      have hf : sumsB l = false := List.all_eq_false.2 ⟨l[i], List.getElem_mem h1, by rw [List.getD_eq_getElem?_getD, List.getElem?_eq_getElem h1] at h2; simpa using h2⟩
      rw [hf]
      focus (
 (refine W.seq (W.region (Jx.lssI rfl rfl rfl (J.nil (N.seq (W.seq (W.cT rfl ?_)))))))
 (refine W.skip (N.seq (W.seq (W.block (W.seq (W.region (Jx.indexEl rfl rfl (by assumption) rfl rfl ?_)))))))
 (refine Jx.loadPP rfl rfl ?_)
 (refine Jx.assign rfl rfl (J.nil (N.seq (W.seq (W.region (Jx.move rfl rfl (Jx.lenS rfl rfl ?_)))))))
 (refine Jx.neqI rfl rfl rfl (J.nil (N.seq (W.cT rfl ?_))))
 (refine W.seq (W.region (Jx.assign rfl rfl (J.nil (N.seq (W.ret (N.noGotoRet (N.noGotoRet (N.noGotoRet (N.noGotoRet (N.noGotoRet ?_)))))))))))
 (refine id ?_; rotate_left))
      exact N.ret (rs := [.tmp 2]) rfl (.tmp rfl .nil) ⟨rfl, rfl⟩
  · have h1' : ¬ (i : Int) < (l.length : Int) := by omega
    rw [List.take_of_length_le (by omega)] at hc
    rw [hc]
    focus (
 (refine W.seq (W.region (Jx.lssI rfl rfl rfl (J.nil (N.seq (W.seq (W.cF rfl ?_)))))))
 (refine W.exit (N.seq (W.seq (W.region (Jx.assign rfl rfl (J.nil (N.seq (W.ret ?_))))))))
 (refine id ?_; rotate_left))
    exact N.ret (rs := [.tmp 2]) rfl (.tmp rfl .nil) ⟨rfl, rfl⟩
def pathB (p : Bs) (least : Int) : Bool := (fitN p && decide (least ≤ (p.length : Int))) && decide ((p.length : Int) ≤ 16)
theorem path_ok (p : Bs) (least : Int) (hp : p.length ≤ 1000000) : FnC Tryz.prog 79 [str p, int least] [] (fun r L => r = Sse.bool (pathB p least) ∧ L = []) := by
  have cf := fit_ok p hp
  refine FnC.intro Tryz.func79 rfl Tryz.ntmps79 rfl fun Z w0 hG => ?_
  focus (
 (refine W.seq (W.region (Jx.assign rfl rfl (J.nil (N.seq (W.seq (W.region (Jx.move rfl rfl ?_))))))))
 (refine J.call (cf) rfl (evs_args rfl) rfl ?_; rintro _ _ ⟨rfl, rfl⟩; simp only [la1, la2, la3])
 (refine Jx.move rfl rfl ?_)
 (refine' J.guardAnd rfl rfl rfl rfl rfl rfl rfl rfl (fun _ => ?_) ?_; rotate_left)
 (refine J.gY rfl rfl rfl ?_)
 (refine Jx.move rfl rfl (J.gY rfl rfl rfl ?_))
 (refine Jx.lenS rfl rfl ?_)
 (refine J.gY rfl rfl rfl ?_)
 (refine Jx.move rfl rfl (J.gY rfl rfl rfl ?_))
 (refine Jx.geqI rfl rfl rfl (J.nil ?_))
 (refine N.joinedN rfl rfl rfl)
 (refine Jx.move rfl rfl ?_)
 (refine' J.guardAnd rfl rfl rfl rfl rfl rfl rfl rfl (fun _ => ?_) ?_; rotate_left)
 (refine J.gY rfl rfl rfl ?_)
 (refine Jx.move rfl rfl (J.gY rfl rfl rfl ?_))
 (refine Jx.lenS rfl rfl ?_)
 (refine J.gY rfl rfl rfl ?_)
 (refine Jx.leqI rfl rfl rfl (J.nil ?_))
 (refine N.joinedN rfl rfl rfl)
 (refine Jx.assign rfl rfl (J.nil (N.seq (W.ret ?_))))
 (refine id ?_; rotate_left))
  exact N.ret (rs := [.tmp 4]) rfl (.tmp rfl .nil) ⟨rfl, rfl⟩
end Go.Proofs.YtaflklbmdbmjbaaGreatDoor
namespace Go.Proofs.YtaflklbmdbmjbaaGreatDoor
open Go Go.Sse
set_option linter.unusedVariables false
set_option linter.unusedSimpArgs false
set_option maxRecDepth 10000
set_option maxHeartbeats 4000000 in
theorem sumsO_ok (b T o : Nat) (cs : List SV) (k : Bs) (hc : cs[o]? = some (str k)) : FnC Tryz.prog 80 [.val (.slice (some ⟨b, o, none⟩) 1 16)] [.obj b T cs] (fun r L => r = Sse.bool (sumsB [k]) ∧ L = [.obj b T cs]) := by
  have hc' : cs[o + 0 * 1]? = some (str k) := by simpa using hc
  have hs : sumsB [k] = decide (k.length = 32) := by simp [sumsB]
  rw [hs]
  refine FnC.intro Tryz.func80 rfl Tryz.ntmps80 rfl fun Z w0 hG => ?_
  focus (
 (refine W.seq (W.region (Jx.assign rfl rfl (J.nil (N.seq (W.seq (W.seq (W.region (Jx.move rfl rfl (Jx.lenV rfl rfl ?_))))))))))
 (refine Jx.move rfl rfl (J.nil (N.seq (W.block ?_))))
 (refine id ?_; rotate_left))
  refine W.loop (α := Nat) (fun i => [(7, int (i : Int)), (6, int 1), (5, .val (.slice (some ⟨b, o, none⟩) 1 16))]) (fun _ => [.obj b T cs]) (fun i => i ≤ 1 ∧ (i = 1 → k.length = 32)) (fun i => 1 - i) 0 ⟨by decide, by simp⟩ rfl ⟨ref0 rfl, ref0 rfl, ref0 rfl, trivial⟩ ?_
  rintro i ⟨hi, hk⟩
  by_cases h1 : i = 0
  · subst h1
    by_cases h2 : k.length = 32
    · have h2' : ¬ ((k.length : Int) ≠ 32) := by omega
      focus (
 (refine W.seq (W.region (Jx.lssI rfl rfl rfl (J.nil (N.seq (W.seq (W.cT rfl ?_)))))))
 (refine W.skip (N.seq (W.seq (W.block (W.seq (W.region (Jx.indexRaw 0 rfl rfl rfl (by decide) rfl ?_)))))))
 (refine Jx.load rfl 0 rfl hc' rfl ?_)
 (refine Jx.assign rfl rfl (J.nil (N.seq (W.seq (W.region (Jx.move rfl rfl (Jx.lenS rfl rfl ?_)))))))
 (refine Jx.neqI rfl rfl rfl (J.nil (N.seq (W.cF rfl ?_))))
 (refine W.skip (N.seq (W.region (Jx.add64 rfl rfl (by omega) rfl ?_))))
 (refine Jx.move rfl rfl (J.nil ?_))
 (refine id ?_; rotate_left))
      exact N.round 1 ⟨by decide, fun _ => h2⟩ (by decide) rfl ⟨ref0 rfl, ref0 rfl, ref0 rfl, trivial⟩
    · have h2' : (k.length : Int) ≠ 32 := by omega
      rw [decide_eq_false h2]
      focus (
 (refine W.seq (W.region (Jx.lssI rfl rfl rfl (J.nil (N.seq (W.seq (W.cT rfl ?_)))))))
 (refine W.skip (N.seq (W.seq (W.block (W.seq (W.region (Jx.indexRaw 0 rfl rfl rfl (by decide) rfl ?_)))))))
 (refine Jx.load rfl 0 rfl hc' rfl ?_)
 (refine Jx.assign rfl rfl (J.nil (N.seq (W.seq (W.region (Jx.move rfl rfl (Jx.lenS rfl rfl ?_)))))))
 (refine Jx.neqI rfl rfl rfl (J.nil (N.seq (W.cT rfl ?_))))
 (refine W.seq (W.region (Jx.assign rfl rfl (J.nil (N.seq (W.ret (N.noGotoRet (N.noGotoRet (N.noGotoRet (N.noGotoRet (N.noGotoRet ?_)))))))))))
 (refine id ?_; rotate_left))
      exact N.ret (rs := [.tmp 2]) rfl (.tmp rfl .nil) ⟨rfl, rfl⟩
  · have h1' : i = 1 := by omega
    subst h1'
    rw [decide_eq_true (hk rfl)]
    focus (
 (refine W.seq (W.region (Jx.lssI rfl rfl rfl (J.nil (N.seq (W.seq (W.cF rfl ?_)))))))
 (refine W.exit (N.seq (W.seq (W.region (Jx.assign rfl rfl (J.nil (N.seq (W.ret ?_))))))))
 (refine id ?_; rotate_left))
    exact N.ret (rs := [.tmp 2]) rfl (.tmp rfl .nil) ⟨rfl, rfl⟩
abbrev manyN (n : Nd) : Int := ((kidsB n).length : Int) + (if n.value = [] then 0 else 1)
def fineNd (n : Nd) : Bool :=
  if n.kind = 1 then (((decide (n.kids = List.replicate 16 []) && pathB n.path 0) && decide (n.value ≠ [])) && decide ((n.value.length : Int) ≤ 32))
  else if n.kind = 2 then (((decide (n.kids = n.kid 0 :: List.replicate 15 []) && sumsB [n.kid 0]) && pathB n.path 1) && decide (n.value = []))
  else if n.kind = 3 then (((decide (n.path = []) && sumsB (kidsB n)) && decide (2 ≤ manyN n)) && decide ((n.value.length : Int) ≤ 32))
  else false
theorem sv_inj {a b : Bs} (h : sv a = sv b) : a = b := by
  unfold sv at h
  simpa using h
theorem svs_eq : ∀ (l m : List Bs), l = m ↔ l.map sv = m.map sv
  | [], [] => by simp
  | [], b :: m => by simp
  | a :: l, [] => by simp
  | a :: l, b :: m => by
    simp only [List.map_cons, List.cons.injEq, svs_eq l m]
    constructor
    · rintro ⟨rfl, h⟩; exact ⟨rfl, h⟩
    · rintro ⟨h, h2⟩; exact ⟨sv_inj h, h2⟩
theorem kids16 : ∀ {l : List Bs}, l.length = 16 → ∃ k0 k1 k2 k3 k4 k5 k6 k7 k8 k9 k10 k11 k12 k13 k14 k15, l = [k0, k1, k2, k3, k4, k5, k6, k7, k8, k9, k10, k11, k12, k13, k14, k15]
  | [k0, k1, k2, k3, k4, k5, k6, k7, k8, k9, k10, k11, k12, k13, k14, k15], _ => ⟨k0, k1, k2, k3, k4, k5, k6, k7, k8, k9, k10, k11, k12, k13, k14, k15, rfl⟩
set_option maxHeartbeats 16000000 in
theorem ncheck_ok (n : Nd) (hn : n.kids.length = 16) (hp : n.path.length ≤ 1000000) : FnC Tryz.prog 51 [.agg (ndC n)] [] (fun r L => r = int (if fineNd n = true then 0 else 80) ∧ L = []) := by
  have ck := nkids_ok n hn
  have cs := sums_ok (kidsB n) (by refine Nat.le_trans (List.length_filter_le _ _) ?_; omega)
  have cp0 := path_ok n.path 0 hp
  have cp1 := path_ok n.path 1 hp
  have hkm : (kidsB n).length ≤ maxLen := by refine Nat.le_trans (List.length_filter_le _ _) ?_; simp only [maxLen]; omega
  have hkl : (kidsB n).length ≤ 16 := by refine Nat.le_trans (List.length_filter_le _ _) ?_; omega
  obtain ⟨kind, path, value, kids⟩ := n
  obtain ⟨k0, k1, k2, k3, k4, k5, k6, k7, k8, k9, k10, k11, k12, k13, k14, k15, hks⟩ := kids16 hn
  simp only at hks cp0 cp1
  subst hks
  by_cases h1 : kind = 1
  · subst h1
    have hf : fineNd ⟨1, path, value, [k0, k1, k2, k3, k4, k5, k6, k7, k8, k9, k10, k11, k12, k13, k14, k15]⟩ = (((decide ([k0, k1, k2, k3, k4, k5, k6, k7, k8, k9, k10, k11, k12, k13, k14, k15] = List.replicate 16 []) && pathB path 0) && decide (value ≠ [])) && decide ((value.length : Int) ≤ 32)) := rfl
    have hb : (decide ([k0, k1, k2, k3, k4, k5, k6, k7, k8, k9, k10, k11, k12, k13, k14, k15] = List.replicate 16 []) = true ↔ [k0, k1, k2, k3, k4, k5, k6, k7, k8, k9, k10, k11, k12, k13, k14, k15].map sv = (List.replicate 16 []).map sv) := decide_eq_true_iff.trans (svs_eq _ _)
    rw [hf]
    generalize decide ([k0, k1, k2, k3, k4, k5, k6, k7, k8, k9, k10, k11, k12, k13, k14, k15] = List.replicate 16 []) = b1 at *
    cases hfin : (((b1 && pathB path 0) && decide (value ≠ [])) && decide ((value.length : Int) ≤ 32)) with
    | true =>
      have hfn : (!(((b1 && pathB path 0) && decide (value ≠ [])) && decide ((value.length : Int) ≤ 32))) = false := by rw [hfin]; rfl
      refine FnC.intro Tryz.func51 rfl Tryz.ntmps51 rfl fun Z w0 hG => ?_
      focus (
 (refine W.seq (W.region ?_))
 (refine J.boxAg rfl rfl ?_; intro b')
 (refine Jx.assign rfl rfl (J.nil (N.seq (W.seq (W.region (Jx.loadAll rfl 0 rfl rfl rfl ?_))))))
 (refine J.call (Lc := []) ck rfl (evs_args rfl) rfl ?_; rintro _ _ ⟨v, hv, rfl, rfl⟩; rw [List.singleton_append]; refine J.freeze 7 rfl hkm ?_)
 (refine Jx.assign rfl rfl (J.nil (N.seq (W.seq (W.region (Jx.assign rfl rfl (J.nil (N.seq (W.seq (W.seq (W.region (Jx.fieldAddr rfl rfl ?_))))))))))))
 (refine Jx.load rfl 0 rfl rfl rfl ?_)
 (refine J.nil (N.seq (W.block (W.seq (W.region (Jx.eqlI rfl rfl rfl (Jx.assign rfl rfl (J.nil (N.seq (W.cT rfl ?_))))))))))
 (refine W.region (Jx.fieldAddr rfl rfl ?_))
 (refine Jx.loadAg rfl 0 rfl rfl rfl rfl ?_)
 (refine Jx.buildA rfl rfl rfl rfl rfl ?_)
 (refine Jx.eqlAg b1 rfl rfl rfl rfl rfl rfl hb rfl ?_)
 (refine Jx.move rfl rfl ?_)
 (refine' J.guardAnd rfl rfl rfl rfl rfl rfl rfl rfl (fun _ => ?_) ?_; rotate_left)
 (refine J.gY rfl rfl rfl ?_)
 (refine Jx.fieldAddr rfl rfl ?_)
 (refine J.gY rfl rfl rfl ?_)
 (refine Jx.load rfl 0 rfl rfl rfl ?_)
 (refine J.gY rfl rfl rfl ?_)
 (refine J.call (Lc := []) cp0 rfl (evs_args rfl) rfl ?_; rintro _ _ ⟨rfl, rfl⟩; rw [List.nil_append])
 (refine J.nil ?_)
 (refine N.joinedN rfl rfl rfl)
 (refine Jx.move rfl rfl ?_)
 (refine' J.guardAnd rfl rfl rfl rfl rfl rfl rfl rfl (fun _ => ?_) ?_; rotate_left)
 (refine J.gY rfl rfl rfl ?_)
 (refine Jx.fieldAddr rfl rfl ?_)
 (refine J.gY rfl rfl rfl ?_)
 (refine Jx.load rfl 0 rfl rfl rfl ?_)
 (refine J.gY rfl rfl rfl ?_)
 (refine Jx.neqS rfl rfl rfl (J.nil ?_))
 (refine N.joinedN rfl rfl rfl)
 (refine Jx.move rfl rfl ?_)
 (refine' J.guardAnd rfl rfl rfl rfl rfl rfl rfl rfl (fun _ => ?_) ?_; rotate_left)
 (refine J.gY rfl rfl rfl ?_)
 (refine Jx.fieldAddr rfl rfl ?_)
 (refine J.gY rfl rfl rfl ?_)
 (refine Jx.load rfl 0 rfl rfl rfl ?_)
 (refine J.gY rfl rfl rfl ?_)
 (refine Jx.lenS rfl rfl ?_)
 (refine J.gY rfl rfl rfl ?_)
 (refine Jx.leqI rfl rfl rfl (J.nil ?_))
 (refine N.joinedN rfl rfl rfl)
 (refine Jx.assign rfl rfl (J.nil (N.seq (W.seq (W.seq (W.region (Jx.move rfl rfl (Jx.not rfl rfl (J.nil (N.seq (W.cF rfl ?_)))))))))))
 (refine W.skip (N.seq (W.seq (W.region (Jx.assign rfl rfl (J.nil (N.seq (W.ret ?_))))))))
 (refine id ?_; rotate_left))
      exact N.retD (rs := [.tmp 2]) (L1 := []) rfl (.tmp rfl .nil) (List.nil_sublist _) ⟨rfl, rfl⟩
    | false =>
      have hfn : (!(((b1 && pathB path 0) && decide (value ≠ [])) && decide ((value.length : Int) ≤ 32))) = true := by rw [hfin]; rfl
      refine FnC.intro Tryz.func51 rfl Tryz.ntmps51 rfl fun Z w0 hG => ?_
      focus (
 (refine W.seq (W.region ?_))
 (refine J.boxAg rfl rfl ?_; intro b')
 (refine Jx.assign rfl rfl (J.nil (N.seq (W.seq (W.region (Jx.loadAll rfl 0 rfl rfl rfl ?_))))))
 (refine J.call (Lc := []) ck rfl (evs_args rfl) rfl ?_; rintro _ _ ⟨v, hv, rfl, rfl⟩; rw [List.singleton_append]; refine J.freeze 7 rfl hkm ?_)
 (refine Jx.assign rfl rfl (J.nil (N.seq (W.seq (W.region (Jx.assign rfl rfl (J.nil (N.seq (W.seq (W.seq (W.region (Jx.fieldAddr rfl rfl ?_))))))))))))
 (refine Jx.load rfl 0 rfl rfl rfl ?_)
 (refine J.nil (N.seq (W.block (W.seq (W.region (Jx.eqlI rfl rfl rfl (Jx.assign rfl rfl (J.nil (N.seq (W.cT rfl ?_))))))))))
 (refine W.region (Jx.fieldAddr rfl rfl ?_))
 (refine Jx.loadAg rfl 0 rfl rfl rfl rfl ?_)
 (refine Jx.buildA rfl rfl rfl rfl rfl ?_)
 (refine Jx.eqlAg b1 rfl rfl rfl rfl rfl rfl hb rfl ?_)
 (refine Jx.move rfl rfl ?_)
 (refine' J.guardAnd rfl rfl rfl rfl rfl rfl rfl rfl (fun _ => ?_) ?_; rotate_left)
 (refine J.gY rfl rfl rfl ?_)
 (refine Jx.fieldAddr rfl rfl ?_)
 (refine J.gY rfl rfl rfl ?_)
 (refine Jx.load rfl 0 rfl rfl rfl ?_)
 (refine J.gY rfl rfl rfl ?_)
 (refine J.call (Lc := []) cp0 rfl (evs_args rfl) rfl ?_; rintro _ _ ⟨rfl, rfl⟩; rw [List.nil_append])
 (refine J.nil ?_)
 (refine N.joinedN rfl rfl rfl)
 (refine Jx.move rfl rfl ?_)
 (refine' J.guardAnd rfl rfl rfl rfl rfl rfl rfl rfl (fun _ => ?_) ?_; rotate_left)
 (refine J.gY rfl rfl rfl ?_)
 (refine Jx.fieldAddr rfl rfl ?_)
 (refine J.gY rfl rfl rfl ?_)
 (refine Jx.load rfl 0 rfl rfl rfl ?_)
 (refine J.gY rfl rfl rfl ?_)
 (refine Jx.neqS rfl rfl rfl (J.nil ?_))
 (refine N.joinedN rfl rfl rfl)
 (refine Jx.move rfl rfl ?_)
 (refine' J.guardAnd rfl rfl rfl rfl rfl rfl rfl rfl (fun _ => ?_) ?_; rotate_left)
 (refine J.gY rfl rfl rfl ?_)
 (refine Jx.fieldAddr rfl rfl ?_)
 (refine J.gY rfl rfl rfl ?_)
 (refine Jx.load rfl 0 rfl rfl rfl ?_)
 (refine J.gY rfl rfl rfl ?_)
 (refine Jx.lenS rfl rfl ?_)
 (refine J.gY rfl rfl rfl ?_)
 (refine Jx.leqI rfl rfl rfl (J.nil ?_))
 (refine N.joinedN rfl rfl rfl)
 (refine Jx.assign rfl rfl (J.nil (N.seq (W.seq (W.seq (W.region (Jx.move rfl rfl (Jx.not rfl rfl (J.nil (N.seq (W.cT rfl ?_)))))))))))
 (refine W.seq (W.region (Jx.assign rfl rfl (J.nil (N.seq (W.ret (N.noGotoRet ?_)))))))
 (refine id ?_; rotate_left))
      exact N.retD (rs := [.tmp 2]) (L1 := []) rfl (.tmp rfl .nil) (List.nil_sublist _) ⟨rfl, rfl⟩
  by_cases h2 : kind = 2
  · subst h2
    have hf : fineNd ⟨2, path, value, [k0, k1, k2, k3, k4, k5, k6, k7, k8, k9, k10, k11, k12, k13, k14, k15]⟩ = (((decide ([k0, k1, k2, k3, k4, k5, k6, k7, k8, k9, k10, k11, k12, k13, k14, k15] = k0 :: List.replicate 15 []) && sumsB [k0]) && pathB path 1) && decide (value = [])) := rfl
    have hb : (decide ([k0, k1, k2, k3, k4, k5, k6, k7, k8, k9, k10, k11, k12, k13, k14, k15] = k0 :: List.replicate 15 []) = true ↔ [k0, k1, k2, k3, k4, k5, k6, k7, k8, k9, k10, k11, k12, k13, k14, k15].map sv = (k0 :: List.replicate 15 []).map sv) := decide_eq_true_iff.trans (svs_eq _ _)
    have co := fun b => sumsO_ok b tNd 3 (ndC ⟨2, path, value, [k0, k1, k2, k3, k4, k5, k6, k7, k8, k9, k10, k11, k12, k13, k14, k15]⟩) k0 rfl
    rw [hf]
    generalize decide ([k0, k1, k2, k3, k4, k5, k6, k7, k8, k9, k10, k11, k12, k13, k14, k15] = k0 :: List.replicate 15 []) = b1 at *
    cases hfin : (((b1 && sumsB [k0]) && pathB path 1) && decide (value = [])) with
    | true =>
      have hfn : (!(((b1 && sumsB [k0]) && pathB path 1) && decide (value = []))) = false := by rw [hfin]; rfl
      refine FnC.intro Tryz.func51 rfl Tryz.ntmps51 rfl fun Z w0 hG => ?_
      focus (
 (refine W.seq (W.region ?_))
 (refine J.boxAg (d := 1) rfl rfl ?_; intro p1)
 (refine Jx.assign rfl rfl (J.nil (N.seq (W.seq (W.region (Jx.loadAll rfl 0 rfl rfl rfl ?_))))))
 (refine J.call (Lc := []) ck rfl (evs_args rfl) rfl ?_; rintro _ _ ⟨v, hv, rfl, rfl⟩; rw [List.singleton_append]; refine J.freeze 7 rfl hkm ?_)
 (refine Jx.assign rfl rfl (J.nil (N.seq (W.seq (W.region (Jx.assign rfl rfl (J.nil (N.seq (W.seq (W.seq (W.region (Jx.fieldAddr rfl rfl ?_))))))))))))
 (refine Jx.load rfl 0 rfl rfl rfl ?_)
 (refine J.nil (N.seq (W.block (W.seq (W.region (Jx.eqlI rfl rfl rfl (Jx.assign rfl rfl (J.nil (N.seq (W.cF rfl ?_))))))))))
 (refine W.seq (W.region (Jx.eqlI rfl rfl rfl (Jx.assign rfl rfl (J.nil (N.seq (W.cT rfl ?_)))))))
 (refine W.region (Jx.fieldAddr rfl rfl ?_))
 (refine Jx.loadAg rfl 0 rfl rfl rfl rfl ?_)
 (refine Jx.fieldAddr rfl rfl ?_)
 (refine Jx.indexA 0 rfl rfl rfl (by decide) rfl ?_)
 (refine Jx.load rfl 0 rfl rfl rfl ?_)
 (refine Jx.buildA rfl rfl rfl rfl rfl ?_)
 (refine Jx.eqlAg b1 rfl rfl rfl rfl rfl rfl hb rfl ?_)
 (refine Jx.move rfl rfl ?_)
 (refine' J.guardAnd rfl rfl rfl rfl rfl rfl rfl rfl (fun _ => ?_) ?_; rotate_left)
 (refine J.gY rfl rfl rfl ?_)
 (refine Jx.fieldAddr rfl rfl ?_)
 (refine J.gY rfl rfl rfl ?_)
 (refine Jx.sliceArrH rfl rfl (by decide) (by decide) rfl ?_)
 (refine J.gY rfl rfl rfl ?_)
 (refine J.call (co p1) rfl (evs_args rfl) rfl ?_; rintro _ _ ⟨rfl, rfl⟩; rw [List.append_nil])
 (refine J.nil ?_)
 (refine N.joinedN rfl rfl rfl)
 (refine Jx.move rfl rfl ?_)
 (refine' J.guardAnd rfl rfl rfl rfl rfl rfl rfl rfl (fun _ => ?_) ?_; rotate_left)
 (refine J.gY rfl rfl rfl ?_)
 (refine Jx.fieldAddr rfl rfl ?_)
 (refine J.gY rfl rfl rfl ?_)
 (refine Jx.load rfl 0 rfl rfl rfl ?_)
 (refine J.gY rfl rfl rfl ?_)
 (refine J.call (Lc := []) cp1 rfl (evs_args rfl) rfl ?_; rintro _ _ ⟨rfl, rfl⟩; rw [List.nil_append])
 (refine J.nil ?_)
 (refine N.joinedN rfl rfl rfl)
 (refine Jx.move rfl rfl ?_)
 (refine' J.guardAnd rfl rfl rfl rfl rfl rfl rfl rfl (fun _ => ?_) ?_; rotate_left)
 (refine J.gY rfl rfl rfl ?_)
 (refine Jx.fieldAddr rfl rfl ?_)
 (refine J.gY rfl rfl rfl ?_)
 (refine Jx.load rfl 0 rfl rfl rfl ?_)
 (refine J.gY rfl rfl rfl ?_)
 (refine Jx.eqlS rfl rfl rfl (J.nil ?_))
 (refine N.joinedN rfl rfl rfl)
 (refine Jx.assign rfl rfl (J.nil (N.seq (W.seq (W.seq (W.region (Jx.move rfl rfl (Jx.not rfl rfl (J.nil (N.seq (W.cF rfl ?_)))))))))))
 (refine W.skip (N.seq (W.seq (W.region (Jx.assign rfl rfl (J.nil (N.seq (W.ret ?_))))))))
 (refine id ?_; rotate_left))
      exact N.retD (rs := [.tmp 2]) (L1 := []) rfl (.tmp rfl .nil) (List.nil_sublist _) ⟨rfl, rfl⟩
    | false =>
      have hfn : (!(((b1 && sumsB [k0]) && pathB path 1) && decide (value = []))) = true := by rw [hfin]; rfl
      refine FnC.intro Tryz.func51 rfl Tryz.ntmps51 rfl fun Z w0 hG => ?_
      focus (
 (refine W.seq (W.region ?_))
 (refine J.boxAg (d := 1) rfl rfl ?_; intro p1)
 (refine Jx.assign rfl rfl (J.nil (N.seq (W.seq (W.region (Jx.loadAll rfl 0 rfl rfl rfl ?_))))))
 (refine J.call (Lc := []) ck rfl (evs_args rfl) rfl ?_; rintro _ _ ⟨v, hv, rfl, rfl⟩; rw [List.singleton_append]; refine J.freeze 7 rfl hkm ?_)
 (refine Jx.assign rfl rfl (J.nil (N.seq (W.seq (W.region (Jx.assign rfl rfl (J.nil (N.seq (W.seq (W.seq (W.region (Jx.fieldAddr rfl rfl ?_))))))))))))
 (refine Jx.load rfl 0 rfl rfl rfl ?_)
 (refine J.nil (N.seq (W.block (W.seq (W.region (Jx.eqlI rfl rfl rfl (Jx.assign rfl rfl (J.nil (N.seq (W.cF rfl ?_))))))))))
 (refine W.seq (W.region (Jx.eqlI rfl rfl rfl (Jx.assign rfl rfl (J.nil (N.seq (W.cT rfl ?_)))))))
 (refine W.region (Jx.fieldAddr rfl rfl ?_))
 (refine Jx.loadAg rfl 0 rfl rfl rfl rfl ?_)
 (refine Jx.fieldAddr rfl rfl ?_)
 (refine Jx.indexA 0 rfl rfl rfl (by decide) rfl ?_)
 (refine Jx.load rfl 0 rfl rfl rfl ?_)
 (refine Jx.buildA rfl rfl rfl rfl rfl ?_)
 (refine Jx.eqlAg b1 rfl rfl rfl rfl rfl rfl hb rfl ?_)
 (refine Jx.move rfl rfl ?_)
 (refine' J.guardAnd rfl rfl rfl rfl rfl rfl rfl rfl (fun _ => ?_) ?_; rotate_left)
 (refine J.gY rfl rfl rfl ?_)
 (refine Jx.fieldAddr rfl rfl ?_)
 (refine J.gY rfl rfl rfl ?_)
 (refine Jx.sliceArrH rfl rfl (by decide) (by decide) rfl ?_)
 (refine J.gY rfl rfl rfl ?_)
 (refine J.call (co p1) rfl (evs_args rfl) rfl ?_; rintro _ _ ⟨rfl, rfl⟩; rw [List.append_nil])
 (refine J.nil ?_)
 (refine N.joinedN rfl rfl rfl)
 (refine Jx.move rfl rfl ?_)
 (refine' J.guardAnd rfl rfl rfl rfl rfl rfl rfl rfl (fun _ => ?_) ?_; rotate_left)
 (refine J.gY rfl rfl rfl ?_)
 (refine Jx.fieldAddr rfl rfl ?_)
 (refine J.gY rfl rfl rfl ?_)
 (refine Jx.load rfl 0 rfl rfl rfl ?_)
 (refine J.gY rfl rfl rfl ?_)
 (refine J.call (Lc := []) cp1 rfl (evs_args rfl) rfl ?_; rintro _ _ ⟨rfl, rfl⟩; rw [List.nil_append])
 (refine J.nil ?_)
 (refine N.joinedN rfl rfl rfl)
 (refine Jx.move rfl rfl ?_)
 (refine' J.guardAnd rfl rfl rfl rfl rfl rfl rfl rfl (fun _ => ?_) ?_; rotate_left)
 (refine J.gY rfl rfl rfl ?_)
 (refine Jx.fieldAddr rfl rfl ?_)
 (refine J.gY rfl rfl rfl ?_)
 (refine Jx.load rfl 0 rfl rfl rfl ?_)
 (refine J.gY rfl rfl rfl ?_)
 (refine Jx.eqlS rfl rfl rfl (J.nil ?_))
 (refine N.joinedN rfl rfl rfl)
 (refine Jx.assign rfl rfl (J.nil (N.seq (W.seq (W.seq (W.region (Jx.move rfl rfl (Jx.not rfl rfl (J.nil (N.seq (W.cT rfl ?_)))))))))))
 (refine W.seq (W.region (Jx.assign rfl rfl (J.nil (N.seq (W.ret (N.noGotoRet ?_)))))))
 (refine id ?_; rotate_left))
      exact N.retD (rs := [.tmp 2]) (L1 := []) rfl (.tmp rfl .nil) (List.nil_sublist _) ⟨rfl, rfl⟩
  by_cases h3 : kind = 3
  · subst h3
    have hf : fineNd ⟨3, path, value, [k0, k1, k2, k3, k4, k5, k6, k7, k8, k9, k10, k11, k12, k13, k14, k15]⟩ = (((decide (path = []) && sumsB (kidsB ⟨3, path, value, [k0, k1, k2, k3, k4, k5, k6, k7, k8, k9, k10, k11, k12, k13, k14, k15]⟩)) && decide (2 ≤ manyN ⟨3, path, value, [k0, k1, k2, k3, k4, k5, k6, k7, k8, k9, k10, k11, k12, k13, k14, k15]⟩)) && decide ((value.length : Int) ≤ 32)) := rfl
    rw [hf]
    unfold manyN
    simp only
    generalize kidsB ⟨3, path, value, [k0, k1, k2, k3, k4, k5, k6, k7, k8, k9, k10, k11, k12, k13, k14, k15]⟩ = kb at *
    by_cases hv0 : value = []
    · rw [if_pos hv0, Int.add_zero]
      have hvn : ¬ (value ≠ []) := fun h => h hv0
      cases hfin : (((decide (path = []) && sumsB kb) && decide (2 ≤ (kb.length : Int))) && decide ((value.length : Int) ≤ 32)) with
      | true =>
        have hfn : (!(((decide (path = []) && sumsB kb) && decide (2 ≤ (kb.length : Int))) && decide ((value.length : Int) ≤ 32))) = false := by rw [hfin]; rfl
        refine FnC.intro Tryz.func51 rfl Tryz.ntmps51 rfl fun Z w0 hG => ?_
        focus (
 (refine W.seq (W.region ?_))
 (refine J.boxAg rfl rfl ?_; intro b')
 (refine Jx.assign rfl rfl (J.nil (N.seq (W.seq (W.region (Jx.loadAll rfl 0 rfl rfl rfl ?_))))))
 (refine J.call (Lc := []) ck rfl (evs_args rfl) rfl ?_; rintro _ _ ⟨v, hv, rfl, rfl⟩; rw [List.singleton_append]; refine J.freeze 7 rfl hkm ?_)
 (refine Jx.assign rfl rfl (J.nil (N.seq (W.seq (W.region (Jx.assign rfl rfl (J.nil (N.seq (W.seq (W.seq (W.region (Jx.fieldAddr rfl rfl ?_))))))))))))
 (refine Jx.load rfl 0 rfl rfl rfl ?_)
 (refine J.nil (N.seq (W.block (W.seq (W.region (Jx.eqlI rfl rfl rfl (Jx.assign rfl rfl (J.nil (N.seq (W.cF rfl ?_))))))))))
 (refine W.seq (W.region (Jx.eqlI rfl rfl rfl (Jx.assign rfl rfl (J.nil (N.seq (W.cF rfl ?_)))))))
 (refine W.seq (W.region (Jx.eqlI rfl rfl rfl (Jx.assign rfl rfl (J.nil (N.seq (W.cT rfl ?_)))))))
 (refine W.seq (W.region (Jx.move rfl rfl (Jx.lenSl rfl rfl ?_))))
 (refine Jx.assign rfl rfl (J.nil (N.seq (W.seq (W.seq (W.region (Jx.fieldAddr rfl rfl ?_)))))))
 (refine Jx.load rfl 0 rfl rfl rfl ?_)
 (refine Jx.neqS rfl rfl rfl (J.nil (N.seq (W.cF rfl ?_))))
 (refine W.skip (N.seq (W.region (Jx.fieldAddr rfl rfl ?_))))
 (refine Jx.load rfl 0 rfl rfl rfl ?_)
 (refine Jx.eqlS rfl rfl rfl (Jx.move rfl rfl ?_))
 (refine' J.guardAnd rfl rfl rfl rfl rfl rfl rfl rfl (fun _ => ?_) ?_; rotate_left)
 (refine J.gY rfl rfl rfl ?_)
 (refine Jx.move rfl rfl (J.gY rfl rfl rfl ?_))
 (refine J.call (Lc := []) cs rfl (evs_args rfl) rfl ?_; rintro _ _ ⟨rfl, rfl⟩; rw [List.nil_append])
 (refine J.nil ?_)
 (refine N.joinedN rfl rfl rfl)
 (refine Jx.move rfl rfl ?_)
 (refine' J.guardAnd rfl rfl rfl rfl rfl rfl rfl rfl (fun _ => ?_) ?_; rotate_left)
 (refine J.gY rfl rfl rfl ?_)
 (refine Jx.move rfl rfl (J.gY rfl rfl rfl ?_))
 (refine Jx.geqI rfl rfl rfl (J.nil ?_))
 (refine N.joinedN rfl rfl rfl)
 (refine Jx.move rfl rfl ?_)
 (refine' J.guardAnd rfl rfl rfl rfl rfl rfl rfl rfl (fun _ => ?_) ?_; rotate_left)
 (refine J.gY rfl rfl rfl ?_)
 (refine Jx.fieldAddr rfl rfl ?_)
 (refine J.gY rfl rfl rfl ?_)
 (refine Jx.load rfl 0 rfl rfl rfl ?_)
 (refine J.gY rfl rfl rfl ?_)
 (refine Jx.lenS rfl rfl ?_)
 (refine J.gY rfl rfl rfl ?_)
 (refine Jx.leqI rfl rfl rfl (J.nil ?_))
 (refine N.joinedN rfl rfl rfl)
 (refine Jx.assign rfl rfl (J.nil (N.seq (W.seq (W.seq (W.region (Jx.move rfl rfl (Jx.not rfl rfl (J.nil (N.seq (W.cF rfl ?_)))))))))))
 (refine W.skip (N.seq (W.seq (W.region (Jx.assign rfl rfl (J.nil (N.seq (W.ret ?_))))))))
 (refine id ?_; rotate_left))
        exact N.retD (rs := [.tmp 2]) (L1 := []) rfl (.tmp rfl .nil) (List.nil_sublist _) ⟨rfl, rfl⟩
      | false =>
        have hfn : (!(((decide (path = []) && sumsB kb) && decide (2 ≤ (kb.length : Int))) && decide ((value.length : Int) ≤ 32))) = true := by rw [hfin]; rfl
        refine FnC.intro Tryz.func51 rfl Tryz.ntmps51 rfl fun Z w0 hG => ?_
        focus (
 (refine W.seq (W.region ?_))
 (refine J.boxAg rfl rfl ?_; intro b')
 (refine Jx.assign rfl rfl (J.nil (N.seq (W.seq (W.region (Jx.loadAll rfl 0 rfl rfl rfl ?_))))))
 (refine J.call (Lc := []) ck rfl (evs_args rfl) rfl ?_; rintro _ _ ⟨v, hv, rfl, rfl⟩; rw [List.singleton_append]; refine J.freeze 7 rfl hkm ?_)
 (refine Jx.assign rfl rfl (J.nil (N.seq (W.seq (W.region (Jx.assign rfl rfl (J.nil (N.seq (W.seq (W.seq (W.region (Jx.fieldAddr rfl rfl ?_))))))))))))
 (refine Jx.load rfl 0 rfl rfl rfl ?_)
 (refine J.nil (N.seq (W.block (W.seq (W.region (Jx.eqlI rfl rfl rfl (Jx.assign rfl rfl (J.nil (N.seq (W.cF rfl ?_))))))))))
 (refine W.seq (W.region (Jx.eqlI rfl rfl rfl (Jx.assign rfl rfl (J.nil (N.seq (W.cF rfl ?_)))))))
 (refine W.seq (W.region (Jx.eqlI rfl rfl rfl (Jx.assign rfl rfl (J.nil (N.seq (W.cT rfl ?_)))))))
 (refine W.seq (W.region (Jx.move rfl rfl (Jx.lenSl rfl rfl ?_))))
 (refine Jx.assign rfl rfl (J.nil (N.seq (W.seq (W.seq (W.region (Jx.fieldAddr rfl rfl ?_)))))))
 (refine Jx.load rfl 0 rfl rfl rfl ?_)
 (refine Jx.neqS rfl rfl rfl (J.nil (N.seq (W.cF rfl ?_))))
 (refine W.skip (N.seq (W.region (Jx.fieldAddr rfl rfl ?_))))
 (refine Jx.load rfl 0 rfl rfl rfl ?_)
 (refine Jx.eqlS rfl rfl rfl (Jx.move rfl rfl ?_))
 (refine' J.guardAnd rfl rfl rfl rfl rfl rfl rfl rfl (fun _ => ?_) ?_; rotate_left)
 (refine J.gY rfl rfl rfl ?_)
 (refine Jx.move rfl rfl (J.gY rfl rfl rfl ?_))
 (refine J.call (Lc := []) cs rfl (evs_args rfl) rfl ?_; rintro _ _ ⟨rfl, rfl⟩; rw [List.nil_append])
 (refine J.nil ?_)
 (refine N.joinedN rfl rfl rfl)
 (refine Jx.move rfl rfl ?_)
 (refine' J.guardAnd rfl rfl rfl rfl rfl rfl rfl rfl (fun _ => ?_) ?_; rotate_left)
 (refine J.gY rfl rfl rfl ?_)
 (refine Jx.move rfl rfl (J.gY rfl rfl rfl ?_))
 (refine Jx.geqI rfl rfl rfl (J.nil ?_))
 (refine N.joinedN rfl rfl rfl)
 (refine Jx.move rfl rfl ?_)
 (refine' J.guardAnd rfl rfl rfl rfl rfl rfl rfl rfl (fun _ => ?_) ?_; rotate_left)
 (refine J.gY rfl rfl rfl ?_)
 (refine Jx.fieldAddr rfl rfl ?_)
 (refine J.gY rfl rfl rfl ?_)
 (refine Jx.load rfl 0 rfl rfl rfl ?_)
 (refine J.gY rfl rfl rfl ?_)
 (refine Jx.lenS rfl rfl ?_)
 (refine J.gY rfl rfl rfl ?_)
 (refine Jx.leqI rfl rfl rfl (J.nil ?_))
 (refine N.joinedN rfl rfl rfl)
 (refine Jx.assign rfl rfl (J.nil (N.seq (W.seq (W.seq (W.region (Jx.move rfl rfl (Jx.not rfl rfl (J.nil (N.seq (W.cT rfl ?_)))))))))))
 (refine W.seq (W.region (Jx.assign rfl rfl (J.nil (N.seq (W.ret (N.noGotoRet ?_)))))))
 (refine id ?_; rotate_left))
        exact N.retD (rs := [.tmp 2]) (L1 := []) rfl (.tmp rfl .nil) (List.nil_sublist _) ⟨rfl, rfl⟩
    · rw [if_neg hv0]
      cases hfin : (((decide (path = []) && sumsB kb) && decide (2 ≤ (kb.length : Int) + 1)) && decide ((value.length : Int) ≤ 32)) with
      | true =>
        have hfn : (!(((decide (path = []) && sumsB kb) && decide (2 ≤ (kb.length : Int) + 1)) && decide ((value.length : Int) ≤ 32))) = false := by rw [hfin]; rfl
        refine FnC.intro Tryz.func51 rfl Tryz.ntmps51 rfl fun Z w0 hG => ?_
        focus (
 (refine W.seq (W.region ?_))
 (refine J.boxAg rfl rfl ?_; intro b')
 (refine Jx.assign rfl rfl (J.nil (N.seq (W.seq (W.region (Jx.loadAll rfl 0 rfl rfl rfl ?_))))))
 (refine J.call (Lc := []) ck rfl (evs_args rfl) rfl ?_; rintro _ _ ⟨v, hv, rfl, rfl⟩; rw [List.singleton_append]; refine J.freeze 7 rfl hkm ?_)
 (refine Jx.assign rfl rfl (J.nil (N.seq (W.seq (W.region (Jx.assign rfl rfl (J.nil (N.seq (W.seq (W.seq (W.region (Jx.fieldAddr rfl rfl ?_))))))))))))
 (refine Jx.load rfl 0 rfl rfl rfl ?_)
 (refine J.nil (N.seq (W.block (W.seq (W.region (Jx.eqlI rfl rfl rfl (Jx.assign rfl rfl (J.nil (N.seq (W.cF rfl ?_))))))))))
 (refine W.seq (W.region (Jx.eqlI rfl rfl rfl (Jx.assign rfl rfl (J.nil (N.seq (W.cF rfl ?_)))))))
 (refine W.seq (W.region (Jx.eqlI rfl rfl rfl (Jx.assign rfl rfl (J.nil (N.seq (W.cT rfl ?_)))))))
 (refine W.seq (W.region (Jx.move rfl rfl (Jx.lenSl rfl rfl ?_))))
 (refine Jx.assign rfl rfl (J.nil (N.seq (W.seq (W.seq (W.region (Jx.fieldAddr rfl rfl ?_)))))))
 (refine Jx.load rfl 0 rfl rfl rfl ?_)
 (refine Jx.neqS rfl rfl rfl (J.nil (N.seq (W.cT rfl ?_))))
 (refine W.region (Jx.move rfl rfl (Jx.add64 rfl rfl (by omega) rfl ?_)))
 (refine Jx.assign rfl rfl (J.nil (N.seq (W.region (Jx.fieldAddr rfl rfl ?_)))))
 (refine Jx.load rfl 0 rfl rfl rfl ?_)
 (refine Jx.eqlS rfl rfl rfl (Jx.move rfl rfl ?_))
 (refine' J.guardAnd rfl rfl rfl rfl rfl rfl rfl rfl (fun _ => ?_) ?_; rotate_left)
 (refine J.gY rfl rfl rfl ?_)
 (refine Jx.move rfl rfl (J.gY rfl rfl rfl ?_))
 (refine J.call (Lc := []) cs rfl (evs_args rfl) rfl ?_; rintro _ _ ⟨rfl, rfl⟩; rw [List.nil_append])
 (refine J.nil ?_)
 (refine N.joinedN rfl rfl rfl)
 (refine Jx.move rfl rfl ?_)
 (refine' J.guardAnd rfl rfl rfl rfl rfl rfl rfl rfl (fun _ => ?_) ?_; rotate_left)
 (refine J.gY rfl rfl rfl ?_)
 (refine Jx.move rfl rfl (J.gY rfl rfl rfl ?_))
 (refine Jx.geqI rfl rfl rfl (J.nil ?_))
 (refine N.joinedN rfl rfl rfl)
 (refine Jx.move rfl rfl ?_)
 (refine' J.guardAnd rfl rfl rfl rfl rfl rfl rfl rfl (fun _ => ?_) ?_; rotate_left)
 (refine J.gY rfl rfl rfl ?_)
 (refine Jx.fieldAddr rfl rfl ?_)
 (refine J.gY rfl rfl rfl ?_)
 (refine Jx.load rfl 0 rfl rfl rfl ?_)
 (refine J.gY rfl rfl rfl ?_)
 (refine Jx.lenS rfl rfl ?_)
 (refine J.gY rfl rfl rfl ?_)
 (refine Jx.leqI rfl rfl rfl (J.nil ?_))
 (refine N.joinedN rfl rfl rfl)
 (refine Jx.assign rfl rfl (J.nil (N.seq (W.seq (W.seq (W.region (Jx.move rfl rfl (Jx.not rfl rfl (J.nil (N.seq (W.cF rfl ?_)))))))))))
 (refine W.skip (N.seq (W.seq (W.region (Jx.assign rfl rfl (J.nil (N.seq (W.ret ?_))))))))
 (refine id ?_; rotate_left))
        exact N.retD (rs := [.tmp 2]) (L1 := []) rfl (.tmp rfl .nil) (List.nil_sublist _) ⟨rfl, rfl⟩
      | false =>
        have hfn : (!(((decide (path = []) && sumsB kb) && decide (2 ≤ (kb.length : Int) + 1)) && decide ((value.length : Int) ≤ 32))) = true := by rw [hfin]; rfl
        refine FnC.intro Tryz.func51 rfl Tryz.ntmps51 rfl fun Z w0 hG => ?_
        focus (
 (refine W.seq (W.region ?_))
 (refine J.boxAg rfl rfl ?_; intro b')
 (refine Jx.assign rfl rfl (J.nil (N.seq (W.seq (W.region (Jx.loadAll rfl 0 rfl rfl rfl ?_))))))
 (refine J.call (Lc := []) ck rfl (evs_args rfl) rfl ?_; rintro _ _ ⟨v, hv, rfl, rfl⟩; rw [List.singleton_append]; refine J.freeze 7 rfl hkm ?_)
 (refine Jx.assign rfl rfl (J.nil (N.seq (W.seq (W.region (Jx.assign rfl rfl (J.nil (N.seq (W.seq (W.seq (W.region (Jx.fieldAddr rfl rfl ?_))))))))))))
 (refine Jx.load rfl 0 rfl rfl rfl ?_)
 (refine J.nil (N.seq (W.block (W.seq (W.region (Jx.eqlI rfl rfl rfl (Jx.assign rfl rfl (J.nil (N.seq (W.cF rfl ?_))))))))))
 (refine W.seq (W.region (Jx.eqlI rfl rfl rfl (Jx.assign rfl rfl (J.nil (N.seq (W.cF rfl ?_)))))))
 (refine W.seq (W.region (Jx.eqlI rfl rfl rfl (Jx.assign rfl rfl (J.nil (N.seq (W.cT rfl ?_)))))))
 (refine W.seq (W.region (Jx.move rfl rfl (Jx.lenSl rfl rfl ?_))))
 (refine Jx.assign rfl rfl (J.nil (N.seq (W.seq (W.seq (W.region (Jx.fieldAddr rfl rfl ?_)))))))
 (refine Jx.load rfl 0 rfl rfl rfl ?_)
 (refine Jx.neqS rfl rfl rfl (J.nil (N.seq (W.cT rfl ?_))))
 (refine W.region (Jx.move rfl rfl (Jx.add64 rfl rfl (by omega) rfl ?_)))
 (refine Jx.assign rfl rfl (J.nil (N.seq (W.region (Jx.fieldAddr rfl rfl ?_)))))
 (refine Jx.load rfl 0 rfl rfl rfl ?_)
 (refine Jx.eqlS rfl rfl rfl (Jx.move rfl rfl ?_))
 (refine' J.guardAnd rfl rfl rfl rfl rfl rfl rfl rfl (fun _ => ?_) ?_; rotate_left)
 (refine J.gY rfl rfl rfl ?_)
 (refine Jx.move rfl rfl (J.gY rfl rfl rfl ?_))
 (refine J.call (Lc := []) cs rfl (evs_args rfl) rfl ?_; rintro _ _ ⟨rfl, rfl⟩; rw [List.nil_append])
 (refine J.nil ?_)
 (refine N.joinedN rfl rfl rfl)
 (refine Jx.move rfl rfl ?_)
 (refine' J.guardAnd rfl rfl rfl rfl rfl rfl rfl rfl (fun _ => ?_) ?_; rotate_left)
 (refine J.gY rfl rfl rfl ?_)
 (refine Jx.move rfl rfl (J.gY rfl rfl rfl ?_))
 (refine Jx.geqI rfl rfl rfl (J.nil ?_))
 (refine N.joinedN rfl rfl rfl)
 (refine Jx.move rfl rfl ?_)
 (refine' J.guardAnd rfl rfl rfl rfl rfl rfl rfl rfl (fun _ => ?_) ?_; rotate_left)
 (refine J.gY rfl rfl rfl ?_)
 (refine Jx.fieldAddr rfl rfl ?_)
 (refine J.gY rfl rfl rfl ?_)
 (refine Jx.load rfl 0 rfl rfl rfl ?_)
 (refine J.gY rfl rfl rfl ?_)
 (refine Jx.lenS rfl rfl ?_)
 (refine J.gY rfl rfl rfl ?_)
 (refine Jx.leqI rfl rfl rfl (J.nil ?_))
 (refine N.joinedN rfl rfl rfl)
 (refine Jx.assign rfl rfl (J.nil (N.seq (W.seq (W.seq (W.region (Jx.move rfl rfl (Jx.not rfl rfl (J.nil (N.seq (W.cT rfl ?_)))))))))))
 (refine W.seq (W.region (Jx.assign rfl rfl (J.nil (N.seq (W.ret (N.noGotoRet ?_)))))))
 (refine id ?_; rotate_left))
        exact N.retD (rs := [.tmp 2]) (L1 := []) rfl (.tmp rfl .nil) (List.nil_sublist _) ⟨rfl, rfl⟩
  · have hf : fineNd ⟨kind, path, value, [k0, k1, k2, k3, k4, k5, k6, k7, k8, k9, k10, k11, k12, k13, k14, k15]⟩ = false := by unfold fineNd; rw [if_neg h1, if_neg h2, if_neg h3]
    rw [hf]
    refine FnC.intro Tryz.func51 rfl Tryz.ntmps51 rfl fun Z w0 hG => ?_
    focus (
 (refine W.seq (W.region ?_))
 (refine J.boxAg rfl rfl ?_; intro b')
 (refine Jx.assign rfl rfl (J.nil (N.seq (W.seq (W.region (Jx.loadAll rfl 0 rfl rfl rfl ?_))))))
 (refine J.call (Lc := []) ck rfl (evs_args rfl) rfl ?_; rintro _ _ ⟨v, hv, rfl, rfl⟩; rw [List.singleton_append]; refine J.freeze 7 rfl hkm ?_)
 (refine Jx.assign rfl rfl (J.nil (N.seq (W.seq (W.region (Jx.assign rfl rfl (J.nil (N.seq (W.seq (W.seq (W.region (Jx.fieldAddr rfl rfl ?_))))))))))))
 (refine Jx.load rfl 0 rfl rfl rfl ?_)
 (refine J.nil (N.seq (W.block (W.seq (W.region (Jx.eqlI rfl rfl rfl (Jx.assign rfl rfl (J.nil (N.seq (W.cF rfl ?_))))))))))
 (refine W.seq (W.region (Jx.eqlI rfl rfl rfl (Jx.assign rfl rfl (J.nil (N.seq (W.cF rfl ?_)))))))
 (refine W.seq (W.region (Jx.eqlI rfl rfl rfl (Jx.assign rfl rfl (J.nil (N.seq (W.cF rfl ?_)))))))
 (refine W.skip (N.seq (W.seq (W.seq (W.region (Jx.move rfl rfl (Jx.not rfl rfl (J.nil (N.seq (W.cT rfl ?_))))))))))
 (refine W.seq (W.region (Jx.assign rfl rfl (J.nil (N.seq (W.ret (N.noGotoRet ?_)))))))
 (refine id ?_; rotate_left))
    exact N.retD (rs := [.tmp 2]) (L1 := []) rfl (.tmp rfl .nil) (List.nil_sublist _) ⟨rfl, rfl⟩
theorem fine_ok {n : Nd} (hn : n.kids.length = 16) (h : fineNd n = true) : okNd n := by
  refine ⟨hn, ?_⟩
  unfold fineNd at h
  split at h
  · rename_i h1
    simp only [Bool.and_eq_true, decide_eq_true_eq] at h
    refine .inl ⟨h1, fun i => ?_, h.1.2⟩
    show n.kids.getD i [] = []
    rw [h.1.1.1, List.getD_eq_getElem?_getD, List.getElem?_replicate]
    split <;> rfl
  split at h
  · rename_i _ h1
    simp only [Bool.and_eq_true, decide_eq_true_eq] at h
    refine .inr (.inl ⟨h1, fun e => ?_, fun i hi => ?_, h.2⟩)
    · have := h.1.1.2
      rw [e] at this
      simp [sumsB] at this
    · show n.kids.getD i [] = []
      rw [h.1.1.1]
      cases i with
      | zero => omega
      | succ j =>
        rw [List.getD_cons_succ, List.getD_eq_getElem?_getD, List.getElem?_replicate]
        split <;> rfl
  split at h
  · rename_i _ _ h1
    simp only [Bool.and_eq_true, decide_eq_true_eq] at h
    exact .inr (.inr ⟨h1, h.1.1.1⟩)
  · simp at h
end Go.Proofs.YtaflklbmdbmjbaaGreatDoor
namespace Go.Proofs.YtaflklbmdbmjbaaGreatDoor
open Go Go.Sse
set_option linter.unusedVariables false
set_option linter.unusedSimpArgs false
set_option maxRecDepth 10000
def kidP (set i : Nat) (st : PSt) : Bs × PSt := if set / 2 ^ (15 - i) % 2 = 1 then bytesP 32 st else ([], st)
def kidsP (set : Nat) : Nat → PSt → List Bs × PSt
  | 0, st => ([], st)
  | i + 1, st => ((kidsP set i st).1 ++ [(kidP set i (kidsP set i st).2).1], (kidP set i (kidsP set i st).2).2)
theorem kidsP_len (set : Nat) (st : PSt) : ∀ i, (kidsP set i st).1.length = i
  | 0 => rfl
  | i + 1 => by simp only [kidsP, List.length_append, List.length_singleton, kidsP_len set st i]
abbrev kidsF (l : List Bs) : List Bs := l ++ List.replicate (16 - l.length) []
theorem kidsF_set {l : List Bs} {i : Nat} (hl : l.length = i) (hi : i < 16) (k : Bs) : (kidsF l).set i k = kidsF (l ++ [k]) := by
  unfold kidsF
  rw [List.set_append_right _ _ (by omega), hl, Nat.sub_self, List.length_append, List.length_singleton, hl, show 16 - i = (16 - (i + 1)) + 1 by omega, List.replicate_succ, List.set_cons_zero, List.append_assoc]
  rfl
theorem kidsF_nil {l : List Bs} {i : Nat} (hl : l.length = i) (hi : i < 16) : kidsF (l ++ [[]]) = kidsF l := by
  unfold kidsF
  rw [List.length_append, List.length_singleton, hl, List.append_assoc, show 16 - i = (16 - (i + 1)) + 1 by omega, List.replicate_succ]
  rfl
theorem ndC_kid (n : Nd) (i : Nat) (k : Bs) : (ndC n).set (0 + 3 + i) (str k) = ndC ⟨n.kind, n.path, n.value, n.kids.set i k⟩ := by
  rw [show 0 + 3 + i = i + 3 by omega]
  show int n.kind :: str n.path :: str n.value :: (n.kids.map str).set i (str k) = _
  rw [← List.map_set]; rfl
theorem ndC_len {n : Nd} (h : n.kids.length = 16) : (ndC n).length = 19 := by simp [ndC, h]
theorem band1 (n : Nat) (hn : n < 1000000) : IntKind.i64.wrap ((BitVec.ofInt IntKind.i64.bits ((n : Nat) : Int) &&& BitVec.ofInt IntKind.i64.bits 1).toNat) = ((n % 2 : Nat) : Int) := by
  have e : (BitVec.ofInt IntKind.i64.bits ((n : Nat) : Int) &&& BitVec.ofInt IntKind.i64.bits 1).toNat = n % 2 := by
    rw [BitVec.toNat_and]
    have e1 : (BitVec.ofInt IntKind.i64.bits ((n : Nat) : Int)).toNat = n := by
      show (BitVec.ofInt 64 (n : Int)).toNat = n
      simp only [BitVec.toNat_ofInt]; omega
    have e2 : (BitVec.ofInt IntKind.i64.bits 1).toNat = 1 := by decide
    rw [e1, e2, Nat.and_one_is_mod]
  rw [e]
  exact wrap_i64 (by omega)
def brP (st : PSt) : Nd × PSt :=
  if (bytesP 2 st).1 = [] then (⟨3, [], [], List.replicate 16 []⟩, (bytesP 2 st).2)
  else (⟨3, [], (textP 32 (kidsP (((bytesP 2 st).1.getD 0 0).toNat * 256 + ((bytesP 2 st).1.getD 1 0).toNat) 16 (bytesP 2 st).2).2).1, (kidsP (((bytesP 2 st).1.getD 0 0).toNat * 256 + ((bytesP 2 st).1.getD 1 0).toNat) 16 (bytesP 2 st).2).1⟩, (textP 32 (kidsP (((bytesP 2 st).1.getD 0 0).toNat * 256 + ((bytesP 2 st).1.getD 1 0).toNat) 16 (bytesP 2 st).2).2).2)
theorem bytes_len {n : Nat} {st : PSt} : (bytesP n st).1 = [] ∨ (bytesP n st).1.length = n := by
  unfold bytesP
  split
  · exact .inl rfl
  split
  · rename_i h; exact .inr (by rw [List.length_take]; omega)
  · exact .inl rfl
structure BrS where
  i : Nat
  a : Nat
  c : Int
set_option maxHeartbeats 8000000 in
theorem branch_ok (b p : Nat) (s : Bs) (a : Nat) (c : Int) (h1 : a ≤ s.length) (h2 : s.length ≤ 1099511627776) :
    FnC Tryz.prog 48 [ptr b, ptr p] [rdO b ⟨s, a, c⟩, .obj p tNd (ndC ⟨3, [], [], List.replicate 16 []⟩)] (fun r L => ∃ (n : Nd) (a' : Nat) (c' : Int), L = [rdO b ⟨s, a', c'⟩, .obj p tNd (ndC n)] ∧ a' ≤ s.length ∧ brP (lf s a c) = (n, lf s a' c')) := by
  have cb := rd_Bytes b s a c 2 h1 h2
  unfold brP
  generalize hB : bytesP 2 (lf s a c) = B at *
  refine FnC.intro Tryz.func48 rfl Tryz.ntmps48 rfl fun Z w0 hG => ?_
  focus (
 (refine W.seq (W.region (Jx.move rfl rfl ?_)))
 (refine J.call (Lc := [rdO b ⟨s, a, c⟩]) cb rfl (evs_args rfl) rfl ?_; rintro _ _ ⟨t, a1, c1, rfl, rfl, ha1, hB1⟩; rw [List.singleton_append])
 (refine Jx.assign rfl rfl (J.nil (N.seq (W.seq (W.seq (W.region (Jx.move rfl rfl (Jx.eqlS rfl rfl rfl (J.nil (N.seq ?_))))))))))
 (refine id ?_; rotate_left))
  obtain rfl := hB1
  have hbl := bytes_len (n := 2) (st := lf s a c)
  rw [hB] at hbl
  simp only at hbl ⊢
  by_cases ht : t = []
  · rw [if_pos ht]
    focus (
 (refine W.cT rfl ?_)
 (refine W.ret (N.noGotoRet ?_))
 (refine id ?_; rotate_left))
    exact N.fin (rs := []) rfl .nil ⟨_, a1, c1, rfl, ha1, rfl⟩
  rw [if_neg ht]
  have hl2 : t.length = 2 := by
    rcases hbl with h | h
    · exact absurd h ht
    · exact h
  have l0 : (0 : Int) < (t.length : Int) := by omega
  have l1 : (1 : Int) < (t.length : Int) := by omega
  have t0 : t.getD (Int.toNat 0) 0 = t.getD 0 0 := rfl
  have t1 : t.getD (Int.toNat 1) 0 = t.getD 1 0 := rfl
  have hb0 := (t.getD 0 0).toNat_lt
  have hb1 := (t.getD 1 0).toNat_lt
  generalize t.getD 0 0 = x0 at *
  generalize t.getD 1 0 = x1 at *
  focus (
 (refine W.cF rfl ?_)
 (refine W.skip (N.seq (W.seq ?_)))
 (refine W.draw follows ?_)
 (refine JD.calm rfl (by decide +kernel) ?_)
 (refine Cx.move rfl rfl ?_)
 (refine Cx.indexS rfl rfl (by decide) l0 rfl ?_; rw [t0])
 (refine Cx.byteNum rfl rfl rfl ?_)
 (refine Cx.shl8 rfl rfl (by omega) rfl ?_)
 (refine Cx.move rfl rfl ?_)
 (refine Cx.indexS rfl rfl (by decide) l1 rfl ?_; rw [t1])
 (refine Cx.byteNum rfl rfl rfl ?_)
 (refine Cx.orByte rfl rfl (by omega) (by omega) rfl ?_)
 (refine Cx.assign rfl rfl ?_)
 (refine SegC.nil ?_)
 (refine N.seq (W.seq (W.seq (W.region (Jx.move rfl rfl (J.nil (N.seq (W.block ?_))))))))
 (refine id ?_; rotate_left))
  have hset : x0.toNat * 256 + x1.toNat < 1000000 := by omega
  generalize x0.toNat * 256 + x1.toNat = set at *
  obtain ⟨st0, hst0⟩ : ∃ st0, lf s a1 c1 = st0 := ⟨_, rfl⟩
  rw [hst0]
  refine W.loop (α := BrS) (fun x => [(19, int (x.i : Int)), (5, int (set : Int)), (1, ptr p), (0, ptr b)]) (fun x => [rdO b ⟨s, x.a, x.c⟩, .obj p tNd (ndC ⟨3, [], [], kidsF (kidsP set x.i st0).1⟩)]) (fun x => x.i ≤ 16 ∧ x.a ≤ s.length ∧ (kidsP set x.i st0).2 = lf s x.a x.c) (fun x => 16 - x.i) ⟨0, a1, c1⟩ ⟨Nat.zero_le _, ha1, hst0.symm⟩ rfl ⟨ref0 rfl, ref0 rfl, ref0 rfl, ref0 rfl, trivial⟩ ?_
  rintro ⟨i, a2, c2⟩ ⟨hi, ha2, hst⟩
  simp only at hi ha2 hst ⊢
  have hkl := kidsP_len set st0 i
  by_cases h3 : i < 16
  · have h3' : (i : Int) < 16 := by omega
    have e1 : (i : Int) + 1 = ((i + 1 : Nat) : Int) := by omega
    have e2 : (15 : Int) - (i : Int) = ((15 - i : Nat) : Int) := by omega
    have hbd := band1 (set / 2 ^ (15 - i)) (Nat.lt_of_le_of_lt (Nat.div_le_self _ _) hset)
    have hsucc : kidsP set (i + 1) st0 = ((kidsP set i st0).1 ++ [(kidP set i (kidsP set i st0).2).1], (kidP set i (kidsP set i st0).2).2) := rfl
    by_cases h4 : set / 2 ^ (15 - i) % 2 = 1
    · rw [h4] at hbd
      have cb2 := rd_Bytes b s a2 c2 32 ha2 h2
      have hk : kidP set i (kidsP set i st0).2 = bytesP 32 (lf s a2 c2) := by unfold kidP; rw [if_pos h4, hst]
      rw [hk] at hsucc
      have hlen19 : ∀ l : List Bs, l.length = i → (ndC ⟨3, [], [], kidsF l⟩).length = 19 := fun l hl => ndC_len (by simp [kidsF, hl]; omega)
      have hl19 := hlen19 _ hkl
      have hbo : Nat.blt (0 + 3 + i) (ndC ⟨3, [], [], kidsF (kidsP set i st0).1⟩).length = true := by rw [hl19]; simp; omega
      have hks : ∀ t : Bs, (ndC ⟨3, [], [], kidsF (kidsP set i st0).1⟩).set (0 + 3 + i) (str t) = ndC ⟨3, [], [], kidsF ((kidsP set i st0).1 ++ [t])⟩ := fun t => by rw [ndC_kid, kidsF_set hkl h3]
      generalize (kidsP set i st0).1 = ks at *
      focus (
 (refine W.seq (W.region (Jx.lssI rfl rfl rfl (J.nil (N.seq (W.seq (W.cT rfl ?_)))))))
 (refine W.skip (N.seq (W.seq (W.block (W.seq (W.region (Jx.move rfl rfl (Jx.assign rfl rfl (J.nil (N.seq (W.seq (W.region (Jx.move rfl rfl (Jx.move rfl rfl ?_))))))))))))))
 (refine Jx.sub64 rfl rfl (by omega) rfl ?_; rw [e2])
 (refine Jx.shrN (n := set) (s := 15 - i) rfl rfl rfl (by simp only [IntKind.bits]; omega) rfl ?_)
 (refine Jx.band rfl rfl rfl ?_; rw [hbd])
 (refine Jx.eqlI rfl rfl rfl (J.nil (N.seq (W.cT rfl ?_))))
 (refine W.draw follows ?_)
 (refine JD.begin 8 rfl ?_; refine JP.more [0, 1, 2, 4, 5] _ rfl (by decide +kernel) ?_)
 (refine Cx.move rfl rfl ?_)
 (refine Cx.move rfl rfl ?_)
 (refine Cx.move rfl rfl ?_)
 (refine Cx.nilCheck rfl rfl ?_)
 (refine Cx.fieldAddr rfl rfl ?_)
 (refine SegC.nil ?_)
 (focus (refine JP.call (idx := [0, 1, 2, 4, 5]) (Lc := [rdO b ⟨s, a2, c2⟩]) 3 [30] [2, 3] [0, 1, 4, 5] cb2 rfl (by decide +kernel) rfl ?_ (evs_args rfl) rfl ?_; rotate_left); rintro _ _ ⟨t', a3, c3, rfl, rfl, ha3, hB3⟩; rw [List.singleton_append])
 (refine JP.tail (idx := [0, 1, 4, 5]) 6 (by decide +kernel) (by decide +kernel) rfl rfl ?_ ?_)
 (refine Cx.move rfl rfl ?_)
 (refine Cx.move rfl rfl ?_)
 (refine Cx.nilCheck rfl rfl ?_)
 (refine Cx.fieldAddr rfl rfl ?_)
 (refine SegC.nil ?_)
 (refine Ag.cons rfl ?_)
 (refine Ag.cons rfl ?_)
 (refine Ag.cons rfl ?_)
 (refine Ag.cons rfl ?_)
 (refine Ag.nil)
 (refine Jx.indexA i rfl rfl rfl h3 rfl ?_)
 (refine J.store rfl rfl (One.val rfl) 1 rfl hbo (hks t') rfl ?_)
 (refine J.nil (N.seq (W.region ?_)))
 (refine Jx.add64 rfl rfl (by omega) rfl ?_; rw [e1])
 (refine Jx.move rfl rfl (J.nil ?_))
 (refine id ?_; rotate_left)
 (refine Cx.move rfl rfl ?_)
 (refine Cx.move rfl rfl ?_)
 (refine Cx.move rfl rfl ?_)
 (refine Cx.nilCheck rfl rfl ?_)
 (refine Cx.fieldAddr rfl rfl ?_)
 (refine SegC.nil ?_)
 (refine Ag.cons rfl ?_)
 (refine Ag.cons rfl ?_)
 (refine Ag.cons rfl ?_)
 (refine Ag.cons rfl ?_)
 (refine Ag.cons rfl ?_)
 (refine Ag.nil))
      rw [hB3] at hsucc
      exact N.round ⟨i + 1, a3, c3⟩ ⟨h3, ha3, by rw [hsucc]⟩ (by simp only; omega) (by simp only [hsucc]; first | done | rfl) ⟨ref0 rfl, ref0 rfl, ref0 rfl, ref0 rfl, trivial⟩
    · have h40 : set / 2 ^ (15 - i) % 2 = 0 := by omega
      rw [h40] at hbd
      have hk : kidP set i (kidsP set i st0).2 = ([], (kidsP set i st0).2) := by unfold kidP; rw [if_neg h4]
      rw [hk] at hsucc
      focus (
 (refine W.seq (W.region (Jx.lssI rfl rfl rfl (J.nil (N.seq (W.seq (W.cT rfl ?_)))))))
 (refine W.skip (N.seq (W.seq (W.block (W.seq (W.region (Jx.move rfl rfl (Jx.assign rfl rfl (J.nil (N.seq (W.seq (W.region (Jx.move rfl rfl (Jx.move rfl rfl ?_))))))))))))))
 (refine Jx.sub64 rfl rfl (by omega) rfl ?_; rw [e2])
 (refine Jx.shrN (n := set) (s := 15 - i) rfl rfl rfl (by simp only [IntKind.bits]; omega) rfl ?_)
 (refine Jx.band rfl rfl rfl ?_; rw [hbd])
 (refine Jx.eqlI rfl rfl rfl (J.nil (N.seq (W.cF rfl ?_))))
 (refine W.skip (N.seq (W.region ?_)))
 (refine Jx.add64 rfl rfl (by omega) rfl ?_; rw [e1])
 (refine Jx.move rfl rfl (J.nil ?_))
 (refine id ?_; rotate_left))
      exact N.round ⟨i + 1, a2, c2⟩ ⟨h3, ha2, by rw [hsucc]; exact hst⟩ (by simp only; omega) (by simp only [hsucc, kidsF_nil hkl h3]) ⟨ref0 rfl, ref0 rfl, ref0 rfl, ref0 rfl, trivial⟩
  · have h3' : ¬ (i : Int) < 16 := by omega
    obtain rfl : i = 16 := by omega
    have ct := rd_Text b s a2 c2 32 ha2 h2
    have hkf : kidsF (kidsP set 16 st0).1 = (kidsP set 16 st0).1 := by unfold kidsF; rw [hkl]; simp
    rw [hst]
    rw [hkf]
    generalize (kidsP set 16 st0).1 = ks at *
    have hsv : ∀ v : Bs, (ndC ⟨3, [], [], ks⟩).set (0 + 2) (str v) = ndC ⟨3, [], v, ks⟩ := fun v => rfl
    focus (
 (refine W.seq (W.region (Jx.lssI rfl rfl rfl (J.nil (N.seq (W.seq (W.cF rfl ?_)))))))
 (refine W.exit (N.seq (W.region (Jx.move rfl rfl (Jx.move rfl rfl ?_)))))
 (refine J.call (Lc := [rdO b ⟨s, a2, c2⟩]) ct rfl (evs_args rfl) rfl ?_; rintro _ _ ⟨v, a3, c3, rfl, rfl, ha3, hT3⟩; rw [List.singleton_append])
 (refine Jx.nilCheck rfl rfl ?_)
 (refine Jx.fieldAddr rfl rfl ?_)
 (refine J.st 1 rfl rfl rfl rfl rfl rfl ?_)
 (refine J.nil ?_)
 (refine id ?_; rotate_left))
    rw [hT3]
    exact N.fin (rs := []) rfl .nil ⟨_, a3, c3, rfl, ha3, rfl⟩
end Go.Proofs.YtaflklbmdbmjbaaGreatDoor
namespace Go.Proofs.YtaflklbmdbmjbaaGreatDoor
open Go Go.Sse
set_option linter.unusedVariables false
set_option linter.unusedSimpArgs false
set_option maxRecDepth 10000
theorem text_le {m : Nat} {st : PSt} : (textP (m : Int) st).1.length ≤ m := by
  rcases h : textP (m : Int) st with ⟨t, r⟩
  cases r with
  | none => rw [textP_short h]; simp
  | some r => have := (textP_good h).2.1; simp only; omega
abbrev no16 : List Bs := List.replicate 16 []
def othP (kd : Int) (st : PSt) : Nd × Bool × PSt :=
  if kd = 1 then (⟨1, (unpP (textP 16 st).1).1, (textP 32 (textP 16 st).2).1, no16⟩, decide ((unpP (textP 16 st).1).2.2 = 0) && ((unpP (textP 16 st).1).2.1 == true), (textP 32 (textP 16 st).2).2)
  else (⟨kd, (unpP (textP 16 st).1).1, [], (bytesP 32 (textP 16 st).2).1 :: List.replicate 15 []⟩, decide ((unpP (textP 16 st).1).2.2 = 0) && ((unpP (textP 16 st).1).2.1 == false), (bytesP 32 (textP 16 st).2).2)
set_option maxHeartbeats 8000000 in
theorem other_ok (b p : Nat) (s : Bs) (a : Nat) (c : Int) (kd : Int) (h1 : a ≤ s.length) (h2 : s.length ≤ 1099511627776) :
    FnC Tryz.prog 49 [ptr b, ptr p] [rdO b ⟨s, a, c⟩, .obj p tNd (ndC ⟨kd, [], [], no16⟩)] (fun r L => ∃ (n : Nd) (q : Bool) (a' : Nat) (c' : Int), r = Sse.bool q ∧ L = [rdO b ⟨s, a', c'⟩, .obj p tNd (ndC n)] ∧ a' ≤ s.length ∧ othP kd (lf s a c) = (n, q, lf s a' c')) := by
  have ct := rd_Text b s a c 16 h1 h2
  have htl := text_le (m := 16) (st := lf s a c)
  unfold othP
  generalize hT : textP 16 (lf s a c) = T at *
  refine FnC.intro Tryz.func49 rfl Tryz.ntmps49 rfl fun Z w0 hG => ?_
  have cu := fun t (ht : t.length ≤ 16) => unpack_ok t (Nat.le_trans ht (by decide))
  by_cases hk : kd = 1
  · subst hk
    rw [if_pos rfl]
    focus (
 (refine W.seq (W.region (Jx.assign rfl rfl (J.nil (N.seq (W.seq (W.region (Jx.move rfl rfl ?_))))))))
 (refine J.call (Lc := [rdO b ⟨s, a, c⟩]) ct rfl (evs_args rfl) rfl ?_; rintro _ _ ⟨t, a1, c1, rfl, rfl, ha1, hT1⟩; rw [List.singleton_append]; obtain rfl := hT1; have c2 := cu t htl; have c3 := rd_Text b s a1 c1 32 ha1 h2; simp only; generalize unpP t = U at *)
 (refine J.call (Lc := []) c2 rfl (evs_args rfl) rfl ?_; rintro _ _ ⟨rfl, rfl⟩; rw [List.nil_append])
 (refine Jx.move rfl rfl (Jx.extract rfl rfl rfl ?_))
 (refine Jx.extract rfl rfl rfl ?_)
 (refine Jx.extract rfl rfl rfl ?_)
 (refine Jx.assign rfl rfl (Jx.assign rfl rfl (Jx.assign rfl rfl (J.nil (N.seq (W.seq (W.region (Jx.move rfl rfl (Jx.move rfl rfl (Jx.nilCheck rfl rfl ?_))))))))))
 (refine Jx.fieldAddr rfl rfl ?_)
 (refine J.st 1 rfl rfl rfl rfl rfl rfl ?_)
 (refine J.nil (N.seq (W.seq (W.seq (W.region (Jx.move rfl rfl (Jx.nilCheck rfl rfl ?_)))))))
 (refine Jx.fieldAddr rfl rfl ?_)
 (refine Jx.load rfl 1 rfl rfl rfl ?_)
 (refine Jx.eqlI rfl rfl rfl (J.nil (N.seq (W.cT rfl ?_))))
 (refine W.region (Jx.move rfl rfl (Jx.move rfl rfl ?_)))
 (refine J.call (Lc := [rdO b ⟨s, a1, c1⟩]) c3 rfl (evs_args rfl) rfl ?_; rintro _ _ ⟨v, a2, c4, rfl, rfl, ha2, hV⟩; rw [List.singleton_append])
 (refine Jx.nilCheck rfl rfl ?_)
 (refine Jx.fieldAddr rfl rfl ?_)
 (refine J.st 1 rfl rfl rfl rfl rfl rfl ?_)
 (refine J.nil (N.seq (W.seq (W.region (Jx.move rfl rfl (Jx.eqlI rfl rfl rfl (Jx.move rfl rfl ?_)))))))
 (refine' J.guardAnd rfl rfl rfl rfl rfl rfl rfl rfl (fun _ => ?_) ?_; rotate_left)
 (refine J.gY rfl rfl rfl ?_)
 (refine Jx.move rfl rfl (J.gY rfl rfl rfl ?_))
 (refine Jx.move rfl rfl (J.gY rfl rfl rfl ?_))
 (refine Jx.nilCheck rfl rfl ?_)
 (refine J.gY rfl rfl rfl ?_)
 (refine Jx.fieldAddr rfl rfl ?_)
 (refine J.gY rfl rfl rfl ?_)
 (refine Jx.load rfl 1 rfl rfl rfl ?_)
 (refine J.gY rfl rfl rfl ?_)
 (refine Jx.eqlI rfl rfl rfl (J.gY rfl rfl rfl ?_))
 (refine Jx.eqlB rfl rfl rfl ?_)
 (refine J.nil ?_)
 (refine N.joinedN rfl rfl rfl)
 (refine Jx.assign rfl rfl (J.nil (N.seq (W.ret ?_))))
 (refine id ?_; rotate_left))
    rw [hV]
    exact N.ret (rs := [.tmp 4]) rfl (.tmp rfl .nil) ⟨_, _, a2, c4, rfl, rfl, ha2, rfl⟩
  · rw [if_neg hk]
    focus (
 (refine W.seq (W.region (Jx.assign rfl rfl (J.nil (N.seq (W.seq (W.region (Jx.move rfl rfl ?_))))))))
 (refine J.call (Lc := [rdO b ⟨s, a, c⟩]) ct rfl (evs_args rfl) rfl ?_; rintro _ _ ⟨t, a1, c1, rfl, rfl, ha1, hT1⟩; rw [List.singleton_append]; obtain rfl := hT1; have c2 := cu t htl; have c3 := rd_Bytes b s a1 c1 32 ha1 h2; simp only; generalize unpP t = U at *)
 (refine J.call (Lc := []) c2 rfl (evs_args rfl) rfl ?_; rintro _ _ ⟨rfl, rfl⟩; rw [List.nil_append])
 (refine Jx.move rfl rfl (Jx.extract rfl rfl rfl ?_))
 (refine Jx.extract rfl rfl rfl ?_)
 (refine Jx.extract rfl rfl rfl ?_)
 (refine Jx.assign rfl rfl (Jx.assign rfl rfl (Jx.assign rfl rfl (J.nil (N.seq (W.seq (W.region (Jx.move rfl rfl (Jx.move rfl rfl (Jx.nilCheck rfl rfl ?_))))))))))
 (refine Jx.fieldAddr rfl rfl ?_)
 (refine J.st 1 rfl rfl rfl rfl rfl rfl ?_)
 (refine J.nil (N.seq (W.seq (W.seq (W.region (Jx.move rfl rfl (Jx.nilCheck rfl rfl ?_)))))))
 (refine Jx.fieldAddr rfl rfl ?_)
 (refine Jx.load rfl 1 rfl rfl rfl ?_)
 (refine Jx.eqlI rfl rfl rfl (J.nil (N.seq (W.cF rfl ?_))))
 (refine W.draw follows ?_)
 (refine JD.begin 7 rfl ?_; refine JP.more [0, 1, 3, 4] _ rfl (by decide +kernel) ?_)
 (refine Cx.move rfl rfl ?_)
 (refine Cx.move rfl rfl ?_)
 (refine Cx.nilCheck rfl rfl ?_)
 (refine Cx.fieldAddr rfl rfl ?_)
 (refine SegC.nil ?_)
 (focus (refine JP.call (idx := [0, 1, 3, 4]) (Lc := [rdO b ⟨s, a1, c1⟩]) 2 [30] [1, 2] [0, 3, 4] c3 rfl (by decide +kernel) rfl ?_ (evs_args rfl) rfl ?_; rotate_left); rintro _ _ ⟨v, a2, c4, rfl, rfl, ha2, hV⟩; rw [List.singleton_append])
 (refine JP.tail (idx := [0, 3, 4]) 5 (by decide +kernel) (by decide +kernel) rfl rfl ?_ ?_)
 (refine Cx.move rfl rfl ?_)
 (refine Cx.nilCheck rfl rfl ?_)
 (refine Cx.fieldAddr rfl rfl ?_)
 (refine SegC.nil ?_)
 (refine Ag.cons rfl ?_)
 (refine Ag.cons rfl ?_)
 (refine Ag.cons rfl ?_)
 (refine Ag.nil)
 (refine Jx.indexA 0 rfl rfl rfl (by decide) rfl ?_)
 (refine J.st 1 rfl rfl rfl rfl rfl rfl ?_)
 (refine J.nil (N.seq (W.seq (W.region (Jx.move rfl rfl (Jx.eqlI rfl rfl rfl (Jx.move rfl rfl ?_)))))))
 (refine' J.guardAnd rfl rfl rfl rfl rfl rfl rfl rfl (fun _ => ?_) ?_; rotate_left)
 (refine J.gY rfl rfl rfl ?_)
 (refine Jx.move rfl rfl (J.gY rfl rfl rfl ?_))
 (refine Jx.move rfl rfl (J.gY rfl rfl rfl ?_))
 (refine Jx.nilCheck rfl rfl ?_)
 (refine J.gY rfl rfl rfl ?_)
 (refine Jx.fieldAddr rfl rfl ?_)
 (refine J.gY rfl rfl rfl ?_)
 (refine Jx.load rfl 1 rfl rfl rfl ?_)
 (refine J.gY rfl rfl rfl ?_)
 (refine Jx.eqlI rfl rfl rfl (J.gY rfl rfl rfl ?_))
 (refine Jx.eqlB rfl rfl rfl ?_)
 (refine J.nil ?_)
 (refine N.joinedN rfl rfl rfl)
 (refine Jx.assign rfl rfl (J.nil (N.seq (W.ret ?_))))
 (refine id ?_; rotate_left)
 (refine Cx.move rfl rfl ?_)
 (refine Cx.move rfl rfl ?_)
 (refine Cx.nilCheck rfl rfl ?_)
 (refine Cx.fieldAddr rfl rfl ?_)
 (refine SegC.nil ?_)
 (refine Ag.cons rfl ?_)
 (refine Ag.cons rfl ?_)
 (refine Ag.cons rfl ?_)
 (refine Ag.cons rfl ?_)
 (refine Ag.nil))
    rw [hV]
    have hd : decide (kd = 1) = false := decide_eq_false hk
    refine N.ret (rs := [.tmp 4]) rfl (.tmp rfl .nil) ⟨⟨kd, U.1, [], v :: List.replicate 15 []⟩, _, a2, c4, rfl, rfl, ha2, ?_⟩
    simp only [hd]
def kindP (t : Bs) : Int := if t = [] then 0 else ((t.getD 0 0).toNat : Int)
def bodP (kd : Int) (st : PSt) : Nd × Bool × PSt := if kd = 3 then ((brP st).1, true, (brP st).2) else othP kd st
def endP (x : Nd × Bool × PSt) : Nd × Int := if x.2.2 = some [] ∧ x.2.1 = true ∧ fineNd x.1 = true then (x.1, 0) else (nd0, 80)
def decN (s : Bs) : Nd × Int := endP (bodP (kindP (bytesP 1 (some s)).1) (bytesP 1 (some s)).2)
theorem brP_len (st : PSt) : (brP st).1.kids.length = 16 ∧ (brP st).1.path.length ≤ 1000000 := by
  unfold brP
  split
  · exact ⟨by simp, by simp⟩
  · exact ⟨kidsP_len _ _ _, by simp⟩
theorem unpP_len {s : Bs} (h : s.length ≤ 16) : (unpP s).1.length ≤ 1000000 := by
  unfold unpP
  split
  · simp
  rename_i b r
  simp only [List.length_cons] at h
  split
  · simp
  · split
    · simp only [List.length_cons, ofN_len]; omega
    · rw [ofN_len]; omega
theorem othP_len (kd : Int) (st : PSt) : (othP kd st).1.kids.length = 16 ∧ (othP kd st).1.path.length ≤ 1000000 := by
  have h := unpP_len (text_le (m := 16) (st := st))
  unfold othP
  split
  · exact ⟨by simp, h⟩
  · exact ⟨by simp, h⟩
theorem bodP_len (kd : Int) (st : PSt) : (bodP kd st).1.kids.length = 16 ∧ (bodP kd st).1.path.length ≤ 1000000 := by
  unfold bodP
  split
  · exact brP_len st
  · exact othP_len kd st
theorem decN_ok (s : Bs) (h : (decN s).2 = 0) : okNd (decN s).1 := by
  unfold decN at h ⊢
  have hl := bodP_len (kindP (bytesP 1 (some s)).1) (bytesP 1 (some s)).2
  generalize bodP (kindP (bytesP 1 (some s)).1) (bytesP 1 (some s)).2 = x at *
  unfold endP at h ⊢
  split
  · rename_i h1; exact fine_ok hl.1 h1.2.2
  · rename_i h1; rw [if_neg h1] at h; simp at h
theorem endP_no {n : Nd} {q : Bool} {st : PSt} (h : ¬ (st = some [] ∧ q = true ∧ fineNd n = true)) : endP (n, q, st) = (nd0, 80) := if_neg h
theorem endP_yes {n : Nd} {q : Bool} {st : PSt} (h : st = some [] ∧ q = true ∧ fineNd n = true) : endP (n, q, st) = (n, 0) := if_pos h
theorem agN : TAg Tryz.prog tNd 19 := inferInstance
set_option maxHeartbeats 16000000 in
theorem decode_ok (s : Bs) (h2 : s.length ≤ 1000000) : FnC Tryz.prog 30 [str s] [] (fun r L => r = .tup [.agg (ndC (decN s).1), int (decN s).2] ∧ L = []) := by
  have cr := read_ok s
  have h2' : s.length ≤ 1099511627776 := by omega
  have cb := fun b => rd_Bytes b s 0 0 1 (Nat.zero_le _) h2'
  have h0 : lf s 0 0 = some s := rfl
  simp only [h0] at cb
  unfold decN
  have hbl := bytes_len (n := 1) (st := some s)
  generalize hB : bytesP 1 (some s) = B at *
  refine FnC.intro Tryz.func30 rfl Tryz.ntmps30 rfl fun Z w0 hG => ?_
  focus (
 (refine W.seq (W.region ?_))
 (refine J.alloc (d := 2) (by simp only [List.map_cons, List.map_nil]; rfl) rfl rfl ?_; intro p2)
 (refine Jx.assign rfl rfl (J.nil (N.seq (W.seq (W.region (Jx.move rfl rfl ?_))))))
 (refine J.call (Lc := []) cr rfl (evs_args rfl) rfl ?_; rintro _ _ ⟨b, rfl, rfl⟩; rw [List.singleton_append])
 (refine Jx.assign rfl rfl (J.nil (N.seq (W.seq (W.region ?_)))))
 (refine J.alloc (d := 5) (by simp only [List.map_cons, List.map_nil]; rfl) rfl rfl ?_; intro p5)
 (refine J.nil (N.seq (W.seq (W.seq (W.region (Jx.move rfl rfl ?_))))))
 (refine J.perm (List.Perm.swap _ _ _) ?_; refine J.call (Lc := [rdO b ⟨s, 0, 0⟩]) (cb b) rfl (evs_args rfl) rfl ?_; rintro _ _ ⟨t, a1, c1, rfl, rfl, ha1, hB1⟩; rw [List.singleton_append]; obtain rfl := hB1)
 (refine Jx.assign rfl rfl (J.nil (N.seq (W.seq (W.region (Jx.move rfl rfl (Jx.neqS rfl rfl rfl (J.nil (N.seq ?_)))))))))
 (refine id ?_; rotate_left))
  simp only at hbl ⊢
  by_cases ht : t = []
  · have hkd : kindP t = 0 := if_pos ht
    have co := other_ok b p5 s a1 c1 0 ha1 h2'
    focus (
 (refine W.cF rfl ?_)
 (refine W.skip (N.seq (W.seq (W.region (Jx.assign rfl rfl (J.nil (N.seq (W.seq (W.seq (W.region (Jx.fieldAddr rfl rfl ?_)))))))))))
 (refine Jx.load rfl 1 rfl rfl rfl ?_)
 (refine Jx.eqlI rfl rfl rfl (J.nil (N.seq (W.cF rfl ?_))))
 (refine W.region (Jx.move rfl rfl ?_))
 (refine J.call co rfl (evs_args rfl) rfl ?_; rintro _ _ ⟨n, q, a2, c2, rfl, rfl, ha2, hO⟩; simp only [List.cons_append, List.nil_append]; have hbod : bodP (kindP t) (lf s a1 c1) = (n, q, lf s a2 c2) := (by unfold bodP; rw [hkd, if_neg (by decide)]; exact hO); have hl := bodP_len (kindP t) (lf s a1 c1); rw [hbod] at hl; have hbq : Nat.beq (ndC n).length 19 = true := (by rw [ndC_len hl.1]; rfl); have ce := rd_End b s a2 c2 ha2 h2'; have cc := ncheck_ok n hl.1 hl.2; rw [hbod])
 (refine Jx.assign rfl rfl (J.nil (N.seq (W.seq (W.seq (W.region (Jx.move rfl rfl ?_)))))))
 (refine J.call (Lc := [rdO b ⟨s, a2, c2⟩]) ce rfl (evs_args rfl) rfl ?_; rintro _ _ ⟨e, a3, c3, rfl, rfl, he⟩; rw [List.singleton_append])
 (refine Jx.neqI rfl rfl rfl (Jx.move rfl rfl ?_))
 (refine' J.guardOr rfl rfl rfl rfl rfl rfl rfl rfl (fun _ => ?_) ?_; rotate_left)
 (refine J.gY rfl rfl rfl ?_)
 (refine Jx.move rfl rfl (J.gY rfl rfl rfl ?_))
 (refine Jx.not rfl rfl (J.nil ?_))
 (refine N.joinedN rfl rfl rfl)
 (refine Jx.move rfl rfl ?_)
 (refine' J.guardOr rfl rfl rfl rfl rfl rfl rfl rfl (fun _ => ?_) ?_; rotate_left)
 (refine J.gY rfl rfl rfl ?_)
 (refine Jx.loadAll rfl 1 rfl hbq rfl ?_)
 (refine J.gY rfl rfl rfl ?_)
 (refine J.call (Lc := []) cc rfl (evs_args rfl) rfl ?_; rintro _ _ ⟨rfl, rfl⟩; rw [List.nil_append])
 (refine J.gY rfl rfl rfl ?_)
 (refine Jx.neqI rfl rfl rfl (J.nil ?_))
 (refine N.joinedN rfl rfl rfl)
 (refine J.nil (N.seq ?_))
 (refine id ?_; rotate_left))
    by_cases hall : lf s a2 c2 = some [] ∧ q = true ∧ fineNd n = true
    · have hX : (decide (e ≠ 0) || !q || decide ((if fineNd n = true then (0 : Int) else 80) ≠ 0)) = false := by
        rw [if_pos hall.2.2, hall.2.1, he.2 hall.1]; rfl
      rw [endP_yes hall]
      focus (
 (refine W.cF rfl ?_)
 (refine W.skip (N.seq (W.seq (W.region ?_))))
 (refine Jx.loadAll rfl 1 rfl hbq rfl ?_)
 (refine J.storeAll rfl rfl hbq 2 rfl rfl rfl ?_)
 (refine Jx.assign rfl rfl (J.nil (N.seq (W.ret ?_))))
 (refine id ?_; rotate_left))
      exact N.retD (rs := [.cell 2 tNd, .tmp 3]) (L1 := []) rfl (.cell rfl 2 rfl (by rw [ndC_len hl.1]; exact agN) (.tmp rfl .nil)) (List.nil_sublist _) ⟨rfl, rfl⟩
    · have hX : (decide (e ≠ 0) || !q || decide ((if fineNd n = true then (0 : Int) else 80) ≠ 0)) = true := by
        by_cases q1 : e = 0
        · by_cases q2 : q = true
          · rw [if_neg (fun h => hall ⟨he.1 q1, q2, h⟩)]; simp
          · simp at q2; subst q2; simp
        · simp [q1]
      rw [endP_no hall]
      focus (
 (refine W.cT rfl ?_)
 (refine W.seq (W.region (Jx.buildB rfl rfl rfl rfl rfl ?_)))
 (refine J.storeAll rfl rfl rfl 2 rfl rfl rfl ?_)
 (refine Jx.assign rfl rfl (J.nil (N.seq (W.ret (N.noGotoRet ?_)))))
 (refine id ?_; rotate_left))
      exact N.retD (rs := [.cell 2 tNd, .tmp 3]) (L1 := []) rfl (.cell rfl 2 rfl agN (.tmp rfl .nil)) (List.nil_sublist _) ⟨rfl, rfl⟩
  have hl1 : t.length = 1 := by
    rcases hbl with h | h
    · exact absurd h ht
    · exact h
  have l0 : (0 : Int) < (t.length : Int) := by omega
  have t0 : t.getD (Int.toNat 0) 0 = t.getD 0 0 := rfl
  have hkd : kindP t = ((t.getD 0 0).toNat : Int) := if_neg ht
  by_cases hk3 : ((t.getD 0 0).toNat : Int) = 3
  · have cbr := branch_ok b p5 s a1 c1 ha1 h2'
    focus (
 (refine W.cT rfl ?_)
 (refine W.region (Jx.move rfl rfl ?_))
 (refine Jx.indexS rfl rfl (by decide) l0 rfl ?_; rw [t0])
 (refine Jx.byteNum rfl rfl rfl ?_; rw [hk3])
 (refine Jx.fieldAddr rfl rfl ?_)
 (refine J.st 1 rfl rfl rfl rfl rfl rfl ?_)
 (refine J.nil (N.seq (W.seq (W.region (Jx.assign rfl rfl (J.nil (N.seq (W.seq (W.seq (W.region (Jx.fieldAddr rfl rfl ?_)))))))))))
 (refine Jx.load rfl 1 rfl rfl rfl ?_)
 (refine Jx.eqlI rfl rfl rfl (J.nil (N.seq (W.cT rfl ?_))))
 (refine W.region (Jx.move rfl rfl ?_))
 (refine J.call cbr rfl (evs_args rfl) rfl ?_; rintro _ _ ⟨n, a2, c2, rfl, ha2, hO⟩; simp only [List.cons_append, List.nil_append]; obtain ⟨q, hq⟩ : ∃ q : Bool, q = true := ⟨_, rfl⟩; have hbod : bodP (kindP t) (lf s a1 c1) = (n, q, lf s a2 c2) := (by unfold bodP; rw [hkd, if_pos hk3, hO, hq]); have hl := bodP_len (kindP t) (lf s a1 c1); rw [hbod] at hl; have hbq : Nat.beq (ndC n).length 19 = true := (by rw [ndC_len hl.1]; rfl); have ce := rd_End b s a2 c2 ha2 h2'; have cc := ncheck_ok n hl.1 hl.2; rw [hbod])
 (refine J.nil (N.seq (W.seq (W.seq (W.region (Jx.move rfl rfl ?_))))))
 (refine J.call (Lc := [rdO b ⟨s, a2, c2⟩]) ce rfl (evs_args rfl) rfl ?_; rintro _ _ ⟨e, a3, c3, rfl, rfl, he⟩; rw [List.singleton_append])
 (refine Jx.neqI rfl rfl rfl (Jx.move rfl rfl ?_))
 (refine' J.guardOr rfl rfl rfl rfl rfl rfl rfl rfl (fun _ => ?_) ?_; rotate_left)
 (refine J.gY rfl rfl rfl ?_)
 (refine Jx.move rfl rfl (J.gY rfl rfl rfl ?_))
 (refine Jx.not rfl rfl (J.nil ?_))
 (refine N.joinedN rfl rfl rfl)
 (refine Jx.move rfl rfl ?_)
 (refine' J.guardOr rfl rfl rfl rfl rfl rfl rfl rfl (fun _ => ?_) ?_; rotate_left)
 (refine J.gY rfl rfl rfl ?_)
 (refine Jx.loadAll rfl 1 rfl hbq rfl ?_)
 (refine J.gY rfl rfl rfl ?_)
 (refine J.call (Lc := []) cc rfl (evs_args rfl) rfl ?_; rintro _ _ ⟨rfl, rfl⟩; rw [List.nil_append])
 (refine J.gY rfl rfl rfl ?_)
 (refine Jx.neqI rfl rfl rfl (J.nil ?_))
 (refine N.joinedN rfl rfl rfl)
 (refine J.nil (N.seq ?_))
 (refine id ?_; rotate_left))
    by_cases hall : lf s a2 c2 = some [] ∧ q = true ∧ fineNd n = true
    · have hX : (decide (e ≠ 0) || !true || decide ((if fineNd n = true then (0 : Int) else 80) ≠ 0)) = false := by
        rw [if_pos hall.2.2, he.2 hall.1]; rfl
      rw [endP_yes hall]
      focus (
 (refine W.cF rfl ?_)
 (refine W.skip (N.seq (W.seq (W.region ?_))))
 (refine Jx.loadAll rfl 1 rfl hbq rfl ?_)
 (refine J.storeAll rfl rfl hbq 2 rfl rfl rfl ?_)
 (refine Jx.assign rfl rfl (J.nil (N.seq (W.ret ?_))))
 (refine id ?_; rotate_left))
      exact N.retD (rs := [.cell 2 tNd, .tmp 3]) (L1 := []) rfl (.cell rfl 2 rfl (by rw [ndC_len hl.1]; exact agN) (.tmp rfl .nil)) (List.nil_sublist _) ⟨rfl, rfl⟩
    · have hX : (decide (e ≠ 0) || !true || decide ((if fineNd n = true then (0 : Int) else 80) ≠ 0)) = true := by
        by_cases q1 : e = 0
        · by_cases q2 : q = true
          · rw [if_neg (fun h => hall ⟨he.1 q1, q2, h⟩)]; simp
          · exact absurd hq q2
        · simp [q1]
      rw [endP_no hall]
      focus (
 (refine W.cT rfl ?_)
 (refine W.seq (W.region (Jx.buildB rfl rfl rfl rfl rfl ?_)))
 (refine J.storeAll rfl rfl rfl 2 rfl rfl rfl ?_)
 (refine Jx.assign rfl rfl (J.nil (N.seq (W.ret (N.noGotoRet ?_)))))
 (refine id ?_; rotate_left))
      exact N.retD (rs := [.cell 2 tNd, .tmp 3]) (L1 := []) rfl (.cell rfl 2 rfl agN (.tmp rfl .nil)) (List.nil_sublist _) ⟨rfl, rfl⟩
  · obtain ⟨kd, hkdd⟩ : ∃ kd : Int, ((t.getD 0 0).toNat : Int) = kd := ⟨_, rfl⟩
    rw [hkdd] at hk3 hkd
    have co := other_ok b p5 s a1 c1 kd ha1 h2'
    focus (
 (refine W.cT rfl ?_)
 (refine W.region (Jx.move rfl rfl ?_))
 (refine Jx.indexS rfl rfl (by decide) l0 rfl ?_; rw [t0])
 (refine Jx.byteNum rfl rfl rfl ?_; rw [hkdd])
 (refine Jx.fieldAddr rfl rfl ?_)
 (refine J.st 1 rfl rfl rfl rfl rfl rfl ?_)
 (refine J.nil (N.seq (W.seq (W.region (Jx.assign rfl rfl (J.nil (N.seq (W.seq (W.seq (W.region (Jx.fieldAddr rfl rfl ?_)))))))))))
 (refine Jx.load rfl 1 rfl rfl rfl ?_)
 (refine Jx.eqlI rfl rfl rfl (J.nil (N.seq (W.cF rfl ?_))))
 (refine W.region (Jx.move rfl rfl ?_))
 (refine J.call co rfl (evs_args rfl) rfl ?_; rintro _ _ ⟨n, q, a2, c2, rfl, rfl, ha2, hO⟩; simp only [List.cons_append, List.nil_append]; have hbod : bodP (kindP t) (lf s a1 c1) = (n, q, lf s a2 c2) := (by unfold bodP; rw [hkd, if_neg hk3]; exact hO); have hl := bodP_len (kindP t) (lf s a1 c1); rw [hbod] at hl; have hbq : Nat.beq (ndC n).length 19 = true := (by rw [ndC_len hl.1]; rfl); have ce := rd_End b s a2 c2 ha2 h2'; have cc := ncheck_ok n hl.1 hl.2; rw [hbod])
 (refine Jx.assign rfl rfl (J.nil (N.seq (W.seq (W.seq (W.region (Jx.move rfl rfl ?_)))))))
 (refine J.call (Lc := [rdO b ⟨s, a2, c2⟩]) ce rfl (evs_args rfl) rfl ?_; rintro _ _ ⟨e, a3, c3, rfl, rfl, he⟩; rw [List.singleton_append])
 (refine Jx.neqI rfl rfl rfl (Jx.move rfl rfl ?_))
 (refine' J.guardOr rfl rfl rfl rfl rfl rfl rfl rfl (fun _ => ?_) ?_; rotate_left)
 (refine J.gY rfl rfl rfl ?_)
 (refine Jx.move rfl rfl (J.gY rfl rfl rfl ?_))
 (refine Jx.not rfl rfl (J.nil ?_))
 (refine N.joinedN rfl rfl rfl)
 (refine Jx.move rfl rfl ?_)
 (refine' J.guardOr rfl rfl rfl rfl rfl rfl rfl rfl (fun _ => ?_) ?_; rotate_left)
 (refine J.gY rfl rfl rfl ?_)
 (refine Jx.loadAll rfl 1 rfl hbq rfl ?_)
 (refine J.gY rfl rfl rfl ?_)
 (refine J.call (Lc := []) cc rfl (evs_args rfl) rfl ?_; rintro _ _ ⟨rfl, rfl⟩; rw [List.nil_append])
 (refine J.gY rfl rfl rfl ?_)
 (refine Jx.neqI rfl rfl rfl (J.nil ?_))
 (refine N.joinedN rfl rfl rfl)
 (refine J.nil (N.seq ?_))
 (refine id ?_; rotate_left))
    by_cases hall : lf s a2 c2 = some [] ∧ q = true ∧ fineNd n = true
    · have hX : (decide (e ≠ 0) || !q || decide ((if fineNd n = true then (0 : Int) else 80) ≠ 0)) = false := by
        rw [if_pos hall.2.2, hall.2.1, he.2 hall.1]; rfl
      rw [endP_yes hall]
      focus (
 (refine W.cF rfl ?_)
 (refine W.skip (N.seq (W.seq (W.region ?_))))
 (refine Jx.loadAll rfl 1 rfl hbq rfl ?_)
 (refine J.storeAll rfl rfl hbq 2 rfl rfl rfl ?_)
 (refine Jx.assign rfl rfl (J.nil (N.seq (W.ret ?_))))
 (refine id ?_; rotate_left))
      exact N.retD (rs := [.cell 2 tNd, .tmp 3]) (L1 := []) rfl (.cell rfl 2 rfl (by rw [ndC_len hl.1]; exact agN) (.tmp rfl .nil)) (List.nil_sublist _) ⟨rfl, rfl⟩
    · have hX : (decide (e ≠ 0) || !q || decide ((if fineNd n = true then (0 : Int) else 80) ≠ 0)) = true := by
        by_cases q1 : e = 0
        · by_cases q2 : q = true
          · rw [if_neg (fun h => hall ⟨he.1 q1, q2, h⟩)]; simp
          · simp at q2; subst q2; simp
        · simp [q1]
      rw [endP_no hall]
      focus (
 (refine W.cT rfl ?_)
 (refine W.seq (W.region (Jx.buildB rfl rfl rfl rfl rfl ?_)))
 (refine J.storeAll rfl rfl rfl 2 rfl rfl rfl ?_)
 (refine Jx.assign rfl rfl (J.nil (N.seq (W.ret (N.noGotoRet ?_)))))
 (refine id ?_; rotate_left))
      exact N.retD (rs := [.cell 2 tNd, .tmp 3]) (L1 := []) rfl (.cell rfl 2 rfl agN (.tmp rfl .nil)) (List.nil_sublist _) ⟨rfl, rfl⟩
end Go.Proofs.YtaflklbmdbmjbaaGreatDoor
namespace Go.Proofs.YtaflklbmdbmjbaaGreatDoor
open Go Go.Sse
set_option linter.unusedVariables false
set_option linter.unusedSimpArgs false
set_option maxRecDepth 10000
theorem nd_cell {n : Nd} (hn : n.kids.length = 16) {j : Nat} (hj : j < 16) : (ndC n)[0 + 3 + j]? = some (str (n.kid j)) := by
  rw [show 0 + 3 + j = j + 3 by omega]
  show (n.kids.map str)[j]? = _
  rw [List.getElem?_map, List.getElem?_eq_getElem (by omega), Nd.kid, List.getD_eq_getElem?_getD, List.getElem?_eq_getElem (by omega)]
  rfl
theorem keyed_ok (k : Bs) : FnC Tryz.prog 13 [str k] [] (fun r L => r = Sse.bool (decide (k ≠ []) && decide ((k.length : Int) ≤ 8)) ∧ L = []) := by
  refine FnC.intro Tryz.func13 rfl Tryz.ntmps13 rfl fun Z w0 hG => ?_
  focus (
 (refine W.seq (W.region (Jx.assign rfl rfl (J.nil (N.seq (W.seq (W.region (Jx.move rfl rfl (Jx.neqS rfl rfl rfl (Jx.move rfl rfl ?_))))))))))
 (refine' J.guardAnd rfl rfl rfl rfl rfl rfl rfl rfl (fun _ => ?_) ?_; rotate_left)
 (refine J.gY rfl rfl rfl ?_)
 (refine Jx.move rfl rfl (J.gY rfl rfl rfl ?_))
 (refine Jx.lenS rfl rfl ?_)
 (refine J.gY rfl rfl rfl ?_)
 (refine Jx.leqI rfl rfl rfl (J.nil ?_))
 (refine N.joinedN rfl rfl rfl)
 (refine Jx.assign rfl rfl (J.nil (N.seq (W.ret ?_))))
 (refine id ?_; rotate_left))
  exact N.ret (rs := [.tmp 2]) rfl (.tmp rfl .nil) ⟨rfl, rfl⟩
set_option maxHeartbeats 8000000 in
theorem step_ok (n : Nd) (left : Bs) (hn : n.kids.length = 16) (hp : n.path.length ≤ 1000000) (hf : ∀ b ∈ left, b.toNat < 16) : FnC Tryz.prog 31 [.agg (ndC n), str left] [] (fun r L => r = .tup [str (stepP n left).1, str (stepP n left).2] ∧ L = []) := by
  have cc := common_ok n.path left hp
  have hc0 := nd_cell hn (j := 0) (by decide)
  have hcl := (com_le n.path left).1
  by_cases hbeg : n.path <+: left
  case neg =>
    have hne : ¬ (comN n.path left : Int) = (n.path.length : Int) := fun e => hbeg ((com_all n.path left).1 (by omega))
    rw [show stepP n left = ([], []) by unfold stepP; rw [if_pos hbeg]]
    refine FnC.intro Tryz.func31 rfl Tryz.ntmps31 rfl fun Z w0 hG => ?_
    focus (
 (refine W.seq (W.region ?_))
 (refine J.boxAg rfl rfl ?_; intro b')
 (refine Jx.assign rfl rfl (Jx.assign rfl rfl (J.nil (N.seq (W.seq ?_)))))
 (refine W.draw follows ?_)
 (refine JD.calm rfl (by decide +kernel) ?_)
 (refine Cx.fieldAddr rfl rfl ?_)
 (refine Cx.load rfl 0 rfl rfl rfl ?_)
 (refine Cx.move rfl rfl ?_)
 (refine SegC.q (Qs.call (Lc := []) (cc) (fun s L' h => h) (List.Perm.refl _) (evs_args rfl)) rfl ?_)
 (refine Cx.fieldAddr rfl rfl ?_)
 (refine Cx.load rfl 0 rfl rfl rfl ?_)
 (refine Cx.lenS rfl rfl ?_)
 (refine Cx.eqlI rfl rfl rfl ?_)
 (refine Cx.assign rfl rfl ?_)
 (refine SegC.nil ?_)
 (refine N.seq (W.seq (W.block (W.seq (W.region (Jx.move rfl rfl (Jx.not rfl rfl (Jx.assign rfl rfl (J.nil (N.seq (W.cT rfl ?_)))))))))))
 (refine W.seq (W.region (Jx.assign rfl rfl (Jx.assign rfl rfl (J.nil (N.seq (W.ret (N.noGotoRet (N.noGotoRet ?_)))))))))
 (refine id ?_; rotate_left))
    exact N.retD (rs := [.tmp 4, .tmp 5]) (L1 := []) rfl (.tmp rfl (.tmp rfl .nil)) (List.nil_sublist _) ⟨rfl, rfl⟩
  have heq : (comN n.path left : Int) = (n.path.length : Int) := by have := (com_all n.path left).2 hbeg; omega
  have hbn : ¬ ¬ n.path <+: left := fun h => h hbeg
  have hle := hbeg.length_le
  have hdr : List.drop (Int.toNat (n.path.length : Int)) left = left.drop n.path.length := by rw [Int.toNat_natCast]
  by_cases h2 : n.kind = 2
  · rw [show stepP n left = (n.kid 0, left.drop n.path.length) by unfold stepP; rw [if_neg hbn, if_pos h2]]
    have l0 : (0 : Int) ≤ (n.path.length : Int) := by omega
    have l1 : (n.path.length : Int) ≤ (left.length : Int) := by omega
    refine FnC.intro Tryz.func31 rfl Tryz.ntmps31 rfl fun Z w0 hG => ?_
    focus (
 (refine W.seq (W.region ?_))
 (refine J.boxAg rfl rfl ?_; intro b')
 (refine Jx.assign rfl rfl (Jx.assign rfl rfl (J.nil (N.seq (W.seq ?_)))))
 (refine W.draw follows ?_)
 (refine JD.calm rfl (by decide +kernel) ?_)
 (refine Cx.fieldAddr rfl rfl ?_)
 (refine Cx.load rfl 0 rfl rfl rfl ?_)
 (refine Cx.move rfl rfl ?_)
 (refine SegC.q (Qs.call (Lc := []) (cc) (fun s L' h => h) (List.Perm.refl _) (evs_args rfl)) rfl ?_)
 (refine Cx.fieldAddr rfl rfl ?_)
 (refine Cx.load rfl 0 rfl rfl rfl ?_)
 (refine Cx.lenS rfl rfl ?_)
 (refine Cx.eqlI rfl rfl rfl ?_)
 (refine Cx.assign rfl rfl ?_)
 (refine SegC.nil ?_)
 (refine N.seq (W.seq (W.block (W.seq (W.region (Jx.move rfl rfl (Jx.not rfl rfl (Jx.assign rfl rfl (J.nil (N.seq (W.cF rfl ?_)))))))))))
 (refine W.seq (W.region (Jx.fieldAddr rfl rfl ?_)))
 (refine Jx.load rfl 0 rfl rfl rfl ?_)
 (refine Jx.eqlI rfl rfl rfl (Jx.assign rfl rfl (J.nil (N.seq (W.cT rfl ?_)))))
 (refine W.seq ?_)
 (refine W.draw follows ?_)
 (refine JD.calm rfl (by decide +kernel) ?_)
 (refine Cx.fieldAddr rfl rfl ?_)
 (refine Cx.indexA 0 rfl rfl rfl (by decide) rfl ?_)
 (refine Cx.load rfl 0 rfl hc0 rfl ?_)
 (refine Cx.move rfl rfl ?_)
 (refine Cx.fieldAddr rfl rfl ?_)
 (refine Cx.load rfl 0 rfl rfl rfl ?_)
 (refine Cx.lenS rfl rfl ?_)
 (refine Cx.sliceSl rfl rfl l0 l1 rfl ?_; rw [hdr])
 (refine Cx.assign rfl rfl ?_)
 (refine Cx.assign rfl rfl ?_)
 (refine SegC.nil ?_)
 (refine N.seq (W.ret (N.noGotoRet (N.noGotoRet ?_))))
 (refine id ?_; rotate_left))
    exact N.retD (rs := [.tmp 4, .tmp 5]) (L1 := []) rfl (.tmp rfl (.tmp rfl .nil)) (List.nil_sublist _) ⟨rfl, rfl⟩
  by_cases h1 : n.kind = 1
  · by_cases hlen : n.path.length < left.length
    · have hlen' : (n.path.length : Int) < (left.length : Int) := by omega
      rw [show stepP n left = ([], []) by unfold stepP; rw [if_neg hbn, if_neg h2, if_pos ⟨h1, hlen⟩]]
      refine FnC.intro Tryz.func31 rfl Tryz.ntmps31 rfl fun Z w0 hG => ?_
      focus (
 (refine W.seq (W.region ?_))
 (refine J.boxAg rfl rfl ?_; intro b')
 (refine Jx.assign rfl rfl (Jx.assign rfl rfl (J.nil (N.seq (W.seq ?_)))))
 (refine W.draw follows ?_)
 (refine JD.calm rfl (by decide +kernel) ?_)
 (refine Cx.fieldAddr rfl rfl ?_)
 (refine Cx.load rfl 0 rfl rfl rfl ?_)
 (refine Cx.move rfl rfl ?_)
 (refine SegC.q (Qs.call (Lc := []) (cc) (fun s L' h => h) (List.Perm.refl _) (evs_args rfl)) rfl ?_)
 (refine Cx.fieldAddr rfl rfl ?_)
 (refine Cx.load rfl 0 rfl rfl rfl ?_)
 (refine Cx.lenS rfl rfl ?_)
 (refine Cx.eqlI rfl rfl rfl ?_)
 (refine Cx.assign rfl rfl ?_)
 (refine SegC.nil ?_)
 (refine N.seq (W.seq (W.block (W.seq (W.region (Jx.move rfl rfl (Jx.not rfl rfl (Jx.assign rfl rfl (J.nil (N.seq (W.cF rfl ?_)))))))))))
 (refine W.seq (W.region (Jx.fieldAddr rfl rfl ?_)))
 (refine Jx.load rfl 0 rfl rfl rfl ?_)
 (refine Jx.eqlI rfl rfl rfl (Jx.assign rfl rfl (J.nil (N.seq (W.cF rfl ?_)))))
 (refine W.seq (W.region (Jx.fieldAddr rfl rfl ?_)))
 (refine Jx.load rfl 0 rfl rfl rfl ?_)
 (refine Jx.eqlI rfl rfl rfl (Jx.move rfl rfl (J.gY rfl rfl rfl ?_)))
 (refine Jx.move rfl rfl (J.gY rfl rfl rfl ?_))
 (refine Jx.lenS rfl rfl ?_)
 (refine J.gY rfl rfl rfl ?_)
 (refine Jx.fieldAddr rfl rfl ?_)
 (refine J.gY rfl rfl rfl ?_)
 (refine Jx.load rfl 0 rfl rfl rfl ?_)
 (refine J.gY rfl rfl rfl ?_)
 (refine Jx.lenS rfl rfl ?_)
 (refine J.gY rfl rfl rfl ?_)
 (refine Jx.gtrI rfl rfl rfl (Jx.pT rfl rfl rfl ?_))
 (refine Jx.assign rfl rfl (J.nil (N.seq (W.cT rfl ?_))))
 (refine W.seq (W.region (Jx.assign rfl rfl (Jx.assign rfl rfl (J.nil (N.seq (W.ret (N.noGotoRet (N.noGotoRet ?_)))))))))
 (refine id ?_; rotate_left))
      exact N.retD (rs := [.tmp 4, .tmp 5]) (L1 := []) rfl (.tmp rfl (.tmp rfl .nil)) (List.nil_sublist _) ⟨rfl, rfl⟩
    · have hlen' : ¬ (n.path.length : Int) < (left.length : Int) := by omega
      rw [show stepP n left = ([], n.value) by unfold stepP; rw [if_neg hbn, if_neg h2, if_neg (fun h => hlen h.2), if_pos (.inl h1)]]
      refine FnC.intro Tryz.func31 rfl Tryz.ntmps31 rfl fun Z w0 hG => ?_
      focus (
 (refine W.seq (W.region ?_))
 (refine J.boxAg rfl rfl ?_; intro b')
 (refine Jx.assign rfl rfl (Jx.assign rfl rfl (J.nil (N.seq (W.seq ?_)))))
 (refine W.draw follows ?_)
 (refine JD.calm rfl (by decide +kernel) ?_)
 (refine Cx.fieldAddr rfl rfl ?_)
 (refine Cx.load rfl 0 rfl rfl rfl ?_)
 (refine Cx.move rfl rfl ?_)
 (refine SegC.q (Qs.call (Lc := []) (cc) (fun s L' h => h) (List.Perm.refl _) (evs_args rfl)) rfl ?_)
 (refine Cx.fieldAddr rfl rfl ?_)
 (refine Cx.load rfl 0 rfl rfl rfl ?_)
 (refine Cx.lenS rfl rfl ?_)
 (refine Cx.eqlI rfl rfl rfl ?_)
 (refine Cx.assign rfl rfl ?_)
 (refine SegC.nil ?_)
 (refine N.seq (W.seq (W.block (W.seq (W.region (Jx.move rfl rfl (Jx.not rfl rfl (Jx.assign rfl rfl (J.nil (N.seq (W.cF rfl ?_)))))))))))
 (refine W.seq (W.region (Jx.fieldAddr rfl rfl ?_)))
 (refine Jx.load rfl 0 rfl rfl rfl ?_)
 (refine Jx.eqlI rfl rfl rfl (Jx.assign rfl rfl (J.nil (N.seq (W.cF rfl ?_)))))
 (refine W.seq (W.region (Jx.fieldAddr rfl rfl ?_)))
 (refine Jx.load rfl 0 rfl rfl rfl ?_)
 (refine Jx.eqlI rfl rfl rfl (Jx.move rfl rfl (J.gY rfl rfl rfl ?_)))
 (refine Jx.move rfl rfl (J.gY rfl rfl rfl ?_))
 (refine Jx.lenS rfl rfl ?_)
 (refine J.gY rfl rfl rfl ?_)
 (refine Jx.fieldAddr rfl rfl ?_)
 (refine J.gY rfl rfl rfl ?_)
 (refine Jx.load rfl 0 rfl rfl rfl ?_)
 (refine J.gY rfl rfl rfl ?_)
 (refine Jx.lenS rfl rfl ?_)
 (refine J.gY rfl rfl rfl ?_)
 (refine Jx.gtrI rfl rfl rfl (Jx.pT rfl rfl rfl ?_))
 (refine Jx.assign rfl rfl (J.nil (N.seq (W.cF rfl ?_))))
 (refine W.seq (W.region (Jx.fieldAddr rfl rfl ?_)))
 (refine Jx.load rfl 0 rfl rfl rfl ?_)
 (refine Jx.eqlI rfl rfl rfl (Jx.move rfl rfl (J.gN rfl rfl rfl rfl ?_)))
 (refine J.gN rfl rfl rfl rfl ?_)
 (refine Jx.pT rfl rfl rfl ?_)
 (refine Jx.assign rfl rfl (J.nil (N.seq (W.cT rfl ?_))))
 (refine W.seq ?_)
 (refine W.draw follows ?_)
 (refine JD.calm rfl (by decide +kernel) ?_)
 (refine Cx.fieldAddr rfl rfl ?_)
 (refine Cx.load rfl 0 rfl rfl rfl ?_)
 (refine Cx.assign rfl rfl ?_)
 (refine Cx.assign rfl rfl ?_)
 (refine SegC.nil ?_)
 (refine N.seq (W.ret (N.noGotoRet (N.noGotoRet ?_))))
 (refine id ?_; rotate_left))
      exact N.retD (rs := [.tmp 4, .tmp 5]) (L1 := []) rfl (.tmp rfl (.tmp rfl .nil)) (List.nil_sublist _) ⟨rfl, rfl⟩
  cases left with
  | nil =>
    rw [show stepP n [] = ([], n.value) by unfold stepP; rw [if_neg hbn, if_neg h2, if_neg (fun h => h1 h.1), if_pos (.inr rfl)]]
    refine FnC.intro Tryz.func31 rfl Tryz.ntmps31 rfl fun Z w0 hG => ?_
    focus (
 (refine W.seq (W.region ?_))
 (refine J.boxAg rfl rfl ?_; intro b')
 (refine Jx.assign rfl rfl (Jx.assign rfl rfl (J.nil (N.seq (W.seq ?_)))))
 (refine W.draw follows ?_)
 (refine JD.calm rfl (by decide +kernel) ?_)
 (refine Cx.fieldAddr rfl rfl ?_)
 (refine Cx.load rfl 0 rfl rfl rfl ?_)
 (refine Cx.move rfl rfl ?_)
 (refine SegC.q (Qs.call (Lc := []) (cc) (fun s L' h => h) (List.Perm.refl _) (evs_args rfl)) rfl ?_)
 (refine Cx.fieldAddr rfl rfl ?_)
 (refine Cx.load rfl 0 rfl rfl rfl ?_)
 (refine Cx.lenS rfl rfl ?_)
 (refine Cx.eqlI rfl rfl rfl ?_)
 (refine Cx.assign rfl rfl ?_)
 (refine SegC.nil ?_)
 (refine N.seq (W.seq (W.block (W.seq (W.region (Jx.move rfl rfl (Jx.not rfl rfl (Jx.assign rfl rfl (J.nil (N.seq (W.cF rfl ?_)))))))))))
 (refine W.seq (W.region (Jx.fieldAddr rfl rfl ?_)))
 (refine Jx.load rfl 0 rfl rfl rfl ?_)
 (refine Jx.eqlI rfl rfl rfl (Jx.assign rfl rfl (J.nil (N.seq (W.cF rfl ?_)))))
 (refine W.seq (W.region (Jx.fieldAddr rfl rfl ?_)))
 (refine Jx.load rfl 0 rfl rfl rfl ?_)
 (refine Jx.eqlI rfl rfl rfl (Jx.move rfl rfl (J.gN rfl rfl rfl rfl ?_)))
 (refine J.gN rfl rfl rfl rfl ?_)
 (refine J.gN rfl rfl rfl rfl ?_)
 (refine J.gN rfl rfl rfl rfl ?_)
 (refine J.gN rfl rfl rfl rfl ?_)
 (refine J.gN rfl rfl rfl rfl ?_)
 (refine Jx.pF rfl rfl rfl ?_)
 (refine Jx.assign rfl rfl (J.nil (N.seq (W.cF rfl ?_))))
 (refine W.seq (W.region (Jx.fieldAddr rfl rfl ?_)))
 (refine Jx.load rfl 0 rfl rfl rfl ?_)
 (refine Jx.eqlI rfl rfl rfl (Jx.move rfl rfl (J.gY rfl rfl rfl ?_)))
 (refine Jx.move rfl rfl (J.gY rfl rfl rfl ?_))
 (refine Jx.eqlS rfl rfl rfl (Jx.pF rfl rfl rfl ?_))
 (refine Jx.assign rfl rfl (J.nil (N.seq (W.cT rfl ?_))))
 (refine W.seq ?_)
 (refine W.draw follows ?_)
 (refine JD.calm rfl (by decide +kernel) ?_)
 (refine Cx.fieldAddr rfl rfl ?_)
 (refine Cx.load rfl 0 rfl rfl rfl ?_)
 (refine Cx.assign rfl rfl ?_)
 (refine Cx.assign rfl rfl ?_)
 (refine SegC.nil ?_)
 (refine N.seq (W.ret (N.noGotoRet (N.noGotoRet ?_))))
 (refine id ?_; rotate_left))
    exact N.retD (rs := [.tmp 4, .tmp 5]) (L1 := []) rfl (.tmp rfl (.tmp rfl .nil)) (List.nil_sublist _) ⟨rfl, rfl⟩
  | cons c left =>
    have hc16 : c.toNat < 16 := hf c (by simp)
    have hcc := nd_cell hn hc16
    have hne : ¬ (c :: left) = [] := by simp
    have l0 : (0 : Int) < ((c :: left).length : Int) := by simp only [List.length_cons]; omega
    have l1 : (1 : Int) ≤ ((c :: left).length : Int) := by simp only [List.length_cons]; omega
    have t0 : (c :: left).getD (Int.toNat 0) 0 = c := rfl
    have t1 : List.drop (Int.toNat 1) (c :: left) = left := rfl
    by_cases hkc : n.kid c.toNat = []
    · rw [show stepP n (c :: left) = ([], []) by unfold stepP; rw [if_neg hbn, if_neg h2, if_neg (fun h => h1 h.1), if_neg (by rintro (h | h); exact h1 h; simp at h), if_pos (show n.kid ((c :: left).headD 0).toNat = [] from hkc)]]
      refine FnC.intro Tryz.func31 rfl Tryz.ntmps31 rfl fun Z w0 hG => ?_
      focus (
 (refine W.seq (W.region ?_))
 (refine J.boxAg rfl rfl ?_; intro b')
 (refine Jx.assign rfl rfl (Jx.assign rfl rfl (J.nil (N.seq (W.seq ?_)))))
 (refine W.draw follows ?_)
 (refine JD.calm rfl (by decide +kernel) ?_)
 (refine Cx.fieldAddr rfl rfl ?_)
 (refine Cx.load rfl 0 rfl rfl rfl ?_)
 (refine Cx.move rfl rfl ?_)
 (refine SegC.q (Qs.call (Lc := []) (cc) (fun s L' h => h) (List.Perm.refl _) (evs_args rfl)) rfl ?_)
 (refine Cx.fieldAddr rfl rfl ?_)
 (refine Cx.load rfl 0 rfl rfl rfl ?_)
 (refine Cx.lenS rfl rfl ?_)
 (refine Cx.eqlI rfl rfl rfl ?_)
 (refine Cx.assign rfl rfl ?_)
 (refine SegC.nil ?_)
 (refine N.seq (W.seq (W.block (W.seq (W.region (Jx.move rfl rfl (Jx.not rfl rfl (Jx.assign rfl rfl (J.nil (N.seq (W.cF rfl ?_)))))))))))
 (refine W.seq (W.region (Jx.fieldAddr rfl rfl ?_)))
 (refine Jx.load rfl 0 rfl rfl rfl ?_)
 (refine Jx.eqlI rfl rfl rfl (Jx.assign rfl rfl (J.nil (N.seq (W.cF rfl ?_)))))
 (refine W.seq (W.region (Jx.fieldAddr rfl rfl ?_)))
 (refine Jx.load rfl 0 rfl rfl rfl ?_)
 (refine Jx.eqlI rfl rfl rfl (Jx.move rfl rfl (J.gN rfl rfl rfl rfl ?_)))
 (refine J.gN rfl rfl rfl rfl ?_)
 (refine J.gN rfl rfl rfl rfl ?_)
 (refine J.gN rfl rfl rfl rfl ?_)
 (refine J.gN rfl rfl rfl rfl ?_)
 (refine J.gN rfl rfl rfl rfl ?_)
 (refine Jx.pF rfl rfl rfl ?_)
 (refine Jx.assign rfl rfl (J.nil (N.seq (W.cF rfl ?_))))
 (refine W.seq (W.region (Jx.fieldAddr rfl rfl ?_)))
 (refine Jx.load rfl 0 rfl rfl rfl ?_)
 (refine Jx.eqlI rfl rfl rfl (Jx.move rfl rfl (J.gY rfl rfl rfl ?_)))
 (refine Jx.move rfl rfl (J.gY rfl rfl rfl ?_))
 (refine Jx.eqlS rfl rfl rfl (Jx.pF rfl rfl rfl ?_))
 (refine Jx.assign rfl rfl (J.nil (N.seq (W.cF rfl ?_))))
 (refine W.seq (W.region (Jx.move rfl rfl ?_)))
 (refine Jx.indexS rfl rfl (by decide) l0 rfl ?_; rw [t0])
 (refine Jx.fieldAddr rfl rfl ?_)
 (refine Jx.indexA c.toNat rfl rfl rfl hc16 rfl ?_)
 (refine Jx.load rfl 0 rfl hcc rfl ?_)
 (refine Jx.eqlS rfl rfl rfl (Jx.assign rfl rfl (J.nil (N.seq (W.cT rfl ?_)))))
 (refine W.seq (W.region (Jx.assign rfl rfl (Jx.assign rfl rfl (J.nil (N.seq (W.ret (N.noGotoRet (N.noGotoRet ?_)))))))))
 (refine id ?_; rotate_left))
      exact N.retD (rs := [.tmp 4, .tmp 5]) (L1 := []) rfl (.tmp rfl (.tmp rfl .nil)) (List.nil_sublist _) ⟨rfl, rfl⟩
    · rw [show stepP n (c :: left) = (n.kid c.toNat, left) by unfold stepP; rw [if_neg hbn, if_neg h2, if_neg (fun h => h1 h.1), if_neg (by rintro (h | h); exact h1 h; simp at h), if_neg (show ¬ n.kid ((c :: left).headD 0).toNat = [] from hkc)]; rfl]
      refine FnC.intro Tryz.func31 rfl Tryz.ntmps31 rfl fun Z w0 hG => ?_
      focus (
 (refine W.seq (W.region ?_))
 (refine J.boxAg rfl rfl ?_; intro b')
 (refine Jx.assign rfl rfl (Jx.assign rfl rfl (J.nil (N.seq (W.seq ?_)))))
 (refine W.draw follows ?_)
 (refine JD.calm rfl (by decide +kernel) ?_)
 (refine Cx.fieldAddr rfl rfl ?_)
 (refine Cx.load rfl 0 rfl rfl rfl ?_)
 (refine Cx.move rfl rfl ?_)
 (refine SegC.q (Qs.call (Lc := []) (cc) (fun s L' h => h) (List.Perm.refl _) (evs_args rfl)) rfl ?_)
 (refine Cx.fieldAddr rfl rfl ?_)
 (refine Cx.load rfl 0 rfl rfl rfl ?_)
 (refine Cx.lenS rfl rfl ?_)
 (refine Cx.eqlI rfl rfl rfl ?_)
 (refine Cx.assign rfl rfl ?_)
 (refine SegC.nil ?_)
 (refine N.seq (W.seq (W.block (W.seq (W.region (Jx.move rfl rfl (Jx.not rfl rfl (Jx.assign rfl rfl (J.nil (N.seq (W.cF rfl ?_)))))))))))
 (refine W.seq (W.region (Jx.fieldAddr rfl rfl ?_)))
 (refine Jx.load rfl 0 rfl rfl rfl ?_)
 (refine Jx.eqlI rfl rfl rfl (Jx.assign rfl rfl (J.nil (N.seq (W.cF rfl ?_)))))
 (refine W.seq (W.region (Jx.fieldAddr rfl rfl ?_)))
 (refine Jx.load rfl 0 rfl rfl rfl ?_)
 (refine Jx.eqlI rfl rfl rfl (Jx.move rfl rfl (J.gN rfl rfl rfl rfl ?_)))
 (refine J.gN rfl rfl rfl rfl ?_)
 (refine J.gN rfl rfl rfl rfl ?_)
 (refine J.gN rfl rfl rfl rfl ?_)
 (refine J.gN rfl rfl rfl rfl ?_)
 (refine J.gN rfl rfl rfl rfl ?_)
 (refine Jx.pF rfl rfl rfl ?_)
 (refine Jx.assign rfl rfl (J.nil (N.seq (W.cF rfl ?_))))
 (refine W.seq (W.region (Jx.fieldAddr rfl rfl ?_)))
 (refine Jx.load rfl 0 rfl rfl rfl ?_)
 (refine Jx.eqlI rfl rfl rfl (Jx.move rfl rfl (J.gY rfl rfl rfl ?_)))
 (refine Jx.move rfl rfl (J.gY rfl rfl rfl ?_))
 (refine Jx.eqlS rfl rfl rfl (Jx.pF rfl rfl rfl ?_))
 (refine Jx.assign rfl rfl (J.nil (N.seq (W.cF rfl ?_))))
 (refine W.seq (W.region (Jx.move rfl rfl ?_)))
 (refine Jx.indexS rfl rfl (by decide) l0 rfl ?_; rw [t0])
 (refine Jx.fieldAddr rfl rfl ?_)
 (refine Jx.indexA c.toNat rfl rfl rfl hc16 rfl ?_)
 (refine Jx.load rfl 0 rfl hcc rfl ?_)
 (refine Jx.eqlS rfl rfl rfl (Jx.assign rfl rfl (J.nil (N.seq (W.cF rfl ?_)))))
 (refine W.skip (N.seq (W.seq ?_)))
 (refine W.draw follows ?_)
 (refine JD.calm rfl (by decide +kernel) ?_)
 (refine Cx.move rfl rfl ?_)
 (refine Cx.indexS rfl rfl (by decide) l0 rfl ?_; rw [t0])
 (refine Cx.fieldAddr rfl rfl ?_)
 (refine Cx.indexA c.toNat rfl rfl rfl hc16 rfl ?_)
 (refine Cx.load rfl 0 rfl hcc rfl ?_)
 (refine Cx.move rfl rfl ?_)
 (refine Cx.sliceSl rfl rfl (by decide) l1 rfl ?_; rw [t1])
 (refine Cx.assign rfl rfl ?_)
 (refine Cx.assign rfl rfl ?_)
 (refine SegC.nil ?_)
 (refine N.seq (W.ret ?_))
 (refine id ?_; rotate_left))
      exact N.retD (rs := [.tmp 4, .tmp 5]) (L1 := []) rfl (.tmp rfl (.tmp rfl .nil)) (List.nil_sublist _) ⟨rfl, rfl⟩
end Go.Proofs.YtaflklbmdbmjbaaGreatDoor
namespace Go.Proofs.YtaflklbmdbmjbaaGreatDoor
open Go Go.Sse
set_option linter.unusedVariables false
set_option linter.unusedSimpArgs false
set_option maxRecDepth 10000
theorem decN_len (s : Bs) : (decN s).1.kids.length = 16 ∧ (decN s).1.path.length ≤ 1000000 := by
  unfold decN
  have hl := bodP_len (kindP (bytesP 1 (some s)).1) (bytesP 1 (some s)).2
  generalize bodP (kindP (bytesP 1 (some s)).1) (bytesP 1 (some s)).2 = x at *
  unfold endP
  split
  · exact hl
  · exact ⟨by simp [nd0], by simp [nd0]⟩
theorem step_nib (n : Nd) (left : Bs) (hf : ∀ b ∈ left, b.toNat < 16) (h : (stepP n left).1 ≠ []) : ∀ b ∈ (stepP n left).2, b.toNat < 16 := by
  unfold stepP at h ⊢
  split
  · simp
  split
  · exact fun b hb => hf b (List.drop_subset _ _ hb)
  split
  · simp
  split
  · rename_i h1 h2 h3 h4
    rw [if_neg h1, if_neg h2, if_neg h3, if_pos h4] at h
    exact absurd rfl h
  split
  · simp
  · exact fun b hb => hf b (List.mem_of_mem_tail hb)
abbrev folP (so left : Bs) (l : List Bs) : Bs × Nat × Bool := followP (sumD 1) decN so left l
structure FoS where
  i : Nat
  so : Bs
  left : Bs
set_option maxHeartbeats 8000000 in
theorem follow_ok (so0 left0 : Bs) (l : List Bs) (hl : l.length ≤ 1000000) (hs : ∀ t ∈ l, t.length ≤ 1000000) (hf0 : ∀ b ∈ left0, b.toNat < 16) :
    FnC Tryz.prog 14 [str so0, str left0, ssl l] [] (fun r L => r = .tup [str (folP so0 left0 l).1, int ((folP so0 left0 l).2.1 : Int), Sse.bool (folP so0 left0 l).2.2] ∧ L = []) := by
  generalize hR : folP so0 left0 l = R
  refine FnC.intro Tryz.func14 rfl Tryz.ntmps14 rfl fun Z w0 hG => ?_
  focus (
 (refine W.seq (W.region (Jx.assign rfl rfl (Jx.assign rfl rfl (Jx.assign rfl rfl (J.nil (N.seq (W.scopeS ?_))))))))
 (refine W.seq (W.label (N.seq (W.seq (W.seq (W.region (Jx.move rfl rfl (Jx.lenSl rfl rfl ?_))))))))
 (refine Jx.move rfl rfl (J.nil (N.seq (W.block ?_))))
 (refine id ?_; rotate_left))
  refine W.loop (α := FoS) (fun x => [(19, int (x.i : Int)), (18, int (l.length : Int)), (17, ssl l), (7, int (x.i : Int)), (0, str x.so), (1, str x.left)]) (fun x => []) (fun x => x.i ≤ l.length ∧ R = ((folP x.so x.left (l.drop x.i)).1, (folP x.so x.left (l.drop x.i)).2.1 + x.i, (folP x.so x.left (l.drop x.i)).2.2) ∧ ∀ b ∈ x.left, b.toNat < 16) (fun x => l.length - x.i) ⟨0, so0, left0⟩ ⟨Nat.zero_le _, by simp only [List.drop_zero]; rw [hR]; rfl, hf0⟩ rfl ⟨ref0 rfl, ref0 rfl, ref0 rfl, ref0 rfl, ref0 rfl, ref0 rfl, trivial⟩ ?_
  rintro ⟨i, so, left⟩ ⟨hi, hRi, hf⟩
  simp only at hi hRi hf ⊢
  by_cases h1 : i < l.length
  · have h1' : (i : Int) < (l.length : Int) := by omega
    have e1 : (i : Int) + 1 = ((i + 1 : Nat) : Int) := by omega
    have hm : l.getD i [] ∈ l := by rw [List.getD_eq_getElem?_getD, List.getElem?_eq_getElem h1]; exact List.getElem_mem _
    have hd : l.drop i = l.getD i [] :: l.drop (i + 1) := by rw [List.drop_eq_getElem_cons h1, List.getD_eq_getElem?_getD, List.getElem?_eq_getElem h1]; rfl
    have htl := hs _ hm
    rw [hd] at hRi
    obtain ⟨t, ht⟩ : ∃ t, l.getD i [] = t := ⟨_, rfl⟩
    rw [ht] at hm hd htl hRi
    have cd := dsum_ok 1 t (by decide) (by decide) (by omega)
    have cn := decode_ok t htl
    have hlen := decN_len t
    have hstep : folP so left (t :: l.drop (i + 1)) = if sumD 1 t ≠ so ∨ (decN t).2 ≠ 0 then ([], 0, false) else if (stepP (decN t).1 left).1 = [] then ((stepP (decN t).1 left).2, 1, true) else ((folP (stepP (decN t).1 left).1 (stepP (decN t).1 left).2 (l.drop (i + 1))).1, (folP (stepP (decN t).1 left).1 (stepP (decN t).1 left).2 (l.drop (i + 1))).2.1 + 1, (folP (stepP (decN t).1 left).1 (stepP (decN t).1 left).2 (l.drop (i + 1))).2.2) := rfl
    rw [hstep] at hRi
    generalize decN t = n at *
    obtain ⟨n, e⟩ := n
    simp only at hlen hRi cn
    have hbq : Nat.beq (ndC n).length 19 = true := by rw [ndC_len hlen.1]; rfl
    have cst := step_ok n left hlen.1 hlen.2 hf
    have hnib := step_nib n left hf
    by_cases h2 : sumD 1 t = so
    · have h2n : ¬ (sumD 1 t ≠ so) := fun h => h h2
      by_cases h3 : e = 0
      · have h3n : ¬ (e ≠ 0) := fun h => h h3
        rw [if_neg (by rintro (h | h); exact h h2; exact h h3)] at hRi
        generalize stepP n left = st at *
        by_cases h4 : st.1 = []
        · rw [if_pos h4] at hRi
          rw [hRi]
          focus (
 (refine W.seq (W.region (Jx.lssI rfl rfl rfl (J.nil (N.seq (W.seq (W.cT rfl ?_)))))))
 (refine W.skip (N.seq (W.seq (W.block (W.seq (W.region ?_))))))
 (refine Jx.indexEl rfl rfl h1 rfl rfl ?_; rw [ht])
 (refine Jx.loadPP rfl rfl ?_)
 (refine Jx.assign rfl rfl (J.nil (N.seq (W.seq (W.region (Jx.move rfl rfl ?_))))))
 (refine J.call (Lc := []) cd rfl (evs_args rfl) rfl ?_; rintro _ _ ⟨rfl, rfl⟩; rw [List.nil_append])
 (refine Jx.move rfl rfl (Jx.extract rfl rfl rfl ?_))
 (refine Jx.extract rfl rfl rfl ?_)
 (refine Jx.assign rfl rfl (Jx.assign rfl rfl (J.nil (N.seq (W.seq (W.region (Jx.move rfl rfl ?_)))))))
 (refine J.call (Lc := []) cn rfl (evs_args rfl) rfl ?_; rintro _ _ ⟨rfl, rfl⟩; rw [List.nil_append])
 (refine Jx.move rfl rfl (Jx.extract rfl rfl rfl ?_))
 (refine Jx.extract rfl rfl rfl ?_)
 (refine J.alloc (d := 13) (by simp only [List.map_cons, List.map_nil]; rfl) rfl rfl ?_; intro p13)
 (refine J.storeAll rfl rfl hbq 0 rfl rfl rfl ?_)
 (refine Jx.assign rfl rfl (J.nil (N.seq (W.seq (W.seq (W.region (Jx.move rfl rfl (Jx.move rfl rfl (Jx.neqS rfl rfl rfl (Jx.move rfl rfl (J.gY rfl rfl rfl ?_)))))))))))
 (refine Jx.move rfl rfl (J.gY rfl rfl rfl ?_))
 (refine Jx.neqI rfl rfl rfl (Jx.pF rfl rfl rfl ?_))
 (refine J.nil (N.seq (W.cF rfl ?_)))
 (refine W.skip (N.seq (W.seq (W.region (Jx.move rfl rfl ?_)))))
 (refine Jx.add64 rfl rfl (by omega) rfl ?_; rw [e1])
 (refine Jx.assign rfl rfl (J.nil (N.seq (W.seq (W.region ?_)))))
 (refine Jx.loadAll rfl 0 rfl hbq rfl ?_)
 (refine Jx.move rfl rfl ?_)
 (refine J.call (Lc := []) cst rfl (evs_args rfl) rfl ?_; rintro _ _ ⟨rfl, rfl⟩; rw [List.nil_append])
 (refine Jx.move rfl rfl (Jx.extract rfl rfl rfl ?_))
 (refine Jx.extract rfl rfl rfl ?_)
 (refine Jx.assign rfl rfl (Jx.assign rfl rfl (J.nil (N.seq (W.seq (W.seq (W.region (Jx.move rfl rfl (Jx.eqlS rfl rfl rfl (J.nil (N.seq (W.cT rfl ?_))))))))))))
 (refine W.seq (W.region (Jx.move rfl rfl (Jx.move rfl rfl (Jx.assign rfl rfl (Jx.assign rfl rfl (Jx.assign rfl rfl (J.nil (N.seq (W.ret (N.noGotoRet (N.noGotoRet (N.noGotoRet (N.noGotoRet ?_))))))))))))))
 (refine N.noGotoRet (N.noGotoRet (N.noGotoRet ?_)))
 (refine id ?_; rotate_left))
          exact N.retD (rs := [.tmp 6, .tmp 7, .tmp 8]) (L1 := []) rfl (.tmp rfl (.tmp rfl (.tmp rfl .nil))) (List.nil_sublist _) ⟨by simp only [oneOr, Nat.add_comm], rfl⟩
        · rw [if_neg h4] at hRi
          focus (
 (refine W.seq (W.region (Jx.lssI rfl rfl rfl (J.nil (N.seq (W.seq (W.cT rfl ?_)))))))
 (refine W.skip (N.seq (W.seq (W.block (W.seq (W.region ?_))))))
 (refine Jx.indexEl rfl rfl h1 rfl rfl ?_; rw [ht])
 (refine Jx.loadPP rfl rfl ?_)
 (refine Jx.assign rfl rfl (J.nil (N.seq (W.seq (W.region (Jx.move rfl rfl ?_))))))
 (refine J.call (Lc := []) cd rfl (evs_args rfl) rfl ?_; rintro _ _ ⟨rfl, rfl⟩; rw [List.nil_append])
 (refine Jx.move rfl rfl (Jx.extract rfl rfl rfl ?_))
 (refine Jx.extract rfl rfl rfl ?_)
 (refine Jx.assign rfl rfl (Jx.assign rfl rfl (J.nil (N.seq (W.seq (W.region (Jx.move rfl rfl ?_)))))))
 (refine J.call (Lc := []) cn rfl (evs_args rfl) rfl ?_; rintro _ _ ⟨rfl, rfl⟩; rw [List.nil_append])
 (refine Jx.move rfl rfl (Jx.extract rfl rfl rfl ?_))
 (refine Jx.extract rfl rfl rfl ?_)
 (refine J.alloc (d := 13) (by simp only [List.map_cons, List.map_nil]; rfl) rfl rfl ?_; intro p13)
 (refine J.storeAll rfl rfl hbq 0 rfl rfl rfl ?_)
 (refine Jx.assign rfl rfl (J.nil (N.seq (W.seq (W.seq (W.region (Jx.move rfl rfl (Jx.move rfl rfl (Jx.neqS rfl rfl rfl (Jx.move rfl rfl (J.gY rfl rfl rfl ?_)))))))))))
 (refine Jx.move rfl rfl (J.gY rfl rfl rfl ?_))
 (refine Jx.neqI rfl rfl rfl (Jx.pF rfl rfl rfl ?_))
 (refine J.nil (N.seq (W.cF rfl ?_)))
 (refine W.skip (N.seq (W.seq (W.region (Jx.move rfl rfl ?_)))))
 (refine Jx.add64 rfl rfl (by omega) rfl ?_; rw [e1])
 (refine Jx.assign rfl rfl (J.nil (N.seq (W.seq (W.region ?_)))))
 (refine Jx.loadAll rfl 0 rfl hbq rfl ?_)
 (refine Jx.move rfl rfl ?_)
 (refine J.call (Lc := []) cst rfl (evs_args rfl) rfl ?_; rintro _ _ ⟨rfl, rfl⟩; rw [List.nil_append])
 (refine Jx.move rfl rfl (Jx.extract rfl rfl rfl ?_))
 (refine Jx.extract rfl rfl rfl ?_)
 (refine Jx.assign rfl rfl (Jx.assign rfl rfl (J.nil (N.seq (W.seq (W.seq (W.region (Jx.move rfl rfl (Jx.eqlS rfl rfl rfl (J.nil (N.seq (W.cF rfl ?_))))))))))))
 (refine W.skip (N.seq (W.region (Jx.move rfl rfl (Jx.move rfl rfl (Jx.assign rfl rfl (Jx.assign rfl rfl (J.nil (N.seq (W.region ?_))))))))))
 (refine Jx.add64 rfl rfl (by omega) rfl ?_; rw [e1])
 (refine Jx.move rfl rfl (J.nil ?_))
 (refine id ?_; rotate_left))
          refine N.drop (List.nil_sublist _) ?_
          exact N.round ⟨i + 1, st.1, st.2⟩ ⟨h1, by rw [hRi]; simp only [Prod.mk.injEq, true_and, and_true]; omega, hnib h4⟩ (by simp only; omega) rfl ⟨ref0 rfl, ref0 rfl, ref0 rfl, ref0 rfl, ref0 rfl, ref0 rfl, trivial⟩
      · rw [if_pos (.inr h3), Nat.zero_add] at hRi
        rw [hRi]
        focus (
 (refine W.seq (W.region (Jx.lssI rfl rfl rfl (J.nil (N.seq (W.seq (W.cT rfl ?_)))))))
 (refine W.skip (N.seq (W.seq (W.block (W.seq (W.region ?_))))))
 (refine Jx.indexEl rfl rfl h1 rfl rfl ?_; rw [ht])
 (refine Jx.loadPP rfl rfl ?_)
 (refine Jx.assign rfl rfl (J.nil (N.seq (W.seq (W.region (Jx.move rfl rfl ?_))))))
 (refine J.call (Lc := []) cd rfl (evs_args rfl) rfl ?_; rintro _ _ ⟨rfl, rfl⟩; rw [List.nil_append])
 (refine Jx.move rfl rfl (Jx.extract rfl rfl rfl ?_))
 (refine Jx.extract rfl rfl rfl ?_)
 (refine Jx.assign rfl rfl (Jx.assign rfl rfl (J.nil (N.seq (W.seq (W.region (Jx.move rfl rfl ?_)))))))
 (refine J.call (Lc := []) cn rfl (evs_args rfl) rfl ?_; rintro _ _ ⟨rfl, rfl⟩; rw [List.nil_append])
 (refine Jx.move rfl rfl (Jx.extract rfl rfl rfl ?_))
 (refine Jx.extract rfl rfl rfl ?_)
 (refine J.alloc (d := 13) (by simp only [List.map_cons, List.map_nil]; rfl) rfl rfl ?_; intro p13)
 (refine J.storeAll rfl rfl hbq 0 rfl rfl rfl ?_)
 (refine Jx.assign rfl rfl (J.nil (N.seq (W.seq (W.seq (W.region (Jx.move rfl rfl (Jx.move rfl rfl (Jx.neqS rfl rfl rfl (Jx.move rfl rfl (J.gY rfl rfl rfl ?_)))))))))))
 (refine Jx.move rfl rfl (J.gY rfl rfl rfl ?_))
 (refine Jx.neqI rfl rfl rfl (Jx.pF rfl rfl rfl ?_))
 (refine J.nil (N.seq (W.cT rfl ?_)))
 (refine W.exit (N.seq (W.seq (W.region (Jx.move rfl rfl (Jx.assign rfl rfl (Jx.assign rfl rfl (Jx.assign rfl rfl (J.nil (N.seq (W.ret (N.noGotoRet ?_))))))))))))
 (refine id ?_; rotate_left))
        exact N.retD (rs := [.tmp 6, .tmp 7, .tmp 8]) (L1 := []) rfl (.tmp rfl (.tmp rfl (.tmp rfl .nil))) (List.nil_sublist _) ⟨rfl, rfl⟩
    · rw [if_pos (.inl h2), Nat.zero_add] at hRi
      rw [hRi]
      focus (
 (refine W.seq (W.region (Jx.lssI rfl rfl rfl (J.nil (N.seq (W.seq (W.cT rfl ?_)))))))
 (refine W.skip (N.seq (W.seq (W.block (W.seq (W.region ?_))))))
 (refine Jx.indexEl rfl rfl h1 rfl rfl ?_; rw [ht])
 (refine Jx.loadPP rfl rfl ?_)
 (refine Jx.assign rfl rfl (J.nil (N.seq (W.seq (W.region (Jx.move rfl rfl ?_))))))
 (refine J.call (Lc := []) cd rfl (evs_args rfl) rfl ?_; rintro _ _ ⟨rfl, rfl⟩; rw [List.nil_append])
 (refine Jx.move rfl rfl (Jx.extract rfl rfl rfl ?_))
 (refine Jx.extract rfl rfl rfl ?_)
 (refine Jx.assign rfl rfl (Jx.assign rfl rfl (J.nil (N.seq (W.seq (W.region (Jx.move rfl rfl ?_)))))))
 (refine J.call (Lc := []) cn rfl (evs_args rfl) rfl ?_; rintro _ _ ⟨rfl, rfl⟩; rw [List.nil_append])
 (refine Jx.move rfl rfl (Jx.extract rfl rfl rfl ?_))
 (refine Jx.extract rfl rfl rfl ?_)
 (refine J.alloc (d := 13) (by simp only [List.map_cons, List.map_nil]; rfl) rfl rfl ?_; intro p13)
 (refine J.storeAll rfl rfl hbq 0 rfl rfl rfl ?_)
 (refine Jx.assign rfl rfl (J.nil (N.seq (W.seq (W.seq (W.region (Jx.move rfl rfl (Jx.move rfl rfl (Jx.neqS rfl rfl rfl (Jx.move rfl rfl (J.gN rfl rfl rfl rfl ?_)))))))))))
 (refine J.gN rfl rfl rfl rfl ?_)
 (refine Jx.pT rfl rfl rfl ?_)
 (refine J.nil (N.seq (W.cT rfl ?_)))
 (refine W.exit (N.seq (W.seq (W.region (Jx.move rfl rfl (Jx.assign rfl rfl (Jx.assign rfl rfl (Jx.assign rfl rfl (J.nil (N.seq (W.ret (N.noGotoRet ?_))))))))))))
 (refine id ?_; rotate_left))
      exact N.retD (rs := [.tmp 6, .tmp 7, .tmp 8]) (L1 := []) rfl (.tmp rfl (.tmp rfl (.tmp rfl .nil))) (List.nil_sublist _) ⟨rfl, rfl⟩
  · have h1' : ¬ (i : Int) < (l.length : Int) := by omega
    rw [List.drop_eq_nil_of_le (by omega), show folP so left [] = ([], 0, false) from rfl, Nat.zero_add] at hRi
    rw [hRi]
    focus (
 (refine W.seq (W.region (Jx.lssI rfl rfl rfl (J.nil (N.seq (W.seq (W.cF rfl ?_)))))))
 (refine W.exit (N.seq (W.seq (W.region (Jx.move rfl rfl (Jx.assign rfl rfl (Jx.assign rfl rfl (Jx.assign rfl rfl (J.nil (N.seq (W.ret (N.noGotoRet ?_))))))))))))
 (refine id ?_; rotate_left))
    exact N.ret (rs := [.tmp 6, .tmp 7, .tmp 8]) rfl (.tmp rfl (.tmp rfl (.tmp rfl .nil))) ⟨rfl, rfl⟩
end Go.Proofs.YtaflklbmdbmjbaaGreatDoor
namespace Go.Proofs.YtaflklbmdbmjbaaGreatDoor
open Go Go.Sse
set_option linter.unusedVariables false
set_option linter.unusedSimpArgs false
set_option maxRecDepth 10000
noncomputable def verP (root key : Bs) (l : List Bs) : Bs × Bool × Int :=
  if ¬ (key ≠ [] ∧ key.length ≤ 8) then ([], false, 1)
  else if root = [] then (if l = [] then ([], false, 0) else ([], false, 130))
  else if (folP root (ofN key) l).2.2 = true ∧ (folP root (ofN key) l).2.1 = l.length then ((folP root (ofN key) l).1, decide ((folP root (ofN key) l).1 ≠ []), 0) else ([], false, 130)
set_option maxHeartbeats 8000000 in
theorem pverify_ok (root key : Bs) (l : List Bs) (hl : l.length ≤ 1000000) (hs : ∀ t ∈ l, t.length ≤ 1000000) : FnC Tryz.prog 6 [str root, str key, ssl l] [] (fun r L => r = .tup [str (verP root key l).1, Sse.bool (verP root key l).2.1, int (verP root key l).2.2] ∧ L = []) := by
  have ck := keyed_ok key
  by_cases hk : key ≠ [] ∧ key.length ≤ 8
  case neg =>
    have hq : (decide (key ≠ []) && decide ((key.length : Int) ≤ 8)) = false := by
      by_cases h : key = []
      · simp [h]
      · have : ¬ key.length ≤ 8 := fun hh => hk ⟨h, hh⟩
        simp [h]; omega
    rw [hq] at ck
    rw [show verP root key l = ([], false, 1) by unfold verP; rw [if_pos hk]]
    refine FnC.intro Tryz.func6 rfl Tryz.ntmps6 rfl fun Z w0 hG => ?_
    focus (
 (refine W.seq (W.region (Jx.assign rfl rfl (Jx.assign rfl rfl (Jx.assign rfl rfl (J.nil (N.seq (W.seq (W.block (W.seq (W.region (Jx.move rfl rfl ?_))))))))))))
 (refine J.call (ck) rfl (evs_args rfl) rfl ?_; rintro _ _ ⟨rfl, rfl⟩; simp only [la1, la2, la3])
 (refine Jx.not rfl rfl (Jx.assign rfl rfl (J.nil (N.seq (W.cT rfl ?_)))))
 (refine W.seq (W.region (Jx.assign rfl rfl (Jx.assign rfl rfl (Jx.assign rfl rfl (J.nil (N.seq (W.ret (N.noGotoRet (N.noGotoRet ?_))))))))))
 (refine id ?_; rotate_left))
    exact N.ret (rs := [.tmp 6, .tmp 7, .tmp 8]) rfl (.tmp rfl (.tmp rfl (.tmp rfl .nil))) ⟨rfl, rfl⟩
  have hq : (decide (key ≠ []) && decide ((key.length : Int) ≤ 8)) = true := by
    rw [decide_eq_true hk.1, decide_eq_true (by omega)]; rfl
  rw [hq] at ck
  have hkn : ¬ ¬ (key ≠ [] ∧ key.length ≤ 8) := fun h => h hk
  by_cases hr : root = []
  · by_cases hl0 : l = []
    · rw [show verP root key l = ([], false, 0) by unfold verP; rw [if_neg hkn, if_pos hr, if_pos hl0]]
      subst hl0
      refine FnC.intro Tryz.func6 rfl Tryz.ntmps6 rfl fun Z w0 hG => ?_
      focus (
 (refine W.seq (W.region (Jx.assign rfl rfl (Jx.assign rfl rfl (Jx.assign rfl rfl (J.nil (N.seq (W.seq (W.block (W.seq (W.region (Jx.move rfl rfl ?_))))))))))))
 (refine J.call (ck) rfl (evs_args rfl) rfl ?_; rintro _ _ ⟨rfl, rfl⟩; simp only [la1, la2, la3])
 (refine Jx.not rfl rfl (Jx.assign rfl rfl (J.nil (N.seq (W.cF rfl ?_)))))
 (refine W.seq (W.region (Jx.move rfl rfl (Jx.eqlS rfl rfl rfl (Jx.move rfl rfl (J.gY rfl rfl rfl ?_))))))
 (refine Jx.move rfl rfl (J.gY rfl rfl rfl ?_))
 (refine Jx.lenSl rfl rfl ?_)
 (refine J.gY rfl rfl rfl ?_)
 (refine Jx.gtrI rfl rfl rfl (Jx.pT rfl rfl rfl ?_))
 (refine Jx.assign rfl rfl (J.nil (N.seq (W.cF rfl ?_))))
 (refine W.seq (W.region (Jx.move rfl rfl (Jx.eqlS rfl rfl rfl (Jx.assign rfl rfl (J.nil (N.seq (W.cT rfl ?_))))))))
 (refine W.seq (W.region (Jx.assign rfl rfl (Jx.assign rfl rfl (Jx.assign rfl rfl (J.nil (N.seq (W.ret (N.noGotoRet (N.noGotoRet ?_))))))))))
 (refine id ?_; rotate_left))
      exact N.ret (rs := [.tmp 6, .tmp 7, .tmp 8]) rfl (.tmp rfl (.tmp rfl (.tmp rfl .nil))) ⟨rfl, rfl⟩
    · have hlp : (0 : Int) < (l.length : Int) := by have := List.length_pos_iff.2 hl0; omega
      rw [show verP root key l = ([], false, 130) by unfold verP; rw [if_neg hkn, if_pos hr, if_neg hl0]]
      refine FnC.intro Tryz.func6 rfl Tryz.ntmps6 rfl fun Z w0 hG => ?_
      focus (
 (refine W.seq (W.region (Jx.assign rfl rfl (Jx.assign rfl rfl (Jx.assign rfl rfl (J.nil (N.seq (W.seq (W.block (W.seq (W.region (Jx.move rfl rfl ?_))))))))))))
 (refine J.call (ck) rfl (evs_args rfl) rfl ?_; rintro _ _ ⟨rfl, rfl⟩; simp only [la1, la2, la3])
 (refine Jx.not rfl rfl (Jx.assign rfl rfl (J.nil (N.seq (W.cF rfl ?_)))))
 (refine W.seq (W.region (Jx.move rfl rfl (Jx.eqlS rfl rfl rfl (Jx.move rfl rfl (J.gY rfl rfl rfl ?_))))))
 (refine Jx.move rfl rfl (J.gY rfl rfl rfl ?_))
 (refine Jx.lenSl rfl rfl ?_)
 (refine J.gY rfl rfl rfl ?_)
 (refine Jx.gtrI rfl rfl rfl (Jx.pT rfl rfl rfl ?_))
 (refine Jx.assign rfl rfl (J.nil (N.seq (W.cT rfl ?_))))
 (refine W.seq (W.region (Jx.assign rfl rfl (Jx.assign rfl rfl (Jx.assign rfl rfl (J.nil (N.seq (W.ret (N.noGotoRet (N.noGotoRet ?_))))))))))
 (refine id ?_; rotate_left))
      exact N.ret (rs := [.tmp 6, .tmp 7, .tmp 8]) rfl (.tmp rfl (.tmp rfl (.tmp rfl .nil))) ⟨rfl, rfl⟩
  have co := of_ok key (by omega)
  have cf := follow_ok root (ofN key) l hl hs (fun b hb => ofN_fit key b hb)
  have hv : verP root key l = if (folP root (ofN key) l).2.2 = true ∧ (folP root (ofN key) l).2.1 = l.length then ((folP root (ofN key) l).1, decide ((folP root (ofN key) l).1 ≠ []), 0) else ([], false, 130) := by unfold verP; rw [if_neg hkn, if_neg hr]
  rw [hv]
  generalize folP root (ofN key) l = F at *
  obtain ⟨v, k, ok⟩ := F
  simp only at cf hv ⊢
  cases ok with
  | false =>
    rw [if_neg (by simp)]
    refine FnC.intro Tryz.func6 rfl Tryz.ntmps6 rfl fun Z w0 hG => ?_
    focus (
 (refine W.seq (W.region (Jx.assign rfl rfl (Jx.assign rfl rfl (Jx.assign rfl rfl (J.nil (N.seq (W.seq (W.block (W.seq (W.region (Jx.move rfl rfl ?_))))))))))))
 (refine J.call (ck) rfl (evs_args rfl) rfl ?_; rintro _ _ ⟨rfl, rfl⟩; simp only [la1, la2, la3])
 (refine Jx.not rfl rfl (Jx.assign rfl rfl (J.nil (N.seq (W.cF rfl ?_)))))
 (refine W.seq (W.region (Jx.move rfl rfl (Jx.eqlS rfl rfl rfl (Jx.move rfl rfl (J.gN rfl rfl rfl rfl ?_))))))
 (refine J.gN rfl rfl rfl rfl ?_)
 (refine J.gN rfl rfl rfl rfl ?_)
 (refine Jx.pF rfl rfl rfl ?_)
 (refine Jx.assign rfl rfl (J.nil (N.seq (W.cF rfl ?_))))
 (refine W.seq (W.region (Jx.move rfl rfl (Jx.eqlS rfl rfl rfl (Jx.assign rfl rfl (J.nil (N.seq (W.cF rfl ?_))))))))
 (refine W.skip (N.seq (W.seq (W.region (Jx.move rfl rfl (Jx.move rfl rfl ?_))))))
 (refine J.call (co) rfl (evs_args rfl) rfl ?_; rintro _ _ ⟨rfl, rfl⟩; simp only [la1, la2, la3])
 (refine Jx.move rfl rfl ?_)
 (refine J.call (cf) rfl (evs_args rfl) rfl ?_; rintro _ _ ⟨rfl, rfl⟩; simp only [la1, la2, la3])
 (refine Jx.move rfl rfl (Jx.extract rfl rfl rfl ?_))
 (refine Jx.extract rfl rfl rfl ?_)
 (refine Jx.extract rfl rfl rfl ?_)
 (refine Jx.assign rfl rfl (Jx.assign rfl rfl (Jx.assign rfl rfl (J.nil (N.seq (W.seq (W.seq (W.region (Jx.move rfl rfl (Jx.not rfl rfl (Jx.move rfl rfl (J.gN rfl rfl rfl rfl ?_))))))))))))
 (refine J.gN rfl rfl rfl rfl ?_)
 (refine J.gN rfl rfl rfl rfl ?_)
 (refine J.gN rfl rfl rfl rfl ?_)
 (refine Jx.pT rfl rfl rfl ?_)
 (refine J.nil (N.seq (W.cT rfl ?_)))
 (refine W.seq (W.region (Jx.assign rfl rfl (Jx.assign rfl rfl (Jx.assign rfl rfl (J.nil (N.seq (W.ret (N.noGotoRet ?_)))))))))
 (refine id ?_; rotate_left))
    exact N.ret (rs := [.tmp 6, .tmp 7, .tmp 8]) rfl (.tmp rfl (.tmp rfl (.tmp rfl .nil))) ⟨rfl, rfl⟩
  | true =>
    by_cases hkl : k = l.length
    · have hkl' : ¬ ((k : Int) ≠ (l.length : Int)) := by omega
      rw [if_pos ⟨rfl, hkl⟩]
      refine FnC.intro Tryz.func6 rfl Tryz.ntmps6 rfl fun Z w0 hG => ?_
      focus (
 (refine W.seq (W.region (Jx.assign rfl rfl (Jx.assign rfl rfl (Jx.assign rfl rfl (J.nil (N.seq (W.seq (W.block (W.seq (W.region (Jx.move rfl rfl ?_))))))))))))
 (refine J.call (ck) rfl (evs_args rfl) rfl ?_; rintro _ _ ⟨rfl, rfl⟩; simp only [la1, la2, la3])
 (refine Jx.not rfl rfl (Jx.assign rfl rfl (J.nil (N.seq (W.cF rfl ?_)))))
 (refine W.seq (W.region (Jx.move rfl rfl (Jx.eqlS rfl rfl rfl (Jx.move rfl rfl (J.gN rfl rfl rfl rfl ?_))))))
 (refine J.gN rfl rfl rfl rfl ?_)
 (refine J.gN rfl rfl rfl rfl ?_)
 (refine Jx.pF rfl rfl rfl ?_)
 (refine Jx.assign rfl rfl (J.nil (N.seq (W.cF rfl ?_))))
 (refine W.seq (W.region (Jx.move rfl rfl (Jx.eqlS rfl rfl rfl (Jx.assign rfl rfl (J.nil (N.seq (W.cF rfl ?_))))))))
 (refine W.skip (N.seq (W.seq (W.region (Jx.move rfl rfl (Jx.move rfl rfl ?_))))))
 (refine J.call (co) rfl (evs_args rfl) rfl ?_; rintro _ _ ⟨rfl, rfl⟩; simp only [la1, la2, la3])
 (refine Jx.move rfl rfl ?_)
 (refine J.call (cf) rfl (evs_args rfl) rfl ?_; rintro _ _ ⟨rfl, rfl⟩; simp only [la1, la2, la3])
 (refine Jx.move rfl rfl (Jx.extract rfl rfl rfl ?_))
 (refine Jx.extract rfl rfl rfl ?_)
 (refine Jx.extract rfl rfl rfl ?_)
 (refine Jx.assign rfl rfl (Jx.assign rfl rfl (Jx.assign rfl rfl (J.nil (N.seq (W.seq (W.seq (W.region (Jx.move rfl rfl (Jx.not rfl rfl (Jx.move rfl rfl (J.gY rfl rfl rfl ?_))))))))))))
 (refine Jx.move rfl rfl (J.gY rfl rfl rfl ?_))
 (refine Jx.move rfl rfl (J.gY rfl rfl rfl ?_))
 (refine Jx.lenSl rfl rfl ?_)
 (refine J.gY rfl rfl rfl ?_)
 (refine Jx.neqI rfl rfl rfl (Jx.pF rfl rfl rfl ?_))
 (refine J.nil (N.seq (W.cF rfl ?_)))
 (refine W.skip (N.seq (W.seq (W.region (Jx.move rfl rfl (Jx.move rfl rfl (Jx.neqS rfl rfl rfl (Jx.assign rfl rfl (Jx.assign rfl rfl (Jx.assign rfl rfl (J.nil (N.seq (W.ret ?_)))))))))))))
 (refine id ?_; rotate_left))
      exact N.ret (rs := [.tmp 6, .tmp 7, .tmp 8]) rfl (.tmp rfl (.tmp rfl (.tmp rfl .nil))) ⟨rfl, rfl⟩
    · have hkl' : (k : Int) ≠ (l.length : Int) := by omega
      rw [if_neg (fun h => hkl h.2)]
      refine FnC.intro Tryz.func6 rfl Tryz.ntmps6 rfl fun Z w0 hG => ?_
      focus (
 (refine W.seq (W.region (Jx.assign rfl rfl (Jx.assign rfl rfl (Jx.assign rfl rfl (J.nil (N.seq (W.seq (W.block (W.seq (W.region (Jx.move rfl rfl ?_))))))))))))
 (refine J.call (ck) rfl (evs_args rfl) rfl ?_; rintro _ _ ⟨rfl, rfl⟩; simp only [la1, la2, la3])
 (refine Jx.not rfl rfl (Jx.assign rfl rfl (J.nil (N.seq (W.cF rfl ?_)))))
 (refine W.seq (W.region (Jx.move rfl rfl (Jx.eqlS rfl rfl rfl (Jx.move rfl rfl (J.gN rfl rfl rfl rfl ?_))))))
 (refine J.gN rfl rfl rfl rfl ?_)
 (refine J.gN rfl rfl rfl rfl ?_)
 (refine Jx.pF rfl rfl rfl ?_)
 (refine Jx.assign rfl rfl (J.nil (N.seq (W.cF rfl ?_))))
 (refine W.seq (W.region (Jx.move rfl rfl (Jx.eqlS rfl rfl rfl (Jx.assign rfl rfl (J.nil (N.seq (W.cF rfl ?_))))))))
 (refine W.skip (N.seq (W.seq (W.region (Jx.move rfl rfl (Jx.move rfl rfl ?_))))))
 (refine J.call (co) rfl (evs_args rfl) rfl ?_; rintro _ _ ⟨rfl, rfl⟩; simp only [la1, la2, la3])
 (refine Jx.move rfl rfl ?_)
 (refine J.call (cf) rfl (evs_args rfl) rfl ?_; rintro _ _ ⟨rfl, rfl⟩; simp only [la1, la2, la3])
 (refine Jx.move rfl rfl (Jx.extract rfl rfl rfl ?_))
 (refine Jx.extract rfl rfl rfl ?_)
 (refine Jx.extract rfl rfl rfl ?_)
 (refine Jx.assign rfl rfl (Jx.assign rfl rfl (Jx.assign rfl rfl (J.nil (N.seq (W.seq (W.seq (W.region (Jx.move rfl rfl (Jx.not rfl rfl (Jx.move rfl rfl (J.gY rfl rfl rfl ?_))))))))))))
 (refine Jx.move rfl rfl (J.gY rfl rfl rfl ?_))
 (refine Jx.move rfl rfl (J.gY rfl rfl rfl ?_))
 (refine Jx.lenSl rfl rfl ?_)
 (refine J.gY rfl rfl rfl ?_)
 (refine Jx.neqI rfl rfl rfl (Jx.pF rfl rfl rfl ?_))
 (refine J.nil (N.seq (W.cT rfl ?_)))
 (refine W.seq (W.region (Jx.assign rfl rfl (Jx.assign rfl rfl (Jx.assign rfl rfl (J.nil (N.seq (W.ret (N.noGotoRet ?_)))))))))
 (refine id ?_; rotate_left))
      exact N.ret (rs := [.tmp 6, .tmp 7, .tmp 8]) rfl (.tmp rfl (.tmp rfl (.tmp rfl .nil))) ⟨rfl, rfl⟩
theorem inc8 : ∀ m : Fin 256, IntKind.u8.wrap (((m.1 : Nat) : Int) + 1) = (((m.1 + 1) % 256 : Nat) : Int) := by decide +kernel
def stripI (k : Bs) : Nat → Nat
  | 0 => 0
  | i + 1 => if (k.getD i 0).toNat = 255 then stripI k i else i + 1
def behindP (k : Bs) : Bs := if 8 < k.length then [] else if k.length < 8 then k ++ [0] else if stripI k k.length = 0 then [] else k.take (stripI k k.length - 1) ++ [UInt8.ofNat ((k.getD (stripI k k.length - 1) 0).toNat + 1)]
set_option maxHeartbeats 8000000 in
theorem behind_ok (k : Bs) : FnC Tryz.prog 32 [str k] [] (fun r L => r = str (behindP k) ∧ L = []) := by
  by_cases h1 : 8 < k.length
  · have h1' : (8 : Int) < (k.length : Int) := by omega
    refine FnC.intro Tryz.func32 rfl Tryz.ntmps32 rfl fun Z w0 hG => ?_
    focus (
 (refine W.seq (W.region (Jx.assign rfl rfl (J.nil (N.seq (W.seq (W.seq (W.region (Jx.move rfl rfl (Jx.lenS rfl rfl ?_))))))))))
 (refine Jx.gtrI rfl rfl rfl (J.nil (N.seq (W.cT rfl ?_))))
 (refine W.seq (W.region (Jx.assign rfl rfl (J.nil (N.seq (W.ret (N.noGotoRet ?_)))))))
 (refine id ?_; rotate_left))
    exact N.ret (rs := [.tmp 2]) rfl (.tmp rfl .nil) ⟨by unfold behindP; rw [if_pos h1]; rfl, rfl⟩
  have h1' : ¬ (8 : Int) < (k.length : Int) := by omega
  by_cases h2 : k.length < 8
  · have h2' : (k.length : Int) < 8 := by omega
    have hcl : k.length + [(0 : UInt8)].length ≤ 9223372036854775807 := by simp only [List.length_cons, List.length_nil]; omega
    refine FnC.intro Tryz.func32 rfl Tryz.ntmps32 rfl fun Z w0 hG => ?_
    focus (
 (refine W.seq (W.region (Jx.assign rfl rfl (J.nil (N.seq (W.seq (W.seq (W.region (Jx.move rfl rfl (Jx.lenS rfl rfl ?_))))))))))
 (refine Jx.gtrI rfl rfl rfl (J.nil (N.seq (W.cF rfl ?_))))
 (refine W.skip (N.seq (W.seq (W.seq (W.region (Jx.move rfl rfl (Jx.lenS rfl rfl ?_)))))))
 (refine Jx.lssI rfl rfl rfl (J.nil (N.seq (W.cT rfl ?_))))
 (refine W.seq (W.region (Jx.move rfl rfl ?_)))
 (refine Jx.cat rfl rfl hcl rfl ?_)
 (refine Jx.assign rfl rfl (J.nil (N.seq (W.ret (N.noGotoRet ?_)))))
 (refine id ?_; rotate_left))
    exact N.ret (rs := [.tmp 2]) rfl (.tmp rfl .nil) ⟨by unfold behindP; rw [if_neg h1, if_pos h2]; rfl, rfl⟩
  have h2' : ¬ (k.length : Int) < 8 := by omega
  refine FnC.intro Tryz.func32 rfl Tryz.ntmps32 rfl fun Z w0 hG => ?_
  focus (
 (refine W.seq (W.region (Jx.assign rfl rfl (J.nil (N.seq (W.seq (W.seq (W.region (Jx.move rfl rfl (Jx.lenS rfl rfl ?_))))))))))
 (refine Jx.gtrI rfl rfl rfl (J.nil (N.seq (W.cF rfl ?_))))
 (refine W.skip (N.seq (W.seq (W.seq (W.region (Jx.move rfl rfl (Jx.lenS rfl rfl ?_)))))))
 (refine Jx.lssI rfl rfl rfl (J.nil (N.seq (W.cF rfl ?_))))
 (refine W.skip (N.seq (W.seq (W.region (Jx.move rfl rfl (Jx.lenS rfl rfl ?_))))))
 (refine Jx.assign rfl rfl (J.nil (N.seq (W.seq (W.block ?_)))))
 (refine id ?_; rotate_left))
  refine W.loop (α := Nat) (fun i => [(3, int (i : Int)), (0, str k)]) (fun _ => []) (fun i => i ≤ k.length ∧ stripI k k.length = stripI k i) (fun i => i) k.length ⟨Nat.le_refl _, rfl⟩ rfl ⟨ref0 rfl, ref0 rfl, trivial⟩ ?_
  rintro i ⟨hi, hst⟩
  have hbp : behindP k = if stripI k i = 0 then [] else k.take (stripI k i - 1) ++ [UInt8.ofNat ((k.getD (stripI k i - 1) 0).toNat + 1)] := by unfold behindP; rw [if_neg h1, if_neg h2, hst]
  by_cases h3 : i = 0
  · subst h3
    rw [hbp, if_pos (show stripI k 0 = 0 from rfl)]
    focus (
 (refine W.seq (W.seq (W.region (Jx.move rfl rfl (Jx.gtrI rfl rfl rfl (Jx.move rfl rfl (J.gN rfl rfl rfl rfl ?_)))))))
 (refine J.gN rfl rfl rfl rfl ?_)
 (refine J.gN rfl rfl rfl rfl ?_)
 (refine J.gN rfl rfl rfl rfl ?_)
 (refine J.gN rfl rfl rfl rfl ?_)
 (refine Jx.pF rfl rfl rfl ?_)
 (refine J.nil (N.seq (W.cF rfl ?_)))
 (refine W.exit (N.seq (W.seq (W.seq (W.region (Jx.move rfl rfl (Jx.eqlI rfl rfl rfl (J.nil (N.seq (W.cT rfl ?_))))))))))
 (refine W.seq (W.region (Jx.assign rfl rfl (J.nil (N.seq (W.ret (N.noGotoRet ?_)))))))
 (refine id ?_; rotate_left))
    exact N.ret (rs := [.tmp 2]) rfl (.tmp rfl .nil) ⟨rfl, rfl⟩
  · have h3' : (0 : Int) < (i : Int) := by omega
    have h3z : ¬ (i : Int) = 0 := by omega
    have e1 : (i : Int) - 1 = ((i - 1 : Nat) : Int) := by omega
    have q0 : (0 : Int) ≤ ((i - 1 : Nat) : Int) := by omega
    have q1 : ((i - 1 : Nat) : Int) < (k.length : Int) := by omega
    have q2 : ((i - 1 : Nat) : Int) ≤ (k.length : Int) := by omega
    obtain ⟨x, hx⟩ : ∃ x, k.getD (Int.toNat ((i - 1 : Nat) : Int)) 0 = x := ⟨_, rfl⟩
    have hx2 : k.getD (i - 1) 0 = x := by rw [← hx, Int.toNat_natCast]
    have hsi : stripI k i = if x.toNat = 255 then stripI k (i - 1) else i := by
      obtain ⟨j, rfl⟩ : ∃ j, i = j + 1 := ⟨i - 1, by omega⟩
      rw [← hx2]; rfl
    have hxl := x.toNat_lt
    by_cases h4 : x.toNat = 255
    · have h4' : (x.toNat : Int) = 255 := by omega
      focus (
 (refine W.seq (W.seq (W.region (Jx.move rfl rfl (Jx.gtrI rfl rfl rfl (Jx.move rfl rfl (J.gY rfl rfl rfl ?_)))))))
 (refine Jx.move rfl rfl (J.gY rfl rfl rfl ?_))
 (refine Jx.move rfl rfl (J.gY rfl rfl rfl ?_))
 (refine Jx.sub64 rfl rfl (by omega) rfl ?_; rw [e1])
 (refine J.gY rfl rfl rfl ?_)
 (refine Jx.indexS rfl rfl q0 q1 rfl ?_; rw [hx])
 (refine J.gY rfl rfl rfl ?_)
 (refine Jx.eqlI rfl rfl rfl (Jx.pT rfl rfl rfl ?_))
 (refine J.nil (N.seq (W.cT rfl ?_)))
 (refine W.skip (N.seq (W.block (W.region (Jx.move rfl rfl ?_)))))
 (refine Jx.sub64 rfl rfl (by omega) rfl ?_; rw [e1])
 (refine Jx.assign rfl rfl (J.nil (N.noGotoNormal ?_)))
 (refine id ?_; rotate_left))
      exact N.round (i - 1) ⟨by omega, by rw [hst, hsi, if_pos h4]⟩ (by omega) rfl ⟨ref0 rfl, ref0 rfl, trivial⟩
    · have h4' : ¬ (x.toNat : Int) = 255 := by omega
      have hi8 := inc8 ⟨x.toNat, hxl⟩
      simp only at hi8
      have hz : (((x.toNat + 1) % 256 : Nat) : Int) = ((UInt8.ofNat (x.toNat + 1)).toNat : Int) := by rw [UInt8.toNat_ofNat']
      rw [hz] at hi8
      rw [hsi, if_neg h4, if_neg h3, hx2] at hbp
      rw [hbp]
      generalize UInt8.ofNat (x.toNat + 1) = y at *
      have htk : k.take (Int.toNat ((i - 1 : Nat) : Int)) = k.take (i - 1) := by rw [Int.toNat_natCast]
      have hcl : (k.take (Int.toNat ((i - 1 : Nat) : Int))).length + [y].length ≤ 9223372036854775807 := by rw [List.length_take]; simp only [List.length_cons, List.length_nil]; omega
      focus (
 (refine W.seq (W.seq (W.region (Jx.move rfl rfl (Jx.gtrI rfl rfl rfl (Jx.move rfl rfl (J.gY rfl rfl rfl ?_)))))))
 (refine Jx.move rfl rfl (J.gY rfl rfl rfl ?_))
 (refine Jx.move rfl rfl (J.gY rfl rfl rfl ?_))
 (refine Jx.sub64 rfl rfl (by omega) rfl ?_; rw [e1])
 (refine J.gY rfl rfl rfl ?_)
 (refine Jx.indexS rfl rfl q0 q1 rfl ?_; rw [hx])
 (refine J.gY rfl rfl rfl ?_)
 (refine Jx.eqlI rfl rfl rfl (Jx.pT rfl rfl rfl ?_))
 (refine J.nil (N.seq (W.cF rfl ?_)))
 (refine W.exit (N.seq (W.seq (W.seq (W.region (Jx.move rfl rfl (Jx.eqlI rfl rfl rfl (J.nil (N.seq (W.cF rfl ?_))))))))))
 (refine W.skip (N.seq (W.seq ?_)))
 (refine W.draw follows ?_)
 (refine JD.calm rfl (by decide +kernel) ?_)
 (refine Cx.move rfl rfl ?_)
 (refine Cx.move rfl rfl ?_)
 (refine Cx.sub64 rfl rfl (by omega) rfl ?_; rw [e1])
 (refine Cx.sliceSh rfl rfl q0 q2 rfl ?_)
 (refine Cx.move rfl rfl ?_)
 (refine Cx.move rfl rfl ?_)
 (refine Cx.sub64 rfl rfl (by omega) rfl ?_; rw [e1])
 (refine Cx.indexS rfl rfl q0 q1 rfl ?_; rw [hx])
 (refine Cx.add rfl rfl rfl ?_; rw [hi8])
 (refine SegC.q (Qs.buildBytes [y] rfl rfl rfl (by decide) (by decide)) rfl ?_)
 (refine Cx.bytesStr rfl rfl ?_)
 (refine Cx.cat rfl rfl hcl rfl ?_)
 (refine Cx.assign rfl rfl ?_)
 (refine SegC.nil ?_)
 (refine N.seq (W.ret ?_))
 (refine id ?_; rotate_left))
      exact N.ret (rs := [.tmp 2]) rfl (.tmp rfl .nil) ⟨by rw [← htk]; rfl, rfl⟩
theorem upTo_ok (a b : Bs) : FnC Tryz.prog 17 [str a, str b] [] (fun r L => r = str (if a ≠ [] then a else b) ∧ L = []) := by
  by_cases h : a = []
  · rw [if_neg (fun hh => hh h)]
    subst h
    refine FnC.intro Tryz.func17 rfl Tryz.ntmps17 rfl fun Z w0 hG => ?_
    focus (
 (refine W.seq (W.region (Jx.assign rfl rfl (J.nil (N.seq (W.seq (W.seq (W.region (Jx.move rfl rfl (Jx.neqS rfl rfl rfl (J.nil (N.seq (W.cF rfl ?_)))))))))))))
 (refine W.skip (N.seq (W.seq (W.region (Jx.move rfl rfl (Jx.assign rfl rfl (J.nil (N.seq (W.ret ?_)))))))))
 (refine id ?_; rotate_left))
    exact N.ret (rs := [.tmp 4]) rfl (.tmp rfl .nil) ⟨rfl, rfl⟩
  · rw [if_pos h]
    refine FnC.intro Tryz.func17 rfl Tryz.ntmps17 rfl fun Z w0 hG => ?_
    focus (
 (refine W.seq (W.region (Jx.assign rfl rfl (J.nil (N.seq (W.seq (W.seq (W.region (Jx.move rfl rfl (Jx.neqS rfl rfl rfl (J.nil (N.seq (W.cT rfl ?_)))))))))))))
 (refine W.seq (W.region (Jx.move rfl rfl (Jx.assign rfl rfl (J.nil (N.seq (W.ret (N.noGotoRet ?_))))))))
 (refine id ?_; rotate_left))
    exact N.ret (rs := [.tmp 4]) rfl (.tmp rfl .nil) ⟨rfl, rfl⟩
end Go.Proofs.YtaflklbmdbmjbaaGreatDoor
namespace Go.Proofs.YtaflklbmdbmjbaaGreatDoor
open Go Go.Sse
set_option linter.unusedVariables false
set_option linter.unusedSimpArgs false
set_option maxRecDepth 10000
abbrev tIt : Nat := 36
abbrev tGa : Nat := 56
abbrev It := Bs × Bs
def it0 : It := ([], [])
def itC (p : It) : List SV := [str p.1, str p.2]
abbrev itl (l : List It) : SV := .sl 2 l.length (elOf itC it0 l)
abbrev rowI (v : Value) (l : List It) : Own := .row v tIt 2 l.length (elOf itC it0 l)
theorem less_iff : ∀ a b : Bs, Op.bytesLess a b = true ↔ ltL a b
  | [], [] => by simp [Op.bytesLess, ltL]
  | [], b :: y => by simp [Op.bytesLess, ltL]
  | a :: x, [] => by simp [Op.bytesLess, ltL]
  | a :: x, b :: y => by
    simp only [Op.bytesLess, ltL, Bool.or_eq_true, Bool.and_eq_true, decide_eq_true_eq, beq_iff_eq, less_iff x y]
    exact Iff.rfl
set_option maxHeartbeats 8000000 in
theorem goesOn_ok (items : List It) (next : Bs) (nodes : List Bs) (hi : Bs) (most : Int) (h1 : 1 ≤ most) (h2 : most ≤ 16) : FnC Tryz.prog 16 [.agg [itl items, str next, ssl nodes], str hi, int most] [] (fun r L => (∃ q, r = Sse.bool q) ∧ L = []) := by
  by_cases g1 : most < (items.length : Int)
  · refine FnC.intro Tryz.func16 rfl Tryz.ntmps16 rfl fun Z w0 hG => ?_
    focus (
 (refine W.seq (W.region ?_))
 (refine J.boxAg rfl rfl ?_; intro b')
 (refine Jx.assign rfl rfl (J.nil (N.seq (W.seq (W.seq (W.region (Jx.fieldAddr rfl rfl ?_)))))))
 (refine Jx.load rfl 0 rfl rfl rfl ?_)
 (refine Jx.lenSl rfl rfl ?_)
 (refine Jx.move rfl rfl (Jx.gtrI rfl rfl rfl (J.nil (N.seq (W.cT rfl ?_)))))
 (refine W.seq (W.region (Jx.assign rfl rfl (J.nil (N.seq (W.ret (N.noGotoRet ?_)))))))
 (refine id ?_; rotate_left))
    exact N.retD (rs := [.tmp 6]) (L1 := []) rfl (.tmp rfl .nil) (List.nil_sublist _) ⟨⟨_, rfl⟩, rfl⟩
  by_cases g2 : next = []
  · refine FnC.intro Tryz.func16 rfl Tryz.ntmps16 rfl fun Z w0 hG => ?_
    focus (
 (refine W.seq (W.region ?_))
 (refine J.boxAg rfl rfl ?_; intro b')
 (refine Jx.assign rfl rfl (J.nil (N.seq (W.seq (W.seq (W.region (Jx.fieldAddr rfl rfl ?_)))))))
 (refine Jx.load rfl 0 rfl rfl rfl ?_)
 (refine Jx.lenSl rfl rfl ?_)
 (refine Jx.move rfl rfl (Jx.gtrI rfl rfl rfl (J.nil (N.seq (W.cF rfl ?_)))))
 (refine W.skip (N.seq (W.seq (W.seq (W.region (Jx.fieldAddr rfl rfl ?_))))))
 (refine Jx.load rfl 0 rfl rfl rfl ?_)
 (refine Jx.eqlS rfl rfl rfl (J.nil (N.seq (W.cT rfl ?_))))
 (refine W.seq (W.region (Jx.assign rfl rfl (J.nil (N.seq (W.ret (N.noGotoRet ?_)))))))
 (refine id ?_; rotate_left))
    exact N.retD (rs := [.tmp 6]) (L1 := []) rfl (.tmp rfl .nil) (List.nil_sublist _) ⟨⟨_, rfl⟩, rfl⟩
  by_cases g3 : (items.length : Int) = most
  case neg =>
    have g3n : (items.length : Int) ≠ most := g3
    refine FnC.intro Tryz.func16 rfl Tryz.ntmps16 rfl fun Z w0 hG => ?_
    focus (
 (refine W.seq (W.region ?_))
 (refine J.boxAg rfl rfl ?_; intro b')
 (refine Jx.assign rfl rfl (J.nil (N.seq (W.seq (W.seq (W.region (Jx.fieldAddr rfl rfl ?_)))))))
 (refine Jx.load rfl 0 rfl rfl rfl ?_)
 (refine Jx.lenSl rfl rfl ?_)
 (refine Jx.move rfl rfl (Jx.gtrI rfl rfl rfl (J.nil (N.seq (W.cF rfl ?_)))))
 (refine W.skip (N.seq (W.seq (W.seq (W.region (Jx.fieldAddr rfl rfl ?_))))))
 (refine Jx.load rfl 0 rfl rfl rfl ?_)
 (refine Jx.eqlS rfl rfl rfl (J.nil (N.seq (W.cF rfl ?_))))
 (refine W.skip (N.seq (W.seq (W.seq (W.region (Jx.fieldAddr rfl rfl ?_))))))
 (refine Jx.load rfl 0 rfl rfl rfl ?_)
 (refine Jx.lenSl rfl rfl ?_)
 (refine Jx.move rfl rfl (Jx.neqI rfl rfl rfl (Jx.move rfl rfl (J.gN rfl rfl rfl rfl ?_))))
 (refine J.gN rfl rfl rfl rfl ?_)
 (refine J.gN rfl rfl rfl rfl ?_)
 (refine J.guardSkip rfl rfl rfl rfl ?_)
 (refine J.guardSkip rfl rfl rfl rfl ?_)
 (refine J.guardSkip rfl rfl rfl rfl ?_)
 (refine J.guardSkip rfl rfl rfl rfl ?_)
 (refine J.gN rfl rfl rfl rfl ?_)
 (refine Jx.pT rfl rfl rfl ?_)
 (refine J.nil (N.seq (W.cT rfl ?_)))
 (refine W.seq (W.region (Jx.assign rfl rfl (J.nil (N.seq (W.ret (N.noGotoRet ?_)))))))
 (refine id ?_; rotate_left))
    exact N.retD (rs := [.tmp 6]) (L1 := []) rfl (.tmp rfl .nil) (List.nil_sublist _) ⟨⟨_, rfl⟩, rfl⟩
  have g3n : ¬ ((items.length : Int) ≠ most) := fun h => h g3
  have cb := fun k => behind_ok k
  have hcb := cb (items.getD (items.length - 1) it0).1
  have e1 : most - 1 = ((items.length - 1 : Nat) : Int) := by omega
  have hil : items.length - 1 < items.length := by omega
  by_cases g4 : hi = []
  · have g4n : ¬ (hi ≠ []) := fun h => h g4
    refine FnC.intro Tryz.func16 rfl Tryz.ntmps16 rfl fun Z w0 hG => ?_
    focus (
 (refine W.seq (W.region ?_))
 (refine J.boxAg rfl rfl ?_; intro b')
 (refine Jx.assign rfl rfl (J.nil (N.seq (W.seq (W.seq (W.region (Jx.fieldAddr rfl rfl ?_)))))))
 (refine Jx.load rfl 0 rfl rfl rfl ?_)
 (refine Jx.lenSl rfl rfl ?_)
 (refine Jx.move rfl rfl (Jx.gtrI rfl rfl rfl (J.nil (N.seq (W.cF rfl ?_)))))
 (refine W.skip (N.seq (W.seq (W.seq (W.region (Jx.fieldAddr rfl rfl ?_))))))
 (refine Jx.load rfl 0 rfl rfl rfl ?_)
 (refine Jx.eqlS rfl rfl rfl (J.nil (N.seq (W.cF rfl ?_))))
 (refine W.skip (N.seq (W.seq (W.seq (W.region (Jx.fieldAddr rfl rfl ?_))))))
 (refine Jx.load rfl 0 rfl rfl rfl ?_)
 (refine Jx.lenSl rfl rfl ?_)
 (refine Jx.move rfl rfl (Jx.neqI rfl rfl rfl (Jx.move rfl rfl (J.gY rfl rfl rfl ?_))))
 (refine Jx.move rfl rfl (J.gY rfl rfl rfl ?_))
 (refine Jx.neqS rfl rfl rfl (J.gY rfl rfl rfl ?_))
 (refine Jx.move rfl rfl (J.gN rfl rfl rfl rfl ?_))
 (refine J.gN rfl rfl rfl rfl ?_)
 (refine J.gN rfl rfl rfl rfl ?_)
 (refine J.gN rfl rfl rfl rfl ?_)
 (refine J.gY rfl rfl rfl ?_)
 (refine Jx.pF rfl rfl rfl ?_)
 (refine Jx.pF rfl rfl rfl ?_)
 (refine J.nil (N.seq (W.cF rfl ?_)))
 (refine W.skip (N.seq (W.seq ?_)))
 (refine W.draw follows ?_)
 (refine JD.calm rfl (by decide +kernel) ?_)
 (refine Cx.fieldAddr rfl rfl ?_)
 (refine Cx.load rfl 0 rfl rfl rfl ?_)
 (refine Cx.fieldAddr rfl rfl ?_)
 (refine Cx.load rfl 0 rfl rfl rfl ?_)
 (refine Cx.move rfl rfl ?_)
 (refine Cx.sub64 rfl rfl (by omega) rfl ?_; rw [e1])
 (refine Cx.indexEl rfl rfl hil rfl rfl ?_)
 (refine Cx.fieldEl rfl rfl rfl ?_)
 (refine Cx.loadPP rfl rfl ?_)
 (refine SegC.q (Qs.call (Lc := []) (hcb) (fun s L' h => h) (List.Perm.refl _) (evs_args rfl)) rfl ?_)
 (refine Cx.eqlS rfl rfl rfl ?_)
 (refine Cx.assign rfl rfl ?_)
 (refine SegC.nil ?_)
 (refine N.seq (W.ret ?_))
 (refine id ?_; rotate_left))
    exact N.retD (rs := [.tmp 6]) (L1 := []) rfl (.tmp rfl .nil) (List.nil_sublist _) ⟨⟨_, rfl⟩, rfl⟩
  · cases g5 : Op.bytesLess next hi with
    | false =>
      refine FnC.intro Tryz.func16 rfl Tryz.ntmps16 rfl fun Z w0 hG => ?_
      focus (
 (refine W.seq (W.region ?_))
 (refine J.boxAg rfl rfl ?_; intro b')
 (refine Jx.assign rfl rfl (J.nil (N.seq (W.seq (W.seq (W.region (Jx.fieldAddr rfl rfl ?_)))))))
 (refine Jx.load rfl 0 rfl rfl rfl ?_)
 (refine Jx.lenSl rfl rfl ?_)
 (refine Jx.move rfl rfl (Jx.gtrI rfl rfl rfl (J.nil (N.seq (W.cF rfl ?_)))))
 (refine W.skip (N.seq (W.seq (W.seq (W.region (Jx.fieldAddr rfl rfl ?_))))))
 (refine Jx.load rfl 0 rfl rfl rfl ?_)
 (refine Jx.eqlS rfl rfl rfl (J.nil (N.seq (W.cF rfl ?_))))
 (refine W.skip (N.seq (W.seq (W.seq (W.region (Jx.fieldAddr rfl rfl ?_))))))
 (refine Jx.load rfl 0 rfl rfl rfl ?_)
 (refine Jx.lenSl rfl rfl ?_)
 (refine Jx.move rfl rfl (Jx.neqI rfl rfl rfl (Jx.move rfl rfl (J.gY rfl rfl rfl ?_))))
 (refine Jx.move rfl rfl (J.gY rfl rfl rfl ?_))
 (refine Jx.neqS rfl rfl rfl (J.gY rfl rfl rfl ?_))
 (refine Jx.move rfl rfl (J.gY rfl rfl rfl ?_))
 (refine Jx.fieldAddr rfl rfl ?_)
 (refine J.gY rfl rfl rfl ?_)
 (refine Jx.load rfl 0 rfl rfl rfl ?_)
 (refine J.gY rfl rfl rfl ?_)
 (refine Jx.move rfl rfl (J.gY rfl rfl rfl ?_))
 (refine Jx.geqS rfl rfl rfl ?_)
 (refine J.gY rfl rfl rfl ?_)
 (refine Jx.pT rfl rfl rfl ?_)
 (refine Jx.pF rfl rfl rfl ?_)
 (refine J.nil (N.seq (W.cT rfl ?_)))
 (refine W.seq (W.region (Jx.assign rfl rfl (J.nil (N.seq (W.ret (N.noGotoRet ?_)))))))
 (refine id ?_; rotate_left))
      exact N.retD (rs := [.tmp 6]) (L1 := []) rfl (.tmp rfl .nil) (List.nil_sublist _) ⟨⟨_, rfl⟩, rfl⟩
    | true =>
      refine FnC.intro Tryz.func16 rfl Tryz.ntmps16 rfl fun Z w0 hG => ?_
      focus (
 (refine W.seq (W.region ?_))
 (refine J.boxAg rfl rfl ?_; intro b')
 (refine Jx.assign rfl rfl (J.nil (N.seq (W.seq (W.seq (W.region (Jx.fieldAddr rfl rfl ?_)))))))
 (refine Jx.load rfl 0 rfl rfl rfl ?_)
 (refine Jx.lenSl rfl rfl ?_)
 (refine Jx.move rfl rfl (Jx.gtrI rfl rfl rfl (J.nil (N.seq (W.cF rfl ?_)))))
 (refine W.skip (N.seq (W.seq (W.seq (W.region (Jx.fieldAddr rfl rfl ?_))))))
 (refine Jx.load rfl 0 rfl rfl rfl ?_)
 (refine Jx.eqlS rfl rfl rfl (J.nil (N.seq (W.cF rfl ?_))))
 (refine W.skip (N.seq (W.seq (W.seq (W.region (Jx.fieldAddr rfl rfl ?_))))))
 (refine Jx.load rfl 0 rfl rfl rfl ?_)
 (refine Jx.lenSl rfl rfl ?_)
 (refine Jx.move rfl rfl (Jx.neqI rfl rfl rfl (Jx.move rfl rfl (J.gY rfl rfl rfl ?_))))
 (refine Jx.move rfl rfl (J.gY rfl rfl rfl ?_))
 (refine Jx.neqS rfl rfl rfl (J.gY rfl rfl rfl ?_))
 (refine Jx.move rfl rfl (J.gY rfl rfl rfl ?_))
 (refine Jx.fieldAddr rfl rfl ?_)
 (refine J.gY rfl rfl rfl ?_)
 (refine Jx.load rfl 0 rfl rfl rfl ?_)
 (refine J.gY rfl rfl rfl ?_)
 (refine Jx.move rfl rfl (J.gY rfl rfl rfl ?_))
 (refine Jx.geqS rfl rfl rfl ?_)
 (refine J.gY rfl rfl rfl ?_)
 (refine Jx.pT rfl rfl rfl ?_)
 (refine Jx.pF rfl rfl rfl ?_)
 (refine J.nil (N.seq (W.cF rfl ?_)))
 (refine W.skip (N.seq (W.seq ?_)))
 (refine W.draw follows ?_)
 (refine JD.calm rfl (by decide +kernel) ?_)
 (refine Cx.fieldAddr rfl rfl ?_)
 (refine Cx.load rfl 0 rfl rfl rfl ?_)
 (refine Cx.fieldAddr rfl rfl ?_)
 (refine Cx.load rfl 0 rfl rfl rfl ?_)
 (refine Cx.move rfl rfl ?_)
 (refine Cx.sub64 rfl rfl (by omega) rfl ?_; rw [e1])
 (refine Cx.indexEl rfl rfl hil rfl rfl ?_)
 (refine Cx.fieldEl rfl rfl rfl ?_)
 (refine Cx.loadPP rfl rfl ?_)
 (refine SegC.q (Qs.call (Lc := []) (hcb) (fun s L' h => h) (List.Perm.refl _) (evs_args rfl)) rfl ?_)
 (refine Cx.eqlS rfl rfl rfl ?_)
 (refine Cx.assign rfl rfl ?_)
 (refine SegC.nil ?_)
 (refine N.seq (W.ret ?_))
 (refine id ?_; rotate_left))
      exact N.retD (rs := [.tmp 6]) (L1 := []) rfl (.tmp rfl .nil) (List.nil_sublist _) ⟨⟨_, rfl⟩, rfl⟩
abbrev gaO (g : Nat) (lo hi : Bs) (v : Value) : Own := .obj g tGa [str lo, str hi, str (ofN lo), str (ofN hi), .val v]
set_option maxHeartbeats 8000000 in
theorem may_ok (g : Nat) (lo hi : Bs) (v : Value) (place : Bs) (hp : place.length ≤ 1000000) : FnC Tryz.prog 33 [ptr g, str place] [gaO g lo hi v] (fun r L => r = Sse.bool (decide (mayP lo hi place)) ∧ L = [gaO g lo hi v]) := by
  have c1 := side_ok place (ofN lo) hp
  have c2 := side_ok place (ofN hi) hp
  have hiff : mayP lo hi place ↔ 0 ≤ sideN place (ofN lo) ∧ (hi = [] ∨ sideN place (ofN hi) ≤ 0) := Iff.rfl
  obtain ⟨a, ha⟩ : ∃ a, sideN place (ofN lo) = a := ⟨_, rfl⟩
  obtain ⟨b, hb⟩ : ∃ b, sideN place (ofN hi) = b := ⟨_, rfl⟩
  rw [ha] at c1 hiff
  rw [hb] at c2 hiff
  by_cases g1 : 0 ≤ a
  case neg =>
    rw [show decide (mayP lo hi place) = false from decide_eq_false (fun h => g1 (hiff.1 h).1)]
    refine FnC.intro Tryz.func33 rfl Tryz.ntmps33 rfl fun Z w0 hG => ?_
    focus (
 (refine W.seq (W.region (Jx.assign rfl rfl (J.nil (N.seq (W.seq (W.region (Jx.move rfl rfl (Jx.move rfl rfl (Jx.nilCheck rfl rfl ?_))))))))))
 (refine Jx.fieldAddr rfl rfl ?_)
 (refine Jx.load rfl 0 rfl rfl rfl ?_)
 (refine J.call (Lc := []) c1 rfl (evs_args rfl) rfl ?_; rintro _ _ ⟨rfl, rfl⟩; rw [List.nil_append])
 (refine Jx.geqI rfl rfl rfl (Jx.move rfl rfl (J.gN rfl rfl rfl rfl ?_)))
 (refine J.gN rfl rfl rfl rfl ?_)
 (refine J.gN rfl rfl rfl rfl ?_)
 (refine J.gN rfl rfl rfl rfl ?_)
 (refine J.gN rfl rfl rfl rfl ?_)
 (refine J.gN rfl rfl rfl rfl ?_)
 (refine J.guardSkip rfl rfl rfl rfl ?_)
 (refine J.guardSkip rfl rfl rfl rfl ?_)
 (refine J.guardSkip rfl rfl rfl rfl ?_)
 (refine J.guardSkip rfl rfl rfl rfl ?_)
 (refine J.guardSkip rfl rfl rfl rfl ?_)
 (refine J.guardSkip rfl rfl rfl rfl ?_)
 (refine J.guardSkip rfl rfl rfl rfl ?_)
 (refine J.gN rfl rfl rfl rfl ?_)
 (refine Jx.pF rfl rfl rfl ?_)
 (refine Jx.assign rfl rfl (J.nil (N.seq (W.ret ?_))))
 (refine id ?_; rotate_left))
    exact N.ret (rs := [.tmp 4]) rfl (.tmp rfl .nil) ⟨rfl, rfl⟩
  by_cases g2 : hi = []
  · rw [show decide (mayP lo hi place) = true from decide_eq_true (hiff.2 ⟨g1, .inl g2⟩)]
    refine FnC.intro Tryz.func33 rfl Tryz.ntmps33 rfl fun Z w0 hG => ?_
    focus (
 (refine W.seq (W.region (Jx.assign rfl rfl (J.nil (N.seq (W.seq (W.region (Jx.move rfl rfl (Jx.move rfl rfl (Jx.nilCheck rfl rfl ?_))))))))))
 (refine Jx.fieldAddr rfl rfl ?_)
 (refine Jx.load rfl 0 rfl rfl rfl ?_)
 (refine J.call (Lc := []) c1 rfl (evs_args rfl) rfl ?_; rintro _ _ ⟨rfl, rfl⟩; rw [List.nil_append])
 (refine Jx.geqI rfl rfl rfl (Jx.move rfl rfl (J.gY rfl rfl rfl ?_)))
 (refine Jx.move rfl rfl (J.gY rfl rfl rfl ?_))
 (refine Jx.nilCheck rfl rfl ?_)
 (refine J.gY rfl rfl rfl ?_)
 (refine Jx.fieldAddr rfl rfl ?_)
 (refine J.gY rfl rfl rfl ?_)
 (refine Jx.load rfl 0 rfl rfl rfl ?_)
 (refine J.gY rfl rfl rfl ?_)
 (refine Jx.eqlS rfl rfl rfl (J.gY rfl rfl rfl ?_))
 (refine Jx.move rfl rfl (J.gN rfl rfl rfl rfl ?_))
 (refine J.gN rfl rfl rfl rfl ?_)
 (refine J.gN rfl rfl rfl rfl ?_)
 (refine J.gN rfl rfl rfl rfl ?_)
 (refine J.gN rfl rfl rfl rfl ?_)
 (refine J.gN rfl rfl rfl rfl ?_)
 (refine J.gN rfl rfl rfl rfl ?_)
 (refine J.gY rfl rfl rfl ?_)
 (refine Jx.pT rfl rfl rfl ?_)
 (refine Jx.pT rfl rfl rfl ?_)
 (refine Jx.assign rfl rfl (J.nil (N.seq (W.ret ?_))))
 (refine id ?_; rotate_left))
    exact N.ret (rs := [.tmp 4]) rfl (.tmp rfl .nil) ⟨by first | rfl | simp [oneOr, g2], rfl⟩
  by_cases g3 : b ≤ 0
  · rw [show decide (mayP lo hi place) = true from decide_eq_true (hiff.2 ⟨g1, .inr g3⟩)]
    refine FnC.intro Tryz.func33 rfl Tryz.ntmps33 rfl fun Z w0 hG => ?_
    focus (
 (refine W.seq (W.region (Jx.assign rfl rfl (J.nil (N.seq (W.seq (W.region (Jx.move rfl rfl (Jx.move rfl rfl (Jx.nilCheck rfl rfl ?_))))))))))
 (refine Jx.fieldAddr rfl rfl ?_)
 (refine Jx.load rfl 0 rfl rfl rfl ?_)
 (refine J.call (Lc := []) c1 rfl (evs_args rfl) rfl ?_; rintro _ _ ⟨rfl, rfl⟩; rw [List.nil_append])
 (refine Jx.geqI rfl rfl rfl (Jx.move rfl rfl (J.gY rfl rfl rfl ?_)))
 (refine Jx.move rfl rfl (J.gY rfl rfl rfl ?_))
 (refine Jx.nilCheck rfl rfl ?_)
 (refine J.gY rfl rfl rfl ?_)
 (refine Jx.fieldAddr rfl rfl ?_)
 (refine J.gY rfl rfl rfl ?_)
 (refine Jx.load rfl 0 rfl rfl rfl ?_)
 (refine J.gY rfl rfl rfl ?_)
 (refine Jx.eqlS rfl rfl rfl (J.gY rfl rfl rfl ?_))
 (refine Jx.move rfl rfl (J.gY rfl rfl rfl ?_))
 (refine Jx.move rfl rfl (J.gY rfl rfl rfl ?_))
 (refine Jx.move rfl rfl (J.gY rfl rfl rfl ?_))
 (refine Jx.nilCheck rfl rfl ?_)
 (refine J.gY rfl rfl rfl ?_)
 (refine Jx.fieldAddr rfl rfl ?_)
 (refine J.gY rfl rfl rfl ?_)
 (refine Jx.load rfl 0 rfl rfl rfl ?_)
 (refine J.gY rfl rfl rfl ?_)
 (refine J.call (Lc := []) c2 rfl (evs_args rfl) rfl ?_; rintro _ _ ⟨rfl, rfl⟩; rw [List.nil_append])
 (refine J.gY rfl rfl rfl ?_)
 (refine Jx.leqI rfl rfl rfl (J.gY rfl rfl rfl ?_))
 (refine Jx.pF rfl rfl rfl ?_)
 (refine Jx.pT rfl rfl rfl ?_)
 (refine Jx.assign rfl rfl (J.nil (N.seq (W.ret ?_))))
 (refine id ?_; rotate_left))
    exact N.ret (rs := [.tmp 4]) rfl (.tmp rfl .nil) ⟨by first | rfl | simp [oneOr, g3], rfl⟩
  · rw [show decide (mayP lo hi place) = false from decide_eq_false (by intro hh; rcases (hiff.1 hh).2 with h | h; exact g2 h; exact g3 h)]
    refine FnC.intro Tryz.func33 rfl Tryz.ntmps33 rfl fun Z w0 hG => ?_
    focus (
 (refine W.seq (W.region (Jx.assign rfl rfl (J.nil (N.seq (W.seq (W.region (Jx.move rfl rfl (Jx.move rfl rfl (Jx.nilCheck rfl rfl ?_))))))))))
 (refine Jx.fieldAddr rfl rfl ?_)
 (refine Jx.load rfl 0 rfl rfl rfl ?_)
 (refine J.call (Lc := []) c1 rfl (evs_args rfl) rfl ?_; rintro _ _ ⟨rfl, rfl⟩; rw [List.nil_append])
 (refine Jx.geqI rfl rfl rfl (Jx.move rfl rfl (J.gY rfl rfl rfl ?_)))
 (refine Jx.move rfl rfl (J.gY rfl rfl rfl ?_))
 (refine Jx.nilCheck rfl rfl ?_)
 (refine J.gY rfl rfl rfl ?_)
 (refine Jx.fieldAddr rfl rfl ?_)
 (refine J.gY rfl rfl rfl ?_)
 (refine Jx.load rfl 0 rfl rfl rfl ?_)
 (refine J.gY rfl rfl rfl ?_)
 (refine Jx.eqlS rfl rfl rfl (J.gY rfl rfl rfl ?_))
 (refine Jx.move rfl rfl (J.gY rfl rfl rfl ?_))
 (refine Jx.move rfl rfl (J.gY rfl rfl rfl ?_))
 (refine Jx.move rfl rfl (J.gY rfl rfl rfl ?_))
 (refine Jx.nilCheck rfl rfl ?_)
 (refine J.gY rfl rfl rfl ?_)
 (refine Jx.fieldAddr rfl rfl ?_)
 (refine J.gY rfl rfl rfl ?_)
 (refine Jx.load rfl 0 rfl rfl rfl ?_)
 (refine J.gY rfl rfl rfl ?_)
 (refine J.call (Lc := []) c2 rfl (evs_args rfl) rfl ?_; rintro _ _ ⟨rfl, rfl⟩; rw [List.nil_append])
 (refine J.gY rfl rfl rfl ?_)
 (refine Jx.leqI rfl rfl rfl (J.gY rfl rfl rfl ?_))
 (refine Jx.pF rfl rfl rfl ?_)
 (refine Jx.pT rfl rfl rfl ?_)
 (refine Jx.assign rfl rfl (J.nil (N.seq (W.ret ?_))))
 (refine id ?_; rotate_left))
    exact N.ret (rs := [.tmp 4]) rfl (.tmp rfl .nil) ⟨by first | rfl | simp [oneOr, g3], rfl⟩
end Go.Proofs.YtaflklbmdbmjbaaGreatDoor
namespace Go.Proofs.YtaflklbmdbmjbaaGreatDoor
open Go Go.Sse
set_option linter.unusedVariables false
set_option linter.unusedSimpArgs false
set_option maxRecDepth 10000
theorem itemP_in {lo hi p value : Bs} {l : List It} (h : inR lo hi (keyP p).1) : itemP lo hi p value l = l ++ [((keyP p).1, value)] := by unfold itemP; rw [if_pos h]
theorem itemP_out {lo hi p value : Bs} {l : List It} (h : ¬ inR lo hi (keyP p).1) : itemP lo hi p value l = l := by unfold itemP; rw [if_neg h]
theorem less_true {a b : Bs} (h : ltL a b) : Op.bytesLess a b = true := (less_iff a b).2 h
theorem less_false {a b : Bs} (h : ¬ ltL a b) : Op.bytesLess a b = false := by cases h2 : Op.bytesLess a b with
  | false => rfl
  | true => exact absurd ((less_iff a b).1 h2) h
set_option maxHeartbeats 16000000 in
theorem item_ok (g : Nat) (lo hi : Bs) (v : Value) (items : List It) (p value : Bs) (hp : p.length ≤ 1000000) (hil : items.length ≤ 1000000) :
    FnC Tryz.prog 34 [ptr g, str p, str value] [gaO g lo hi v, rowI v items] (fun r L => ∃ v', ((badK p ∧ r = Sse.bool false ∧ L = [gaO g lo hi v', rowI v' items]) ∨ (¬ badK p ∧ r = Sse.bool true ∧ L = [gaO g lo hi v', rowI v' (itemP lo hi p value items)]))) := by
  have ck := key_ok p hp
  unfold badK
  have hin := itemP_in (lo := lo) (hi := hi) (p := p) (value := value) (l := items)
  have hout := itemP_out (lo := lo) (hi := hi) (p := p) (value := value) (l := items)
  generalize keyP p = K at *
  obtain ⟨k, e⟩ := K
  simp only at ck hin hout ⊢
  by_cases g1 : e = 0
  case neg =>
    have g1n : e ≠ 0 := g1
    have B := Or.inl (b := k = [] ∨ 16 < p.length) g1n
    refine FnC.intro Tryz.func34 rfl Tryz.ntmps34 rfl fun Z w0 hG => ?_
    focus (
 (refine W.seq (W.region (Jx.assign rfl rfl (J.nil (N.seq (W.seq (W.region (Jx.move rfl rfl ?_))))))))
 (refine J.call (Lc := []) ck rfl (evs_args rfl) rfl ?_; rintro _ _ ⟨rfl, rfl⟩; rw [List.nil_append])
 (refine Jx.move rfl rfl (Jx.extract rfl rfl rfl ?_))
 (refine Jx.extract rfl rfl rfl ?_)
 (refine Jx.assign rfl rfl (Jx.assign rfl rfl (J.nil (N.seq (W.seq (W.seq (W.region (Jx.move rfl rfl (Jx.neqI rfl rfl rfl (Jx.move rfl rfl (J.gN rfl rfl rfl rfl ?_)))))))))))
 (refine J.gN rfl rfl rfl rfl ?_)
 (refine Jx.pT rfl rfl rfl ?_)
 (refine Jx.move rfl rfl (J.gN rfl rfl rfl rfl ?_))
 (refine J.gN rfl rfl rfl rfl ?_)
 (refine J.gN rfl rfl rfl rfl ?_)
 (refine Jx.pT rfl rfl rfl ?_)
 (refine J.nil (N.seq (W.cT rfl ?_)))
 (refine W.seq (W.region (Jx.assign rfl rfl (J.nil (N.seq (W.ret (N.noGotoRet ?_)))))))
 (refine id ?_; rotate_left))
    exact N.ret (rs := [.tmp 6]) rfl (.tmp rfl .nil) ⟨v, .inl ⟨B, rfl, rfl⟩⟩
  have g1n : ¬ (e ≠ 0) := fun h => h g1
  by_cases g2 : k = []
  · have B : e ≠ 0 ∨ k = [] ∨ 16 < p.length := .inr (.inl g2)
    refine FnC.intro Tryz.func34 rfl Tryz.ntmps34 rfl fun Z w0 hG => ?_
    focus (
 (refine W.seq (W.region (Jx.assign rfl rfl (J.nil (N.seq (W.seq (W.region (Jx.move rfl rfl ?_))))))))
 (refine J.call (Lc := []) ck rfl (evs_args rfl) rfl ?_; rintro _ _ ⟨rfl, rfl⟩; rw [List.nil_append])
 (refine Jx.move rfl rfl (Jx.extract rfl rfl rfl ?_))
 (refine Jx.extract rfl rfl rfl ?_)
 (refine Jx.assign rfl rfl (Jx.assign rfl rfl (J.nil (N.seq (W.seq (W.seq (W.region (Jx.move rfl rfl (Jx.neqI rfl rfl rfl (Jx.move rfl rfl (J.gY rfl rfl rfl ?_)))))))))))
 (refine Jx.move rfl rfl (J.gY rfl rfl rfl ?_))
 (refine Jx.eqlS rfl rfl rfl (Jx.pF rfl rfl rfl ?_))
 (refine Jx.move rfl rfl (J.gN rfl rfl rfl rfl ?_))
 (refine J.gN rfl rfl rfl rfl ?_)
 (refine J.gN rfl rfl rfl rfl ?_)
 (refine Jx.pT rfl rfl rfl ?_)
 (refine J.nil (N.seq (W.cT rfl ?_)))
 (refine W.seq (W.region (Jx.assign rfl rfl (J.nil (N.seq (W.ret (N.noGotoRet ?_)))))))
 (refine id ?_; rotate_left))
    exact N.ret (rs := [.tmp 6]) rfl (.tmp rfl .nil) ⟨v, .inl ⟨B, rfl, rfl⟩⟩
  by_cases g3 : 16 < p.length
  · have g3' : (16 : Int) < (p.length : Int) := by omega
    have B : e ≠ 0 ∨ k = [] ∨ 16 < p.length := .inr (.inr g3)
    refine FnC.intro Tryz.func34 rfl Tryz.ntmps34 rfl fun Z w0 hG => ?_
    focus (
 (refine W.seq (W.region (Jx.assign rfl rfl (J.nil (N.seq (W.seq (W.region (Jx.move rfl rfl ?_))))))))
 (refine J.call (Lc := []) ck rfl (evs_args rfl) rfl ?_; rintro _ _ ⟨rfl, rfl⟩; rw [List.nil_append])
 (refine Jx.move rfl rfl (Jx.extract rfl rfl rfl ?_))
 (refine Jx.extract rfl rfl rfl ?_)
 (refine Jx.assign rfl rfl (Jx.assign rfl rfl (J.nil (N.seq (W.seq (W.seq (W.region (Jx.move rfl rfl (Jx.neqI rfl rfl rfl (Jx.move rfl rfl (J.gY rfl rfl rfl ?_)))))))))))
 (refine Jx.move rfl rfl (J.gY rfl rfl rfl ?_))
 (refine Jx.eqlS rfl rfl rfl (Jx.pF rfl rfl rfl ?_))
 (refine Jx.move rfl rfl (J.gY rfl rfl rfl ?_))
 (refine Jx.move rfl rfl (J.gY rfl rfl rfl ?_))
 (refine Jx.lenS rfl rfl ?_)
 (refine J.gY rfl rfl rfl ?_)
 (refine Jx.gtrI rfl rfl rfl (Jx.pF rfl rfl rfl ?_))
 (refine J.nil (N.seq (W.cT rfl ?_)))
 (refine W.seq (W.region (Jx.assign rfl rfl (J.nil (N.seq (W.ret (N.noGotoRet ?_)))))))
 (refine id ?_; rotate_left))
    exact N.ret (rs := [.tmp 6]) rfl (.tmp rfl .nil) ⟨v, .inl ⟨B, rfl, rfl⟩⟩
  have g3' : ¬ (16 : Int) < (p.length : Int) := by omega
  have hb : ¬ (e ≠ 0 ∨ k = [] ∨ 16 < p.length) := by rintro (h | h | h); exact h g1; exact g2 h; exact g3 h
  by_cases g4 : ltL k lo
  · have b4 := less_true g4
    rw [hout (fun h => h.1 g4)]
    refine FnC.intro Tryz.func34 rfl Tryz.ntmps34 rfl fun Z w0 hG => ?_
    focus (
 (refine W.seq (W.region (Jx.assign rfl rfl (J.nil (N.seq (W.seq (W.region (Jx.move rfl rfl ?_))))))))
 (refine J.call (Lc := []) ck rfl (evs_args rfl) rfl ?_; rintro _ _ ⟨rfl, rfl⟩; rw [List.nil_append])
 (refine Jx.move rfl rfl (Jx.extract rfl rfl rfl ?_))
 (refine Jx.extract rfl rfl rfl ?_)
 (refine Jx.assign rfl rfl (Jx.assign rfl rfl (J.nil (N.seq (W.seq (W.seq (W.region (Jx.move rfl rfl (Jx.neqI rfl rfl rfl (Jx.move rfl rfl (J.gY rfl rfl rfl ?_)))))))))))
 (refine Jx.move rfl rfl (J.gY rfl rfl rfl ?_))
 (refine Jx.eqlS rfl rfl rfl (Jx.pF rfl rfl rfl ?_))
 (refine Jx.move rfl rfl (J.gY rfl rfl rfl ?_))
 (refine Jx.move rfl rfl (J.gY rfl rfl rfl ?_))
 (refine Jx.lenS rfl rfl ?_)
 (refine J.gY rfl rfl rfl ?_)
 (refine Jx.gtrI rfl rfl rfl (Jx.pF rfl rfl rfl ?_))
 (refine J.nil (N.seq (W.cF rfl ?_)))
 (refine W.skip (N.seq (W.seq (W.seq (W.region (Jx.move rfl rfl (Jx.move rfl rfl (Jx.nilCheck rfl rfl ?_))))))))
 (refine Jx.fieldAddr rfl rfl ?_)
 (refine Jx.load rfl 0 rfl rfl rfl ?_)
 (refine Jx.geqS rfl rfl rfl ?_; rw [b4])
 (refine Jx.move rfl rfl (J.gN rfl rfl rfl rfl ?_))
 (refine J.gN rfl rfl rfl rfl ?_)
 (refine J.gN rfl rfl rfl rfl ?_)
 (refine J.gN rfl rfl rfl rfl ?_)
 (refine J.gN rfl rfl rfl rfl ?_)
 (refine J.gN rfl rfl rfl rfl ?_)
 (refine J.guardSkip rfl rfl rfl rfl ?_)
 (refine J.guardSkip rfl rfl rfl rfl ?_)
 (refine J.guardSkip rfl rfl rfl rfl ?_)
 (refine J.guardSkip rfl rfl rfl rfl ?_)
 (refine J.guardSkip rfl rfl rfl rfl ?_)
 (refine J.guardSkip rfl rfl rfl rfl ?_)
 (refine J.gN rfl rfl rfl rfl ?_)
 (refine Jx.pF rfl rfl rfl ?_)
 (refine J.nil (N.seq (W.cF rfl ?_)))
 (refine W.skip (N.seq (W.seq (W.region (Jx.assign rfl rfl (J.nil (N.seq (W.ret ?_))))))))
 (refine id ?_; rotate_left))
    exact N.ret (rs := [.tmp 6]) rfl (.tmp rfl .nil) ⟨v, .inr ⟨hb, rfl, rfl⟩⟩
  have b4 := less_false g4
  have hmx : items.length + [(k, value)].length ≤ maxLen ∧ (items.length + [(k, value)].length) * 32 ≤ 140737488355328 := by simp only [maxLen, List.length_cons, List.length_nil]; omega
  by_cases g5 : hi = []
  · rw [hin ⟨g4, .inl g5⟩]
    refine FnC.intro Tryz.func34 rfl Tryz.ntmps34 rfl fun Z w0 hG => ?_
    focus (
 (refine W.seq (W.region (Jx.assign rfl rfl (J.nil (N.seq (W.seq (W.region (Jx.move rfl rfl ?_))))))))
 (refine J.call (Lc := []) ck rfl (evs_args rfl) rfl ?_; rintro _ _ ⟨rfl, rfl⟩; rw [List.nil_append])
 (refine Jx.move rfl rfl (Jx.extract rfl rfl rfl ?_))
 (refine Jx.extract rfl rfl rfl ?_)
 (refine Jx.assign rfl rfl (Jx.assign rfl rfl (J.nil (N.seq (W.seq (W.seq (W.region (Jx.move rfl rfl (Jx.neqI rfl rfl rfl (Jx.move rfl rfl (J.gY rfl rfl rfl ?_)))))))))))
 (refine Jx.move rfl rfl (J.gY rfl rfl rfl ?_))
 (refine Jx.eqlS rfl rfl rfl (Jx.pF rfl rfl rfl ?_))
 (refine Jx.move rfl rfl (J.gY rfl rfl rfl ?_))
 (refine Jx.move rfl rfl (J.gY rfl rfl rfl ?_))
 (refine Jx.lenS rfl rfl ?_)
 (refine J.gY rfl rfl rfl ?_)
 (refine Jx.gtrI rfl rfl rfl (Jx.pF rfl rfl rfl ?_))
 (refine J.nil (N.seq (W.cF rfl ?_)))
 (refine W.skip (N.seq (W.seq (W.seq (W.region (Jx.move rfl rfl (Jx.move rfl rfl (Jx.nilCheck rfl rfl ?_))))))))
 (refine Jx.fieldAddr rfl rfl ?_)
 (refine Jx.load rfl 0 rfl rfl rfl ?_)
 (refine Jx.geqS rfl rfl rfl ?_; rw [b4])
 (refine Jx.move rfl rfl (J.gY rfl rfl rfl ?_))
 (refine Jx.move rfl rfl (J.gY rfl rfl rfl ?_))
 (refine Jx.nilCheck rfl rfl ?_)
 (refine J.gY rfl rfl rfl ?_)
 (refine Jx.fieldAddr rfl rfl ?_)
 (refine J.gY rfl rfl rfl ?_)
 (refine Jx.load rfl 0 rfl rfl rfl ?_)
 (refine J.gY rfl rfl rfl ?_)
 (refine Jx.eqlS rfl rfl rfl (J.gY rfl rfl rfl ?_))
 (refine Jx.move rfl rfl (J.gN rfl rfl rfl rfl ?_))
 (refine J.gN rfl rfl rfl rfl ?_)
 (refine J.gN rfl rfl rfl rfl ?_)
 (refine J.gN rfl rfl rfl rfl ?_)
 (refine J.gN rfl rfl rfl rfl ?_)
 (refine J.gN rfl rfl rfl rfl ?_)
 (refine J.gY rfl rfl rfl ?_)
 (refine Jx.pT rfl rfl rfl ?_)
 (refine Jx.pT rfl rfl rfl ?_)
 (refine J.nil (N.seq (W.cT rfl ?_)))
 (refine W.region (Jx.move rfl rfl (Jx.move rfl rfl (Jx.nilCheck rfl rfl ?_))))
 (refine Jx.fieldAddr rfl rfl ?_)
 (refine Jx.load rfl 0 rfl rfl rfl ?_)
 (refine Jx.move rfl rfl (Jx.move rfl rfl (Jx.buildB rfl rfl rfl rfl rfl ?_)))
 (refine J.qs (Qs.buildOne itC it0 (k, value) rfl rfl rfl rfl rfl rfl rfl) rfl ?_)
 (refine J.appendAt (enc := itC) (l := items) (l2 := [(k, value)]) 1 rfl rfl (SrcOK.sl rfl) rfl rfl hmx rfl ?_; intro v' hv')
 (refine Jx.nilCheck rfl rfl ?_)
 (refine Jx.fieldAddr rfl rfl ?_)
 (refine J.store rfl rfl (One.val hv') 0 rfl rfl rfl rfl ?_)
 (refine J.nil (N.seq (W.seq (W.region (Jx.assign rfl rfl (J.nil (N.seq (W.ret ?_))))))))
 (refine id ?_; rotate_left))
    exact N.ret (rs := [.tmp 6]) rfl (.tmp rfl .nil) ⟨v', .inr ⟨hb, rfl, rfl⟩⟩
  by_cases g6 : ltL k hi
  · have b6 := less_true g6
    rw [hin ⟨g4, .inr g6⟩]
    refine FnC.intro Tryz.func34 rfl Tryz.ntmps34 rfl fun Z w0 hG => ?_
    focus (
 (refine W.seq (W.region (Jx.assign rfl rfl (J.nil (N.seq (W.seq (W.region (Jx.move rfl rfl ?_))))))))
 (refine J.call (Lc := []) ck rfl (evs_args rfl) rfl ?_; rintro _ _ ⟨rfl, rfl⟩; rw [List.nil_append])
 (refine Jx.move rfl rfl (Jx.extract rfl rfl rfl ?_))
 (refine Jx.extract rfl rfl rfl ?_)
 (refine Jx.assign rfl rfl (Jx.assign rfl rfl (J.nil (N.seq (W.seq (W.seq (W.region (Jx.move rfl rfl (Jx.neqI rfl rfl rfl (Jx.move rfl rfl (J.gY rfl rfl rfl ?_)))))))))))
 (refine Jx.move rfl rfl (J.gY rfl rfl rfl ?_))
 (refine Jx.eqlS rfl rfl rfl (Jx.pF rfl rfl rfl ?_))
 (refine Jx.move rfl rfl (J.gY rfl rfl rfl ?_))
 (refine Jx.move rfl rfl (J.gY rfl rfl rfl ?_))
 (refine Jx.lenS rfl rfl ?_)
 (refine J.gY rfl rfl rfl ?_)
 (refine Jx.gtrI rfl rfl rfl (Jx.pF rfl rfl rfl ?_))
 (refine J.nil (N.seq (W.cF rfl ?_)))
 (refine W.skip (N.seq (W.seq (W.seq (W.region (Jx.move rfl rfl (Jx.move rfl rfl (Jx.nilCheck rfl rfl ?_))))))))
 (refine Jx.fieldAddr rfl rfl ?_)
 (refine Jx.load rfl 0 rfl rfl rfl ?_)
 (refine Jx.geqS rfl rfl rfl ?_; rw [b4])
 (refine Jx.move rfl rfl (J.gY rfl rfl rfl ?_))
 (refine Jx.move rfl rfl (J.gY rfl rfl rfl ?_))
 (refine Jx.nilCheck rfl rfl ?_)
 (refine J.gY rfl rfl rfl ?_)
 (refine Jx.fieldAddr rfl rfl ?_)
 (refine J.gY rfl rfl rfl ?_)
 (refine Jx.load rfl 0 rfl rfl rfl ?_)
 (refine J.gY rfl rfl rfl ?_)
 (refine Jx.eqlS rfl rfl rfl (J.gY rfl rfl rfl ?_))
 (refine Jx.move rfl rfl (J.gY rfl rfl rfl ?_))
 (refine Jx.move rfl rfl (J.gY rfl rfl rfl ?_))
 (refine Jx.move rfl rfl (J.gY rfl rfl rfl ?_))
 (refine Jx.nilCheck rfl rfl ?_)
 (refine J.gY rfl rfl rfl ?_)
 (refine Jx.fieldAddr rfl rfl ?_)
 (refine J.gY rfl rfl rfl ?_)
 (refine Jx.load rfl 0 rfl rfl rfl ?_)
 (refine J.gY rfl rfl rfl ?_)
 (refine Jx.lssS rfl rfl rfl ?_; rw [b6])
 (refine J.gY rfl rfl rfl ?_)
 (refine Jx.pF rfl rfl rfl ?_)
 (refine Jx.pT rfl rfl rfl ?_)
 (refine J.nil (N.seq (W.cT rfl ?_)))
 (refine W.region (Jx.move rfl rfl (Jx.move rfl rfl (Jx.nilCheck rfl rfl ?_))))
 (refine Jx.fieldAddr rfl rfl ?_)
 (refine Jx.load rfl 0 rfl rfl rfl ?_)
 (refine Jx.move rfl rfl (Jx.move rfl rfl (Jx.buildB rfl rfl rfl rfl rfl ?_)))
 (refine J.qs (Qs.buildOne itC it0 (k, value) rfl rfl rfl rfl rfl rfl rfl) rfl ?_)
 (refine J.appendAt (enc := itC) (l := items) (l2 := [(k, value)]) 1 rfl rfl (SrcOK.sl rfl) rfl rfl hmx rfl ?_; intro v' hv')
 (refine Jx.nilCheck rfl rfl ?_)
 (refine Jx.fieldAddr rfl rfl ?_)
 (refine J.store rfl rfl (One.val hv') 0 rfl rfl rfl rfl ?_)
 (refine J.nil (N.seq (W.seq (W.region (Jx.assign rfl rfl (J.nil (N.seq (W.ret ?_))))))))
 (refine id ?_; rotate_left))
    exact N.ret (rs := [.tmp 6]) rfl (.tmp rfl .nil) ⟨v', .inr ⟨hb, rfl, rfl⟩⟩
  · have b6 := less_false g6
    rw [hout (by rintro ⟨_, h | h⟩; exact g5 h; exact g6 h)]
    refine FnC.intro Tryz.func34 rfl Tryz.ntmps34 rfl fun Z w0 hG => ?_
    focus (
 (refine W.seq (W.region (Jx.assign rfl rfl (J.nil (N.seq (W.seq (W.region (Jx.move rfl rfl ?_))))))))
 (refine J.call (Lc := []) ck rfl (evs_args rfl) rfl ?_; rintro _ _ ⟨rfl, rfl⟩; rw [List.nil_append])
 (refine Jx.move rfl rfl (Jx.extract rfl rfl rfl ?_))
 (refine Jx.extract rfl rfl rfl ?_)
 (refine Jx.assign rfl rfl (Jx.assign rfl rfl (J.nil (N.seq (W.seq (W.seq (W.region (Jx.move rfl rfl (Jx.neqI rfl rfl rfl (Jx.move rfl rfl (J.gY rfl rfl rfl ?_)))))))))))
 (refine Jx.move rfl rfl (J.gY rfl rfl rfl ?_))
 (refine Jx.eqlS rfl rfl rfl (Jx.pF rfl rfl rfl ?_))
 (refine Jx.move rfl rfl (J.gY rfl rfl rfl ?_))
 (refine Jx.move rfl rfl (J.gY rfl rfl rfl ?_))
 (refine Jx.lenS rfl rfl ?_)
 (refine J.gY rfl rfl rfl ?_)
 (refine Jx.gtrI rfl rfl rfl (Jx.pF rfl rfl rfl ?_))
 (refine J.nil (N.seq (W.cF rfl ?_)))
 (refine W.skip (N.seq (W.seq (W.seq (W.region (Jx.move rfl rfl (Jx.move rfl rfl (Jx.nilCheck rfl rfl ?_))))))))
 (refine Jx.fieldAddr rfl rfl ?_)
 (refine Jx.load rfl 0 rfl rfl rfl ?_)
 (refine Jx.geqS rfl rfl rfl ?_; rw [b4])
 (refine Jx.move rfl rfl (J.gY rfl rfl rfl ?_))
 (refine Jx.move rfl rfl (J.gY rfl rfl rfl ?_))
 (refine Jx.nilCheck rfl rfl ?_)
 (refine J.gY rfl rfl rfl ?_)
 (refine Jx.fieldAddr rfl rfl ?_)
 (refine J.gY rfl rfl rfl ?_)
 (refine Jx.load rfl 0 rfl rfl rfl ?_)
 (refine J.gY rfl rfl rfl ?_)
 (refine Jx.eqlS rfl rfl rfl (J.gY rfl rfl rfl ?_))
 (refine Jx.move rfl rfl (J.gY rfl rfl rfl ?_))
 (refine Jx.move rfl rfl (J.gY rfl rfl rfl ?_))
 (refine Jx.move rfl rfl (J.gY rfl rfl rfl ?_))
 (refine Jx.nilCheck rfl rfl ?_)
 (refine J.gY rfl rfl rfl ?_)
 (refine Jx.fieldAddr rfl rfl ?_)
 (refine J.gY rfl rfl rfl ?_)
 (refine Jx.load rfl 0 rfl rfl rfl ?_)
 (refine J.gY rfl rfl rfl ?_)
 (refine Jx.lssS rfl rfl rfl ?_; rw [b6])
 (refine J.gY rfl rfl rfl ?_)
 (refine Jx.pF rfl rfl rfl ?_)
 (refine Jx.pT rfl rfl rfl ?_)
 (refine J.nil (N.seq (W.cF rfl ?_)))
 (refine W.skip (N.seq (W.seq (W.region (Jx.assign rfl rfl (J.nil (N.seq (W.ret ?_))))))))
 (refine id ?_; rotate_left))
    exact N.ret (rs := [.tmp 6]) rfl (.tmp rfl .nil) ⟨v, .inr ⟨hb, rfl, rfl⟩⟩
theorem item_bad (g : Nat) (lo hi : Bs) (v : Value) (items : List It) (p value : Bs) (hp : p.length ≤ 1000000) (hil : items.length ≤ 1000000) (hb : badK p) :
    FnC Tryz.prog 34 [ptr g, str p, str value] [gaO g lo hi v, rowI v items] (fun r L => ∃ v', r = Sse.bool false ∧ L = [gaO g lo hi v', rowI v' items]) :=
  (item_ok g lo hi v items p value hp hil).mono (by rintro r L ⟨v', h | h⟩; exact ⟨v', h.2⟩; exact absurd hb h.1)
theorem item_good (g : Nat) (lo hi : Bs) (v : Value) (items : List It) (p value : Bs) (hp : p.length ≤ 1000000) (hil : items.length ≤ 1000000) (hb : ¬ badK p) :
    FnC Tryz.prog 34 [ptr g, str p, str value] [gaO g lo hi v, rowI v items] (fun r L => ∃ v', r = Sse.bool true ∧ L = [gaO g lo hi v', rowI v' (itemP lo hi p value items)]) :=
  (item_ok g lo hi v items p value hp hil).mono (by rintro r L ⟨v', h | h⟩; exact absurd h.1 hb; exact ⟨v', h.2⟩)
abbrev lfO (q : Nat) (nodes : List Bs) : Own := .obj q 22 [ssl nodes]
set_option maxHeartbeats 4000000 in
theorem take_ok' (q : Nat) (nodes : List Bs) : FnC Tryz.prog 18 [ptr q] [lfO q nodes] (fun r L => r = .tup [str (nodes.headD []), Sse.bool (decide (nodes ≠ []))] ∧ L = [lfO q nodes.tail]) := by
  cases nodes with
  | nil =>
    refine FnC.intro Tryz.func18 rfl Tryz.ntmps18 rfl fun Z w0 hG => ?_
    focus (
 (refine W.seq (W.region (Jx.assign rfl rfl (Jx.assign rfl rfl (J.nil (N.seq (W.seq (W.seq (W.region (Jx.load rfl 0 rfl rfl rfl ?_))))))))))
 (refine Jx.lenSl rfl rfl ?_)
 (refine Jx.eqlI rfl rfl rfl (J.nil (N.seq (W.cT rfl ?_))))
 (refine W.seq (W.region (Jx.assign rfl rfl (Jx.assign rfl rfl (J.nil (N.seq (W.ret (N.noGotoRet ?_))))))))
 (refine id ?_; rotate_left))
    exact N.ret (rs := [.tmp 1, .tmp 2]) rfl (.tmp rfl (.tmp rfl .nil)) ⟨rfl, rfl⟩
  | cons t ts =>
    have h0 : 0 < (t :: ts).length := by simp
    have hz : ¬ ((t :: ts).length : Int) = 0 := by simp only [List.length_cons]; omega
    have h1 : 1 ≤ (t :: ts).length := by simp
    refine FnC.intro Tryz.func18 rfl Tryz.ntmps18 rfl fun Z w0 hG => ?_
    focus (
 (refine W.seq (W.region (Jx.assign rfl rfl (Jx.assign rfl rfl (J.nil (N.seq (W.seq (W.seq (W.region (Jx.load rfl 0 rfl rfl rfl ?_))))))))))
 (refine Jx.lenSl rfl rfl ?_)
 (refine Jx.eqlI rfl rfl rfl (J.nil (N.seq (W.cF rfl ?_))))
 (refine W.skip (N.seq (W.seq (W.region (Jx.load rfl 0 rfl rfl rfl ?_)))))
 (refine Jx.indexEl (j := 0) rfl rfl h0 rfl rfl ?_)
 (refine Jx.loadPP rfl rfl ?_)
 (refine Jx.assign rfl rfl (J.nil (N.seq (W.seq (W.region (Jx.load rfl 0 rfl rfl rfl ?_))))))
 (refine Jx.dropL 1 rfl rfl rfl h1 rfl ?_)
 (refine J.st 0 rfl rfl rfl rfl rfl rfl ?_)
 (refine J.nil (N.seq (W.seq (W.region (Jx.move rfl rfl (Jx.assign rfl rfl (Jx.assign rfl rfl (J.nil (N.seq (W.ret ?_))))))))))
 (refine id ?_; rotate_left))
    exact N.ret (rs := [.tmp 1, .tmp 2]) rfl (.tmp rfl (.tmp rfl .nil)) ⟨rfl, rfl⟩
end Go.Proofs.YtaflklbmdbmjbaaGreatDoor
namespace Go.Proofs.YtaflklbmdbmjbaaGreatDoor
open Go Go.Sse
set_option linter.unusedVariables false
set_option linter.unusedSimpArgs false
set_option maxRecDepth 10000
def SzG (s s' : GSt) : Prop := s'.nodes <:+ s.nodes ∧ s'.items.length + s'.nodes.length ≤ s.items.length + s.nodes.length
theorem SzG.refl (s : GSt) : SzG s s := ⟨List.suffix_refl _, Nat.le_refl _⟩
theorem SzG.trans {a b c : GSt} (h : SzG a b) (k : SzG b c) : SzG a c := ⟨k.1.trans h.1, Nat.le_trans k.2 h.2⟩
theorem kids_sz {g : Bs → Bs → GSt → Bool × GSt} (hg : ∀ so pl s, SzG s (g so pl s).2) (n : Nd) (place : Bs) : ∀ (r : List Nat) (s : GSt), SzG s (kidsG g n place r s).2
  | [], s => SzG.refl s
  | i :: r, s => by
    unfold kidsG
    split
    · exact kids_sz hg n place r s
    split
    · exact (hg _ _ _).trans (kids_sz hg n place r _)
    · exact hg _ _ _
theorem itemP_sz (lo hi p v : Bs) (l : List It) : (itemP lo hi p v l).length ≤ l.length + 1 := by
  unfold itemP; split <;> simp
noncomputable abbrev gatN (lo hi : Bs) : Nat → Bs → Bs → GSt → Bool × GSt := gatherP (sumD 1) decN lo hi
theorem gat_sz (lo hi : Bs) : ∀ (f : Nat) (so pl : Bs) (s : GSt), SzG s (gatN lo hi f so pl s).2
  | 0, so, pl, s => SzG.refl s
  | f + 1, so, pl, s => by
    unfold gatN gatherP
    split
    · exact SzG.refl s
    split
    · exact SzG.refl s
    rename_i t ts hs
    have h0 : SzG s ⟨ts, s.items⟩ := ⟨by rw [hs]; exact List.suffix_cons _ _, by rw [hs]; simp⟩
    split
    · exact h0
    split
    · exact h0
    refine SzG.trans ⟨?_, ?_⟩ (kids_sz (gat_sz lo hi f) _ _ _ _)
    · show ts <:+ s.nodes
      rw [hs]; exact List.suffix_cons _ _
    · have h3 := itemP_sz lo hi (pl ++ (decN t).1.path) (decN t).1.value s.items
      rw [hs]
      simp only [List.length_cons]
      split <;> omega
theorem gat_stop {lo hi so place t : Bs} {ts : List Bs} {items : List It} {f : Nat} (g1 : mayP lo hi place) (h : sumD 1 t ≠ so ∨ (decN t).2 ≠ 0) : gatN lo hi (f + 1) so place ⟨t :: ts, items⟩ = (false, ⟨ts, items⟩) := by
  unfold gatN gatherP
  rw [if_neg (fun h => h g1)]
  simp only
  rw [if_pos h]
theorem gat_key {lo hi so place t : Bs} {ts : List Bs} {items : List It} {f : Nat} (g1 : mayP lo hi place) (h : ¬ (sumD 1 t ≠ so ∨ (decN t).2 ≠ 0)) (h2 : (decN t).1.value ≠ [] ∧ badK (place ++ (decN t).1.path)) : gatN lo hi (f + 1) so place ⟨t :: ts, items⟩ = (false, ⟨ts, items⟩) := by
  unfold gatN gatherP
  rw [if_neg (fun h => h g1)]
  simp only
  rw [if_neg h, if_pos h2]
theorem gat_on {lo hi so place t : Bs} {ts : List Bs} {items : List It} {f : Nat} (g1 : mayP lo hi place) (h : ¬ (sumD 1 t ≠ so ∨ (decN t).2 ≠ 0)) (h2 : ¬ ((decN t).1.value ≠ [] ∧ badK (place ++ (decN t).1.path))) : gatN lo hi (f + 1) so place ⟨t :: ts, items⟩ = kidsG (gatN lo hi f) (decN t).1 place (List.range 16) ⟨ts, if (decN t).1.value = [] then items else itemP lo hi (place ++ (decN t).1.path) (decN t).1.value items⟩ := by
  unfold gatN gatherP
  rw [if_neg (fun h => h g1)]
  simp only
  rw [if_neg h, if_neg h2]
theorem decN_path {t : Bs} (h : (decN t).2 = 0) : (decN t).1.path.length ≤ 16 := by
  unfold decN at h ⊢
  generalize bodP (kindP (bytesP 1 (some t)).1) (bytesP 1 (some t)).2 = x at *
  unfold endP at h ⊢
  split
  · rename_i h1
    have hf := h1.2.2
    unfold fineNd at hf
    split at hf
    · simp only [Bool.and_eq_true, decide_eq_true_eq, pathB] at hf; simp only; omega
    split at hf
    · simp only [Bool.and_eq_true, decide_eq_true_eq, pathB] at hf; simp only; omega
    split at hf
    · simp only [Bool.and_eq_true, decide_eq_true_eq] at hf; simp only; rw [hf.1.1.1]; simp
    · simp at hf
  · rename_i h1; rw [if_neg h1] at h; simp at h
theorem range_drop {i : Nat} (h : i < 16) : (List.range 16).drop i = i :: (List.range 16).drop (i + 1) := by
  rw [List.drop_eq_getElem_cons (by simpa using h), List.getElem_range]
abbrev fvT (q : Nat) : Value := .func (.func 18) #[] #[.pointer (some ⟨q, 0, none⟩)]
abbrev gaL (g q : Nat) (lo hi : Bs) (v : Value) (s : GSt) : List Own := [gaO g lo hi v, rowI v s.items, lfO q s.nodes]
structure GaS where
  i : Nat
  v : Value
  s : GSt
structure GaB (place : Bs) (s : GSt) : Prop where
  short : ∀ t ∈ s.nodes, t.length ≤ 1000000
  many : s.items.length + s.nodes.length ≤ 2000
  deep : place.length + 16 * s.nodes.length ≤ 100000
set_option maxHeartbeats 32000000 in
theorem gather_ok (g q : Nat) (lo hi : Bs) : ∀ (f : Nat) (so place : Bs) (v : Value) (s : GSt), s.nodes.length < f → GaB place s →
    FnC Tryz.prog 19 [ptr g, str so, str place, .val (fvT q)] (gaL g q lo hi v s) (fun r L => ∃ v', r = Sse.bool (gatN lo hi f so place s).1 ∧ L = gaL g q lo hi v' (gatN lo hi f so place s).2)
  | 0, so, place, v, s, hlt, _ => absurd hlt (Nat.not_lt_zero _)
  | f + 1, so, place, v, s, hlt, hB => by
    obtain ⟨nodes, items⟩ := s
    obtain ⟨hsh, hmany, hdeep⟩ := hB
    simp only at hlt hsh hmany hdeep
    have cm := may_ok g lo hi v place (by omega)
    by_cases g1 : mayP lo hi place
    case neg =>
      rw [show gatN lo hi (f + 1) so place ⟨nodes, items⟩ = (true, ⟨nodes, items⟩) by unfold gatN gatherP; rw [if_pos g1]]
      rw [decide_eq_false g1] at cm
      refine FnC.intro Tryz.func19 rfl Tryz.ntmps19 rfl fun Z w0 hG => ?_
      focus (
 (refine W.seq (W.region (Jx.assign rfl rfl (J.nil (N.seq (W.seq (W.seq (W.region (Jx.move rfl rfl (Jx.move rfl rfl ?_))))))))))
 (refine J.call (Lc := [_]) cm rfl (evs_args rfl) rfl ?_; rintro _ _ ⟨rfl, rfl⟩; rw [List.singleton_append])
 (refine Jx.not rfl rfl (J.nil (N.seq (W.cT rfl ?_))))
 (refine W.seq (W.region (Jx.assign rfl rfl (J.nil (N.seq (W.ret (N.noGotoRet ?_)))))))
 (refine id ?_; rotate_left))
      exact N.ret (rs := [.tmp 8]) rfl (.tmp rfl .nil) ⟨v, rfl, rfl⟩
    rw [decide_eq_true g1] at cm
    have g1n : ¬ ¬ mayP lo hi place := fun h => h g1
    have ct := take_ok' q nodes
    cases nodes with
    | nil =>
      rw [show gatN lo hi (f + 1) so place ⟨[], items⟩ = (false, ⟨[], items⟩) by unfold gatN gatherP; rw [if_neg g1n]]
      have cd := dsum_ok 1 [] (by decide) (by decide) (by decide)
      have cn := decode_ok [] (by decide)
      have hbq : Nat.beq (ndC (decN []).1).length 19 = true := by rw [ndC_len (decN_len []).1]; rfl
      generalize decN [] = D at *
      refine FnC.intro Tryz.func19 rfl Tryz.ntmps19 rfl fun Z w0 hG => ?_
      focus (
 (refine W.seq (W.region (Jx.assign rfl rfl (J.nil (N.seq (W.seq (W.seq (W.region (Jx.move rfl rfl (Jx.move rfl rfl ?_))))))))))
 (refine J.call (Lc := [_]) cm rfl (evs_args rfl) rfl ?_; rintro _ _ ⟨rfl, rfl⟩; rw [List.singleton_append])
 (refine Jx.not rfl rfl (J.nil (N.seq (W.cF rfl ?_))))
 (refine W.skip (N.seq (W.seq (W.region (Jx.move rfl rfl ?_)))))
 (refine J.perm (List.perm_append_comm (l₁ := [_, _]) (l₂ := [_])) ?_; refine J.callV (us := []) (vs := [.pointer (some ⟨q, 0, none⟩)]) (args := []) (Lc := [_]) rfl ct rfl (evs_args rfl) rfl ?_; rintro _ _ ⟨rfl, rfl⟩; refine J.perm (List.perm_append_comm (l₁ := [_]) (l₂ := [_, _])) ?_; simp only [List.cons_append, List.nil_append])
 (refine Jx.move rfl rfl (Jx.extract rfl rfl rfl ?_))
 (refine Jx.extract rfl rfl rfl ?_)
 (refine Jx.assign rfl rfl (Jx.assign rfl rfl (J.nil (N.seq (W.seq (W.region (Jx.move rfl rfl ?_)))))))
 (refine J.call (Lc := []) cd rfl (evs_args rfl) rfl ?_; rintro _ _ ⟨rfl, rfl⟩; rw [List.nil_append])
 (refine Jx.move rfl rfl (Jx.extract rfl rfl rfl ?_))
 (refine Jx.extract rfl rfl rfl ?_)
 (refine Jx.assign rfl rfl (Jx.assign rfl rfl (J.nil (N.seq (W.seq (W.region (Jx.move rfl rfl ?_)))))))
 (refine J.call (Lc := []) cn rfl (evs_args rfl) rfl ?_; rintro _ _ ⟨rfl, rfl⟩; rw [List.nil_append])
 (refine Jx.move rfl rfl (Jx.extract rfl rfl rfl ?_))
 (refine Jx.extract rfl rfl rfl ?_)
 (refine J.alloc (d := 13) (by simp only [List.map_cons, List.map_nil]; rfl) rfl rfl ?_; intro p13)
 (refine J.storeAll rfl rfl hbq 0 rfl rfl rfl ?_)
 (refine Jx.assign rfl rfl (J.nil (N.seq (W.seq (W.seq (W.region (Jx.move rfl rfl (Jx.not rfl rfl (Jx.move rfl rfl (J.gN rfl rfl rfl rfl ?_))))))))))
 (refine J.gN rfl rfl rfl rfl ?_)
 (refine J.gN rfl rfl rfl rfl ?_)
 (refine Jx.pT rfl rfl rfl ?_)
 (refine Jx.move rfl rfl (J.gN rfl rfl rfl rfl ?_))
 (refine J.gN rfl rfl rfl rfl ?_)
 (refine Jx.pT rfl rfl rfl ?_)
 (refine J.nil (N.seq (W.cT rfl ?_)))
 (refine W.seq (W.region (Jx.assign rfl rfl (J.nil (N.seq (W.ret (N.noGotoRet ?_)))))))
 (refine id ?_; rotate_left))
      refine N.drop (List.sublist_cons_self _ _) ?_
      exact N.ret (rs := [.tmp 8]) rfl (.tmp rfl .nil) ⟨v, rfl, rfl⟩
    | cons t ts =>
      have htl := hsh t List.mem_cons_self
      have cd := dsum_ok 1 t (by decide) (by decide) (by omega)
      have cn := decode_ok t htl
      have hlen := decN_len t
      have hpath := decN_path (t := t)
      have hs1 := gat_stop (lo := lo) (hi := hi) (so := so) (place := place) (t := t) (ts := ts) (items := items) (f := f) g1
      have hs2 := gat_key (lo := lo) (hi := hi) (so := so) (place := place) (t := t) (ts := ts) (items := items) (f := f) g1
      have hs3 := gat_on (lo := lo) (hi := hi) (so := so) (place := place) (t := t) (ts := ts) (items := items) (f := f) g1
      generalize decN t = D at *
      obtain ⟨n, e⟩ := D
      simp only at hlen hpath cn hs1 hs2 hs3 ⊢
      have hbq : Nat.beq (ndC n).length 19 = true := by rw [ndC_len hlen.1]; rfl
      simp only [List.length_cons] at hlt hmany hdeep
      have hhd : (t :: ts).headD [] = t := rfl
      have htn : decide ((t :: ts) ≠ []) = true := by simp
      rw [htn] at ct
      by_cases g2 : sumD 1 t = so
      case neg =>
        have g2n : sumD 1 t ≠ so := g2
        rw [hs1 (.inl g2n)]
        refine FnC.intro Tryz.func19 rfl Tryz.ntmps19 rfl fun Z w0 hG => ?_
        focus (
 (refine W.seq (W.region (Jx.assign rfl rfl (J.nil (N.seq (W.seq (W.seq (W.region (Jx.move rfl rfl (Jx.move rfl rfl ?_))))))))))
 (refine J.call (Lc := [_]) cm rfl (evs_args rfl) rfl ?_; rintro _ _ ⟨rfl, rfl⟩; rw [List.singleton_append])
 (refine Jx.not rfl rfl (J.nil (N.seq (W.cF rfl ?_))))
 (refine W.skip (N.seq (W.seq (W.region (Jx.move rfl rfl ?_)))))
 (refine J.perm (List.perm_append_comm (l₁ := [_, _]) (l₂ := [_])) ?_; refine J.callV (us := []) (vs := [.pointer (some ⟨q, 0, none⟩)]) (args := []) (Lc := [_]) rfl ct rfl (evs_args rfl) rfl ?_; rintro _ _ ⟨rfl, rfl⟩; refine J.perm (List.perm_append_comm (l₁ := [_]) (l₂ := [_, _])) ?_; simp only [List.cons_append, List.nil_append])
 (refine Jx.move rfl rfl (Jx.extract rfl rfl rfl ?_))
 (refine Jx.extract rfl rfl rfl ?_)
 (refine Jx.assign rfl rfl (Jx.assign rfl rfl (J.nil (N.seq (W.seq (W.region (Jx.move rfl rfl ?_)))))))
 (refine J.call (Lc := []) cd rfl (evs_args rfl) rfl ?_; rintro _ _ ⟨rfl, rfl⟩; rw [List.nil_append])
 (refine Jx.move rfl rfl (Jx.extract rfl rfl rfl ?_))
 (refine Jx.extract rfl rfl rfl ?_)
 (refine Jx.assign rfl rfl (Jx.assign rfl rfl (J.nil (N.seq (W.seq (W.region (Jx.move rfl rfl ?_)))))))
 (refine J.call (Lc := []) cn rfl (evs_args rfl) rfl ?_; rintro _ _ ⟨rfl, rfl⟩; rw [List.nil_append])
 (refine Jx.move rfl rfl (Jx.extract rfl rfl rfl ?_))
 (refine Jx.extract rfl rfl rfl ?_)
 (refine J.alloc (d := 13) (by simp only [List.map_cons, List.map_nil]; rfl) rfl rfl ?_; intro p13)
 (refine J.storeAll rfl rfl hbq 0 rfl rfl rfl ?_)
 (refine Jx.assign rfl rfl (J.nil (N.seq (W.seq (W.seq (W.region (Jx.move rfl rfl (Jx.not rfl rfl (Jx.move rfl rfl (J.gY rfl rfl rfl ?_))))))))))
 (refine Jx.move rfl rfl (J.gY rfl rfl rfl ?_))
 (refine Jx.move rfl rfl (J.gY rfl rfl rfl ?_))
 (refine Jx.neqS rfl rfl rfl (Jx.pF rfl rfl rfl ?_))
 (refine Jx.move rfl rfl (J.gN rfl rfl rfl rfl ?_))
 (refine J.gN rfl rfl rfl rfl ?_)
 (refine Jx.pT rfl rfl rfl ?_)
 (refine J.nil (N.seq (W.cT rfl ?_)))
 (refine W.seq (W.region (Jx.assign rfl rfl (J.nil (N.seq (W.ret (N.noGotoRet ?_)))))))
 (refine id ?_; rotate_left))
        refine N.drop (List.sublist_cons_self _ _) ?_
        exact N.ret (rs := [.tmp 8]) rfl (.tmp rfl .nil) ⟨v, rfl, rfl⟩
      have g2n : ¬ (sumD 1 t ≠ so) := fun h => h g2
      by_cases g3 : e = 0
      case neg =>
        have g3n : e ≠ 0 := g3
        rw [hs1 (.inr g3n)]
        refine FnC.intro Tryz.func19 rfl Tryz.ntmps19 rfl fun Z w0 hG => ?_
        focus (
 (refine W.seq (W.region (Jx.assign rfl rfl (J.nil (N.seq (W.seq (W.seq (W.region (Jx.move rfl rfl (Jx.move rfl rfl ?_))))))))))
 (refine J.call (Lc := [_]) cm rfl (evs_args rfl) rfl ?_; rintro _ _ ⟨rfl, rfl⟩; rw [List.singleton_append])
 (refine Jx.not rfl rfl (J.nil (N.seq (W.cF rfl ?_))))
 (refine W.skip (N.seq (W.seq (W.region (Jx.move rfl rfl ?_)))))
 (refine J.perm (List.perm_append_comm (l₁ := [_, _]) (l₂ := [_])) ?_; refine J.callV (us := []) (vs := [.pointer (some ⟨q, 0, none⟩)]) (args := []) (Lc := [_]) rfl ct rfl (evs_args rfl) rfl ?_; rintro _ _ ⟨rfl, rfl⟩; refine J.perm (List.perm_append_comm (l₁ := [_]) (l₂ := [_, _])) ?_; simp only [List.cons_append, List.nil_append])
 (refine Jx.move rfl rfl (Jx.extract rfl rfl rfl ?_))
 (refine Jx.extract rfl rfl rfl ?_)
 (refine Jx.assign rfl rfl (Jx.assign rfl rfl (J.nil (N.seq (W.seq (W.region (Jx.move rfl rfl ?_)))))))
 (refine J.call (Lc := []) cd rfl (evs_args rfl) rfl ?_; rintro _ _ ⟨rfl, rfl⟩; rw [List.nil_append])
 (refine Jx.move rfl rfl (Jx.extract rfl rfl rfl ?_))
 (refine Jx.extract rfl rfl rfl ?_)
 (refine Jx.assign rfl rfl (Jx.assign rfl rfl (J.nil (N.seq (W.seq (W.region (Jx.move rfl rfl ?_)))))))
 (refine J.call (Lc := []) cn rfl (evs_args rfl) rfl ?_; rintro _ _ ⟨rfl, rfl⟩; rw [List.nil_append])
 (refine Jx.move rfl rfl (Jx.extract rfl rfl rfl ?_))
 (refine Jx.extract rfl rfl rfl ?_)
 (refine J.alloc (d := 13) (by simp only [List.map_cons, List.map_nil]; rfl) rfl rfl ?_; intro p13)
 (refine J.storeAll rfl rfl hbq 0 rfl rfl rfl ?_)
 (refine Jx.assign rfl rfl (J.nil (N.seq (W.seq (W.seq (W.region (Jx.move rfl rfl (Jx.not rfl rfl (Jx.move rfl rfl (J.gY rfl rfl rfl ?_))))))))))
 (refine Jx.move rfl rfl (J.gY rfl rfl rfl ?_))
 (refine Jx.move rfl rfl (J.gY rfl rfl rfl ?_))
 (refine Jx.neqS rfl rfl rfl (Jx.pF rfl rfl rfl ?_))
 (refine Jx.move rfl rfl (J.gY rfl rfl rfl ?_))
 (refine Jx.move rfl rfl (J.gY rfl rfl rfl ?_))
 (refine Jx.neqI rfl rfl rfl (Jx.pF rfl rfl rfl ?_))
 (refine J.nil (N.seq (W.cT rfl ?_)))
 (refine W.seq (W.region (Jx.assign rfl rfl (J.nil (N.seq (W.ret (N.noGotoRet ?_)))))))
 (refine id ?_; rotate_left))
        refine N.drop (List.sublist_cons_self _ _) ?_
        exact N.ret (rs := [.tmp 8]) rfl (.tmp rfl .nil) ⟨v, rfl, rfl⟩
      have g3n : ¬ (e ≠ 0) := fun h => h g3
      have hs0 : ¬ (sumD 1 t ≠ so ∨ e ≠ 0) := by rintro (h | h); exact h g2; exact h g3
      have hp16 := hpath g3
      have hcl : place.length + n.path.length ≤ 9223372036854775807 := by omega
      have hppl : (place ++ n.path).length ≤ 1000000 := by rw [List.length_append]; omega
      by_cases g4 : n.value ≠ [] ∧ badK (place ++ n.path)
      · have ci := item_bad g lo hi v items (place ++ n.path) n.value hppl (by omega) g4.2
        have g4v := g4.1
        rw [hs2 hs0 g4]
        refine FnC.intro Tryz.func19 rfl Tryz.ntmps19 rfl fun Z w0 hG => ?_
        focus (
 (refine W.seq (W.region (Jx.assign rfl rfl (J.nil (N.seq (W.seq (W.seq (W.region (Jx.move rfl rfl (Jx.move rfl rfl ?_))))))))))
 (refine J.call (Lc := [_]) cm rfl (evs_args rfl) rfl ?_; rintro _ _ ⟨rfl, rfl⟩; rw [List.singleton_append])
 (refine Jx.not rfl rfl (J.nil (N.seq (W.cF rfl ?_))))
 (refine W.skip (N.seq (W.seq (W.region (Jx.move rfl rfl ?_)))))
 (refine J.perm (List.perm_append_comm (l₁ := [_, _]) (l₂ := [_])) ?_; refine J.callV (us := []) (vs := [.pointer (some ⟨q, 0, none⟩)]) (args := []) (Lc := [_]) rfl ct rfl (evs_args rfl) rfl ?_; rintro _ _ ⟨rfl, rfl⟩; refine J.perm (List.perm_append_comm (l₁ := [_]) (l₂ := [_, _])) ?_; simp only [List.cons_append, List.nil_append])
 (refine Jx.move rfl rfl (Jx.extract rfl rfl rfl ?_))
 (refine Jx.extract rfl rfl rfl ?_)
 (refine Jx.assign rfl rfl (Jx.assign rfl rfl (J.nil (N.seq (W.seq (W.region (Jx.move rfl rfl ?_)))))))
 (refine J.call (Lc := []) cd rfl (evs_args rfl) rfl ?_; rintro _ _ ⟨rfl, rfl⟩; rw [List.nil_append])
 (refine Jx.move rfl rfl (Jx.extract rfl rfl rfl ?_))
 (refine Jx.extract rfl rfl rfl ?_)
 (refine Jx.assign rfl rfl (Jx.assign rfl rfl (J.nil (N.seq (W.seq (W.region (Jx.move rfl rfl ?_)))))))
 (refine J.call (Lc := []) cn rfl (evs_args rfl) rfl ?_; rintro _ _ ⟨rfl, rfl⟩; rw [List.nil_append])
 (refine Jx.move rfl rfl (Jx.extract rfl rfl rfl ?_))
 (refine Jx.extract rfl rfl rfl ?_)
 (refine J.alloc (d := 13) (by simp only [List.map_cons, List.map_nil]; rfl) rfl rfl ?_; intro p13)
 (refine J.storeAll rfl rfl hbq 0 rfl rfl rfl ?_)
 (refine Jx.assign rfl rfl (J.nil (N.seq (W.seq (W.seq (W.region (Jx.move rfl rfl (Jx.not rfl rfl (Jx.move rfl rfl (J.gY rfl rfl rfl ?_))))))))))
 (refine Jx.move rfl rfl (J.gY rfl rfl rfl ?_))
 (refine Jx.move rfl rfl (J.gY rfl rfl rfl ?_))
 (refine Jx.neqS rfl rfl rfl (Jx.pF rfl rfl rfl ?_))
 (refine Jx.move rfl rfl (J.gY rfl rfl rfl ?_))
 (refine Jx.move rfl rfl (J.gY rfl rfl rfl ?_))
 (refine Jx.neqI rfl rfl rfl (Jx.pF rfl rfl rfl ?_))
 (refine J.nil (N.seq (W.cF rfl ?_)))
 (refine W.skip (N.seq (W.seq (W.seq (W.region (Jx.fieldAddr rfl rfl ?_))))))
 (refine Jx.load rfl 0 rfl rfl rfl ?_)
 (refine Jx.neqS rfl rfl rfl (Jx.move rfl rfl (J.gY rfl rfl rfl ?_)))
 (refine Jx.move rfl rfl (J.gY rfl rfl rfl ?_))
 (refine Jx.move rfl rfl (J.gY rfl rfl rfl ?_))
 (refine Jx.fieldAddr rfl rfl ?_)
 (refine J.gY rfl rfl rfl ?_)
 (refine Jx.load rfl 0 rfl rfl rfl ?_)
 (refine J.gY rfl rfl rfl ?_)
 (refine Jx.cat rfl rfl hcl rfl ?_)
 (refine J.gY rfl rfl rfl ?_)
 (refine Jx.fieldAddr rfl rfl ?_)
 (refine J.gY rfl rfl rfl ?_)
 (refine Jx.load rfl 0 rfl rfl rfl ?_)
 (refine J.gY rfl rfl rfl ?_)
 (refine J.perm (List.perm_append_comm (l₁ := [_]) (l₂ := [_, _, _])) ?_; refine J.call ci rfl (evs_args rfl) rfl ?_; rintro _ _ ⟨v1, rfl, rfl⟩; simp only [List.cons_append, List.nil_append]; refine J.perm (List.perm_append_comm (l₁ := [_, _, _]) (l₂ := [_])) ?_; simp only [List.cons_append, List.nil_append])
 (refine J.gY rfl rfl rfl ?_)
 (refine Jx.not rfl rfl (Jx.pT rfl rfl rfl ?_))
 (refine J.nil (N.seq (W.cT rfl ?_)))
 (refine W.seq (W.region (Jx.assign rfl rfl (J.nil (N.seq (W.ret (N.noGotoRet ?_)))))))
 (refine id ?_; rotate_left))
        refine N.drop (List.sublist_cons_self _ _) ?_
        exact N.ret (rs := [.tmp 8]) rfl (.tmp rfl .nil) ⟨v1, rfl, rfl⟩
      rw [hs3 hs0 g4]
      clear hs1 hs2 hs3
      have hk3 := kids_cells hlen.1
      have hkl : (n.kids.map str).length = 16 := by rw [List.length_map]; exact hlen.1
      by_cases g5 : n.value = []
      · have g5n : ¬ (n.value ≠ []) := fun h => h g5
        rw [if_pos g5]
        have hit : items.length + ts.length ≤ 2000 := by omega
        refine FnC.intro Tryz.func19 rfl Tryz.ntmps19 rfl fun Z w0 hG => ?_
        focus (
 (refine W.seq (W.region (Jx.assign rfl rfl (J.nil (N.seq (W.seq (W.seq (W.region (Jx.move rfl rfl (Jx.move rfl rfl ?_))))))))))
 (refine J.call (Lc := [_]) cm rfl (evs_args rfl) rfl ?_; rintro _ _ ⟨rfl, rfl⟩; rw [List.singleton_append])
 (refine Jx.not rfl rfl (J.nil (N.seq (W.cF rfl ?_))))
 (refine W.skip (N.seq (W.seq (W.region (Jx.move rfl rfl ?_)))))
 (refine J.perm (List.perm_append_comm (l₁ := [_, _]) (l₂ := [_])) ?_; refine J.callV (us := []) (vs := [.pointer (some ⟨q, 0, none⟩)]) (args := []) (Lc := [_]) rfl ct rfl (evs_args rfl) rfl ?_; rintro _ _ ⟨rfl, rfl⟩; refine J.perm (List.perm_append_comm (l₁ := [_]) (l₂ := [_, _])) ?_; simp only [List.cons_append, List.nil_append])
 (refine Jx.move rfl rfl (Jx.extract rfl rfl rfl ?_))
 (refine Jx.extract rfl rfl rfl ?_)
 (refine Jx.assign rfl rfl (Jx.assign rfl rfl (J.nil (N.seq (W.seq (W.region (Jx.move rfl rfl ?_)))))))
 (refine J.call (Lc := []) cd rfl (evs_args rfl) rfl ?_; rintro _ _ ⟨rfl, rfl⟩; rw [List.nil_append])
 (refine Jx.move rfl rfl (Jx.extract rfl rfl rfl ?_))
 (refine Jx.extract rfl rfl rfl ?_)
 (refine Jx.assign rfl rfl (Jx.assign rfl rfl (J.nil (N.seq (W.seq (W.region (Jx.move rfl rfl ?_)))))))
 (refine J.call (Lc := []) cn rfl (evs_args rfl) rfl ?_; rintro _ _ ⟨rfl, rfl⟩; rw [List.nil_append])
 (refine Jx.move rfl rfl (Jx.extract rfl rfl rfl ?_))
 (refine Jx.extract rfl rfl rfl ?_)
 (refine J.alloc (d := 13) (by simp only [List.map_cons, List.map_nil]; rfl) rfl rfl ?_; intro p13)
 (refine J.storeAll rfl rfl hbq 0 rfl rfl rfl ?_)
 (refine Jx.assign rfl rfl (J.nil (N.seq (W.seq (W.seq (W.region (Jx.move rfl rfl (Jx.not rfl rfl (Jx.move rfl rfl (J.gY rfl rfl rfl ?_))))))))))
 (refine Jx.move rfl rfl (J.gY rfl rfl rfl ?_))
 (refine Jx.move rfl rfl (J.gY rfl rfl rfl ?_))
 (refine Jx.neqS rfl rfl rfl (Jx.pF rfl rfl rfl ?_))
 (refine Jx.move rfl rfl (J.gY rfl rfl rfl ?_))
 (refine Jx.move rfl rfl (J.gY rfl rfl rfl ?_))
 (refine Jx.neqI rfl rfl rfl (Jx.pF rfl rfl rfl ?_))
 (refine J.nil (N.seq (W.cF rfl ?_)))
 (refine W.skip (N.seq (W.seq (W.seq (W.region (Jx.fieldAddr rfl rfl ?_))))))
 (refine Jx.load rfl 0 rfl rfl rfl ?_)
 (refine Jx.neqS rfl rfl rfl (Jx.move rfl rfl (J.gN rfl rfl rfl rfl ?_)))
 (refine J.gN rfl rfl rfl rfl ?_)
 (refine J.gN rfl rfl rfl rfl ?_)
 (refine J.gN rfl rfl rfl rfl ?_)
 (refine J.gN rfl rfl rfl rfl ?_)
 (refine J.gN rfl rfl rfl rfl ?_)
 (refine J.gN rfl rfl rfl rfl ?_)
 (refine J.gN rfl rfl rfl rfl ?_)
 (refine J.gN rfl rfl rfl rfl ?_)
 (refine Jx.pF rfl rfl rfl ?_)
 (refine J.nil (N.seq (W.cF rfl ?_)))
 (refine W.skip (N.seq (W.seq (W.seq (W.region (Jx.fieldAddr rfl rfl ?_))))))
 (refine Jx.loadAg rfl 0 rfl hk3 hkl rfl ?_)
 (refine Jx.move rfl rfl (J.nil (N.seq (W.block ?_))))
 (refine id ?_; rotate_left))
        obtain ⟨K, hK⟩ : ∃ K, kidsG (gatN lo hi f) n place (List.range 16) ⟨ts, items⟩ = K := ⟨_, rfl⟩
        rw [hK]
        refine W.loop (α := GaS) (fun x => [(64, int (x.i : Int)), (63, .agg (n.kids.map str)), (13, ptr p13), (0, ptr g), (2, str place), (3, .val (fvT q))]) (fun x => .obj p13 tNd (ndC n) :: gaL g q lo hi x.v x.s) (fun x => x.i ≤ 16 ∧ K = kidsG (gatN lo hi f) n place ((List.range 16).drop x.i) x.s ∧ SzG ⟨ts, items⟩ x.s) (fun x => 16 - x.i) ⟨0, v, ⟨ts, items⟩⟩ ⟨Nat.zero_le _, hK.symm, SzG.refl _⟩ rfl ⟨ref0 rfl, ref0 rfl, ref0 rfl, ref0 rfl, ref0 rfl, ref0 rfl, trivial⟩ ?_
        rintro ⟨i, v2, s2⟩ ⟨hi16, hKi, hsz⟩
        simp only at hi16 hKi hsz ⊢
        by_cases h1 : i < 16
        · have h1' : (i : Int) < 16 := by omega
          have e1 : (i : Int) + 1 = ((i + 1 : Nat) : Int) := by omega
          have h1k : i < n.kids.length := by omega
          rw [range_drop h1] at hKi
          unfold kidsG at hKi
          have hcl1 : place.length + [UInt8.ofNat i].length ≤ 9223372036854775807 := by simp only [List.length_cons, List.length_nil]; omega
          have hs2l := hsz.1.length_le
          simp only at hs2l
          have hsz2 := hsz.2
          simp only at hsz2
          have hB2 : GaB (atN n place i) s2 := ⟨fun x hx => hsh x (List.mem_cons_of_mem _ (hsz.1.subset hx)), by omega, by
            unfold atN; split <;> simp only [List.length_append, List.length_cons, List.length_nil] <;> omega⟩
          by_cases h2 : n.kind = 2
          · have hat : atN n place i = place ++ n.path := if_pos h2
            by_cases h3 : n.kid i = []
            · have h3n : ¬ (n.kids.getD i [] ≠ []) := fun h => h h3
              rw [if_pos h3] at hKi
              focus (
 (refine W.seq (W.region (Jx.lssI rfl rfl rfl (J.nil (N.seq (W.seq (W.cT rfl ?_)))))))
 (refine W.skip (N.seq (W.seq (W.block (W.seq (W.region (Jx.move rfl rfl ?_)))))))
 (refine Jx.indexAg str [] i rfl rfl rfl h1 h1k rfl ?_)
 (refine Jx.assign rfl rfl (Jx.assign rfl rfl (J.nil (N.seq (W.seq (W.region (Jx.move rfl rfl (Jx.move rfl rfl ?_))))))))
 (refine Jx.numByte i rfl rfl rfl rfl ?_)
 (refine J.qs (Qs.buildBytes [UInt8.ofNat i] rfl rfl rfl (by decide) (by decide)) rfl ?_)
 (refine Jx.bytesStr rfl rfl ?_)
 (refine Jx.cat rfl rfl hcl1 rfl ?_)
 (refine Jx.assign rfl rfl (J.nil (N.seq (W.seq (W.seq (W.region (Jx.fieldAddr rfl rfl ?_)))))))
 (refine Jx.load rfl 0 rfl rfl rfl ?_)
 (refine Jx.eqlI rfl rfl rfl (J.nil (N.seq (W.cT rfl ?_))))
 (refine W.region (Jx.move rfl rfl (Jx.fieldAddr rfl rfl ?_)))
 (refine Jx.load rfl 0 rfl rfl rfl ?_)
 (refine Jx.cat rfl rfl hcl rfl ?_)
 (refine Jx.assign rfl rfl (J.nil (N.seq (W.seq (W.region (Jx.move rfl rfl (Jx.neqS rfl rfl rfl (Jx.move rfl rfl (J.gN rfl rfl rfl rfl ?_)))))))))
 (refine J.gN rfl rfl rfl rfl ?_)
 (refine J.gN rfl rfl rfl rfl ?_)
 (refine J.gN rfl rfl rfl rfl ?_)
 (refine J.gN rfl rfl rfl rfl ?_)
 (refine J.gN rfl rfl rfl rfl ?_)
 (refine Jx.pF rfl rfl rfl ?_)
 (refine J.nil (N.seq (W.cF rfl ?_)))
 (refine W.skip (N.seq (W.region ?_)))
 (refine Jx.add64 rfl rfl (by omega) rfl ?_; rw [e1])
 (refine Jx.move rfl rfl (J.nil ?_))
 (refine id ?_; rotate_left))
              exact N.round ⟨i + 1, v2, s2⟩ ⟨h1, hKi, hsz⟩ (by simp only; omega) rfl ⟨ref0 rfl, ref0 rfl, ref0 rfl, ref0 rfl, ref0 rfl, ref0 rfl, trivial⟩
            · have h3n : n.kids.getD i [] ≠ [] := h3
              rw [if_neg h3] at hKi
              have cg := gather_ok g q lo hi f (n.kid i) (atN n place i) v2 s2 (Nat.lt_of_le_of_lt hs2l (by omega)) hB2
              rw [hat] at cg hKi
              have hgs := gat_sz lo hi f (n.kid i) (place ++ n.path) s2
              generalize gatN lo hi f (n.kid i) (place ++ n.path) s2 = G at *
              obtain ⟨ok, s3⟩ := G
              cases ok with
              | false =>
                rw [if_neg (by simp)] at hKi
                rw [hKi]
                focus (
 (refine W.seq (W.region (Jx.lssI rfl rfl rfl (J.nil (N.seq (W.seq (W.cT rfl ?_)))))))
 (refine W.skip (N.seq (W.seq (W.block (W.seq (W.region (Jx.move rfl rfl ?_)))))))
 (refine Jx.indexAg str [] i rfl rfl rfl h1 h1k rfl ?_)
 (refine Jx.assign rfl rfl (Jx.assign rfl rfl (J.nil (N.seq (W.seq (W.region (Jx.move rfl rfl (Jx.move rfl rfl ?_))))))))
 (refine Jx.numByte i rfl rfl rfl rfl ?_)
 (refine J.qs (Qs.buildBytes [UInt8.ofNat i] rfl rfl rfl (by decide) (by decide)) rfl ?_)
 (refine Jx.bytesStr rfl rfl ?_)
 (refine Jx.cat rfl rfl hcl1 rfl ?_)
 (refine Jx.assign rfl rfl (J.nil (N.seq (W.seq (W.seq (W.region (Jx.fieldAddr rfl rfl ?_)))))))
 (refine Jx.load rfl 0 rfl rfl rfl ?_)
 (refine Jx.eqlI rfl rfl rfl (J.nil (N.seq (W.cT rfl ?_))))
 (refine W.region (Jx.move rfl rfl (Jx.fieldAddr rfl rfl ?_)))
 (refine Jx.load rfl 0 rfl rfl rfl ?_)
 (refine Jx.cat rfl rfl hcl rfl ?_)
 (refine Jx.assign rfl rfl (J.nil (N.seq (W.seq (W.region (Jx.move rfl rfl (Jx.neqS rfl rfl rfl (Jx.move rfl rfl (J.gY rfl rfl rfl ?_)))))))))
 (refine Jx.move rfl rfl (J.gY rfl rfl rfl ?_))
 (refine Jx.move rfl rfl (J.gY rfl rfl rfl ?_))
 (refine Jx.move rfl rfl (J.gY rfl rfl rfl ?_))
 (refine Jx.move rfl rfl (J.gY rfl rfl rfl ?_))
 (refine J.perm (List.perm_append_comm (l₁ := [_]) (l₂ := [_, _, _])) ?_; refine J.call cg rfl (evs_args rfl) rfl ?_; rintro _ _ ⟨v3, rfl, rfl⟩; refine J.perm (List.perm_append_comm (l₁ := [_, _, _]) (l₂ := [_])) ?_; simp only [List.cons_append, List.nil_append])
 (refine J.gY rfl rfl rfl ?_)
 (refine Jx.not rfl rfl (Jx.pT rfl rfl rfl ?_))
 (refine J.nil (N.seq (W.cT rfl ?_)))
 (refine W.seq (W.region (Jx.assign rfl rfl (J.nil (N.seq (W.ret (N.noGotoRet (N.noGotoRet (N.noGotoRet (N.noGotoRet (N.noGotoRet ?_)))))))))))
 (refine id ?_; rotate_left))
                refine N.drop (List.sublist_cons_self _ _) ?_
                exact N.ret (rs := [.tmp 8]) rfl (.tmp rfl .nil) ⟨v3, rfl, rfl⟩
              | true =>
                rw [if_pos rfl] at hKi
                focus (
 (refine W.seq (W.region (Jx.lssI rfl rfl rfl (J.nil (N.seq (W.seq (W.cT rfl ?_)))))))
 (refine W.skip (N.seq (W.seq (W.block (W.seq (W.region (Jx.move rfl rfl ?_)))))))
 (refine Jx.indexAg str [] i rfl rfl rfl h1 h1k rfl ?_)
 (refine Jx.assign rfl rfl (Jx.assign rfl rfl (J.nil (N.seq (W.seq (W.region (Jx.move rfl rfl (Jx.move rfl rfl ?_))))))))
 (refine Jx.numByte i rfl rfl rfl rfl ?_)
 (refine J.qs (Qs.buildBytes [UInt8.ofNat i] rfl rfl rfl (by decide) (by decide)) rfl ?_)
 (refine Jx.bytesStr rfl rfl ?_)
 (refine Jx.cat rfl rfl hcl1 rfl ?_)
 (refine Jx.assign rfl rfl (J.nil (N.seq (W.seq (W.seq (W.region (Jx.fieldAddr rfl rfl ?_)))))))
 (refine Jx.load rfl 0 rfl rfl rfl ?_)
 (refine Jx.eqlI rfl rfl rfl (J.nil (N.seq (W.cT rfl ?_))))
 (refine W.region (Jx.move rfl rfl (Jx.fieldAddr rfl rfl ?_)))
 (refine Jx.load rfl 0 rfl rfl rfl ?_)
 (refine Jx.cat rfl rfl hcl rfl ?_)
 (refine Jx.assign rfl rfl (J.nil (N.seq (W.seq (W.region (Jx.move rfl rfl (Jx.neqS rfl rfl rfl (Jx.move rfl rfl (J.gY rfl rfl rfl ?_)))))))))
 (refine Jx.move rfl rfl (J.gY rfl rfl rfl ?_))
 (refine Jx.move rfl rfl (J.gY rfl rfl rfl ?_))
 (refine Jx.move rfl rfl (J.gY rfl rfl rfl ?_))
 (refine Jx.move rfl rfl (J.gY rfl rfl rfl ?_))
 (refine J.perm (List.perm_append_comm (l₁ := [_]) (l₂ := [_, _, _])) ?_; refine J.call cg rfl (evs_args rfl) rfl ?_; rintro _ _ ⟨v3, rfl, rfl⟩; refine J.perm (List.perm_append_comm (l₁ := [_, _, _]) (l₂ := [_])) ?_; simp only [List.cons_append, List.nil_append])
 (refine J.gY rfl rfl rfl ?_)
 (refine Jx.not rfl rfl (Jx.pT rfl rfl rfl ?_))
 (refine J.nil (N.seq (W.cF rfl ?_)))
 (refine W.skip (N.seq (W.region ?_)))
 (refine Jx.add64 rfl rfl (by omega) rfl ?_; rw [e1])
 (refine Jx.move rfl rfl (J.nil ?_))
 (refine id ?_; rotate_left))
                exact N.round ⟨i + 1, v3, s3⟩ ⟨h1, hKi, hsz.trans hgs⟩ (by simp only; omega) rfl ⟨ref0 rfl, ref0 rfl, ref0 rfl, ref0 rfl, ref0 rfl, ref0 rfl, trivial⟩
          · have hat : atN n place i = place ++ [UInt8.ofNat i] := if_neg h2
            by_cases h3 : n.kid i = []
            · have h3n : ¬ (n.kids.getD i [] ≠ []) := fun h => h h3
              rw [if_pos h3] at hKi
              focus (
 (refine W.seq (W.region (Jx.lssI rfl rfl rfl (J.nil (N.seq (W.seq (W.cT rfl ?_)))))))
 (refine W.skip (N.seq (W.seq (W.block (W.seq (W.region (Jx.move rfl rfl ?_)))))))
 (refine Jx.indexAg str [] i rfl rfl rfl h1 h1k rfl ?_)
 (refine Jx.assign rfl rfl (Jx.assign rfl rfl (J.nil (N.seq (W.seq (W.region (Jx.move rfl rfl (Jx.move rfl rfl ?_))))))))
 (refine Jx.numByte i rfl rfl rfl rfl ?_)
 (refine J.qs (Qs.buildBytes [UInt8.ofNat i] rfl rfl rfl (by decide) (by decide)) rfl ?_)
 (refine Jx.bytesStr rfl rfl ?_)
 (refine Jx.cat rfl rfl hcl1 rfl ?_)
 (refine Jx.assign rfl rfl (J.nil (N.seq (W.seq (W.seq (W.region (Jx.fieldAddr rfl rfl ?_)))))))
 (refine Jx.load rfl 0 rfl rfl rfl ?_)
 (refine Jx.eqlI rfl rfl rfl (J.nil (N.seq (W.cF rfl ?_))))
 (refine W.skip (N.seq (W.seq (W.region (Jx.move rfl rfl (Jx.neqS rfl rfl rfl (Jx.move rfl rfl (J.gN rfl rfl rfl rfl ?_))))))))
 (refine J.gN rfl rfl rfl rfl ?_)
 (refine J.gN rfl rfl rfl rfl ?_)
 (refine J.gN rfl rfl rfl rfl ?_)
 (refine J.gN rfl rfl rfl rfl ?_)
 (refine J.gN rfl rfl rfl rfl ?_)
 (refine Jx.pF rfl rfl rfl ?_)
 (refine J.nil (N.seq (W.cF rfl ?_)))
 (refine W.skip (N.seq (W.region ?_)))
 (refine Jx.add64 rfl rfl (by omega) rfl ?_; rw [e1])
 (refine Jx.move rfl rfl (J.nil ?_))
 (refine id ?_; rotate_left))
              exact N.round ⟨i + 1, v2, s2⟩ ⟨h1, hKi, hsz⟩ (by simp only; omega) rfl ⟨ref0 rfl, ref0 rfl, ref0 rfl, ref0 rfl, ref0 rfl, ref0 rfl, trivial⟩
            · have h3n : n.kids.getD i [] ≠ [] := h3
              rw [if_neg h3] at hKi
              have cg := gather_ok g q lo hi f (n.kid i) (atN n place i) v2 s2 (Nat.lt_of_le_of_lt hs2l (by omega)) hB2
              rw [hat] at cg hKi
              have hgs := gat_sz lo hi f (n.kid i) (place ++ [UInt8.ofNat i]) s2
              generalize gatN lo hi f (n.kid i) (place ++ [UInt8.ofNat i]) s2 = G at *
              obtain ⟨ok, s3⟩ := G
              cases ok with
              | false =>
                rw [if_neg (by simp)] at hKi
                rw [hKi]
                focus (
 (refine W.seq (W.region (Jx.lssI rfl rfl rfl (J.nil (N.seq (W.seq (W.cT rfl ?_)))))))
 (refine W.skip (N.seq (W.seq (W.block (W.seq (W.region (Jx.move rfl rfl ?_)))))))
 (refine Jx.indexAg str [] i rfl rfl rfl h1 h1k rfl ?_)
 (refine Jx.assign rfl rfl (Jx.assign rfl rfl (J.nil (N.seq (W.seq (W.region (Jx.move rfl rfl (Jx.move rfl rfl ?_))))))))
 (refine Jx.numByte i rfl rfl rfl rfl ?_)
 (refine J.qs (Qs.buildBytes [UInt8.ofNat i] rfl rfl rfl (by decide) (by decide)) rfl ?_)
 (refine Jx.bytesStr rfl rfl ?_)
 (refine Jx.cat rfl rfl hcl1 rfl ?_)
 (refine Jx.assign rfl rfl (J.nil (N.seq (W.seq (W.seq (W.region (Jx.fieldAddr rfl rfl ?_)))))))
 (refine Jx.load rfl 0 rfl rfl rfl ?_)
 (refine Jx.eqlI rfl rfl rfl (J.nil (N.seq (W.cF rfl ?_))))
 (refine W.skip (N.seq (W.seq (W.region (Jx.move rfl rfl (Jx.neqS rfl rfl rfl (Jx.move rfl rfl (J.gY rfl rfl rfl ?_))))))))
 (refine Jx.move rfl rfl (J.gY rfl rfl rfl ?_))
 (refine Jx.move rfl rfl (J.gY rfl rfl rfl ?_))
 (refine Jx.move rfl rfl (J.gY rfl rfl rfl ?_))
 (refine Jx.move rfl rfl (J.gY rfl rfl rfl ?_))
 (refine J.perm (List.perm_append_comm (l₁ := [_]) (l₂ := [_, _, _])) ?_; refine J.call cg rfl (evs_args rfl) rfl ?_; rintro _ _ ⟨v3, rfl, rfl⟩; refine J.perm (List.perm_append_comm (l₁ := [_, _, _]) (l₂ := [_])) ?_; simp only [List.cons_append, List.nil_append])
 (refine J.gY rfl rfl rfl ?_)
 (refine Jx.not rfl rfl (Jx.pT rfl rfl rfl ?_))
 (refine J.nil (N.seq (W.cT rfl ?_)))
 (refine W.seq (W.region (Jx.assign rfl rfl (J.nil (N.seq (W.ret (N.noGotoRet (N.noGotoRet (N.noGotoRet (N.noGotoRet (N.noGotoRet ?_)))))))))))
 (refine id ?_; rotate_left))
                refine N.drop (List.sublist_cons_self _ _) ?_
                exact N.ret (rs := [.tmp 8]) rfl (.tmp rfl .nil) ⟨v3, rfl, rfl⟩
              | true =>
                rw [if_pos rfl] at hKi
                focus (
 (refine W.seq (W.region (Jx.lssI rfl rfl rfl (J.nil (N.seq (W.seq (W.cT rfl ?_)))))))
 (refine W.skip (N.seq (W.seq (W.block (W.seq (W.region (Jx.move rfl rfl ?_)))))))
 (refine Jx.indexAg str [] i rfl rfl rfl h1 h1k rfl ?_)
 (refine Jx.assign rfl rfl (Jx.assign rfl rfl (J.nil (N.seq (W.seq (W.region (Jx.move rfl rfl (Jx.move rfl rfl ?_))))))))
 (refine Jx.numByte i rfl rfl rfl rfl ?_)
 (refine J.qs (Qs.buildBytes [UInt8.ofNat i] rfl rfl rfl (by decide) (by decide)) rfl ?_)
 (refine Jx.bytesStr rfl rfl ?_)
 (refine Jx.cat rfl rfl hcl1 rfl ?_)
 (refine Jx.assign rfl rfl (J.nil (N.seq (W.seq (W.seq (W.region (Jx.fieldAddr rfl rfl ?_)))))))
 (refine Jx.load rfl 0 rfl rfl rfl ?_)
 (refine Jx.eqlI rfl rfl rfl (J.nil (N.seq (W.cF rfl ?_))))
 (refine W.skip (N.seq (W.seq (W.region (Jx.move rfl rfl (Jx.neqS rfl rfl rfl (Jx.move rfl rfl (J.gY rfl rfl rfl ?_))))))))
 (refine Jx.move rfl rfl (J.gY rfl rfl rfl ?_))
 (refine Jx.move rfl rfl (J.gY rfl rfl rfl ?_))
 (refine Jx.move rfl rfl (J.gY rfl rfl rfl ?_))
 (refine Jx.move rfl rfl (J.gY rfl rfl rfl ?_))
 (refine J.perm (List.perm_append_comm (l₁ := [_]) (l₂ := [_, _, _])) ?_; refine J.call cg rfl (evs_args rfl) rfl ?_; rintro _ _ ⟨v3, rfl, rfl⟩; refine J.perm (List.perm_append_comm (l₁ := [_, _, _]) (l₂ := [_])) ?_; simp only [List.cons_append, List.nil_append])
 (refine J.gY rfl rfl rfl ?_)
 (refine Jx.not rfl rfl (Jx.pT rfl rfl rfl ?_))
 (refine J.nil (N.seq (W.cF rfl ?_)))
 (refine W.skip (N.seq (W.region ?_)))
 (refine Jx.add64 rfl rfl (by omega) rfl ?_; rw [e1])
 (refine Jx.move rfl rfl (J.nil ?_))
 (refine id ?_; rotate_left))
                exact N.round ⟨i + 1, v3, s3⟩ ⟨h1, hKi, hsz.trans hgs⟩ (by simp only; omega) rfl ⟨ref0 rfl, ref0 rfl, ref0 rfl, ref0 rfl, ref0 rfl, ref0 rfl, trivial⟩
        · have h1' : ¬ (i : Int) < 16 := by omega
          obtain rfl : i = 16 := by omega
          rw [show (List.range 16).drop 16 = [] from rfl] at hKi
          rw [hKi]
          focus (
 (refine W.seq (W.region (Jx.lssI rfl rfl rfl (J.nil (N.seq (W.seq (W.cF rfl ?_)))))))
 (refine W.exit (N.seq (W.seq (W.region (Jx.assign rfl rfl (J.nil (N.seq (W.ret ?_))))))))
 (refine id ?_; rotate_left))
          refine N.drop (List.sublist_cons_self _ _) ?_
          exact N.ret (rs := [.tmp 8]) rfl (.tmp rfl .nil) ⟨v2, rfl, rfl⟩
      · have g5n : n.value ≠ [] := g5
        rw [if_neg g5]
        have ci := item_good g lo hi v items (place ++ n.path) n.value hppl (by omega) (fun hh => g4 ⟨g5, hh⟩)
        have hisz := itemP_sz lo hi (place ++ n.path) n.value items
        generalize itemP lo hi (place ++ n.path) n.value items = items at *
        have hit : items.length + ts.length ≤ 2000 := by omega
        refine FnC.intro Tryz.func19 rfl Tryz.ntmps19 rfl fun Z w0 hG => ?_
        focus (
 (refine W.seq (W.region (Jx.assign rfl rfl (J.nil (N.seq (W.seq (W.seq (W.region (Jx.move rfl rfl (Jx.move rfl rfl ?_))))))))))
 (refine J.call (Lc := [_]) cm rfl (evs_args rfl) rfl ?_; rintro _ _ ⟨rfl, rfl⟩; rw [List.singleton_append])
 (refine Jx.not rfl rfl (J.nil (N.seq (W.cF rfl ?_))))
 (refine W.skip (N.seq (W.seq (W.region (Jx.move rfl rfl ?_)))))
 (refine J.perm (List.perm_append_comm (l₁ := [_, _]) (l₂ := [_])) ?_; refine J.callV (us := []) (vs := [.pointer (some ⟨q, 0, none⟩)]) (args := []) (Lc := [_]) rfl ct rfl (evs_args rfl) rfl ?_; rintro _ _ ⟨rfl, rfl⟩; refine J.perm (List.perm_append_comm (l₁ := [_]) (l₂ := [_, _])) ?_; simp only [List.cons_append, List.nil_append])
 (refine Jx.move rfl rfl (Jx.extract rfl rfl rfl ?_))
 (refine Jx.extract rfl rfl rfl ?_)
 (refine Jx.assign rfl rfl (Jx.assign rfl rfl (J.nil (N.seq (W.seq (W.region (Jx.move rfl rfl ?_)))))))
 (refine J.call (Lc := []) cd rfl (evs_args rfl) rfl ?_; rintro _ _ ⟨rfl, rfl⟩; rw [List.nil_append])
 (refine Jx.move rfl rfl (Jx.extract rfl rfl rfl ?_))
 (refine Jx.extract rfl rfl rfl ?_)
 (refine Jx.assign rfl rfl (Jx.assign rfl rfl (J.nil (N.seq (W.seq (W.region (Jx.move rfl rfl ?_)))))))
 (refine J.call (Lc := []) cn rfl (evs_args rfl) rfl ?_; rintro _ _ ⟨rfl, rfl⟩; rw [List.nil_append])
 (refine Jx.move rfl rfl (Jx.extract rfl rfl rfl ?_))
 (refine Jx.extract rfl rfl rfl ?_)
 (refine J.alloc (d := 13) (by simp only [List.map_cons, List.map_nil]; rfl) rfl rfl ?_; intro p13)
 (refine J.storeAll rfl rfl hbq 0 rfl rfl rfl ?_)
 (refine Jx.assign rfl rfl (J.nil (N.seq (W.seq (W.seq (W.region (Jx.move rfl rfl (Jx.not rfl rfl (Jx.move rfl rfl (J.gY rfl rfl rfl ?_))))))))))
 (refine Jx.move rfl rfl (J.gY rfl rfl rfl ?_))
 (refine Jx.move rfl rfl (J.gY rfl rfl rfl ?_))
 (refine Jx.neqS rfl rfl rfl (Jx.pF rfl rfl rfl ?_))
 (refine Jx.move rfl rfl (J.gY rfl rfl rfl ?_))
 (refine Jx.move rfl rfl (J.gY rfl rfl rfl ?_))
 (refine Jx.neqI rfl rfl rfl (Jx.pF rfl rfl rfl ?_))
 (refine J.nil (N.seq (W.cF rfl ?_)))
 (refine W.skip (N.seq (W.seq (W.seq (W.region (Jx.fieldAddr rfl rfl ?_))))))
 (refine Jx.load rfl 0 rfl rfl rfl ?_)
 (refine Jx.neqS rfl rfl rfl (Jx.move rfl rfl (J.gY rfl rfl rfl ?_)))
 (refine Jx.move rfl rfl (J.gY rfl rfl rfl ?_))
 (refine Jx.move rfl rfl (J.gY rfl rfl rfl ?_))
 (refine Jx.fieldAddr rfl rfl ?_)
 (refine J.gY rfl rfl rfl ?_)
 (refine Jx.load rfl 0 rfl rfl rfl ?_)
 (refine J.gY rfl rfl rfl ?_)
 (refine Jx.cat rfl rfl hcl rfl ?_)
 (refine J.gY rfl rfl rfl ?_)
 (refine Jx.fieldAddr rfl rfl ?_)
 (refine J.gY rfl rfl rfl ?_)
 (refine Jx.load rfl 0 rfl rfl rfl ?_)
 (refine J.gY rfl rfl rfl ?_)
 (refine J.perm (List.perm_append_comm (l₁ := [_]) (l₂ := [_, _, _])) ?_; refine J.call ci rfl (evs_args rfl) rfl ?_; rintro _ _ ⟨v1, rfl, rfl⟩; simp only [List.cons_append, List.nil_append]; refine J.perm (List.perm_append_comm (l₁ := [_, _, _]) (l₂ := [_])) ?_; simp only [List.cons_append, List.nil_append])
 (refine J.gY rfl rfl rfl ?_)
 (refine Jx.not rfl rfl (Jx.pT rfl rfl rfl ?_))
 (refine J.nil (N.seq (W.cF rfl ?_)))
 (refine W.skip (N.seq (W.seq (W.seq (W.region (Jx.fieldAddr rfl rfl ?_))))))
 (refine Jx.loadAg rfl 0 rfl hk3 hkl rfl ?_)
 (refine Jx.move rfl rfl (J.nil (N.seq (W.block ?_))))
 (refine id ?_; rotate_left))
        obtain ⟨K, hK⟩ : ∃ K, kidsG (gatN lo hi f) n place (List.range 16) ⟨ts, items⟩ = K := ⟨_, rfl⟩
        rw [hK]
        refine W.loop (α := GaS) (fun x => [(64, int (x.i : Int)), (63, .agg (n.kids.map str)), (13, ptr p13), (0, ptr g), (2, str place), (3, .val (fvT q))]) (fun x => .obj p13 tNd (ndC n) :: gaL g q lo hi x.v x.s) (fun x => x.i ≤ 16 ∧ K = kidsG (gatN lo hi f) n place ((List.range 16).drop x.i) x.s ∧ SzG ⟨ts, items⟩ x.s) (fun x => 16 - x.i) ⟨0, v1, ⟨ts, items⟩⟩ ⟨Nat.zero_le _, hK.symm, SzG.refl _⟩ rfl ⟨ref0 rfl, ref0 rfl, ref0 rfl, ref0 rfl, ref0 rfl, ref0 rfl, trivial⟩ ?_
        rintro ⟨i, v2, s2⟩ ⟨hi16, hKi, hsz⟩
        simp only at hi16 hKi hsz ⊢
        by_cases h1 : i < 16
        · have h1' : (i : Int) < 16 := by omega
          have e1 : (i : Int) + 1 = ((i + 1 : Nat) : Int) := by omega
          have h1k : i < n.kids.length := by omega
          rw [range_drop h1] at hKi
          unfold kidsG at hKi
          have hcl1 : place.length + [UInt8.ofNat i].length ≤ 9223372036854775807 := by simp only [List.length_cons, List.length_nil]; omega
          have hs2l := hsz.1.length_le
          simp only at hs2l
          have hsz2 := hsz.2
          simp only at hsz2
          have hB2 : GaB (atN n place i) s2 := ⟨fun x hx => hsh x (List.mem_cons_of_mem _ (hsz.1.subset hx)), by omega, by
            unfold atN; split <;> simp only [List.length_append, List.length_cons, List.length_nil] <;> omega⟩
          by_cases h2 : n.kind = 2
          · have hat : atN n place i = place ++ n.path := if_pos h2
            by_cases h3 : n.kid i = []
            · have h3n : ¬ (n.kids.getD i [] ≠ []) := fun h => h h3
              rw [if_pos h3] at hKi
              focus (
 (refine W.seq (W.region (Jx.lssI rfl rfl rfl (J.nil (N.seq (W.seq (W.cT rfl ?_)))))))
 (refine W.skip (N.seq (W.seq (W.block (W.seq (W.region (Jx.move rfl rfl ?_)))))))
 (refine Jx.indexAg str [] i rfl rfl rfl h1 h1k rfl ?_)
 (refine Jx.assign rfl rfl (Jx.assign rfl rfl (J.nil (N.seq (W.seq (W.region (Jx.move rfl rfl (Jx.move rfl rfl ?_))))))))
 (refine Jx.numByte i rfl rfl rfl rfl ?_)
 (refine J.qs (Qs.buildBytes [UInt8.ofNat i] rfl rfl rfl (by decide) (by decide)) rfl ?_)
 (refine Jx.bytesStr rfl rfl ?_)
 (refine Jx.cat rfl rfl hcl1 rfl ?_)
 (refine Jx.assign rfl rfl (J.nil (N.seq (W.seq (W.seq (W.region (Jx.fieldAddr rfl rfl ?_)))))))
 (refine Jx.load rfl 0 rfl rfl rfl ?_)
 (refine Jx.eqlI rfl rfl rfl (J.nil (N.seq (W.cT rfl ?_))))
 (refine W.region (Jx.move rfl rfl (Jx.fieldAddr rfl rfl ?_)))
 (refine Jx.load rfl 0 rfl rfl rfl ?_)
 (refine Jx.cat rfl rfl hcl rfl ?_)
 (refine Jx.assign rfl rfl (J.nil (N.seq (W.seq (W.region (Jx.move rfl rfl (Jx.neqS rfl rfl rfl (Jx.move rfl rfl (J.gN rfl rfl rfl rfl ?_)))))))))
 (refine J.gN rfl rfl rfl rfl ?_)
 (refine J.gN rfl rfl rfl rfl ?_)
 (refine J.gN rfl rfl rfl rfl ?_)
 (refine J.gN rfl rfl rfl rfl ?_)
 (refine J.gN rfl rfl rfl rfl ?_)
 (refine Jx.pF rfl rfl rfl ?_)
 (refine J.nil (N.seq (W.cF rfl ?_)))
 (refine W.skip (N.seq (W.region ?_)))
 (refine Jx.add64 rfl rfl (by omega) rfl ?_; rw [e1])
 (refine Jx.move rfl rfl (J.nil ?_))
 (refine id ?_; rotate_left))
              exact N.round ⟨i + 1, v2, s2⟩ ⟨h1, hKi, hsz⟩ (by simp only; omega) rfl ⟨ref0 rfl, ref0 rfl, ref0 rfl, ref0 rfl, ref0 rfl, ref0 rfl, trivial⟩
            · have h3n : n.kids.getD i [] ≠ [] := h3
              rw [if_neg h3] at hKi
              have cg := gather_ok g q lo hi f (n.kid i) (atN n place i) v2 s2 (Nat.lt_of_le_of_lt hs2l (by omega)) hB2
              rw [hat] at cg hKi
              have hgs := gat_sz lo hi f (n.kid i) (place ++ n.path) s2
              generalize gatN lo hi f (n.kid i) (place ++ n.path) s2 = G at *
              obtain ⟨ok, s3⟩ := G
              cases ok with
              | false =>
                rw [if_neg (by simp)] at hKi
                rw [hKi]
                focus (
 (refine W.seq (W.region (Jx.lssI rfl rfl rfl (J.nil (N.seq (W.seq (W.cT rfl ?_)))))))
 (refine W.skip (N.seq (W.seq (W.block (W.seq (W.region (Jx.move rfl rfl ?_)))))))
 (refine Jx.indexAg str [] i rfl rfl rfl h1 h1k rfl ?_)
 (refine Jx.assign rfl rfl (Jx.assign rfl rfl (J.nil (N.seq (W.seq (W.region (Jx.move rfl rfl (Jx.move rfl rfl ?_))))))))
 (refine Jx.numByte i rfl rfl rfl rfl ?_)
 (refine J.qs (Qs.buildBytes [UInt8.ofNat i] rfl rfl rfl (by decide) (by decide)) rfl ?_)
 (refine Jx.bytesStr rfl rfl ?_)
 (refine Jx.cat rfl rfl hcl1 rfl ?_)
 (refine Jx.assign rfl rfl (J.nil (N.seq (W.seq (W.seq (W.region (Jx.fieldAddr rfl rfl ?_)))))))
 (refine Jx.load rfl 0 rfl rfl rfl ?_)
 (refine Jx.eqlI rfl rfl rfl (J.nil (N.seq (W.cT rfl ?_))))
 (refine W.region (Jx.move rfl rfl (Jx.fieldAddr rfl rfl ?_)))
 (refine Jx.load rfl 0 rfl rfl rfl ?_)
 (refine Jx.cat rfl rfl hcl rfl ?_)
 (refine Jx.assign rfl rfl (J.nil (N.seq (W.seq (W.region (Jx.move rfl rfl (Jx.neqS rfl rfl rfl (Jx.move rfl rfl (J.gY rfl rfl rfl ?_)))))))))
 (refine Jx.move rfl rfl (J.gY rfl rfl rfl ?_))
 (refine Jx.move rfl rfl (J.gY rfl rfl rfl ?_))
 (refine Jx.move rfl rfl (J.gY rfl rfl rfl ?_))
 (refine Jx.move rfl rfl (J.gY rfl rfl rfl ?_))
 (refine J.perm (List.perm_append_comm (l₁ := [_]) (l₂ := [_, _, _])) ?_; refine J.call cg rfl (evs_args rfl) rfl ?_; rintro _ _ ⟨v3, rfl, rfl⟩; refine J.perm (List.perm_append_comm (l₁ := [_, _, _]) (l₂ := [_])) ?_; simp only [List.cons_append, List.nil_append])
 (refine J.gY rfl rfl rfl ?_)
 (refine Jx.not rfl rfl (Jx.pT rfl rfl rfl ?_))
 (refine J.nil (N.seq (W.cT rfl ?_)))
 (refine W.seq (W.region (Jx.assign rfl rfl (J.nil (N.seq (W.ret (N.noGotoRet (N.noGotoRet (N.noGotoRet (N.noGotoRet (N.noGotoRet ?_)))))))))))
 (refine id ?_; rotate_left))
                refine N.drop (List.sublist_cons_self _ _) ?_
                exact N.ret (rs := [.tmp 8]) rfl (.tmp rfl .nil) ⟨v3, rfl, rfl⟩
              | true =>
                rw [if_pos rfl] at hKi
                focus (
 (refine W.seq (W.region (Jx.lssI rfl rfl rfl (J.nil (N.seq (W.seq (W.cT rfl ?_)))))))
 (refine W.skip (N.seq (W.seq (W.block (W.seq (W.region (Jx.move rfl rfl ?_)))))))
 (refine Jx.indexAg str [] i rfl rfl rfl h1 h1k rfl ?_)
 (refine Jx.assign rfl rfl (Jx.assign rfl rfl (J.nil (N.seq (W.seq (W.region (Jx.move rfl rfl (Jx.move rfl rfl ?_))))))))
 (refine Jx.numByte i rfl rfl rfl rfl ?_)
 (refine J.qs (Qs.buildBytes [UInt8.ofNat i] rfl rfl rfl (by decide) (by decide)) rfl ?_)
 (refine Jx.bytesStr rfl rfl ?_)
 (refine Jx.cat rfl rfl hcl1 rfl ?_)
 (refine Jx.assign rfl rfl (J.nil (N.seq (W.seq (W.seq (W.region (Jx.fieldAddr rfl rfl ?_)))))))
 (refine Jx.load rfl 0 rfl rfl rfl ?_)
 (refine Jx.eqlI rfl rfl rfl (J.nil (N.seq (W.cT rfl ?_))))
 (refine W.region (Jx.move rfl rfl (Jx.fieldAddr rfl rfl ?_)))
 (refine Jx.load rfl 0 rfl rfl rfl ?_)
 (refine Jx.cat rfl rfl hcl rfl ?_)
 (refine Jx.assign rfl rfl (J.nil (N.seq (W.seq (W.region (Jx.move rfl rfl (Jx.neqS rfl rfl rfl (Jx.move rfl rfl (J.gY rfl rfl rfl ?_)))))))))
 (refine Jx.move rfl rfl (J.gY rfl rfl rfl ?_))
 (refine Jx.move rfl rfl (J.gY rfl rfl rfl ?_))
 (refine Jx.move rfl rfl (J.gY rfl rfl rfl ?_))
 (refine Jx.move rfl rfl (J.gY rfl rfl rfl ?_))
 (refine J.perm (List.perm_append_comm (l₁ := [_]) (l₂ := [_, _, _])) ?_; refine J.call cg rfl (evs_args rfl) rfl ?_; rintro _ _ ⟨v3, rfl, rfl⟩; refine J.perm (List.perm_append_comm (l₁ := [_, _, _]) (l₂ := [_])) ?_; simp only [List.cons_append, List.nil_append])
 (refine J.gY rfl rfl rfl ?_)
 (refine Jx.not rfl rfl (Jx.pT rfl rfl rfl ?_))
 (refine J.nil (N.seq (W.cF rfl ?_)))
 (refine W.skip (N.seq (W.region ?_)))
 (refine Jx.add64 rfl rfl (by omega) rfl ?_; rw [e1])
 (refine Jx.move rfl rfl (J.nil ?_))
 (refine id ?_; rotate_left))
                exact N.round ⟨i + 1, v3, s3⟩ ⟨h1, hKi, hsz.trans hgs⟩ (by simp only; omega) rfl ⟨ref0 rfl, ref0 rfl, ref0 rfl, ref0 rfl, ref0 rfl, ref0 rfl, trivial⟩
          · have hat : atN n place i = place ++ [UInt8.ofNat i] := if_neg h2
            by_cases h3 : n.kid i = []
            · have h3n : ¬ (n.kids.getD i [] ≠ []) := fun h => h h3
              rw [if_pos h3] at hKi
              focus (
 (refine W.seq (W.region (Jx.lssI rfl rfl rfl (J.nil (N.seq (W.seq (W.cT rfl ?_)))))))
 (refine W.skip (N.seq (W.seq (W.block (W.seq (W.region (Jx.move rfl rfl ?_)))))))
 (refine Jx.indexAg str [] i rfl rfl rfl h1 h1k rfl ?_)
 (refine Jx.assign rfl rfl (Jx.assign rfl rfl (J.nil (N.seq (W.seq (W.region (Jx.move rfl rfl (Jx.move rfl rfl ?_))))))))
 (refine Jx.numByte i rfl rfl rfl rfl ?_)
 (refine J.qs (Qs.buildBytes [UInt8.ofNat i] rfl rfl rfl (by decide) (by decide)) rfl ?_)
 (refine Jx.bytesStr rfl rfl ?_)
 (refine Jx.cat rfl rfl hcl1 rfl ?_)
 (refine Jx.assign rfl rfl (J.nil (N.seq (W.seq (W.seq (W.region (Jx.fieldAddr rfl rfl ?_)))))))
 (refine Jx.load rfl 0 rfl rfl rfl ?_)
 (refine Jx.eqlI rfl rfl rfl (J.nil (N.seq (W.cF rfl ?_))))
 (refine W.skip (N.seq (W.seq (W.region (Jx.move rfl rfl (Jx.neqS rfl rfl rfl (Jx.move rfl rfl (J.gN rfl rfl rfl rfl ?_))))))))
 (refine J.gN rfl rfl rfl rfl ?_)
 (refine J.gN rfl rfl rfl rfl ?_)
 (refine J.gN rfl rfl rfl rfl ?_)
 (refine J.gN rfl rfl rfl rfl ?_)
 (refine J.gN rfl rfl rfl rfl ?_)
 (refine Jx.pF rfl rfl rfl ?_)
 (refine J.nil (N.seq (W.cF rfl ?_)))
 (refine W.skip (N.seq (W.region ?_)))
 (refine Jx.add64 rfl rfl (by omega) rfl ?_; rw [e1])
 (refine Jx.move rfl rfl (J.nil ?_))
 (refine id ?_; rotate_left))
              exact N.round ⟨i + 1, v2, s2⟩ ⟨h1, hKi, hsz⟩ (by simp only; omega) rfl ⟨ref0 rfl, ref0 rfl, ref0 rfl, ref0 rfl, ref0 rfl, ref0 rfl, trivial⟩
            · have h3n : n.kids.getD i [] ≠ [] := h3
              rw [if_neg h3] at hKi
              have cg := gather_ok g q lo hi f (n.kid i) (atN n place i) v2 s2 (Nat.lt_of_le_of_lt hs2l (by omega)) hB2
              rw [hat] at cg hKi
              have hgs := gat_sz lo hi f (n.kid i) (place ++ [UInt8.ofNat i]) s2
              generalize gatN lo hi f (n.kid i) (place ++ [UInt8.ofNat i]) s2 = G at *
              obtain ⟨ok, s3⟩ := G
              cases ok with
              | false =>
                rw [if_neg (by simp)] at hKi
                rw [hKi]
                focus (
 (refine W.seq (W.region (Jx.lssI rfl rfl rfl (J.nil (N.seq (W.seq (W.cT rfl ?_)))))))
 (refine W.skip (N.seq (W.seq (W.block (W.seq (W.region (Jx.move rfl rfl ?_)))))))
 (refine Jx.indexAg str [] i rfl rfl rfl h1 h1k rfl ?_)
 (refine Jx.assign rfl rfl (Jx.assign rfl rfl (J.nil (N.seq (W.seq (W.region (Jx.move rfl rfl (Jx.move rfl rfl ?_))))))))
 (refine Jx.numByte i rfl rfl rfl rfl ?_)
 (refine J.qs (Qs.buildBytes [UInt8.ofNat i] rfl rfl rfl (by decide) (by decide)) rfl ?_)
 (refine Jx.bytesStr rfl rfl ?_)
 (refine Jx.cat rfl rfl hcl1 rfl ?_)
 (refine Jx.assign rfl rfl (J.nil (N.seq (W.seq (W.seq (W.region (Jx.fieldAddr rfl rfl ?_)))))))
 (refine Jx.load rfl 0 rfl rfl rfl ?_)
 (refine Jx.eqlI rfl rfl rfl (J.nil (N.seq (W.cF rfl ?_))))
 (refine W.skip (N.seq (W.seq (W.region (Jx.move rfl rfl (Jx.neqS rfl rfl rfl (Jx.move rfl rfl (J.gY rfl rfl rfl ?_))))))))
 (refine Jx.move rfl rfl (J.gY rfl rfl rfl ?_))
 (refine Jx.move rfl rfl (J.gY rfl rfl rfl ?_))
 (refine Jx.move rfl rfl (J.gY rfl rfl rfl ?_))
 (refine Jx.move rfl rfl (J.gY rfl rfl rfl ?_))
 (refine J.perm (List.perm_append_comm (l₁ := [_]) (l₂ := [_, _, _])) ?_; refine J.call cg rfl (evs_args rfl) rfl ?_; rintro _ _ ⟨v3, rfl, rfl⟩; refine J.perm (List.perm_append_comm (l₁ := [_, _, _]) (l₂ := [_])) ?_; simp only [List.cons_append, List.nil_append])
 (refine J.gY rfl rfl rfl ?_)
 (refine Jx.not rfl rfl (Jx.pT rfl rfl rfl ?_))
 (refine J.nil (N.seq (W.cT rfl ?_)))
 (refine W.seq (W.region (Jx.assign rfl rfl (J.nil (N.seq (W.ret (N.noGotoRet (N.noGotoRet (N.noGotoRet (N.noGotoRet (N.noGotoRet ?_)))))))))))
 (refine id ?_; rotate_left))
                refine N.drop (List.sublist_cons_self _ _) ?_
                exact N.ret (rs := [.tmp 8]) rfl (.tmp rfl .nil) ⟨v3, rfl, rfl⟩
              | true =>
                rw [if_pos rfl] at hKi
                focus (
 (refine W.seq (W.region (Jx.lssI rfl rfl rfl (J.nil (N.seq (W.seq (W.cT rfl ?_)))))))
 (refine W.skip (N.seq (W.seq (W.block (W.seq (W.region (Jx.move rfl rfl ?_)))))))
 (refine Jx.indexAg str [] i rfl rfl rfl h1 h1k rfl ?_)
 (refine Jx.assign rfl rfl (Jx.assign rfl rfl (J.nil (N.seq (W.seq (W.region (Jx.move rfl rfl (Jx.move rfl rfl ?_))))))))
 (refine Jx.numByte i rfl rfl rfl rfl ?_)
 (refine J.qs (Qs.buildBytes [UInt8.ofNat i] rfl rfl rfl (by decide) (by decide)) rfl ?_)
 (refine Jx.bytesStr rfl rfl ?_)
 (refine Jx.cat rfl rfl hcl1 rfl ?_)
 (refine Jx.assign rfl rfl (J.nil (N.seq (W.seq (W.seq (W.region (Jx.fieldAddr rfl rfl ?_)))))))
 (refine Jx.load rfl 0 rfl rfl rfl ?_)
 (refine Jx.eqlI rfl rfl rfl (J.nil (N.seq (W.cF rfl ?_))))
 (refine W.skip (N.seq (W.seq (W.region (Jx.move rfl rfl (Jx.neqS rfl rfl rfl (Jx.move rfl rfl (J.gY rfl rfl rfl ?_))))))))
 (refine Jx.move rfl rfl (J.gY rfl rfl rfl ?_))
 (refine Jx.move rfl rfl (J.gY rfl rfl rfl ?_))
 (refine Jx.move rfl rfl (J.gY rfl rfl rfl ?_))
 (refine Jx.move rfl rfl (J.gY rfl rfl rfl ?_))
 (refine J.perm (List.perm_append_comm (l₁ := [_]) (l₂ := [_, _, _])) ?_; refine J.call cg rfl (evs_args rfl) rfl ?_; rintro _ _ ⟨v3, rfl, rfl⟩; refine J.perm (List.perm_append_comm (l₁ := [_, _, _]) (l₂ := [_])) ?_; simp only [List.cons_append, List.nil_append])
 (refine J.gY rfl rfl rfl ?_)
 (refine Jx.not rfl rfl (Jx.pT rfl rfl rfl ?_))
 (refine J.nil (N.seq (W.cF rfl ?_)))
 (refine W.skip (N.seq (W.region ?_)))
 (refine Jx.add64 rfl rfl (by omega) rfl ?_; rw [e1])
 (refine Jx.move rfl rfl (J.nil ?_))
 (refine id ?_; rotate_left))
                exact N.round ⟨i + 1, v3, s3⟩ ⟨h1, hKi, hsz.trans hgs⟩ (by simp only; omega) rfl ⟨ref0 rfl, ref0 rfl, ref0 rfl, ref0 rfl, ref0 rfl, ref0 rfl, trivial⟩
        · have h1' : ¬ (i : Int) < 16 := by omega
          obtain rfl : i = 16 := by omega
          rw [show (List.range 16).drop 16 = [] from rfl] at hKi
          rw [hKi]
          focus (
 (refine W.seq (W.region (Jx.lssI rfl rfl rfl (J.nil (N.seq (W.seq (W.cF rfl ?_)))))))
 (refine W.exit (N.seq (W.seq (W.region (Jx.assign rfl rfl (J.nil (N.seq (W.ret ?_))))))))
 (refine id ?_; rotate_left))
          refine N.drop (List.sublist_cons_self _ _) ?_
          exact N.ret (rs := [.tmp 8]) rfl (.tmp rfl .nil) ⟨v2, rfl, rfl⟩
end Go.Proofs.YtaflklbmdbmjbaaGreatDoor
namespace Go.Proofs.YtaflklbmdbmjbaaGreatDoor
open Go Go.Sse
set_option linter.unusedVariables false
set_option linter.unusedSimpArgs false
set_option maxRecDepth 10000
theorem it_eq' (a b : It) : (decide (a = b) = true ↔ [sv a.1, sv a.2] = [sv b.1, sv b.2]) := by
  obtain ⟨a1, a2⟩ := a; obtain ⟨b1, b2⟩ := b; simp
theorem getD_eq_all {l m : List It} (hl : l.length = m.length) (h : ∀ j, j < l.length → l.getD j it0 = m.getD j it0) : l = m :=
  List.ext_getElem hl fun j h1 h2 => by
    have := h j h1
    rw [List.getD_eq_getElem?_getD, List.getD_eq_getElem?_getD, List.getElem?_eq_getElem h1, List.getElem?_eq_getElem h2] at this
    exact this
set_option maxHeartbeats 4000000 in
theorem equal_ok (l m : List It) (hb : l.length ≤ 1000000) : FnC Tryz.prog 20 [itl l, itl m] [] (fun r L => r = Sse.bool (decide (l = m)) ∧ L = []) := by
  by_cases hl : l.length = m.length
  case neg =>
    have hl' : (l.length : Int) ≠ (m.length : Int) := fun h => hl (by omega)
    rw [decide_eq_false (fun h => hl (by rw [h]))]
    refine FnC.intro Tryz.func20 rfl Tryz.ntmps20 rfl fun Z w0 hG => ?_
    focus (
 (refine W.seq (W.region (Jx.assign rfl rfl (J.nil (N.seq (W.seq (W.seq (W.region (Jx.move rfl rfl (Jx.lenSl rfl rfl ?_))))))))))
 (refine Jx.move rfl rfl (Jx.lenSl rfl rfl ?_))
 (refine Jx.neqI rfl rfl rfl (J.nil (N.seq (W.cT rfl ?_))))
 (refine W.seq (W.region (Jx.assign rfl rfl (J.nil (N.seq (W.ret (N.noGotoRet ?_)))))))
 (refine id ?_; rotate_left))
    exact N.ret (rs := [.tmp 4]) rfl (.tmp rfl .nil) ⟨rfl, rfl⟩
  have hl' : ¬ ((l.length : Int) ≠ (m.length : Int)) := fun h => h (by omega)
  refine FnC.intro Tryz.func20 rfl Tryz.ntmps20 rfl fun Z w0 hG => ?_
  focus (
 (refine W.seq (W.region (Jx.assign rfl rfl (J.nil (N.seq (W.seq (W.seq (W.region (Jx.move rfl rfl (Jx.lenSl rfl rfl ?_))))))))))
 (refine Jx.move rfl rfl (Jx.lenSl rfl rfl ?_))
 (refine Jx.neqI rfl rfl rfl (J.nil (N.seq (W.cF rfl ?_))))
 (refine W.skip (N.seq (W.seq (W.seq (W.region (Jx.move rfl rfl (Jx.lenSl rfl rfl ?_)))))))
 (refine Jx.move rfl rfl (J.nil (N.seq (W.block ?_))))
 (refine id ?_; rotate_left))
  refine W.loop (α := Nat) (fun i => [(13, int (i : Int)), (12, int (l.length : Int)), (0, itl l), (1, itl m)]) (fun _ => []) (fun i => i ≤ l.length ∧ ∀ j, j < i → l.getD j it0 = m.getD j it0) (fun i => l.length - i) 0 ⟨Nat.zero_le _, fun j h => absurd h (Nat.not_lt_zero _)⟩ rfl ⟨ref0 rfl, ref0 rfl, ref0 rfl, ref0 rfl, trivial⟩ ?_
  rintro i ⟨hi, hj⟩
  by_cases h1 : i < l.length
  · have h1' : (i : Int) < (l.length : Int) := by omega
    have h1m : i < m.length := by omega
    have e1 : (i : Int) + 1 = ((i + 1 : Nat) : Int) := by omega
    by_cases h2 : l.getD i it0 = m.getD i it0
    · have hq : (!decide (l.getD i it0 = m.getD i it0)) = false := by rw [decide_eq_true h2]; rfl
      focus (
 (refine W.seq (W.region (Jx.lssI rfl rfl rfl (J.nil (N.seq (W.seq (W.cT rfl ?_)))))))
 (refine W.skip (N.seq (W.seq (W.block (W.seq (W.region (Jx.move rfl rfl (Jx.assign rfl rfl (J.nil (N.seq (W.seq ?_)))))))))))
 (refine W.draw follows ?_)
 (refine JD.calm rfl (by decide +kernel) ?_)
 (refine Cx.move rfl rfl ?_)
 (refine Cx.move rfl rfl ?_)
 (refine Cx.indexEl rfl rfl h1 rfl rfl ?_)
 (refine Cx.loadPPall rfl rfl rfl ?_)
 (refine Cx.move rfl rfl ?_)
 (refine Cx.move rfl rfl ?_)
 (refine Cx.indexEl rfl rfl h1m rfl rfl ?_)
 (refine Cx.loadPPall rfl rfl rfl ?_)
 (refine Cx.neqAg (decide (l.getD i it0 = m.getD i it0)) rfl rfl rfl rfl rfl rfl (it_eq' _ _) rfl ?_)
 (refine SegC.nil ?_)
 (refine N.seq (W.cF rfl ?_))
 (refine W.skip (N.seq (W.region ?_)))
 (refine Jx.add64 rfl rfl (by omega) rfl ?_; rw [e1])
 (refine Jx.move rfl rfl (J.nil ?_))
 (refine id ?_; rotate_left))
      exact N.round (i + 1) ⟨h1, fun j hh => by rcases Nat.lt_or_ge j i with h3 | h3; exact hj j h3; obtain rfl : j = i := (by omega); exact h2⟩ (by omega) rfl ⟨ref0 rfl, ref0 rfl, ref0 rfl, ref0 rfl, trivial⟩
    · have hq : (!decide (l.getD i it0 = m.getD i it0)) = true := by simp only [h2, decide_false, Bool.not_false]
      rw [decide_eq_false (fun h => h2 (by rw [h]))]
      focus (
 (refine W.seq (W.region (Jx.lssI rfl rfl rfl (J.nil (N.seq (W.seq (W.cT rfl ?_)))))))
 (refine W.skip (N.seq (W.seq (W.block (W.seq (W.region (Jx.move rfl rfl (Jx.assign rfl rfl (J.nil (N.seq (W.seq ?_)))))))))))
 (refine W.draw follows ?_)
 (refine JD.calm rfl (by decide +kernel) ?_)
 (refine Cx.move rfl rfl ?_)
 (refine Cx.move rfl rfl ?_)
 (refine Cx.indexEl rfl rfl h1 rfl rfl ?_)
 (refine Cx.loadPPall rfl rfl rfl ?_)
 (refine Cx.move rfl rfl ?_)
 (refine Cx.move rfl rfl ?_)
 (refine Cx.indexEl rfl rfl h1m rfl rfl ?_)
 (refine Cx.loadPPall rfl rfl rfl ?_)
 (refine Cx.neqAg (decide (l.getD i it0 = m.getD i it0)) rfl rfl rfl rfl rfl rfl (it_eq' _ _) rfl ?_)
 (refine SegC.nil ?_)
 (refine N.seq (W.cT rfl ?_))
 (refine W.seq (W.region (Jx.assign rfl rfl (J.nil (N.seq (W.ret (N.noGotoRet (N.noGotoRet (N.noGotoRet (N.noGotoRet (N.noGotoRet ?_)))))))))))
 (refine id ?_; rotate_left))
      exact N.ret (rs := [.tmp 4]) rfl (.tmp rfl .nil) ⟨rfl, rfl⟩
  · have h1' : ¬ (i : Int) < (l.length : Int) := by omega
    rw [decide_eq_true (getD_eq_all hl fun j h => hj j (by omega))]
    focus (
 (refine W.seq (W.region (Jx.lssI rfl rfl rfl (J.nil (N.seq (W.seq (W.cF rfl ?_)))))))
 (refine W.exit (N.seq (W.seq (W.region (Jx.assign rfl rfl (J.nil (N.seq (W.ret ?_))))))))
 (refine id ?_; rotate_left))
    exact N.ret (rs := [.tmp 4]) rfl (.tmp rfl .nil) ⟨rfl, rfl⟩
abbrev hiN (next hi : Bs) : Bs := if next ≠ [] then next else hi
abbrev nilS : SV := .val (.slice none 0 0)
theorem perm_own (r l g d : Own) : [r, l, g, d].Perm ([g, r, l] ++ [d]) := (List.perm_append_comm (l₁ := [r, l]) (l₂ := [g])).append_right [d]
set_option maxHeartbeats 16000000 in
theorem sverify_ok (root lo hi next : Bs) (most : Int) (nodes : List Bs) (items : List It) (hlo : lo.length ≤ 140737488351232) (hhi : hi.length ≤ 140737488351232) (hnx : next.length ≤ 140737488351232) (hn : nodes.length ≤ 60) (hs : ∀ t ∈ nodes, t.length ≤ 1000000) (hil : items.length ≤ 1000000) :
    FnC Tryz.prog 7 [str root, str lo, str hi, int most, .agg [itl items, str next, ssl nodes]] [] (fun r L => (∃ X nx e, r = .tup [X, str nx, int e] ∧ (e ≠ 0 ∨ (e = 0 ∧ root = [] ∧ nodes = [] ∧ X = nilS ∧ nx = []) ∨ (e = 0 ∧ root ≠ [] ∧ gatN lo (hiN next hi) (nodes.length + 1) root [] ⟨nodes, []⟩ = (true, ⟨[], items⟩) ∧ X = itl items ∧ nx = next))) ∧ L = []) := by
  by_cases h1 : 1 ≤ most
  case neg =>
    have h1' : most < 1 := by omega
    refine FnC.intro Tryz.func7 rfl Tryz.ntmps7 rfl fun Z w0 hG => ?_
    focus (
 (refine W.seq (W.region ?_))
 (refine J.boxAg (d := 9) rfl rfl ?_; intro p9)
 (refine Jx.assign rfl rfl (Jx.assign rfl rfl (Jx.assign rfl rfl (J.nil (N.seq (W.seq (W.seq (W.region (Jx.move rfl rfl (Jx.lssI rfl rfl rfl (Jx.move rfl rfl (J.gN rfl rfl rfl rfl ?_))))))))))))
 (refine J.gN rfl rfl rfl rfl ?_)
 (refine Jx.pT rfl rfl rfl ?_)
 (refine J.nil (N.seq (W.cT rfl ?_)))
 (refine W.seq (W.region (Jx.assign rfl rfl (Jx.assign rfl rfl (Jx.assign rfl rfl (J.nil (N.seq (W.ret (N.noGotoRet ?_)))))))))
 (refine id ?_; rotate_left))
    exact N.retD (rs := [.tmp 10, .tmp 11, .tmp 12]) (L1 := []) rfl (.tmp rfl (.tmp rfl (.tmp rfl .nil))) (List.nil_sublist _) ⟨⟨_, _, _, rfl, .inl (by decide)⟩, rfl⟩
  have h1' : ¬ most < 1 := by omega
  by_cases h2 : most ≤ 16
  case neg =>
    have h2' : 16 < most := by omega
    refine FnC.intro Tryz.func7 rfl Tryz.ntmps7 rfl fun Z w0 hG => ?_
    focus (
 (refine W.seq (W.region ?_))
 (refine J.boxAg (d := 9) rfl rfl ?_; intro p9)
 (refine Jx.assign rfl rfl (Jx.assign rfl rfl (Jx.assign rfl rfl (J.nil (N.seq (W.seq (W.seq (W.region (Jx.move rfl rfl (Jx.lssI rfl rfl rfl (Jx.move rfl rfl (J.gY rfl rfl rfl ?_))))))))))))
 (refine Jx.move rfl rfl (J.gY rfl rfl rfl ?_))
 (refine Jx.gtrI rfl rfl rfl (Jx.pF rfl rfl rfl ?_))
 (refine J.nil (N.seq (W.cT rfl ?_)))
 (refine W.seq (W.region (Jx.assign rfl rfl (Jx.assign rfl rfl (Jx.assign rfl rfl (J.nil (N.seq (W.ret (N.noGotoRet ?_)))))))))
 (refine id ?_; rotate_left))
    exact N.retD (rs := [.tmp 10, .tmp 11, .tmp 12]) (L1 := []) rfl (.tmp rfl (.tmp rfl (.tmp rfl .nil))) (List.nil_sublist _) ⟨⟨_, _, _, rfl, .inl (by decide)⟩, rfl⟩
  have h2' : ¬ 16 < most := by omega
  have cg := goesOn_ok items next nodes hi most h1 h2
  have cu := upTo_ok next hi
  have co := of_ok lo hlo
  have hhl : (hiN next hi).length ≤ 140737488351232 := by unfold hiN; split <;> assumption
  have co2 := of_ok (hiN next hi) hhl
  have hGB : GaB [] ⟨nodes, []⟩ := ⟨hs, by simp only [List.length_nil]; omega, by simp only [List.length_nil]; omega⟩
  have ct := fun g q => gather_ok g q lo (hiN next hi) (nodes.length + 1) root [] (.slice none 0 0) ⟨nodes, []⟩ (Nat.lt_succ_self _) hGB
  have hsz := gat_sz lo (hiN next hi) (nodes.length + 1) root [] ⟨nodes, []⟩
  by_cases h3 : root = []
  · subst h3
    by_cases h4 : nodes = []
    · subst h4
      by_cases h5 : items = []
      · subst h5
        refine FnC.intro Tryz.func7 rfl Tryz.ntmps7 rfl fun Z w0 hG => ?_
        focus (
 (refine W.seq (W.region ?_))
 (refine J.boxAg (d := 9) rfl rfl ?_; intro p9)
 (refine Jx.assign rfl rfl (Jx.assign rfl rfl (Jx.assign rfl rfl (J.nil (N.seq (W.seq (W.seq (W.region (Jx.move rfl rfl (Jx.lssI rfl rfl rfl (Jx.move rfl rfl (J.gY rfl rfl rfl ?_))))))))))))
 (refine Jx.move rfl rfl (J.gY rfl rfl rfl ?_))
 (refine Jx.gtrI rfl rfl rfl (Jx.pF rfl rfl rfl ?_))
 (refine J.nil (N.seq (W.cF rfl ?_)))
 (refine W.skip (N.seq (W.seq (W.seq (W.region (Jx.loadAll rfl 0 rfl rfl rfl ?_))))))
 (refine Jx.move rfl rfl (Jx.move rfl rfl ?_))
 (refine J.call (Lc := []) cg rfl (evs_args rfl) rfl ?_; rintro _ _ ⟨⟨q, rfl⟩, rfl⟩; rw [List.nil_append])
 (refine Jx.not rfl rfl (J.nil (N.seq ?_)))
 (refine id ?_; rotate_left))
        cases q with
        | false =>
          focus (
 (refine W.cT rfl ?_)
 (refine W.seq (W.region (Jx.assign rfl rfl (Jx.assign rfl rfl (Jx.assign rfl rfl (J.nil (N.seq (W.ret (N.noGotoRet ?_)))))))))
 (refine id ?_; rotate_left))
          exact N.retD (rs := [.tmp 10, .tmp 11, .tmp 12]) (L1 := []) rfl (.tmp rfl (.tmp rfl (.tmp rfl .nil))) (List.nil_sublist _) ⟨⟨_, _, _, rfl, .inl (by decide)⟩, rfl⟩
        | true =>
          focus (
 (refine W.cF rfl ?_)
 (refine W.skip (N.seq (W.seq (W.seq (W.region (Jx.move rfl rfl (Jx.eqlS rfl rfl rfl (J.nil (N.seq (W.cT rfl ?_))))))))))
 (refine W.seq (W.seq (W.region (Jx.fieldAddr rfl rfl ?_))))
 (refine Jx.load rfl 0 rfl rfl rfl ?_)
 (refine Jx.lenSl rfl rfl ?_)
 (refine Jx.gtrI rfl rfl rfl (Jx.move rfl rfl (J.gY rfl rfl rfl ?_)))
 (refine Jx.fieldAddr rfl rfl ?_)
 (refine J.gY rfl rfl rfl ?_)
 (refine Jx.load rfl 0 rfl rfl rfl ?_)
 (refine J.gY rfl rfl rfl ?_)
 (refine Jx.lenSl rfl rfl ?_)
 (refine J.gY rfl rfl rfl ?_)
 (refine Jx.gtrI rfl rfl rfl (Jx.pF rfl rfl rfl ?_))
 (refine J.nil (N.seq (W.cF rfl ?_)))
 (refine W.skip (N.seq (W.seq (W.region (Jx.assign rfl rfl (Jx.assign rfl rfl (Jx.assign rfl rfl (J.nil (N.seq (W.ret (N.noGotoRet ?_)))))))))))
 (refine id ?_; rotate_left))
          exact N.retD (rs := [.tmp 10, .tmp 11, .tmp 12]) (L1 := []) rfl (.tmp rfl (.tmp rfl (.tmp rfl .nil))) (List.nil_sublist _) ⟨⟨_, _, _, rfl, .inr (.inl ⟨rfl, rfl, rfl, rfl, rfl⟩)⟩, rfl⟩
      · have h5' : (0 : Int) < (items.length : Int) := by have := List.length_pos_iff.2 h5; omega
        refine FnC.intro Tryz.func7 rfl Tryz.ntmps7 rfl fun Z w0 hG => ?_
        focus (
 (refine W.seq (W.region ?_))
 (refine J.boxAg (d := 9) rfl rfl ?_; intro p9)
 (refine Jx.assign rfl rfl (Jx.assign rfl rfl (Jx.assign rfl rfl (J.nil (N.seq (W.seq (W.seq (W.region (Jx.move rfl rfl (Jx.lssI rfl rfl rfl (Jx.move rfl rfl (J.gY rfl rfl rfl ?_))))))))))))
 (refine Jx.move rfl rfl (J.gY rfl rfl rfl ?_))
 (refine Jx.gtrI rfl rfl rfl (Jx.pF rfl rfl rfl ?_))
 (refine J.nil (N.seq (W.cF rfl ?_)))
 (refine W.skip (N.seq (W.seq (W.seq (W.region (Jx.loadAll rfl 0 rfl rfl rfl ?_))))))
 (refine Jx.move rfl rfl (Jx.move rfl rfl ?_))
 (refine J.call (Lc := []) cg rfl (evs_args rfl) rfl ?_; rintro _ _ ⟨⟨q, rfl⟩, rfl⟩; rw [List.nil_append])
 (refine Jx.not rfl rfl (J.nil (N.seq ?_)))
 (refine id ?_; rotate_left))
        cases q with
        | false =>
          focus (
 (refine W.cT rfl ?_)
 (refine W.seq (W.region (Jx.assign rfl rfl (Jx.assign rfl rfl (Jx.assign rfl rfl (J.nil (N.seq (W.ret (N.noGotoRet ?_)))))))))
 (refine id ?_; rotate_left))
          exact N.retD (rs := [.tmp 10, .tmp 11, .tmp 12]) (L1 := []) rfl (.tmp rfl (.tmp rfl (.tmp rfl .nil))) (List.nil_sublist _) ⟨⟨_, _, _, rfl, .inl (by decide)⟩, rfl⟩
        | true =>
          focus (
 (refine W.cF rfl ?_)
 (refine W.skip (N.seq (W.seq (W.seq (W.region (Jx.move rfl rfl (Jx.eqlS rfl rfl rfl (J.nil (N.seq (W.cT rfl ?_))))))))))
 (refine W.seq (W.seq (W.region (Jx.fieldAddr rfl rfl ?_))))
 (refine Jx.load rfl 0 rfl rfl rfl ?_)
 (refine Jx.lenSl rfl rfl ?_)
 (refine Jx.gtrI rfl rfl rfl (Jx.move rfl rfl (J.gY rfl rfl rfl ?_)))
 (refine Jx.fieldAddr rfl rfl ?_)
 (refine J.gY rfl rfl rfl ?_)
 (refine Jx.load rfl 0 rfl rfl rfl ?_)
 (refine J.gY rfl rfl rfl ?_)
 (refine Jx.lenSl rfl rfl ?_)
 (refine J.gY rfl rfl rfl ?_)
 (refine Jx.gtrI rfl rfl rfl (Jx.pF rfl rfl rfl ?_))
 (refine J.nil (N.seq (W.cT rfl ?_)))
 (refine W.seq (W.region (Jx.assign rfl rfl (Jx.assign rfl rfl (Jx.assign rfl rfl (J.nil (N.seq (W.ret (N.noGotoRet (N.noGotoRet ?_))))))))))
 (refine id ?_; rotate_left))
          exact N.retD (rs := [.tmp 10, .tmp 11, .tmp 12]) (L1 := []) rfl (.tmp rfl (.tmp rfl (.tmp rfl .nil))) (List.nil_sublist _) ⟨⟨_, _, _, rfl, .inl (by decide)⟩, rfl⟩
    · have h4' : (0 : Int) < (nodes.length : Int) := by have := List.length_pos_iff.2 h4; omega
      refine FnC.intro Tryz.func7 rfl Tryz.ntmps7 rfl fun Z w0 hG => ?_
      focus (
 (refine W.seq (W.region ?_))
 (refine J.boxAg (d := 9) rfl rfl ?_; intro p9)
 (refine Jx.assign rfl rfl (Jx.assign rfl rfl (Jx.assign rfl rfl (J.nil (N.seq (W.seq (W.seq (W.region (Jx.move rfl rfl (Jx.lssI rfl rfl rfl (Jx.move rfl rfl (J.gY rfl rfl rfl ?_))))))))))))
 (refine Jx.move rfl rfl (J.gY rfl rfl rfl ?_))
 (refine Jx.gtrI rfl rfl rfl (Jx.pF rfl rfl rfl ?_))
 (refine J.nil (N.seq (W.cF rfl ?_)))
 (refine W.skip (N.seq (W.seq (W.seq (W.region (Jx.loadAll rfl 0 rfl rfl rfl ?_))))))
 (refine Jx.move rfl rfl (Jx.move rfl rfl ?_))
 (refine J.call (Lc := []) cg rfl (evs_args rfl) rfl ?_; rintro _ _ ⟨⟨q, rfl⟩, rfl⟩; rw [List.nil_append])
 (refine Jx.not rfl rfl (J.nil (N.seq ?_)))
 (refine id ?_; rotate_left))
      cases q with
      | false =>
        focus (
 (refine W.cT rfl ?_)
 (refine W.seq (W.region (Jx.assign rfl rfl (Jx.assign rfl rfl (Jx.assign rfl rfl (J.nil (N.seq (W.ret (N.noGotoRet ?_)))))))))
 (refine id ?_; rotate_left))
        exact N.retD (rs := [.tmp 10, .tmp 11, .tmp 12]) (L1 := []) rfl (.tmp rfl (.tmp rfl (.tmp rfl .nil))) (List.nil_sublist _) ⟨⟨_, _, _, rfl, .inl (by decide)⟩, rfl⟩
      | true =>
        focus (
 (refine W.cF rfl ?_)
 (refine W.skip (N.seq (W.seq (W.seq (W.region (Jx.move rfl rfl (Jx.eqlS rfl rfl rfl (J.nil (N.seq (W.cT rfl ?_))))))))))
 (refine W.seq (W.seq (W.region (Jx.fieldAddr rfl rfl ?_))))
 (refine Jx.load rfl 0 rfl rfl rfl ?_)
 (refine Jx.lenSl rfl rfl ?_)
 (refine Jx.gtrI rfl rfl rfl (Jx.move rfl rfl (J.gN rfl rfl rfl rfl ?_)))
 (refine J.gN rfl rfl rfl rfl ?_)
 (refine J.gN rfl rfl rfl rfl ?_)
 (refine J.gN rfl rfl rfl rfl ?_)
 (refine Jx.pT rfl rfl rfl ?_)
 (refine J.nil (N.seq (W.cT rfl ?_)))
 (refine W.seq (W.region (Jx.assign rfl rfl (Jx.assign rfl rfl (Jx.assign rfl rfl (J.nil (N.seq (W.ret (N.noGotoRet (N.noGotoRet ?_))))))))))
 (refine id ?_; rotate_left))
        exact N.retD (rs := [.tmp 10, .tmp 11, .tmp 12]) (L1 := []) rfl (.tmp rfl (.tmp rfl (.tmp rfl .nil))) (List.nil_sublist _) ⟨⟨_, _, _, rfl, .inl (by decide)⟩, rfl⟩
  generalize hGq : gatN lo (hiN next hi) (nodes.length + 1) root [] ⟨nodes, []⟩ = G at *
  obtain ⟨ok, ⟨left3, its3⟩⟩ := G
  have hsz2 := hsz.2
  simp only [List.length_nil] at hsz2
  have hmx : its3.length ≤ maxLen := by simp only [maxLen]; omega
  have ce := equal_ok its3 items (by omega)
  by_cases g1 : ok = true
  case neg =>
    obtain rfl : ok = false := by simpa using g1
    refine FnC.intro Tryz.func7 rfl Tryz.ntmps7 rfl fun Z w0 hG => ?_
    focus (
 (refine W.seq (W.region ?_))
 (refine J.boxAg (d := 9) rfl rfl ?_; intro p9)
 (refine Jx.assign rfl rfl (Jx.assign rfl rfl (Jx.assign rfl rfl (J.nil (N.seq (W.seq (W.seq (W.region (Jx.move rfl rfl (Jx.lssI rfl rfl rfl (Jx.move rfl rfl (J.gY rfl rfl rfl ?_))))))))))))
 (refine Jx.move rfl rfl (J.gY rfl rfl rfl ?_))
 (refine Jx.gtrI rfl rfl rfl (Jx.pF rfl rfl rfl ?_))
 (refine J.nil (N.seq (W.cF rfl ?_)))
 (refine W.skip (N.seq (W.seq (W.seq (W.region (Jx.loadAll rfl 0 rfl rfl rfl ?_))))))
 (refine Jx.move rfl rfl (Jx.move rfl rfl ?_))
 (refine J.call (Lc := []) cg rfl (evs_args rfl) rfl ?_; rintro _ _ ⟨⟨q, rfl⟩, rfl⟩; rw [List.nil_append])
 (refine Jx.not rfl rfl (J.nil (N.seq ?_)))
 (refine id ?_; rotate_left))
    cases q with
    | false =>
      focus (
 (refine W.cT rfl ?_)
 (refine W.seq (W.region (Jx.assign rfl rfl (Jx.assign rfl rfl (Jx.assign rfl rfl (J.nil (N.seq (W.ret (N.noGotoRet ?_)))))))))
 (refine id ?_; rotate_left))
      exact N.retD (rs := [.tmp 10, .tmp 11, .tmp 12]) (L1 := []) rfl (.tmp rfl (.tmp rfl (.tmp rfl .nil))) (List.nil_sublist _) ⟨⟨_, _, _, rfl, .inl (by decide)⟩, rfl⟩
    | true =>
      focus (
 (refine W.cF rfl ?_)
 (refine W.skip (N.seq (W.seq (W.seq (W.region (Jx.move rfl rfl (Jx.eqlS rfl rfl rfl (J.nil (N.seq (W.cF rfl ?_))))))))))
 (refine W.skip (N.seq (W.seq (W.region (Jx.move rfl rfl (Jx.fieldAddr rfl rfl ?_))))))
 (refine Jx.load rfl 0 rfl rfl rfl ?_)
 (refine Jx.move rfl rfl ?_)
 (refine J.call (Lc := []) cu rfl (evs_args rfl) rfl ?_; rintro _ _ ⟨rfl, rfl⟩; rw [List.nil_append])
 (refine Jx.move rfl rfl ?_)
 (refine J.call (Lc := []) co rfl (evs_args rfl) rfl ?_; rintro _ _ ⟨rfl, rfl⟩; rw [List.nil_append])
 (refine Jx.buildB rfl rfl rfl rfl rfl ?_)
 (refine J.boxAg (d := 47) rfl rfl ?_; intro p13)
 (refine Jx.assign rfl rfl (J.nil (N.seq (W.seq (W.region (Jx.move rfl rfl (Jx.move rfl rfl (Jx.nilCheck rfl rfl ?_))))))))
 (refine Jx.fieldAddr rfl rfl ?_)
 (refine Jx.load rfl 0 rfl rfl rfl ?_)
 (refine J.call (Lc := []) co2 rfl (evs_args rfl) rfl ?_; rintro _ _ ⟨rfl, rfl⟩; rw [List.nil_append])
 (refine Jx.nilCheck rfl rfl ?_)
 (refine Jx.fieldAddr rfl rfl ?_)
 (refine J.st 0 rfl rfl rfl rfl rfl rfl ?_)
 (refine J.nil (N.seq (W.seq (W.region (Jx.fieldAddr rfl rfl ?_)))))
 (refine Jx.load rfl 1 rfl rfl rfl ?_)
 (refine J.alloc (d := 14) (by simp only [List.map_cons, List.map_nil]; rfl) rfl rfl ?_; intro p14)
 (refine J.st 0 rfl rfl rfl rfl rfl rfl ?_)
 (refine J.nil (N.seq (W.seq (W.region ?_))))
 (refine Jx.makeFunc (us := []) (vs := [.pointer (some ⟨p14, 0, none⟩)]) .nil (evs_args rfl) (fun _ => rfl) rfl ?_; refine J.rowNil tIt 2 (elOf itC it0 []) ?_)
 (refine Jx.assign rfl rfl (J.nil (N.seq (W.seq (W.seq ?_)))))
 (refine W.draw follows ?_)
 (refine JD.begin 20 rfl ?_; refine JP.more [0, 1, 2] _ rfl (by decide +kernel) ?_)
 (refine Cx.move rfl rfl ?_)
 (refine Cx.move rfl rfl ?_)
 (refine Cx.move rfl rfl ?_)
 (refine SegC.nil ?_)
 (focus (refine JP.callP (idx := [0, 1, 2]) 3 [59, 60, 61] [0, 1, 2, 3] [] (ct p13 p14) (perm_own _ _ _ _) (by decide +kernel) rfl ?_ (evs_args rfl) rfl ?_; rotate_left); rintro _ _ ⟨v3, rfl, rfl⟩; simp only [List.cons_append, List.nil_append]; refine JP.freezeCell 1 0 4 rfl rfl rfl hmx rfl ?_; refine JP.more [4, 5, 6, 7, 8, 9, 10, 11, 12, 13, 14, 15, 16, 17, 18, 19] _ rfl (by decide +kernel) ?_)
 (refine Cx.not rfl rfl ?_)
 (refine Cx.move rfl rfl ?_)
 (refine SegC.gU rfl rfl rfl rfl ?_)
 (refine SegC.gU rfl rfl rfl rfl ?_)
 (refine SegC.gU rfl rfl rfl rfl ?_)
 (refine Cx.pickT rfl (by first | rfl | assumption | (exact decide_eq_true (by first | assumption | omega | rfl)) | (exact decide_eq_false (by first | assumption | omega | rfl)) | (simp; done) | (simp; omega)) rfl rfl ?_)
 (refine Cx.move rfl rfl ?_)
 (refine SegC.gU rfl rfl rfl rfl ?_)
 (refine SegC.gU rfl rfl rfl rfl ?_)
 (refine SegC.gU rfl rfl rfl rfl ?_)
 (refine SegC.gU rfl rfl rfl rfl ?_)
 (refine SegC.gU rfl rfl rfl rfl ?_)
 (refine SegC.gU rfl rfl rfl rfl ?_)
 (refine SegC.gU rfl rfl rfl rfl ?_)
 (refine SegC.gU rfl rfl rfl rfl ?_)
 (refine Cx.pickT rfl (by first | rfl | assumption | (exact decide_eq_true (by first | assumption | omega | rfl)) | (exact decide_eq_false (by first | assumption | omega | rfl)) | (simp; done) | (simp; omega)) rfl rfl ?_)
 (refine SegC.nil ?_)
 (refine JP.tail (idx := [4, 5, 6, 7, 8, 9, 10, 11, 12, 13, 14, 15, 16, 17, 18, 19]) 20 (by decide +kernel) (by decide +kernel) rfl rfl ?_ ?_)
 (refine Cx.not rfl rfl ?_)
 (refine Cx.move rfl rfl ?_)
 (refine SegC.gU rfl rfl rfl rfl ?_)
 (refine SegC.gU rfl rfl rfl rfl ?_)
 (refine SegC.gU rfl rfl rfl rfl ?_)
 (refine Cx.pickT rfl (by first | rfl | assumption | (exact decide_eq_true (by first | assumption | omega | rfl)) | (exact decide_eq_false (by first | assumption | omega | rfl)) | (simp; done) | (simp; omega)) rfl rfl ?_)
 (refine Cx.move rfl rfl ?_)
 (refine SegC.gU rfl rfl rfl rfl ?_)
 (refine SegC.gU rfl rfl rfl rfl ?_)
 (refine SegC.gU rfl rfl rfl rfl ?_)
 (refine SegC.gU rfl rfl rfl rfl ?_)
 (refine SegC.gU rfl rfl rfl rfl ?_)
 (refine SegC.gU rfl rfl rfl rfl ?_)
 (refine SegC.gU rfl rfl rfl rfl ?_)
 (refine SegC.gU rfl rfl rfl rfl ?_)
 (refine Cx.pickT rfl (by first | rfl | assumption | (exact decide_eq_true (by first | assumption | omega | rfl)) | (exact decide_eq_false (by first | assumption | omega | rfl)) | (simp; done) | (simp; omega)) rfl rfl ?_)
 (refine SegC.nil ?_)
 (refine Ag.cons rfl ?_)
 (refine Ag.cons rfl ?_)
 (refine Ag.cons rfl ?_)
 (refine Ag.cons rfl ?_)
 (refine Ag.cons rfl ?_)
 (refine Ag.cons rfl ?_)
 (refine Ag.cons rfl ?_)
 (refine Ag.cons rfl ?_)
 (refine Ag.cons rfl ?_)
 (refine Ag.cons rfl ?_)
 (refine Ag.cons rfl ?_)
 (refine Ag.cons rfl ?_)
 (refine Ag.cons rfl ?_)
 (refine Ag.cons rfl ?_)
 (refine Ag.cons rfl ?_)
 (refine Ag.cons rfl ?_)
 (refine Ag.nil)
 (refine J.nil (N.seq (W.cT rfl ?_)))
 (refine W.seq (W.region (Jx.assign rfl rfl (Jx.assign rfl rfl (Jx.assign rfl rfl (J.nil (N.seq (W.ret (N.noGotoRet ?_)))))))))
 (refine id ?_; rotate_left)
 (refine Cx.move rfl rfl ?_)
 (refine Cx.move rfl rfl ?_)
 (refine Cx.move rfl rfl ?_)
 (refine SegC.nil ?_)
 (refine Ag.cons rfl ?_)
 (refine Ag.cons rfl ?_)
 (refine Ag.cons rfl ?_)
 (refine Ag.nil))
      exact N.retD (rs := [.tmp 10, .tmp 11, .tmp 12]) (L1 := []) rfl (.tmp rfl (.tmp rfl (.tmp rfl .nil))) (List.nil_sublist _) ⟨⟨_, _, _, rfl, .inl (by decide)⟩, rfl⟩
  subst g1
  by_cases g2 : left3 = []
  case neg =>
    have g2' : (0 : Int) < (left3.length : Int) := by have := List.length_pos_iff.2 g2; omega
    refine FnC.intro Tryz.func7 rfl Tryz.ntmps7 rfl fun Z w0 hG => ?_
    focus (
 (refine W.seq (W.region ?_))
 (refine J.boxAg (d := 9) rfl rfl ?_; intro p9)
 (refine Jx.assign rfl rfl (Jx.assign rfl rfl (Jx.assign rfl rfl (J.nil (N.seq (W.seq (W.seq (W.region (Jx.move rfl rfl (Jx.lssI rfl rfl rfl (Jx.move rfl rfl (J.gY rfl rfl rfl ?_))))))))))))
 (refine Jx.move rfl rfl (J.gY rfl rfl rfl ?_))
 (refine Jx.gtrI rfl rfl rfl (Jx.pF rfl rfl rfl ?_))
 (refine J.nil (N.seq (W.cF rfl ?_)))
 (refine W.skip (N.seq (W.seq (W.seq (W.region (Jx.loadAll rfl 0 rfl rfl rfl ?_))))))
 (refine Jx.move rfl rfl (Jx.move rfl rfl ?_))
 (refine J.call (Lc := []) cg rfl (evs_args rfl) rfl ?_; rintro _ _ ⟨⟨q, rfl⟩, rfl⟩; rw [List.nil_append])
 (refine Jx.not rfl rfl (J.nil (N.seq ?_)))
 (refine id ?_; rotate_left))
    cases q with
    | false =>
      focus (
 (refine W.cT rfl ?_)
 (refine W.seq (W.region (Jx.assign rfl rfl (Jx.assign rfl rfl (Jx.assign rfl rfl (J.nil (N.seq (W.ret (N.noGotoRet ?_)))))))))
 (refine id ?_; rotate_left))
      exact N.retD (rs := [.tmp 10, .tmp 11, .tmp 12]) (L1 := []) rfl (.tmp rfl (.tmp rfl (.tmp rfl .nil))) (List.nil_sublist _) ⟨⟨_, _, _, rfl, .inl (by decide)⟩, rfl⟩
    | true =>
      focus (
 (refine W.cF rfl ?_)
 (refine W.skip (N.seq (W.seq (W.seq (W.region (Jx.move rfl rfl (Jx.eqlS rfl rfl rfl (J.nil (N.seq (W.cF rfl ?_))))))))))
 (refine W.skip (N.seq (W.seq (W.region (Jx.move rfl rfl (Jx.fieldAddr rfl rfl ?_))))))
 (refine Jx.load rfl 0 rfl rfl rfl ?_)
 (refine Jx.move rfl rfl ?_)
 (refine J.call (Lc := []) cu rfl (evs_args rfl) rfl ?_; rintro _ _ ⟨rfl, rfl⟩; rw [List.nil_append])
 (refine Jx.move rfl rfl ?_)
 (refine J.call (Lc := []) co rfl (evs_args rfl) rfl ?_; rintro _ _ ⟨rfl, rfl⟩; rw [List.nil_append])
 (refine Jx.buildB rfl rfl rfl rfl rfl ?_)
 (refine J.boxAg (d := 47) rfl rfl ?_; intro p13)
 (refine Jx.assign rfl rfl (J.nil (N.seq (W.seq (W.region (Jx.move rfl rfl (Jx.move rfl rfl (Jx.nilCheck rfl rfl ?_))))))))
 (refine Jx.fieldAddr rfl rfl ?_)
 (refine Jx.load rfl 0 rfl rfl rfl ?_)
 (refine J.call (Lc := []) co2 rfl (evs_args rfl) rfl ?_; rintro _ _ ⟨rfl, rfl⟩; rw [List.nil_append])
 (refine Jx.nilCheck rfl rfl ?_)
 (refine Jx.fieldAddr rfl rfl ?_)
 (refine J.st 0 rfl rfl rfl rfl rfl rfl ?_)
 (refine J.nil (N.seq (W.seq (W.region (Jx.fieldAddr rfl rfl ?_)))))
 (refine Jx.load rfl 1 rfl rfl rfl ?_)
 (refine J.alloc (d := 14) (by simp only [List.map_cons, List.map_nil]; rfl) rfl rfl ?_; intro p14)
 (refine J.st 0 rfl rfl rfl rfl rfl rfl ?_)
 (refine J.nil (N.seq (W.seq (W.region ?_))))
 (refine Jx.makeFunc (us := []) (vs := [.pointer (some ⟨p14, 0, none⟩)]) .nil (evs_args rfl) (fun _ => rfl) rfl ?_; refine J.rowNil tIt 2 (elOf itC it0 []) ?_)
 (refine Jx.assign rfl rfl (J.nil (N.seq (W.seq (W.seq ?_)))))
 (refine W.draw follows ?_)
 (refine JD.begin 20 rfl ?_; refine JP.more [0, 1, 2] _ rfl (by decide +kernel) ?_)
 (refine Cx.move rfl rfl ?_)
 (refine Cx.move rfl rfl ?_)
 (refine Cx.move rfl rfl ?_)
 (refine SegC.nil ?_)
 (focus (refine JP.callP (idx := [0, 1, 2]) 3 [59, 60, 61] [0, 1, 2, 3] [] (ct p13 p14) (perm_own _ _ _ _) (by decide +kernel) rfl ?_ (evs_args rfl) rfl ?_; rotate_left); rintro _ _ ⟨v3, rfl, rfl⟩; simp only [List.cons_append, List.nil_append]; refine JP.freezeCell 1 0 4 rfl rfl rfl hmx rfl ?_; refine JP.more [4, 5, 6, 7, 8, 9, 10, 11, 12, 13, 14, 15, 16, 17, 18, 19] _ rfl (by decide +kernel) ?_)
 (refine Cx.not rfl rfl ?_)
 (refine Cx.move rfl rfl ?_)
 (refine SegC.gY rfl rfl rfl ?_)
 (refine Cx.load rfl 1 rfl rfl rfl ?_)
 (refine SegC.gY rfl rfl rfl ?_)
 (refine Cx.lenSl rfl rfl ?_)
 (refine SegC.gY rfl rfl rfl ?_)
 (refine Cx.gtrI rfl rfl rfl ?_)
 (refine Cx.pickF rfl (by first | rfl | assumption | (exact decide_eq_true (by first | assumption | omega | rfl)) | (exact decide_eq_false (by first | assumption | omega | rfl)) | (simp; done) | (simp; omega)) rfl rfl ?_)
 (refine Cx.move rfl rfl ?_)
 (refine SegC.gU rfl rfl rfl rfl ?_)
 (refine SegC.gU rfl rfl rfl rfl ?_)
 (refine SegC.gU rfl rfl rfl rfl ?_)
 (refine SegC.gU rfl rfl rfl rfl ?_)
 (refine SegC.gU rfl rfl rfl rfl ?_)
 (refine SegC.gU rfl rfl rfl rfl ?_)
 (refine SegC.gU rfl rfl rfl rfl ?_)
 (refine SegC.gU rfl rfl rfl rfl ?_)
 (refine Cx.pickT rfl (by first | rfl | assumption | (exact decide_eq_true (by first | assumption | omega | rfl)) | (exact decide_eq_false (by first | assumption | omega | rfl)) | (simp; done) | (simp; omega)) rfl rfl ?_)
 (refine SegC.nil ?_)
 (refine JP.tail (idx := [4, 5, 6, 7, 8, 9, 10, 11, 12, 13, 14, 15, 16, 17, 18, 19]) 20 (by decide +kernel) (by decide +kernel) rfl rfl ?_ ?_)
 (refine Cx.not rfl rfl ?_)
 (refine Cx.move rfl rfl ?_)
 (refine SegC.gY rfl rfl rfl ?_)
 (refine Cx.load rfl 1 rfl rfl rfl ?_)
 (refine SegC.gY rfl rfl rfl ?_)
 (refine Cx.lenSl rfl rfl ?_)
 (refine SegC.gY rfl rfl rfl ?_)
 (refine Cx.gtrI rfl rfl rfl ?_)
 (refine Cx.pickF rfl (by first | rfl | assumption | (exact decide_eq_true (by first | assumption | omega | rfl)) | (exact decide_eq_false (by first | assumption | omega | rfl)) | (simp; done) | (simp; omega)) rfl rfl ?_)
 (refine Cx.move rfl rfl ?_)
 (refine SegC.gU rfl rfl rfl rfl ?_)
 (refine SegC.gU rfl rfl rfl rfl ?_)
 (refine SegC.gU rfl rfl rfl rfl ?_)
 (refine SegC.gU rfl rfl rfl rfl ?_)
 (refine SegC.gU rfl rfl rfl rfl ?_)
 (refine SegC.gU rfl rfl rfl rfl ?_)
 (refine SegC.gU rfl rfl rfl rfl ?_)
 (refine SegC.gU rfl rfl rfl rfl ?_)
 (refine Cx.pickT rfl (by first | rfl | assumption | (exact decide_eq_true (by first | assumption | omega | rfl)) | (exact decide_eq_false (by first | assumption | omega | rfl)) | (simp; done) | (simp; omega)) rfl rfl ?_)
 (refine SegC.nil ?_)
 (refine Ag.cons rfl ?_)
 (refine Ag.cons rfl ?_)
 (refine Ag.cons rfl ?_)
 (refine Ag.cons rfl ?_)
 (refine Ag.cons rfl ?_)
 (refine Ag.cons rfl ?_)
 (refine Ag.cons rfl ?_)
 (refine Ag.cons rfl ?_)
 (refine Ag.cons rfl ?_)
 (refine Ag.cons rfl ?_)
 (refine Ag.cons rfl ?_)
 (refine Ag.cons rfl ?_)
 (refine Ag.cons rfl ?_)
 (refine Ag.cons rfl ?_)
 (refine Ag.cons rfl ?_)
 (refine Ag.cons rfl ?_)
 (refine Ag.nil)
 (refine J.nil (N.seq (W.cT rfl ?_)))
 (refine W.seq (W.region (Jx.assign rfl rfl (Jx.assign rfl rfl (Jx.assign rfl rfl (J.nil (N.seq (W.ret (N.noGotoRet ?_)))))))))
 (refine id ?_; rotate_left)
 (refine Cx.move rfl rfl ?_)
 (refine Cx.move rfl rfl ?_)
 (refine Cx.move rfl rfl ?_)
 (refine SegC.nil ?_)
 (refine Ag.cons rfl ?_)
 (refine Ag.cons rfl ?_)
 (refine Ag.cons rfl ?_)
 (refine Ag.nil))
      exact N.retD (rs := [.tmp 10, .tmp 11, .tmp 12]) (L1 := []) rfl (.tmp rfl (.tmp rfl (.tmp rfl .nil))) (List.nil_sublist _) ⟨⟨_, _, _, rfl, .inl (by decide)⟩, rfl⟩
  subst g2
  by_cases g3 : its3 = items
  case neg =>
    have g3n : decide (its3 = items) = false := decide_eq_false g3
    refine FnC.intro Tryz.func7 rfl Tryz.ntmps7 rfl fun Z w0 hG => ?_
    focus (
 (refine W.seq (W.region ?_))
 (refine J.boxAg (d := 9) rfl rfl ?_; intro p9)
 (refine Jx.assign rfl rfl (Jx.assign rfl rfl (Jx.assign rfl rfl (J.nil (N.seq (W.seq (W.seq (W.region (Jx.move rfl rfl (Jx.lssI rfl rfl rfl (Jx.move rfl rfl (J.gY rfl rfl rfl ?_))))))))))))
 (refine Jx.move rfl rfl (J.gY rfl rfl rfl ?_))
 (refine Jx.gtrI rfl rfl rfl (Jx.pF rfl rfl rfl ?_))
 (refine J.nil (N.seq (W.cF rfl ?_)))
 (refine W.skip (N.seq (W.seq (W.seq (W.region (Jx.loadAll rfl 0 rfl rfl rfl ?_))))))
 (refine Jx.move rfl rfl (Jx.move rfl rfl ?_))
 (refine J.call (Lc := []) cg rfl (evs_args rfl) rfl ?_; rintro _ _ ⟨⟨q, rfl⟩, rfl⟩; rw [List.nil_append])
 (refine Jx.not rfl rfl (J.nil (N.seq ?_)))
 (refine id ?_; rotate_left))
    cases q with
    | false =>
      focus (
 (refine W.cT rfl ?_)
 (refine W.seq (W.region (Jx.assign rfl rfl (Jx.assign rfl rfl (Jx.assign rfl rfl (J.nil (N.seq (W.ret (N.noGotoRet ?_)))))))))
 (refine id ?_; rotate_left))
      exact N.retD (rs := [.tmp 10, .tmp 11, .tmp 12]) (L1 := []) rfl (.tmp rfl (.tmp rfl (.tmp rfl .nil))) (List.nil_sublist _) ⟨⟨_, _, _, rfl, .inl (by decide)⟩, rfl⟩
    | true =>
      focus (
 (refine W.cF rfl ?_)
 (refine W.skip (N.seq (W.seq (W.seq (W.region (Jx.move rfl rfl (Jx.eqlS rfl rfl rfl (J.nil (N.seq (W.cF rfl ?_))))))))))
 (refine W.skip (N.seq (W.seq (W.region (Jx.move rfl rfl (Jx.fieldAddr rfl rfl ?_))))))
 (refine Jx.load rfl 0 rfl rfl rfl ?_)
 (refine Jx.move rfl rfl ?_)
 (refine J.call (Lc := []) cu rfl (evs_args rfl) rfl ?_; rintro _ _ ⟨rfl, rfl⟩; rw [List.nil_append])
 (refine Jx.move rfl rfl ?_)
 (refine J.call (Lc := []) co rfl (evs_args rfl) rfl ?_; rintro _ _ ⟨rfl, rfl⟩; rw [List.nil_append])
 (refine Jx.buildB rfl rfl rfl rfl rfl ?_)
 (refine J.boxAg (d := 47) rfl rfl ?_; intro p13)
 (refine Jx.assign rfl rfl (J.nil (N.seq (W.seq (W.region (Jx.move rfl rfl (Jx.move rfl rfl (Jx.nilCheck rfl rfl ?_))))))))
 (refine Jx.fieldAddr rfl rfl ?_)
 (refine Jx.load rfl 0 rfl rfl rfl ?_)
 (refine J.call (Lc := []) co2 rfl (evs_args rfl) rfl ?_; rintro _ _ ⟨rfl, rfl⟩; rw [List.nil_append])
 (refine Jx.nilCheck rfl rfl ?_)
 (refine Jx.fieldAddr rfl rfl ?_)
 (refine J.st 0 rfl rfl rfl rfl rfl rfl ?_)
 (refine J.nil (N.seq (W.seq (W.region (Jx.fieldAddr rfl rfl ?_)))))
 (refine Jx.load rfl 1 rfl rfl rfl ?_)
 (refine J.alloc (d := 14) (by simp only [List.map_cons, List.map_nil]; rfl) rfl rfl ?_; intro p14)
 (refine J.st 0 rfl rfl rfl rfl rfl rfl ?_)
 (refine J.nil (N.seq (W.seq (W.region ?_))))
 (refine Jx.makeFunc (us := []) (vs := [.pointer (some ⟨p14, 0, none⟩)]) .nil (evs_args rfl) (fun _ => rfl) rfl ?_; refine J.rowNil tIt 2 (elOf itC it0 []) ?_)
 (refine Jx.assign rfl rfl (J.nil (N.seq (W.seq (W.seq ?_)))))
 (refine W.draw follows ?_)
 (refine JD.begin 20 rfl ?_; refine JP.more [0, 1, 2] _ rfl (by decide +kernel) ?_)
 (refine Cx.move rfl rfl ?_)
 (refine Cx.move rfl rfl ?_)
 (refine Cx.move rfl rfl ?_)
 (refine SegC.nil ?_)
 (focus (refine JP.callP (idx := [0, 1, 2]) 3 [59, 60, 61] [0, 1, 2, 3] [] (ct p13 p14) (perm_own _ _ _ _) (by decide +kernel) rfl ?_ (evs_args rfl) rfl ?_; rotate_left); rintro _ _ ⟨v3, rfl, rfl⟩; simp only [List.cons_append, List.nil_append]; refine JP.freezeCell 1 0 4 rfl rfl rfl hmx rfl ?_; refine JP.more [4, 5, 6, 7, 8, 9, 10, 11, 12, 13, 14, 15, 16, 17, 18, 19] _ rfl (by decide +kernel) ?_)
 (refine Cx.not rfl rfl ?_)
 (refine Cx.move rfl rfl ?_)
 (refine SegC.gY rfl rfl rfl ?_)
 (refine Cx.load rfl 1 rfl rfl rfl ?_)
 (refine SegC.gY rfl rfl rfl ?_)
 (refine Cx.lenSl rfl rfl ?_)
 (refine SegC.gY rfl rfl rfl ?_)
 (refine Cx.gtrI rfl rfl rfl ?_)
 (refine Cx.pickF rfl (by first | rfl | assumption | (exact decide_eq_true (by first | assumption | omega | rfl)) | (exact decide_eq_false (by first | assumption | omega | rfl)) | (simp; done) | (simp; omega)) rfl rfl ?_)
 (refine Cx.move rfl rfl ?_)
 (refine SegC.gY rfl rfl rfl ?_)
 (refine Cx.move rfl rfl ?_)
 (refine SegC.gY rfl rfl rfl ?_)
 (refine Cx.nilCheck rfl rfl ?_)
 (refine SegC.gY rfl rfl rfl ?_)
 (refine Cx.fieldAddr rfl rfl ?_)
 (refine SegC.gY rfl rfl rfl ?_)
 (refine Cx.load rfl 0 rfl rfl rfl ?_)
 (refine SegC.gY rfl rfl rfl ?_)
 (refine Cx.fieldAddr rfl rfl ?_)
 (refine SegC.gY rfl rfl rfl ?_)
 (refine Cx.load rfl 2 rfl rfl rfl ?_)
 (refine SegC.gY rfl rfl rfl ?_)
 (refine SegC.q (Qs.call (Lc := []) (ce) (fun s L' h => h) (List.Perm.refl _) (evs_args rfl)) rfl ?_)
 (refine SegC.gY rfl rfl rfl ?_)
 (refine Cx.not rfl rfl ?_)
 (refine Cx.pickF rfl (by first | rfl | assumption | (exact decide_eq_true (by first | assumption | omega | rfl)) | (exact decide_eq_false (by first | assumption | omega | rfl)) | (simp; done) | (simp; omega)) rfl rfl ?_)
 (refine SegC.nil ?_)
 (refine JP.tail (idx := [4, 5, 6, 7, 8, 9, 10, 11, 12, 13, 14, 15, 16, 17, 18, 19]) 20 (by decide +kernel) (by decide +kernel) rfl rfl ?_ ?_)
 (refine Cx.not rfl rfl ?_)
 (refine Cx.move rfl rfl ?_)
 (refine SegC.gY rfl rfl rfl ?_)
 (refine Cx.load rfl 1 rfl rfl rfl ?_)
 (refine SegC.gY rfl rfl rfl ?_)
 (refine Cx.lenSl rfl rfl ?_)
 (refine SegC.gY rfl rfl rfl ?_)
 (refine Cx.gtrI rfl rfl rfl ?_)
 (refine Cx.pickF rfl (by first | rfl | assumption | (exact decide_eq_true (by first | assumption | omega | rfl)) | (exact decide_eq_false (by first | assumption | omega | rfl)) | (simp; done) | (simp; omega)) rfl rfl ?_)
 (refine Cx.move rfl rfl ?_)
 (refine SegC.gY rfl rfl rfl ?_)
 (refine Cx.move rfl rfl ?_)
 (refine SegC.gY rfl rfl rfl ?_)
 (refine Cx.nilCheck rfl rfl ?_)
 (refine SegC.gY rfl rfl rfl ?_)
 (refine Cx.fieldAddr rfl rfl ?_)
 (refine SegC.gY rfl rfl rfl ?_)
 (refine Cx.load rfl 0 rfl rfl rfl ?_)
 (refine SegC.gY rfl rfl rfl ?_)
 (refine Cx.fieldAddr rfl rfl ?_)
 (refine SegC.gY rfl rfl rfl ?_)
 (refine Cx.load rfl 2 rfl rfl rfl ?_)
 (refine SegC.gY rfl rfl rfl ?_)
 (refine SegC.q (Qs.call (Lc := []) (ce) (fun s L' h => h) (List.Perm.refl _) (evs_args rfl)) rfl ?_)
 (refine SegC.gY rfl rfl rfl ?_)
 (refine Cx.not rfl rfl ?_)
 (refine Cx.pickF rfl (by first | rfl | assumption | (exact decide_eq_true (by first | assumption | omega | rfl)) | (exact decide_eq_false (by first | assumption | omega | rfl)) | (simp; done) | (simp; omega)) rfl rfl ?_)
 (refine SegC.nil ?_)
 (refine Ag.cons rfl ?_)
 (refine Ag.cons rfl ?_)
 (refine Ag.cons rfl ?_)
 (refine Ag.cons rfl ?_)
 (refine Ag.cons rfl ?_)
 (refine Ag.cons rfl ?_)
 (refine Ag.cons rfl ?_)
 (refine Ag.cons rfl ?_)
 (refine Ag.cons rfl ?_)
 (refine Ag.cons rfl ?_)
 (refine Ag.cons rfl ?_)
 (refine Ag.cons rfl ?_)
 (refine Ag.cons rfl ?_)
 (refine Ag.cons rfl ?_)
 (refine Ag.cons rfl ?_)
 (refine Ag.cons rfl ?_)
 (refine Ag.nil)
 (refine J.nil (N.seq (W.cT rfl ?_)))
 (refine W.seq (W.region (Jx.assign rfl rfl (Jx.assign rfl rfl (Jx.assign rfl rfl (J.nil (N.seq (W.ret (N.noGotoRet ?_)))))))))
 (refine id ?_; rotate_left)
 (refine Cx.move rfl rfl ?_)
 (refine Cx.move rfl rfl ?_)
 (refine Cx.move rfl rfl ?_)
 (refine SegC.nil ?_)
 (refine Ag.cons rfl ?_)
 (refine Ag.cons rfl ?_)
 (refine Ag.cons rfl ?_)
 (refine Ag.nil))
      exact N.retD (rs := [.tmp 10, .tmp 11, .tmp 12]) (L1 := []) rfl (.tmp rfl (.tmp rfl (.tmp rfl .nil))) (List.nil_sublist _) ⟨⟨_, _, _, rfl, .inl (by decide)⟩, rfl⟩
  subst g3
  have g3t : decide (its3 = its3) = true := decide_eq_true rfl
  refine FnC.intro Tryz.func7 rfl Tryz.ntmps7 rfl fun Z w0 hG => ?_
  focus (
 (refine W.seq (W.region ?_))
 (refine J.boxAg (d := 9) rfl rfl ?_; intro p9)
 (refine Jx.assign rfl rfl (Jx.assign rfl rfl (Jx.assign rfl rfl (J.nil (N.seq (W.seq (W.seq (W.region (Jx.move rfl rfl (Jx.lssI rfl rfl rfl (Jx.move rfl rfl (J.gY rfl rfl rfl ?_))))))))))))
 (refine Jx.move rfl rfl (J.gY rfl rfl rfl ?_))
 (refine Jx.gtrI rfl rfl rfl (Jx.pF rfl rfl rfl ?_))
 (refine J.nil (N.seq (W.cF rfl ?_)))
 (refine W.skip (N.seq (W.seq (W.seq (W.region (Jx.loadAll rfl 0 rfl rfl rfl ?_))))))
 (refine Jx.move rfl rfl (Jx.move rfl rfl ?_))
 (refine J.call (Lc := []) cg rfl (evs_args rfl) rfl ?_; rintro _ _ ⟨⟨q, rfl⟩, rfl⟩; rw [List.nil_append])
 (refine Jx.not rfl rfl (J.nil (N.seq ?_)))
 (refine id ?_; rotate_left))
  cases q with
  | false =>
    focus (
 (refine W.cT rfl ?_)
 (refine W.seq (W.region (Jx.assign rfl rfl (Jx.assign rfl rfl (Jx.assign rfl rfl (J.nil (N.seq (W.ret (N.noGotoRet ?_)))))))))
 (refine id ?_; rotate_left))
    exact N.retD (rs := [.tmp 10, .tmp 11, .tmp 12]) (L1 := []) rfl (.tmp rfl (.tmp rfl (.tmp rfl .nil))) (List.nil_sublist _) ⟨⟨_, _, _, rfl, .inl (by decide)⟩, rfl⟩
  | true =>
    focus (
 (refine W.cF rfl ?_)
 (refine W.skip (N.seq (W.seq (W.seq (W.region (Jx.move rfl rfl (Jx.eqlS rfl rfl rfl (J.nil (N.seq (W.cF rfl ?_))))))))))
 (refine W.skip (N.seq (W.seq (W.region (Jx.move rfl rfl (Jx.fieldAddr rfl rfl ?_))))))
 (refine Jx.load rfl 0 rfl rfl rfl ?_)
 (refine Jx.move rfl rfl ?_)
 (refine J.call (Lc := []) cu rfl (evs_args rfl) rfl ?_; rintro _ _ ⟨rfl, rfl⟩; rw [List.nil_append])
 (refine Jx.move rfl rfl ?_)
 (refine J.call (Lc := []) co rfl (evs_args rfl) rfl ?_; rintro _ _ ⟨rfl, rfl⟩; rw [List.nil_append])
 (refine Jx.buildB rfl rfl rfl rfl rfl ?_)
 (refine J.boxAg (d := 47) rfl rfl ?_; intro p13)
 (refine Jx.assign rfl rfl (J.nil (N.seq (W.seq (W.region (Jx.move rfl rfl (Jx.move rfl rfl (Jx.nilCheck rfl rfl ?_))))))))
 (refine Jx.fieldAddr rfl rfl ?_)
 (refine Jx.load rfl 0 rfl rfl rfl ?_)
 (refine J.call (Lc := []) co2 rfl (evs_args rfl) rfl ?_; rintro _ _ ⟨rfl, rfl⟩; rw [List.nil_append])
 (refine Jx.nilCheck rfl rfl ?_)
 (refine Jx.fieldAddr rfl rfl ?_)
 (refine J.st 0 rfl rfl rfl rfl rfl rfl ?_)
 (refine J.nil (N.seq (W.seq (W.region (Jx.fieldAddr rfl rfl ?_)))))
 (refine Jx.load rfl 1 rfl rfl rfl ?_)
 (refine J.alloc (d := 14) (by simp only [List.map_cons, List.map_nil]; rfl) rfl rfl ?_; intro p14)
 (refine J.st 0 rfl rfl rfl rfl rfl rfl ?_)
 (refine J.nil (N.seq (W.seq (W.region ?_))))
 (refine Jx.makeFunc (us := []) (vs := [.pointer (some ⟨p14, 0, none⟩)]) .nil (evs_args rfl) (fun _ => rfl) rfl ?_; refine J.rowNil tIt 2 (elOf itC it0 []) ?_)
 (refine Jx.assign rfl rfl (J.nil (N.seq (W.seq (W.seq ?_)))))
 (refine W.draw follows ?_)
 (refine JD.begin 20 rfl ?_; refine JP.more [0, 1, 2] _ rfl (by decide +kernel) ?_)
 (refine Cx.move rfl rfl ?_)
 (refine Cx.move rfl rfl ?_)
 (refine Cx.move rfl rfl ?_)
 (refine SegC.nil ?_)
 (focus (refine JP.callP (idx := [0, 1, 2]) 3 [59, 60, 61] [0, 1, 2, 3] [] (ct p13 p14) (perm_own _ _ _ _) (by decide +kernel) rfl ?_ (evs_args rfl) rfl ?_; rotate_left); rintro _ _ ⟨v3, rfl, rfl⟩; simp only [List.cons_append, List.nil_append]; refine JP.freezeCell 1 0 4 rfl rfl rfl hmx rfl ?_; refine JP.more [4, 5, 6, 7, 8, 9, 10, 11, 12, 13, 14, 15, 16, 17, 18, 19] _ rfl (by decide +kernel) ?_)
 (refine Cx.not rfl rfl ?_)
 (refine Cx.move rfl rfl ?_)
 (refine SegC.gY rfl rfl rfl ?_)
 (refine Cx.load rfl 1 rfl rfl rfl ?_)
 (refine SegC.gY rfl rfl rfl ?_)
 (refine Cx.lenSl rfl rfl ?_)
 (refine SegC.gY rfl rfl rfl ?_)
 (refine Cx.gtrI rfl rfl rfl ?_)
 (refine Cx.pickF rfl (by first | rfl | assumption | (exact decide_eq_true (by first | assumption | omega | rfl)) | (exact decide_eq_false (by first | assumption | omega | rfl)) | (simp; done) | (simp; omega)) rfl rfl ?_)
 (refine Cx.move rfl rfl ?_)
 (refine SegC.gY rfl rfl rfl ?_)
 (refine Cx.move rfl rfl ?_)
 (refine SegC.gY rfl rfl rfl ?_)
 (refine Cx.nilCheck rfl rfl ?_)
 (refine SegC.gY rfl rfl rfl ?_)
 (refine Cx.fieldAddr rfl rfl ?_)
 (refine SegC.gY rfl rfl rfl ?_)
 (refine Cx.load rfl 0 rfl rfl rfl ?_)
 (refine SegC.gY rfl rfl rfl ?_)
 (refine Cx.fieldAddr rfl rfl ?_)
 (refine SegC.gY rfl rfl rfl ?_)
 (refine Cx.load rfl 2 rfl rfl rfl ?_)
 (refine SegC.gY rfl rfl rfl ?_)
 (refine SegC.q (Qs.call (Lc := []) (ce) (fun s L' h => h) (List.Perm.refl _) (evs_args rfl)) rfl ?_)
 (refine SegC.gY rfl rfl rfl ?_)
 (refine Cx.not rfl rfl ?_)
 (refine Cx.pickF rfl (by first | rfl | assumption | (exact decide_eq_true (by first | assumption | omega | rfl)) | (exact decide_eq_false (by first | assumption | omega | rfl)) | (simp; done) | (simp; omega)) rfl rfl ?_)
 (refine SegC.nil ?_)
 (refine JP.tail (idx := [4, 5, 6, 7, 8, 9, 10, 11, 12, 13, 14, 15, 16, 17, 18, 19]) 20 (by decide +kernel) (by decide +kernel) rfl rfl ?_ ?_)
 (refine Cx.not rfl rfl ?_)
 (refine Cx.move rfl rfl ?_)
 (refine SegC.gY rfl rfl rfl ?_)
 (refine Cx.load rfl 1 rfl rfl rfl ?_)
 (refine SegC.gY rfl rfl rfl ?_)
 (refine Cx.lenSl rfl rfl ?_)
 (refine SegC.gY rfl rfl rfl ?_)
 (refine Cx.gtrI rfl rfl rfl ?_)
 (refine Cx.pickF rfl (by first | rfl | assumption | (exact decide_eq_true (by first | assumption | omega | rfl)) | (exact decide_eq_false (by first | assumption | omega | rfl)) | (simp; done) | (simp; omega)) rfl rfl ?_)
 (refine Cx.move rfl rfl ?_)
 (refine SegC.gY rfl rfl rfl ?_)
 (refine Cx.move rfl rfl ?_)
 (refine SegC.gY rfl rfl rfl ?_)
 (refine Cx.nilCheck rfl rfl ?_)
 (refine SegC.gY rfl rfl rfl ?_)
 (refine Cx.fieldAddr rfl rfl ?_)
 (refine SegC.gY rfl rfl rfl ?_)
 (refine Cx.load rfl 0 rfl rfl rfl ?_)
 (refine SegC.gY rfl rfl rfl ?_)
 (refine Cx.fieldAddr rfl rfl ?_)
 (refine SegC.gY rfl rfl rfl ?_)
 (refine Cx.load rfl 2 rfl rfl rfl ?_)
 (refine SegC.gY rfl rfl rfl ?_)
 (refine SegC.q (Qs.call (Lc := []) (ce) (fun s L' h => h) (List.Perm.refl _) (evs_args rfl)) rfl ?_)
 (refine SegC.gY rfl rfl rfl ?_)
 (refine Cx.not rfl rfl ?_)
 (refine Cx.pickF rfl (by first | rfl | assumption | (exact decide_eq_true (by first | assumption | omega | rfl)) | (exact decide_eq_false (by first | assumption | omega | rfl)) | (simp; done) | (simp; omega)) rfl rfl ?_)
 (refine SegC.nil ?_)
 (refine Ag.cons rfl ?_)
 (refine Ag.cons rfl ?_)
 (refine Ag.cons rfl ?_)
 (refine Ag.cons rfl ?_)
 (refine Ag.cons rfl ?_)
 (refine Ag.cons rfl ?_)
 (refine Ag.cons rfl ?_)
 (refine Ag.cons rfl ?_)
 (refine Ag.cons rfl ?_)
 (refine Ag.cons rfl ?_)
 (refine Ag.cons rfl ?_)
 (refine Ag.cons rfl ?_)
 (refine Ag.cons rfl ?_)
 (refine Ag.cons rfl ?_)
 (refine Ag.cons rfl ?_)
 (refine Ag.cons rfl ?_)
 (refine Ag.nil)
 (refine J.nil (N.seq (W.cF rfl ?_)))
 (refine W.skip (N.seq (W.seq ?_)))
 (refine W.draw follows ?_)
 (refine JD.calm rfl (by decide +kernel) ?_)
 (refine Cx.move rfl rfl ?_)
 (refine Cx.nilCheck rfl rfl ?_)
 (refine Cx.fieldAddr rfl rfl ?_)
 (refine Cx.load rfl 0 rfl rfl rfl ?_)
 (refine Cx.fieldAddr rfl rfl ?_)
 (refine Cx.load rfl 2 rfl rfl rfl ?_)
 (refine Cx.assign rfl rfl ?_)
 (refine Cx.assign rfl rfl ?_)
 (refine Cx.assign rfl rfl ?_)
 (refine SegC.nil ?_)
 (refine N.seq (W.ret ?_))
 (refine id ?_; rotate_left)
 (refine Cx.move rfl rfl ?_)
 (refine Cx.move rfl rfl ?_)
 (refine Cx.move rfl rfl ?_)
 (refine SegC.nil ?_)
 (refine Ag.cons rfl ?_)
 (refine Ag.cons rfl ?_)
 (refine Ag.cons rfl ?_)
 (refine Ag.nil))
    exact N.retD (rs := [.tmp 10, .tmp 11, .tmp 12]) (L1 := []) rfl (.tmp rfl (.tmp rfl (.tmp rfl .nil))) (List.nil_sublist _) ⟨⟨_, _, _, rfl, .inr (.inr ⟨by trivial, h3, by trivial, by trivial, by trivial⟩)⟩, by trivial⟩
end Go.Proofs.YtaflklbmdbmjbaaGreatDoor
namespace Go.Proofs.YtaflklbmdbmjbaaGreatDoor
open Go Go.Sse
set_option linter.unusedVariables false
set_option linter.unusedSimpArgs false
set_option maxRecDepth 10000
theorem getD_memT {α : Type} {l : List α} {d : α} {i : Nat} (h : i < l.length) : l.getD i d ∈ l := by
  rw [List.getD_eq_getElem?_getD, List.getElem?_eq_getElem h]; exact List.getElem_mem _
theorem map_takeT {α β : Type} (f : α → β) (d : α) (l : List α) (i : Nat) (h : i < l.length) : (l.take i).map f ++ [f (l.getD i d)] = (l.take (i + 1)).map f := by
  rw [List.take_add_one, List.getElem?_eq_getElem h, List.getD_eq_getElem?_getD, List.getElem?_eq_getElem h]
  simp only [List.map_append, Option.toList_some, List.map_cons, List.map_nil, Option.getD_some]
def clashB (tag : Nat) (l : List (List UInt8)) (i k : Nat) : Bool := decide (sumD tag (l.getD i []) = sumD tag (l.getD k [])) && decide (l.getD i [] ≠ l.getD k [])
set_option maxHeartbeats 8000000 in
theorem unlike_ok (tag : Nat) (l : List (List UInt8)) (hl : l.length ≤ 1000) (hs : ∀ s ∈ l, s.length ≤ 1000000) : FnC Tryz.prog 8 [int (tag : Int), ssl l] [] (fun v L => (∃ r, v = bool r ∧ (r = true ↔ ∃ i k, k < i ∧ i < l.length ∧ clashB tag l i k = true)) ∧ L = []) := by
  refine FnC.intro Tryz.func8 rfl Tryz.ntmps8 rfl fun Z w0 hG => ?_
  focus (
 (refine W.seq (W.region (Jx.assign rfl rfl (J.nil (N.seq (W.seq (W.region (Jx.assign rfl rfl (J.nil (N.seq (W.seq (W.seq (W.region (Jx.assign rfl rfl ?_))))))))))))))
 (refine J.nil (N.seq (W.block ?_)))
 (refine id ?_; rotate_left))
  refine W.rowNil 9 1 (elOf (fun a => [str a]) [] []) ?_
  refine W.loop (α := Nat × Value) (fun x => [(6, int (x.1 : Int)), (1, ssl l), (0, int (tag : Int)), (5, .val x.2)]) (fun x => [.row x.2 9 1 ((l.take x.1).map (sumD tag)).length (elOf (fun a => [str a]) [] ((l.take x.1).map (sumD tag)))]) (fun x => x.1 ≤ l.length) (fun x => l.length - x.1) (0, .slice none 0 0) (by simp) (by simp) ⟨ref0 rfl, ref0 rfl, ref0 rfl, ref0 rfl, trivial⟩ ?_
  rintro ⟨i, u⟩ hi
  simp only at hi ⊢
  by_cases h1 : i < l.length
  · have c1 := rtagged_ok tag (l.getD i []) (by have := hs _ (getD_memT (d := []) h1); omega)
    have hti := map_takeT (sumD tag) [] l i h1
    have hlen : ((l.take i).map (sumD tag)).length ≤ 1000 := by rw [List.length_map, List.length_take]; omega
    have hmx : ((l.take i).map (sumD tag)).length + [sumD tag (l.getD i [])].length ≤ maxLen ∧ (((l.take i).map (sumD tag)).length + [sumD tag (l.getD i [])].length) * 16 ≤ 140737488355328 := by simp only [maxLen, List.length_cons, List.length_nil]; omega
    generalize sumD tag (l.getD i []) = e at *
    focus (
 (refine W.seq (W.seq (W.region (Jx.move rfl rfl (Jx.move rfl rfl (Jx.lenSl rfl rfl ?_))))))
 (refine Jx.lssI rfl rfl rfl (J.nil (N.seq (W.cT rfl ?_))))
 (refine W.skip (N.seq (W.seq (W.block (W.region (Jx.move rfl rfl (Jx.move rfl rfl (Jx.move rfl rfl (Jx.move rfl rfl (Jx.indexEl rfl rfl (by assumption) rfl rfl ?_))))))))))
 (refine Jx.loadPP rfl rfl ?_)
 (refine J.cP c1 (evs_args rfl) rfl ?_; try simp only)
 (refine J.qs (Qs.buildTexts [e] rfl rfl rfl (by decide) (by decide)) rfl ?_)
 (refine J.appendAt (l := (l.take i).map (sumD tag)) (l2 := [e]) 0 rfl rfl (SrcOK.sl rfl) rfl rfl hmx rfl ?_; intro v2 hv2)
 (refine Jx.assign rfl rfl (J.nil (N.seq (W.region (Jx.move rfl rfl (Jx.add64 rfl rfl (by omega) rfl ?_))))))
 (refine Jx.assign rfl rfl (J.nil ?_))
 (refine id ?_; rotate_left))
    exact N.round (i + 1, v2) h1 (by simp only; omega) (by rw [hti]; rfl) ⟨ref0 rfl, ref0 rfl, ref0 rfl, ref0 rfl, trivial⟩
  · have hil : i = l.length := by omega
    subst hil
    rw [List.take_length]
    refine W.freezeAt 0 5 rfl rfl (by rw [List.length_map]; simp only [maxLen]; omega) ?_
    have hsl : (l.map (sumD tag)).length = l.length := by simp
    have hsg : ∀ i, i < l.length → (l.map (sumD tag)).getD i [] = sumD tag (l.getD i []) := fun i hi => by
      simp [List.getD_eq_getElem?_getD, hi]
    generalize l.map (sumD tag) = sums at *
    focus (
 (refine W.seq (W.seq (W.region (Jx.move rfl rfl (Jx.move rfl rfl (Jx.lenSl rfl rfl ?_))))))
 (refine Jx.lssI rfl rfl rfl (J.nil (N.seq (W.cF rfl ?_))))
 (refine W.exit (N.seq (W.seq (W.seq (W.region (Jx.assign rfl rfl (J.nil (N.seq (W.block ?_)))))))))
 (refine id ?_; rotate_left))
    refine W.loop (α := Nat) (fun i => [(7, int (i : Int)), (5, ssl sums), (1, ssl l)]) (fun _ => []) (fun i => i ≤ l.length ∧ ∀ a k, k < a → a < i → clashB tag l a k = false) (fun i => l.length - i) 0 ⟨by omega, fun a k _ h => by omega⟩ rfl ⟨ref0 rfl, ref0 rfl, ref0 rfl, trivial⟩ ?_
    rintro i ⟨hi, hn⟩
    by_cases h2 : i < l.length
    · have h2' : i < sums.length := by omega
      focus (
 (refine W.seq (W.seq (W.region (Jx.move rfl rfl (Jx.move rfl rfl (Jx.lenSl rfl rfl ?_))))))
 (refine Jx.lssI rfl rfl rfl (J.nil (N.seq (W.cT rfl ?_))))
 (refine W.skip (N.seq (W.seq (W.block (W.seq (W.region (Jx.assign rfl rfl (J.nil (N.seq (W.block ?_))))))))))
 (refine id ?_; rotate_left))
      refine W.loop (α := Nat) (fun k => [(8, int (k : Int)), (7, int (i : Int)), (5, ssl sums), (1, ssl l)]) (fun _ => []) (fun k => k ≤ i ∧ ∀ k', k' < k → clashB tag l i k' = false) (fun k => i - k) 0 ⟨by omega, fun k' h => by omega⟩ rfl ⟨ref0 rfl, ref0 rfl, ref0 rfl, ref0 rfl, trivial⟩ ?_
      rintro k ⟨hk, hnk⟩
      by_cases h3 : k < i
      · have hk1 : k < l.length := by omega
        have hk2 : k < sums.length := by omega
        have hci := hsg i h2
        have hck := hsg k hk1
        by_cases he : sums.getD i [] = sums.getD k []
        · by_cases hne : l.getD i [] = l.getD k []
          · have hcl : clashB tag l i k = false := by rw [clashB, show decide (l.getD i [] ≠ l.getD k []) = false from decide_eq_false (fun h => h hne), Bool.and_false]
            have hne' : ¬ l.getD i [] ≠ l.getD k [] := fun h => h hne
            focus (
 (refine W.seq (W.seq (W.region (Jx.move rfl rfl (Jx.move rfl rfl (Jx.lssI rfl rfl rfl (J.nil (N.seq (W.cT rfl ?_)))))))))
 (refine W.skip (N.seq (W.seq (W.block (W.seq ?_)))))
 (refine W.draw follows ?_)
 (refine JD.calm rfl (by decide +kernel) ?_)
 (refine Cx.move rfl rfl ?_)
 (refine Cx.move rfl rfl ?_)
 (refine Cx.indexEl rfl rfl (by assumption) rfl rfl ?_)
 (refine Cx.loadPP rfl rfl ?_)
 (refine Cx.move rfl rfl ?_)
 (refine Cx.move rfl rfl ?_)
 (refine Cx.indexEl rfl rfl (by assumption) rfl rfl ?_)
 (refine Cx.loadPP rfl rfl ?_)
 (refine Cx.eqlS rfl rfl rfl ?_)
 (refine Cx.move rfl rfl ?_)
 (refine SegC.gY rfl rfl rfl ?_)
 (refine Cx.move rfl rfl ?_)
 (refine SegC.gY rfl rfl rfl ?_)
 (refine Cx.move rfl rfl ?_)
 (refine SegC.gY rfl rfl rfl ?_)
 (refine Cx.indexEl rfl rfl (by assumption) rfl rfl ?_)
 (refine SegC.gY rfl rfl rfl ?_)
 (refine Cx.loadPP rfl rfl ?_)
 (refine SegC.gY rfl rfl rfl ?_)
 (refine Cx.move rfl rfl ?_)
 (refine SegC.gY rfl rfl rfl ?_)
 (refine Cx.move rfl rfl ?_)
 (refine SegC.gY rfl rfl rfl ?_)
 (refine Cx.indexEl rfl rfl (by assumption) rfl rfl ?_)
 (refine SegC.gY rfl rfl rfl ?_)
 (refine Cx.loadPP rfl rfl ?_)
 (refine SegC.gY rfl rfl rfl ?_)
 (refine Cx.neqS rfl rfl rfl ?_)
 (refine Cx.pickT rfl (by first | rfl | assumption | (exact decide_eq_true (by first | assumption | omega | rfl)) | (exact decide_eq_false (by first | assumption | omega | rfl)) | (simp; done) | (simp; omega)) rfl rfl ?_)
 (refine SegC.nil ?_)
 (refine N.seq (W.cF rfl ?_))
 (refine W.skip (N.seq (W.region (Jx.move rfl rfl (Jx.add64 rfl rfl (by omega) rfl ?_)))))
 (refine Jx.assign rfl rfl (J.nil ?_))
 (refine id ?_; rotate_left))
            exact N.round (k + 1) ⟨h3, fun k' h => by rcases Nat.lt_or_ge k' k with h4 | h4; exact hnk k' h4; obtain rfl : k' = k := (by omega); exact hcl⟩ (by omega) rfl ⟨ref0 rfl, ref0 rfl, ref0 rfl, ref0 rfl, trivial⟩
          · have hcl : clashB tag l i k = true := by rw [clashB, ← hci, ← hck, decide_eq_true he, decide_eq_true hne]; rfl
            focus (
 (refine W.seq (W.seq (W.region (Jx.move rfl rfl (Jx.move rfl rfl (Jx.lssI rfl rfl rfl (J.nil (N.seq (W.cT rfl ?_)))))))))
 (refine W.skip (N.seq (W.seq (W.block (W.seq ?_)))))
 (refine W.draw follows ?_)
 (refine JD.calm rfl (by decide +kernel) ?_)
 (refine Cx.move rfl rfl ?_)
 (refine Cx.move rfl rfl ?_)
 (refine Cx.indexEl rfl rfl (by assumption) rfl rfl ?_)
 (refine Cx.loadPP rfl rfl ?_)
 (refine Cx.move rfl rfl ?_)
 (refine Cx.move rfl rfl ?_)
 (refine Cx.indexEl rfl rfl (by assumption) rfl rfl ?_)
 (refine Cx.loadPP rfl rfl ?_)
 (refine Cx.eqlS rfl rfl rfl ?_)
 (refine Cx.move rfl rfl ?_)
 (refine SegC.gY rfl rfl rfl ?_)
 (refine Cx.move rfl rfl ?_)
 (refine SegC.gY rfl rfl rfl ?_)
 (refine Cx.move rfl rfl ?_)
 (refine SegC.gY rfl rfl rfl ?_)
 (refine Cx.indexEl rfl rfl (by assumption) rfl rfl ?_)
 (refine SegC.gY rfl rfl rfl ?_)
 (refine Cx.loadPP rfl rfl ?_)
 (refine SegC.gY rfl rfl rfl ?_)
 (refine Cx.move rfl rfl ?_)
 (refine SegC.gY rfl rfl rfl ?_)
 (refine Cx.move rfl rfl ?_)
 (refine SegC.gY rfl rfl rfl ?_)
 (refine Cx.indexEl rfl rfl (by assumption) rfl rfl ?_)
 (refine SegC.gY rfl rfl rfl ?_)
 (refine Cx.loadPP rfl rfl ?_)
 (refine SegC.gY rfl rfl rfl ?_)
 (refine Cx.neqS rfl rfl rfl ?_)
 (refine Cx.pickT rfl (by first | rfl | assumption | (exact decide_eq_true (by first | assumption | omega | rfl)) | (exact decide_eq_false (by first | assumption | omega | rfl)) | (simp; done) | (simp; omega)) rfl rfl ?_)
 (refine SegC.nil ?_)
 (refine N.seq (W.cT rfl ?_))
 (refine W.seq (W.region (Jx.assign rfl rfl (J.nil (N.seq (W.ret (N.noGotoRet (N.noGotoRet (N.noGotoRet (N.noGotoRet (N.noGotoRet (N.noGotoRet (N.noGotoRet (N.noGotoRet ?_))))))))))))))
 (refine N.noGotoRet ?_)
 (refine id ?_; rotate_left))
            exact N.retD (rs := [.tmp 4]) (L1 := []) rfl (.tmp rfl .nil) (List.nil_sublist _) ⟨⟨true, rfl, fun _ => ⟨i, k, h3, h2, hcl⟩, fun _ => rfl⟩, rfl⟩
        · have hcl : clashB tag l i k = false := by rw [clashB, ← hci, ← hck, decide_eq_false he]; rfl
          focus (
 (refine W.seq (W.seq (W.region (Jx.move rfl rfl (Jx.move rfl rfl (Jx.lssI rfl rfl rfl (J.nil (N.seq (W.cT rfl ?_)))))))))
 (refine W.skip (N.seq (W.seq (W.block (W.seq ?_)))))
 (refine W.draw follows ?_)
 (refine JD.calm rfl (by decide +kernel) ?_)
 (refine Cx.move rfl rfl ?_)
 (refine Cx.move rfl rfl ?_)
 (refine Cx.indexEl rfl rfl (by assumption) rfl rfl ?_)
 (refine Cx.loadPP rfl rfl ?_)
 (refine Cx.move rfl rfl ?_)
 (refine Cx.move rfl rfl ?_)
 (refine Cx.indexEl rfl rfl (by assumption) rfl rfl ?_)
 (refine Cx.loadPP rfl rfl ?_)
 (refine Cx.eqlS rfl rfl rfl ?_)
 (refine Cx.move rfl rfl ?_)
 (refine SegC.gU rfl rfl rfl rfl ?_)
 (refine SegC.gU rfl rfl rfl rfl ?_)
 (refine SegC.gU rfl rfl rfl rfl ?_)
 (refine SegC.gU rfl rfl rfl rfl ?_)
 (refine SegC.gU rfl rfl rfl rfl ?_)
 (refine SegC.gU rfl rfl rfl rfl ?_)
 (refine SegC.gU rfl rfl rfl rfl ?_)
 (refine SegC.gU rfl rfl rfl rfl ?_)
 (refine SegC.gU rfl rfl rfl rfl ?_)
 (refine Cx.pickF rfl (by first | rfl | assumption | (exact decide_eq_true (by first | assumption | omega | rfl)) | (exact decide_eq_false (by first | assumption | omega | rfl)) | (simp; done) | (simp; omega)) rfl rfl ?_)
 (refine SegC.nil ?_)
 (refine N.seq (W.cF rfl ?_))
 (refine W.skip (N.seq (W.region (Jx.move rfl rfl (Jx.add64 rfl rfl (by omega) rfl ?_)))))
 (refine Jx.assign rfl rfl (J.nil ?_))
 (refine id ?_; rotate_left))
          exact N.round (k + 1) ⟨h3, fun k' h => by rcases Nat.lt_or_ge k' k with h4 | h4; exact hnk k' h4; obtain rfl : k' = k := (by omega); exact hcl⟩ (by omega) rfl ⟨ref0 rfl, ref0 rfl, ref0 rfl, ref0 rfl, trivial⟩
      · focus (
 (refine W.seq (W.seq (W.region (Jx.move rfl rfl (Jx.move rfl rfl (Jx.lssI rfl rfl rfl (J.nil (N.seq (W.cF rfl ?_)))))))))
 (refine W.exit (N.seq (W.region (Jx.move rfl rfl (Jx.add64 rfl rfl (by omega) rfl ?_)))))
 (refine Jx.assign rfl rfl (J.nil ?_))
 (refine id ?_; rotate_left))
        exact N.round (i + 1) ⟨h2, fun a k' h4 h5 => by rcases Nat.lt_or_ge a i with h6 | h6; exact hn a k' h4 h6; obtain rfl : a = i := (by omega); exact hnk k' (by omega)⟩ (by omega) rfl ⟨ref0 rfl, ref0 rfl, ref0 rfl, trivial⟩
    · focus (
 (refine W.seq (W.seq (W.region (Jx.move rfl rfl (Jx.move rfl rfl (Jx.lenSl rfl rfl ?_))))))
 (refine Jx.lssI rfl rfl rfl (J.nil (N.seq (W.cF rfl ?_))))
 (refine W.exit (N.seq (W.seq (W.region (Jx.assign rfl rfl (J.nil (N.seq (W.ret ?_))))))))
 (refine id ?_; rotate_left))
      refine N.retD (rs := [.tmp 4]) (L1 := []) rfl (.tmp rfl .nil) (List.nil_sublist _) ⟨⟨false, rfl, ⟨fun h => (by cases h), ?_⟩⟩, rfl⟩
      rintro ⟨a, k, h3, h4, h5⟩
      rw [hn a k h3 (by omega)] at h5; cases h5
def clashes (l : List Bs) : Prop := ∃ i k, k < i ∧ i < l.length ∧ clashB 1 l i k = true
theorem no_clash {a b : List Bs} (h : ¬ clashes (a ++ b)) : ∀ t ∈ a, ∀ u ∈ b, sumD 1 t = sumD 1 u → t = u := by
  intro t ht u hu he
  apply Classical.byContradiction
  intro hne
  obtain ⟨k, hk, hk2⟩ := List.getElem_of_mem ht
  obtain ⟨i, hi, hi2⟩ := List.getElem_of_mem hu
  have e1 : (a ++ b).getD (a.length + i) [] = u := by
    rw [List.getD_eq_getElem?_getD, List.getElem?_append_right (by omega), Nat.add_sub_cancel_left, List.getElem?_eq_getElem hi, hi2]; rfl
  have e2 : (a ++ b).getD k [] = t := by
    rw [List.getD_eq_getElem?_getD, List.getElem?_append_left hk, List.getElem?_eq_getElem hk, hk2]; rfl
  refine h ⟨a.length + i, k, by omega, by rw [List.length_append]; omega, ?_⟩
  unfold clashB
  rw [e1, e2]
  simp only [Bool.and_eq_true, decide_eq_true_eq]
  exact ⟨he.symm, fun hh => hne hh.symm⟩
open Classical in
theorem unlikes_ok (l : List Bs) (hl : l.length ≤ 1000) (hs : ∀ s ∈ l, s.length ≤ 1000000) : FnC Tryz.prog 8 [int 1, ssl l] [] (fun r L => (∃ q, r = Sse.bool q ∧ (clashes l → q = true)) ∧ L = []) := by
  refine (unlike_ok 1 l hl hs).mono ?_
  rintro v L ⟨⟨r, rfl, hr⟩, rfl⟩
  exact ⟨⟨r, rfl, fun h => hr.2 h⟩, rfl⟩
theorem shown_agree {root key lo hi v : Bs} {nodes pnodes : List Bs} {items : List It} (h : ¬ clashes (nodes ++ pnodes)) (hr : inR lo hi key) (hk0 : key ≠ []) (hk8 : key.length ≤ 8)
    (hf : folP root (ofN key) nodes = (v, nodes.length, true)) (hg : gatN lo hi (pnodes.length + 1) root [] ⟨pnodes, []⟩ = (true, ⟨[], items⟩)) :
    (v ≠ [] → (key, v) ∈ items) ∧ ∀ y ∈ items, y.1 = key → v ≠ [] ∧ y.2 = v := by
  obtain ⟨new, h1, h2, h3⟩ := point_range (sum := sumD 1) (dec := decN) (lo := lo) (hi := hi) decN_ok nodes pnodes (no_clash h) key hr hk0 (by rw [ofN_len]; omega) nodes root [] (ofN key) v (pnodes.length + 1) ⟨pnodes, []⟩ ⟨[], items⟩ (fun t ht => ht) (fun t ht => ht) rfl hf hg
  simp only [List.nil_append] at h1
  rw [h1]
  exact ⟨h2, h3⟩
end Go.Proofs.YtaflklbmdbmjbaaGreatDoor
