/-
  CodeBack.
-/
import Derived.Test.YtjlpknligekfeaaCodeI
namespace Go.Proofs.Ytjlpknligekfeaa
open Go Go.Sse
set_option linter.unusedVariables false
set_option linter.unusedSimpArgs false
set_option maxRecDepth 10000

theorem num_back (b : Nat) (s : List UInt8) (a n : Nat) (r : List UInt8) (h : Rdr.ok ⟨s, a, 0⟩) (hn : n < 9223372036854775808) (hs : s.drop a = numB n ++ r) :
    FnC Try.prog 9 [ptr b] [rdO b ⟨s, a, 0⟩] (fun v L => v = int (n : Int) ∧ L = [rdO b ⟨s, a + (numB n).length, 0⟩]) := by
  have e := readN_num n hn r
  have c := rnum_ok b ⟨s, a, 0⟩ h
  have e2 : Rdr.num ⟨s, a, 0⟩ = (n, ⟨s, a + (numB n).length, 0⟩) := by simp [Rdr.num, hs, e]
  rw [e2] at c
  exact c

def NB (l : List Int) : List UInt8 := (l.map fun n => numB n.toNat).flatten
theorem NB_take (l : List Int) (i : Nat) (h : i < l.length) : NB (l.take i) ++ numB (l.getD i 0).toNat = NB (l.take (i + 1)) := by
  rw [List.take_add_one, List.getElem?_eq_getElem h, List.getD_eq_getElem?_getD, List.getElem?_eq_getElem h]
  simp only [NB, Option.toList_some, Option.getD_some, List.map_append, List.map_cons, List.map_nil, List.flatten_append, List.flatten_cons, List.flatten_nil, List.append_nil]
theorem NB_rest (l : List Int) (i : Nat) (h : i < l.length) : NB (l.drop i) = numB (l.getD i 0).toNat ++ NB (l.drop (i + 1)) := by
  rw [List.drop_eq_getElem_cons h, List.getD_eq_getElem?_getD, List.getElem?_eq_getElem h]; rfl
theorem NB_split (l : List Int) (i : Nat) : NB l = NB (l.take i) ++ NB (l.drop i) := by
  rw [NB, NB, NB, ← List.flatten_append, ← List.map_append, List.take_append_drop]
theorem NB_len : ∀ {l : List Int}, (∀ n ∈ l, n ≤ 9223372036854775807) → (NB l).length ≤ 9 * l.length
  | [], _ => by simp [NB]
  | n :: l, h => by
    have h1 := NB_len (l := l) (fun m hm => h m (List.mem_cons_of_mem _ hm))
    have h2 := (numB_len (n := n.toNat) (by have := h n (List.mem_cons_self ..); omega)).2
    have : NB (n :: l) = numB n.toNat ++ NB l := rfl
    rw [this, List.length_append, List.length_cons]; omega
abbrev isl (l : List Int) : SV := .sl 1 l.length (elOf (fun n => [int n]) 0 l)
def TB (l : List (List UInt8)) : List UInt8 := (l.map textB).flatten
theorem flag_len (f : Bool) : (flagB f).length = 1 := by cases f <;> rfl

set_option maxHeartbeats 4000000 in
theorem codeBack_ok (ns : List Int) (hns : ∀ n ∈ ns, n ≤ 9223372036854775807) (l : List (List UInt8)) (f : Bool) : FnC Try.prog 6 [isl ns, ssl l, bool f] [] (fun s L => s = bool true ∧ L = []) := by
  have f1 := few_ok l 20 200 (by decide)
  refine FnC.intro Try.func6 rfl Try.ntmps6 rfl fun Z w0 hG => ?_
  by_cases hn30 : 30 < (ns.length : Int)
  · focus (
    (refine W.seq ?_)
    (refine W.region ?_)
    (refine Jx.assign rfl rfl ?_)
    (refine J.nil ?_)
    (refine N.seq ?_)
    (refine W.seq ?_)
    (refine W.seq ?_)
    (refine W.region ?_)
    (refine J.call (works_ok) rfl (evs_args rfl) rfl ?_; rintro _ _ ⟨rfl, rfl⟩; simp only [List.cons_append, List.nil_append, List.append_nil])
    (refine Jx.not rfl rfl ?_)
    (refine J.nil ?_)
    (refine N.seq ?_)
    (refine W.condF rfl (by first | rfl | assumption | (exact decide_eq_true (by first | assumption | omega | rfl)) | (exact decide_eq_false (by first | assumption | omega | rfl)) | (simp; done) | (simp; omega)) ?_)
    (refine W.skip ?_)
    (refine N.seq ?_)
    (refine W.seq ?_)
    (refine W.seq ?_)
    (refine W.region ?_)
    (refine Jx.move rfl rfl ?_)
    (refine Jx.lenSl rfl rfl ?_)
    (refine Jx.gtrI rfl rfl rfl ?_)
    (refine Jx.move rfl rfl ?_)
    (refine J.guardNoU rfl rfl rfl (by first | rfl | assumption | (exact decide_eq_true (by first | assumption | omega | rfl)) | (exact decide_eq_false (by first | assumption | omega | rfl)) | (simp; done) | (simp; omega)) rfl ?_)
    (refine J.guardNoU rfl rfl rfl (by first | rfl | assumption | (exact decide_eq_true (by first | assumption | omega | rfl)) | (exact decide_eq_false (by first | assumption | omega | rfl)) | (simp; done) | (simp; omega)) rfl ?_)
    (refine J.guardNoU rfl rfl rfl (by first | rfl | assumption | (exact decide_eq_true (by first | assumption | omega | rfl)) | (exact decide_eq_false (by first | assumption | omega | rfl)) | (simp; done) | (simp; omega)) rfl ?_)
    (refine Jx.pickT rfl (by first | rfl | assumption | (exact decide_eq_true (by first | assumption | omega | rfl)) | (exact decide_eq_false (by first | assumption | omega | rfl)) | (simp; done) | (simp; omega)) rfl rfl ?_)
    (refine J.nil ?_)
    (refine N.seq ?_)
    (refine W.condT rfl (by first | rfl | assumption | (exact decide_eq_true (by first | assumption | omega | rfl)) | (exact decide_eq_false (by first | assumption | omega | rfl)) | (simp; done) | (simp; omega)) ?_)
    (refine W.seq ?_)
    (refine W.region ?_)
    (refine Jx.assign rfl rfl ?_)
    (refine J.nil ?_)
    (refine N.seq ?_)
    (refine W.ret ?_)
    (refine N.seqRet ?_)
    (refine id ?_; rotate_left))
    exact N.ret (rs := [.tmp 6]) rfl (.tmp rfl .nil) ⟨rfl, rfl⟩
  · cases hf1 : fewB l 20 200 with
    | false =>
      rw [hf1] at f1
      focus (
    (refine W.seq ?_)
    (refine W.region ?_)
    (refine Jx.assign rfl rfl ?_)
    (refine J.nil ?_)
    (refine N.seq ?_)
    (refine W.seq ?_)
    (refine W.seq ?_)
    (refine W.region ?_)
    (refine J.call (works_ok) rfl (evs_args rfl) rfl ?_; rintro _ _ ⟨rfl, rfl⟩; simp only [List.cons_append, List.nil_append, List.append_nil])
    (refine Jx.not rfl rfl ?_)
    (refine J.nil ?_)
    (refine N.seq ?_)
    (refine W.condF rfl (by first | rfl | assumption | (exact decide_eq_true (by first | assumption | omega | rfl)) | (exact decide_eq_false (by first | assumption | omega | rfl)) | (simp; done) | (simp; omega)) ?_)
    (refine W.skip ?_)
    (refine N.seq ?_)
    (refine W.seq ?_)
    (refine W.seq ?_)
    (refine W.region ?_)
    (refine Jx.move rfl rfl ?_)
    (refine Jx.lenSl rfl rfl ?_)
    (refine Jx.gtrI rfl rfl rfl ?_)
    (refine Jx.move rfl rfl ?_)
    (refine J.guardYes rfl rfl rfl (by first | rfl | assumption | (exact decide_eq_true (by first | assumption | omega | rfl)) | (exact decide_eq_false (by first | assumption | omega | rfl)) | (simp; done) | (simp; omega)) ?_)
    (refine Jx.move rfl rfl ?_)
    (refine J.guardYes rfl rfl rfl (by first | rfl | assumption | (exact decide_eq_true (by first | assumption | omega | rfl)) | (exact decide_eq_false (by first | assumption | omega | rfl)) | (simp; done) | (simp; omega)) ?_)
    (refine J.call (f1) rfl (evs_args rfl) rfl ?_; rintro _ _ ⟨rfl, rfl⟩; simp only [List.cons_append, List.nil_append, List.append_nil])
    (refine J.guardYes rfl rfl rfl (by first | rfl | assumption | (exact decide_eq_true (by first | assumption | omega | rfl)) | (exact decide_eq_false (by first | assumption | omega | rfl)) | (simp; done) | (simp; omega)) ?_)
    (refine Jx.not rfl rfl ?_)
    (refine Jx.pickF rfl (by first | rfl | assumption | (exact decide_eq_true (by first | assumption | omega | rfl)) | (exact decide_eq_false (by first | assumption | omega | rfl)) | (simp; done) | (simp; omega)) rfl rfl ?_)
    (refine J.nil ?_)
    (refine N.seq ?_)
    (refine W.condT rfl (by first | rfl | assumption | (exact decide_eq_true (by first | assumption | omega | rfl)) | (exact decide_eq_false (by first | assumption | omega | rfl)) | (simp; done) | (simp; omega)) ?_)
    (refine W.seq ?_)
    (refine W.region ?_)
    (refine Jx.assign rfl rfl ?_)
    (refine J.nil ?_)
    (refine N.seq ?_)
    (refine W.ret ?_)
    (refine N.seqRet ?_)
    (refine id ?_; rotate_left))
      exact N.ret (rs := [.tmp 6]) rfl (.tmp rfl .nil) ⟨rfl, rfl⟩
    | true =>
      rw [hf1] at f1
      obtain ⟨hl1, he1⟩ := few_spec (n := 20) (e := 200) hf1
      have he2 : ∀ s ∈ l, s.length ≤ 1048576 := fun s hs => by have := he1 s hs; omega
      have hmem : ∀ i, i < ns.length → ns.getD i 0 ≤ 9223372036854775807 := fun i hi => by
        rw [List.getD_eq_getElem?_getD, List.getElem?_eq_getElem hi]; exact hns _ (List.getElem_mem _)
      have hmax : ∀ i, (if (0 : Int) > ns.getD i 0 then (0 : Int) else ns.getD i 0) = ((ns.getD i 0).toNat : Int) := fun i => by split <;> omega
      have hnb : ∀ i, (NB (ns.take i)).length ≤ 270 := fun i => by
        have := NB_len (l := ns.take i) (fun n hn => hns n (List.mem_of_mem_take hn))
        have := List.length_take_le i ns
        rw [List.length_take] at *; omega
      have hnb0 : (NB ns).length ≤ 270 := by have := NB_len hns; omega
      have hlb := listB_len he2 (by omega)
      have htb : ∀ i, (TB (l.take i)).length ≤ 1048585 * i := pre_len he2
      have hfl := flag_len f
      have c1 := list_ok l (by omega) he2
      have c2 := flag_ok f
      focus (
    (refine W.seq ?_)
    (refine W.region ?_)
    (refine Jx.assign rfl rfl ?_)
    (refine J.nil ?_)
    (refine N.seq ?_)
    (refine W.seq ?_)
    (refine W.seq ?_)
    (refine W.region ?_)
    (refine J.call (works_ok) rfl (evs_args rfl) rfl ?_; rintro _ _ ⟨rfl, rfl⟩; simp only [List.cons_append, List.nil_append, List.append_nil])
    (refine Jx.not rfl rfl ?_)
    (refine J.nil ?_)
    (refine N.seq ?_)
    (refine W.condF rfl (by first | rfl | assumption | (exact decide_eq_true (by first | assumption | omega | rfl)) | (exact decide_eq_false (by first | assumption | omega | rfl)) | (simp; done) | (simp; omega)) ?_)
    (refine W.skip ?_)
    (refine N.seq ?_)
    (refine W.seq ?_)
    (refine W.seq ?_)
    (refine W.region ?_)
    (refine Jx.move rfl rfl ?_)
    (refine Jx.lenSl rfl rfl ?_)
    (refine Jx.gtrI rfl rfl rfl ?_)
    (refine Jx.move rfl rfl ?_)
    (refine J.guardYes rfl rfl rfl (by first | rfl | assumption | (exact decide_eq_true (by first | assumption | omega | rfl)) | (exact decide_eq_false (by first | assumption | omega | rfl)) | (simp; done) | (simp; omega)) ?_)
    (refine Jx.move rfl rfl ?_)
    (refine J.guardYes rfl rfl rfl (by first | rfl | assumption | (exact decide_eq_true (by first | assumption | omega | rfl)) | (exact decide_eq_false (by first | assumption | omega | rfl)) | (simp; done) | (simp; omega)) ?_)
    (refine J.call (f1) rfl (evs_args rfl) rfl ?_; rintro _ _ ⟨rfl, rfl⟩; simp only [List.cons_append, List.nil_append, List.append_nil])
    (refine J.guardYes rfl rfl rfl (by first | rfl | assumption | (exact decide_eq_true (by first | assumption | omega | rfl)) | (exact decide_eq_false (by first | assumption | omega | rfl)) | (simp; done) | (simp; omega)) ?_)
    (refine Jx.not rfl rfl ?_)
    (refine Jx.pickF rfl (by first | rfl | assumption | (exact decide_eq_true (by first | assumption | omega | rfl)) | (exact decide_eq_false (by first | assumption | omega | rfl)) | (simp; done) | (simp; omega)) rfl rfl ?_)
    (refine J.nil ?_)
    (refine N.seq ?_)
    (refine W.condF rfl (by first | rfl | assumption | (exact decide_eq_true (by first | assumption | omega | rfl)) | (exact decide_eq_false (by first | assumption | omega | rfl)) | (simp; done) | (simp; omega)) ?_)
    (refine W.skip ?_)
    (refine N.seq ?_)
    (refine W.seq ?_)
    (refine W.region ?_)
    (refine Jx.assign rfl rfl ?_)
    (refine J.nil ?_)
    (refine N.seq ?_)
    (refine W.seq ?_)
    (refine W.seq ?_)
    (refine W.region ?_)
    (refine Jx.move rfl rfl ?_)
    (refine Jx.lenSl rfl rfl ?_)
    (refine Jx.move rfl rfl ?_)
    (refine J.nil ?_)
    (refine N.seq ?_)
    (refine W.block ?_)
    (refine id ?_; rotate_left))
      refine W.loop (α := Nat) (fun i => [(31, int (i : Int)), (30, int (ns.length : Int)), (29, isl ns), (7, str (NB (ns.take i))), (0, isl ns), (1, ssl l), (2, bool f)]) (fun _ => []) (fun i => i ≤ ns.length) (fun i => ns.length - i) 0 (by simp) rfl ⟨ref0 rfl, ref0 rfl, ref0 rfl, ref0 rfl, ref0 rfl, ref0 rfl, ref0 rfl, trivial⟩ ?_
      intro i hi
      by_cases h1 : i < ns.length
      · have hmi := hmem i h1
        have hmx := hmax i
        have c3 := Num_ok ((ns.getD i 0).toNat : Int) (by omega)
        rw [show numR ((ns.getD i 0).toNat : Int) = (numB (ns.getD i 0).toNat, 0) by simp only [numR]; rw [if_neg (by omega), Int.toNat_natCast]] at c3
        have hnl := (numB_len (n := (ns.getD i 0).toNat) (by omega)).2
        have htk := NB_take ns i h1
        have hbi := hnb i
        have hcat : (NB (ns.take i)).length + (numB (ns.getD i 0).toNat).length ≤ 9223372036854775807 := by omega
        generalize numB (ns.getD i 0).toNat = nb at *
        focus (
    (refine W.seq ?_)
    (refine W.region ?_)
    (refine Jx.lssI rfl rfl rfl ?_)
    (refine J.nil ?_)
    (refine N.seq ?_)
    (refine W.seq ?_)
    (refine W.condT rfl (by first | rfl | assumption | (exact decide_eq_true (by first | assumption | omega | rfl)) | (exact decide_eq_false (by first | assumption | omega | rfl)) | (simp; done) | (simp; omega)) ?_)
    (refine W.skip ?_)
    (refine N.seq ?_)
    (refine W.seq ?_)
    (refine W.block ?_)
    (refine W.seq ?_)
    (refine W.region ?_)
    (refine Jx.indexEl rfl rfl (by assumption) rfl rfl ?_)
    (refine Jx.loadPP rfl rfl ?_)
    (refine Jx.assign rfl rfl ?_)
    (refine J.nil ?_)
    (refine N.seq ?_)
    (refine W.seq ?_)
    (refine W.region ?_)
    (refine Jx.move rfl rfl ?_)
    (refine Jx.max rfl rfl rfl ?_; rw [hmx])
    (refine J.call (c3) rfl (evs_args rfl) rfl ?_; rintro _ _ ⟨rfl, rfl⟩; simp only [List.cons_append, List.nil_append, List.append_nil])
    (refine Jx.move rfl rfl ?_)
    (refine Jx.extract rfl rfl rfl ?_)
    (refine Jx.extract rfl rfl rfl ?_)
    (refine Jx.assign rfl rfl ?_)
    (refine Jx.assign rfl rfl ?_)
    (refine J.nil ?_)
    (refine N.seq ?_)
    (refine W.seq ?_)
    (refine W.seq ?_)
    (refine W.region ?_)
    (refine Jx.move rfl rfl ?_)
    (refine Jx.neqI rfl rfl rfl ?_)
    (refine J.nil ?_)
    (refine N.seq ?_)
    (refine W.condF rfl (by first | rfl | assumption | (exact decide_eq_true (by first | assumption | omega | rfl)) | (exact decide_eq_false (by first | assumption | omega | rfl)) | (simp; done) | (simp; omega)) ?_)
    (refine W.skip ?_)
    (refine N.seq ?_)
    (refine W.region ?_)
    (refine Jx.move rfl rfl ?_)
    (refine Jx.move rfl rfl ?_)
    (refine Jx.cat rfl rfl hcat rfl ?_)
    (refine Jx.assign rfl rfl ?_)
    (refine J.nil ?_)
    (refine N.seq ?_)
    (refine W.region ?_)
    (refine Jx.add64 rfl rfl (by omega) rfl ?_)
    (refine Jx.move rfl rfl ?_)
    (refine J.nil ?_)
    (refine id ?_; rotate_left))
        exact N.round (i + 1) h1 (by omega) rfl ⟨ref0 rfl, ref0 rfl, ref0 rfl, ⟨_, rfl, Sub.of_eq (by rw [htk])⟩, ref0 rfl, ref0 rfl, ref0 rfl, trivial⟩
      · have hin : i = ns.length := by omega
        subst hin
        rw [List.take_length]
        have hcat1 : (listB l).length + (flagB f).length ≤ 9223372036854775807 := by omega
        have hcat2 : (NB ns).length + (listB l ++ flagB f).length ≤ 9223372036854775807 := by rw [List.length_append]; omega
        have hs1l : (NB ns ++ (listB l ++ flagB f)).length = (NB ns).length + (listB l).length + 1 := by simp only [List.length_append]; omega
        focus (
    (refine W.seq ?_)
    (refine W.region ?_)
    (refine Jx.lssI rfl rfl rfl ?_)
    (refine J.nil ?_)
    (refine N.seq ?_)
    (refine W.seq ?_)
    (refine W.condF rfl (by first | rfl | assumption | (exact decide_eq_true (by first | assumption | omega | rfl)) | (exact decide_eq_false (by first | assumption | omega | rfl)) | (simp; done) | (simp; omega)) ?_)
    (refine W.exit ?_)
    (refine N.seq ?_)
    (refine W.seq ?_)
    (refine W.region ?_)
    (refine Jx.move rfl rfl ?_)
    (refine Jx.move rfl rfl ?_)
    (refine J.call (c1) rfl (evs_args rfl) rfl ?_; rintro _ _ ⟨rfl, rfl⟩; simp only [List.cons_append, List.nil_append, List.append_nil])
    (refine Jx.move rfl rfl ?_)
    (refine J.call (c2) rfl (evs_args rfl) rfl ?_; rintro _ _ ⟨rfl, rfl⟩; simp only [List.cons_append, List.nil_append, List.append_nil])
    (refine Jx.cat rfl rfl hcat1 rfl ?_)
    (refine Jx.cat rfl rfl hcat2 rfl ?_)
    (refine Jx.assign rfl rfl ?_)
    (refine J.nil ?_)
    (refine N.seq ?_)
    (refine W.seq ?_)
    (refine W.seq ?_)
    (refine W.region ?_)
    (refine Jx.move rfl rfl ?_)
    (refine Jx.lenSl rfl rfl ?_)
    (refine Jx.move rfl rfl ?_)
    (refine J.nil ?_)
    (refine N.seq ?_)
    (refine W.block ?_)
    (refine id ?_; rotate_left))
        refine W.loop (α := Nat) (fun i => [(56, int (i : Int)), (55, int (l.length : Int)), (54, ssl l), (7, str (NB ns ++ (listB l ++ flagB f) ++ TB (l.take i))), (0, isl ns), (1, ssl l), (2, bool f)]) (fun _ => []) (fun i => i ≤ l.length) (fun i => l.length - i) 0 (by simp) rfl ⟨ref0 rfl, ref0 rfl, ref0 rfl, ⟨_, rfl, Sub.of_eq (by simp [TB])⟩, ref0 rfl, ref0 rfl, ref0 rfl, trivial⟩ ?_
        intro i hi
        by_cases h2 : i < l.length
        · have hti : (l.getD i []).length ≤ 200 := by
            rw [List.getD_eq_getElem?_getD, List.getElem?_eq_getElem h2]; exact he1 _ (List.getElem_mem _)
          have c4 := text_ok (l.getD i []) (by omega)
          have htk := list_take i h2
          have hb1 := htb i; have hb2 := htb (i + 1)
          have e2 : TB (l.take (i + 1)) = TB (l.take i) ++ textB (l.getD i []) := htk.symm
          have hcat3 : (NB ns ++ (listB l ++ flagB f) ++ TB (l.take i)).length + (textB (l.getD i [])).length ≤ 9223372036854775807 := by
            rw [e2, List.length_append] at hb2; rw [List.length_append, hs1l]; omega
          have hfin : NB ns ++ (listB l ++ flagB f) ++ TB (l.take i) ++ textB (l.getD i []) = NB ns ++ (listB l ++ flagB f) ++ TB (l.take (i + 1)) := by rw [e2]; simp only [List.append_assoc]
          generalize NB ns ++ (listB l ++ flagB f) ++ TB (l.take i) = acc at *
          generalize textB (l.getD i []) = tx at *
          focus (
    (refine W.seq ?_)
    (refine W.region ?_)
    (refine Jx.lssI rfl rfl rfl ?_)
    (refine J.nil ?_)
    (refine N.seq ?_)
    (refine W.seq ?_)
    (refine W.condT rfl (by first | rfl | assumption | (exact decide_eq_true (by first | assumption | omega | rfl)) | (exact decide_eq_false (by first | assumption | omega | rfl)) | (simp; done) | (simp; omega)) ?_)
    (refine W.skip ?_)
    (refine N.seq ?_)
    (refine W.seq ?_)
    (refine W.block ?_)
    (refine W.seq ?_)
    (refine W.region ?_)
    (refine Jx.indexEl rfl rfl (by assumption) rfl rfl ?_)
    (refine Jx.loadPP rfl rfl ?_)
    (refine Jx.assign rfl rfl ?_)
    (refine J.nil ?_)
    (refine N.seq ?_)
    (refine W.region ?_)
    (refine Jx.move rfl rfl ?_)
    (refine Jx.move rfl rfl ?_)
    (refine J.call (c4) rfl (evs_args rfl) rfl ?_; rintro _ _ ⟨rfl, rfl⟩; simp only [List.cons_append, List.nil_append, List.append_nil])
    (refine Jx.cat rfl rfl hcat3 rfl ?_)
    (refine Jx.assign rfl rfl ?_)
    (refine J.nil ?_)
    (refine N.seq ?_)
    (refine W.region ?_)
    (refine Jx.add64 rfl rfl (by omega) rfl ?_)
    (refine Jx.move rfl rfl ?_)
    (refine J.nil ?_)
    (refine id ?_; rotate_left))
          exact N.round (i + 1) h2 (by omega) rfl ⟨ref0 rfl, ref0 rfl, ref0 rfl, ⟨_, rfl, Sub.of_eq (by rw [hfin])⟩, ref0 rfl, ref0 rfl, ref0 rfl, trivial⟩
        · have hil : i = l.length := by omega
          subst hil
          rw [List.take_length]
          have htb0 := htb l.length
          rw [List.take_length] at htb0
          have hSl : (NB ns ++ (listB l ++ flagB f) ++ TB l).length = (NB ns).length + (listB l).length + 1 + (TB l).length := by rw [List.length_append, hs1l]
          have pl1 : ∀ i, (NB (ns.take i)).length ≤ (NB ns ++ (listB l ++ flagB f) ++ TB l).length ∧ (NB ns ++ (listB l ++ flagB f) ++ TB l).drop (NB (ns.take i)).length = NB (ns.drop i) ++ (listB l ++ (flagB f ++ TB l)) := fun i => by
            have := drop_len (a := 0) (s := NB ns ++ (listB l ++ flagB f) ++ TB l) (x := NB (ns.take i)) (y := NB (ns.drop i) ++ (listB l ++ (flagB f ++ TB l))) (by rw [NB_split ns i]; simp only [List.drop_zero, List.append_assoc]) (Nat.zero_le _)
            rw [Nat.zero_add] at this; exact this
          have pl2 := drop_len (pl1 ns.length).2 (pl1 ns.length).1
          rw [List.take_length] at pl2
          have pl0 := (pl1 ns.length).2
          rw [List.take_length, List.drop_length, show NB [] = [] from rfl, List.nil_append] at pl0
          have pl3 := drop_len pl0 (by omega)
          have pl4 := drop_len pl3.2 pl3.1
          rw [hfl] at pl4
          have pl5 : ∀ i, (NB ns).length + (listB l).length + 1 + (TB (l.take i)).length ≤ (NB ns ++ (listB l ++ flagB f) ++ TB l).length ∧ (NB ns ++ (listB l ++ flagB f) ++ TB l).drop ((NB ns).length + (listB l).length + 1 + (TB (l.take i)).length) = TB (l.drop i) := fun i =>
            drop_len (by rw [pl4.2]; exact list_split l i) pl4.1
          have hmx : (NB ns ++ (listB l ++ flagB f) ++ TB l).length ≤ 1099511627776 := by omega
          have hend : (NB ns).length + (listB l).length + 1 + (TB l).length = (NB ns ++ (listB l ++ flagB f) ++ TB l).length := hSl.symm
          clear hSl pl2
          generalize NB ns ++ (listB l ++ flagB f) ++ TB l = S at *
          have c5 := read_ok S
          focus (
    (refine W.seq ?_)
    (refine W.region ?_)
    (refine Jx.lssI rfl rfl rfl ?_)
    (refine J.nil ?_)
    (refine N.seq ?_)
    (refine W.seq ?_)
    (refine W.condF rfl (by first | rfl | assumption | (exact decide_eq_true (by first | assumption | omega | rfl)) | (exact decide_eq_false (by first | assumption | omega | rfl)) | (simp; done) | (simp; omega)) ?_)
    (refine W.exit ?_)
    (refine N.seq ?_)
    (refine W.seq ?_)
    (refine W.region ?_)
    (refine Jx.move rfl rfl ?_)
    (refine J.call c5 rfl (evs_args rfl) rfl ?_; rintro _ _ ⟨b, rfl, rfl⟩; simp only [List.cons_append, List.nil_append, List.append_nil])
    (refine Jx.assign rfl rfl ?_)
    (refine J.nil ?_)
    (refine N.seq ?_)
    (refine W.seq ?_)
    (refine W.seq ?_)
    (refine W.region ?_)
    (refine Jx.move rfl rfl ?_)
    (refine Jx.lenSl rfl rfl ?_)
    (refine Jx.move rfl rfl ?_)
    (refine J.nil ?_)
    (refine N.seq ?_)
    (refine W.block ?_)
    (refine id ?_; rotate_left))
          refine W.loop (α := Nat) (fun i => [(69, int (i : Int)), (68, int (ns.length : Int)), (67, isl ns), (14, ptr b), (1, ssl l), (2, bool f)]) (fun i => [rdO b ⟨S, (NB (ns.take i)).length, 0⟩]) (fun i => i ≤ ns.length) (fun i => ns.length - i) 0 (by simp) rfl ⟨ref0 rfl, ref0 rfl, ref0 rfl, ref0 rfl, ref0 rfl, ref0 rfl, trivial⟩ ?_
          intro i hi
          by_cases h3 : i < ns.length
          · have hmi := hmem i h3
            have hmx2 := hmax i
            obtain ⟨g1, g2⟩ := pl1 i
            rw [NB_rest ns i h3, List.append_assoc] at g2
            have c6 := num_back b S _ _ _ ⟨g1, hmx⟩ (by omega) g2
            have hnx : (NB (ns.take i)).length + (numB (ns.getD i 0).toNat).length = (NB (ns.take (i + 1))).length := by rw [← NB_take ns i h3, List.length_append]
            rw [hnx] at c6
            generalize hp2 : (NB (ns.take (i + 1))).length = p2 at *
            generalize (NB (ns.take i)).length = p1 at *
            focus (
    (refine W.seq ?_)
    (refine W.region ?_)
    (refine Jx.lssI rfl rfl rfl ?_)
    (refine J.nil ?_)
    (refine N.seq ?_)
    (refine W.seq ?_)
    (refine W.condT rfl (by first | rfl | assumption | (exact decide_eq_true (by first | assumption | omega | rfl)) | (exact decide_eq_false (by first | assumption | omega | rfl)) | (simp; done) | (simp; omega)) ?_)
    (refine W.skip ?_)
    (refine N.seq ?_)
    (refine W.seq ?_)
    (refine W.block ?_)
    (refine W.seq ?_)
    (refine W.region ?_)
    (refine Jx.indexEl rfl rfl (by assumption) rfl rfl ?_)
    (refine Jx.loadPP rfl rfl ?_)
    (refine Jx.assign rfl rfl ?_)
    (refine J.nil ?_)
    (refine N.seq ?_)
    (refine W.seq ?_)
    (refine W.region ?_)
    (refine Jx.move rfl rfl ?_)
    (refine J.call (c6) rfl (evs_args rfl) rfl ?_; rintro _ _ ⟨rfl, rfl⟩; simp only [List.cons_append, List.nil_append, List.append_nil])
    (refine Jx.move rfl rfl ?_)
    (refine Jx.max rfl rfl rfl ?_; rw [hmx2])
    (refine Jx.neqI rfl rfl rfl ?_)
    (refine J.nil ?_)
    (refine N.seq ?_)
    (refine W.condF rfl (by first | rfl | assumption | (exact decide_eq_true (by first | assumption | omega | rfl)) | (exact decide_eq_false (by first | assumption | omega | rfl)) | (simp; done) | (simp; omega)) ?_)
    (refine W.skip ?_)
    (refine N.seq ?_)
    (refine W.region ?_)
    (refine Jx.add64 rfl rfl (by omega) rfl ?_)
    (refine Jx.move rfl rfl ?_)
    (refine J.nil ?_)
    (refine id ?_; rotate_left))
            exact N.round (i + 1) h3 (by omega) (by simp only [hp2]) ⟨ref0 rfl, ref0 rfl, ref0 rfl, ref0 rfl, ref0 rfl, ref0 rfl, trivial⟩
          · have hin : i = ns.length := by omega
            subst hin
            rw [List.take_length]
            have c7 := list_back b S (NB ns).length l (flagB f ++ TB l) 20 200 ⟨by simp only; omega, hmx⟩ (by omega) (by omega) (fun t ht => by have := he1 t ht; omega) pl0
            have c8 := same_ok l l (by omega)
            rw [decide_eq_true (rfl : l = l)] at c8
            have c9 := Flag_back b S ((NB ns).length + (listB l).length) f (TB l) ⟨by simp only; omega, hmx⟩ pl3.2
            generalize (NB ns).length + (listB l).length = p3 at *
            generalize (NB ns).length = p4 at *
            focus (
    (refine W.seq ?_)
    (refine W.region ?_)
    (refine Jx.lssI rfl rfl rfl ?_)
    (refine J.nil ?_)
    (refine N.seq ?_)
    (refine W.seq ?_)
    (refine W.condF rfl (by first | rfl | assumption | (exact decide_eq_true (by first | assumption | omega | rfl)) | (exact decide_eq_false (by first | assumption | omega | rfl)) | (simp; done) | (simp; omega)) ?_)
    (refine W.exit ?_)
    (refine N.seq ?_)
    (refine W.seq ?_)
    (refine W.seq ?_)
    (refine W.region ?_)
    (refine Jx.move rfl rfl ?_)
    (refine J.call (c7) rfl (evs_args rfl) rfl ?_; rintro _ _ ⟨rfl, rfl⟩; simp only [List.cons_append, List.nil_append, List.append_nil])
    (refine Jx.move rfl rfl ?_)
    (refine J.call (c8) rfl (evs_args rfl) rfl ?_; rintro _ _ ⟨rfl, rfl⟩; simp only [List.cons_append, List.nil_append, List.append_nil])
    (refine Jx.not rfl rfl ?_)
    (refine Jx.move rfl rfl ?_)
    (refine J.guardYes rfl rfl rfl (by first | rfl | assumption | (exact decide_eq_true (by first | assumption | omega | rfl)) | (exact decide_eq_false (by first | assumption | omega | rfl)) | (simp; done) | (simp; omega)) ?_)
    (refine Jx.move rfl rfl ?_)
    (refine J.guardYes rfl rfl rfl (by first | rfl | assumption | (exact decide_eq_true (by first | assumption | omega | rfl)) | (exact decide_eq_false (by first | assumption | omega | rfl)) | (simp; done) | (simp; omega)) ?_)
    (refine J.call (c9) rfl (evs_args rfl) rfl ?_; rintro _ _ ⟨rfl, rfl⟩; simp only [List.cons_append, List.nil_append, List.append_nil])
    (refine J.guardYes rfl rfl rfl (by first | rfl | assumption | (exact decide_eq_true (by first | assumption | omega | rfl)) | (exact decide_eq_false (by first | assumption | omega | rfl)) | (simp; done) | (simp; omega)) ?_)
    (refine Jx.move rfl rfl ?_)
    (refine J.guardYes rfl rfl rfl (by first | rfl | assumption | (exact decide_eq_true (by first | assumption | omega | rfl)) | (exact decide_eq_false (by first | assumption | omega | rfl)) | (simp; done) | (simp; omega)) ?_)
    (refine Jx.neqB rfl rfl rfl ?_)
    (refine Jx.pickF rfl (by first | rfl | assumption | (exact decide_eq_true (by first | assumption | omega | rfl)) | (exact decide_eq_false (by first | assumption | omega | rfl)) | (simp; done) | (simp; omega)) rfl rfl ?_)
    (refine J.nil ?_)
    (refine N.seq ?_)
    (refine W.condF rfl (by first | rfl | assumption | (exact decide_eq_true (by first | assumption | omega | rfl)) | (exact decide_eq_false (by first | assumption | omega | rfl)) | (simp; done) | (simp; omega)) ?_)
    (refine W.skip ?_)
    (refine N.seq ?_)
    (refine W.seq ?_)
    (refine W.seq ?_)
    (refine W.region ?_)
    (refine Jx.move rfl rfl ?_)
    (refine Jx.lenSl rfl rfl ?_)
    (refine Jx.move rfl rfl ?_)
    (refine J.nil ?_)
    (refine N.seq ?_)
    (refine W.block ?_)
    (refine id ?_; rotate_left))
            refine W.loop (α := Nat) (fun i => [(92, int (i : Int)), (91, int (l.length : Int)), (90, ssl l), (14, ptr b)]) (fun i => [rdO b ⟨S, p3 + 1 + (TB (l.take i)).length, 0⟩]) (fun i => i ≤ l.length) (fun i => l.length - i) 0 (by simp) rfl ⟨ref0 rfl, ref0 rfl, ref0 rfl, ref0 rfl, trivial⟩ ?_
            intro i hi
            by_cases h4 : i < l.length
            · have hti : (l.getD i []).length ≤ 200 := by
                rw [List.getD_eq_getElem?_getD, List.getElem?_eq_getElem h4]; exact he1 _ (List.getElem_mem _)
              obtain ⟨g1, g2⟩ := pl5 i
              rw [show TB (l.drop i) = _ from list_rest l i h4] at g2
              have c10 := Text_back b S _ _ _ ((l.getD i []).length : Int) ⟨g1, hmx⟩ (by omega) g2
              have hnx : p3 + 1 + (TB (l.take i)).length + (textB (l.getD i [])).length = p3 + 1 + (TB (l.take (i + 1))).length := by
                have : TB (l.take (i + 1)) = TB (l.take i) ++ textB (l.getD i []) := (list_take i h4).symm
                rw [this, List.length_append]; omega
              rw [hnx] at c10
              generalize hp2 : p3 + 1 + (TB (l.take (i + 1))).length = p2 at *
              generalize p3 + 1 + (TB (l.take i)).length = p1 at *
              focus (
    (refine W.seq ?_)
    (refine W.region ?_)
    (refine Jx.lssI rfl rfl rfl ?_)
    (refine J.nil ?_)
    (refine N.seq ?_)
    (refine W.seq ?_)
    (refine W.condT rfl (by first | rfl | assumption | (exact decide_eq_true (by first | assumption | omega | rfl)) | (exact decide_eq_false (by first | assumption | omega | rfl)) | (simp; done) | (simp; omega)) ?_)
    (refine W.skip ?_)
    (refine N.seq ?_)
    (refine W.seq ?_)
    (refine W.block ?_)
    (refine W.seq ?_)
    (refine W.region ?_)
    (refine Jx.indexEl rfl rfl (by assumption) rfl rfl ?_)
    (refine Jx.loadPP rfl rfl ?_)
    (refine Jx.assign rfl rfl ?_)
    (refine J.nil ?_)
    (refine N.seq ?_)
    (refine W.seq ?_)
    (refine W.region ?_)
    (refine Jx.move rfl rfl ?_)
    (refine Jx.move rfl rfl ?_)
    (refine Jx.lenS rfl rfl ?_)
    (refine J.call (c10) rfl (evs_args rfl) rfl ?_; rintro _ _ ⟨rfl, rfl⟩; simp only [List.cons_append, List.nil_append, List.append_nil])
    (refine Jx.move rfl rfl ?_)
    (refine Jx.neqS rfl rfl rfl ?_)
    (refine J.nil ?_)
    (refine N.seq ?_)
    (refine W.condF rfl (by first | rfl | assumption | (exact decide_eq_true (by first | assumption | omega | rfl)) | (exact decide_eq_false (by first | assumption | omega | rfl)) | (simp; done) | (simp; omega)) ?_)
    (refine W.skip ?_)
    (refine N.seq ?_)
    (refine W.region ?_)
    (refine Jx.add64 rfl rfl (by omega) rfl ?_)
    (refine Jx.move rfl rfl ?_)
    (refine J.nil ?_)
    (refine id ?_; rotate_left))
              exact N.round (i + 1) h4 (by omega) (by simp only [hp2]) ⟨ref0 rfl, ref0 rfl, ref0 rfl, ref0 rfl, trivial⟩
            · have hil : i = l.length := by omega
              subst hil
              rw [List.take_length, hend]
              have c11 := left_ok b ⟨S, S.length, 0⟩ ⟨by simp, hmx⟩
              rw [show ((S.length : Int) - (S.length : Nat)) = 0 by omega] at c11
              have c12 := End_back b S ⟨by simp, hmx⟩
              generalize S.length = sl at *
              focus (
    (refine W.seq ?_)
    (refine W.region ?_)
    (refine Jx.lssI rfl rfl rfl ?_)
    (refine J.nil ?_)
    (refine N.seq ?_)
    (refine W.seq ?_)
    (refine W.condF rfl (by first | rfl | assumption | (exact decide_eq_true (by first | assumption | omega | rfl)) | (exact decide_eq_false (by first | assumption | omega | rfl)) | (simp; done) | (simp; omega)) ?_)
    (refine W.exit ?_)
    (refine N.seq ?_)
    (refine W.seq ?_)
    (refine W.region ?_)
    (refine Jx.move rfl rfl ?_)
    (refine J.call (c11) rfl (evs_args rfl) rfl ?_; rintro _ _ ⟨rfl, rfl⟩; simp only [List.cons_append, List.nil_append, List.append_nil])
    (refine Jx.eqlI rfl rfl rfl ?_)
    (refine Jx.move rfl rfl ?_)
    (refine J.guardYes rfl rfl rfl (by first | rfl | assumption | (exact decide_eq_true (by first | assumption | omega | rfl)) | (exact decide_eq_false (by first | assumption | omega | rfl)) | (simp; done) | (simp; omega)) ?_)
    (refine Jx.move rfl rfl ?_)
    (refine J.guardYes rfl rfl rfl (by first | rfl | assumption | (exact decide_eq_true (by first | assumption | omega | rfl)) | (exact decide_eq_false (by first | assumption | omega | rfl)) | (simp; done) | (simp; omega)) ?_)
    (refine J.call (c12) rfl (evs_args rfl) rfl ?_; rintro _ _ ⟨rfl, rfl⟩; simp only [List.cons_append, List.nil_append, List.append_nil])
    (refine J.guardYes rfl rfl rfl (by first | rfl | assumption | (exact decide_eq_true (by first | assumption | omega | rfl)) | (exact decide_eq_false (by first | assumption | omega | rfl)) | (simp; done) | (simp; omega)) ?_)
    (refine Jx.eqlI rfl rfl rfl ?_)
    (refine Jx.pickT rfl (by first | rfl | assumption | (exact decide_eq_true (by first | assumption | omega | rfl)) | (exact decide_eq_false (by first | assumption | omega | rfl)) | (simp; done) | (simp; omega)) rfl rfl ?_)
    (refine Jx.assign rfl rfl ?_)
    (refine J.nil ?_)
    (refine N.seq ?_)
    (refine W.ret ?_)
    (refine id ?_; rotate_left))
              exact N.retD (rs := [.tmp 6]) (L1 := []) rfl (.tmp rfl .nil) (List.nil_sublist _) ⟨rfl, rfl⟩
end Go.Proofs.Ytjlpknligekfeaa
