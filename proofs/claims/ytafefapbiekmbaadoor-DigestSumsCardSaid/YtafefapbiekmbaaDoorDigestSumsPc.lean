/-
  Lemmas for the claim, part 3.
-/
import Derived.Test.YtafefapbiekmbaaDoorDigestSumsPb
namespace Go.Proofs.YtafefapbiekmbaaDoor
open Go Go.Sse
set_option maxRecDepth 10000
set_option linter.unusedVariables false
set_option linter.unusedSimpArgs false
def be (n : Nat) : List UInt8 := if h : n = 0 then [] else be (n / 256) ++ [UInt8.ofNat (n % 256)]
termination_by n
decreasing_by omega
theorem be_zero : be 0 = [] := by rw [be, dif_pos rfl]
theorem be_pos {n : Nat} (h : 0 < n) : be n = be (n / 256) ++ [UInt8.ofNat (n % 256)] := by rw [be, dif_neg (by omega)]
theorem be_len : ∀ (k n : Nat), n < 256 ^ k → (be n).length ≤ k
  | 0, n, h => by have : n = 0 := by simpa using h
                  subst this; rw [be_zero]; simp
  | k + 1, n, h => by
    by_cases h0 : n = 0
    · subst h0; rw [be_zero]; simp
    · rw [be_pos (by omega), List.length_append]
      have : n / 256 < 256 ^ k := by rw [Nat.div_lt_iff_lt_mul (by omega), ← Nat.pow_succ]; exact h
      have := be_len k (n / 256) this
      simp only [List.length_cons, List.length_nil]; omega
theorem be_len8 {n : Nat} (h : n < 18446744073709551616) : (be n).length ≤ 8 := be_len 8 n (by simpa using h)
def numB (n : Nat) : List UInt8 := UInt8.ofNat (be n).length :: be n
theorem numB_len {n : Nat} (h : n < 18446744073709551616) : 1 ≤ (numB n).length ∧ (numB n).length ≤ 9 := by
  have := be_len8 h
  simp only [numB, List.length_cons]; omega
def textB (s : List UInt8) : List UInt8 := numB s.length ++ s
def listB (l : List (List UInt8)) : List UInt8 := numB l.length ++ (l.map textB).flatten
theorem list_take {l : List (List UInt8)} (i : Nat) (h : i < l.length) : ((l.take i).map textB).flatten ++ textB (l.getD i []) = ((l.take (i + 1)).map textB).flatten := by
  rw [List.take_add_one, List.getElem?_eq_getElem h, List.getD_eq_getElem?_getD, List.getElem?_eq_getElem h]
  simp only [Option.toList_some, Option.getD_some, List.map_append, List.map_cons, List.map_nil, List.flatten_append, List.flatten_cons, List.flatten_nil, List.append_nil]
end Go.Proofs.YtafefapbiekmbaaDoor
namespace Go.Proofs.YtafefapbiekmbaaDoor
open Go Go.Sse
set_option linter.unusedVariables false
set_option linter.unusedSimpArgs false
set_option maxRecDepth 10000
abbrev tU8 : Nat := 5
theorem ref0 {F : List (Nat × SV)} {i : Nat} {s : SV} (h : Sse.look F i = some s) : ∃ t, Sse.look F i = some t ∧ Sub t s := ⟨s, h, .refl _⟩
set_option maxHeartbeats 1000000 in
theorem num_ok (n : Nat) (hn : n < 9223372036854775808) : FnC Tryd.prog 37 [int (n : Int)] [] (fun s L => s = str (numB n) ∧ L = []) := by
  have h8 := be_len8 (n := n) (by omega)
  refine FnC.intro Tryd.func37 rfl Tryd.ntmps37 rfl fun Z w0 hG => ?_
  focus (
 (refine W.seq (W.region (Jx.assign rfl rfl (J.nil (N.seq (W.seq (W.region ?_)))))))
 (refine J.alloc (by simp only [List.map_cons, List.map_nil]; rfl) rfl rfl ?_; intro b')
 (refine J.nil (N.seq (W.seq (W.region (Jx.assign rfl rfl (J.nil (N.seq (W.seq (W.block ?_)))))))))
 (refine id ?_; rotate_left))
  refine W.loop (α := Nat × Nat × List UInt8) (fun x => [(4, int x.1), (3, ptr b'), (0, int (x.2.1 : Int))]) (fun x => [.obj b' 83 (x.2.2.map byte)]) (fun x => x.1 ≤ 8 ∧ x.2.2.length = 8 ∧ x.2.1 ≤ n ∧ be n = be x.2.1 ++ x.2.2.drop x.1) (fun x => x.2.1) (8, n, List.replicate 8 0) ⟨by simp, rfl, by simp, by simp⟩ rfl ⟨ref0 rfl, ref0 rfl, ref0 rfl, trivial⟩ ?_
  rintro ⟨a, m, ws⟩ ⟨ha, hl, hm, hb⟩
  simp only at ha hl hm hb ⊢
  have hlen : (be n).length = (be m).length + (8 - a) := by rw [hb, List.length_append, List.length_drop, hl]
  by_cases h0 : 0 < m
  · have hbm := be_pos h0
    have hlm : 1 ≤ (be m).length := by rw [hbm, List.length_append]; simp
    have ha1 : 1 ≤ a := by omega
    focus (
 (refine W.seq (W.seq (W.region (Jx.move rfl rfl (Jx.gtrI rfl rfl rfl (J.nil (N.seq (W.cT rfl ?_))))))))
 (refine W.skip (N.seq (W.seq (W.block (W.seq (W.region (Jx.move rfl rfl (Jx.sub64 rfl rfl (by omega) rfl ?_))))))))
 (refine Jx.assign rfl rfl (J.nil (N.seq (W.region (Jx.move rfl rfl (Jx.move rfl rfl ?_))))))
 (refine Jx.numByte m rfl rfl rfl rfl ?_)
 (refine Jx.index0 (a - 1) rfl rfl (by omega) (by omega) rfl ?_)
 (refine J.storeA byte (UInt8.ofNat m) rfl rfl (One.val rfl) 0 rfl (by omega) rfl ?_)
 (refine J.nil (N.seq (W.region (Jx.move rfl rfl (Jx.shrN (s := 8) rfl rfl rfl (by decide) rfl ?_)))))
 (refine Jx.assign rfl rfl (J.nil ?_))
 (refine id ?_; rotate_left))
    refine N.round (a - 1, m / 256, ws.set (a - 1) (UInt8.ofNat m)) ⟨by simp only; omega, by simp only [List.length_set]; exact hl, by simp only; omega, ?_⟩ (by simp only; omega) rfl ⟨⟨_, rfl, Sub.of_eq (by simp only; congr 2; omega)⟩, ref0 rfl, ⟨_, rfl, Sub.of_eq (by rfl)⟩, trivial⟩
    simp only
    rw [hb, hbm, List.append_assoc]
    congr 1
    have hlt : a - 1 < (ws.set (a - 1) (UInt8.ofNat m)).length := by rw [List.length_set]; omega
    rw [List.drop_eq_getElem_cons hlt, List.getElem_set_self, show a - 1 + 1 = a by omega, List.drop_set_of_lt (by omega)]
    rw [show UInt8.ofNat (m % 256) = UInt8.ofNat m by apply UInt8.toNat_inj.1; simp]
    rfl
  · have hm0 : m = 0 := by omega
    subst hm0
    rw [be_zero, List.nil_append] at hb
    rw [be_zero] at hlen
    simp only [List.length_nil, Nat.zero_add] at hlen
    have hnum : [UInt8.ofNat (8 - a)] ++ ws.drop a = numB n := by rw [← hb, ← hlen]; rfl
    have hcl : [UInt8.ofNat (8 - a)].length + (ws.drop a).length ≤ 9223372036854775807 := by rw [← hb]; simp only [List.length_cons, List.length_nil]; omega
    focus (
 (refine W.seq (W.seq (W.region (Jx.move rfl rfl (Jx.gtrI rfl rfl rfl (J.nil (N.seq (W.cF rfl ?_))))))))
 (refine W.exit (N.seq (W.seq ?_)))
 (refine W.draw follows ?_)
 (refine JD.calm rfl (by decide +kernel) ?_)
 (refine Cx.move rfl rfl ?_)
 (refine Cx.sub64 rfl rfl (by omega) rfl ?_)
 (refine Cx.numByte (8 - a) rfl rfl (by omega) rfl ?_)
 (refine SegC.q (Qs.buildBytes [UInt8.ofNat (8 - a)] rfl rfl rfl (by decide) (by decide)) rfl ?_)
 (refine Cx.bytesStr rfl rfl ?_)
 (refine Cx.move rfl rfl ?_)
 (refine Cx.arrFrom a rfl rfl rfl ha rfl ?_)
 (refine Cx.arrStr ws rfl 0 rfl hl ha rfl ?_)
 (refine Cx.cat rfl rfl hcl rfl ?_)
 (refine Cx.assign rfl rfl ?_)
 (refine SegC.nil ?_)
 (refine N.seq (W.ret ?_))
 (refine id ?_; rotate_left))
    exact N.retD (rs := [.tmp 2]) (L1 := []) rfl (.tmp rfl .nil) (List.nil_sublist _) ⟨by rw [hnum]; rfl, rfl⟩
theorem number_ok (n : Nat) (hn : n < 9223372036854775808) : FnC Tryd.prog 38 [int (n : Int)] [] (fun s L => s = str (numB n) ∧ L = []) := by
  have h8 := be_len8 (n := n) (by omega)
  refine FnC.intro Tryd.func38 rfl Tryd.ntmps38 rfl fun Z w0 hG => ?_
  focus (
 (refine W.seq (W.region (Jx.assign rfl rfl (J.nil (N.seq (W.seq (W.region (Jx.assign rfl rfl (J.nil (N.seq (W.seq (W.block ?_))))))))))))
 (refine id ?_; rotate_left))
  refine W.loop (α := Nat × List UInt8) (fun x => [(3, str x.2), (0, int (x.1 : Int))]) (fun _ => []) (fun x => x.1 ≤ n ∧ be n = be x.1 ++ x.2) (fun x => x.1) (n, []) ⟨by simp, by simp⟩ rfl ⟨ref0 rfl, ref0 rfl, trivial⟩ ?_
  rintro ⟨m, e⟩ ⟨hm, hb⟩
  simp only at hm hb ⊢
  have hlen : (be n).length = (be m).length + e.length := by rw [hb, List.length_append]
  by_cases h0 : 0 < m
  · focus (
 (refine W.seq (W.seq (W.region (Jx.move rfl rfl (Jx.gtrI rfl rfl rfl (J.nil (N.seq (W.cT rfl ?_))))))))
 (refine W.skip (N.seq (W.block (W.seq (W.region (Jx.move rfl rfl (Jx.rem64 rfl rfl (by omega) (by decide) rfl ?_)))))))
 (refine Jx.numByte (m % 256) rfl rfl (by omega) rfl ?_)
 (refine J.qs (Qs.buildBytes [UInt8.ofNat (m % 256)] rfl rfl rfl (by decide) (by decide)) rfl ?_)
 (refine Jx.bytesStr rfl rfl ?_)
 (refine Jx.move rfl rfl (Jx.cat rfl rfl (by simp only [List.length_cons, List.length_nil]; omega) rfl ?_))
 (refine Jx.assign rfl rfl (J.nil (N.seq (W.region (Jx.move rfl rfl (Jx.quo64 rfl rfl (by omega) (by decide) rfl ?_))))))
 (refine Jx.assign rfl rfl (J.nil (N.blockNormal ?_)))
 (refine id ?_; rotate_left))
    exact N.round (m / 256, [UInt8.ofNat (m % 256)] ++ e) ⟨by simp only; omega, by simp only; rw [hb, be_pos h0, List.append_assoc]⟩ (by simp only; omega) rfl ⟨ref0 rfl, ⟨_, rfl, Sub.of_eq (by congr 2)⟩, trivial⟩
  · have hm0 : m = 0 := by omega
    subst hm0
    rw [be_zero, List.nil_append] at hb
    subst hb
    focus (
 (refine W.seq (W.seq (W.region (Jx.move rfl rfl (Jx.gtrI rfl rfl rfl (J.nil (N.seq (W.cF rfl ?_))))))))
 (refine W.exit (N.seq (W.seq (W.region (Jx.move rfl rfl (Jx.lenS rfl rfl ?_))))))
 (refine Jx.numByte (be n).length rfl rfl rfl rfl ?_)
 (refine J.qs (Qs.buildBytes [UInt8.ofNat (be n).length] rfl rfl rfl (by decide) (by decide)) rfl ?_)
 (refine Jx.bytesStr rfl rfl ?_)
 (refine Jx.move rfl rfl (Jx.cat rfl rfl (by simp only [List.length_cons, List.length_nil]; omega) rfl ?_))
 (refine Jx.assign rfl rfl (J.nil (N.seq (W.ret ?_))))
 (refine id ?_; rotate_left))
    exact N.ret (rs := [.tmp 2]) rfl (.tmp rfl .nil) ⟨rfl, rfl⟩
theorem rtext_ok (s : List UInt8) (hs : s.length < 4611686018427387904) : FnC Tryd.prog 39 [str s] [] (fun r L => r = str (textB s) ∧ L = []) := by
  have c := number_ok s.length (by omega)
  have h := numB_len (n := s.length) (by omega)
  refine FnC.intro Tryd.func39 rfl Tryd.ntmps39 rfl fun Z w0 hG => ?_
  focus (
 (refine W.seq (W.region (Jx.assign rfl rfl (J.nil (N.seq (W.seq (W.region (Jx.move rfl rfl (Jx.lenS rfl rfl ?_)))))))))
 (refine J.call (c) rfl (evs_args rfl) rfl ?_; rintro _ _ ⟨rfl, rfl⟩; simp only [la1, la2, la3])
 (refine Jx.move rfl rfl (Jx.cat rfl rfl (by omega) rfl ?_))
 (refine Jx.assign rfl rfl (J.nil (N.seq (W.ret ?_))))
 (refine id ?_; rotate_left))
  exact N.ret (rs := [.tmp 2]) rfl (.tmp rfl .nil) ⟨rfl, rfl⟩
end Go.Proofs.YtafefapbiekmbaaDoor
namespace Go.Proofs.YtafefapbiekmbaaDoor
open Go Go.Sse
set_option linter.unusedVariables false
set_option linter.unusedSimpArgs false
set_option maxRecDepth 10000
theorem pre_len {l : List (List UInt8)} (he : ∀ s ∈ l, s.length ≤ 1048576) : ∀ i, ((l.take i).map textB).flatten.length ≤ 1048585 * i := by
  intro i
  induction i with
  | zero => simp
  | succ i ih =>
    by_cases h : i < l.length
    · rw [← list_take i h, List.length_append]
      have h1 : (l.getD i []).length ≤ 1048576 := by
        rw [List.getD_eq_getElem?_getD, List.getElem?_eq_getElem h]; exact he _ (List.getElem_mem _)
      have h2 := (numB_len (n := (l.getD i []).length) (by omega)).2
      simp only [textB, List.length_append]
      omega
    · have e1 : l.take (i + 1) = l.take i := by rw [List.take_of_length_le (by omega), List.take_of_length_le (by omega)]
      rw [e1]; omega
set_option maxHeartbeats 1000000 in
theorem list_ok (l : List (List UInt8)) (hl : l.length ≤ 1048576) (he : ∀ s ∈ l, s.length ≤ 1048576) : FnC Tryd.prog 29 [ssl l] [] (fun r L => r = str (listB l) ∧ L = []) := by
  have c0 := num_ok l.length (by omega)
  have hn := (numB_len (n := l.length) (by omega)).2
  have hmx : (numB l.length).length ≤ maxLen := by simp only [maxLen]; omega
  have hpre := pre_len he
  refine FnC.intro Tryd.func29 rfl Tryd.ntmps29 rfl fun Z w0 hG => ?_
  focus (
 (refine W.seq (W.region (Jx.assign rfl rfl (J.nil (N.seq (W.seq (W.region (Jx.move rfl rfl (Jx.lenSl rfl rfl ?_)))))))))
 (refine J.call (c0) rfl (evs_args rfl) rfl ?_; rintro _ _ ⟨rfl, rfl⟩; simp only [la1, la2, la3])
 (refine J.strBytes rfl hmx rfl ?_; intro v)
 (refine Jx.assign rfl rfl (J.nil (N.seq (W.seq (W.seq (W.region (Jx.move rfl rfl (Jx.lenSl rfl rfl ?_))))))))
 (refine Jx.move rfl rfl (J.nil (N.seq (W.block ?_))))
 (refine id ?_; rotate_left))
  refine W.loop (α := Nat × Value) (fun x => [(12, int x.1), (11, int l.length), (10, ssl l), (3, .val x.2)]) (fun x => [.row x.2 tU8 1 (numB l.length ++ ((l.take x.1).map textB).flatten).length (elOf encB 0 (numB l.length ++ ((l.take x.1).map textB).flatten))]) (fun x => x.1 ≤ l.length) (fun x => l.length - x.1) (0, v) (by simp) (by simp only [List.take_zero, List.map_nil, List.flatten_nil, List.append_nil]) ⟨ref0 rfl, ref0 rfl, ref0 rfl, ref0 rfl, trivial⟩ ?_
  rintro ⟨i, u⟩ hi
  simp only at hi ⊢
  have hal : (numB l.length ++ ((l.take i).map textB).flatten).length ≤ 9 + 1048585 * i := by rw [List.length_append]; have := hpre i; omega
  by_cases h1 : i < l.length
  · have hs : (l.getD i []).length ≤ 1048576 := by
      rw [List.getD_eq_getElem?_getD, List.getElem?_eq_getElem h1]; exact he _ (List.getElem_mem _)
    have c1 := num_ok (l.getD i []).length (by omega)
    have hsn := (numB_len (n := (l.getD i []).length) (by omega)).2
    have hst := list_take i h1
    have hfin : numB l.length ++ ((l.take i).map textB).flatten ++ numB (l.getD i []).length ++ l.getD i [] = numB l.length ++ ((l.take (i + 1)).map textB).flatten := by
      rw [← hst, textB]; simp only [List.append_assoc]
    generalize numB l.length ++ ((l.take i).map textB).flatten = acc at *
    have hb1 : acc.length + (numB (l.getD i []).length).length ≤ maxLen ∧ (acc.length + (numB (l.getD i []).length).length) * 1 ≤ 140737488355328 := by simp only [maxLen]; omega
    have hb2 : (acc ++ numB (l.getD i []).length).length + (l.getD i []).length ≤ maxLen ∧ ((acc ++ numB (l.getD i []).length).length + (l.getD i []).length) * 1 ≤ 140737488355328 := by rw [List.length_append]; simp only [maxLen]; omega
    focus (
 (refine W.seq (W.region (Jx.lssI rfl rfl rfl (J.nil (N.seq (W.seq (W.cT rfl ?_)))))))
 (refine W.skip (N.seq (W.seq (W.block (W.seq (W.region (Jx.indexEl rfl rfl (by assumption) rfl rfl ?_)))))))
 (refine Jx.loadPP rfl rfl ?_)
 (refine Jx.assign rfl rfl (J.nil (N.seq (W.seq (W.region (Jx.move rfl rfl (Jx.move rfl rfl (Jx.lenS rfl rfl ?_))))))))
 (refine J.call (c1) rfl (evs_args rfl) rfl ?_; rintro _ _ ⟨rfl, rfl⟩; simp only [la1, la2, la3])
 (refine J.appendL (l2 := numB (l.getD i []).length) rfl (SrcOK.str rfl) rfl rfl hb1 rfl ?_; intro v2 hv2)
 (refine Jx.assign rfl rfl (J.nil (N.seq (W.region (Jx.move rfl rfl (Jx.move rfl rfl ?_))))))
 (refine J.appendL (l2 := l.getD i []) rfl (SrcOK.str rfl) rfl rfl hb2 rfl ?_; intro v3 hv3)
 (refine Jx.assign rfl rfl (J.nil (N.seq (W.region (Jx.add64 rfl rfl (by omega) rfl ?_)))))
 (refine Jx.move rfl rfl (J.nil ?_))
 (refine id ?_; rotate_left))
    exact N.round (i + 1, v3) h1 (by simp only; omega) (by simp only [hfin]) ⟨ref0 rfl, ref0 rfl, ref0 rfl, ref0 rfl, trivial⟩
  · have hil : i = l.length := by omega
    have hfin : numB l.length ++ ((l.take i).map textB).flatten = listB l := by rw [hil, List.take_length]; rfl
    rw [hfin]
    focus (
 (refine W.seq (W.region (Jx.lssI rfl rfl rfl (J.nil (N.seq (W.seq (W.cF rfl ?_)))))))
 (refine W.exit (N.seq (W.seq (W.region (Jx.move rfl rfl (Jx.bytesStrRow rfl 0 rfl rfl ?_))))))
 (refine Jx.assign rfl rfl (J.nil (N.seq (W.ret ?_))))
 (refine id ?_; rotate_left))
    exact N.retD (rs := [.tmp 2]) (L1 := []) rfl (.tmp rfl .nil) (List.nil_sublist _) ⟨rfl, rfl⟩
theorem rlist_ok (l : List (List UInt8)) (hl : l.length ≤ 1048576) (he : ∀ s ∈ l, s.length ≤ 1048576) : FnC Tryd.prog 30 [ssl l] [] (fun r L => r = str (listB l) ∧ L = []) := by
  have c0 := number_ok l.length (by omega)
  have hn := (numB_len (n := l.length) (by omega)).2
  have hpre := pre_len he
  refine FnC.intro Tryd.func30 rfl Tryd.ntmps30 rfl fun Z w0 hG => ?_
  focus (
 (refine W.seq (W.region (Jx.assign rfl rfl (J.nil (N.seq (W.seq (W.region (Jx.move rfl rfl (Jx.lenSl rfl rfl ?_)))))))))
 (refine J.call (c0) rfl (evs_args rfl) rfl ?_; rintro _ _ ⟨rfl, rfl⟩; simp only [la1, la2, la3])
 (refine Jx.assign rfl rfl (J.nil (N.seq (W.seq (W.seq (W.region (Jx.assign rfl rfl (J.nil (N.seq (W.block ?_))))))))))
 (refine id ?_; rotate_left))
  refine W.loop (α := Nat) (fun i => [(4, int i), (3, str (numB l.length ++ ((l.take i).map textB).flatten)), (0, ssl l)]) (fun _ => []) (fun i => i ≤ l.length) (fun i => l.length - i) 0 (by simp) rfl ⟨ref0 rfl, ⟨_, rfl, Sub.of_eq (by simp only [List.take_zero, List.map_nil, List.flatten_nil, List.append_nil])⟩, ref0 rfl, trivial⟩ ?_
  intro i hi
  have hal : (numB l.length ++ ((l.take i).map textB).flatten).length ≤ 9 + 1048585 * i := by rw [List.length_append]; have := hpre i; omega
  by_cases h1 : i < l.length
  · have hs : (l.getD i []).length ≤ 1048576 := by
      rw [List.getD_eq_getElem?_getD, List.getElem?_eq_getElem h1]; exact he _ (List.getElem_mem _)
    have c1 := rtext_ok (l.getD i []) (by omega)
    have hsn := (numB_len (n := (l.getD i []).length) (by omega)).2
    have htl : (textB (l.getD i [])).length ≤ 1048585 := by simp only [textB, List.length_append]; omega
    have hst := list_take i h1
    have hfin : numB l.length ++ ((l.take i).map textB).flatten ++ textB (l.getD i []) = numB l.length ++ ((l.take (i + 1)).map textB).flatten := by
      rw [← hst]; simp only [List.append_assoc]
    generalize numB l.length ++ ((l.take i).map textB).flatten = acc at *
    focus (
 (refine W.seq (W.seq (W.region (Jx.move rfl rfl (Jx.move rfl rfl (Jx.lenSl rfl rfl ?_))))))
 (refine Jx.lssI rfl rfl rfl (J.nil (N.seq (W.cT rfl ?_))))
 (refine W.skip (N.seq (W.seq (W.block (W.region (Jx.move rfl rfl (Jx.move rfl rfl (Jx.move rfl rfl (Jx.indexEl rfl rfl (by assumption) rfl rfl ?_)))))))))
 (refine Jx.loadPP rfl rfl ?_)
 (refine J.call (c1) rfl (evs_args rfl) rfl ?_; rintro _ _ ⟨rfl, rfl⟩; simp only [la1, la2, la3])
 (refine Jx.cat rfl rfl (by omega) rfl ?_)
 (refine Jx.assign rfl rfl (J.nil (N.seq (W.region (Jx.move rfl rfl (Jx.add64 rfl rfl (by omega) rfl ?_))))))
 (refine Jx.assign rfl rfl (J.nil ?_))
 (refine id ?_; rotate_left))
    exact N.round (i + 1) h1 (by omega) rfl ⟨ref0 rfl, ⟨_, rfl, Sub.of_eq (by rw [hfin])⟩, ref0 rfl, trivial⟩
  · have hil : i = l.length := by omega
    have hfin : numB l.length ++ ((l.take i).map textB).flatten = listB l := by rw [hil, List.take_length]; rfl
    focus (
 (refine W.seq (W.seq (W.region (Jx.move rfl rfl (Jx.move rfl rfl (Jx.lenSl rfl rfl ?_))))))
 (refine Jx.lssI rfl rfl rfl (J.nil (N.seq (W.cF rfl ?_))))
 (refine W.exit (N.seq (W.seq (W.region (Jx.move rfl rfl (Jx.assign rfl rfl (J.nil (N.seq (W.ret ?_)))))))))
 (refine id ?_; rotate_left))
    exact N.ret (rs := [.tmp 2]) rfl (.tmp rfl .nil) ⟨by rw [hfin]; rfl, rfl⟩
def fewB (l : List (List UInt8)) (n e : Int) : Bool := decide ((l.length : Int) ≤ n) && l.all fun s => decide ((s.length : Int) ≤ e)
theorem few_ok (l : List (List UInt8)) (n e : Int) (hn : n ≤ 9223372036854775807) : FnC Tryd.prog 16 [ssl l, int n, int e] [] (fun s L => s = bool (fewB l n e) ∧ L = []) := by
  refine FnC.intro Tryd.func16 rfl Tryd.ntmps16 rfl fun Z w0 hG => ?_
  by_cases h0 : n < (l.length : Int)
  · focus (
 (refine W.seq (W.region (Jx.assign rfl rfl (J.nil (N.seq (W.seq (W.seq (W.region (Jx.move rfl rfl (Jx.lenSl rfl rfl ?_))))))))))
 (refine Jx.move rfl rfl (Jx.gtrI rfl rfl rfl (J.nil (N.seq (W.cT rfl ?_)))))
 (refine W.seq (W.region (Jx.assign rfl rfl (J.nil (N.seq (W.ret (N.seqRet ?_)))))))
 (refine id ?_; rotate_left))
    refine N.ret (rs := [.tmp 6]) rfl (.tmp rfl .nil) ⟨?_, rfl⟩
    simp [oneOr, fewB, show ¬ (l.length : Int) ≤ n by omega]
  · focus (
 (refine W.seq (W.region (Jx.assign rfl rfl (J.nil (N.seq (W.seq (W.seq (W.region (Jx.move rfl rfl (Jx.lenSl rfl rfl ?_))))))))))
 (refine Jx.move rfl rfl (Jx.gtrI rfl rfl rfl (J.nil (N.seq (W.cF rfl ?_)))))
 (refine W.skip (N.seq (W.seq (W.seq (W.region (Jx.assign rfl rfl (J.nil (N.seq (W.block ?_)))))))))
 (refine id ?_; rotate_left))
    refine W.loop (α := Nat) (fun i => [(7, int i), (2, int e), (0, ssl l)]) (fun _ => []) (fun i => i ≤ l.length ∧ ∀ s ∈ l.take i, (s.length : Int) ≤ e) (fun i => l.length - i) 0 ⟨by omega, by simp⟩ rfl ⟨ref0 rfl, ref0 rfl, ref0 rfl, trivial⟩ ?_
    rintro i ⟨hi, hall⟩
    by_cases h1 : i < l.length
    · have hm : l.getD i [] ∈ l := by rw [List.getD_eq_getElem?_getD, List.getElem?_eq_getElem h1]; exact List.getElem_mem _
      have hts : ∀ s ∈ l.take (i + 1), s ∈ l.take i ∨ s = l.getD i [] := fun s hs => by
        rw [List.take_add_one, List.getElem?_eq_getElem h1] at hs
        rw [List.getD_eq_getElem?_getD, List.getElem?_eq_getElem h1]
        simp only [Option.toList_some, List.mem_append, List.mem_singleton] at hs
        exact hs
      by_cases h2 : e < ((l.getD i []).length : Int)
      · focus (
 (refine W.seq (W.seq (W.region (Jx.move rfl rfl (Jx.move rfl rfl (Jx.lenSl rfl rfl ?_))))))
 (refine Jx.lssI rfl rfl rfl (J.nil (N.seq (W.cT rfl ?_))))
 (refine W.skip (N.seq (W.seq (W.block (W.seq (W.region (Jx.move rfl rfl (Jx.move rfl rfl (Jx.indexEl rfl rfl (by assumption) rfl rfl ?_)))))))))
 (refine Jx.loadPP rfl rfl ?_)
 (refine Jx.lenS rfl rfl ?_)
 (refine Jx.move rfl rfl (Jx.gtrI rfl rfl rfl (J.nil (N.seq (W.cT rfl ?_)))))
 (refine W.seq (W.region (Jx.assign rfl rfl (J.nil (N.seq (W.ret (N.blockRet (N.seqRet (N.seqRet (N.blockRet (N.seqRet ?_)))))))))))
 (refine id ?_; rotate_left))
        refine N.ret (rs := [.tmp 6]) rfl (.tmp rfl .nil) ⟨?_, rfl⟩
        have : l.all (fun s => decide ((s.length : Int) ≤ e)) = false := by
          rw [List.all_eq_false]; exact ⟨_, hm, by simp only [decide_eq_true_eq]; omega⟩
        simp [oneOr, fewB, this]
      · focus (
 (refine W.seq (W.seq (W.region (Jx.move rfl rfl (Jx.move rfl rfl (Jx.lenSl rfl rfl ?_))))))
 (refine Jx.lssI rfl rfl rfl (J.nil (N.seq (W.cT rfl ?_))))
 (refine W.skip (N.seq (W.seq (W.block (W.seq (W.region (Jx.move rfl rfl (Jx.move rfl rfl (Jx.indexEl rfl rfl (by assumption) rfl rfl ?_)))))))))
 (refine Jx.loadPP rfl rfl ?_)
 (refine Jx.lenS rfl rfl ?_)
 (refine Jx.move rfl rfl (Jx.gtrI rfl rfl rfl (J.nil (N.seq (W.cF rfl ?_)))))
 (refine W.skip (N.seq (W.region (Jx.move rfl rfl (Jx.add64 rfl rfl (by omega) rfl ?_)))))
 (refine Jx.assign rfl rfl (J.nil ?_))
 (refine id ?_; rotate_left))
        exact N.round (i + 1) ⟨h1, fun s hs => by rcases hts s hs with h | rfl; exact hall s h; omega⟩ (by omega) rfl ⟨ref0 rfl, ref0 rfl, ref0 rfl, trivial⟩
    · have hil : i = l.length := by omega
      focus (
 (refine W.seq (W.seq (W.region (Jx.move rfl rfl (Jx.move rfl rfl (Jx.lenSl rfl rfl ?_))))))
 (refine Jx.lssI rfl rfl rfl (J.nil (N.seq (W.cF rfl ?_))))
 (refine W.exit (N.seq (W.seq (W.region (Jx.assign rfl rfl (J.nil (N.seq (W.ret ?_))))))))
 (refine id ?_; rotate_left))
      refine N.ret (rs := [.tmp 6]) rfl (.tmp rfl .nil) ⟨?_, rfl⟩
      rw [hil, List.take_length] at hall
      have : l.all (fun s => decide ((s.length : Int) ≤ e)) = true := List.all_eq_true.2 fun s hs => by simpa using hall s hs
      simp only [oneOr, fewB, this, Bool.and_true]
      rw [decide_eq_true (by omega)]
end Go.Proofs.YtafefapbiekmbaaDoor
namespace Go.Proofs.YtafefapbiekmbaaDoor
open Go Go.Sse
set_option linter.unusedVariables false
set_option linter.unusedSimpArgs false
set_option maxRecDepth 10000
structure Nt where
  tag : Int
  text : List UInt8
  digest : List UInt8
theorem Nt.ext' {x y : Nt} (h1 : x.tag = y.tag) (h2 : x.text = y.text) (h3 : x.digest = y.digest) : x = y := by cases x; cases y; simp_all
instance : DecidableEq Nt := fun x y => decidable_of_iff ((x.tag = y.tag ∧ x.text = y.text) ∧ x.digest = y.digest) ⟨fun h => Nt.ext' h.1.1 h.1.2 h.2, fun h => by subst h; simp⟩
def ntC (n : Nt) : List SV := [.val (.int .i64 n.tag), str n.text, str n.digest]
def ntV (n : Nt) : List Value := [.int .i64 n.tag, sv n.text, sv n.digest]
def nt0 : Nt := ⟨0, [], []⟩
theorem ntV_inj (a b : Nt) (h : ntV a = ntV b) : a = b := by
  cases a; cases b
  simp only [ntV, List.cons.injEq, Value.int.injEq, Value.string.injEq, ByteArray.mk.injEq, and_true, true_and] at h
  obtain ⟨h1, h2, h3⟩ := h
  simp only [Nt.mk.injEq]
  exact ⟨h1, by simpa using h2, by simpa using h3⟩
theorem ntV_fit (a : Nt) : fitsL [.i .i64, .s, .s] (ntV a) = true := rfl
abbrev iV (i : Nat) : Value := .int .i64 (i : Int)
theorem lk_snoc {α β : Type} [DecidableEq α] (l : List (α × β)) (k k' : α) (v : β) : lk (l ++ [(k, v)]) k' = (lk l k').or (if k = k' then some v else none) := by
  induction l with
  | nil => by_cases h : k = k' <;> simp [lk, h]
  | cons p l ih =>
    by_cases h : p.1 = k'
    · simp [lk, h]
    · have e1 : lk (p :: l ++ [(k, v)]) k' = lk (l ++ [(k, v)]) k' := by simp [lk, h]
      have e2 : lk (p :: l) k' = lk l k' := by simp [lk, h]
      rw [e1, e2, ih]
def findP {α : Type} (p : α → Bool) : List α → Option Nat
  | [] => none
  | x :: r => if p x then some 0 else (findP p r).map (· + 1)
theorem findP_snoc {α : Type} (p : α → Bool) : ∀ (l : List α) (x : α), findP p (l ++ [x]) = (findP p l).or (if p x then some l.length else none)
  | [], x => by by_cases h : p x <;> simp [findP, h]
  | y :: l, x => by
    by_cases h : p y
    · simp [findP, h]
    · simp only [List.cons_append, findP, h, if_false, findP_snoc p l x, List.length_cons, Bool.false_eq_true]
      cases findP p l with
      | some i => simp
      | none => by_cases h2 : p x <;> simp [h2]
theorem findP_some {α : Type} {p : α → Bool} : ∀ {l : List α} {i : Nat} (d : α), findP p l = some i → i < l.length ∧ p (l.getD i d) = true ∧ ∀ j, j < i → p (l.getD j d) = false
  | [], i, d, h => by simp [findP] at h
  | x :: l, i, d, h => by
    by_cases hx : p x
    · simp only [findP, hx, if_true, Option.some.injEq] at h
      subst h
      exact ⟨by simp, by simpa using hx, fun j hj => by omega⟩
    · simp only [findP, hx, Bool.false_eq_true, if_false, Option.map_eq_some_iff] at h
      obtain ⟨k, hk, rfl⟩ := h
      obtain ⟨h1, h2, h3⟩ := findP_some d hk
      refine ⟨by simp; omega, by simpa using h2, fun j hj => ?_⟩
      cases j with
      | zero => simpa using hx
      | succ j => simpa using h3 j (by omega)
theorem findP_none {α : Type} {p : α → Bool} : ∀ {l : List α}, findP p l = none → ∀ x ∈ l, p x = false
  | [], _, x, hx => by simp at hx
  | y :: l, h, x, hx => by
    by_cases hy : p y
    · simp [findP, hy] at h
    · simp only [findP, hy, Bool.false_eq_true, if_false, Option.map_eq_none_iff] at h
      rcases List.mem_cons.1 hx with rfl | hx
      · simpa using hy
      · exact findP_none h x hx
def findD (all : List Nt) (s : List UInt8) : Option Nat := findP (fun n => decide (n.digest = s)) all
def findN (all : List Nt) (n : Nt) : Option Nat := findP (fun m => decide (m = n)) all
theorem findD_snoc (all : List Nt) (n : Nt) (s : List UInt8) : findD (all ++ [n]) s = (findD all s).or (if n.digest = s then some all.length else none) := by
  have := findP_snoc (fun n : Nt => decide (n.digest = s)) all n
  simpa [findD] using this
theorem findN_snoc (all : List Nt) (n m : Nt) : findN (all ++ [n]) m = (findN all m).or (if n = m then some all.length else none) := by
  have := findP_snoc (fun n : Nt => decide (n = m)) all n
  simpa [findN] using this
def clashI : List Nt → List Nt → Nat → Option Nat
  | _, [], _ => none
  | pre, n :: r, i => if (findD pre n.digest).isSome then some i else clashI (pre ++ [n]) r (i + 1)
def clashA (all : List Nt) : Option Nat := clashI [] all 0
theorem clashI_snoc : ∀ (l pre : List Nt) (n : Nt) (i : Nat), clashI pre (l ++ [n]) i = (clashI pre l i).or (if (findD (pre ++ l) n.digest).isSome then some (i + l.length) else none)
  | [], pre, n, i => by simp [clashI]
  | x :: l, pre, n, i => by
    by_cases h : (findD pre x.digest).isSome
    · simp [clashI, h]
    · simp only [List.cons_append, clashI, h, Bool.false_eq_true, if_false, clashI_snoc l (pre ++ [x]) n (i + 1), List.append_assoc, List.nil_append, List.length_cons]
      congr 2
      rw [show i + 1 + l.length = i + (l.length + 1) by omega]
theorem clashA_snoc (all : List Nt) (n : Nt) : clashA (all ++ [n]) = (clashA all).or (if (findD all n.digest).isSome then some all.length else none) := by
  have := clashI_snoc all [] n 0
  simpa [clashA] using this
structure LogInv (all : List Nt) (M : List (Nt × Value)) (K : List (List UInt8 × Value)) : Prop where
  there : ∀ n, lk M n = (findN all n).map iV
  first : ∀ s, lk K s = (findD all s).map iV
  nodup : all.Nodup
theorem inv_nil : LogInv [] [] [] := ⟨fun n => rfl, fun s => rfl, List.nodup_nil⟩
theorem findN_none {all : List Nt} {n : Nt} (h : findN all n = none) : n ∉ all := fun hn => by
  have := findP_none h n hn
  simp at this
theorem findN_mem {all : List Nt} {n : Nt} (h : n ∈ all) : (findN all n).isSome = true := by
  cases hf : findN all n with
  | none => exact absurd h (findN_none hf)
  | some i => rfl
theorem inv_put {all : List Nt} {M : List (Nt × Value)} {K : List (List UInt8 × Value)} (h : LogInv all M K) {n : Nt} (hn : n ∉ all) :
    LogInv (all ++ [n]) (M ++ [(n, iV all.length)]) (if (findD all n.digest).isSome then K else K ++ [(n.digest, iV all.length)]) := by
  refine ⟨fun m => ?_, fun s => ?_, ?_⟩
  · rw [lk_snoc, h.there, findN_snoc]
    cases findN all m with
    | some i => simp
    | none => by_cases e : n = m <;> simp [e]
  · rw [findD_snoc]
    by_cases hd : (findD all n.digest).isSome
    · rw [if_pos hd, h.first]
      cases hs : findD all s with
      | some i => simp
      | none =>
        by_cases e : n.digest = s
        · rw [e, hs] at hd; cases hd
        · simp [e]
    · rw [if_neg hd, lk_snoc, h.first]
      cases findD all s with
      | some i => simp
      | none => by_cases e : n.digest = s <;> simp [e]
  · rw [List.nodup_append]
    exact ⟨h.nodup, by simp, fun x hx y hy => by simp only [List.mem_singleton] at hy; subst hy; exact fun e => hn (e ▸ hx)⟩
end Go.Proofs.YtafefapbiekmbaaDoor
namespace Go.Proofs.YtafefapbiekmbaaDoor
open Go Go.Sse
set_option linter.unusedVariables false
set_option linter.unusedSimpArgs false
set_option maxRecDepth 10000
theorem findP_append {α : Type} {p : α → Bool} : ∀ {a b : List α} {j : Nat}, findP p a = some j → findP p (a ++ b) = some j
  | [], b, j, h => by simp [findP] at h
  | x :: a, b, j, h => by
    by_cases hx : p x
    · simpa [findP, hx] using h
    · simp only [findP, hx, Bool.false_eq_true, if_false, Option.map_eq_some_iff] at h
      obtain ⟨k, hk, rfl⟩ := h
      simp [findP, hx, findP_append (b := b) hk]
theorem getD_left {α : Type} {a b : List α} {d : α} {k : Nat} (h : k < a.length) : (a ++ b).getD k d = a.getD k d := by
  simp only [List.getD_eq_getElem?_getD, List.getElem?_append_left h]
theorem getD_mid {α : Type} {a b : List α} {d x : α} : (a ++ x :: b).getD a.length d = x := by
  simp [List.getD_eq_getElem?_getD]
def firstAt (all : List Nt) (k : Nat) : Prop := findD all (all.getD k nt0).digest = some k
theorem clashI_spec : ∀ (r pre : List Nt), (∀ k, k < pre.length → firstAt pre k) →
    (∀ i, clashI pre r pre.length = some i → i < (pre ++ r).length ∧ (∃ j, j < i ∧ findD (pre ++ r) ((pre ++ r).getD i nt0).digest = some j) ∧ ∀ k, k < i → firstAt (pre ++ r) k) ∧
    (clashI pre r pre.length = none → ∀ k, k < (pre ++ r).length → firstAt (pre ++ r) k)
  | [], pre, h => by
    refine ⟨fun i hi => by simp [clashI] at hi, fun _ k hk => ?_⟩
    rw [List.append_nil] at hk ⊢
    exact h k hk
  | n :: r, pre, h => by
    cases hd : findD pre n.digest with
    | some j =>
      obtain ⟨hj, _⟩ := findP_some nt0 hd
      have hc : clashI pre (n :: r) pre.length = some pre.length := by simp [clashI, hd]
      rw [hc]
      refine ⟨fun i hi => ?_, fun hi => by cases hi⟩
      cases hi
      refine ⟨by simp, ⟨j, hj, ?_⟩, fun k hk => ?_⟩
      · rw [getD_mid]; exact findP_append hd
      · unfold firstAt
        rw [getD_left hk]
        exact findP_append (h k hk)
    | none =>
      have hc : clashI pre (n :: r) pre.length = clashI (pre ++ [n]) r (pre ++ [n]).length := by simp [clashI, hd]
      rw [hc, show pre ++ n :: r = (pre ++ [n]) ++ r by simp]
      refine clashI_spec r (pre ++ [n]) fun k hk => ?_
      unfold firstAt
      rcases Nat.lt_or_ge k pre.length with hk2 | hk2
      · rw [getD_left hk2]
        exact findP_append (h k hk2)
      · obtain rfl : k = pre.length := by simp at hk; omega
        rw [getD_mid, findD_snoc, hd]
        simp
theorem clashA_some {all : List Nt} {i : Nat} (h : clashA all = some i) : i < all.length ∧ (∃ j, j < i ∧ findD all (all.getD i nt0).digest = some j) ∧ ∀ k, k < i → firstAt all k := by
  have := (clashI_spec all [] (fun k hk => by simp at hk)).1 i h
  simpa using this
theorem getD_mem' {α : Type} {l : List α} {d : α} {k : Nat} (h : k < l.length) : l.getD k d ∈ l := by
  rw [List.getD_eq_getElem?_getD, List.getElem?_eq_getElem h]; exact List.getElem_mem _
end Go.Proofs.YtafefapbiekmbaaDoor
namespace Go.Proofs.YtafefapbiekmbaaDoor
open Go Go.Sse
set_option linter.unusedVariables false
set_option linter.unusedSimpArgs false
set_option maxRecDepth 10000
noncomputable instance : TZero Tryd.prog 3 (.int .i64 0) := ⟨by kernel_rfl⟩
abbrev tNt : Nat := 28
abbrev tLog : Nat := 57
noncomputable instance : TKey Tryd.prog 28 [.i .i64, .s, .s] := ⟨inferInstance, by kernel_rfl⟩
def twI (all : List Nt) : Int := match clashA all with | some i => (i : Int) | none => -1
abbrev logO (b : Nat) (v : Value) (mt mf : Nat) (all : List Nt) (M : List (Nt × Value)) (K : List (List UInt8 × Value)) : List Own :=
  [.row v tNt 3 all.length (elOf ntC nt0 all), .obj b tLog [.val v, .val (.map (some mt)), .val (.map (some mf)), int (twI all)], mapO mt (M.map fun p => (.agg (ntV p.1).toArray, p.2)), mapO mf (K.map fun p => (sv p.1, p.2))]
theorem newLog_ok : FnC Tryd.prog 21 [] [] (fun s L => ∃ b v mt mf, s = ptr b ∧ L = logO b v mt mf [] [] []) := by
  refine FnC.intro Tryd.func21 rfl Tryd.ntmps21 rfl fun Z w0 hG => ?_
  focus (
 (refine W.seq (W.region (Jx.assign rfl rfl (J.nil (N.seq (W.seq (W.region ?_)))))))
 (refine J.makeMap rfl ?_; intro m)
 (refine J.makeMap rfl ?_; intro m)
 (refine Jx.buildB rfl rfl rfl rfl rfl ?_)
 (refine J.boxAg rfl rfl ?_; intro b')
 (refine Jx.assign rfl rfl (J.nil (N.seq (W.ret ?_))))
 (refine id ?_; rotate_left))
  refine N.rowNil tNt 3 (elOf ntC nt0 []) ?_
  refine N.perm (.cons _ (.cons _ (List.Perm.swap _ _ _))) ?_
  exact N.ret (rs := [.tmp 0]) rfl (.tmp rfl .nil) ⟨_, _, _, _, rfl, rfl⟩
def putR (all : List Nt) (n : Nt) : Int × List Nt :=
  if n.tag < 1 then (1, all) else if 255 < n.tag then (1, all) else if n.digest.length ≠ 32 then (3, all) else if n ∈ all then (0, all) else (0, all ++ [n])
set_option maxHeartbeats 2000000 in
theorem put_bad (b : Nat) (v : Value) (mt mf : Nat) (all : List Nt) (M : List (Nt × Value)) (K : List (List UInt8 × Value)) (n : Nt) (h : n.tag < 1 ∨ 255 < n.tag) :
    FnC Tryd.prog 12 [ptr b, .agg (ntC n)] (logO b v mt mf all M K) (fun r L => r = int 1 ∧ L = logO b v mt mf all M K) := by
  refine FnC.intro Tryd.func12 rfl Tryd.ntmps12 rfl fun Z w0 hG => ?_
  by_cases h1 : n.tag < 1
  · focus (
 (refine W.seq (W.region ?_))
 (refine J.boxAg rfl rfl ?_; intro b')
 (refine Jx.assign rfl rfl (J.nil (N.seq (W.seq (W.seq (W.region (Jx.fieldAddr rfl rfl ?_)))))))
 (refine Jx.load rfl 0 rfl rfl rfl ?_)
 (refine Jx.lssI rfl rfl rfl (Jx.move rfl rfl (J.gN rfl rfl rfl rfl ?_)))
 (refine J.gN rfl rfl rfl rfl ?_)
 (refine J.gN rfl rfl rfl rfl ?_)
 (refine Jx.pT rfl rfl rfl ?_)
 (refine J.nil (N.seq (W.cT rfl ?_)))
 (refine W.seq (W.region (Jx.assign rfl rfl (J.nil (N.seq (W.ret (N.noGotoRet ?_)))))))
 (refine id ?_; rotate_left))
    exact N.retD (rs := [.tmp 4]) rfl (.tmp rfl .nil) (List.sublist_cons_self _ _) ⟨rfl, rfl⟩
  · have h2 : 255 < n.tag := by omega
    focus (
 (refine W.seq (W.region ?_))
 (refine J.boxAg rfl rfl ?_; intro b')
 (refine Jx.assign rfl rfl (J.nil (N.seq (W.seq (W.seq (W.region (Jx.fieldAddr rfl rfl ?_)))))))
 (refine Jx.load rfl 0 rfl rfl rfl ?_)
 (refine Jx.lssI rfl rfl rfl (Jx.move rfl rfl (J.gY rfl rfl rfl ?_)))
 (refine Jx.fieldAddr rfl rfl ?_)
 (refine J.gY rfl rfl rfl ?_)
 (refine Jx.load rfl 0 rfl rfl rfl ?_)
 (refine J.gY rfl rfl rfl ?_)
 (refine Jx.gtrI rfl rfl rfl (Jx.pF rfl rfl rfl ?_))
 (refine J.nil (N.seq (W.cT rfl ?_)))
 (refine W.seq (W.region (Jx.assign rfl rfl (J.nil (N.seq (W.ret (N.noGotoRet ?_)))))))
 (refine id ?_; rotate_left))
    exact N.retD (rs := [.tmp 4]) rfl (.tmp rfl .nil) (List.sublist_cons_self _ _) ⟨rfl, rfl⟩
set_option maxHeartbeats 2000000 in
theorem put_form (b : Nat) (v : Value) (mt mf : Nat) (all : List Nt) (M : List (Nt × Value)) (K : List (List UInt8 × Value)) (n : Nt) (h1 : ¬ n.tag < 1) (h2 : ¬ 255 < n.tag) (h3 : n.digest.length ≠ 32) :
    FnC Tryd.prog 12 [ptr b, .agg (ntC n)] (logO b v mt mf all M K) (fun r L => r = int 3 ∧ L = logO b v mt mf all M K) := by
  have h4 : ¬ (n.digest.length : Int) = 32 := by omega
  refine FnC.intro Tryd.func12 rfl Tryd.ntmps12 rfl fun Z w0 hG => ?_
  focus (
 (refine W.seq (W.region ?_))
 (refine J.boxAg rfl rfl ?_; intro b')
 (refine Jx.assign rfl rfl (J.nil (N.seq (W.seq (W.seq (W.region (Jx.fieldAddr rfl rfl ?_)))))))
 (refine Jx.load rfl 0 rfl rfl rfl ?_)
 (refine Jx.lssI rfl rfl rfl (Jx.move rfl rfl (J.gY rfl rfl rfl ?_)))
 (refine Jx.fieldAddr rfl rfl ?_)
 (refine J.gY rfl rfl rfl ?_)
 (refine Jx.load rfl 0 rfl rfl rfl ?_)
 (refine J.gY rfl rfl rfl ?_)
 (refine Jx.gtrI rfl rfl rfl (Jx.pF rfl rfl rfl ?_))
 (refine J.nil (N.seq (W.cF rfl ?_)))
 (refine W.skip (N.seq (W.seq (W.seq (W.region (Jx.fieldAddr rfl rfl ?_))))))
 (refine Jx.load rfl 0 rfl rfl rfl ?_)
 (refine Jx.lenS rfl rfl ?_)
 (refine Jx.neqI rfl rfl rfl (J.nil (N.seq (W.cT rfl ?_))))
 (refine W.seq (W.region (Jx.assign rfl rfl (J.nil (N.seq (W.ret (N.noGotoRet ?_)))))))
 (refine id ?_; rotate_left))
  exact N.retD (rs := [.tmp 4]) rfl (.tmp rfl .nil) (List.sublist_cons_self _ _) ⟨rfl, rfl⟩
theorem getD_lt {all : List Nt} {n : Nt} {i : Nat} (h : findN all n = some i) : i < all.length ∧ all.getD i nt0 = n := by
  obtain ⟨h1, h2, _⟩ := findP_some nt0 h
  exact ⟨h1, by simpa using h2⟩
set_option maxHeartbeats 2000000 in
theorem put_there (b : Nat) (v : Value) (mt mf : Nat) (all : List Nt) (M : List (Nt × Value)) (K : List (List UInt8 × Value)) (n : Nt) (hI : LogInv all M K) (h1 : ¬ n.tag < 1) (h2 : ¬ 255 < n.tag) (h3 : n.digest.length = 32) (hn : n ∈ all) :
    FnC Tryd.prog 12 [ptr b, .agg (ntC n)] (logO b v mt mf all M K) (fun r L => r = int 0 ∧ L = logO b v mt mf all M K) := by
  have h4 : (n.digest.length : Int) = 32 := by omega
  have hlk := hI.there n
  obtain ⟨i, hi⟩ := Option.isSome_iff_exists.1 (findN_mem hn)
  rw [hi] at hlk
  obtain ⟨hlt, hgi⟩ := getD_lt hi
  have hel : elOf ntC nt0 all i = ntC n := by rw [← hgi]; rfl
  refine FnC.intro Tryd.func12 rfl Tryd.ntmps12 rfl fun Z w0 hG => ?_
  refine W.rowView 0 rfl (by omega) ?_
  rintro r cap rfl hc1 hc2
  focus (
 (refine W.seq (W.region ?_))
 (refine J.boxAg rfl rfl ?_; intro b')
 (refine Jx.assign rfl rfl (J.nil (N.seq (W.seq (W.seq (W.region (Jx.fieldAddr rfl rfl ?_)))))))
 (refine Jx.load rfl 0 rfl rfl rfl ?_)
 (refine Jx.lssI rfl rfl rfl (Jx.move rfl rfl (J.gY rfl rfl rfl ?_)))
 (refine Jx.fieldAddr rfl rfl ?_)
 (refine J.gY rfl rfl rfl ?_)
 (refine Jx.load rfl 0 rfl rfl rfl ?_)
 (refine J.gY rfl rfl rfl ?_)
 (refine Jx.gtrI rfl rfl rfl (Jx.pF rfl rfl rfl ?_))
 (refine J.nil (N.seq (W.cF rfl ?_)))
 (refine W.skip (N.seq (W.seq (W.seq (W.region (Jx.fieldAddr rfl rfl ?_))))))
 (refine Jx.load rfl 0 rfl rfl rfl ?_)
 (refine Jx.lenS rfl rfl ?_)
 (refine Jx.neqI rfl rfl rfl (J.nil (N.seq (W.cF rfl ?_))))
 (refine W.skip (N.seq (W.seq (W.seq ?_))))
 (refine W.draw follows ?_)
 (refine JD.calm rfl (by decide +kernel) ?_)
 (refine Cx.move rfl rfl ?_)
 (refine Cx.nilCheck rfl rfl ?_)
 (refine Cx.fieldAddr rfl rfl ?_)
 (refine Cx.load rfl 2 rfl rfl rfl ?_)
 (refine Cx.loadAll rfl 0 rfl rfl rfl ?_)
 (refine Cx.lookupA ntV ntV_fit ntV_inj rfl rfl rfl 3 rfl rfl ?_; rw [hlk])
 (refine Cx.move rfl rfl ?_)
 (refine Cx.extract rfl rfl rfl ?_)
 (refine Cx.extract rfl rfl rfl ?_)
 (refine Cx.assign rfl rfl ?_)
 (refine Cx.assign rfl rfl ?_)
 (refine SegC.nil ?_)
 (refine N.seq (W.seq ?_))
 (refine W.draw follows ?_)
 (refine JD.calm rfl (by decide +kernel) ?_)
 (refine Cx.move rfl rfl ?_)
 (refine Cx.move rfl rfl ?_)
 (refine SegC.gY rfl rfl rfl ?_)
 (refine Cx.move rfl rfl ?_)
 (refine SegC.gY rfl rfl rfl ?_)
 (refine Cx.nilCheck rfl rfl ?_)
 (refine SegC.gY rfl rfl rfl ?_)
 (refine Cx.fieldAddr rfl rfl ?_)
 (refine SegC.gY rfl rfl rfl ?_)
 (refine Cx.load rfl 2 rfl rfl rfl ?_)
 (refine SegC.gY rfl rfl rfl ?_)
 (refine Cx.move rfl rfl ?_)
 (refine SegC.gY rfl rfl rfl ?_)
 (refine Cx.indexRow i rfl rfl rfl hlt rfl ?_)
 (refine SegC.gY rfl rfl rfl ?_)
 (refine Cx.loadRowAg rfl 1 rfl i rfl hlt hel rfl ?_)
 (refine SegC.gY rfl rfl rfl ?_)
 (refine Cx.loadAll rfl 0 rfl rfl rfl ?_)
 (refine SegC.gY rfl rfl rfl ?_)
 (refine Cx.eqlAg true rfl rfl rfl rfl rfl rfl ⟨fun _ => rfl, fun _ => rfl⟩ rfl ?_)
 (refine Cx.pickT rfl (by first | rfl | assumption | (exact decide_eq_true (by first | assumption | omega | rfl)) | (exact decide_eq_false (by first | assumption | omega | rfl)) | (simp; done) | (simp; omega)) rfl rfl ?_)
 (refine SegC.nil ?_)
 (refine N.seq (W.cT rfl ?_))
 (refine W.seq (W.region (Jx.assign rfl rfl (J.nil (N.seq (W.ret (N.noGotoRet ?_)))))))
 (refine id ?_; rotate_left))
  exact N.retD (rs := [.tmp 4]) rfl (.tmp rfl .nil) (List.sublist_cons_self _ _) ⟨rfl, rfl⟩
end Go.Proofs.YtafefapbiekmbaaDoor
namespace Go.Proofs.YtafefapbiekmbaaDoor
open Go Go.Sse
set_option linter.unusedVariables false
set_option linter.unusedSimpArgs false
set_option maxRecDepth 10000
theorem findN_not {all : List Nt} {n : Nt} (h : n ∉ all) : findN all n = none := by
  cases hf : findN all n with
  | none => rfl
  | some i =>
    obtain ⟨h1, h2⟩ := getD_lt hf
    exact absurd (h2 ▸ getD_mem' h1) h
set_option maxHeartbeats 4000000 in
theorem put_first (b : Nat) (v : Value) (mt mf : Nat) (all : List Nt) (M : List (Nt × Value)) (K : List (List UInt8 × Value)) (n : Nt) (hI : LogInv all M K) (h1 : ¬ n.tag < 1) (h2 : ¬ 255 < n.tag) (h3 : n.digest.length = 32) (hn : n ∉ all) (hl : all.length < 1024) (hd : findD all n.digest = none) :
    FnC Tryd.prog 12 [ptr b, .agg (ntC n)] (logO b v mt mf all M K) (fun r L => ∃ v' M' K', r = int 0 ∧ L = logO b v' mt mf (all ++ [n]) M' K' ∧ LogInv (all ++ [n]) M' K') := by
  have h4 : (n.digest.length : Int) = 32 := by omega
  have hlk : lk M n = none := by rw [hI.there, findN_not hn]; rfl
  have hlk2 : lk K n.digest = none := by rw [hI.first, hd]; rfl
  have hinv := inv_put hI hn
  rw [hd] at hinv
  have htw : twI (all ++ [n]) = twI all := by simp [twI, clashA_snoc, hd]
  have hmx : all.length + [n].length ≤ maxLen ∧ (all.length + [n].length) * 40 ≤ 140737488355328 := by simp only [maxLen, List.length_cons, List.length_nil]; omega
  have hge : ¬ (1024 : Int) ≤ (all.length : Int) := by omega
  refine FnC.intro Tryd.func12 rfl Tryd.ntmps12 rfl fun Z w0 hG => ?_
  focus (
 (refine W.seq (W.region ?_))
 (refine J.boxAg rfl rfl ?_; intro b')
 (refine Jx.assign rfl rfl (J.nil (N.seq (W.seq (W.seq (W.region (Jx.fieldAddr rfl rfl ?_)))))))
 (refine Jx.load rfl 0 rfl rfl rfl ?_)
 (refine Jx.lssI rfl rfl rfl (Jx.move rfl rfl (J.gY rfl rfl rfl ?_)))
 (refine Jx.fieldAddr rfl rfl ?_)
 (refine J.gY rfl rfl rfl ?_)
 (refine Jx.load rfl 0 rfl rfl rfl ?_)
 (refine J.gY rfl rfl rfl ?_)
 (refine Jx.gtrI rfl rfl rfl (Jx.pF rfl rfl rfl ?_))
 (refine J.nil (N.seq (W.cF rfl ?_)))
 (refine W.skip (N.seq (W.seq (W.seq (W.region (Jx.fieldAddr rfl rfl ?_))))))
 (refine Jx.load rfl 0 rfl rfl rfl ?_)
 (refine Jx.lenS rfl rfl ?_)
 (refine Jx.neqI rfl rfl rfl (J.nil (N.seq (W.cF rfl ?_))))
 (refine W.skip (N.seq (W.seq (W.seq ?_))))
 (refine W.draw follows ?_)
 (refine JD.calm rfl (by decide +kernel) ?_)
 (refine Cx.move rfl rfl ?_)
 (refine Cx.nilCheck rfl rfl ?_)
 (refine Cx.fieldAddr rfl rfl ?_)
 (refine Cx.load rfl 2 rfl rfl rfl ?_)
 (refine Cx.loadAll rfl 0 rfl rfl rfl ?_)
 (refine Cx.lookupA ntV ntV_fit ntV_inj rfl rfl rfl 3 rfl rfl ?_; rw [hlk])
 (refine Cx.move rfl rfl ?_)
 (refine Cx.extract rfl rfl rfl ?_)
 (refine Cx.extract rfl rfl rfl ?_)
 (refine Cx.assign rfl rfl ?_)
 (refine Cx.assign rfl rfl ?_)
 (refine SegC.nil ?_)
 (refine N.seq (W.seq ?_))
 (refine W.draw follows ?_)
 (refine JD.calm rfl (by decide +kernel) ?_)
 (refine Cx.move rfl rfl ?_)
 (refine Cx.move rfl rfl ?_)
 (refine SegC.gU rfl rfl rfl rfl ?_)
 (refine SegC.gU rfl rfl rfl rfl ?_)
 (refine SegC.gU rfl rfl rfl rfl ?_)
 (refine SegC.gU rfl rfl rfl rfl ?_)
 (refine SegC.gU rfl rfl rfl rfl ?_)
 (refine SegC.gU rfl rfl rfl rfl ?_)
 (refine SegC.gU rfl rfl rfl rfl ?_)
 (refine SegC.gU rfl rfl rfl rfl ?_)
 (refine SegC.gU rfl rfl rfl rfl ?_)
 (refine Cx.pickF rfl (by first | rfl | assumption | (exact decide_eq_true (by first | assumption | omega | rfl)) | (exact decide_eq_false (by first | assumption | omega | rfl)) | (simp; done) | (simp; omega)) rfl rfl ?_)
 (refine SegC.nil ?_)
 (refine N.seq (W.cF rfl ?_))
 (refine W.skip (N.seq (W.seq (W.seq (W.region (Jx.move rfl rfl (Jx.nilCheck rfl rfl ?_)))))))
 (refine Jx.fieldAddr rfl rfl ?_)
 (refine Jx.load rfl 2 rfl rfl rfl ?_)
 (refine Jx.lenRow rfl 1 rfl rfl ?_)
 (refine Jx.geqI rfl rfl rfl (J.nil (N.seq (W.cF rfl ?_))))
 (refine W.skip (N.seq (W.seq (W.region (Jx.move rfl rfl (Jx.nilCheck rfl rfl ?_))))))
 (refine Jx.fieldAddr rfl rfl ?_)
 (refine Jx.load rfl 2 rfl rfl rfl ?_)
 (refine Jx.lenRow rfl 1 rfl rfl ?_)
 (refine Jx.assign rfl rfl (J.nil (N.seq (W.seq ?_))))
 (refine W.draw follows ?_)
 (refine JD.begin (ops := [_, _, _, _, _, _, ⟨_, .buildSlice _ _ _, _, _, _, _⟩, _, _, _, _].toArray) 11 rfl ?_; refine JP.more [0, 1, 2, 3, 4, 5, 6] _ rfl (by decide +kernel) ?_)
 (refine Cx.move rfl rfl ?_)
 (refine Cx.move rfl rfl ?_)
 (refine Cx.nilCheck rfl rfl ?_)
 (refine Cx.fieldAddr rfl rfl ?_)
 (refine Cx.load rfl 2 rfl rfl rfl ?_)
 (refine Cx.loadAll rfl 0 rfl rfl rfl ?_)
 (refine SegC.q (Qs.buildOne ntC nt0 n rfl rfl rfl rfl rfl rfl rfl) rfl ?_)
 (refine SegC.nil ?_)
 (refine JP.perm (List.Perm.swap _ _ _) ?_; refine JP.append (idx := [0, 1, 2, 3, 4, 5, 6]) (m := all) (m2 := [n]) 7 [58, 60] [1, 2, 3, 4, 5, 6, 7] [0] (by decide +kernel) rfl ?_ rfl (SrcOK.sl rfl) rfl rfl hmx rfl ?_; rotate_left; intro v' hv'; rotate_left)
 (refine Cx.move rfl rfl ?_)
 (refine Cx.move rfl rfl ?_)
 (refine Cx.nilCheck rfl rfl ?_)
 (refine Cx.fieldAddr rfl rfl ?_)
 (refine Cx.load rfl 2 rfl rfl rfl ?_)
 (refine Cx.loadAll rfl 1 rfl rfl rfl ?_)
 (refine SegC.q (Qs.buildOne ntC nt0 n rfl rfl rfl rfl rfl rfl rfl) rfl ?_)
 (refine SegC.nil ?_)
 (refine Ag.cons rfl ?_)
 (refine Ag.cons rfl ?_)
 (refine Ag.cons rfl ?_)
 (refine Ag.cons rfl ?_)
 (refine Ag.cons rfl ?_)
 (refine Ag.cons rfl ?_)
 (refine Ag.cons rfl ?_)
 (refine Ag.nil)
 (refine JP.tail (idx := [0]) 8 (by decide +kernel) (by decide +kernel) rfl rfl ?_ ?_)
 (refine Cx.move rfl rfl ?_)
 (refine SegC.nil ?_)
 (refine Ag.cons rfl ?_)
 (refine Ag.nil)
 (refine Jx.nilCheck rfl rfl ?_)
 (refine Jx.fieldAddr rfl rfl ?_)
 (refine J.store rfl rfl (One.val hv') 2 rfl rfl rfl rfl ?_)
 (refine J.nil (N.seq (W.seq ?_)))
 (refine W.draw follows ?_)
 (refine JD.till (l := [_, _, _, _, _, _, ⟨none, .mapUpdate _ _ _ _, _, _, _, none⟩]) 6 (by decide +kernel) (by decide +kernel) rfl rfl ?_)
 (refine Cx.move rfl rfl ?_)
 (refine Cx.nilCheck rfl rfl ?_)
 (refine Cx.fieldAddr rfl rfl ?_)
 (refine Cx.load rfl 2 rfl rfl rfl ?_)
 (refine Cx.loadAll rfl 1 rfl rfl rfl ?_)
 (refine Cx.move rfl rfl ?_)
 (refine SegC.nil ?_)
 (refine J.mapUpdA ntV ntV_fit ntV_inj rfl rfl rfl rfl 3 rfl hlk rfl ?_)
 (refine J.nil (N.seq (W.seq (W.seq ?_))))
 (refine W.draw follows ?_)
 (refine JD.calm rfl (by decide +kernel) ?_)
 (refine Cx.move rfl rfl ?_)
 (refine Cx.nilCheck rfl rfl ?_)
 (refine Cx.fieldAddr rfl rfl ?_)
 (refine Cx.load rfl 2 rfl rfl rfl ?_)
 (refine Cx.fieldAddr rfl rfl ?_)
 (refine Cx.load rfl 1 rfl rfl rfl ?_)
 (refine Cx.lookupS rfl rfl 4 rfl rfl ?_; rw [hlk2])
 (refine Cx.move rfl rfl ?_)
 (refine Cx.extract rfl rfl rfl ?_)
 (refine Cx.extract rfl rfl rfl ?_)
 (refine Cx.assign rfl rfl ?_)
 (refine Cx.assign rfl rfl ?_)
 (refine SegC.nil ?_)
 (refine N.seq (W.seq (W.region (Jx.move rfl rfl (Jx.not rfl rfl (J.nil (N.seq (W.cT rfl ?_))))))))
 (refine W.draw follows ?_)
 (refine JD.till (l := [_, _, _, _, _, _, _, ⟨none, .mapUpdate _ _ _ _, _, _, _, none⟩]) 7 (by decide +kernel) (by decide +kernel) rfl rfl ?_)
 (refine Cx.move rfl rfl ?_)
 (refine Cx.nilCheck rfl rfl ?_)
 (refine Cx.fieldAddr rfl rfl ?_)
 (refine Cx.load rfl 2 rfl rfl rfl ?_)
 (refine Cx.fieldAddr rfl rfl ?_)
 (refine Cx.load rfl 1 rfl rfl rfl ?_)
 (refine Cx.move rfl rfl ?_)
 (refine SegC.nil ?_)
 (refine J.mapUpdS rfl rfl rfl 4 rfl hlk2 rfl ?_)
 (refine J.nil (N.seq (W.seq (W.region (Jx.assign rfl rfl (J.nil (N.seq (W.ret ?_))))))))
 (refine id ?_; rotate_left))
  refine N.retD (rs := [.tmp 4]) rfl (.tmp rfl .nil) (.cons_cons _ (.cons _ (List.Sublist.refl _))) ⟨v', M ++ [(n, iV all.length)], K ++ [(n.digest, iV all.length)], rfl, ?_, hinv⟩
  simp only [logO, htw] <;> rfl
set_option maxHeartbeats 4000000 in
theorem put_again (b : Nat) (v : Value) (mt mf : Nat) (all : List Nt) (M : List (Nt × Value)) (K : List (List UInt8 × Value)) (n : Nt) (hI : LogInv all M K) (h1 : ¬ n.tag < 1) (h2 : ¬ 255 < n.tag) (h3 : n.digest.length = 32) (hn : n ∉ all) (hl : all.length < 1024) (j : Nat) (hd : findD all n.digest = some j) :
    FnC Tryd.prog 12 [ptr b, .agg (ntC n)] (logO b v mt mf all M K) (fun r L => ∃ v' M' K', r = int 0 ∧ L = logO b v' mt mf (all ++ [n]) M' K' ∧ LogInv (all ++ [n]) M' K') := by
  have h4 : (n.digest.length : Int) = 32 := by omega
  have hlk : lk M n = none := by rw [hI.there, findN_not hn]; rfl
  have hlk2 : lk K n.digest = some (iV j) := by rw [hI.first, hd]; rfl
  have hinv := inv_put hI hn
  rw [hd] at hinv
  have hmx : all.length + [n].length ≤ maxLen ∧ (all.length + [n].length) * 40 ≤ 140737488355328 := by simp only [maxLen, List.length_cons, List.length_nil]; omega
  have hge : ¬ (1024 : Int) ≤ (all.length : Int) := by omega
  refine FnC.intro Tryd.func12 rfl Tryd.ntmps12 rfl fun Z w0 hG => ?_
  cases hc : clashA all with
  | none =>
    have htw0 : twI all = -1 := by simp [twI, hc]
    have htw : twI (all ++ [n]) = (all.length : Int) := by simp [twI, clashA_snoc, hc, hd]
    simp only [logO]
    rw [htw0]
    focus (
 (refine W.seq (W.region ?_))
 (refine J.boxAg rfl rfl ?_; intro b')
 (refine Jx.assign rfl rfl (J.nil (N.seq (W.seq (W.seq (W.region (Jx.fieldAddr rfl rfl ?_)))))))
 (refine Jx.load rfl 0 rfl rfl rfl ?_)
 (refine Jx.lssI rfl rfl rfl (Jx.move rfl rfl (J.gY rfl rfl rfl ?_)))
 (refine Jx.fieldAddr rfl rfl ?_)
 (refine J.gY rfl rfl rfl ?_)
 (refine Jx.load rfl 0 rfl rfl rfl ?_)
 (refine J.gY rfl rfl rfl ?_)
 (refine Jx.gtrI rfl rfl rfl (Jx.pF rfl rfl rfl ?_))
 (refine J.nil (N.seq (W.cF rfl ?_)))
 (refine W.skip (N.seq (W.seq (W.seq (W.region (Jx.fieldAddr rfl rfl ?_))))))
 (refine Jx.load rfl 0 rfl rfl rfl ?_)
 (refine Jx.lenS rfl rfl ?_)
 (refine Jx.neqI rfl rfl rfl (J.nil (N.seq (W.cF rfl ?_))))
 (refine W.skip (N.seq (W.seq (W.seq ?_))))
 (refine W.draw follows ?_)
 (refine JD.calm rfl (by decide +kernel) ?_)
 (refine Cx.move rfl rfl ?_)
 (refine Cx.nilCheck rfl rfl ?_)
 (refine Cx.fieldAddr rfl rfl ?_)
 (refine Cx.load rfl 2 rfl rfl rfl ?_)
 (refine Cx.loadAll rfl 0 rfl rfl rfl ?_)
 (refine Cx.lookupA ntV ntV_fit ntV_inj rfl rfl rfl 3 rfl rfl ?_; rw [hlk])
 (refine Cx.move rfl rfl ?_)
 (refine Cx.extract rfl rfl rfl ?_)
 (refine Cx.extract rfl rfl rfl ?_)
 (refine Cx.assign rfl rfl ?_)
 (refine Cx.assign rfl rfl ?_)
 (refine SegC.nil ?_)
 (refine N.seq (W.seq ?_))
 (refine W.draw follows ?_)
 (refine JD.calm rfl (by decide +kernel) ?_)
 (refine Cx.move rfl rfl ?_)
 (refine Cx.move rfl rfl ?_)
 (refine SegC.gU rfl rfl rfl rfl ?_)
 (refine SegC.gU rfl rfl rfl rfl ?_)
 (refine SegC.gU rfl rfl rfl rfl ?_)
 (refine SegC.gU rfl rfl rfl rfl ?_)
 (refine SegC.gU rfl rfl rfl rfl ?_)
 (refine SegC.gU rfl rfl rfl rfl ?_)
 (refine SegC.gU rfl rfl rfl rfl ?_)
 (refine SegC.gU rfl rfl rfl rfl ?_)
 (refine SegC.gU rfl rfl rfl rfl ?_)
 (refine Cx.pickF rfl (by first | rfl | assumption | (exact decide_eq_true (by first | assumption | omega | rfl)) | (exact decide_eq_false (by first | assumption | omega | rfl)) | (simp; done) | (simp; omega)) rfl rfl ?_)
 (refine SegC.nil ?_)
 (refine N.seq (W.cF rfl ?_))
 (refine W.skip (N.seq (W.seq (W.seq (W.region (Jx.move rfl rfl (Jx.nilCheck rfl rfl ?_)))))))
 (refine Jx.fieldAddr rfl rfl ?_)
 (refine Jx.load rfl 2 rfl rfl rfl ?_)
 (refine Jx.lenRow rfl 1 rfl rfl ?_)
 (refine Jx.geqI rfl rfl rfl (J.nil (N.seq (W.cF rfl ?_))))
 (refine W.skip (N.seq (W.seq (W.region (Jx.move rfl rfl (Jx.nilCheck rfl rfl ?_))))))
 (refine Jx.fieldAddr rfl rfl ?_)
 (refine Jx.load rfl 2 rfl rfl rfl ?_)
 (refine Jx.lenRow rfl 1 rfl rfl ?_)
 (refine Jx.assign rfl rfl (J.nil (N.seq (W.seq ?_))))
 (refine W.draw follows ?_)
 (refine JD.begin (ops := [_, _, _, _, _, _, ⟨_, .buildSlice _ _ _, _, _, _, _⟩, _, _, _, _].toArray) 11 rfl ?_; refine JP.more [0, 1, 2, 3, 4, 5, 6] _ rfl (by decide +kernel) ?_)
 (refine Cx.move rfl rfl ?_)
 (refine Cx.move rfl rfl ?_)
 (refine Cx.nilCheck rfl rfl ?_)
 (refine Cx.fieldAddr rfl rfl ?_)
 (refine Cx.load rfl 2 rfl rfl rfl ?_)
 (refine Cx.loadAll rfl 0 rfl rfl rfl ?_)
 (refine SegC.q (Qs.buildOne ntC nt0 n rfl rfl rfl rfl rfl rfl rfl) rfl ?_)
 (refine SegC.nil ?_)
 (refine JP.perm (List.Perm.swap _ _ _) ?_; refine JP.append (idx := [0, 1, 2, 3, 4, 5, 6]) (m := all) (m2 := [n]) 7 [58, 60] [1, 2, 3, 4, 5, 6, 7] [0] (by decide +kernel) rfl ?_ rfl (SrcOK.sl rfl) rfl rfl hmx rfl ?_; rotate_left; intro v' hv'; rotate_left)
 (refine Cx.move rfl rfl ?_)
 (refine Cx.move rfl rfl ?_)
 (refine Cx.nilCheck rfl rfl ?_)
 (refine Cx.fieldAddr rfl rfl ?_)
 (refine Cx.load rfl 2 rfl rfl rfl ?_)
 (refine Cx.loadAll rfl 1 rfl rfl rfl ?_)
 (refine SegC.q (Qs.buildOne ntC nt0 n rfl rfl rfl rfl rfl rfl rfl) rfl ?_)
 (refine SegC.nil ?_)
 (refine Ag.cons rfl ?_)
 (refine Ag.cons rfl ?_)
 (refine Ag.cons rfl ?_)
 (refine Ag.cons rfl ?_)
 (refine Ag.cons rfl ?_)
 (refine Ag.cons rfl ?_)
 (refine Ag.cons rfl ?_)
 (refine Ag.nil)
 (refine JP.tail (idx := [0]) 8 (by decide +kernel) (by decide +kernel) rfl rfl ?_ ?_)
 (refine Cx.move rfl rfl ?_)
 (refine SegC.nil ?_)
 (refine Ag.cons rfl ?_)
 (refine Ag.nil)
 (refine Jx.nilCheck rfl rfl ?_)
 (refine Jx.fieldAddr rfl rfl ?_)
 (refine J.store rfl rfl (One.val hv') 2 rfl rfl rfl rfl ?_)
 (refine J.nil (N.seq (W.seq ?_)))
 (refine W.draw follows ?_)
 (refine JD.till (l := [_, _, _, _, _, _, ⟨none, .mapUpdate _ _ _ _, _, _, _, none⟩]) 6 (by decide +kernel) (by decide +kernel) rfl rfl ?_)
 (refine Cx.move rfl rfl ?_)
 (refine Cx.nilCheck rfl rfl ?_)
 (refine Cx.fieldAddr rfl rfl ?_)
 (refine Cx.load rfl 2 rfl rfl rfl ?_)
 (refine Cx.loadAll rfl 1 rfl rfl rfl ?_)
 (refine Cx.move rfl rfl ?_)
 (refine SegC.nil ?_)
 (refine J.mapUpdA ntV ntV_fit ntV_inj rfl rfl rfl rfl 3 rfl hlk rfl ?_)
 (refine J.nil (N.seq (W.seq (W.seq ?_))))
 (refine W.draw follows ?_)
 (refine JD.calm rfl (by decide +kernel) ?_)
 (refine Cx.move rfl rfl ?_)
 (refine Cx.nilCheck rfl rfl ?_)
 (refine Cx.fieldAddr rfl rfl ?_)
 (refine Cx.load rfl 2 rfl rfl rfl ?_)
 (refine Cx.fieldAddr rfl rfl ?_)
 (refine Cx.load rfl 1 rfl rfl rfl ?_)
 (refine Cx.lookupS rfl rfl 4 rfl rfl ?_; rw [hlk2])
 (refine Cx.move rfl rfl ?_)
 (refine Cx.extract rfl rfl rfl ?_)
 (refine Cx.extract rfl rfl rfl ?_)
 (refine Cx.assign rfl rfl ?_)
 (refine Cx.assign rfl rfl ?_)
 (refine SegC.nil ?_)
 (refine N.seq (W.seq (W.region (Jx.move rfl rfl (Jx.not rfl rfl (J.nil (N.seq (W.cF rfl ?_))))))))
 (refine W.seq (W.region (Jx.move rfl rfl (Jx.nilCheck rfl rfl ?_))))
 (refine Jx.fieldAddr rfl rfl ?_)
 (refine Jx.load rfl 2 rfl rfl rfl ?_)
 (refine Jx.lssI rfl rfl rfl (J.nil (N.seq (W.cT rfl ?_))))
 (refine W.region (Jx.move rfl rfl (Jx.move rfl rfl (Jx.nilCheck rfl rfl ?_))))
 (refine Jx.fieldAddr rfl rfl ?_)
 (refine J.st 2 rfl rfl rfl rfl rfl rfl ?_)
 (refine J.nil (N.seq (W.seq (W.region (Jx.assign rfl rfl (J.nil (N.seq (W.ret ?_))))))))
 (refine id ?_; rotate_left))
    refine N.retD (rs := [.tmp 4]) rfl (.tmp rfl .nil) (.cons_cons _ (.cons _ (List.Sublist.refl _))) ⟨v', M ++ [(n, iV all.length)], K, rfl, ?_, hinv⟩
    simp only [logO, htw] <;> rfl
  | some i =>
    have htw0 : twI all = (i : Int) := by simp [twI, hc]
    have htw : twI (all ++ [n]) = (i : Int) := by simp [twI, clashA_snoc, hc, hd]
    have hi0 : ¬ (i : Int) < 0 := by omega
    simp only [logO]
    rw [htw0]
    focus (
 (refine W.seq (W.region ?_))
 (refine J.boxAg rfl rfl ?_; intro b')
 (refine Jx.assign rfl rfl (J.nil (N.seq (W.seq (W.seq (W.region (Jx.fieldAddr rfl rfl ?_)))))))
 (refine Jx.load rfl 0 rfl rfl rfl ?_)
 (refine Jx.lssI rfl rfl rfl (Jx.move rfl rfl (J.gY rfl rfl rfl ?_)))
 (refine Jx.fieldAddr rfl rfl ?_)
 (refine J.gY rfl rfl rfl ?_)
 (refine Jx.load rfl 0 rfl rfl rfl ?_)
 (refine J.gY rfl rfl rfl ?_)
 (refine Jx.gtrI rfl rfl rfl (Jx.pF rfl rfl rfl ?_))
 (refine J.nil (N.seq (W.cF rfl ?_)))
 (refine W.skip (N.seq (W.seq (W.seq (W.region (Jx.fieldAddr rfl rfl ?_))))))
 (refine Jx.load rfl 0 rfl rfl rfl ?_)
 (refine Jx.lenS rfl rfl ?_)
 (refine Jx.neqI rfl rfl rfl (J.nil (N.seq (W.cF rfl ?_))))
 (refine W.skip (N.seq (W.seq (W.seq ?_))))
 (refine W.draw follows ?_)
 (refine JD.calm rfl (by decide +kernel) ?_)
 (refine Cx.move rfl rfl ?_)
 (refine Cx.nilCheck rfl rfl ?_)
 (refine Cx.fieldAddr rfl rfl ?_)
 (refine Cx.load rfl 2 rfl rfl rfl ?_)
 (refine Cx.loadAll rfl 0 rfl rfl rfl ?_)
 (refine Cx.lookupA ntV ntV_fit ntV_inj rfl rfl rfl 3 rfl rfl ?_; rw [hlk])
 (refine Cx.move rfl rfl ?_)
 (refine Cx.extract rfl rfl rfl ?_)
 (refine Cx.extract rfl rfl rfl ?_)
 (refine Cx.assign rfl rfl ?_)
 (refine Cx.assign rfl rfl ?_)
 (refine SegC.nil ?_)
 (refine N.seq (W.seq ?_))
 (refine W.draw follows ?_)
 (refine JD.calm rfl (by decide +kernel) ?_)
 (refine Cx.move rfl rfl ?_)
 (refine Cx.move rfl rfl ?_)
 (refine SegC.gU rfl rfl rfl rfl ?_)
 (refine SegC.gU rfl rfl rfl rfl ?_)
 (refine SegC.gU rfl rfl rfl rfl ?_)
 (refine SegC.gU rfl rfl rfl rfl ?_)
 (refine SegC.gU rfl rfl rfl rfl ?_)
 (refine SegC.gU rfl rfl rfl rfl ?_)
 (refine SegC.gU rfl rfl rfl rfl ?_)
 (refine SegC.gU rfl rfl rfl rfl ?_)
 (refine SegC.gU rfl rfl rfl rfl ?_)
 (refine Cx.pickF rfl (by first | rfl | assumption | (exact decide_eq_true (by first | assumption | omega | rfl)) | (exact decide_eq_false (by first | assumption | omega | rfl)) | (simp; done) | (simp; omega)) rfl rfl ?_)
 (refine SegC.nil ?_)
 (refine N.seq (W.cF rfl ?_))
 (refine W.skip (N.seq (W.seq (W.seq (W.region (Jx.move rfl rfl (Jx.nilCheck rfl rfl ?_)))))))
 (refine Jx.fieldAddr rfl rfl ?_)
 (refine Jx.load rfl 2 rfl rfl rfl ?_)
 (refine Jx.lenRow rfl 1 rfl rfl ?_)
 (refine Jx.geqI rfl rfl rfl (J.nil (N.seq (W.cF rfl ?_))))
 (refine W.skip (N.seq (W.seq (W.region (Jx.move rfl rfl (Jx.nilCheck rfl rfl ?_))))))
 (refine Jx.fieldAddr rfl rfl ?_)
 (refine Jx.load rfl 2 rfl rfl rfl ?_)
 (refine Jx.lenRow rfl 1 rfl rfl ?_)
 (refine Jx.assign rfl rfl (J.nil (N.seq (W.seq ?_))))
 (refine W.draw follows ?_)
 (refine JD.begin (ops := [_, _, _, _, _, _, ⟨_, .buildSlice _ _ _, _, _, _, _⟩, _, _, _, _].toArray) 11 rfl ?_; refine JP.more [0, 1, 2, 3, 4, 5, 6] _ rfl (by decide +kernel) ?_)
 (refine Cx.move rfl rfl ?_)
 (refine Cx.move rfl rfl ?_)
 (refine Cx.nilCheck rfl rfl ?_)
 (refine Cx.fieldAddr rfl rfl ?_)
 (refine Cx.load rfl 2 rfl rfl rfl ?_)
 (refine Cx.loadAll rfl 0 rfl rfl rfl ?_)
 (refine SegC.q (Qs.buildOne ntC nt0 n rfl rfl rfl rfl rfl rfl rfl) rfl ?_)
 (refine SegC.nil ?_)
 (refine JP.perm (List.Perm.swap _ _ _) ?_; refine JP.append (idx := [0, 1, 2, 3, 4, 5, 6]) (m := all) (m2 := [n]) 7 [58, 60] [1, 2, 3, 4, 5, 6, 7] [0] (by decide +kernel) rfl ?_ rfl (SrcOK.sl rfl) rfl rfl hmx rfl ?_; rotate_left; intro v' hv'; rotate_left)
 (refine Cx.move rfl rfl ?_)
 (refine Cx.move rfl rfl ?_)
 (refine Cx.nilCheck rfl rfl ?_)
 (refine Cx.fieldAddr rfl rfl ?_)
 (refine Cx.load rfl 2 rfl rfl rfl ?_)
 (refine Cx.loadAll rfl 1 rfl rfl rfl ?_)
 (refine SegC.q (Qs.buildOne ntC nt0 n rfl rfl rfl rfl rfl rfl rfl) rfl ?_)
 (refine SegC.nil ?_)
 (refine Ag.cons rfl ?_)
 (refine Ag.cons rfl ?_)
 (refine Ag.cons rfl ?_)
 (refine Ag.cons rfl ?_)
 (refine Ag.cons rfl ?_)
 (refine Ag.cons rfl ?_)
 (refine Ag.cons rfl ?_)
 (refine Ag.nil)
 (refine JP.tail (idx := [0]) 8 (by decide +kernel) (by decide +kernel) rfl rfl ?_ ?_)
 (refine Cx.move rfl rfl ?_)
 (refine SegC.nil ?_)
 (refine Ag.cons rfl ?_)
 (refine Ag.nil)
 (refine Jx.nilCheck rfl rfl ?_)
 (refine Jx.fieldAddr rfl rfl ?_)
 (refine J.store rfl rfl (One.val hv') 2 rfl rfl rfl rfl ?_)
 (refine J.nil (N.seq (W.seq ?_)))
 (refine W.draw follows ?_)
 (refine JD.till (l := [_, _, _, _, _, _, ⟨none, .mapUpdate _ _ _ _, _, _, _, none⟩]) 6 (by decide +kernel) (by decide +kernel) rfl rfl ?_)
 (refine Cx.move rfl rfl ?_)
 (refine Cx.nilCheck rfl rfl ?_)
 (refine Cx.fieldAddr rfl rfl ?_)
 (refine Cx.load rfl 2 rfl rfl rfl ?_)
 (refine Cx.loadAll rfl 1 rfl rfl rfl ?_)
 (refine Cx.move rfl rfl ?_)
 (refine SegC.nil ?_)
 (refine J.mapUpdA ntV ntV_fit ntV_inj rfl rfl rfl rfl 3 rfl hlk rfl ?_)
 (refine J.nil (N.seq (W.seq (W.seq ?_))))
 (refine W.draw follows ?_)
 (refine JD.calm rfl (by decide +kernel) ?_)
 (refine Cx.move rfl rfl ?_)
 (refine Cx.nilCheck rfl rfl ?_)
 (refine Cx.fieldAddr rfl rfl ?_)
 (refine Cx.load rfl 2 rfl rfl rfl ?_)
 (refine Cx.fieldAddr rfl rfl ?_)
 (refine Cx.load rfl 1 rfl rfl rfl ?_)
 (refine Cx.lookupS rfl rfl 4 rfl rfl ?_; rw [hlk2])
 (refine Cx.move rfl rfl ?_)
 (refine Cx.extract rfl rfl rfl ?_)
 (refine Cx.extract rfl rfl rfl ?_)
 (refine Cx.assign rfl rfl ?_)
 (refine Cx.assign rfl rfl ?_)
 (refine SegC.nil ?_)
 (refine N.seq (W.seq (W.region (Jx.move rfl rfl (Jx.not rfl rfl (J.nil (N.seq (W.cF rfl ?_))))))))
 (refine W.seq (W.region (Jx.move rfl rfl (Jx.nilCheck rfl rfl ?_))))
 (refine Jx.fieldAddr rfl rfl ?_)
 (refine Jx.load rfl 2 rfl rfl rfl ?_)
 (refine Jx.lssI rfl rfl rfl (J.nil (N.seq (W.cF rfl ?_))))
 (refine W.skip (N.seq (W.seq (W.region (Jx.assign rfl rfl (J.nil (N.seq (W.ret ?_))))))))
 (refine id ?_; rotate_left))
    refine N.retD (rs := [.tmp 4]) rfl (.tmp rfl .nil) (.cons_cons _ (.cons _ (List.Sublist.refl _))) ⟨v', M ++ [(n, iV all.length)], K, rfl, ?_, hinv⟩
    simp only [logO, htw] <;> rfl
theorem put_ok (b : Nat) (v : Value) (mt mf : Nat) (all : List Nt) (M : List (Nt × Value)) (K : List (List UInt8 × Value)) (n : Nt) (hI : LogInv all M K) (hl : all.length < 1024) :
    FnC Tryd.prog 12 [ptr b, .agg (ntC n)] (logO b v mt mf all M K) (fun r L => ∃ v' M' K', r = int (putR all n).1 ∧ L = logO b v' mt mf (putR all n).2 M' K' ∧ LogInv (putR all n).2 M' K') := by
  by_cases h1 : n.tag < 1
  · have e : putR all n = (1, all) := by simp [putR, h1]
    rw [e]
    exact (put_bad b v mt mf all M K n (.inl h1)).mono (by rintro _ _ ⟨rfl, rfl⟩; exact ⟨_, _, _, rfl, rfl, hI⟩)
  by_cases h2 : 255 < n.tag
  · have e : putR all n = (1, all) := by simp [putR, h1, h2]
    rw [e]
    exact (put_bad b v mt mf all M K n (.inr h2)).mono (by rintro _ _ ⟨rfl, rfl⟩; exact ⟨_, _, _, rfl, rfl, hI⟩)
  by_cases h3 : n.digest.length = 32
  · by_cases hn : n ∈ all
    · have e : putR all n = (0, all) := by simp [putR, h1, h2, h3, hn]
      rw [e]
      exact (put_there b v mt mf all M K n hI h1 h2 h3 hn).mono (by rintro _ _ ⟨rfl, rfl⟩; exact ⟨_, _, _, rfl, rfl, hI⟩)
    · have e : putR all n = (0, all ++ [n]) := by simp [putR, h1, h2, h3, hn]
      rw [e]
      cases hd : findD all n.digest with
      | none => exact put_first b v mt mf all M K n hI h1 h2 h3 hn hl hd
      | some j => exact put_again b v mt mf all M K n hI h1 h2 h3 hn hl j hd
  · have e : putR all n = (3, all) := by simp [putR, h1, h2, h3]
    rw [e]
    exact (put_form b v mt mf all M K n h1 h2 h3).mono (by rintro _ _ ⟨rfl, rfl⟩; exact ⟨_, _, _, rfl, rfl, hI⟩)
end Go.Proofs.YtafefapbiekmbaaDoor
namespace Go.Proofs.YtafefapbiekmbaaDoor
open Go Go.Sse
set_option linter.unusedVariables false
set_option linter.unusedSimpArgs false
set_option maxRecDepth 10000
theorem agNt : TAg Tryd.prog 28 3 := inferInstance
theorem find_none (b : Nat) (v : Value) (mt mf : Nat) (all : List Nt) (M : List (Nt × Value)) (K : List (List UInt8 × Value)) (s : List UInt8) (hI : LogInv all M K) (h : findD all s = none) :
    FnC Tryd.prog 14 [ptr b, str s] (logO b v mt mf all M K) (fun r L => r = .tup [.agg (ntC nt0), bool false] ∧ L = logO b v mt mf all M K) := by
  have hlk := hI.first s
  rw [h] at hlk
  refine FnC.intro Tryd.func14 rfl Tryd.ntmps14 rfl fun Z w0 hG => ?_
  focus (
 (refine W.seq (W.region ?_))
 (refine J.alloc (by simp only [List.map_cons, List.map_nil]; rfl) rfl rfl ?_; intro b')
 (refine Jx.assign rfl rfl (J.nil (N.seq (W.seq (W.region (Jx.move rfl rfl (Jx.nilCheck rfl rfl ?_)))))))
 (refine Jx.fieldAddr rfl rfl ?_)
 (refine Jx.load rfl 2 rfl rfl rfl ?_)
 (refine Jx.move rfl rfl ?_)
 (refine Jx.lookupS rfl rfl 4 rfl rfl ?_; rw [hlk])
 (refine Jx.move rfl rfl (Jx.extract rfl rfl rfl ?_))
 (refine Jx.extract rfl rfl rfl ?_)
 (refine Jx.assign rfl rfl (Jx.assign rfl rfl (J.nil (N.seq (W.seq (W.seq (W.region (Jx.move rfl rfl (Jx.not rfl rfl (J.nil (N.seq (W.cT rfl ?_))))))))))))
 (refine W.seq (W.region (Jx.buildB rfl rfl rfl rfl rfl ?_)))
 (refine J.storeAll rfl rfl rfl 0 rfl rfl rfl ?_)
 (refine Jx.assign rfl rfl (J.nil (N.seq (W.ret (N.noGotoRet ?_)))))
 (refine id ?_; rotate_left))
  exact N.retD (rs := [.cell 4 28, .tmp 5]) rfl (.cell rfl 0 rfl agNt (.tmp rfl .nil)) (List.sublist_cons_self _ _) ⟨rfl, rfl⟩
theorem find_some (b : Nat) (v : Value) (mt mf : Nat) (all : List Nt) (M : List (Nt × Value)) (K : List (List UInt8 × Value)) (s : List UInt8) (hI : LogInv all M K) (j : Nat) (h : findD all s = some j) :
    FnC Tryd.prog 14 [ptr b, str s] (logO b v mt mf all M K) (fun r L => r = .tup [.agg (ntC (all.getD j nt0)), bool true] ∧ L = logO b v mt mf all M K) := by
  have hlk := hI.first s
  rw [h] at hlk
  have hlt := (findP_some nt0 h).1
  refine FnC.intro Tryd.func14 rfl Tryd.ntmps14 rfl fun Z w0 hG => ?_
  refine W.rowView 0 rfl (by omega) ?_
  rintro r cap rfl hc1 hc2
  focus (
 (refine W.seq (W.region ?_))
 (refine J.alloc (by simp only [List.map_cons, List.map_nil]; rfl) rfl rfl ?_; intro b')
 (refine Jx.assign rfl rfl (J.nil (N.seq (W.seq (W.region (Jx.move rfl rfl (Jx.nilCheck rfl rfl ?_)))))))
 (refine Jx.fieldAddr rfl rfl ?_)
 (refine Jx.load rfl 2 rfl rfl rfl ?_)
 (refine Jx.move rfl rfl ?_)
 (refine Jx.lookupS rfl rfl 4 rfl rfl ?_; rw [hlk])
 (refine Jx.move rfl rfl (Jx.extract rfl rfl rfl ?_))
 (refine Jx.extract rfl rfl rfl ?_)
 (refine Jx.assign rfl rfl (Jx.assign rfl rfl (J.nil (N.seq (W.seq (W.seq (W.region (Jx.move rfl rfl (Jx.not rfl rfl (J.nil (N.seq (W.cF rfl ?_))))))))))))
 (refine W.skip (N.seq (W.seq (W.region (Jx.move rfl rfl (Jx.nilCheck rfl rfl ?_))))))
 (refine Jx.fieldAddr rfl rfl ?_)
 (refine Jx.load rfl 2 rfl rfl rfl ?_)
 (refine Jx.move rfl rfl ?_)
 (refine Jx.indexRow j rfl rfl rfl hlt rfl ?_)
 (refine Jx.loadRowAg rfl 1 rfl j rfl hlt (ds := ntC (all.getD j nt0)) rfl rfl ?_)
 (refine J.storeAll rfl rfl rfl 0 rfl rfl rfl ?_)
 (refine Jx.assign rfl rfl (J.nil (N.seq (W.ret ?_))))
 (refine id ?_; rotate_left))
  exact N.retD (rs := [.cell 4 28, .tmp 5]) rfl (.cell rfl 0 rfl agNt (.tmp rfl .nil)) (List.sublist_cons_self _ _) ⟨rfl, rfl⟩
def findR (all : List Nt) (s : List UInt8) : Nt × Bool := match findD all s with | some j => (all.getD j nt0, true) | none => (nt0, false)
theorem find_ok (b : Nat) (v : Value) (mt mf : Nat) (all : List Nt) (M : List (Nt × Value)) (K : List (List UInt8 × Value)) (s : List UInt8) (hI : LogInv all M K) :
    FnC Tryd.prog 14 [ptr b, str s] (logO b v mt mf all M K) (fun r L => r = .tup [.agg (ntC (findR all s).1), bool (findR all s).2] ∧ L = logO b v mt mf all M K) := by
  cases h : findD all s with
  | none => rw [show findR all s = (nt0, false) by simp [findR, h]]; exact find_none b v mt mf all M K s hI h
  | some j => rw [show findR all s = (all.getD j nt0, true) by simp only [findR, h]]; exact find_some b v mt mf all M K s hI j h
def clashR (all : List Nt) : Nt × Nt × Bool := match clashA all with
  | none => (nt0, nt0, false)
  | some i => ((findR all (all.getD i nt0).digest).1, all.getD i nt0, true)
theorem clash_ok (b : Nat) (v : Value) (mt mf : Nat) (all : List Nt) (M : List (Nt × Value)) (K : List (List UInt8 × Value)) (hI : LogInv all M K) :
    FnC Tryd.prog 10 [ptr b] (logO b v mt mf all M K) (fun r L => r = .tup [.agg (ntC (clashR all).1), .agg (ntC (clashR all).2.1), bool (clashR all).2.2] ∧ L = logO b v mt mf all M K) := by
  cases hc : clashA all with
  | none =>
    have htw0 : twI all = -1 := by simp [twI, hc]
    rw [show clashR all = (nt0, nt0, false) by simp [clashR, hc]]
    simp only [logO]
    rw [htw0]
    refine FnC.intro Tryd.func10 rfl Tryd.ntmps10 rfl fun Z w0 hG => ?_
    focus (
 (refine W.seq (W.region ?_))
 (refine J.alloc (by simp only [List.map_cons, List.map_nil]; rfl) rfl rfl ?_; intro b')
 (refine J.alloc (by simp only [List.map_cons, List.map_nil]; rfl) rfl rfl ?_; intro b')
 (refine Jx.assign rfl rfl (J.nil (N.seq (W.seq (W.seq (W.region (Jx.move rfl rfl (Jx.nilCheck rfl rfl ?_))))))))
 (refine Jx.fieldAddr rfl rfl ?_)
 (refine Jx.load rfl 3 rfl rfl rfl ?_)
 (refine Jx.lssI rfl rfl rfl (J.nil (N.seq (W.cT rfl ?_))))
 (refine W.seq (W.region (Jx.buildB rfl rfl rfl rfl rfl ?_)))
 (refine Jx.buildB rfl rfl rfl rfl rfl ?_)
 (refine J.storeAll rfl rfl rfl 1 rfl rfl rfl ?_)
 (refine J.storeAll rfl rfl rfl 0 rfl rfl rfl ?_)
 (refine Jx.assign rfl rfl (J.nil (N.seq (W.ret (N.noGotoRet ?_)))))
 (refine id ?_; rotate_left))
    exact N.retD (rs := [.cell 2 28, .cell 3 28, .tmp 4]) rfl (.cell rfl 1 rfl agNt (.cell rfl 0 rfl agNt (.tmp rfl .nil))) ((List.sublist_cons_self _ _).cons _) ⟨rfl, rfl⟩
  | some i =>
    obtain ⟨hlt, _⟩ := clashA_some hc
    have htw0 : twI all = (i : Int) := by simp [twI, hc]
    have hi0 : ¬ (i : Int) < 0 := by omega
    have cf := fun v => find_ok b v mt mf all M K (all.getD i nt0).digest hI
    rw [show clashR all = ((findR all (all.getD i nt0).digest).1, all.getD i nt0, true) by simp only [clashR, hc]]
    simp only [logO] at cf ⊢
    rw [htw0] at cf ⊢
    refine FnC.intro Tryd.func10 rfl Tryd.ntmps10 rfl fun Z w0 hG => ?_
    refine W.rowView 0 rfl (by omega) ?_
    rintro r cap rfl hc1 hc2
    generalize findR all (all.getD i nt0).digest = fr at *
    focus (
 (refine W.seq (W.region ?_))
 (refine J.alloc (by simp only [List.map_cons, List.map_nil]; rfl) rfl rfl ?_; intro b')
 (refine J.alloc (by simp only [List.map_cons, List.map_nil]; rfl) rfl rfl ?_; intro b')
 (refine Jx.assign rfl rfl (J.nil (N.seq (W.seq (W.seq (W.region (Jx.move rfl rfl (Jx.nilCheck rfl rfl ?_))))))))
 (refine Jx.fieldAddr rfl rfl ?_)
 (refine Jx.load rfl 3 rfl rfl rfl ?_)
 (refine Jx.lssI rfl rfl rfl (J.nil (N.seq (W.cF rfl ?_))))
 (refine W.skip (N.seq (W.seq ?_)))
 (refine W.draw follows ?_)
 (refine JD.upto (n := 10) rfl (by decide +kernel) (by decide +kernel) rfl rfl ?_)
 (refine Cx.move rfl rfl ?_)
 (refine Cx.nilCheck rfl rfl ?_)
 (refine Cx.fieldAddr rfl rfl ?_)
 (refine Cx.load rfl 3 rfl rfl rfl ?_)
 (refine Cx.move rfl rfl ?_)
 (refine Cx.nilCheck rfl rfl ?_)
 (refine Cx.fieldAddr rfl rfl ?_)
 (refine Cx.load rfl 3 rfl rfl rfl ?_)
 (refine Cx.indexRow i rfl rfl rfl hlt rfl ?_)
 (refine Cx.loadRowAg rfl 2 rfl i rfl hlt (ds := ntC (all.getD i nt0)) rfl rfl ?_)
 (refine SegC.nil ?_)
 (refine J.storeAll rfl rfl rfl 0 rfl rfl rfl ?_)
 (refine J.nil (N.seq (W.seq (W.region (Jx.move rfl rfl (Jx.fieldAddr rfl rfl ?_))))))
 (refine Jx.load rfl 0 rfl rfl rfl ?_)
 (refine J.perm (List.perm_append_comm (l₁ := [_, _]) (l₂ := [_, _, _, _])) ?_; refine J.call (cf _) rfl (evs_args rfl) rfl ?_; rintro _ _ ⟨rfl, rfl⟩; simp only [List.cons_append, List.nil_append])
 (refine Jx.move rfl rfl (Jx.extract rfl rfl rfl ?_))
 (refine Jx.extract rfl rfl rfl ?_)
 (refine J.storeAll rfl rfl rfl 5 rfl rfl rfl ?_)
 (refine J.nil (N.seq (W.seq ?_)))
 (refine W.draw follows ?_)
 (refine JD.begin 5 rfl ?_; refine JP.more [0, 1] _ rfl (by decide +kernel) ?_)
 (refine Cx.loadAll rfl 5 rfl rfl rfl ?_)
 (refine Cx.loadAll rfl 4 rfl rfl rfl ?_)
 (refine SegC.nil ?_)
 (refine JP.storeAll (idx := [0, 1]) 2 [2, 29] [0, 2] [1] (by decide +kernel) rfl ?_ rfl rfl rfl 5 rfl rfl rfl ?_)
 (refine Cx.loadAll rfl 5 rfl rfl rfl ?_)
 (refine Cx.loadAll rfl 4 rfl rfl rfl ?_)
 (refine SegC.nil ?_)
 (refine Ag.cons rfl ?_)
 (refine Ag.cons rfl ?_)
 (refine Ag.nil)
 (refine JP.storeAll (idx := [1]) 3 [3, 30] [0, 1, 2, 3] [] (by decide +kernel) rfl ?_ rfl rfl rfl 4 rfl rfl rfl ?_)
 (refine Cx.loadAll rfl 4 rfl rfl rfl ?_)
 (refine SegC.nil ?_)
 (refine Ag.cons rfl ?_)
 (refine Ag.nil)
 (refine JP.tail (idx := []) 4 (by decide +kernel) (by decide +kernel) rfl rfl ?_ ?_)
 (refine SegC.nil ?_)
 (refine Ag.nil)
 (refine Jx.assign rfl rfl (J.nil (N.seq (W.ret ?_))))
 (refine id ?_; rotate_left))
    exact N.retD (rs := [.cell 2 28, .cell 3 28, .tmp 4]) rfl (.cell rfl 5 rfl agNt (.cell rfl 4 rfl agNt (.tmp rfl .nil))) (List.sublist_append_left [_, _, _, _] _) ⟨rfl, rfl⟩
def dsumR (tag : Int) (s : List UInt8) : List UInt8 × Int := if tag < 1 then ([], 1) else if 255 < tag then ([], 1) else (sumD tag.toNat s, 0)
theorem dsumR_ok (tag : Int) (s : List UInt8) (hs : s.length ≤ 1073741824) : FnC Tryd.prog 17 [int tag, str s] [] (fun v L => v = .tup [str (dsumR tag s).1, int (dsumR tag s).2] ∧ L = []) := by
  by_cases h1 : tag < 1
  · rw [show dsumR tag s = ([], 1) by simp [dsumR, h1]]
    refine FnC.intro Tryd.func17 rfl Tryd.ntmps17 rfl fun Z w0 hG => ?_
    focus (
 (refine W.seq (W.region (Jx.assign rfl rfl (Jx.assign rfl rfl (J.nil (N.seq (W.seq (W.seq (W.region (Jx.move rfl rfl (Jx.lssI rfl rfl rfl (Jx.move rfl rfl (J.gN rfl rfl rfl rfl ?_)))))))))))))
 (refine J.gN rfl rfl rfl rfl ?_)
 (refine Jx.pT rfl rfl rfl ?_)
 (refine J.nil (N.seq (W.cT rfl ?_)))
 (refine W.seq (W.region (Jx.assign rfl rfl (Jx.assign rfl rfl (J.nil (N.seq (W.ret (N.noGotoRet ?_))))))))
 (refine id ?_; rotate_left))
    exact N.ret (rs := [.tmp 4, .tmp 5]) rfl (.tmp rfl (.tmp rfl .nil)) ⟨rfl, rfl⟩
  by_cases h2 : 255 < tag
  · rw [show dsumR tag s = ([], 1) by simp [dsumR, h1, h2]]
    refine FnC.intro Tryd.func17 rfl Tryd.ntmps17 rfl fun Z w0 hG => ?_
    focus (
 (refine W.seq (W.region (Jx.assign rfl rfl (Jx.assign rfl rfl (J.nil (N.seq (W.seq (W.seq (W.region (Jx.move rfl rfl (Jx.lssI rfl rfl rfl (Jx.move rfl rfl (J.gY rfl rfl rfl ?_)))))))))))))
 (refine Jx.move rfl rfl (J.gY rfl rfl rfl ?_))
 (refine Jx.gtrI rfl rfl rfl (Jx.pF rfl rfl rfl ?_))
 (refine J.nil (N.seq (W.cT rfl ?_)))
 (refine W.seq (W.region (Jx.assign rfl rfl (Jx.assign rfl rfl (J.nil (N.seq (W.ret (N.noGotoRet ?_))))))))
 (refine id ?_; rotate_left))
    exact N.ret (rs := [.tmp 4, .tmp 5]) rfl (.tmp rfl (.tmp rfl .nil)) ⟨rfl, rfl⟩
  · obtain ⟨m, rfl⟩ : ∃ m : Nat, tag = m := ⟨tag.toNat, by omega⟩
    rw [show dsumR m s = (sumD m s, 0) by simp only [dsumR, h1, h2, if_false]; rfl]
    exact dsum_ok m s (by omega) (by omega) hs
theorem rsumR_ok (tag : Int) (s : List UInt8) (hs : s.length ≤ 1073741824) : FnC Tryd.prog 18 [int tag, str s] [] (fun v L => v = .tup [str (dsumR tag s).1, int (dsumR tag s).2] ∧ L = []) := by
  refine FnC.intro Tryd.func18 rfl Tryd.ntmps18 rfl fun Z w0 hG => ?_
  by_cases h1 : tag < 1
  · rw [show dsumR tag s = ([], 1) by simp [dsumR, h1]]
    focus (
 (refine W.seq (W.region (Jx.assign rfl rfl (Jx.assign rfl rfl (J.nil (N.seq (W.seq (W.seq (W.region (Jx.move rfl rfl (Jx.lssI rfl rfl rfl (Jx.move rfl rfl (J.gN rfl rfl rfl rfl ?_)))))))))))))
 (refine J.gN rfl rfl rfl rfl ?_)
 (refine Jx.pT rfl rfl rfl ?_)
 (refine J.nil (N.seq (W.cT rfl ?_)))
 (refine W.seq (W.region (Jx.assign rfl rfl (Jx.assign rfl rfl (J.nil (N.seq (W.ret (N.noGotoRet ?_))))))))
 (refine id ?_; rotate_left))
    exact N.ret (rs := [.tmp 4, .tmp 5]) rfl (.tmp rfl (.tmp rfl .nil)) ⟨rfl, rfl⟩
  by_cases h2 : 255 < tag
  · rw [show dsumR tag s = ([], 1) by simp [dsumR, h1, h2]]
    focus (
 (refine W.seq (W.region (Jx.assign rfl rfl (Jx.assign rfl rfl (J.nil (N.seq (W.seq (W.seq (W.region (Jx.move rfl rfl (Jx.lssI rfl rfl rfl (Jx.move rfl rfl (J.gY rfl rfl rfl ?_)))))))))))))
 (refine Jx.move rfl rfl (J.gY rfl rfl rfl ?_))
 (refine Jx.gtrI rfl rfl rfl (Jx.pF rfl rfl rfl ?_))
 (refine J.nil (N.seq (W.cT rfl ?_)))
 (refine W.seq (W.region (Jx.assign rfl rfl (Jx.assign rfl rfl (J.nil (N.seq (W.ret (N.noGotoRet ?_))))))))
 (refine id ?_; rotate_left))
    exact N.ret (rs := [.tmp 4, .tmp 5]) rfl (.tmp rfl (.tmp rfl .nil)) ⟨rfl, rfl⟩
  · obtain ⟨m, rfl⟩ : ∃ m : Nat, tag = m := ⟨tag.toNat, by omega⟩
    rw [show dsumR m s = (sumD m s, 0) by simp only [dsumR, h1, h2, if_false]; rfl]
    have c := rtagged_ok m s hs
    generalize sumD m s = sm at *
    focus (
 (refine W.seq (W.region (Jx.assign rfl rfl (Jx.assign rfl rfl (J.nil (N.seq (W.seq (W.seq (W.region (Jx.move rfl rfl (Jx.lssI rfl rfl rfl (Jx.move rfl rfl (J.gY rfl rfl rfl ?_)))))))))))))
 (refine Jx.move rfl rfl (J.gY rfl rfl rfl ?_))
 (refine Jx.gtrI rfl rfl rfl (Jx.pF rfl rfl rfl ?_))
 (refine J.nil (N.seq (W.cF rfl ?_)))
 (refine W.skip (N.seq (W.seq (W.region (Jx.move rfl rfl (Jx.move rfl rfl ?_))))))
 (refine J.call (c) rfl (evs_args rfl) rfl ?_; rintro _ _ ⟨rfl, rfl⟩; simp only [la1, la2, la3])
 (refine Jx.assign rfl rfl (Jx.assign rfl rfl (J.nil (N.seq (W.ret ?_)))))
 (refine id ?_; rotate_left))
    exact N.ret (rs := [.tmp 4, .tmp 5]) rfl (.tmp rfl (.tmp rfl .nil)) ⟨rfl, rfl⟩
theorem many_ok (tag : Int) (l : List (List UInt8)) (hl : l.length ≤ 1000) (he : ∀ s ∈ l, s.length ≤ 1024) : FnC Tryd.prog 19 [int tag, ssl l] [] (fun v L => v = .tup [str (dsumR tag (listB l)).1, int (dsumR tag (listB l)).2] ∧ L = []) := by
  have c1 := list_ok l (by omega) (fun s h => by have := he s h; omega)
  have h2 := pre_len (l := l) (fun s h => by have := he s h; omega) l.length
  rw [List.take_length] at h2
  have h3 := (numB_len (n := l.length) (by omega)).2
  have c2 := dsumR_ok tag (listB l) (by simp only [listB, List.length_append]; omega)
  generalize dsumR tag (listB l) = r at *
  refine FnC.intro Tryd.func19 rfl Tryd.ntmps19 rfl fun Z w0 hG => ?_
  focus (
 (refine W.seq (W.region (Jx.assign rfl rfl (Jx.assign rfl rfl (J.nil (N.seq (W.seq (W.region (Jx.move rfl rfl (Jx.move rfl rfl ?_))))))))))
 (refine J.call (c1) rfl (evs_args rfl) rfl ?_; rintro _ _ ⟨rfl, rfl⟩; simp only [la1, la2, la3])
 (refine J.call (c2) rfl (evs_args rfl) rfl ?_; rintro _ _ ⟨rfl, rfl⟩; simp only [la1, la2, la3])
 (refine Jx.extract rfl rfl rfl ?_)
 (refine Jx.extract rfl rfl rfl ?_)
 (refine Jx.assign rfl rfl (Jx.assign rfl rfl (J.nil (N.seq (W.ret ?_)))))
 (refine id ?_; rotate_left))
  exact N.ret (rs := [.tmp 4, .tmp 5]) rfl (.tmp rfl (.tmp rfl .nil)) ⟨rfl, rfl⟩
theorem rmany_ok (tag : Int) (l : List (List UInt8)) (hl : l.length ≤ 1000) (he : ∀ s ∈ l, s.length ≤ 1024) : FnC Tryd.prog 20 [int tag, ssl l] [] (fun v L => v = .tup [str (dsumR tag (listB l)).1, int (dsumR tag (listB l)).2] ∧ L = []) := by
  have c1 := rlist_ok l (by omega) (fun s h => by have := he s h; omega)
  have h2 := pre_len (l := l) (fun s h => by have := he s h; omega) l.length
  rw [List.take_length] at h2
  have h3 := (numB_len (n := l.length) (by omega)).2
  have c2 := rsumR_ok tag (listB l) (by simp only [listB, List.length_append]; omega)
  generalize dsumR tag (listB l) = r at *
  refine FnC.intro Tryd.func20 rfl Tryd.ntmps20 rfl fun Z w0 hG => ?_
  focus (
 (refine W.seq (W.region (Jx.assign rfl rfl (Jx.assign rfl rfl (J.nil (N.seq (W.seq (W.region (Jx.move rfl rfl (Jx.move rfl rfl ?_))))))))))
 (refine J.call (c1) rfl (evs_args rfl) rfl ?_; rintro _ _ ⟨rfl, rfl⟩; simp only [la1, la2, la3])
 (refine J.call (c2) rfl (evs_args rfl) rfl ?_; rintro _ _ ⟨rfl, rfl⟩; simp only [la1, la2, la3])
 (refine Jx.extract rfl rfl rfl ?_)
 (refine Jx.extract rfl rfl rfl ?_)
 (refine Jx.assign rfl rfl (Jx.assign rfl rfl (J.nil (N.seq (W.ret ?_)))))
 (refine id ?_; rotate_left))
  exact N.ret (rs := [.tmp 4, .tmp 5]) rfl (.tmp rfl (.tmp rfl .nil)) ⟨rfl, rfl⟩
end Go.Proofs.YtafefapbiekmbaaDoor
namespace Go.Proofs.YtafefapbiekmbaaDoor
open Go Go.Sse
set_option linter.unusedVariables false
set_option linter.unusedSimpArgs false
set_option maxRecDepth 10000
set_option maxHeartbeats 2000000 in
theorem dworks_ok : FnC Tryd.prog 8 [] [] (fun r L => r = bool true ∧ L = []) := by
  have hl := sumD_len 1 [97, 98]
  have c1 := dsumR_ok 1 [97, 98] (by decide)
  rw [show dsumR 1 [97, 98] = (sumD 1 [97, 98], 0) by simp [dsumR]] at c1
  have c2 := dsumR_ok 0 [97, 98] (by decide)
  rw [show dsumR 0 [97, 98] = ([], 1) by simp [dsumR]] at c2
  have c3 := Sha.hsum_ok [97, 110, 121] (by decide)
  have c4 := Sha.hsum_ok [1, 97, 98] (by decide)
  rw [show Sha.shaS [1, 97, 98] = sumD 1 [97, 98] from congrArg Sha.shaS (show ([1, 97, 98] : List UInt8) = [UInt8.ofNat 1] ++ [97, 98] from rfl)] at c4
  have hs := Sha.shaS_len [97, 110, 121]
  generalize Sha.shaS [97, 110, 121] = sm at *
  generalize sumD 1 [97, 98] = s1 at *
  have hlz : (s1.length : Int) = 32 := by omega
  have e1 : putR [] ⟨1, [120], sm⟩ = (0, [⟨1, [120], sm⟩]) := by simp [putR, hs]
  have e2 : putR [⟨1, [120], sm⟩] ⟨2, [120], sm⟩ = (0, [⟨1, [120], sm⟩, ⟨2, [120], sm⟩]) := by simp [putR, hs]
  have p1 := fun b v mt mf M K h => put_ok b v mt mf [] M K ⟨1, [120], sm⟩ h (by decide)
  rw [e1] at p1
  have p2 := fun b v mt mf M K h => put_ok b v mt mf [⟨1, [120], sm⟩] M K ⟨2, [120], sm⟩ h (by simp)
  rw [e2] at p2
  have e3 : clashR [⟨1, [120], sm⟩, ⟨2, [120], sm⟩] = (⟨1, [120], sm⟩, ⟨2, [120], sm⟩, true) := by simp [clashR, clashA, clashI, findR, findD, findP]
  have p3 := fun b v mt mf M K h => clash_ok b v mt mf [⟨1, [120], sm⟩, ⟨2, [120], sm⟩] M K h
  rw [e3] at p3
  refine FnC.intro Tryd.func8 rfl Tryd.ntmps8 rfl fun Z w0 hG => ?_
  focus (
 (refine W.seq (W.region (Jx.assign rfl rfl (J.nil (N.seq (W.seq (W.region ?_)))))))
 (refine J.call (c1) rfl (evs_args rfl) rfl ?_; rintro _ _ ⟨rfl, rfl⟩; simp only [la1, la2, la3])
 (refine Jx.move rfl rfl (Jx.extract rfl rfl rfl ?_))
 (refine Jx.extract rfl rfl rfl ?_)
 (refine Jx.assign rfl rfl (Jx.assign rfl rfl (J.nil (N.seq (W.seq (W.region ?_))))))
 (refine J.call (c2) rfl (evs_args rfl) rfl ?_; rintro _ _ ⟨rfl, rfl⟩; simp only [la1, la2, la3])
 (refine Jx.move rfl rfl (Jx.extract rfl rfl rfl ?_))
 (refine Jx.extract rfl rfl rfl ?_)
 (refine Jx.assign rfl rfl (Jx.assign rfl rfl (J.nil (N.seq (W.seq (W.region ?_))))))
 (refine J.call (newLog_ok) rfl (evs_args rfl) rfl ?_; rintro _ _ ⟨b, v, mt, mf, rfl, rfl⟩; simp only [la1, la2, la3])
 (refine Jx.assign rfl rfl (J.nil (N.seq (W.seq (W.seq (W.region (Jx.move rfl rfl (Jx.eqlNil rfl rfl ?_))))))))
 (refine J.nil (N.seq (W.cF rfl ?_)))
 (refine W.skip (N.seq (W.seq (W.region ?_))))
 (refine J.call (c3) rfl (evs_args rfl) rfl ?_; rintro _ _ ⟨rfl, rfl⟩; simp only [la1, la2, la3])
 (refine Jx.assign rfl rfl (J.nil (N.seq (W.seq (W.region (Jx.move rfl rfl (Jx.move rfl rfl (Jx.buildB rfl rfl rfl rfl rfl ?_))))))))
 (refine J.call ((p1 b v mt mf [] [] inv_nil)) rfl (evs_args rfl) rfl ?_; rintro _ _ ⟨v1, M1, K1, rfl, rfl, hI1⟩; simp only [la1, la2, la3])
 (refine Jx.assign rfl rfl (J.nil (N.seq (W.seq (W.region (Jx.move rfl rfl (Jx.move rfl rfl (Jx.buildB rfl rfl rfl rfl rfl ?_))))))))
 (refine J.call ((p2 b v1 mt mf M1 K1 hI1)) rfl (evs_args rfl) rfl ?_; rintro _ _ ⟨v2, M2, K2, rfl, rfl, hI2⟩; simp only [la1, la2, la3])
 (refine Jx.assign rfl rfl (J.nil (N.seq (W.seq (W.region (Jx.move rfl rfl ?_))))))
 (refine J.call ((p3 b v2 mt mf M2 K2 hI2)) rfl (evs_args rfl) rfl ?_; rintro _ _ ⟨rfl, rfl⟩; simp only [la1, la2, la3])
 (refine Jx.move rfl rfl (Jx.extract rfl rfl rfl ?_))
 (refine Jx.extract rfl rfl rfl ?_)
 (refine Jx.extract rfl rfl rfl ?_)
 (refine J.alloc (by simp only [List.map_cons, List.map_nil]; rfl) rfl rfl ?_; intro b')
 (refine J.alloc (by simp only [List.map_cons, List.map_nil]; rfl) rfl rfl ?_; intro b')
 (refine J.storeAll rfl rfl rfl 1 rfl rfl rfl ?_)
 (refine J.storeAll rfl rfl rfl 0 rfl rfl rfl ?_)
 (refine Jx.assign rfl rfl (J.nil (N.seq (W.seq (W.region (Jx.move rfl rfl ?_))))))
 (refine J.call (c4) rfl (evs_args rfl) rfl ?_; rintro _ _ ⟨rfl, rfl⟩; simp only [la1, la2, la3])
 (refine Jx.eqlS rfl rfl rfl (Jx.move rfl rfl (J.gY rfl rfl rfl ?_)))
 (refine Jx.move rfl rfl (J.gY rfl rfl rfl ?_))
 (refine Jx.lenS rfl rfl ?_)
 (refine J.gY rfl rfl rfl ?_)
 (refine Jx.eqlI rfl rfl rfl (Jx.pT rfl rfl rfl ?_))
 (refine Jx.move rfl rfl (J.gY rfl rfl rfl ?_))
 (refine Jx.move rfl rfl (J.gY rfl rfl rfl ?_))
 (refine Jx.eqlI rfl rfl rfl (Jx.pT rfl rfl rfl ?_))
 (refine Jx.move rfl rfl (J.gY rfl rfl rfl ?_))
 (refine Jx.move rfl rfl (J.gY rfl rfl rfl ?_))
 (refine Jx.eqlI rfl rfl rfl (Jx.pT rfl rfl rfl ?_))
 (refine Jx.move rfl rfl (J.gY rfl rfl rfl ?_))
 (refine Jx.move rfl rfl (J.gY rfl rfl rfl ?_))
 (refine Jx.eqlI rfl rfl rfl (Jx.pT rfl rfl rfl ?_))
 (refine Jx.move rfl rfl (J.gY rfl rfl rfl ?_))
 (refine Jx.move rfl rfl (J.gY rfl rfl rfl ?_))
 (refine Jx.eqlI rfl rfl rfl (Jx.pT rfl rfl rfl ?_))
 (refine Jx.move rfl rfl (J.gY rfl rfl rfl ?_))
 (refine Jx.move rfl rfl (Jx.pT rfl rfl rfl ?_))
 (refine Jx.move rfl rfl (J.gY rfl rfl rfl ?_))
 (refine Jx.fieldAddr rfl rfl ?_)
 (refine J.gY rfl rfl rfl ?_)
 (refine Jx.load rfl 1 rfl rfl rfl ?_)
 (refine J.gY rfl rfl rfl ?_)
 (refine Jx.eqlI rfl rfl rfl (Jx.pT rfl rfl rfl ?_))
 (refine Jx.move rfl rfl (J.gY rfl rfl rfl ?_))
 (refine Jx.fieldAddr rfl rfl ?_)
 (refine J.gY rfl rfl rfl ?_)
 (refine Jx.load rfl 0 rfl rfl rfl ?_)
 (refine J.gY rfl rfl rfl ?_)
 (refine Jx.eqlI rfl rfl rfl (Jx.pT rfl rfl rfl ?_))
 (refine Jx.assign rfl rfl (J.nil (N.seq (W.ret ?_))))
 (refine id ?_; rotate_left))
  exact N.retD (rs := [.tmp 0]) (L1 := []) rfl (.tmp rfl .nil) (List.nil_sublist _) ⟨rfl, rfl⟩
theorem few_all {l : List (List UInt8)} {n e : Int} (h : fewB l n e = true) : (l.length : Int) ≤ n ∧ ∀ s ∈ l, (s.length : Int) ≤ e := by
  simp only [fewB, Bool.and_eq_true, decide_eq_true_eq, List.all_eq_true] at h
  exact h
set_option maxHeartbeats 2000000 in
theorem digestSums_ok (tag : Int) (s : List UInt8) (l : List (List UInt8)) : FnC Tryd.prog 6 [int tag, str s, ssl l] [] (fun r L => r = bool true ∧ L = []) := by
  have cw := dworks_ok
  have cf := few_ok l 10 60 (by omega)
  by_cases h1 : 500 < s.length
  · have h1' : (500 : Int) < (s.length : Int) := by omega
    refine FnC.intro Tryd.func6 rfl Tryd.ntmps6 rfl fun Z w0 hG => ?_
    focus (
 (refine W.seq (W.region (Jx.assign rfl rfl (J.nil (N.seq (W.seq (W.seq (W.region (Jx.move rfl rfl (Jx.lenS rfl rfl ?_))))))))))
 (refine Jx.gtrI rfl rfl rfl (Jx.move rfl rfl (J.gN rfl rfl rfl rfl ?_)))
 (refine J.gN rfl rfl rfl rfl ?_)
 (refine J.gN rfl rfl rfl rfl ?_)
 (refine Jx.pT rfl rfl rfl ?_)
 (refine J.nil (N.seq (W.cT rfl ?_)))
 (refine W.seq (W.region ?_))
 (refine J.call (cw) rfl (evs_args rfl) rfl ?_; rintro _ _ ⟨rfl, rfl⟩; simp only [la1, la2, la3])
 (refine Jx.assign rfl rfl (J.nil (N.seq (W.ret (N.noGotoRet ?_)))))
 (refine id ?_; rotate_left))
    exact N.ret (rs := [.tmp 6]) rfl (.tmp rfl .nil) ⟨rfl, rfl⟩
  have h1' : ¬ (500 : Int) < (s.length : Int) := by omega
  cases hf : fewB l 10 60 with
  | false =>
    rw [hf] at cf
    refine FnC.intro Tryd.func6 rfl Tryd.ntmps6 rfl fun Z w0 hG => ?_
    focus (
 (refine W.seq (W.region (Jx.assign rfl rfl (J.nil (N.seq (W.seq (W.seq (W.region (Jx.move rfl rfl (Jx.lenS rfl rfl ?_))))))))))
 (refine Jx.gtrI rfl rfl rfl (Jx.move rfl rfl (J.gY rfl rfl rfl ?_)))
 (refine Jx.move rfl rfl (J.gY rfl rfl rfl ?_))
 (refine J.call (cf) rfl (evs_args rfl) rfl ?_; rintro _ _ ⟨rfl, rfl⟩; simp only [la1, la2, la3])
 (refine J.gY rfl rfl rfl ?_)
 (refine Jx.not rfl rfl (Jx.pF rfl rfl rfl ?_))
 (refine J.nil (N.seq (W.cT rfl ?_)))
 (refine W.seq (W.region ?_))
 (refine J.call (cw) rfl (evs_args rfl) rfl ?_; rintro _ _ ⟨rfl, rfl⟩; simp only [la1, la2, la3])
 (refine Jx.assign rfl rfl (J.nil (N.seq (W.ret (N.noGotoRet ?_)))))
 (refine id ?_; rotate_left))
    exact N.ret (rs := [.tmp 6]) rfl (.tmp rfl .nil) ⟨rfl, rfl⟩
  | true =>
    rw [hf] at cf
    obtain ⟨h2, h3⟩ := few_all hf
    have c1 := dsumR_ok tag s (by omega)
    have c2 := rsumR_ok tag s (by omega)
    have h4 : ∀ s ∈ l, s.length ≤ 1024 := fun s hs => by have := h3 s hs; omega
    have c3 := many_ok tag l (by omega) h4
    have c4 := rmany_ok tag l (by omega) h4
    generalize dsumR tag s = r1 at *
    generalize dsumR tag (listB l) = r2 at *
    refine FnC.intro Tryd.func6 rfl Tryd.ntmps6 rfl fun Z w0 hG => ?_
    focus (
 (refine W.seq (W.region (Jx.assign rfl rfl (J.nil (N.seq (W.seq (W.seq (W.region (Jx.move rfl rfl (Jx.lenS rfl rfl ?_))))))))))
 (refine Jx.gtrI rfl rfl rfl (Jx.move rfl rfl (J.gY rfl rfl rfl ?_)))
 (refine Jx.move rfl rfl (J.gY rfl rfl rfl ?_))
 (refine J.call (cf) rfl (evs_args rfl) rfl ?_; rintro _ _ ⟨rfl, rfl⟩; simp only [la1, la2, la3])
 (refine J.gY rfl rfl rfl ?_)
 (refine Jx.not rfl rfl (Jx.pF rfl rfl rfl ?_))
 (refine J.nil (N.seq (W.cF rfl ?_)))
 (refine W.skip (N.seq (W.seq (W.region (Jx.move rfl rfl (Jx.move rfl rfl ?_))))))
 (refine J.call (c1) rfl (evs_args rfl) rfl ?_; rintro _ _ ⟨rfl, rfl⟩; simp only [la1, la2, la3])
 (refine Jx.move rfl rfl (Jx.extract rfl rfl rfl ?_))
 (refine Jx.extract rfl rfl rfl ?_)
 (refine Jx.assign rfl rfl (Jx.assign rfl rfl (J.nil (N.seq (W.seq (W.region (Jx.move rfl rfl (Jx.move rfl rfl ?_))))))))
 (refine J.call (c2) rfl (evs_args rfl) rfl ?_; rintro _ _ ⟨rfl, rfl⟩; simp only [la1, la2, la3])
 (refine Jx.move rfl rfl (Jx.extract rfl rfl rfl ?_))
 (refine Jx.extract rfl rfl rfl ?_)
 (refine Jx.assign rfl rfl (Jx.assign rfl rfl (J.nil (N.seq (W.seq (W.region (Jx.move rfl rfl (Jx.move rfl rfl ?_))))))))
 (refine J.call (c3) rfl (evs_args rfl) rfl ?_; rintro _ _ ⟨rfl, rfl⟩; simp only [la1, la2, la3])
 (refine Jx.move rfl rfl (Jx.extract rfl rfl rfl ?_))
 (refine Jx.extract rfl rfl rfl ?_)
 (refine Jx.assign rfl rfl (Jx.assign rfl rfl (J.nil (N.seq (W.seq (W.region (Jx.move rfl rfl (Jx.move rfl rfl ?_))))))))
 (refine J.call (c4) rfl (evs_args rfl) rfl ?_; rintro _ _ ⟨rfl, rfl⟩; simp only [la1, la2, la3])
 (refine Jx.move rfl rfl (Jx.extract rfl rfl rfl ?_))
 (refine Jx.extract rfl rfl rfl ?_)
 (refine Jx.assign rfl rfl (Jx.assign rfl rfl (J.nil (N.seq (W.seq (W.region (Jx.move rfl rfl (Jx.move rfl rfl (Jx.eqlS rfl rfl rfl (Jx.move rfl rfl (J.gY rfl rfl rfl ?_)))))))))))
 (refine Jx.move rfl rfl (J.gY rfl rfl rfl ?_))
 (refine Jx.move rfl rfl (J.gY rfl rfl rfl ?_))
 (refine Jx.eqlI rfl rfl rfl (Jx.pT rfl rfl rfl ?_))
 (refine Jx.move rfl rfl (J.gY rfl rfl rfl ?_))
 (refine Jx.move rfl rfl (J.gY rfl rfl rfl ?_))
 (refine Jx.move rfl rfl (J.gY rfl rfl rfl ?_))
 (refine Jx.eqlS rfl rfl rfl (Jx.pT rfl rfl rfl ?_))
 (refine Jx.move rfl rfl (J.gY rfl rfl rfl ?_))
 (refine Jx.move rfl rfl (J.gY rfl rfl rfl ?_))
 (refine Jx.move rfl rfl (J.gY rfl rfl rfl ?_))
 (refine Jx.eqlI rfl rfl rfl (Jx.pT rfl rfl rfl ?_))
 (refine Jx.move rfl rfl (Jx.pT rfl rfl rfl ?_))
 (refine Jx.move rfl rfl (J.gY rfl rfl rfl ?_))
 (refine J.call (cw) rfl (evs_args rfl) rfl ?_; rintro _ _ ⟨rfl, rfl⟩; simp only [la1, la2, la3])
 (refine Jx.pT rfl rfl rfl ?_)
 (refine Jx.assign rfl rfl (J.nil (N.seq (W.ret ?_))))
 (refine id ?_; rotate_left))
    exact N.ret (rs := [.tmp 6]) rfl (.tmp rfl .nil) ⟨rfl, rfl⟩
end Go.Proofs.YtafefapbiekmbaaDoor
