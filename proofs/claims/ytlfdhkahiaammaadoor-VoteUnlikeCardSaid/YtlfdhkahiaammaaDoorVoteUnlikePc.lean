/-
  Lemmas for the claim, part 3.
-/
import Derived.Test.YtlfdhkahiaammaaDoorVoteUnlikePb
namespace Go.Proofs.YtlfdhkahiaammaaDoor
open Go Go.Sse
set_option linter.unusedVariables false
set_option linter.unusedSimpArgs false
set_option maxRecDepth 10000
theorem bytes_back (b : Nat) (s : List UInt8) (a n : Nat) (h : Rdr.ok ⟨s, a, 0⟩) (hn : a + n ≤ s.length) :
    FnC Tryd.prog 52 [ptr b, int n] [rdO b ⟨s, a, 0⟩] (fun v L => v = str ((s.drop a).take n) ∧ L = [rdO b ⟨s, a + n, 0⟩]) := by
  have c := take_yes b ⟨s, a, 0⟩ n h hn
  simp only at c
  generalize (s.drop a).take n = t at *
  refine FnC.intro Tryd.func52 rfl Tryd.ntmps52 rfl fun Z w0 hG => ?_
  focus (
    (refine W.seq ?_)
    (refine W.region ?_)
    (refine Jx.assign rfl rfl ?_)
    (refine J.nil ?_)
    (refine N.seq ?_)
    (refine W.seq ?_)
    (refine W.seq ?_)
    (refine W.region ?_)
    (refine Jx.move rfl rfl ?_)
    (refine Jx.nilCheck rfl rfl ?_)
    (refine Jx.fieldAddr rfl rfl ?_)
    (refine Jx.load rfl 0 rfl rfl rfl ?_)
    (refine Jx.neqI rfl rfl rfl ?_)
    (refine J.nil ?_)
    (refine N.seq ?_)
    (refine W.condF rfl (by first | rfl | assumption | (exact decide_eq_true (by first | assumption | omega | rfl)) | (exact decide_eq_false (by first | assumption | omega | rfl)) | (simp; done) | (simp; omega)) ?_)
    (refine W.skip ?_)
    (refine N.seq ?_)
    (refine W.seq ?_)
    (refine W.seq ?_)
    (refine W.region ?_)
    (refine Jx.move rfl rfl ?_)
    (refine Jx.lssI rfl rfl rfl ?_)
    (refine J.nil ?_)
    (refine N.seq ?_)
    (refine W.condF rfl (by first | rfl | assumption | (exact decide_eq_true (by first | assumption | omega | rfl)) | (exact decide_eq_false (by first | assumption | omega | rfl)) | (simp; done) | (simp; omega)) ?_)
    (refine W.skip ?_)
    (refine N.seq ?_)
    (refine W.seq ?_)
    (refine W.region ?_)
    (refine Jx.move rfl rfl ?_)
    (refine Jx.move rfl rfl ?_)
    (refine J.call (c) rfl (evs_args rfl) rfl ?_; rintro _ _ ⟨rfl, rfl⟩; simp only [List.cons_append, List.nil_append, List.append_nil])
    (refine Jx.move rfl rfl ?_)
    (refine Jx.extract rfl rfl rfl ?_)
    (refine Jx.extract rfl rfl rfl ?_)
    (refine Jx.assign rfl rfl ?_)
    (refine Jx.assign rfl rfl ?_)
    (refine J.nil ?_)
    (refine N.seq ?_)
    (refine W.seq ?_)
    (refine W.seq ?_)
    (refine W.region ?_)
    (refine Jx.move rfl rfl ?_)
    (refine Jx.not rfl rfl ?_)
    (refine J.nil ?_)
    (refine N.seq ?_)
    (refine W.condF rfl (by first | rfl | assumption | (exact decide_eq_true (by first | assumption | omega | rfl)) | (exact decide_eq_false (by first | assumption | omega | rfl)) | (simp; done) | (simp; omega)) ?_)
    (refine W.skip ?_)
    (refine N.seq ?_)
    (refine W.seq ?_)
    (refine W.region ?_)
    (refine Jx.move rfl rfl ?_)
    (refine Jx.assign rfl rfl ?_)
    (refine J.nil ?_)
    (refine N.seq ?_)
    (refine W.ret ?_)
    (refine id ?_; rotate_left))
  exact N.ret (rs := [.tmp 4]) rfl (.tmp rfl .nil) ⟨rfl, rfl⟩
theorem same_ok (l m : List (List UInt8)) (hb : l.length ≤ 1048576) : FnC Tryd.prog 45 [ssl l, ssl m] [] (fun v L => v = bool (decide (l = m)) ∧ L = []) := by
  by_cases hl : l.length = m.length
  · refine FnC.intro Tryd.func45 rfl Tryd.ntmps45 rfl fun Z w0 hG => ?_
    focus (
    (refine W.seq ?_)
    (refine W.region ?_)
    (refine Jx.assign rfl rfl ?_)
    (refine J.nil ?_)
    (refine N.seq ?_)
    (refine W.seq ?_)
    (refine W.region ?_)
    (refine Jx.move rfl rfl ?_)
    (refine Jx.lenSl rfl rfl ?_)
    (refine Jx.move rfl rfl ?_)
    (refine Jx.lenSl rfl rfl ?_)
    (refine Jx.eqlI rfl rfl rfl ?_)
    (refine Jx.assign rfl rfl ?_)
    (refine J.nil ?_)
    (refine N.seq ?_)
    (refine W.seq ?_)
    (refine W.seq ?_)
    (refine W.region ?_)
    (refine Jx.assign rfl rfl ?_)
    (refine J.nil ?_)
    (refine N.seq ?_)
    (refine W.block ?_)
    (refine id ?_; rotate_left))
    refine W.loop (α := Nat × Bool) (fun x => [(6, int (x.1 : Int)), (5, bool x.2), (0, ssl l), (1, ssl m)]) (fun _ => []) (fun x => x.1 ≤ l.length ∧ (x.2 = true → l.take x.1 = m.take x.1) ∧ (x.2 = false → l ≠ m)) (fun x => l.length - x.1) (0, true) ⟨by omega, by simp, by simp⟩ rfl ⟨ref0 rfl, ⟨_, rfl, Sub.of_eq (by simp [hl])⟩, ref0 rfl, ref0 rfl, trivial⟩ ?_
    rintro ⟨i, q⟩ ⟨hi, h1, h2⟩
    simp only at hi h1 h2
    cases q with
    | false =>
      focus (
    (refine W.seq ?_)
    (refine W.seq ?_)
    (refine W.region ?_)
    (refine Jx.move rfl rfl ?_)
    (refine Jx.move rfl rfl ?_)
    (refine J.guardNoU rfl rfl rfl (by first | rfl | assumption | (exact decide_eq_true (by first | assumption | omega | rfl)) | (exact decide_eq_false (by first | assumption | omega | rfl)) | (simp; done) | (simp; omega)) rfl ?_)
    (refine J.guardNoU rfl rfl rfl (by first | rfl | assumption | (exact decide_eq_true (by first | assumption | omega | rfl)) | (exact decide_eq_false (by first | assumption | omega | rfl)) | (simp; done) | (simp; omega)) rfl ?_)
    (refine J.guardNoU rfl rfl rfl (by first | rfl | assumption | (exact decide_eq_true (by first | assumption | omega | rfl)) | (exact decide_eq_false (by first | assumption | omega | rfl)) | (simp; done) | (simp; omega)) rfl ?_)
    (refine J.guardNoU rfl rfl rfl (by first | rfl | assumption | (exact decide_eq_true (by first | assumption | omega | rfl)) | (exact decide_eq_false (by first | assumption | omega | rfl)) | (simp; done) | (simp; omega)) rfl ?_)
    (refine Jx.pickF rfl (by first | rfl | assumption | (exact decide_eq_true (by first | assumption | omega | rfl)) | (exact decide_eq_false (by first | assumption | omega | rfl)) | (simp; done) | (simp; omega)) rfl rfl ?_)
    (refine J.nil ?_)
    (refine N.seq ?_)
    (refine W.condF rfl (by first | rfl | assumption | (exact decide_eq_true (by first | assumption | omega | rfl)) | (exact decide_eq_false (by first | assumption | omega | rfl)) | (simp; done) | (simp; omega)) ?_)
    (refine W.exit ?_)
    (refine N.seq ?_)
    (refine W.seq ?_)
    (refine W.region ?_)
    (refine Jx.move rfl rfl ?_)
    (refine Jx.assign rfl rfl ?_)
    (refine J.nil ?_)
    (refine N.seq ?_)
    (refine W.ret ?_)
    (refine id ?_; rotate_left))
      exact N.ret (rs := [.tmp 4]) rfl (.tmp rfl .nil) ⟨by rw [decide_eq_false (h2 rfl)]; rfl, rfl⟩
    | true =>
      by_cases h3 : i < l.length
      · have h4 : i < m.length := by omega
        have e1 : l.take (i + 1) = l.take i ++ [l.getD i []] := by rw [List.take_add_one, List.getElem?_eq_getElem h3, List.getD_eq_getElem?_getD, List.getElem?_eq_getElem h3]; rfl
        have e2 : m.take (i + 1) = m.take i ++ [m.getD i []] := by rw [List.take_add_one, List.getElem?_eq_getElem h4, List.getD_eq_getElem?_getD, List.getElem?_eq_getElem h4]; rfl
        by_cases h5 : l.getD i [] = m.getD i []
        · focus (
    (refine W.seq ?_)
    (refine W.seq ?_)
    (refine W.region ?_)
    (refine Jx.move rfl rfl ?_)
    (refine Jx.move rfl rfl ?_)
    (refine J.guardYes rfl rfl rfl (by first | rfl | assumption | (exact decide_eq_true (by first | assumption | omega | rfl)) | (exact decide_eq_false (by first | assumption | omega | rfl)) | (simp; done) | (simp; omega)) ?_)
    (refine Jx.move rfl rfl ?_)
    (refine J.guardYes rfl rfl rfl (by first | rfl | assumption | (exact decide_eq_true (by first | assumption | omega | rfl)) | (exact decide_eq_false (by first | assumption | omega | rfl)) | (simp; done) | (simp; omega)) ?_)
    (refine Jx.move rfl rfl ?_)
    (refine J.guardYes rfl rfl rfl (by first | rfl | assumption | (exact decide_eq_true (by first | assumption | omega | rfl)) | (exact decide_eq_false (by first | assumption | omega | rfl)) | (simp; done) | (simp; omega)) ?_)
    (refine Jx.lenSl rfl rfl ?_)
    (refine J.guardYes rfl rfl rfl (by first | rfl | assumption | (exact decide_eq_true (by first | assumption | omega | rfl)) | (exact decide_eq_false (by first | assumption | omega | rfl)) | (simp; done) | (simp; omega)) ?_)
    (refine Jx.lssI rfl rfl rfl ?_)
    (refine Jx.pickT rfl (by first | rfl | assumption | (exact decide_eq_true (by first | assumption | omega | rfl)) | (exact decide_eq_false (by first | assumption | omega | rfl)) | (simp; done) | (simp; omega)) rfl rfl ?_)
    (refine J.nil ?_)
    (refine N.seq ?_)
    (refine W.condT rfl (by first | rfl | assumption | (exact decide_eq_true (by first | assumption | omega | rfl)) | (exact decide_eq_false (by first | assumption | omega | rfl)) | (simp; done) | (simp; omega)) ?_)
    (refine W.skip ?_)
    (refine N.seq ?_)
    (refine W.seq ?_)
    (refine W.block ?_)
    (refine W.draw follows ?_)
    (refine JD.calm rfl (by decide +kernel) ?_)
    (refine Cx.move rfl rfl ?_)
    (refine Cx.move rfl rfl ?_)
    (refine Cx.indexEl rfl rfl (by assumption) rfl rfl ?_)
    (refine Cx.loadPP rfl rfl ?_)
    (refine Cx.move rfl rfl ?_)
    (refine Cx.move rfl rfl ?_)
    (refine Cx.indexEl rfl rfl (by assumption) rfl rfl ?_)
    (refine Cx.loadPP rfl rfl ?_)
    (refine Cx.eqlS rfl rfl rfl ?_)
    (refine Cx.assign rfl rfl ?_)
    (refine SegC.nil ?_)
    (refine N.seq ?_)
    (refine W.region ?_)
    (refine Jx.move rfl rfl ?_)
    (refine Jx.add64 rfl rfl (by omega) rfl ?_)
    (refine Jx.assign rfl rfl ?_)
    (refine J.nil ?_)
    (refine id ?_; rotate_left))
          exact N.round (i + 1, true) ⟨h3, fun _ => by rw [e1, e2, h1 rfl, h5], by simp⟩ (by simp only; omega) rfl ⟨ref0 rfl, ⟨_, rfl, Sub.of_eq (by simp; simpa [List.getD_eq_getElem?_getD] using h5)⟩, ref0 rfl, ref0 rfl, trivial⟩
        · focus (
    (refine W.seq ?_)
    (refine W.seq ?_)
    (refine W.region ?_)
    (refine Jx.move rfl rfl ?_)
    (refine Jx.move rfl rfl ?_)
    (refine J.guardYes rfl rfl rfl (by first | rfl | assumption | (exact decide_eq_true (by first | assumption | omega | rfl)) | (exact decide_eq_false (by first | assumption | omega | rfl)) | (simp; done) | (simp; omega)) ?_)
    (refine Jx.move rfl rfl ?_)
    (refine J.guardYes rfl rfl rfl (by first | rfl | assumption | (exact decide_eq_true (by first | assumption | omega | rfl)) | (exact decide_eq_false (by first | assumption | omega | rfl)) | (simp; done) | (simp; omega)) ?_)
    (refine Jx.move rfl rfl ?_)
    (refine J.guardYes rfl rfl rfl (by first | rfl | assumption | (exact decide_eq_true (by first | assumption | omega | rfl)) | (exact decide_eq_false (by first | assumption | omega | rfl)) | (simp; done) | (simp; omega)) ?_)
    (refine Jx.lenSl rfl rfl ?_)
    (refine J.guardYes rfl rfl rfl (by first | rfl | assumption | (exact decide_eq_true (by first | assumption | omega | rfl)) | (exact decide_eq_false (by first | assumption | omega | rfl)) | (simp; done) | (simp; omega)) ?_)
    (refine Jx.lssI rfl rfl rfl ?_)
    (refine Jx.pickT rfl (by first | rfl | assumption | (exact decide_eq_true (by first | assumption | omega | rfl)) | (exact decide_eq_false (by first | assumption | omega | rfl)) | (simp; done) | (simp; omega)) rfl rfl ?_)
    (refine J.nil ?_)
    (refine N.seq ?_)
    (refine W.condT rfl (by first | rfl | assumption | (exact decide_eq_true (by first | assumption | omega | rfl)) | (exact decide_eq_false (by first | assumption | omega | rfl)) | (simp; done) | (simp; omega)) ?_)
    (refine W.skip ?_)
    (refine N.seq ?_)
    (refine W.seq ?_)
    (refine W.block ?_)
    (refine W.draw follows ?_)
    (refine JD.calm rfl (by decide +kernel) ?_)
    (refine Cx.move rfl rfl ?_)
    (refine Cx.move rfl rfl ?_)
    (refine Cx.indexEl rfl rfl (by assumption) rfl rfl ?_)
    (refine Cx.loadPP rfl rfl ?_)
    (refine Cx.move rfl rfl ?_)
    (refine Cx.move rfl rfl ?_)
    (refine Cx.indexEl rfl rfl (by assumption) rfl rfl ?_)
    (refine Cx.loadPP rfl rfl ?_)
    (refine Cx.eqlS rfl rfl rfl ?_)
    (refine Cx.assign rfl rfl ?_)
    (refine SegC.nil ?_)
    (refine N.seq ?_)
    (refine W.region ?_)
    (refine Jx.move rfl rfl ?_)
    (refine Jx.add64 rfl rfl (by omega) rfl ?_)
    (refine Jx.assign rfl rfl ?_)
    (refine J.nil ?_)
    (refine id ?_; rotate_left))
          exact N.round (i + 1, false) ⟨h3, by simp, fun _ e => h5 (by rw [e])⟩ (by simp only; omega) rfl ⟨ref0 rfl, ⟨_, rfl, Sub.of_eq (by simp; simpa [List.getD_eq_getElem?_getD] using h5)⟩, ref0 rfl, ref0 rfl, trivial⟩
      · have e := h1 rfl
        rw [List.take_of_length_le (by omega), List.take_of_length_le (by omega)] at e
        focus (
    (refine W.seq ?_)
    (refine W.seq ?_)
    (refine W.region ?_)
    (refine Jx.move rfl rfl ?_)
    (refine Jx.move rfl rfl ?_)
    (refine J.guardYes rfl rfl rfl (by first | rfl | assumption | (exact decide_eq_true (by first | assumption | omega | rfl)) | (exact decide_eq_false (by first | assumption | omega | rfl)) | (simp; done) | (simp; omega)) ?_)
    (refine Jx.move rfl rfl ?_)
    (refine J.guardYes rfl rfl rfl (by first | rfl | assumption | (exact decide_eq_true (by first | assumption | omega | rfl)) | (exact decide_eq_false (by first | assumption | omega | rfl)) | (simp; done) | (simp; omega)) ?_)
    (refine Jx.move rfl rfl ?_)
    (refine J.guardYes rfl rfl rfl (by first | rfl | assumption | (exact decide_eq_true (by first | assumption | omega | rfl)) | (exact decide_eq_false (by first | assumption | omega | rfl)) | (simp; done) | (simp; omega)) ?_)
    (refine Jx.lenSl rfl rfl ?_)
    (refine J.guardYes rfl rfl rfl (by first | rfl | assumption | (exact decide_eq_true (by first | assumption | omega | rfl)) | (exact decide_eq_false (by first | assumption | omega | rfl)) | (simp; done) | (simp; omega)) ?_)
    (refine Jx.lssI rfl rfl rfl ?_)
    (refine Jx.pickT rfl (by first | rfl | assumption | (exact decide_eq_true (by first | assumption | omega | rfl)) | (exact decide_eq_false (by first | assumption | omega | rfl)) | (simp; done) | (simp; omega)) rfl rfl ?_)
    (refine J.nil ?_)
    (refine N.seq ?_)
    (refine W.condF rfl (by first | rfl | assumption | (exact decide_eq_true (by first | assumption | omega | rfl)) | (exact decide_eq_false (by first | assumption | omega | rfl)) | (simp; done) | (simp; omega)) ?_)
    (refine W.exit ?_)
    (refine N.seq ?_)
    (refine W.seq ?_)
    (refine W.region ?_)
    (refine Jx.move rfl rfl ?_)
    (refine Jx.assign rfl rfl ?_)
    (refine J.nil ?_)
    (refine N.seq ?_)
    (refine W.ret ?_)
    (refine id ?_; rotate_left))
        exact N.ret (rs := [.tmp 4]) rfl (.tmp rfl .nil) ⟨by rw [decide_eq_true e]; rfl, rfl⟩
  · have hne : l ≠ m := fun e => hl (by rw [e])
    refine FnC.intro Tryd.func45 rfl Tryd.ntmps45 rfl fun Z w0 hG => ?_
    focus (
    (refine W.seq ?_)
    (refine W.region ?_)
    (refine Jx.assign rfl rfl ?_)
    (refine J.nil ?_)
    (refine N.seq ?_)
    (refine W.seq ?_)
    (refine W.region ?_)
    (refine Jx.move rfl rfl ?_)
    (refine Jx.lenSl rfl rfl ?_)
    (refine Jx.move rfl rfl ?_)
    (refine Jx.lenSl rfl rfl ?_)
    (refine Jx.eqlI rfl rfl rfl ?_)
    (refine Jx.assign rfl rfl ?_)
    (refine J.nil ?_)
    (refine N.seq ?_)
    (refine W.seq ?_)
    (refine W.seq ?_)
    (refine W.region ?_)
    (refine Jx.assign rfl rfl ?_)
    (refine J.nil ?_)
    (refine N.seq ?_)
    (refine W.block ?_)
    (refine id ?_; rotate_left))
    refine W.loop (α := Unit) (fun x => [(5, bool false)]) (fun _ => []) (fun x => True) (fun x => 0) () trivial rfl ⟨⟨_, rfl, Sub.of_eq (by simp; omega)⟩, trivial⟩ ?_
    rintro _ _
    focus (
    (refine W.seq ?_)
    (refine W.seq ?_)
    (refine W.region ?_)
    (refine Jx.move rfl rfl ?_)
    (refine Jx.move rfl rfl ?_)
    (refine J.guardNoU rfl rfl rfl (by first | rfl | assumption | (exact decide_eq_true (by first | assumption | omega | rfl)) | (exact decide_eq_false (by first | assumption | omega | rfl)) | (simp; done) | (simp; omega)) rfl ?_)
    (refine J.guardNoU rfl rfl rfl (by first | rfl | assumption | (exact decide_eq_true (by first | assumption | omega | rfl)) | (exact decide_eq_false (by first | assumption | omega | rfl)) | (simp; done) | (simp; omega)) rfl ?_)
    (refine J.guardNoU rfl rfl rfl (by first | rfl | assumption | (exact decide_eq_true (by first | assumption | omega | rfl)) | (exact decide_eq_false (by first | assumption | omega | rfl)) | (simp; done) | (simp; omega)) rfl ?_)
    (refine J.guardNoU rfl rfl rfl (by first | rfl | assumption | (exact decide_eq_true (by first | assumption | omega | rfl)) | (exact decide_eq_false (by first | assumption | omega | rfl)) | (simp; done) | (simp; omega)) rfl ?_)
    (refine Jx.pickF rfl (by first | rfl | assumption | (exact decide_eq_true (by first | assumption | omega | rfl)) | (exact decide_eq_false (by first | assumption | omega | rfl)) | (simp; done) | (simp; omega)) rfl rfl ?_)
    (refine J.nil ?_)
    (refine N.seq ?_)
    (refine W.condF rfl (by first | rfl | assumption | (exact decide_eq_true (by first | assumption | omega | rfl)) | (exact decide_eq_false (by first | assumption | omega | rfl)) | (simp; done) | (simp; omega)) ?_)
    (refine W.exit ?_)
    (refine N.seq ?_)
    (refine W.seq ?_)
    (refine W.region ?_)
    (refine Jx.move rfl rfl ?_)
    (refine Jx.assign rfl rfl ?_)
    (refine J.nil ?_)
    (refine N.seq ?_)
    (refine W.ret ?_)
    (refine id ?_; rotate_left))
    exact N.ret (rs := [.tmp 4]) rfl (.tmp rfl .nil) ⟨by rw [decide_eq_false hne]; rfl, rfl⟩
end Go.Proofs.YtlfdhkahiaammaaDoor
namespace Go.Proofs.YtlfdhkahiaammaaDoor
open Go Go.Sse
set_option linter.unusedVariables false
set_option linter.unusedSimpArgs false
set_option maxRecDepth 10000
end Go.Proofs.YtlfdhkahiaammaaDoor
namespace Go.Proofs.YtlfdhkahiaammaaDoor
open Go Go.Sse
set_option linter.unusedVariables false
set_option linter.unusedSimpArgs false
set_option maxRecDepth 10000
abbrev PSt := Option (List UInt8)
def numP : PSt → Nat × PSt
  | none => (0, none)
  | some l => if (readN l).2.2 = 0 then ((readN l).1, some (l.drop (readN l).2.1)) else (0, none)
def bytesP (n : Nat) : PSt → List UInt8 × PSt
  | none => ([], none)
  | some l => if n ≤ l.length then (l.take n, some (l.drop n)) else ([], none)
def textP (m : Int) (st : PSt) : List UInt8 × PSt :=
  match numP st with
  | (n, some r) => if (n : Int) ≤ m then bytesP n (some r) else ([], none)
  | (_, none) => ([], none)
def textsP (e : Int) : Nat → PSt → List (List UInt8) × PSt
  | 0, st => ([], st)
  | n + 1, st => match textP e st with
    | (t, some r) => (match textsP e n (some r) with
      | (ts, some q) => (t :: ts, some q)
      | (_, none) => ([], none))
    | (_, none) => ([], none)
def listP (m e : Int) (st : PSt) : List (List UInt8) × PSt :=
  match numP st with
  | (n, some r) => if (n : Int) ≤ m then textsP e n (some r) else ([], none)
  | (_, none) => ([], none)
def flagP : PSt → Bool × PSt
  | some (b :: l) => if 1 < b.toNat then (false, none) else (decide (b.toNat = 1), some l)
  | _ => (false, none)
theorem numP_good {st : PSt} {n : Nat} {r : List UInt8} (h : numP st = (n, some r)) : st = some (numB n ++ r) ∧ n < 9223372036854775808 := by
  cases st with
  | none => simp [numP] at h
  | some l =>
    simp only [numP] at h
    by_cases he : (readN l).2.2 = 0
    · rw [if_pos he] at h
      obtain ⟨g1, g2, g3⟩ := readN_good he
      simp only [Prod.mk.injEq, Option.some.injEq] at h
      obtain ⟨rfl, rfl⟩ := h
      exact ⟨by rw [← g1, List.take_append_drop], g3⟩
    · rw [if_neg he] at h; simp at h
theorem numP_back (n : Nat) (hn : n < 9223372036854775808) (r : List UInt8) : numP (some (numB n ++ r)) = (n, some r) := by
  simp only [numP, readN_num n hn r, if_pos, List.drop_append_of_le_length (Nat.le_refl _), List.drop_length, List.nil_append]
theorem bytesP_good {st : PSt} {n : Nat} {t r : List UInt8} (h : bytesP n st = (t, some r)) : st = some (t ++ r) ∧ t.length = n := by
  cases st with
  | none => simp [bytesP] at h
  | some l =>
    simp only [bytesP] at h
    by_cases he : n ≤ l.length
    · rw [if_pos he] at h
      simp only [Prod.mk.injEq, Option.some.injEq] at h
      obtain ⟨rfl, rfl⟩ := h
      exact ⟨by rw [List.take_append_drop], by rw [List.length_take]; omega⟩
    · rw [if_neg he] at h; simp at h
theorem bytesP_back (t r : List UInt8) : bytesP t.length (some (t ++ r)) = (t, some r) := by
  simp [bytesP]
theorem bytesP_back' {n : Nat} (t r : List UInt8) (h : t.length = n) : bytesP n (some (t ++ r)) = (t, some r) := by subst h; exact bytesP_back t r
theorem textP_good {m : Int} {st : PSt} {t r : List UInt8} (h : textP m st = (t, some r)) : st = some (textB t ++ r) ∧ (t.length : Int) ≤ m ∧ t.length < 9223372036854775808 := by
  unfold textP at h
  split at h
  · rename_i n q hq
    obtain ⟨g1, g2⟩ := numP_good hq
    split at h
    · rename_i hm
      obtain ⟨g3, g4⟩ := bytesP_good h
      subst g4
      simp only [Option.some.injEq] at g3
      subst g3
      exact ⟨by rw [g1, textB, List.append_assoc], hm, g2⟩
    · simp at h
  · simp at h
theorem textP_back {m : Int} (t r : List UInt8) (h : (t.length : Int) ≤ m) (h2 : t.length < 9223372036854775808) : textP m (some (textB t ++ r)) = (t, some r) := by
  unfold textP
  rw [textB, List.append_assoc, numP_back _ h2]
  simp only [h, if_true]
  exact bytesP_back t r
theorem textsP_good {e : Int} : ∀ {n : Nat} {st : PSt} {l : List (List UInt8)} {r : List UInt8}, textsP e n st = (l, some r) → st = some ((l.map textB).flatten ++ r) ∧ l.length = n ∧ (∀ t ∈ l, (t.length : Int) ≤ e ∧ t.length < 9223372036854775808)
  | 0, st, l, r, h => by
    simp only [textsP, Prod.mk.injEq] at h
    obtain ⟨rfl, rfl⟩ := h
    exact ⟨rfl, rfl, by simp⟩
  | n + 1, st, l, r, h => by
    simp only [textsP] at h
    split at h
    · rename_i t q hq
      split at h
      · rename_i ts q2 hq2
        simp only [Prod.mk.injEq, Option.some.injEq] at h
        obtain ⟨rfl, rfl⟩ := h
        obtain ⟨g1, g2, g3⟩ := textP_good hq
        obtain ⟨g4, g5, g6⟩ := textsP_good hq2
        simp only [Option.some.injEq] at g4
        subst g4
        refine ⟨by rw [g1]; simp only [List.map_cons, List.flatten_cons, List.append_assoc], by simp [g5], ?_⟩
        intro u hu
        rcases List.mem_cons.1 hu with rfl | hu
        · exact ⟨g2, g3⟩
        · exact g6 u hu
      · simp at h
    · simp at h
theorem textsP_back {e : Int} : ∀ (l : List (List UInt8)) (r : List UInt8), (∀ t ∈ l, (t.length : Int) ≤ e ∧ t.length < 9223372036854775808) → textsP e l.length (some ((l.map textB).flatten ++ r)) = (l, some r)
  | [], r, _ => rfl
  | t :: l, r, h => by
    simp only [List.map_cons, List.flatten_cons, List.append_assoc, List.length_cons, textsP]
    have h0 := h t (List.mem_cons_self ..)
    rw [textP_back t _ h0.1 h0.2]
    simp only
    rw [textsP_back l r fun u hu => h u (List.mem_cons_of_mem _ hu)]
theorem textsP_short {e : Int} : ∀ {n : Nat} {st : PSt} {l : List (List UInt8)}, textsP e n st = (l, none) → l = []
  | 0, st, l, h => by simp only [textsP, Prod.mk.injEq] at h; exact h.1.symm
  | n + 1, st, l, h => by
    simp only [textsP] at h
    split at h
    · split at h
      · simp at h
      · simp only [Prod.mk.injEq] at h; exact h.1.symm
    · simp only [Prod.mk.injEq] at h; exact h.1.symm
theorem listP_good {m e : Int} {st : PSt} {l : List (List UInt8)} {r : List UInt8} (h : listP m e st = (l, some r)) : st = some (listB l ++ r) ∧ (l.length : Int) ≤ m ∧ l.length < 9223372036854775808 ∧ (∀ t ∈ l, (t.length : Int) ≤ e ∧ t.length < 9223372036854775808) := by
  unfold listP at h
  split at h
  · rename_i n q hq
    obtain ⟨g1, g2⟩ := numP_good hq
    split at h
    · rename_i hm
      obtain ⟨g3, g4, g5⟩ := textsP_good h
      subst g4
      simp only [Option.some.injEq] at g3
      subst g3
      exact ⟨by rw [g1, listB, List.append_assoc], hm, g2, g5⟩
    · simp at h
  · simp at h
theorem listP_back {m e : Int} (l : List (List UInt8)) (r : List UInt8) (hm : (l.length : Int) ≤ m) (h2 : l.length < 9223372036854775808) (h : ∀ t ∈ l, (t.length : Int) ≤ e ∧ t.length < 9223372036854775808) : listP m e (some (listB l ++ r)) = (l, some r) := by
  unfold listP
  rw [listB, List.append_assoc, numP_back _ h2]
  simp only [hm, if_true]
  exact textsP_back l r h
theorem flagP_good {st : PSt} {f : Bool} {r : List UInt8} (h : flagP st = (f, some r)) : st = some (flagB f ++ r) := by
  match st, h with
  | none, h => simp [flagP] at h
  | some [], h => simp [flagP] at h
  | some (b :: l), h =>
    simp only [flagP] at h
    split at h
    · simp at h
    · rename_i hb
      simp only [Prod.mk.injEq, Option.some.injEq] at h
      obtain ⟨rfl, rfl⟩ := h
      by_cases h1 : b.toNat = 1
      · have : b = 1 := UInt8.toNat_inj.1 (by rw [h1]; rfl)
        subst this; rfl
      · have : b = 0 := UInt8.toNat_inj.1 (by show b.toNat = 0; omega)
        subst this; rfl
theorem flagP_back (f : Bool) (r : List UInt8) : flagP (some (flagB f ++ r)) = (f, some r) := by cases f <;> rfl
theorem bytesP_short {n : Nat} {st : PSt} {t : List UInt8} (h : bytesP n st = (t, none)) : t = [] := by
  cases st with
  | none => simp only [bytesP, Prod.mk.injEq] at h; exact h.1.symm
  | some l => simp only [bytesP] at h; split at h <;> simp at h; exact h
theorem textP_short {m : Int} {st : PSt} {t : List UInt8} (h : textP m st = (t, none)) : t = [] := by
  unfold textP at h
  split at h
  · split at h
    · exact bytesP_short h
    · simp only [Prod.mk.injEq] at h; exact h.1.symm
  · simp only [Prod.mk.injEq] at h; exact h.1.symm
theorem listP_short {m e : Int} {st : PSt} {l : List (List UInt8)} (h : listP m e st = (l, none)) : l = [] := by
  unfold listP at h
  split at h
  · split at h
    · exact textsP_short h
    · simp only [Prod.mk.injEq] at h; exact h.1.symm
  · simp only [Prod.mk.injEq] at h; exact h.1.symm
end Go.Proofs.YtlfdhkahiaammaaDoor
namespace Go.Proofs.YtlfdhkahiaammaaDoor
open Go Go.Sse
set_option linter.unusedVariables false
set_option linter.unusedSimpArgs false
set_option maxRecDepth 10000
def lf (s : List UInt8) (a : Nat) (c : Int) : PSt := if c = 0 then some (s.drop a) else none
theorem lf_no {s : List UInt8} {a : Nat} {c : Int} (h : c ≠ 0) : lf s a c = none := if_neg h
theorem rd_number (b : Nat) (s : List UInt8) (a : Nat) (c : Int) (h1 : a ≤ s.length) (h2 : s.length ≤ 1099511627776) :
    FnC Tryd.prog 80 [ptr b] [rdO b ⟨s, a, c⟩] (fun v L => ∃ (n : Nat) (e : Int) (a' : Nat), v = .tup [int (n : Int), int e] ∧ L = [rdO b ⟨s, a', c⟩] ∧ n < 9223372036854775808 ∧
      (e = 0 → c = 0 ∧ a' ≤ s.length ∧ numP (lf s a c) = (n, some (s.drop a'))) ∧ (e ≠ 0 → numP (lf s a c) = (0, none)) ∧ (c ≠ 0 → a' ≤ s.length)) := by
  by_cases hc : c = 0
  · subst hc
    by_cases he : (readN (s.drop a)).2.2 = 0
    · refine (number_good b ⟨s, a, 0⟩ ⟨h1, h2⟩ rfl he).mono ?_
      rintro v L ⟨⟨s', a', c'⟩, ⟨rfl, hs', hc', ha'⟩, rfl⟩
      simp only at hs' hc' ha'
      obtain ⟨g1, g2, g3⟩ := readN_good he
      have hx := ha' he
      subst hs' hc' hx
      rw [List.length_drop] at g2
      refine ⟨_, _, _, rfl, rfl, g3, fun _ => ⟨rfl, by omega, ?_⟩, fun h => absurd he h, fun h => absurd rfl h⟩
      simp only [numP, lf, if_true, if_pos he, List.drop_drop]
    · refine (number_bad b ⟨s, a, 0⟩ ⟨h1, h2⟩ rfl he).mono ?_
      rintro v L ⟨⟨s', a', c'⟩, ⟨rfl, hs', hc', ha'⟩, rfl⟩
      simp only at hs' hc' ha'
      subst hs' hc'
      have hn : (readN (s'.drop a)).1 = 0 := by
        have : ∀ l, (readN l).2.2 ≠ 0 → (readN l).1 = 0 := fun l hl => by
          cases l with
          | nil => rfl
          | cons x t =>
            simp only [readN] at hl ⊢
            split
            · rfl
            · split
              · rfl
              · split
                · rfl
                · rename_i q1 q2 q3; rw [if_neg q1, if_neg q2, if_neg q3] at hl; exact absurd rfl hl
        exact this _ he
      refine ⟨_, _, _, rfl, rfl, by simp only [hn]; omega, fun h => absurd h he, fun _ => ?_, fun h => absurd rfl h⟩
      simp only [numP, lf, if_true, if_neg he]
  · refine (number_code b ⟨s, a, c⟩ hc).mono ?_
    rintro v L ⟨rfl, rfl⟩
    exact ⟨0, c, a, rfl, rfl, by omega, fun h => absurd h hc, fun _ => by rw [lf_no hc]; rfl, fun _ => h1⟩
theorem rd_refuse (b : Nat) (s : List UInt8) (a : Nat) (c : Int) (n : Nat) (e : Int) (h1 : n ≤ s.length) (he : e ≠ 0) (ha : c ≠ 0 → a ≤ s.length) :
    FnC Tryd.prog 68 [ptr b, int (n : Int), int e] [rdO b ⟨s, a, c⟩] (fun v L => ∃ (a' : Nat) (c' : Int), L = [rdO b ⟨s, a', c'⟩] ∧ a' ≤ s.length ∧ c' ≠ 0) := by
  refine (refused_ok b ⟨s, a, c⟩ n e).mono ?_
  rintro v L rfl
  by_cases hc : c = 0
  · subst hc
    exact ⟨n, e, rfl, h1, he⟩
  · exact ⟨a, c, by simp only [Rdr.refuse, if_neg hc], ha hc, hc⟩
theorem rd_Num (b : Nat) (s : List UInt8) (a : Nat) (c : Int) (h1 : a ≤ s.length) (h2 : s.length ≤ 1099511627776) :
    FnC Tryd.prog 53 [ptr b] [rdO b ⟨s, a, c⟩] (fun v L => ∃ (n a' : Nat) (c' : Int), v = int (n : Int) ∧ L = [rdO b ⟨s, a', c'⟩] ∧ a' ≤ s.length ∧ n < 9223372036854775808 ∧ numP (lf s a c) = (n, lf s a' c')) := by
  refine (rnum_ok b ⟨s, a, c⟩ ⟨h1, h2⟩).mono ?_
  rintro v L ⟨rfl, rfl⟩
  by_cases hc : c = 0
  · subst hc
    by_cases he : (readN (s.drop a)).2.2 = 0
    · obtain ⟨g1, g2, g3⟩ := readN_good he
      rw [List.length_drop] at g2
      refine ⟨(readN (s.drop a)).1, a + (readN (s.drop a)).2.1, 0, by simp [Rdr.num, he], by simp [Rdr.num, he], by omega, g3, ?_⟩
      simp only [numP, lf, if_true, if_pos he, List.drop_drop]
    · refine ⟨0, a, (readN (s.drop a)).2.2, by simp [Rdr.num, he], by simp [Rdr.num, he], h1, by omega, ?_⟩
      rw [lf_no he]
      simp only [numP, lf, if_true, if_neg he]
  · exact ⟨0, a, c, by simp [Rdr.num, hc], by simp [Rdr.num, hc], h1, by omega, by rw [lf_no hc]; rfl⟩
theorem rd_Bytes (b : Nat) (s : List UInt8) (a : Nat) (c : Int) (n : Nat) (h1 : a ≤ s.length) (h2 : s.length ≤ 1099511627776) :
    FnC Tryd.prog 52 [ptr b, int (n : Int)] [rdO b ⟨s, a, c⟩] (fun v L => ∃ (t : List UInt8) (a' : Nat) (c' : Int), v = str t ∧ L = [rdO b ⟨s, a', c'⟩] ∧ a' ≤ s.length ∧ bytesP n (lf s a c) = (t, lf s a' c')) := by
  by_cases hc : c = 0
  · subst hc
    by_cases hn : a + n ≤ s.length
    · refine (bytes_back b s a n ⟨h1, h2⟩ hn).mono ?_
      rintro v L ⟨rfl, rfl⟩
      exact ⟨_, _, _, rfl, rfl, hn, by simp only [bytesP, lf, if_true, List.length_drop, List.drop_drop]; rw [if_pos (by omega)]⟩
    · have c1 := take_no b ⟨s, a, 0⟩ n ⟨h1, h2⟩ (by simp only; omega)
      have c2 := rd_refuse b s a 0 a 20 h1 (by decide) (by intro h; exact absurd rfl h)
      refine FnC.intro Tryd.func52 rfl Tryd.ntmps52 rfl fun Z w0 hG => ?_
      focus (
    (refine W.seq ?_)
    (refine W.region ?_)
    (refine Jx.assign rfl rfl ?_)
    (refine J.nil ?_)
    (refine N.seq ?_)
    (refine W.seq ?_)
    (refine W.seq ?_)
    (refine W.region ?_)
    (refine Jx.move rfl rfl ?_)
    (refine Jx.nilCheck rfl rfl ?_)
    (refine Jx.fieldAddr rfl rfl ?_)
    (refine Jx.load rfl 0 rfl rfl rfl ?_)
    (refine Jx.neqI rfl rfl rfl ?_)
    (refine J.nil ?_)
    (refine N.seq ?_)
    (refine W.condF rfl (by first | rfl | assumption | (exact decide_eq_true (by first | assumption | omega | rfl)) | (exact decide_eq_false (by first | assumption | omega | rfl)) | (simp; done) | (simp; omega)) ?_)
    (refine W.skip ?_)
    (refine N.seq ?_)
    (refine W.seq ?_)
    (refine W.seq ?_)
    (refine W.region ?_)
    (refine Jx.move rfl rfl ?_)
    (refine Jx.lssI rfl rfl rfl ?_)
    (refine J.nil ?_)
    (refine N.seq ?_)
    (refine W.condF rfl (by first | rfl | assumption | (exact decide_eq_true (by first | assumption | omega | rfl)) | (exact decide_eq_false (by first | assumption | omega | rfl)) | (simp; done) | (simp; omega)) ?_)
    (refine W.skip ?_)
    (refine N.seq ?_)
    (refine W.seq ?_)
    (refine W.region ?_)
    (refine Jx.move rfl rfl ?_)
    (refine Jx.move rfl rfl ?_)
    (refine J.call (c1) rfl (evs_args rfl) rfl ?_; rintro _ _ ⟨rfl, rfl⟩; simp only [List.cons_append, List.nil_append, List.append_nil])
    (refine Jx.move rfl rfl ?_)
    (refine Jx.extract rfl rfl rfl ?_)
    (refine Jx.extract rfl rfl rfl ?_)
    (refine Jx.assign rfl rfl ?_)
    (refine Jx.assign rfl rfl ?_)
    (refine J.nil ?_)
    (refine N.seq ?_)
    (refine W.seq ?_)
    (refine W.seq ?_)
    (refine W.region ?_)
    (refine Jx.move rfl rfl ?_)
    (refine Jx.not rfl rfl ?_)
    (refine J.nil ?_)
    (refine N.seq ?_)
    (refine W.condT rfl (by first | rfl | assumption | (exact decide_eq_true (by first | assumption | omega | rfl)) | (exact decide_eq_false (by first | assumption | omega | rfl)) | (simp; done) | (simp; omega)) ?_)
    (refine W.region ?_)
    (refine Jx.move rfl rfl ?_)
    (refine Jx.move rfl rfl ?_)
    (refine Jx.nilCheck rfl rfl ?_)
    (refine Jx.fieldAddr rfl rfl ?_)
    (refine Jx.load rfl 0 rfl rfl rfl ?_)
    (refine J.call (c2) rfl (evs_args rfl) rfl ?_; rintro _ _ ⟨a', c', rfl, ha', hc'⟩; simp only [List.cons_append, List.nil_append, List.append_nil])
    (refine J.nil ?_)
    (refine N.seq ?_)
    (refine W.seq ?_)
    (refine W.region ?_)
    (refine Jx.move rfl rfl ?_)
    (refine Jx.assign rfl rfl ?_)
    (refine J.nil ?_)
    (refine N.seq ?_)
    (refine W.ret ?_)
    (refine id ?_; rotate_left))
      exact N.ret (rs := [.tmp 4]) rfl (.tmp rfl .nil) ⟨[], a', c', rfl, rfl, ha', by rw [lf_no hc']; simp only [bytesP, lf, if_true, List.length_drop]; rw [if_neg (by omega)]⟩
  · refine FnC.intro Tryd.func52 rfl Tryd.ntmps52 rfl fun Z w0 hG => ?_
    focus (
    (refine W.seq ?_)
    (refine W.region ?_)
    (refine Jx.assign rfl rfl ?_)
    (refine J.nil ?_)
    (refine N.seq ?_)
    (refine W.seq ?_)
    (refine W.seq ?_)
    (refine W.region ?_)
    (refine Jx.move rfl rfl ?_)
    (refine Jx.nilCheck rfl rfl ?_)
    (refine Jx.fieldAddr rfl rfl ?_)
    (refine Jx.load rfl 0 rfl rfl rfl ?_)
    (refine Jx.neqI rfl rfl rfl ?_)
    (refine J.nil ?_)
    (refine N.seq ?_)
    (refine W.condT rfl (by first | rfl | assumption | (exact decide_eq_true (by first | assumption | omega | rfl)) | (exact decide_eq_false (by first | assumption | omega | rfl)) | (simp; done) | (simp; omega)) ?_)
    (refine W.seq ?_)
    (refine W.region ?_)
    (refine Jx.assign rfl rfl ?_)
    (refine J.nil ?_)
    (refine N.seq ?_)
    (refine W.ret ?_)
    (refine N.seqRet ?_)
    (refine id ?_; rotate_left))
    exact N.ret (rs := [.tmp 4]) rfl (.tmp rfl .nil) ⟨[], a, c, rfl, rfl, h1, by rw [lf_no hc]; rfl⟩
theorem rd_text (b : Nat) (s : List UInt8) (a : Nat) (c : Int) (m : Int) (h1 : a ≤ s.length) (h2 : s.length ≤ 1099511627776) :
    FnC Tryd.prog 67 [ptr b, int m] [rdO b ⟨s, a, c⟩] (fun v L => ∃ (t : List UInt8) (e : Int) (a' : Nat), v = .tup [str t, int e] ∧ L = [rdO b ⟨s, a', c⟩] ∧
      (e = 0 → c = 0 ∧ a' ≤ s.length ∧ textP m (lf s a c) = (t, some (s.drop a'))) ∧ (e ≠ 0 → textP m (lf s a c) = ([], none))) := by
  have c1 := rd_number b s a c h1 h2
  refine FnC.intro Tryd.func67 rfl Tryd.ntmps67 rfl fun Z w0 hG => ?_
  focus (
    (refine W.seq ?_)
    (refine W.region ?_)
    (refine Jx.assign rfl rfl ?_)
    (refine Jx.assign rfl rfl ?_)
    (refine J.nil ?_)
    (refine N.seq ?_)
    (refine W.seq ?_)
    (refine W.region ?_)
    (refine Jx.move rfl rfl ?_)
    (refine J.call (c1) rfl (evs_args rfl) rfl ?_; rintro _ _ ⟨n, e, a', rfl, rfl, hn, hy, hz, hw⟩; simp only [List.cons_append, List.nil_append, List.append_nil])
    (refine Jx.move rfl rfl ?_)
    (refine Jx.extract rfl rfl rfl ?_)
    (refine Jx.extract rfl rfl rfl ?_)
    (refine Jx.assign rfl rfl ?_)
    (refine Jx.assign rfl rfl ?_)
    (refine J.nil ?_)
    (refine N.seq ?_)
    (refine W.seq ?_)
    (refine W.seq ?_)
    (refine W.region ?_)
    (refine Jx.move rfl rfl ?_)
    (refine Jx.neqI rfl rfl rfl ?_)
    (refine J.nil ?_)
    (refine N.seq ?_)
    (refine id ?_; rotate_left))
  by_cases he : e = 0
  · obtain ⟨rfl, h3, h4⟩ := hy he
    by_cases hm : m < (n : Int)
    · focus (
    (refine W.condF rfl (by first | rfl | assumption | (exact decide_eq_true (by first | assumption | omega | rfl)) | (exact decide_eq_false (by first | assumption | omega | rfl)) | (simp; done) | (simp; omega)) ?_)
    (refine W.skip ?_)
    (refine N.seq ?_)
    (refine W.seq ?_)
    (refine W.seq ?_)
    (refine W.region ?_)
    (refine Jx.move rfl rfl ?_)
    (refine Jx.move rfl rfl ?_)
    (refine Jx.gtrI rfl rfl rfl ?_)
    (refine J.nil ?_)
    (refine N.seq ?_)
    (refine W.condT rfl (by first | rfl | assumption | (exact decide_eq_true (by first | assumption | omega | rfl)) | (exact decide_eq_false (by first | assumption | omega | rfl)) | (simp; done) | (simp; omega)) ?_)
    (refine W.seq ?_)
    (refine W.region ?_)
    (refine Jx.assign rfl rfl ?_)
    (refine Jx.assign rfl rfl ?_)
    (refine J.nil ?_)
    (refine N.seq ?_)
    (refine W.ret ?_)
    (refine N.seqRet ?_)
    (refine id ?_; rotate_left))
      refine N.ret (rs := [.tmp 4, .tmp 5]) rfl (.tmp rfl (.tmp rfl .nil)) ⟨[], 2, a', rfl, rfl, by intro h; exact absurd h (by decide), fun _ => ?_⟩
      simp only [textP, h4]
      rw [if_neg (by omega)]
    · by_cases hl : a' + n ≤ s.length
      · have c2 := take_yes b ⟨s, a', 0⟩ n ⟨h3, h2⟩ hl
        simp only at c2
        generalize ht : (s.drop a').take n = t at *
        focus (
    (refine W.condF rfl (by first | rfl | assumption | (exact decide_eq_true (by first | assumption | omega | rfl)) | (exact decide_eq_false (by first | assumption | omega | rfl)) | (simp; done) | (simp; omega)) ?_)
    (refine W.skip ?_)
    (refine N.seq ?_)
    (refine W.seq ?_)
    (refine W.seq ?_)
    (refine W.region ?_)
    (refine Jx.move rfl rfl ?_)
    (refine Jx.move rfl rfl ?_)
    (refine Jx.gtrI rfl rfl rfl ?_)
    (refine J.nil ?_)
    (refine N.seq ?_)
    (refine W.condF rfl (by first | rfl | assumption | (exact decide_eq_true (by first | assumption | omega | rfl)) | (exact decide_eq_false (by first | assumption | omega | rfl)) | (simp; done) | (simp; omega)) ?_)
    (refine W.skip ?_)
    (refine N.seq ?_)
    (refine W.seq ?_)
    (refine W.region ?_)
    (refine Jx.move rfl rfl ?_)
    (refine Jx.move rfl rfl ?_)
    (refine J.call (c2) rfl (evs_args rfl) rfl ?_; rintro _ _ ⟨rfl, rfl⟩; simp only [List.cons_append, List.nil_append, List.append_nil])
    (refine Jx.move rfl rfl ?_)
    (refine Jx.extract rfl rfl rfl ?_)
    (refine Jx.extract rfl rfl rfl ?_)
    (refine Jx.assign rfl rfl ?_)
    (refine Jx.assign rfl rfl ?_)
    (refine J.nil ?_)
    (refine N.seq ?_)
    (refine W.seq ?_)
    (refine W.seq ?_)
    (refine W.region ?_)
    (refine Jx.move rfl rfl ?_)
    (refine Jx.not rfl rfl ?_)
    (refine J.nil ?_)
    (refine N.seq ?_)
    (refine W.condF rfl (by first | rfl | assumption | (exact decide_eq_true (by first | assumption | omega | rfl)) | (exact decide_eq_false (by first | assumption | omega | rfl)) | (simp; done) | (simp; omega)) ?_)
    (refine W.skip ?_)
    (refine N.seq ?_)
    (refine W.seq ?_)
    (refine W.region ?_)
    (refine Jx.move rfl rfl ?_)
    (refine Jx.assign rfl rfl ?_)
    (refine Jx.assign rfl rfl ?_)
    (refine J.nil ?_)
    (refine N.seq ?_)
    (refine W.ret ?_)
    (refine id ?_; rotate_left))
        refine N.ret (rs := [.tmp 4, .tmp 5]) rfl (.tmp rfl (.tmp rfl .nil)) ⟨t, 0, a' + n, rfl, rfl, fun _ => ⟨by trivial, hl, ?_⟩, by intro h; exact absurd rfl h⟩
        simp only [textP, h4]
        rw [if_pos (by omega)]
        simp only [bytesP, List.length_drop, List.drop_drop, ht]
        rw [if_pos (by omega)]
      · have c2 := take_no b ⟨s, a', 0⟩ n ⟨h3, h2⟩ (by simp only; omega)
        focus (
    (refine W.condF rfl (by first | rfl | assumption | (exact decide_eq_true (by first | assumption | omega | rfl)) | (exact decide_eq_false (by first | assumption | omega | rfl)) | (simp; done) | (simp; omega)) ?_)
    (refine W.skip ?_)
    (refine N.seq ?_)
    (refine W.seq ?_)
    (refine W.seq ?_)
    (refine W.region ?_)
    (refine Jx.move rfl rfl ?_)
    (refine Jx.move rfl rfl ?_)
    (refine Jx.gtrI rfl rfl rfl ?_)
    (refine J.nil ?_)
    (refine N.seq ?_)
    (refine W.condF rfl (by first | rfl | assumption | (exact decide_eq_true (by first | assumption | omega | rfl)) | (exact decide_eq_false (by first | assumption | omega | rfl)) | (simp; done) | (simp; omega)) ?_)
    (refine W.skip ?_)
    (refine N.seq ?_)
    (refine W.seq ?_)
    (refine W.region ?_)
    (refine Jx.move rfl rfl ?_)
    (refine Jx.move rfl rfl ?_)
    (refine J.call (c2) rfl (evs_args rfl) rfl ?_; rintro _ _ ⟨rfl, rfl⟩; simp only [List.cons_append, List.nil_append, List.append_nil])
    (refine Jx.move rfl rfl ?_)
    (refine Jx.extract rfl rfl rfl ?_)
    (refine Jx.extract rfl rfl rfl ?_)
    (refine Jx.assign rfl rfl ?_)
    (refine Jx.assign rfl rfl ?_)
    (refine J.nil ?_)
    (refine N.seq ?_)
    (refine W.seq ?_)
    (refine W.seq ?_)
    (refine W.region ?_)
    (refine Jx.move rfl rfl ?_)
    (refine Jx.not rfl rfl ?_)
    (refine J.nil ?_)
    (refine N.seq ?_)
    (refine W.condT rfl (by first | rfl | assumption | (exact decide_eq_true (by first | assumption | omega | rfl)) | (exact decide_eq_false (by first | assumption | omega | rfl)) | (simp; done) | (simp; omega)) ?_)
    (refine W.seq ?_)
    (refine W.region ?_)
    (refine Jx.assign rfl rfl ?_)
    (refine Jx.assign rfl rfl ?_)
    (refine J.nil ?_)
    (refine N.seq ?_)
    (refine W.ret ?_)
    (refine N.seqRet ?_)
    (refine id ?_; rotate_left))
        refine N.ret (rs := [.tmp 4, .tmp 5]) rfl (.tmp rfl (.tmp rfl .nil)) ⟨[], 20, a', rfl, rfl, by intro h; exact absurd h (by decide), fun _ => ?_⟩
        simp only [textP, h4]
        rw [if_pos (by omega)]
        simp only [bytesP, List.length_drop]
        rw [if_neg (by omega)]
  · have h4 := hz he
    focus (
    (refine W.condT rfl (by first | rfl | assumption | (exact decide_eq_true (by first | assumption | omega | rfl)) | (exact decide_eq_false (by first | assumption | omega | rfl)) | (simp; done) | (simp; omega)) ?_)
    (refine W.seq ?_)
    (refine W.region ?_)
    (refine Jx.move rfl rfl ?_)
    (refine Jx.assign rfl rfl ?_)
    (refine Jx.assign rfl rfl ?_)
    (refine J.nil ?_)
    (refine N.seq ?_)
    (refine W.ret ?_)
    (refine N.seqRet ?_)
    (refine id ?_; rotate_left))
    refine N.ret (rs := [.tmp 4, .tmp 5]) rfl (.tmp rfl (.tmp rfl .nil)) ⟨[], e, a', rfl, rfl, fun h => absurd h he, fun _ => ?_⟩
    simp only [textP, h4]
theorem rd_Text (b : Nat) (s : List UInt8) (a : Nat) (c : Int) (m : Int) (h1 : a ≤ s.length) (h2 : s.length ≤ 1099511627776) :
    FnC Tryd.prog 35 [ptr b, int m] [rdO b ⟨s, a, c⟩] (fun v L => ∃ (t : List UInt8) (a' : Nat) (c' : Int), v = str t ∧ L = [rdO b ⟨s, a', c'⟩] ∧ a' ≤ s.length ∧ textP m (lf s a c) = (t, lf s a' c')) := by
  by_cases hc : c = 0
  · subst hc
    have c1 := rd_text b s a 0 m h1 h2
    refine FnC.intro Tryd.func35 rfl Tryd.ntmps35 rfl fun Z w0 hG => ?_
    focus (
    (refine W.seq ?_)
    (refine W.region ?_)
    (refine Jx.assign rfl rfl ?_)
    (refine J.nil ?_)
    (refine N.seq ?_)
    (refine W.seq ?_)
    (refine W.region ?_)
    (refine Jx.move rfl rfl ?_)
    (refine Jx.nilCheck rfl rfl ?_)
    (refine Jx.fieldAddr rfl rfl ?_)
    (refine Jx.load rfl 0 rfl rfl rfl ?_)
    (refine Jx.assign rfl rfl ?_)
    (refine J.nil ?_)
    (refine N.seq ?_)
    (refine W.seq ?_)
    (refine W.region ?_)
    (refine Jx.move rfl rfl ?_)
    (refine Jx.move rfl rfl ?_)
    (refine J.call (c1) rfl (evs_args rfl) rfl ?_; rintro _ _ ⟨t, e, a', rfl, rfl, hy, hz⟩; simp only [List.cons_append, List.nil_append, List.append_nil])
    (refine Jx.move rfl rfl ?_)
    (refine Jx.extract rfl rfl rfl ?_)
    (refine Jx.extract rfl rfl rfl ?_)
    (refine Jx.assign rfl rfl ?_)
    (refine Jx.assign rfl rfl ?_)
    (refine J.nil ?_)
    (refine N.seq ?_)
    (refine W.seq ?_)
    (refine W.seq ?_)
    (refine W.region ?_)
    (refine Jx.move rfl rfl ?_)
    (refine Jx.neqI rfl rfl rfl ?_)
    (refine J.nil ?_)
    (refine N.seq ?_)
    (refine id ?_; rotate_left))
    by_cases he : e = 0
    · obtain ⟨_, h3, h4⟩ := hy he
      focus (
    (refine W.condF rfl (by first | rfl | assumption | (exact decide_eq_true (by first | assumption | omega | rfl)) | (exact decide_eq_false (by first | assumption | omega | rfl)) | (simp; done) | (simp; omega)) ?_)
    (refine W.skip ?_)
    (refine N.seq ?_)
    (refine W.seq ?_)
    (refine W.region ?_)
    (refine Jx.move rfl rfl ?_)
    (refine Jx.assign rfl rfl ?_)
    (refine J.nil ?_)
    (refine N.seq ?_)
    (refine W.ret ?_)
    (refine id ?_; rotate_left))
      exact N.ret (rs := [.tmp 4]) rfl (.tmp rfl .nil) ⟨t, a', 0, rfl, rfl, h3, h4⟩
    · have h4 := hz he
      have c2 := rd_refuse b s a' 0 a e h1 he (by intro h; exact absurd rfl h)
      focus (
    (refine W.condT rfl (by first | rfl | assumption | (exact decide_eq_true (by first | assumption | omega | rfl)) | (exact decide_eq_false (by first | assumption | omega | rfl)) | (simp; done) | (simp; omega)) ?_)
    (refine W.seq ?_)
    (refine W.region ?_)
    (refine Jx.move rfl rfl ?_)
    (refine Jx.move rfl rfl ?_)
    (refine Jx.move rfl rfl ?_)
    (refine J.call (c2) rfl (evs_args rfl) rfl ?_; rintro _ _ ⟨a2, c', rfl, ha', hc'⟩; simp only [List.cons_append, List.nil_append, List.append_nil])
    (refine J.nil ?_)
    (refine N.seq ?_)
    (refine W.seq ?_)
    (refine W.region ?_)
    (refine Jx.assign rfl rfl ?_)
    (refine J.nil ?_)
    (refine N.seq ?_)
    (refine W.ret ?_)
    (refine N.seqRet ?_)
    (refine id ?_; rotate_left))
      exact N.ret (rs := [.tmp 4]) rfl (.tmp rfl .nil) ⟨[], a2, c', rfl, rfl, ha', by rw [lf_no hc', h4]⟩
  · have c1 : FnC Tryd.prog 67 [ptr b, int m] [rdO b ⟨s, a, c⟩] (fun v L => v = .tup [str [], int c] ∧ L = [rdO b ⟨s, a, c⟩]) := by
      have c0 := number_code b ⟨s, a, c⟩ hc
      refine FnC.intro Tryd.func67 rfl Tryd.ntmps67 rfl fun Z w0 hG => ?_
      focus (
    (refine W.seq ?_)
    (refine W.region ?_)
    (refine Jx.assign rfl rfl ?_)
    (refine Jx.assign rfl rfl ?_)
    (refine J.nil ?_)
    (refine N.seq ?_)
    (refine W.seq ?_)
    (refine W.region ?_)
    (refine Jx.move rfl rfl ?_)
    (refine J.call (c0) rfl (evs_args rfl) rfl ?_; rintro _ _ ⟨rfl, rfl⟩; simp only [List.cons_append, List.nil_append, List.append_nil])
    (refine Jx.move rfl rfl ?_)
    (refine Jx.extract rfl rfl rfl ?_)
    (refine Jx.extract rfl rfl rfl ?_)
    (refine Jx.assign rfl rfl ?_)
    (refine Jx.assign rfl rfl ?_)
    (refine J.nil ?_)
    (refine N.seq ?_)
    (refine W.seq ?_)
    (refine W.seq ?_)
    (refine W.region ?_)
    (refine Jx.move rfl rfl ?_)
    (refine Jx.neqI rfl rfl rfl ?_)
    (refine J.nil ?_)
    (refine N.seq ?_)
    (refine W.condT rfl (by first | rfl | assumption | (exact decide_eq_true (by first | assumption | omega | rfl)) | (exact decide_eq_false (by first | assumption | omega | rfl)) | (simp; done) | (simp; omega)) ?_)
    (refine W.seq ?_)
    (refine W.region ?_)
    (refine Jx.move rfl rfl ?_)
    (refine Jx.assign rfl rfl ?_)
    (refine Jx.assign rfl rfl ?_)
    (refine J.nil ?_)
    (refine N.seq ?_)
    (refine W.ret ?_)
    (refine N.seqRet ?_)
    (refine id ?_; rotate_left))
      exact N.ret (rs := [.tmp 4, .tmp 5]) rfl (.tmp rfl (.tmp rfl .nil)) ⟨rfl, rfl⟩
    have c2 := rd_refuse b s a c a c h1 hc (fun _ => h1)
    refine FnC.intro Tryd.func35 rfl Tryd.ntmps35 rfl fun Z w0 hG => ?_
    focus (
    (refine W.seq ?_)
    (refine W.region ?_)
    (refine Jx.assign rfl rfl ?_)
    (refine J.nil ?_)
    (refine N.seq ?_)
    (refine W.seq ?_)
    (refine W.region ?_)
    (refine Jx.move rfl rfl ?_)
    (refine Jx.nilCheck rfl rfl ?_)
    (refine Jx.fieldAddr rfl rfl ?_)
    (refine Jx.load rfl 0 rfl rfl rfl ?_)
    (refine Jx.assign rfl rfl ?_)
    (refine J.nil ?_)
    (refine N.seq ?_)
    (refine W.seq ?_)
    (refine W.region ?_)
    (refine Jx.move rfl rfl ?_)
    (refine Jx.move rfl rfl ?_)
    (refine J.call (c1) rfl (evs_args rfl) rfl ?_; rintro _ _ ⟨rfl, rfl⟩; simp only [List.cons_append, List.nil_append, List.append_nil])
    (refine Jx.move rfl rfl ?_)
    (refine Jx.extract rfl rfl rfl ?_)
    (refine Jx.extract rfl rfl rfl ?_)
    (refine Jx.assign rfl rfl ?_)
    (refine Jx.assign rfl rfl ?_)
    (refine J.nil ?_)
    (refine N.seq ?_)
    (refine W.seq ?_)
    (refine W.seq ?_)
    (refine W.region ?_)
    (refine Jx.move rfl rfl ?_)
    (refine Jx.neqI rfl rfl rfl ?_)
    (refine J.nil ?_)
    (refine N.seq ?_)
    (refine W.condT rfl (by first | rfl | assumption | (exact decide_eq_true (by first | assumption | omega | rfl)) | (exact decide_eq_false (by first | assumption | omega | rfl)) | (simp; done) | (simp; omega)) ?_)
    (refine W.seq ?_)
    (refine W.region ?_)
    (refine Jx.move rfl rfl ?_)
    (refine Jx.move rfl rfl ?_)
    (refine Jx.move rfl rfl ?_)
    (refine J.call (c2) rfl (evs_args rfl) rfl ?_; rintro _ _ ⟨a2, c', rfl, ha', hc'⟩; simp only [List.cons_append, List.nil_append, List.append_nil])
    (refine J.nil ?_)
    (refine N.seq ?_)
    (refine W.seq ?_)
    (refine W.region ?_)
    (refine Jx.assign rfl rfl ?_)
    (refine J.nil ?_)
    (refine N.seq ?_)
    (refine W.ret ?_)
    (refine N.seqRet ?_)
    (refine id ?_; rotate_left))
    exact N.ret (rs := [.tmp 4]) rfl (.tmp rfl .nil) ⟨[], a2, c', rfl, rfl, ha', by rw [lf_no hc', lf_no hc]; rfl⟩
theorem rd_Flag (b : Nat) (s : List UInt8) (a : Nat) (c : Int) (h1 : a ≤ s.length) (h2 : s.length ≤ 1099511627776) :
    FnC Tryd.prog 36 [ptr b] [rdO b ⟨s, a, c⟩] (fun v L => ∃ (f : Bool) (a' : Nat) (c' : Int), v = bool f ∧ L = [rdO b ⟨s, a', c'⟩] ∧ a' ≤ s.length ∧ flagP (lf s a c) = (f, lf s a' c')) := by
  have c1 := rd_Bytes b s a c 1 h1 h2
  refine FnC.intro Tryd.func36 rfl Tryd.ntmps36 rfl fun Z w0 hG => ?_
  focus (
    (refine W.seq ?_)
    (refine W.region ?_)
    (refine Jx.assign rfl rfl ?_)
    (refine J.nil ?_)
    (refine N.seq ?_)
    (refine W.seq ?_)
    (refine W.region ?_)
    (refine Jx.move rfl rfl ?_)
    (refine Jx.nilCheck rfl rfl ?_)
    (refine Jx.fieldAddr rfl rfl ?_)
    (refine Jx.load rfl 0 rfl rfl rfl ?_)
    (refine Jx.assign rfl rfl ?_)
    (refine J.nil ?_)
    (refine N.seq ?_)
    (refine W.seq ?_)
    (refine W.region ?_)
    (refine Jx.move rfl rfl ?_)
    (refine J.call (c1) rfl (evs_args rfl) rfl ?_; rintro _ _ ⟨t, a', c', rfl, rfl, ha', he⟩; simp only [List.cons_append, List.nil_append, List.append_nil])
    (refine Jx.assign rfl rfl ?_)
    (refine J.nil ?_)
    (refine N.seq ?_)
    (refine W.seq ?_)
    (refine W.seq ?_)
    (refine W.region ?_)
    (refine Jx.move rfl rfl ?_)
    (refine Jx.nilCheck rfl rfl ?_)
    (refine Jx.fieldAddr rfl rfl ?_)
    (refine Jx.load rfl 0 rfl rfl rfl ?_)
    (refine Jx.neqI rfl rfl rfl ?_)
    (refine J.nil ?_)
    (refine N.seq ?_)
    (refine id ?_; rotate_left))
  by_cases hc' : c' = 0
  · subst hc'
    obtain ⟨g1, g2⟩ := bytesP_good he
    obtain ⟨x, rfl⟩ : ∃ x, t = [x] := by
      match t, g2 with
      | [x], _ => exact ⟨x, rfl⟩
    rw [g1]
    by_cases hx : 1 < x.toNat
    · have c2 := rd_refuse b s a' 0 a 3 h1 (by decide) (by intro h; exact absurd rfl h)
      focus (
    (refine W.condF rfl (by first | rfl | assumption | (exact decide_eq_true (by first | assumption | omega | rfl)) | (exact decide_eq_false (by first | assumption | omega | rfl)) | (simp; done) | (simp; omega)) ?_)
    (refine W.skip ?_)
    (refine N.seq ?_)
    (refine W.seq ?_)
    (refine W.seq ?_)
    (refine W.region ?_)
    (refine Jx.move rfl rfl ?_)
    (refine Jx.indexS rfl rfl (by decide) (by first | omega | (simp; done)) rfl ?_)
    (refine Jx.gtrI rfl rfl rfl ?_)
    (refine J.nil ?_)
    (refine N.seq ?_)
    (refine W.condT rfl (by first | rfl | assumption | (exact decide_eq_true (by first | assumption | omega | rfl)) | (exact decide_eq_false (by first | assumption | omega | rfl)) | (simp; done) | (simp; omega)) ?_)
    (refine W.seq ?_)
    (refine W.region ?_)
    (refine Jx.move rfl rfl ?_)
    (refine Jx.move rfl rfl ?_)
    (refine J.call (c2) rfl (evs_args rfl) rfl ?_; rintro _ _ ⟨a2, c2', rfl, ha2, hc2⟩; simp only [List.cons_append, List.nil_append, List.append_nil])
    (refine J.nil ?_)
    (refine N.seq ?_)
    (refine W.seq ?_)
    (refine W.region ?_)
    (refine Jx.assign rfl rfl ?_)
    (refine J.nil ?_)
    (refine N.seq ?_)
    (refine W.ret ?_)
    (refine N.seqRet ?_)
    (refine id ?_; rotate_left))
      exact N.ret (rs := [.tmp 2]) rfl (.tmp rfl .nil) ⟨false, a2, c2', rfl, rfl, ha2, by rw [lf_no hc2]; simp only [List.cons_append, List.nil_append, flagP, if_pos hx]⟩
    · focus (
    (refine W.condF rfl (by first | rfl | assumption | (exact decide_eq_true (by first | assumption | omega | rfl)) | (exact decide_eq_false (by first | assumption | omega | rfl)) | (simp; done) | (simp; omega)) ?_)
    (refine W.skip ?_)
    (refine N.seq ?_)
    (refine W.seq ?_)
    (refine W.seq ?_)
    (refine W.region ?_)
    (refine Jx.move rfl rfl ?_)
    (refine Jx.indexS rfl rfl (by decide) (by first | omega | (simp; done)) rfl ?_)
    (refine Jx.gtrI rfl rfl rfl ?_)
    (refine J.nil ?_)
    (refine N.seq ?_)
    (refine W.condF rfl (by first | rfl | assumption | (exact decide_eq_true (by first | assumption | omega | rfl)) | (exact decide_eq_false (by first | assumption | omega | rfl)) | (simp; done) | (simp; omega)) ?_)
    (refine W.skip ?_)
    (refine N.seq ?_)
    (refine W.seq ?_)
    (refine W.region ?_)
    (refine Jx.move rfl rfl ?_)
    (refine Jx.indexS rfl rfl (by decide) (by first | omega | (simp; done)) rfl ?_)
    (refine Jx.eqlI rfl rfl rfl ?_)
    (refine Jx.assign rfl rfl ?_)
    (refine J.nil ?_)
    (refine N.seq ?_)
    (refine W.ret ?_)
    (refine id ?_; rotate_left))
      refine N.ret (rs := [.tmp 2]) rfl (.tmp rfl .nil) ⟨decide (x.toNat = 1), a', 0, ?_, rfl, ha', by simp only [List.cons_append, List.nil_append, flagP, if_neg hx, lf, if_true]⟩
      simp only [oneOr, List.getD_cons_zero, Int.toNat_zero]
      have : (decide (((x.toNat : Nat) : Int) = 1)) = decide (x.toNat = 1) := by
        by_cases h : x.toNat = 1
        · rw [decide_eq_true h, decide_eq_true (by omega)]
        · rw [decide_eq_false h, decide_eq_false (by omega)]
      exact congrArg bool this
  · rw [lf_no hc'] at he
    have hfl : flagP (lf s a c) = (false, none) := by
      cases hl : lf s a c with
      | none => rfl
      | some l =>
        rw [hl] at he
        cases l with
        | nil => rfl
        | cons x l => simp [bytesP] at he
    focus (
    (refine W.condT rfl (by first | rfl | assumption | (exact decide_eq_true (by first | assumption | omega | rfl)) | (exact decide_eq_false (by first | assumption | omega | rfl)) | (simp; done) | (simp; omega)) ?_)
    (refine W.seq ?_)
    (refine W.region ?_)
    (refine Jx.assign rfl rfl ?_)
    (refine J.nil ?_)
    (refine N.seq ?_)
    (refine W.ret ?_)
    (refine N.seqRet ?_)
    (refine id ?_; rotate_left))
    exact N.ret (rs := [.tmp 2]) rfl (.tmp rfl .nil) ⟨false, a', c', rfl, rfl, ha', by rw [lf_no hc', hfl]⟩
theorem rd_End (b : Nat) (s : List UInt8) (a : Nat) (c : Int) (h1 : a ≤ s.length) (h2 : s.length ≤ 1099511627776) :
    FnC Tryd.prog 38 [ptr b] [rdO b ⟨s, a, c⟩] (fun v L => ∃ (e : Int) (a' : Nat) (c' : Int), v = int e ∧ L = [rdO b ⟨s, a', c'⟩] ∧ (e = 0 ↔ lf s a c = some [])) := by
  have c1 := left_ok b ⟨s, a, c⟩ ⟨h1, h2⟩
  simp only at c1
  refine FnC.intro Tryd.func38 rfl Tryd.ntmps38 rfl fun Z w0 hG => ?_
  by_cases hl : a < s.length
  · have c2 := rd_refuse b s a c a 3 h1 (by decide) (fun _ => h1)
    focus (
    (refine W.seq ?_)
    (refine W.region ?_)
    (refine Jx.assign rfl rfl ?_)
    (refine J.nil ?_)
    (refine N.seq ?_)
    (refine W.seq ?_)
    (refine W.seq ?_)
    (refine W.region ?_)
    (refine Jx.move rfl rfl ?_)
    (refine J.call (c1) rfl (evs_args rfl) rfl ?_; rintro _ _ ⟨rfl, rfl⟩; simp only [List.cons_append, List.nil_append, List.append_nil])
    (refine Jx.gtrI rfl rfl rfl ?_)
    (refine J.nil ?_)
    (refine N.seq ?_)
    (refine W.condT rfl (by first | rfl | assumption | (exact decide_eq_true (by first | assumption | omega | rfl)) | (exact decide_eq_false (by first | assumption | omega | rfl)) | (simp; done) | (simp; omega)) ?_)
    (refine W.region ?_)
    (refine Jx.move rfl rfl ?_)
    (refine Jx.move rfl rfl ?_)
    (refine Jx.nilCheck rfl rfl ?_)
    (refine Jx.fieldAddr rfl rfl ?_)
    (refine Jx.load rfl 0 rfl rfl rfl ?_)
    (refine J.call (c2) rfl (evs_args rfl) rfl ?_; rintro _ _ ⟨a2, c2', rfl, ha2, hc2⟩; simp only [List.cons_append, List.nil_append, List.append_nil])
    (refine J.nil ?_)
    (refine N.seq ?_)
    (refine W.seq ?_)
    (refine W.region ?_)
    (refine Jx.move rfl rfl ?_)
    (refine Jx.nilCheck rfl rfl ?_)
    (refine Jx.fieldAddr rfl rfl ?_)
    (refine Jx.load rfl 0 rfl rfl rfl ?_)
    (refine Jx.assign rfl rfl ?_)
    (refine J.nil ?_)
    (refine N.seq ?_)
    (refine W.ret ?_)
    (refine id ?_; rotate_left))
    refine N.ret (rs := [.tmp 2]) rfl (.tmp rfl .nil) ⟨c2', a2, c2', rfl, rfl, fun h => absurd h hc2, fun h => ?_⟩
    unfold lf at h
    split at h
    · simp only [Option.some.injEq] at h
      have := congrArg List.length h
      rw [List.length_drop] at this
      simp only [List.length_nil] at this
      omega
    · cases h
  · focus (
    (refine W.seq ?_)
    (refine W.region ?_)
    (refine Jx.assign rfl rfl ?_)
    (refine J.nil ?_)
    (refine N.seq ?_)
    (refine W.seq ?_)
    (refine W.seq ?_)
    (refine W.region ?_)
    (refine Jx.move rfl rfl ?_)
    (refine J.call (c1) rfl (evs_args rfl) rfl ?_; rintro _ _ ⟨rfl, rfl⟩; simp only [List.cons_append, List.nil_append, List.append_nil])
    (refine Jx.gtrI rfl rfl rfl ?_)
    (refine J.nil ?_)
    (refine N.seq ?_)
    (refine W.condF rfl (by first | rfl | assumption | (exact decide_eq_true (by first | assumption | omega | rfl)) | (exact decide_eq_false (by first | assumption | omega | rfl)) | (simp; done) | (simp; omega)) ?_)
    (refine W.skip ?_)
    (refine N.seq ?_)
    (refine W.seq ?_)
    (refine W.region ?_)
    (refine Jx.move rfl rfl ?_)
    (refine Jx.nilCheck rfl rfl ?_)
    (refine Jx.fieldAddr rfl rfl ?_)
    (refine Jx.load rfl 0 rfl rfl rfl ?_)
    (refine Jx.assign rfl rfl ?_)
    (refine J.nil ?_)
    (refine N.seq ?_)
    (refine W.ret ?_)
    (refine id ?_; rotate_left))
    refine N.ret (rs := [.tmp 2]) rfl (.tmp rfl .nil) ⟨c, a, c, rfl, rfl, fun h => ?_, fun h => ?_⟩
    · subst h
      simp only [lf, if_true, Option.some.injEq]
      exact List.drop_eq_nil_of_le (by omega)
    · exact Classical.byContradiction fun hc => by rw [lf_no hc] at h; cases h
def preP (acc : List (List UInt8)) : List (List UInt8) × PSt → List (List UInt8) × PSt
  | (ts, some q) => (acc ++ ts, some q)
  | (_, none) => ([], none)
theorem preP_step {ec : Int} {k : Nat} {r q : List UInt8} {t : List UInt8} {acc : List (List UInt8)} (h : textP ec (some r) = (t, some q)) : preP acc (textsP ec (k + 1) (some r)) = preP (acc ++ [t]) (textsP ec k (some q)) := by
  simp only [textsP, h]
  cases hq : textsP ec k (some q) with
  | mk ts o => cases o <;> simp [preP]
theorem preP_bad {ec : Int} {k : Nat} {r : List UInt8} {acc : List (List UInt8)} (h : textP ec (some r) = ([], none)) : preP acc (textsP ec (k + 1) (some r)) = ([], none) := by
  simp only [textsP, h, preP]
theorem preP_nil {ec : Int} {n : Nat} {st : PSt} : preP [] (textsP ec n st) = textsP ec n st := by
  cases h : textsP ec n st with
  | mk ts o =>
    cases o with
    | none => rw [textsP_short h]; rfl
    | some q => rfl
set_option maxHeartbeats 2000000 in
theorem rd_List (b : Nat) (s : List UInt8) (a : Nat) (c : Int) (m ec : Int) (h1 : a ≤ s.length) (h2 : s.length ≤ 1099511627776) (hm : m ≤ 1048576) :
    FnC Tryd.prog 81 [ptr b, int m, int ec] [rdO b ⟨s, a, c⟩] (fun v L => ∃ (l : List (List UInt8)) (a' : Nat) (c' : Int), v = ssl l ∧ L = [rdO b ⟨s, a', c'⟩] ∧ a' ≤ s.length ∧ listP m ec (lf s a c) = (l, lf s a' c')) := by
  have c1 := rd_number b s a c h1 h2
  refine FnC.intro Tryd.func81 rfl Tryd.ntmps81 rfl fun Z w0 hG => ?_
  focus (
    (refine W.seq ?_)
    (refine W.region ?_)
    (refine Jx.assign rfl rfl ?_)
    (refine J.nil ?_)
    (refine N.seq ?_)
    (refine W.seq ?_)
    (refine W.region ?_)
    (refine Jx.move rfl rfl ?_)
    (refine Jx.nilCheck rfl rfl ?_)
    (refine Jx.fieldAddr rfl rfl ?_)
    (refine Jx.load rfl 0 rfl rfl rfl ?_)
    (refine Jx.assign rfl rfl ?_)
    (refine J.nil ?_)
    (refine N.seq ?_)
    (refine W.seq ?_)
    (refine W.region ?_)
    (refine Jx.move rfl rfl ?_)
    (refine J.call c1 rfl (evs_args rfl) rfl ?_; rintro _ _ ⟨n, e, a', rfl, rfl, hn, hy, hz, hw⟩; simp only [List.cons_append, List.nil_append, List.append_nil]; by_cases he : e = 0)
    (refine Jx.move rfl rfl ?_)
    (refine Jx.extract rfl rfl rfl ?_)
    (refine Jx.extract rfl rfl rfl ?_)
    (refine Jx.assign rfl rfl ?_)
    (refine Jx.assign rfl rfl ?_)
    (refine J.nil ?_)
    (refine N.seq ?_)
    (refine W.seq ?_)
    (refine W.seq ?_)
    (refine W.region ?_)
    (refine Jx.move rfl rfl ?_)
    (refine Jx.eqlI rfl rfl rfl ?_)
    (refine Jx.move rfl rfl ?_)
    (refine J.guardYes rfl rfl rfl (by first | rfl | assumption | (exact decide_eq_true (by first | assumption | omega | rfl)) | (exact decide_eq_false (by first | assumption | omega | rfl)) | (simp; done) | (simp; omega)) ?_)
    (refine Jx.move rfl rfl ?_)
    (refine J.guardYes rfl rfl rfl (by first | rfl | assumption | (exact decide_eq_true (by first | assumption | omega | rfl)) | (exact decide_eq_false (by first | assumption | omega | rfl)) | (simp; done) | (simp; omega)) ?_)
    (refine Jx.move rfl rfl ?_)
    (refine J.guardYes rfl rfl rfl (by first | rfl | assumption | (exact decide_eq_true (by first | assumption | omega | rfl)) | (exact decide_eq_false (by first | assumption | omega | rfl)) | (simp; done) | (simp; omega)) ?_)
    (refine Jx.gtrI rfl rfl rfl ?_)
    (refine Jx.pickT rfl (by first | rfl | assumption | (exact decide_eq_true (by first | assumption | omega | rfl)) | (exact decide_eq_false (by first | assumption | omega | rfl)) | (simp; done) | (simp; omega)) rfl rfl ?_)
    (refine J.nil ?_)
    (refine N.seq ?_)
    (refine id ?_; rotate_left)
    (refine Jx.move rfl rfl ?_)
    (refine Jx.extract rfl rfl rfl ?_)
    (refine Jx.extract rfl rfl rfl ?_)
    (refine Jx.assign rfl rfl ?_)
    (refine Jx.assign rfl rfl ?_)
    (refine J.nil ?_)
    (refine N.seq ?_)
    (refine W.seq ?_)
    (refine W.seq ?_)
    (refine W.region ?_)
    (refine Jx.move rfl rfl ?_)
    (refine Jx.eqlI rfl rfl rfl ?_)
    (refine Jx.move rfl rfl ?_)
    (refine J.guardNoU rfl rfl rfl (by first | rfl | assumption | (exact decide_eq_true (by first | assumption | omega | rfl)) | (exact decide_eq_false (by first | assumption | omega | rfl)) | (simp; done) | (simp; omega)) rfl ?_)
    (refine J.guardNoU rfl rfl rfl (by first | rfl | assumption | (exact decide_eq_true (by first | assumption | omega | rfl)) | (exact decide_eq_false (by first | assumption | omega | rfl)) | (simp; done) | (simp; omega)) rfl ?_)
    (refine J.guardNoU rfl rfl rfl (by first | rfl | assumption | (exact decide_eq_true (by first | assumption | omega | rfl)) | (exact decide_eq_false (by first | assumption | omega | rfl)) | (simp; done) | (simp; omega)) rfl ?_)
    (refine Jx.pickF rfl (by first | rfl | assumption | (exact decide_eq_true (by first | assumption | omega | rfl)) | (exact decide_eq_false (by first | assumption | omega | rfl)) | (simp; done) | (simp; omega)) rfl rfl ?_)
    (refine J.nil ?_)
    (refine N.seq ?_)
    (refine W.condF rfl (by first | rfl | assumption | (exact decide_eq_true (by first | assumption | omega | rfl)) | (exact decide_eq_false (by first | assumption | omega | rfl)) | (simp; done) | (simp; omega)) ?_)
    (refine W.skip ?_)
    (refine N.seq ?_)
    (refine W.seq ?_)
    (refine W.region ?_)
    (refine Jx.move rfl rfl ?_)
    (refine J.pv (Pv.makeFunc (us := [.pointer (some ⟨b, 0, none⟩)]) (vs := []) (evs_args rfl) (evs_args rfl) (fun _ => rfl)) rfl ?_)
    (refine Jx.assign rfl rfl ?_)
    (refine J.nil ?_)
    (refine N.seq ?_)
    (refine W.seq ?_)
    (refine W.region ?_)
    (refine Jx.assign rfl rfl ?_)
    (refine J.nil ?_)
    (refine N.seq ?_)
    (refine W.seq ?_)
    (refine W.seq ?_)
    (refine W.region ?_)
    (refine Jx.assign rfl rfl ?_)
    (refine J.nil ?_)
    (refine N.seq ?_)
    (refine W.block ?_)
    (refine id ?_; rotate_left))
  · obtain ⟨rfl, h3, h4⟩ := hy he
    subst he
    by_cases hnm : m < (n : Int)
    · focus (
    (refine W.condT rfl (by first | rfl | assumption | (exact decide_eq_true (by first | assumption | omega | rfl)) | (exact decide_eq_false (by first | assumption | omega | rfl)) | (simp; done) | (simp; omega)) ?_)
    (refine W.region ?_)
    (refine Jx.assign rfl rfl ?_)
    (refine J.nil ?_)
    (refine N.seq ?_)
    (refine W.seq ?_)
    (refine W.region ?_)
    (refine Jx.move rfl rfl ?_)
    (refine J.pv (Pv.makeFunc (us := [.pointer (some ⟨b, 0, none⟩)]) (vs := []) (evs_args rfl) (evs_args rfl) (fun _ => rfl)) rfl ?_)
    (refine Jx.assign rfl rfl ?_)
    (refine J.nil ?_)
    (refine N.seq ?_)
    (refine W.seq ?_)
    (refine W.region ?_)
    (refine Jx.assign rfl rfl ?_)
    (refine J.nil ?_)
    (refine N.seq ?_)
    (refine W.seq ?_)
    (refine W.seq ?_)
    (refine W.region ?_)
    (refine Jx.assign rfl rfl ?_)
    (refine J.nil ?_)
    (refine N.seq ?_)
    (refine W.block ?_)
    (refine id ?_; rotate_left))
      have c2 := rd_refuse b s a' 0 a 2 h1 (by decide) (fun _ => h3)
      refine W.loop (α := Unit) (fun x => [(12, int 0), (9, int 2), (8, int (n : Int)), (7, int (a : Int)), (0, ptr b)]) (fun x => [rdO b ⟨s, a', 0⟩]) (fun x => True) (fun x => 0) () trivial rfl ⟨ref0 rfl, ref0 rfl, ref0 rfl, ref0 rfl, ref0 rfl, trivial⟩ ?_
      intro _ _
      by_cases h0 : 0 < n
      · focus (
    (refine W.seq ?_)
    (refine W.seq ?_)
    (refine W.region ?_)
    (refine Jx.move rfl rfl ?_)
    (refine Jx.move rfl rfl ?_)
    (refine Jx.lssI rfl rfl rfl ?_)
    (refine Jx.move rfl rfl ?_)
    (refine J.guardYes rfl rfl rfl (by first | rfl | assumption | (exact decide_eq_true (by first | assumption | omega | rfl)) | (exact decide_eq_false (by first | assumption | omega | rfl)) | (simp; done) | (simp; omega)) ?_)
    (refine Jx.move rfl rfl ?_)
    (refine J.guardYes rfl rfl rfl (by first | rfl | assumption | (exact decide_eq_true (by first | assumption | omega | rfl)) | (exact decide_eq_false (by first | assumption | omega | rfl)) | (simp; done) | (simp; omega)) ?_)
    (refine Jx.eqlI rfl rfl rfl ?_)
    (refine Jx.pickT rfl (by first | rfl | assumption | (exact decide_eq_true (by first | assumption | omega | rfl)) | (exact decide_eq_false (by first | assumption | omega | rfl)) | (simp; done) | (simp; omega)) rfl rfl ?_)
    (refine J.nil ?_)
    (refine N.seq ?_)
    (refine W.condF rfl (by first | rfl | assumption | (exact decide_eq_true (by first | assumption | omega | rfl)) | (exact decide_eq_false (by first | assumption | omega | rfl)) | (simp; done) | (simp; omega)) ?_)
    (refine W.exit ?_)
    (refine N.seq ?_)
    (refine W.seq ?_)
    (refine W.seq ?_)
    (refine W.region ?_)
    (refine Jx.move rfl rfl ?_)
    (refine Jx.neqI rfl rfl rfl ?_)
    (refine J.nil ?_)
    (refine N.seq ?_)
    (refine W.condT rfl (by first | rfl | assumption | (exact decide_eq_true (by first | assumption | omega | rfl)) | (exact decide_eq_false (by first | assumption | omega | rfl)) | (simp; done) | (simp; omega)) ?_)
    (refine W.seq ?_)
    (refine W.region ?_)
    (refine Jx.move rfl rfl ?_)
    (refine Jx.move rfl rfl ?_)
    (refine Jx.move rfl rfl ?_)
    (refine J.call (c2) rfl (evs_args rfl) rfl ?_; rintro _ _ ⟨a2, c2', rfl, ha2, hc2⟩; simp only [List.cons_append, List.nil_append, List.append_nil])
    (refine J.nil ?_)
    (refine N.seq ?_)
    (refine W.seq ?_)
    (refine W.region ?_)
    (refine Jx.assign rfl rfl ?_)
    (refine J.nil ?_)
    (refine N.seq ?_)
    (refine W.ret ?_)
    (refine N.seqRet ?_)
    (refine id ?_; rotate_left))
        refine N.told (G := [(6, ssl [])]) ⟨⟨_, rfl, Sub.nil 1 _⟩, trivial⟩ ?_
        exact N.ret (rs := [.tmp 6]) rfl (.tmp rfl .nil) ⟨[], a2, c2', rfl, rfl, ha2, by rw [lf_no hc2]; simp only [listP, h4]; rw [if_neg (by omega)]⟩
      · focus (
    (refine W.seq ?_)
    (refine W.seq ?_)
    (refine W.region ?_)
    (refine Jx.move rfl rfl ?_)
    (refine Jx.move rfl rfl ?_)
    (refine Jx.lssI rfl rfl rfl ?_)
    (refine Jx.move rfl rfl ?_)
    (refine J.guardNoU rfl rfl rfl (by first | rfl | assumption | (exact decide_eq_true (by first | assumption | omega | rfl)) | (exact decide_eq_false (by first | assumption | omega | rfl)) | (simp; done) | (simp; omega)) rfl ?_)
    (refine J.guardNoU rfl rfl rfl (by first | rfl | assumption | (exact decide_eq_true (by first | assumption | omega | rfl)) | (exact decide_eq_false (by first | assumption | omega | rfl)) | (simp; done) | (simp; omega)) rfl ?_)
    (refine Jx.pickF rfl (by first | rfl | assumption | (exact decide_eq_true (by first | assumption | omega | rfl)) | (exact decide_eq_false (by first | assumption | omega | rfl)) | (simp; done) | (simp; omega)) rfl rfl ?_)
    (refine J.nil ?_)
    (refine N.seq ?_)
    (refine W.condF rfl (by first | rfl | assumption | (exact decide_eq_true (by first | assumption | omega | rfl)) | (exact decide_eq_false (by first | assumption | omega | rfl)) | (simp; done) | (simp; omega)) ?_)
    (refine W.exit ?_)
    (refine N.seq ?_)
    (refine W.seq ?_)
    (refine W.seq ?_)
    (refine W.region ?_)
    (refine Jx.move rfl rfl ?_)
    (refine Jx.neqI rfl rfl rfl ?_)
    (refine J.nil ?_)
    (refine N.seq ?_)
    (refine W.condT rfl (by first | rfl | assumption | (exact decide_eq_true (by first | assumption | omega | rfl)) | (exact decide_eq_false (by first | assumption | omega | rfl)) | (simp; done) | (simp; omega)) ?_)
    (refine W.seq ?_)
    (refine W.region ?_)
    (refine Jx.move rfl rfl ?_)
    (refine Jx.move rfl rfl ?_)
    (refine Jx.move rfl rfl ?_)
    (refine J.call (c2) rfl (evs_args rfl) rfl ?_; rintro _ _ ⟨a2, c2', rfl, ha2, hc2⟩; simp only [List.cons_append, List.nil_append, List.append_nil])
    (refine J.nil ?_)
    (refine N.seq ?_)
    (refine W.seq ?_)
    (refine W.region ?_)
    (refine Jx.assign rfl rfl ?_)
    (refine J.nil ?_)
    (refine N.seq ?_)
    (refine W.ret ?_)
    (refine N.seqRet ?_)
    (refine id ?_; rotate_left))
        refine N.told (G := [(6, ssl [])]) ⟨⟨_, rfl, Sub.nil 1 _⟩, trivial⟩ ?_
        exact N.ret (rs := [.tmp 6]) rfl (.tmp rfl .nil) ⟨[], a2, c2', rfl, rfl, ha2, by rw [lf_no hc2]; simp only [listP, h4]; rw [if_neg (by omega)]⟩
    · focus (
    (refine W.condF rfl (by first | rfl | assumption | (exact decide_eq_true (by first | assumption | omega | rfl)) | (exact decide_eq_false (by first | assumption | omega | rfl)) | (simp; done) | (simp; omega)) ?_)
    (refine W.skip ?_)
    (refine N.seq ?_)
    (refine W.seq ?_)
    (refine W.region ?_)
    (refine Jx.move rfl rfl ?_)
    (refine J.pv (Pv.makeFunc (us := [.pointer (some ⟨b, 0, none⟩)]) (vs := []) (evs_args rfl) (evs_args rfl) (fun _ => rfl)) rfl ?_)
    (refine Jx.assign rfl rfl ?_)
    (refine J.nil ?_)
    (refine N.seq ?_)
    (refine W.seq ?_)
    (refine W.region ?_)
    (refine Jx.assign rfl rfl ?_)
    (refine J.nil ?_)
    (refine N.seq ?_)
    (refine W.seq ?_)
    (refine W.seq ?_)
    (refine W.region ?_)
    (refine Jx.assign rfl rfl ?_)
    (refine J.nil ?_)
    (refine N.seq ?_)
    (refine W.block ?_)
    (refine id ?_; rotate_left))
      refine W.rowNil 9 1 (elOf (fun a => [str a]) [] []) ?_
      refine W.perm (List.Perm.swap _ _ _) ?_
      refine W.loop (α := Nat × Value × List (List UInt8) × Nat × Int) (fun x => [(12, int (x.1 : Int)), (11, .val x.2.1), (10, .val (.func (.func 67) #[.pointer (some ⟨b, 0, none⟩)] #[])), (9, int x.2.2.2.2), (8, int (n : Int)), (7, int (a : Int)), (2, int ec), (0, ptr b)]) (fun x => [rdO b ⟨s, x.2.2.2.1, 0⟩, .row x.2.1 9 1 x.2.2.1.length (elOf (fun a => [str a]) [] x.2.2.1)])
        (fun x => x.1 ≤ n ∧ x.2.2.1.length ≤ x.1 ∧ (x.2.2.2.2 = 0 → x.2.2.1.length = x.1 ∧ x.2.2.2.1 ≤ s.length ∧ textsP ec n (some (s.drop a')) = preP x.2.2.1 (textsP ec (n - x.1) (some (s.drop x.2.2.2.1)))) ∧ (x.2.2.2.2 ≠ 0 → textsP ec n (some (s.drop a')) = ([], none))) (fun x => n - x.1) (0, .slice none 0 0, [], a', 0)
        ⟨by simp, by simp, fun _ => ⟨rfl, h3, by simp only [Nat.sub_zero, preP_nil]⟩, fun h => absurd rfl h⟩ rfl ⟨ref0 rfl, ref0 rfl, ref0 rfl, ref0 rfl, ref0 rfl, ref0 rfl, ref0 rfl, ref0 rfl, trivial⟩ ?_
      rintro ⟨i, u, acc, pos, e⟩ ⟨hi, hai, hg, hb⟩
      simp only at hi hai hg hb ⊢
      have hmx0 : acc.length ≤ maxLen := by simp only [maxLen]; omega
      by_cases hin : i < n
      · by_cases he : e = 0
        · subst he
          obtain ⟨g1, g2, g3⟩ := hg rfl
          have c3 := rd_text b s pos 0 ec g2 h2
          have hstep : n - i = (n - (i + 1)) + 1 := by omega
          focus (
    (refine W.seq ?_)
    (refine W.seq ?_)
    (refine W.region ?_)
    (refine Jx.move rfl rfl ?_)
    (refine Jx.move rfl rfl ?_)
    (refine Jx.lssI rfl rfl rfl ?_)
    (refine Jx.move rfl rfl ?_)
    (refine J.guardYes rfl rfl rfl (by first | rfl | assumption | (exact decide_eq_true (by first | assumption | omega | rfl)) | (exact decide_eq_false (by first | assumption | omega | rfl)) | (simp; done) | (simp; omega)) ?_)
    (refine Jx.move rfl rfl ?_)
    (refine J.guardYes rfl rfl rfl (by first | rfl | assumption | (exact decide_eq_true (by first | assumption | omega | rfl)) | (exact decide_eq_false (by first | assumption | omega | rfl)) | (simp; done) | (simp; omega)) ?_)
    (refine Jx.eqlI rfl rfl rfl ?_)
    (refine Jx.pickT rfl (by first | rfl | assumption | (exact decide_eq_true (by first | assumption | omega | rfl)) | (exact decide_eq_false (by first | assumption | omega | rfl)) | (simp; done) | (simp; omega)) rfl rfl ?_)
    (refine J.nil ?_)
    (refine N.seq ?_)
    (refine W.condT rfl (by first | rfl | assumption | (exact decide_eq_true (by first | assumption | omega | rfl)) | (exact decide_eq_false (by first | assumption | omega | rfl)) | (simp; done) | (simp; omega)) ?_)
    (refine W.skip ?_)
    (refine N.seq ?_)
    (refine W.seq ?_)
    (refine W.block ?_)
    (refine W.seq ?_)
    (refine W.region ?_)
    (refine Jx.assign rfl rfl ?_)
    (refine J.nil ?_)
    (refine N.seq ?_)
    (refine W.seq ?_)
    (refine W.region ?_)
    (refine Jx.move rfl rfl ?_)
    (refine Jx.move rfl rfl ?_)
    (refine J.callV (args := [int ec]) (Lc := [rdO b ⟨s, pos, 0⟩]) rfl c3 rfl (evs_args rfl) rfl ?_; rintro _ _ ⟨t, e', pos', rfl, rfl, ty, tz⟩; simp only [List.cons_append, List.nil_append, List.append_nil])
    (refine Jx.move rfl rfl ?_)
    (refine Jx.extract rfl rfl rfl ?_)
    (refine Jx.extract rfl rfl rfl ?_)
    (refine Jx.assign rfl rfl ?_)
    (refine Jx.assign rfl rfl ?_)
    (refine J.nil ?_)
    (refine N.seq ?_)
    (refine W.seq ?_)
    (refine W.region ?_)
    (refine Jx.move rfl rfl ?_)
    (refine Jx.eqlI rfl rfl rfl ?_)
    (refine J.nil ?_)
    (refine N.seq ?_)
    (refine id ?_; rotate_left))
          by_cases he' : e' = 0
          · subst he'
            obtain ⟨_, g4, g5⟩ := ty rfl
            have hmx : acc.length + [t].length ≤ maxLen ∧ (acc.length + [t].length) * 16 ≤ 140737488355328 := by simp only [maxLen, List.length_cons, List.length_nil]; omega
            focus (
    (refine W.condT rfl (by first | rfl | assumption | (exact decide_eq_true (by first | assumption | omega | rfl)) | (exact decide_eq_false (by first | assumption | omega | rfl)) | (simp; done) | (simp; omega)) ?_)
    (refine W.region ?_)
    (refine Jx.move rfl rfl ?_)
    (refine Jx.move rfl rfl ?_)
    (refine J.qs (Qs.buildTexts [t] rfl rfl rfl (by decide) (by decide)) rfl ?_)
    (refine J.appendAt (l := acc) (l2 := [t]) 1 rfl rfl (SrcOK.sl rfl) rfl rfl hmx rfl ?_; intro v2 hv2)
    (refine Jx.assign rfl rfl ?_)
    (refine J.nil ?_)
    (refine N.seq ?_)
    (refine W.region ?_)
    (refine Jx.move rfl rfl ?_)
    (refine Jx.add64 rfl rfl (by omega) rfl ?_)
    (refine Jx.assign rfl rfl ?_)
    (refine J.nil ?_)
    (refine id ?_; rotate_left))
            exact N.round (i + 1, v2, acc ++ [t], pos', 0) ⟨by simp only; omega, by simp only [List.length_append, List.length_cons, List.length_nil]; omega, fun _ => ⟨by simp only [List.length_append, List.length_cons, List.length_nil]; omega, g4, by rw [g3, hstep]; exact preP_step g5⟩, fun h => absurd rfl h⟩ (by simp only; omega) rfl ⟨ref0 rfl, ref0 rfl, ref0 rfl, ref0 rfl, ref0 rfl, ref0 rfl, ref0 rfl, ref0 rfl, trivial⟩
          · have g5 := tz he'
            focus (
    (refine W.condF rfl (by first | rfl | assumption | (exact decide_eq_true (by first | assumption | omega | rfl)) | (exact decide_eq_false (by first | assumption | omega | rfl)) | (simp; done) | (simp; omega)) ?_)
    (refine W.skip ?_)
    (refine N.seq ?_)
    (refine W.region ?_)
    (refine Jx.move rfl rfl ?_)
    (refine Jx.add64 rfl rfl (by omega) rfl ?_)
    (refine Jx.assign rfl rfl ?_)
    (refine J.nil ?_)
    (refine id ?_; rotate_left))
            exact N.round (i + 1, u, acc, pos', e') ⟨by simp only; omega, by simp only; omega, fun h => absurd h he', fun _ => by rw [g3, hstep]; exact preP_bad g5⟩ (by simp only; omega) rfl ⟨ref0 rfl, ref0 rfl, ref0 rfl, ref0 rfl, ref0 rfl, ref0 rfl, ref0 rfl, ref0 rfl, trivial⟩
        · have hb := hb he
          have c2 := rd_refuse b s pos 0 a e h1 he (fun h => absurd rfl h)
          focus (
    (refine W.seq ?_)
    (refine W.seq ?_)
    (refine W.region ?_)
    (refine Jx.move rfl rfl ?_)
    (refine Jx.move rfl rfl ?_)
    (refine Jx.lssI rfl rfl rfl ?_)
    (refine Jx.move rfl rfl ?_)
    (refine J.guardYes rfl rfl rfl (by first | rfl | assumption | (exact decide_eq_true (by first | assumption | omega | rfl)) | (exact decide_eq_false (by first | assumption | omega | rfl)) | (simp; done) | (simp; omega)) ?_)
    (refine Jx.move rfl rfl ?_)
    (refine J.guardYes rfl rfl rfl (by first | rfl | assumption | (exact decide_eq_true (by first | assumption | omega | rfl)) | (exact decide_eq_false (by first | assumption | omega | rfl)) | (simp; done) | (simp; omega)) ?_)
    (refine Jx.eqlI rfl rfl rfl ?_)
    (refine Jx.pickT rfl (by first | rfl | assumption | (exact decide_eq_true (by first | assumption | omega | rfl)) | (exact decide_eq_false (by first | assumption | omega | rfl)) | (simp; done) | (simp; omega)) rfl rfl ?_)
    (refine J.nil ?_)
    (refine N.seq ?_)
    (refine W.condF rfl (by first | rfl | assumption | (exact decide_eq_true (by first | assumption | omega | rfl)) | (exact decide_eq_false (by first | assumption | omega | rfl)) | (simp; done) | (simp; omega)) ?_)
    (refine W.exit ?_)
    (refine N.seq ?_)
    (refine W.seq ?_)
    (refine W.seq ?_)
    (refine W.region ?_)
    (refine Jx.move rfl rfl ?_)
    (refine Jx.neqI rfl rfl rfl ?_)
    (refine J.nil ?_)
    (refine N.seq ?_)
    (refine W.condT rfl (by first | rfl | assumption | (exact decide_eq_true (by first | assumption | omega | rfl)) | (exact decide_eq_false (by first | assumption | omega | rfl)) | (simp; done) | (simp; omega)) ?_)
    (refine W.seq ?_)
    (refine W.region ?_)
    (refine Jx.move rfl rfl ?_)
    (refine Jx.move rfl rfl ?_)
    (refine Jx.move rfl rfl ?_)
    (refine J.call (c2) rfl (evs_args rfl) rfl ?_; rintro _ _ ⟨a2, c2', rfl, ha2, hc2⟩; simp only [List.cons_append, List.nil_append, List.append_nil])
    (refine J.nil ?_)
    (refine N.seq ?_)
    (refine W.seq ?_)
    (refine W.region ?_)
    (refine Jx.assign rfl rfl ?_)
    (refine J.nil ?_)
    (refine N.seq ?_)
    (refine W.ret ?_)
    (refine N.seqRet ?_)
    (refine id ?_; rotate_left))
          refine N.told (G := [(6, ssl [])]) ⟨⟨_, rfl, Sub.nil 1 _⟩, trivial⟩ ?_
          exact N.retD (rs := [.tmp 6]) (L1 := [rdO b ⟨s, a2, c2'⟩]) rfl (.tmp rfl .nil) (by simp) ⟨[], a2, c2', rfl, rfl, ha2, by rw [lf_no hc2]; simp only [listP, h4]; rw [if_pos (by omega)]; exact hb⟩
      · by_cases he : e = 0
        · subst he
          obtain ⟨g1, g2, g3⟩ := hg rfl
          refine W.freezeAt 1 11 rfl rfl hmx0 ?_
          focus (
    (refine W.seq ?_)
    (refine W.seq ?_)
    (refine W.region ?_)
    (refine Jx.move rfl rfl ?_)
    (refine Jx.move rfl rfl ?_)
    (refine Jx.lssI rfl rfl rfl ?_)
    (refine Jx.move rfl rfl ?_)
    (refine J.guardNoU rfl rfl rfl (by first | rfl | assumption | (exact decide_eq_true (by first | assumption | omega | rfl)) | (exact decide_eq_false (by first | assumption | omega | rfl)) | (simp; done) | (simp; omega)) rfl ?_)
    (refine J.guardNoU rfl rfl rfl (by first | rfl | assumption | (exact decide_eq_true (by first | assumption | omega | rfl)) | (exact decide_eq_false (by first | assumption | omega | rfl)) | (simp; done) | (simp; omega)) rfl ?_)
    (refine Jx.pickF rfl (by first | rfl | assumption | (exact decide_eq_true (by first | assumption | omega | rfl)) | (exact decide_eq_false (by first | assumption | omega | rfl)) | (simp; done) | (simp; omega)) rfl rfl ?_)
    (refine J.nil ?_)
    (refine N.seq ?_)
    (refine W.condF rfl (by first | rfl | assumption | (exact decide_eq_true (by first | assumption | omega | rfl)) | (exact decide_eq_false (by first | assumption | omega | rfl)) | (simp; done) | (simp; omega)) ?_)
    (refine W.exit ?_)
    (refine N.seq ?_)
    (refine W.seq ?_)
    (refine W.seq ?_)
    (refine W.region ?_)
    (refine Jx.move rfl rfl ?_)
    (refine Jx.neqI rfl rfl rfl ?_)
    (refine J.nil ?_)
    (refine N.seq ?_)
    (refine W.condF rfl (by first | rfl | assumption | (exact decide_eq_true (by first | assumption | omega | rfl)) | (exact decide_eq_false (by first | assumption | omega | rfl)) | (simp; done) | (simp; omega)) ?_)
    (refine W.skip ?_)
    (refine N.seq ?_)
    (refine W.seq ?_)
    (refine W.region ?_)
    (refine Jx.move rfl rfl ?_)
    (refine Jx.assign rfl rfl ?_)
    (refine J.nil ?_)
    (refine N.seq ?_)
    (refine W.ret ?_)
    (refine id ?_; rotate_left))
          refine N.ret (rs := [.tmp 6]) rfl (.tmp rfl .nil) ⟨acc, pos, 0, rfl, rfl, g2, ?_⟩
          simp only [listP, h4]
          rw [if_pos (by omega), g3, show n - i = 0 by omega]
          simp only [textsP, preP, List.append_nil, lf, if_true]
        · have hb := hb he
          have c2 := rd_refuse b s pos 0 a e h1 he (fun h => absurd rfl h)
          focus (
    (refine W.seq ?_)
    (refine W.seq ?_)
    (refine W.region ?_)
    (refine Jx.move rfl rfl ?_)
    (refine Jx.move rfl rfl ?_)
    (refine Jx.lssI rfl rfl rfl ?_)
    (refine Jx.move rfl rfl ?_)
    (refine J.guardNoU rfl rfl rfl (by first | rfl | assumption | (exact decide_eq_true (by first | assumption | omega | rfl)) | (exact decide_eq_false (by first | assumption | omega | rfl)) | (simp; done) | (simp; omega)) rfl ?_)
    (refine J.guardNoU rfl rfl rfl (by first | rfl | assumption | (exact decide_eq_true (by first | assumption | omega | rfl)) | (exact decide_eq_false (by first | assumption | omega | rfl)) | (simp; done) | (simp; omega)) rfl ?_)
    (refine Jx.pickF rfl (by first | rfl | assumption | (exact decide_eq_true (by first | assumption | omega | rfl)) | (exact decide_eq_false (by first | assumption | omega | rfl)) | (simp; done) | (simp; omega)) rfl rfl ?_)
    (refine J.nil ?_)
    (refine N.seq ?_)
    (refine W.condF rfl (by first | rfl | assumption | (exact decide_eq_true (by first | assumption | omega | rfl)) | (exact decide_eq_false (by first | assumption | omega | rfl)) | (simp; done) | (simp; omega)) ?_)
    (refine W.exit ?_)
    (refine N.seq ?_)
    (refine W.seq ?_)
    (refine W.seq ?_)
    (refine W.region ?_)
    (refine Jx.move rfl rfl ?_)
    (refine Jx.neqI rfl rfl rfl ?_)
    (refine J.nil ?_)
    (refine N.seq ?_)
    (refine W.condT rfl (by first | rfl | assumption | (exact decide_eq_true (by first | assumption | omega | rfl)) | (exact decide_eq_false (by first | assumption | omega | rfl)) | (simp; done) | (simp; omega)) ?_)
    (refine W.seq ?_)
    (refine W.region ?_)
    (refine Jx.move rfl rfl ?_)
    (refine Jx.move rfl rfl ?_)
    (refine Jx.move rfl rfl ?_)
    (refine J.call (c2) rfl (evs_args rfl) rfl ?_; rintro _ _ ⟨a2, c2', rfl, ha2, hc2⟩; simp only [List.cons_append, List.nil_append, List.append_nil])
    (refine J.nil ?_)
    (refine N.seq ?_)
    (refine W.seq ?_)
    (refine W.region ?_)
    (refine Jx.assign rfl rfl ?_)
    (refine J.nil ?_)
    (refine N.seq ?_)
    (refine W.ret ?_)
    (refine N.seqRet ?_)
    (refine id ?_; rotate_left))
          refine N.told (G := [(6, ssl [])]) ⟨⟨_, rfl, Sub.nil 1 _⟩, trivial⟩ ?_
          exact N.retD (rs := [.tmp 6]) (L1 := [rdO b ⟨s, a2, c2'⟩]) rfl (.tmp rfl .nil) (by simp) ⟨[], a2, c2', rfl, rfl, ha2, by rw [lf_no hc2]; simp only [listP, h4]; rw [if_pos (by omega)]; exact hb⟩
  · have h4 := hz he
    refine W.loop (α := Unit) (fun x => [(12, int 0), (9, int e), (8, int (n : Int)), (7, int (a : Int)), (0, ptr b)]) (fun x => [rdO b ⟨s, a', c⟩]) (fun x => True) (fun x => 0) () trivial rfl ⟨ref0 rfl, ref0 rfl, ref0 rfl, ref0 rfl, ref0 rfl, trivial⟩ ?_
    intro _ _
    have c2 := rd_refuse b s a' c a e h1 he hw
    by_cases h0 : 0 < n
    · focus (
    (refine W.seq ?_)
    (refine W.seq ?_)
    (refine W.region ?_)
    (refine Jx.move rfl rfl ?_)
    (refine Jx.move rfl rfl ?_)
    (refine Jx.lssI rfl rfl rfl ?_)
    (refine Jx.move rfl rfl ?_)
    (refine J.guardYes rfl rfl rfl (by first | rfl | assumption | (exact decide_eq_true (by first | assumption | omega | rfl)) | (exact decide_eq_false (by first | assumption | omega | rfl)) | (simp; done) | (simp; omega)) ?_)
    (refine Jx.move rfl rfl ?_)
    (refine J.guardYes rfl rfl rfl (by first | rfl | assumption | (exact decide_eq_true (by first | assumption | omega | rfl)) | (exact decide_eq_false (by first | assumption | omega | rfl)) | (simp; done) | (simp; omega)) ?_)
    (refine Jx.eqlI rfl rfl rfl ?_)
    (refine Jx.pickT rfl (by first | rfl | assumption | (exact decide_eq_true (by first | assumption | omega | rfl)) | (exact decide_eq_false (by first | assumption | omega | rfl)) | (simp; done) | (simp; omega)) rfl rfl ?_)
    (refine J.nil ?_)
    (refine N.seq ?_)
    (refine W.condF rfl (by first | rfl | assumption | (exact decide_eq_true (by first | assumption | omega | rfl)) | (exact decide_eq_false (by first | assumption | omega | rfl)) | (simp; done) | (simp; omega)) ?_)
    (refine W.exit ?_)
    (refine N.seq ?_)
    (refine W.seq ?_)
    (refine W.seq ?_)
    (refine W.region ?_)
    (refine Jx.move rfl rfl ?_)
    (refine Jx.neqI rfl rfl rfl ?_)
    (refine J.nil ?_)
    (refine N.seq ?_)
    (refine W.condT rfl (by first | rfl | assumption | (exact decide_eq_true (by first | assumption | omega | rfl)) | (exact decide_eq_false (by first | assumption | omega | rfl)) | (simp; done) | (simp; omega)) ?_)
    (refine W.seq ?_)
    (refine W.region ?_)
    (refine Jx.move rfl rfl ?_)
    (refine Jx.move rfl rfl ?_)
    (refine Jx.move rfl rfl ?_)
    (refine J.call (c2) rfl (evs_args rfl) rfl ?_; rintro _ _ ⟨a2, c2', rfl, ha2, hc2⟩; simp only [List.cons_append, List.nil_append, List.append_nil])
    (refine J.nil ?_)
    (refine N.seq ?_)
    (refine W.seq ?_)
    (refine W.region ?_)
    (refine Jx.assign rfl rfl ?_)
    (refine J.nil ?_)
    (refine N.seq ?_)
    (refine W.ret ?_)
    (refine N.seqRet ?_)
    (refine id ?_; rotate_left))
      refine N.told (G := [(6, ssl [])]) ⟨⟨_, rfl, Sub.nil 1 _⟩, trivial⟩ ?_
      exact N.ret (rs := [.tmp 6]) rfl (.tmp rfl .nil) ⟨[], a2, c2', rfl, rfl, ha2, by rw [lf_no hc2]; simp only [listP, h4]⟩
    · focus (
    (refine W.seq ?_)
    (refine W.seq ?_)
    (refine W.region ?_)
    (refine Jx.move rfl rfl ?_)
    (refine Jx.move rfl rfl ?_)
    (refine Jx.lssI rfl rfl rfl ?_)
    (refine Jx.move rfl rfl ?_)
    (refine J.guardNoU rfl rfl rfl (by first | rfl | assumption | (exact decide_eq_true (by first | assumption | omega | rfl)) | (exact decide_eq_false (by first | assumption | omega | rfl)) | (simp; done) | (simp; omega)) rfl ?_)
    (refine J.guardNoU rfl rfl rfl (by first | rfl | assumption | (exact decide_eq_true (by first | assumption | omega | rfl)) | (exact decide_eq_false (by first | assumption | omega | rfl)) | (simp; done) | (simp; omega)) rfl ?_)
    (refine Jx.pickF rfl (by first | rfl | assumption | (exact decide_eq_true (by first | assumption | omega | rfl)) | (exact decide_eq_false (by first | assumption | omega | rfl)) | (simp; done) | (simp; omega)) rfl rfl ?_)
    (refine J.nil ?_)
    (refine N.seq ?_)
    (refine W.condF rfl (by first | rfl | assumption | (exact decide_eq_true (by first | assumption | omega | rfl)) | (exact decide_eq_false (by first | assumption | omega | rfl)) | (simp; done) | (simp; omega)) ?_)
    (refine W.exit ?_)
    (refine N.seq ?_)
    (refine W.seq ?_)
    (refine W.seq ?_)
    (refine W.region ?_)
    (refine Jx.move rfl rfl ?_)
    (refine Jx.neqI rfl rfl rfl ?_)
    (refine J.nil ?_)
    (refine N.seq ?_)
    (refine W.condT rfl (by first | rfl | assumption | (exact decide_eq_true (by first | assumption | omega | rfl)) | (exact decide_eq_false (by first | assumption | omega | rfl)) | (simp; done) | (simp; omega)) ?_)
    (refine W.seq ?_)
    (refine W.region ?_)
    (refine Jx.move rfl rfl ?_)
    (refine Jx.move rfl rfl ?_)
    (refine Jx.move rfl rfl ?_)
    (refine J.call (c2) rfl (evs_args rfl) rfl ?_; rintro _ _ ⟨a2, c2', rfl, ha2, hc2⟩; simp only [List.cons_append, List.nil_append, List.append_nil])
    (refine J.nil ?_)
    (refine N.seq ?_)
    (refine W.seq ?_)
    (refine W.region ?_)
    (refine Jx.assign rfl rfl ?_)
    (refine J.nil ?_)
    (refine N.seq ?_)
    (refine W.ret ?_)
    (refine N.seqRet ?_)
    (refine id ?_; rotate_left))
      refine N.told (G := [(6, ssl [])]) ⟨⟨_, rfl, Sub.nil 1 _⟩, trivial⟩ ?_
      exact N.ret (rs := [.tmp 6]) rfl (.tmp rfl .nil) ⟨[], a2, c2', rfl, rfl, ha2, by rw [lf_no hc2]; simp only [listP, h4]⟩
end Go.Proofs.YtlfdhkahiaammaaDoor
namespace Go.Proofs.YtlfdhkahiaammaaDoor
open Go Go.Sse
set_option linter.unusedVariables false
set_option linter.unusedSimpArgs false
set_option maxRecDepth 10000
end Go.Proofs.YtlfdhkahiaammaaDoor
namespace Go.Proofs.YtlfdhkahiaammaaDoor
open Go Go.Sse
set_option linter.unusedVariables false
set_option linter.unusedSimpArgs false
set_option maxRecDepth 10000
end Go.Proofs.YtlfdhkahiaammaaDoor
namespace Go.Sse
open Go Go.Sse
set_option linter.unusedVariables false
set_option linter.unusedSimpArgs false
set_option maxRecDepth 10000
section
variable {P : Program} {Γ : Ctx} {ops : Array Oper} {Q : Exit → Act → World → Prop} {F : List (Nat × SV)} {L : List Own} {rest : List Oper}
variable {dst : Option Tmp} {ty : TypeId} {pos : String} {aft : Array Edge} {g : Option (Nat × Bool)}
end
end Go.Sse
namespace Go.Sse
open Go Go.Sse
set_option linter.unusedVariables false
set_option linter.unusedSimpArgs false
set_option maxRecDepth 10000
class TZero (P : Program) (E : Nat) (zv : outParam Value) : Prop where ok : (P.info? E).bind (·.zero) = some zv
section
variable {P : Program} {Γ : Ctx} {ops : Array Oper} {Q : Exit → Act → World → Prop} {F : List (Nat × SV)} {L : List Own} {rest : List Oper}
variable {dst : Option Tmp} {ty : TypeId} {pos : String} {aft : Array Edge} {g : Option (Nat × Bool)}
end
end Go.Sse
namespace Go.Sse
open Go Go.Sse
set_option linter.unusedVariables false
set_option linter.unusedSimpArgs false
set_option maxRecDepth 10000
section
variable {P : Program} {Γ : Ctx} {ops : Array Oper} {Q : Exit → Act → World → Prop} {F : List (Nat × SV)} {L : List Own} {rest : List Oper}
variable {dst : Option Tmp} {ty : TypeId} {pos : String} {aft : Array Edge} {g : Option (Nat × Bool)}
end
end Go.Sse
namespace Go.Sse
open Go Go.Sse
set_option linter.unusedVariables false
set_option linter.unusedSimpArgs false
set_option maxRecDepth 10000
section
variable {P : Program} {Γ : Ctx} {ops : Array Oper} {Q : Exit → Act → World → Prop} {F : List (Nat × SV)} {L : List Own} {rest : List Oper}
variable {dst : Option Tmp} {ty : TypeId} {pos : String} {aft : Array Edge} {g : Option (Nat × Bool)}
end
end Go.Sse
namespace Go.Sse
open Go Go.Sse
set_option linter.unusedVariables false
set_option linter.unusedSimpArgs false
set_option maxRecDepth 10000
section
variable {P : Program} {Γ : Ctx} {l : List Oper} {Q : Exit → Act → World → Prop} {G : List (Nat × SV)} {L : List Own} {S idx : List Nat}
theorem JP.alloc {d E sz by' : Nat} {z : List Value} [h : TInfo P E sz by' z] {cs : List SV} {ty : TypeId} {pos : String} {aft : Array Edge} {g : Option (Nat × Bool)} (i : Nat) (ks S' idx' : List Nat) (hc : (okIdx l.toArray S idx && okStep l.toArray S idx i ks S' idx') = true)
    (hoi : l[i]? = some ⟨some d, .alloc E, ty, pos, aft, g⟩) (hre : SegC P Γ l.toArray L G (opsAt l idx) (Ag G idx.length)) (hz : z.map .val = cs) (h1 : z.all (·.oneCell') = true) (hlt : Nat.blt d Γ.nt = true)
    (k : ∀ b, JP P Γ l.toArray Q S' idx' ((d, .val (.pointer (some ⟨b, 0, none⟩))) :: G) (.obj b E cs :: L)) : JP P Γ l.toArray Q S idx G L :=
  JP.do1 i ks S' idx' hc hoi hre (OpS.newObj (ρ' := fun _ => True) (E := E) (cs := cs) (fun a w hst => by
    obtain ⟨v, hv, hc, _⟩ := run_zero h w
    refine ⟨z, ?_, hz ▸ RelL.vals z (by simpa [List.all_eq_true] using h1)⟩
    have : v.cells = z.toArray := by rw [← hc]
    simp [execOp, Instr.alloc, hv, newVar, newRow, this])) hlt (by rintro s L' ⟨b, rfl, rfl⟩; exact k b)
end
end Go.Sse
namespace Go.Sse
open Go Go.Sse
set_option linter.unusedVariables false
set_option linter.unusedSimpArgs false
set_option maxRecDepth 10000
theorem Sub.agg {cs ds : List SV} (h : SubL cs ds) : Sub (.agg cs) (.agg ds) := by
  intro Z w v hr
  obtain ⟨h1, h2⟩ := h.spec
  cases hr with
  | agg _ vs hl hone hrel => exact .agg ds vs (by omega) hone fun j hj => h2 j Z w _ (hrel j (by omega))
theorem SubL.refl : ∀ (cs : List SV), SubL cs cs
  | [] => .nil
  | s :: cs => .cons (Sub.refl s) (SubL.refl cs)
section
variable {P : Program} {Γ : Ctx} {ops : Array Oper} {Q : Exit → Act → World → Prop} {F : List (Nat × SV)} {L : List Own} {rest : List Oper}
variable {dst : Option Tmp} {ty : TypeId} {pos : String} {aft : Array Edge} {g : Option (Nat × Bool)}
theorem Pv.loadPPall {T n : Nat} [h : TAg P T n] {x : Operand} {cs : List SV} (hx : ev F x = some (.pp cs)) (hn' : Nat.beq cs.length n = true) : Pv P Γ F L ⟨dst, .load T x, ty, pos, aft, g⟩ (.agg cs) :=
  have hn : cs.length = n := Nat.eq_of_beq_eq_true hn'
  Pv.loadPPag hx (by rw [← hn, List.take_length]) hn
theorem Cx.loadPPall {T n : Nat} [h : TAg P T n] {x : Operand} {cs : List SV} (hx : ev F x = some (.pp cs)) (hn' : Nat.beq cs.length n = true) {d0 : Nat} {K : List (Nat × SV) → Prop} (hlt : Nat.blt d0 Γ.nt = true) (hr : SegC P Γ ops L ((d0, (.agg cs)) :: F) rest K) : SegC P Γ ops L F (⟨some d0, .load T x, ty, pos, aft, none⟩ :: rest) K :=
  SegC.q (Qs.pv (by apply Pv.loadPPall <;> assumption)) hlt hr
theorem Jx.loadPPall {T n : Nat} [h : TAg P T n] {x : Operand} {cs : List SV} (hx : ev F x = some (.pp cs)) (hn' : Nat.beq cs.length n = true) {d0 : Nat} (hlt : Nat.blt d0 Γ.nt = true) (k : J P Γ ops Q ((d0, (.agg cs)) :: F) L rest) : J P Γ ops Q F L (⟨some d0, .load T x, ty, pos, aft, none⟩ :: rest) :=
  J.pv (by apply Pv.loadPPall <;> assumption) hlt k
theorem Qs.buildOne {α : Type} {t E sz by' : Nat} {z : List Value} [ht : TSlice P t E] [hI : TInfo P E sz by' z] {x : Operand} {cs : List SV} (enc : α → List SV) (d a : α) (hx : ev F x = some (.agg cs)) (hcs' : Nat.beq cs.length sz = true) (he : enc a = cs)
    (hz' : Nat.beq z.length sz = true) (h0' : Nat.blt 0 sz = true) (hmax' : Nat.ble sz 16777216 = true) (hz1 : z.all (·.oneCell') = true) : Qs P Γ F L ⟨dst, .buildSlice t 1 [(0, x)].toArray, ty, pos, aft, g⟩ (.sl sz [a].length (elOf enc d [a])) := by
  have hcs := Nat.eq_of_beq_eq_true hcs'
  have hz := Nat.eq_of_beq_eq_true hz'
  have h0 : 0 < sz := Nat.le_of_ble_eq_true h0'
  have hmax := Nat.le_of_ble_eq_true hmax'
  refine (Qs.buildSlice (len := 1) (ss := [.agg cs]) (sz := sz) (z := z) (.cons hx .agg .nil) rfl (by intro s hs; simp only [List.mem_singleton] at hs; subst hs; exact hcs) hz (by omega) (by omega) hz1).sub ?_
  refine Sub.slOf (l := [a]) rfl fun i hi => ?_
  have : i = 0 := by omega
  subst this
  simp only [List.getD_cons_zero, cellsS]
  exact he.symm
end
end Go.Sse
namespace Go.Sse
open Go Go.Sse
set_option linter.unusedVariables false
set_option linter.unusedSimpArgs false
set_option maxRecDepth 10000
theorem operWp_less {P : Program} {o : Oper} {a : Act} {w : World} {K K' : Act → World → Prop} {Q Q' : Exit → Act → World → Prop} (h : ∀ a w, K a w → K' a w) (hq : ∀ e a w, e ≠ .normal → Q e a w → Q' e a w)
    (hh : o.wp P a w K Q) : o.wp P a w K' Q' := by
  unfold Oper.wp at *
  generalize (execOp a.eval o).run P w = r at *
  cases r with
  | ok n w' =>
    cases n <;> simp only [Oper.upon] at hh ⊢ <;>
      first
        | exact h _ _ hh
        | exact Calls.mono hh (fun e w'' he => by
            cases e
            · exact h _ _ he
            · exact hq _ _ _ (by simp) he
            · obtain ⟨a2, w2, h2⟩ := he; exact ⟨a2, w2, hq _ _ _ (by simp) h2⟩)
        | exact Rows.mono hh (fun _ _ he => h _ _ he)
  | halt x w' => cases x <;> simp only [Oper.upon] at hh ⊢ <;> first | exact hh | exact hq _ _ _ (by simp) hh
theorem wpList_join {P : Program} {ops : Array Oper} {Q Q' : Exit → Act → World → Prop} {rest : List Oper} (hn : ∀ a w, Q' .normal a w → wpList P ops Q rest a w) (hq : ∀ e a w, e ≠ .normal → Q' e a w → Q e a w) :
    ∀ (l : List Oper) a w, wpList P ops Q' l a w → wpList P ops Q (l ++ rest) a w
  | [], a, w, h => hn a w h
  | o :: l, a, w, h => by
    rw [List.cons_append]
    unfold wpList at h ⊢
    split
    · rename_i hw
      rw [if_pos hw] at h
      rcases h with h | ⟨h1, a2, w2, h2⟩
      · exact .inl (operWp_less (wpList_join hn hq l) hq h)
      · exact .inr ⟨h1, a2, w2, hq _ _ _ (by simp) h2⟩
    · rename_i hw
      rw [if_neg hw] at h
      exact wpList_join hn hq l _ _ h
def inG (j : Nat) (o : Oper) : Bool := match o.guard with
  | some (k, _) => Nat.ble j k
  | none => false
def gTake (j : Nat) : List Oper → List Oper
  | [] => []
  | o :: l => bif inG j o then o :: gTake j l else []
def gDrop (j : Nat) : List Oper → List Oper
  | [] => []
  | o :: l => bif inG j o then gDrop j l else o :: l
theorem gSplit (j : Nat) : ∀ l, gTake j l ++ gDrop j l = l
  | [] => rfl
  | o :: l => by
    simp only [gTake, gDrop]
    cases inG j o with
    | true => simp only [cond_true, List.cons_append, gSplit j l]
    | false => rfl
def hasKey (F : List (Nat × SV)) (x : Nat) : Bool := match F with
  | [] => false
  | p :: r => Nat.beq p.1 x || hasKey r x
theorem look_none : ∀ {F : List (Nat × SV)} {x : Nat}, hasKey F x = false → look F x = none
  | [], x, _ => rfl
  | p :: r, x, h => by
    simp only [hasKey, Bool.or_eq_false_iff] at h
    simp only [look, h.1, cond_false]
    exact look_none h.2
def okSkip (ops : Array Oper) (F : List (Nat × SV)) (nt j : Nat) (want : Bool) : List Nat → List Oper → Bool
  | _, [] => true
  | acc, o :: l => match o.dst, o.guard with
    | some d, some (k, w) => Nat.blt d nt && !hasKey F d && ((Nat.beq k j && (w == want)) || (match ops[k]? with
      | some og => (match og.dst with | some e => acc.contains e | none => false)
      | none => false)) && okSkip ops F nt j want (d :: acc) l
    | _, _ => false
theorem skip_run {P : Program} {Γ : Ctx} {ops : Array Oper} {Q : Exit → Act → World → Prop} {F : List (Nat × SV)} {L : List Own} {rest : List Oper} {j d : Nat} {want : Bool} {og : Oper}
    (ho : ops[j]? = some og) (hod : og.dst = some d) (hd : look F d = some (.val (.bool (!want)))) (k : J P Γ ops Q F L rest) :
    ∀ (l : List Oper) (acc : List Nat) (a : Act) (w : World), okSkip ops F Γ.nt j want acc l = true → St Γ F L a w → (∀ e ∈ acc, a.tmps.getD e undef = undef) → wpList P ops Q (l ++ rest) a w
  | [], acc, a, w, _, hst, _ => k.go a w hst
  | o :: l, acc, a, w, h, hst, hacc => by
    obtain ⟨dst, op, ty, pos, aft, g⟩ := o
    cases dst with
    | none => simp [okSkip] at h
    | some t =>
      cases g with
      | none => simp [okSkip] at h
      | some g =>
        obtain ⟨i, w'⟩ := g
        simp only [okSkip, Bool.and_eq_true, Bool.or_eq_true, Bool.not_eq_true'] at h
        obtain ⟨⟨⟨h1, h2⟩, h3⟩, h4⟩ := h
        have hw : Region.wanted ⟨some t, op, ty, pos, aft, some (i, w')⟩ (yielded ops a.tmps) = false := by
          rcases h3 with ⟨h3, h5⟩ | h3
          · have : i = j := Nat.eq_of_beq_eq_true h3
            subst this
            have hw' : w' = want := by simpa using h5
            subst hw'
            rw [wanted_guard rfl ho hod (hst.fr d _ hd).val_eq]
            cases w' <;> rfl
          · split at h3
            · rename_i og' hog'
              split at h3
              · rename_i e he
                exact wanted_undef rfl hog' he (hacc e (by simpa using h3))
              · cases h3
            · cases h3
        rw [List.cons_append]
        unfold wpList
        rw [if_neg (by rw [hw]; simp)]
        have hst2 : St Γ F L (a.put (some t) undef) w := by
          have := hst.put (Step.refl hst.ws) h1 (.any undef)
          refine ⟨this.ws, this.nt, this.df, fun x s hl => this.fr x s ?_⟩
          simp only [look]
          cases hb : Nat.beq t x with
          | true =>
            have := Nat.eq_of_beq_eq_true hb
            subst this
            rw [look_none h2] at hl; cases hl
          | false => exact hl
        have hlt : t < a.tmps.size := by rw [hst.nt]; exact Nat.le_of_ble_eq_true h1
        refine skip_run ho hod hd k l (t :: acc) _ _ h4 hst2 fun e he => ?_
        show (a.tmps.setIfInBounds t undef).getD e undef = undef
        rw [getD_set _ _ _ _ hlt]
        split
        · rfl
        · rcases List.mem_cons.1 he with rfl | he
          · rename_i hne; exact absurd rfl hne
          · exact hacc e he
def Qj (Γ : Ctx) (F : List (Nat × SV)) (L : List Own) (t : Nat) (q : Bool) : Exit → Act → World → Prop := fun e a w => e = .normal ∧ St Γ F L a w ∧ a.tmps.getD t undef = .bool q
def keysOff (F : List (Nat × SV)) : List (Nat × SV) → Bool
  | [] => true
  | p :: r => !hasKey F p.1 && keysOff F r
theorem look_off : ∀ {F : List (Nat × SV)} (X : List (Nat × SV)), keysOff F X = true → ∀ x s, look F x = some s → look (X ++ F) x = some s
  | F, [], _, x, s, hl => hl
  | F, p :: X, h, x, s, hl => by
    simp only [keysOff, Bool.and_eq_true, Bool.not_eq_true'] at h
    simp only [List.cons_append, look]
    cases hb : Nat.beq p.1 x with
    | true =>
      have := Nat.eq_of_beq_eq_true hb
      subst this
      rw [look_none h.1] at hl; cases hl
    | false => exact look_off X h.2 x s hl
theorem N.joined {Γ : Ctx} {F F' : List (Nat × SV)} {L : List Own} {t : Nat} {q : Bool} (X : List (Nat × SV)) (hl : look F' t = some (.val (.bool q))) (hX : F' = X ++ F) (hk : keysOff F X = true) : N Γ (Qj Γ F L t q .normal) F' L :=
  ⟨fun a w hst => ⟨rfl, ⟨hst.ws, hst.nt, hst.df, fun x s h => hst.fr x s (by rw [hX]; exact look_off X hk x s h)⟩, (hst.fr t _ hl).val_eq⟩⟩
theorem N.joinedN {Γ : Ctx} {F F' : List (Nat × SV)} {L : List Own} {t : Nat} {q : Bool} (hl : look F' t = some (.val (.bool q))) (hX : F'.drop (F'.length - F.length) = F) (hk : keysOff F (F'.take (F'.length - F.length)) = true) : N Γ (Qj Γ F L t q .normal) F' L :=
  N.joined (F'.take (F'.length - F.length)) hl ((List.take_append_drop (F'.length - F.length) F').symm.trans (congrArg _ hX)) hk
section
variable {P : Program} {Γ : Ctx} {ops : Array Oper} {Q : Exit → Act → World → Prop} {F : List (Nat × SV)} {L : List Own} {rest l : List Oper}
variable {dst : Option Tmp} {op : Op} {ty ty0 : TypeId} {pos pos0 : String} {aft aft0 : Array Edge} {g : Option (Nat × Bool)}
theorem St.told1 {a : Act} {w : World} {t : Nat} {s : SV} (h : St Γ F L a w) (hr : Rel (ZL Γ.Z L) w s (a.tmps.getD t undef)) : St Γ ((t, s) :: F) L a w :=
  ⟨h.ws, h.nt, h.df, fun x u hl => by
    simp only [look] at hl
    cases hb : Nat.beq t x with
    | true =>
      rw [hb] at hl
      simp only [cond_true, Option.some.injEq] at hl
      subst hl
      have := Nat.eq_of_beq_eq_true hb
      subst this
      exact hr
    | false => rw [hb] at hl; exact h.fr x u hl⟩
theorem told_off {t y : Nat} {s u : SV} (hy : hasKey F y = false) {a : Act} {w : World} (h : St Γ ((t, s) :: (y, u) :: F) L a w) : St Γ ((t, s) :: F) L a w :=
  ⟨h.ws, h.nt, h.df, fun x v hl => h.fr x v (by
    simp only [look] at hl ⊢
    cases hb : Nat.beq t x with
    | true => rw [hb] at hl; exact hl
    | false =>
      rw [hb] at hl
      simp only [cond_false] at hl ⊢
      cases hc : Nat.beq y x with
      | true =>
        have := Nat.eq_of_beq_eq_true hc
        subst this
        rw [look_none hy] at hl; cases hl
      | false => exact hl)⟩
theorem ev_off {y : Nat} {s u : SV} {c : Operand} (hy : hasKey F y = false) (hc : ev F c = some s) : ev ((y, u) :: F) c = some s := by
  cases c with
  | tmp x =>
    simp only [ev, look] at hc ⊢
    cases hb : Nat.beq y x with
    | true =>
      have := Nat.eq_of_beq_eq_true hb
      subst this
      rw [look_none hy] at hc; cases hc
    | false => exact hc
  | const v => exact hc
  | global g => exact hc
  | func f => exact hc
theorem J.ofSt {l : List Oper} (h : ∀ a w, St Γ F L a w → wpList P ops Q l a w) : J P Γ ops Q F L l := ⟨h⟩
theorem J.guardOr {q b : Bool} {j d t y : Nat} {c : Operand} {og : Oper} (ho : ops[j]? = some og) (hod : og.dst = some d) (hv : look F d = some (.val (.bool b)))
    (hdrop : gDrop j (⟨dst, op, ty0, pos0, aft0, some (j, false)⟩ :: l) = ⟨some t, .pick c (.const (.bool true)) (.tmp y), ty, pos, aft, none⟩ :: rest) (hc : ev F c = some (.val (.bool b)))
    (hsk : okSkip ops F Γ.nt j false [] (gTake j (⟨dst, op, ty0, pos0, aft0, some (j, false)⟩ :: l)) = true) (hy : hasKey F y = false) (hlt : Nat.blt t Γ.nt = true)
    (hyes : b = false → J P Γ ops (Qj Γ F L y q) F L (gTake j (⟨dst, op, ty0, pos0, aft0, some (j, false)⟩ :: l)))
    (k : J P Γ ops Q ((t, .val (.bool (b || q))) :: F) L rest) : J P Γ ops Q F L (⟨dst, op, ty0, pos0, aft0, some (j, false)⟩ :: l) := by
  rw [← gSplit j (⟨dst, op, ty0, pos0, aft0, some (j, false)⟩ :: l), hdrop]
  cases b with
  | false =>
    refine ⟨fun a w hst => wpList_join ?_ ?_ _ a w ((hyes rfl).go a w hst)⟩
    · rintro a w ⟨_, h1, h2⟩
      exact (Jx.pickF (c := c) (b := false) (x := .const (.bool true)) (y := .tmp y) (s := .val (.bool q)) (ev_off hy hc) rfl (by simp [ev, look]) hlt (J.ofSt fun a w h => k.go a w (told_off hy h))).go a w (h1.told1 (t := y) (s := .val (.bool q)) (by rw [h2]; exact .val _))
    · rintro e a w he ⟨h, _⟩; exact absurd h he
  | true =>
    exact ⟨fun a w hst => skip_run (want := false) ho hod hv (Jx.pickT (c := c) (b := true) (x := .const (.bool true)) (y := .tmp y) (s := .val (.bool true)) hc rfl rfl hlt k) _ [] a w hsk hst (by simp)⟩
theorem J.guardAnd {q b : Bool} {j d t y : Nat} {c : Operand} {og : Oper} (ho : ops[j]? = some og) (hod : og.dst = some d) (hv : look F d = some (.val (.bool b)))
    (hdrop : gDrop j (⟨dst, op, ty0, pos0, aft0, some (j, true)⟩ :: l) = ⟨some t, .pick c (.tmp y) (.const (.bool false)), ty, pos, aft, none⟩ :: rest) (hc : ev F c = some (.val (.bool b)))
    (hsk : okSkip ops F Γ.nt j true [] (gTake j (⟨dst, op, ty0, pos0, aft0, some (j, true)⟩ :: l)) = true) (hy : hasKey F y = false) (hlt : Nat.blt t Γ.nt = true)
    (hyes : b = true → J P Γ ops (Qj Γ F L y q) F L (gTake j (⟨dst, op, ty0, pos0, aft0, some (j, true)⟩ :: l)))
    (k : J P Γ ops Q ((t, .val (.bool (b && q))) :: F) L rest) : J P Γ ops Q F L (⟨dst, op, ty0, pos0, aft0, some (j, true)⟩ :: l) := by
  rw [← gSplit j (⟨dst, op, ty0, pos0, aft0, some (j, true)⟩ :: l), hdrop]
  cases b with
  | true =>
    refine ⟨fun a w hst => wpList_join ?_ ?_ _ a w ((hyes rfl).go a w hst)⟩
    · rintro a w ⟨_, h1, h2⟩
      exact (Jx.pickT (c := c) (b := true) (x := .tmp y) (y := .const (.bool false)) (s := .val (.bool q)) (ev_off hy hc) rfl (by simp [ev, look]) hlt (J.ofSt fun a w h => k.go a w (told_off hy h))).go a w (h1.told1 (t := y) (s := .val (.bool q)) (by rw [h2]; exact .val _))
    · rintro e a w he ⟨h, _⟩; exact absurd h he
  | false =>
    exact ⟨fun a w hst => skip_run (want := true) ho hod hv (Jx.pickF (c := c) (b := false) (x := .tmp y) (y := .const (.bool false)) (s := .val (.bool false)) hc rfl rfl hlt k) _ [] a w hsk hst (by simp)⟩
theorem J.guardAndG {q b b2 w2 : Bool} {j2 d2 : Nat} {og2 : Oper} (ho2 : ops[j2]? = some og2) (hod2 : og2.dst = some d2) (hv2 : look F d2 = some (.val (.bool b2))) (hb2 : b2 = w2) {j d t y : Nat} {c : Operand} {og : Oper} (ho : ops[j]? = some og) (hod : og.dst = some d) (hv : look F d = some (.val (.bool b)))
    (hdrop : gDrop j (⟨dst, op, ty0, pos0, aft0, some (j, true)⟩ :: l) = ⟨some t, .pick c (.tmp y) (.const (.bool false)), ty, pos, aft, some (j2, w2)⟩ :: rest) (hc : ev F c = some (.val (.bool b)))
    (hsk : okSkip ops F Γ.nt j true [] (gTake j (⟨dst, op, ty0, pos0, aft0, some (j, true)⟩ :: l)) = true) (hy : hasKey F y = false) (hlt : Nat.blt t Γ.nt = true)
    (hyes : b = true → J P Γ ops (Qj Γ F L y q) F L (gTake j (⟨dst, op, ty0, pos0, aft0, some (j, true)⟩ :: l)))
    (k : J P Γ ops Q ((t, .val (.bool (b && q))) :: F) L rest) : J P Γ ops Q F L (⟨dst, op, ty0, pos0, aft0, some (j, true)⟩ :: l) := by
  rw [← gSplit j (⟨dst, op, ty0, pos0, aft0, some (j, true)⟩ :: l), hdrop]
  cases b with
  | true =>
    refine ⟨fun a w hst => wpList_join ?_ ?_ _ a w ((hyes rfl).go a w hst)⟩
    · rintro a w ⟨_, h1, h2⟩
      exact (J.guardYes ho2 hod2 (ev_off (c := .tmp d2) hy hv2) hb2 (Jx.pickT (c := c) (b := true) (x := .tmp y) (y := .const (.bool false)) (s := .val (.bool q)) (ev_off hy hc) rfl (by simp [ev, look]) hlt (J.ofSt fun a w h => k.go a w (told_off hy h)))).go a w (h1.told1 (t := y) (s := .val (.bool q)) (by rw [h2]; exact .val _))
    · rintro e a w he ⟨h, _⟩; exact absurd h he
  | false =>
    exact ⟨fun a w hst => skip_run (want := true) ho hod hv (J.guardYes ho2 hod2 hv2 hb2 (Jx.pickF (c := c) (b := false) (x := .tmp y) (y := .const (.bool false)) (s := .val (.bool false)) hc rfl rfl hlt k)) _ [] a w hsk hst (by simp)⟩
theorem J.gY {dst : Option Tmp} {op : Op} {ty : TypeId} {pos : String} {aft : Array Edge} {j d : Nat} {want b : Bool} {og : Oper}
    (ho : ops[j]? = some og) (hd : og.dst = some d) (hv : look F d = some (.val (.bool b)))
    (h : J P Γ ops Q F L (⟨dst, op, ty, pos, aft, none⟩ :: rest)) (hb : b = want := by first | rfl | assumption | (exact decide_eq_true (by first | assumption | omega | rfl)) | (exact decide_eq_false (by first | assumption | omega | rfl)) | (simp; done) | (simp; omega)) : J P Γ ops Q F L (⟨dst, op, ty, pos, aft, some (j, want)⟩ :: rest) := J.guardYes ho hd hv hb h
theorem J.gN {dst : Tmp} {op : Op} {ty : TypeId} {pos : String} {aft : Array Edge} {j d : Nat} {want b : Bool} {og : Oper}
    (ho : ops[j]? = some og) (hd : og.dst = some d) (hv : look F d = some (.val (.bool b))) (hlt : Nat.blt dst Γ.nt = true)
    (h : J P Γ ops Q ((dst, .val undef) :: F) L rest) (hb : b = !want := by first | rfl | assumption | (exact decide_eq_true (by first | assumption | omega | rfl)) | (exact decide_eq_false (by first | assumption | omega | rfl)) | (simp; done) | (simp; omega)) : J P Γ ops Q F L (⟨some dst, op, ty, pos, aft, some (j, want)⟩ :: rest) := J.guardNoU ho hd hv hb hlt h
theorem Jx.pT {c x y : Operand} {s : SV} {b : Bool} {d0 : Nat} (hc : ev F c = some (.val (.bool b))) (hx : ev F x = some s) (hlt : Nat.blt d0 Γ.nt = true) (k : J P Γ ops Q ((d0, s) :: F) L rest) (hb : b = true := by first | rfl | assumption | (exact decide_eq_true (by first | assumption | omega | rfl)) | (exact decide_eq_false (by first | assumption | omega | rfl)) | (simp; done) | (simp; omega)) :
    J P Γ ops Q F L (⟨some d0, .pick c x y, ty, pos, aft, none⟩ :: rest) := Jx.pickT hc hb hx hlt k
theorem Jx.pF {c x y : Operand} {s : SV} {b : Bool} {d0 : Nat} (hc : ev F c = some (.val (.bool b))) (hy : ev F y = some s) (hlt : Nat.blt d0 Γ.nt = true) (k : J P Γ ops Q ((d0, s) :: F) L rest) (hb : b = false := by first | rfl | assumption | (exact decide_eq_true (by first | assumption | omega | rfl)) | (exact decide_eq_false (by first | assumption | omega | rfl)) | (simp; done) | (simp; omega)) :
    J P Γ ops Q F L (⟨some d0, .pick c x y, ty, pos, aft, none⟩ :: rest) := Jx.pickF hc hb hy hlt k
theorem W.cT {c : Operand} {x y : Code} {b : Bool} (hc : ev F c = some (.val (.bool b))) (ht : W P Γ Q F L x) (hb : b = true := by first | rfl | assumption | (exact decide_eq_true (by first | assumption | omega | rfl)) | (exact decide_eq_false (by first | assumption | omega | rfl)) | (simp; done) | (simp; omega)) : W P Γ Q F L (.cond c x y) := W.condT hc hb ht
theorem W.cF {c : Operand} {x y : Code} {b : Bool} (hc : ev F c = some (.val (.bool b))) (hf : W P Γ Q F L y) (hb : b = false := by first | rfl | assumption | (exact decide_eq_true (by first | assumption | omega | rfl)) | (exact decide_eq_false (by first | assumption | omega | rfl)) | (simp; done) | (simp; omega)) : W P Γ Q F L (.cond c x y) := W.condF hc hb hf
theorem J.st {T b o : Nat} [h : TSc P T] {x y : Operand} {s : SV} (i : Nat) (hx : ev F x = some (.val (.pointer (some ⟨b, o, none⟩)))) (hy : ev F y = some s) {T' : TypeId} {cs cs' : List SV} {L' : List Own}
    (hi : L[i]? = some (.obj b T' cs)) (ho : Nat.blt o cs.length = true) (hcs : cs.set o s = cs') (hL : L.set i (.obj b T' cs') = L') (k : J P Γ ops Q F L' rest) (h1 : One s := by first | exact One.val rfl | exact One.sl | exact One.pp | exact One.slc) :
    J P Γ ops Q F L (⟨none, .store T x y, ty, pos, aft, none⟩ :: rest) := J.store hx hy h1 i hi ho hcs hL k
theorem SegC.gY {K : List (Nat × SV) → Prop} {dst : Option Tmp} {j e : Nat} {want b : Bool} {og : Oper}
    (hog : ops[j]? = some og) (hod : og.dst = some e) (hv : look F e = some (.val (.bool b))) (h : SegC P Γ ops L F (⟨dst, op, ty, pos, aft, none⟩ :: l) K) (hb : b = want := by first | rfl | assumption | (exact decide_eq_true (by first | assumption | omega | rfl)) | (exact decide_eq_false (by first | assumption | omega | rfl)) | (simp; done) | (simp; omega)) : SegC P Γ ops L F (⟨dst, op, ty, pos, aft, some (j, want)⟩ :: l) K := SegC.yes hog hod hv hb h
theorem SegC.gN {K : List (Nat × SV) → Prop} {d j e : Nat} {want b : Bool} {og : Oper}
    (hog : ops[j]? = some og) (hod : og.dst = some e) (hv : look F e = some (.val (.bool b))) (hlt : Nat.blt d Γ.nt = true) (hr : SegC P Γ ops L ((d, .any) :: F) l K) (hb : b = !want := by first | rfl | assumption | (exact decide_eq_true (by first | assumption | omega | rfl)) | (exact decide_eq_false (by first | assumption | omega | rfl)) | (simp; done) | (simp; omega)) : SegC P Γ ops L F (⟨some d, op, ty, pos, aft, some (j, want)⟩ :: l) K := SegC.no hog hod hv hb hlt hr
end
def JnE {α : Type} (Γ : Ctx) (F' : α → List (Nat × SV)) (L' : α → List Own) (I : α → Prop) : Exit → Act → World → Prop := fun e a w => e = .normal ∧ ∃ x, I x ∧ St Γ (F' x) (L' x) a w
section
variable {P : Program} {Γ : Ctx} {Q : Exit → Act → World → Prop} {F : List (Nat × SV)} {L : List Own} {α : Type}
theorem W.joinE {c : Code} (F' : α → List (Nat × SV)) (L' : α → List Own) (I : α → Prop) (h : W P Γ (JnE Γ F' L' I) F L c) (k : ∀ x, I x → N Γ (Q .normal) (F' x) (L' x)) : W P Γ Q F L c :=
  ⟨fun a w hst => wp_mono (h.go a w hst) (by rintro e a w ⟨rfl, x, hx, hs⟩; exact (k x hx).go a w hs)⟩
theorem N.joinE {F' : α → List (Nat × SV)} {L' : α → List Own} {I : α → Prop} (x : α) (hx : I x) (hL : L = L' x) (hF : Told F (F' x)) : N Γ (JnE Γ F' L' I .normal) F L :=
  ⟨fun a w hst => by subst hL; exact ⟨rfl, x, hx, hst.told hF⟩⟩
end
section
variable {P : Program} {Γ : Ctx} {Q : Exit → Act → World → Prop} {F : List (Nat × SV)} {L : List Own} {α : Type}
end
end Go.Sse
namespace Go.Proofs.YtlfdhkahiaammaaDoor
open Go Go.Sse
set_option linter.unusedVariables false
set_option linter.unusedSimpArgs false
set_option maxRecDepth 10000
structure Mb where
  name : List UInt8
  power : Int
instance : DecidableEq Mb := fun a b => decidable_of_iff (a.name = b.name ∧ a.power = b.power) ⟨fun h => by cases a; cases b; simp_all, fun h => by subst h; exact ⟨rfl, rfl⟩⟩
abbrev mbC (m : Mb) : List SV := [str m.name, int m.power]
def mb0 : Mb := ⟨[], 0⟩
abbrev msl (l : List Mb) : SV := .sl 2 l.length (elOf mbC mb0 l)
def leB (a b : List UInt8) : Bool := Op.bytesLess a b || decide (a = b)
def okM (last : List UInt8) (m : Mb) : Bool := decide (m.name.length ≤ 6) && !leB m.name last && decide (1 ≤ m.power) && decide (m.power ≤ 1000)
def fineM : List UInt8 → List Mb → Bool
  | _, [] => true
  | last, m :: r => okM last m && fineM m.name r
def fineSet (l : List Mb) : Bool := decide (1 ≤ l.length) && decide (l.length ≤ 7) && fineM [] l
def lastN (l : List Mb) (i : Nat) : List UInt8 := if i = 0 then [] else (l.getD (i - 1) mb0).name
theorem fineM_step (l : List Mb) (i : Nat) (h : i < l.length) (last : List UInt8) : fineM last (l.drop i) = (okM last (l.getD i mb0) && fineM (l.getD i mb0).name (l.drop (i + 1))) := by
  rw [List.drop_eq_getElem_cons h, List.getD_eq_getElem?_getD, List.getElem?_eq_getElem h]; rfl
theorem lastN_succ (l : List Mb) (i : Nat) : lastN l (i + 1) = (l.getD i mb0).name := by simp [lastN]
theorem fineM_mem : ∀ {l : List Mb} {last : List UInt8}, fineM last l = true → ∀ m ∈ l, m.name.length ≤ 6 ∧ 1 ≤ m.power ∧ m.power ≤ 1000
  | [], _, _, m, hm => by simp at hm
  | x :: r, last, h, m, hm => by
    simp only [fineM, okM, Bool.and_eq_true, decide_eq_true_eq] at h
    rcases List.mem_cons.1 hm with rfl | hm
    · exact ⟨h.1.1.1.1, h.1.1.2, h.1.2⟩
    · exact fineM_mem h.2 m hm
theorem fineSet_spec {l : List Mb} (h : fineSet l = true) : 1 ≤ l.length ∧ l.length ≤ 7 ∧ ∀ m ∈ l, m.name.length ≤ 6 ∧ 1 ≤ m.power ∧ m.power ≤ 1000 := by
  simp only [fineSet, Bool.and_eq_true, decide_eq_true_eq] at h
  exact ⟨h.1.1, h.1.2, fineM_mem h.2⟩
theorem getD_mem {α : Type} {l : List α} {d : α} {i : Nat} (h : i < l.length) : l.getD i d ∈ l := by
  rw [List.getD_eq_getElem?_getD, List.getElem?_eq_getElem h]; exact List.getElem_mem _
abbrev codeB (b : Bool) (e : Int) : Int := if b then 0 else e
set_option maxHeartbeats 1000000 in
theorem pcheck_ok (l : List Mb) : FnC Tryd.prog 98 [msl l] [] (fun v L => v = int (codeB (fineSet l) 50) ∧ L = []) := by
  refine FnC.intro Tryd.func98 rfl Tryd.ntmps98 rfl fun Z w0 hG => ?_
  focus (
    (refine W.seq ?_)
    (refine W.region ?_)
    (refine Jx.assign rfl rfl ?_)
    (refine J.nil ?_)
    (refine N.seq ?_)
    (refine W.seq ?_)
    (refine W.seq ?_)
    (refine W.region ?_)
    (refine Jx.move rfl rfl ?_)
    (refine Jx.lenSl rfl rfl ?_)
    (refine Jx.eqlI rfl rfl rfl ?_)
    (refine Jx.move rfl rfl ?_)
    (refine' J.guardOr rfl rfl rfl rfl rfl rfl rfl rfl (fun _ => ?_) ?_; rotate_left)
    (refine J.gY rfl rfl rfl ?_)
    (refine Jx.move rfl rfl ?_)
    (refine J.gY rfl rfl rfl ?_)
    (refine Jx.lenSl rfl rfl ?_)
    (refine J.gY rfl rfl rfl ?_)
    (refine Jx.gtrI rfl rfl rfl ?_)
    (refine J.nil ?_)
    (refine N.joinedN rfl rfl rfl)
    (refine J.nil ?_)
    (refine N.seq ?_)
    (refine id ?_; rotate_left))
  refine W.cond rfl (fun hb => ?_) (fun hb => ?_)
  · have hf : fineSet l = false := by
      simp only [Bool.or_eq_true, decide_eq_true_eq] at hb
      simp only [fineSet, Bool.and_eq_false_iff, decide_eq_false_iff_not]
      omega
    rw [hf]
    focus (
    (refine W.seq ?_)
    (refine W.region ?_)
    (refine Jx.assign rfl rfl ?_)
    (refine J.nil ?_)
    (refine N.seq ?_)
    (refine W.ret ?_)
    (refine N.seqRet ?_)
    (refine id ?_; rotate_left))
    exact N.ret (rs := [.tmp 2]) rfl (.tmp rfl .nil) ⟨rfl, rfl⟩
  · simp only [Bool.or_eq_false_iff, decide_eq_false_iff_not] at hb
    have hf : fineSet l = fineM [] l := by
      simp only [fineSet]
      rw [decide_eq_true (by omega), decide_eq_true (by omega)]
      rfl
    focus (
    (refine W.skip ?_)
    (refine N.seq ?_)
    (refine W.seq ?_)
    (refine W.region ?_)
    (refine Jx.assign rfl rfl ?_)
    (refine J.nil ?_)
    (refine N.seq ?_)
    (refine W.seq ?_)
    (refine W.seq ?_)
    (refine W.region ?_)
    (refine Jx.move rfl rfl ?_)
    (refine Jx.lenSl rfl rfl ?_)
    (refine Jx.move rfl rfl ?_)
    (refine J.nil ?_)
    (refine N.seq ?_)
    (refine W.block ?_)
    (refine id ?_; rotate_left))
    refine W.loop (α := Nat) (fun i => [(16, int (i : Int)), (15, int l.length), (14, msl l), (3, str (lastN l i))]) (fun _ => []) (fun i => i ≤ l.length ∧ fineSet l = fineM (lastN l i) (l.drop i)) (fun i => l.length - i) 0 ⟨by omega, hf⟩ rfl ⟨ref0 rfl, ref0 rfl, ref0 rfl, ref0 rfl, trivial⟩ ?_
    rintro i ⟨hi, hs⟩
    by_cases h1 : i < l.length
    · rw [fineM_step l i h1] at hs
      have hns := lastN_succ l i
      generalize lastN l i = last at *
      focus (
    (refine W.seq ?_)
    (refine W.region ?_)
    (refine Jx.lssI rfl rfl rfl ?_)
    (refine J.nil ?_)
    (refine N.seq ?_)
    (refine W.seq ?_)
    (refine W.cT rfl ?_)
    (refine W.skip ?_)
    (refine N.seq ?_)
    (refine W.seq ?_)
    (refine W.block ?_)
    (refine W.seq ?_)
    (refine W.region ?_)
    (refine Jx.indexEl rfl rfl (by assumption) rfl rfl ?_)
    (refine Jx.loadPPall rfl rfl rfl ?_)
    (refine J.alloc (by simp only [List.map_cons, List.map_nil]; rfl) rfl rfl ?_; intro b')
    (refine J.storeAll rfl rfl rfl 0 rfl rfl rfl ?_)
    (refine J.nil ?_)
    (refine N.seq ?_)
    (refine W.seq ?_)
    (refine W.seq ?_)
    (refine W.region ?_)
    (refine Jx.fieldAddr rfl rfl ?_)
    (refine Jx.load rfl 0 rfl rfl rfl ?_)
    (refine Jx.lenS rfl rfl ?_)
    (refine Jx.gtrI rfl rfl rfl ?_)
    (refine Jx.move rfl rfl ?_)
    (refine' J.guardOr rfl rfl rfl rfl rfl rfl rfl rfl (fun _ => ?_) ?_; rotate_left)
    (refine J.gY rfl rfl rfl ?_)
    (refine Jx.fieldAddr rfl rfl ?_)
    (refine J.gY rfl rfl rfl ?_)
    (refine Jx.load rfl 0 rfl rfl rfl ?_)
    (refine J.gY rfl rfl rfl ?_)
    (refine Jx.move rfl rfl ?_)
    (refine J.gY rfl rfl rfl ?_)
    (refine Jx.leqS rfl rfl rfl ?_)
    (refine J.nil ?_)
    (refine N.joinedN rfl rfl rfl)
    (refine Jx.move rfl rfl ?_)
    (refine' J.guardOr rfl rfl rfl rfl rfl rfl rfl rfl (fun _ => ?_) ?_; rotate_left)
    (refine J.gY rfl rfl rfl ?_)
    (refine Jx.fieldAddr rfl rfl ?_)
    (refine J.gY rfl rfl rfl ?_)
    (refine Jx.load rfl 0 rfl rfl rfl ?_)
    (refine J.gY rfl rfl rfl ?_)
    (refine Jx.lssI rfl rfl rfl ?_)
    (refine J.nil ?_)
    (refine N.joinedN rfl rfl rfl)
    (refine Jx.move rfl rfl ?_)
    (refine' J.guardOr rfl rfl rfl rfl rfl rfl rfl rfl (fun _ => ?_) ?_; rotate_left)
    (refine J.gY rfl rfl rfl ?_)
    (refine Jx.fieldAddr rfl rfl ?_)
    (refine J.gY rfl rfl rfl ?_)
    (refine Jx.load rfl 0 rfl rfl rfl ?_)
    (refine J.gY rfl rfl rfl ?_)
    (refine Jx.gtrI rfl rfl rfl ?_)
    (refine J.nil ?_)
    (refine N.joinedN rfl rfl rfl)
    (refine J.nil ?_)
    (refine N.seq ?_)
    (refine id ?_; rotate_left))
      refine W.cond rfl (fun hb => ?_) (fun hb => ?_)
      · have hf : fineSet l = false := by
          rw [hs]
          cases hk : okM last (l.getD i mb0) with
          | false => rfl
          | true =>
            simp only [okM, leB, Bool.and_eq_true, decide_eq_true_eq, Bool.not_eq_true', Bool.or_eq_false_iff, decide_eq_false_iff_not] at hk
            obtain ⟨⟨⟨k1, k2, k3⟩, k4⟩, k5⟩ := hk
            simp only [Bool.or_eq_true, decide_eq_true_eq] at hb
            rcases hb with ((h | h | h) | h) | h
            · omega
            · rw [k2] at h; cases h
            · exact absurd h k3
            · omega
            · omega
        rw [hf]
        focus (
    (refine W.seq ?_)
    (refine W.region ?_)
    (refine Jx.assign rfl rfl ?_)
    (refine J.nil ?_)
    (refine N.seq ?_)
    (refine W.ret ?_)
    (refine N.seqRet ?_)
    (refine N.blockRet ?_)
    (refine N.seqRet ?_)
    (refine N.seqRet ?_)
    (refine N.blockRet ?_)
    (refine N.seqRet ?_)
    (refine id ?_; rotate_left))
        exact N.retD (rs := [.tmp 2]) (L1 := []) rfl (.tmp rfl .nil) (List.nil_sublist _) ⟨rfl, rfl⟩
      · focus (
    (refine W.skip ?_)
    (refine N.seq ?_)
    (refine W.region ?_)
    (refine Jx.fieldAddr rfl rfl ?_)
    (refine Jx.load rfl 0 rfl rfl rfl ?_)
    (refine Jx.assign rfl rfl ?_)
    (refine J.nil ?_)
    (refine N.seq ?_)
    (refine W.region ?_)
    (refine Jx.add64 rfl rfl (by omega) rfl ?_)
    (refine Jx.move rfl rfl ?_)
    (refine J.nil ?_)
    (refine id ?_; rotate_left))
        refine N.drop (List.sublist_cons_self _ _) ?_
        refine N.round (i + 1) ⟨h1, ?_⟩ (by omega) rfl ⟨ref0 rfl, ref0 rfl, ref0 rfl, ⟨_, rfl, Sub.of_eq (by rw [hns])⟩, trivial⟩
        have : okM last (l.getD i mb0) = true := by
          simp only [Bool.or_eq_false_iff, decide_eq_false_iff_not] at hb
          simp only [okM, leB, Bool.and_eq_true, decide_eq_true_eq, Bool.not_eq_true', Bool.or_eq_false_iff, decide_eq_false_iff_not]
          exact ⟨⟨⟨by omega, hb.1.1.2⟩, by omega⟩, by omega⟩
        rw [hs, this, hns, Bool.true_and]
    · have hil : i = l.length := by omega
      subst hil
      rw [List.drop_length] at hs
      rw [hs]
      focus (
    (refine W.seq ?_)
    (refine W.region ?_)
    (refine Jx.lssI rfl rfl rfl ?_)
    (refine J.nil ?_)
    (refine N.seq ?_)
    (refine W.seq ?_)
    (refine W.cF rfl ?_)
    (refine W.exit ?_)
    (refine N.seq ?_)
    (refine W.seq ?_)
    (refine W.region ?_)
    (refine Jx.assign rfl rfl ?_)
    (refine J.nil ?_)
    (refine N.seq ?_)
    (refine W.ret ?_)
    (refine id ?_; rotate_left))
      exact N.ret (rs := [.tmp 2]) rfl (.tmp rfl .nil) ⟨rfl, rfl⟩
end Go.Proofs.YtlfdhkahiaammaaDoor
namespace Go.Proofs.YtlfdhkahiaammaaDoor
open Go Go.Sse
set_option linter.unusedVariables false
set_option linter.unusedSimpArgs false
set_option maxRecDepth 10000
def flT {α : Type} (f : α → List UInt8) (l : List α) : List UInt8 := (l.map f).flatten
theorem flT_nil {α : Type} (f : α → List UInt8) : flT f [] = [] := rfl
theorem flT_cons {α : Type} (f : α → List UInt8) (x : α) (l : List α) : flT f (x :: l) = f x ++ flT f l := rfl
theorem flT_app {α : Type} (f : α → List UInt8) (l m : List α) : flT f (l ++ m) = flT f l ++ flT f m := by simp [flT]
theorem flT_take {α : Type} (f : α → List UInt8) (d : α) (l : List α) (i : Nat) (h : i < l.length) : flT f (l.take i) ++ f (l.getD i d) = flT f (l.take (i + 1)) := by
  rw [List.take_add_one, List.getElem?_eq_getElem h, List.getD_eq_getElem?_getD, List.getElem?_eq_getElem h]
  simp only [flT, Option.toList_some, Option.getD_some, List.map_append, List.map_cons, List.map_nil, List.flatten_append, List.flatten_cons, List.flatten_nil, List.append_nil]
theorem flT_drop {α : Type} (f : α → List UInt8) (d : α) (l : List α) (i : Nat) (h : i < l.length) : flT f (l.drop i) = f (l.getD i d) ++ flT f (l.drop (i + 1)) := by
  rw [List.drop_eq_getElem_cons h, List.getD_eq_getElem?_getD, List.getElem?_eq_getElem h]; rfl
theorem flT_len {α : Type} {f : α → List UInt8} {k : Nat} : ∀ {l : List α}, (∀ x ∈ l, (f x).length ≤ k) → (flT f l).length ≤ k * l.length
  | [], _ => by simp [flT]
  | x :: l, h => by
    rw [flT_cons, List.length_append, List.length_cons, Nat.mul_add]
    have h1 := h x (List.mem_cons_self ..)
    have h2 := flT_len (l := l) fun y hy => h y (List.mem_cons_of_mem _ hy)
    omega
def mbB (m : Mb) : List UInt8 := textB m.name ++ numB m.power.toNat
def encSet (l : List Mb) : List UInt8 := numB l.length ++ flT mbB l
theorem mbB_len {m : Mb} (h1 : m.name.length ≤ 6) (h2 : m.power ≤ 1000) : (textB m.name).length ≤ 15 ∧ (numB m.power.toNat).length ≤ 9 := by
  have a := (numB_len (n := m.name.length) (by omega)).2
  have b := (numB_len (n := m.power.toNat) (by omega)).2
  exact ⟨by rw [textB, List.length_append]; omega, b⟩
theorem encSet_len {l : List Mb} (h : fineSet l = true) : (encSet l).length ≤ 177 := by
  obtain ⟨h1, h2, h3⟩ := fineSet_spec h
  have a := (numB_len (n := l.length) (by omega)).2
  have b := flT_len (f := mbB) (k := 24) (l := l) fun m hm => by
    obtain ⟨p, _, q⟩ := h3 m hm
    have := mbB_len p q
    rw [mbB, List.length_append]; omega
  rw [encSet, List.length_append]; omega
theorem numR_nat (n : Nat) : numR (n : Int) = (numB n, 0) := by simp only [numR]; rw [if_neg (by omega), Int.toNat_natCast]
theorem numR_pos {n : Int} (h : 0 ≤ n) : numR n = (numB n.toNat, 0) := by simp only [numR]; rw [if_neg (by omega)]
def encO {α : Type} (fine : α → Bool) (enc : α → List UInt8) (x : α) : List UInt8 := if fine x then enc x else []
set_option maxHeartbeats 1000000 in
theorem pencode_ok (l : List Mb) : FnC Tryd.prog 77 [msl l] [] (fun v L => v = .tup [str (encO fineSet encSet l), int (codeB (fineSet l) 50)] ∧ L = []) := by
  have c0 := pcheck_ok l
  refine FnC.intro Tryd.func77 rfl Tryd.ntmps77 rfl fun Z w0 hG => ?_
  unfold encO
  cases hf : fineSet l with
  | false =>
    rw [hf] at c0
    focus (
    (refine W.seq ?_)
    (refine W.region ?_)
    (refine Jx.assign rfl rfl ?_)
    (refine Jx.assign rfl rfl ?_)
    (refine J.nil ?_)
    (refine N.seq ?_)
    (refine W.seq ?_)
    (refine W.seq ?_)
    (refine W.region ?_)
    (refine Jx.move rfl rfl ?_)
    (refine J.call (c0) rfl (evs_args rfl) rfl ?_; rintro _ _ ⟨rfl, rfl⟩; simp only [List.cons_append, List.nil_append, List.append_nil])
    (refine Jx.assign rfl rfl ?_)
    (refine J.nil ?_)
    (refine N.seq ?_)
    (refine W.seq ?_)
    (refine W.region ?_)
    (refine Jx.move rfl rfl ?_)
    (refine Jx.neqI rfl rfl rfl ?_)
    (refine J.nil ?_)
    (refine N.seq ?_)
    (refine W.cT rfl ?_)
    (refine W.seq ?_)
    (refine W.region ?_)
    (refine Jx.move rfl rfl ?_)
    (refine Jx.assign rfl rfl ?_)
    (refine Jx.assign rfl rfl ?_)
    (refine J.nil ?_)
    (refine N.seq ?_)
    (refine W.ret ?_)
    (refine N.seqRet ?_)
    (refine id ?_; rotate_left))
    exact N.ret (rs := [.tmp 2, .tmp 3]) rfl (.tmp rfl (.tmp rfl .nil)) ⟨rfl, rfl⟩
  | true =>
    rw [hf] at c0
    obtain ⟨g1, g2, g3⟩ := fineSet_spec hf
    have c1 := Num_ok (l.length : Int) (by omega)
    rw [numR_nat] at c1
    have hnl := (numB_len (n := l.length) (by omega)).2
    focus (
    (refine W.seq ?_)
    (refine W.region ?_)
    (refine Jx.assign rfl rfl ?_)
    (refine Jx.assign rfl rfl ?_)
    (refine J.nil ?_)
    (refine N.seq ?_)
    (refine W.seq ?_)
    (refine W.seq ?_)
    (refine W.region ?_)
    (refine Jx.move rfl rfl ?_)
    (refine J.call (c0) rfl (evs_args rfl) rfl ?_; rintro _ _ ⟨rfl, rfl⟩; simp only [List.cons_append, List.nil_append, List.append_nil])
    (refine Jx.assign rfl rfl ?_)
    (refine J.nil ?_)
    (refine N.seq ?_)
    (refine W.seq ?_)
    (refine W.region ?_)
    (refine Jx.move rfl rfl ?_)
    (refine Jx.neqI rfl rfl rfl ?_)
    (refine J.nil ?_)
    (refine N.seq ?_)
    (refine W.cF rfl ?_)
    (refine W.skip ?_)
    (refine N.seq ?_)
    (refine W.seq ?_)
    (refine W.region ?_)
    (refine Jx.move rfl rfl ?_)
    (refine Jx.lenSl rfl rfl ?_)
    (refine J.call (c1) rfl (evs_args rfl) rfl ?_; rintro _ _ ⟨rfl, rfl⟩; simp only [List.cons_append, List.nil_append, List.append_nil])
    (refine Jx.move rfl rfl ?_)
    (refine Jx.extract rfl rfl rfl ?_)
    (refine Jx.extract rfl rfl rfl ?_)
    (refine Jx.assign rfl rfl ?_)
    (refine Jx.assign rfl rfl ?_)
    (refine J.nil ?_)
    (refine N.seq ?_)
    (refine W.seq ?_)
    (refine W.seq ?_)
    (refine W.region ?_)
    (refine Jx.move rfl rfl ?_)
    (refine Jx.lenSl rfl rfl ?_)
    (refine Jx.move rfl rfl ?_)
    (refine J.nil ?_)
    (refine N.seq ?_)
    (refine W.block ?_)
    (refine id ?_; rotate_left))
    refine W.loop (α := Nat) (fun i => [(24, int (i : Int)), (23, int l.length), (22, msl l), (5, str (numB l.length ++ flT mbB (l.take i)))]) (fun _ => []) (fun i => i ≤ l.length) (fun i => l.length - i) 0 (by omega) rfl ⟨ref0 rfl, ref0 rfl, ref0 rfl, ⟨_, rfl, Sub.of_eq (by simp [flT])⟩, trivial⟩ ?_
    intro i hi
    have hal : (numB l.length ++ flT mbB (l.take i)).length ≤ 9 + 24 * 7 := by
      have := flT_len (f := mbB) (k := 24) (l := l.take i) fun m hm => by
        obtain ⟨p, _, q⟩ := g3 m (List.mem_of_mem_take hm)
        have := mbB_len p q
        rw [mbB, List.length_append]; omega
      rw [List.length_append]
      have h2 : (l.take i).length ≤ 7 := by rw [List.length_take]; omega
      omega
    by_cases h1 : i < l.length
    · obtain ⟨p, p2, q⟩ := g3 _ (getD_mem (d := mb0) h1)
      have hml := mbB_len p q
      have c2 := Num_ok (l.getD i mb0).power (by omega)
      rw [numR_pos (by omega)] at c2
      have c3 := text_ok (l.getD i mb0).name (by omega)
      have hst : numB l.length ++ flT mbB (l.take i) ++ (textB (l.getD i mb0).name ++ numB (l.getD i mb0).power.toNat) = numB l.length ++ flT mbB (l.take (i + 1)) := by rw [← flT_take mbB mb0 l i h1]; simp only [mbB, List.append_assoc]
      generalize numB l.length ++ flT mbB (l.take i) = acc at *
      generalize textB (l.getD i mb0).name = tx at *
      generalize numB (l.getD i mb0).power.toNat = nb at *
      focus (
    (refine W.seq ?_)
    (refine W.region ?_)
    (refine Jx.lssI rfl rfl rfl ?_)
    (refine J.nil ?_)
    (refine N.seq ?_)
    (refine W.seq ?_)
    (refine W.cT rfl ?_)
    (refine W.skip ?_)
    (refine N.seq ?_)
    (refine W.seq ?_)
    (refine W.block ?_)
    (refine W.seq ?_)
    (refine W.region ?_)
    (refine Jx.indexEl rfl rfl (by assumption) rfl rfl ?_)
    (refine Jx.loadPPall rfl rfl rfl ?_)
    (refine J.alloc (by simp only [List.map_cons, List.map_nil]; rfl) rfl rfl ?_; intro b')
    (refine J.storeAll rfl rfl rfl 0 rfl rfl rfl ?_)
    (refine J.nil ?_)
    (refine N.seq ?_)
    (refine W.seq ?_)
    (refine W.region ?_)
    (refine Jx.fieldAddr rfl rfl ?_)
    (refine Jx.load rfl 0 rfl rfl rfl ?_)
    (refine J.call (c2) rfl (evs_args rfl) rfl ?_; rintro _ _ ⟨rfl, rfl⟩; simp only [List.cons_append, List.nil_append, List.append_nil])
    (refine Jx.move rfl rfl ?_)
    (refine Jx.extract rfl rfl rfl ?_)
    (refine Jx.extract rfl rfl rfl ?_)
    (refine Jx.assign rfl rfl ?_)
    (refine Jx.assign rfl rfl ?_)
    (refine J.nil ?_)
    (refine N.seq ?_)
    (refine W.region ?_)
    (refine Jx.move rfl rfl ?_)
    (refine Jx.fieldAddr rfl rfl ?_)
    (refine Jx.load rfl 0 rfl rfl rfl ?_)
    (refine J.call (c3) rfl (evs_args rfl) rfl ?_; rintro _ _ ⟨rfl, rfl⟩; simp only [List.cons_append, List.nil_append, List.append_nil])
    (refine Jx.move rfl rfl ?_)
    (refine Jx.cat rfl rfl (by first | omega | (rw [List.length_append]; omega)) rfl ?_)
    (refine Jx.cat rfl rfl (by first | omega | (rw [List.length_append]; omega)) rfl ?_)
    (refine Jx.assign rfl rfl ?_)
    (refine J.nil ?_)
    (refine N.seq ?_)
    (refine W.region ?_)
    (refine Jx.add64 rfl rfl (by omega) rfl ?_)
    (refine Jx.move rfl rfl ?_)
    (refine J.nil ?_)
    (refine id ?_; rotate_left))
      refine N.drop (List.sublist_cons_self _ _) ?_
      exact N.round (i + 1) h1 (by omega) rfl ⟨ref0 rfl, ref0 rfl, ref0 rfl, ⟨_, rfl, Sub.of_eq (by rw [hst])⟩, trivial⟩
    · have hil : i = l.length := by omega
      subst hil
      rw [List.take_length]
      focus (
    (refine W.seq ?_)
    (refine W.region ?_)
    (refine Jx.lssI rfl rfl rfl ?_)
    (refine J.nil ?_)
    (refine N.seq ?_)
    (refine W.seq ?_)
    (refine W.cF rfl ?_)
    (refine W.exit ?_)
    (refine N.seq ?_)
    (refine W.seq ?_)
    (refine W.region ?_)
    (refine Jx.move rfl rfl ?_)
    (refine Jx.assign rfl rfl ?_)
    (refine Jx.assign rfl rfl ?_)
    (refine J.nil ?_)
    (refine N.seq ?_)
    (refine W.ret ?_)
    (refine id ?_; rotate_left))
      exact N.ret (rs := [.tmp 2, .tmp 3]) rfl (.tmp rfl (.tmp rfl .nil)) ⟨rfl, rfl⟩
end Go.Proofs.YtlfdhkahiaammaaDoor
namespace Go.Proofs.YtlfdhkahiaammaaDoor
open Go Go.Sse
set_option linter.unusedVariables false
set_option linter.unusedSimpArgs false
set_option maxRecDepth 10000
def DecR {α : Type} (fine : α → Bool) (enc : α → List UInt8) (s : List UInt8) : Option α → Prop
  | some x => fine x = true ∧ enc x = s
  | none => ∀ x, fine x = true → enc x ≠ s
abbrev codeO {α : Type} (o : Option α) (e : Int) : Int := if o.isSome then 0 else e
structure RdM (s : List UInt8) (many : Nat) (acc : List Mb) (st : PSt) : Prop where
  sound : ∀ rest, st = some rest → s = numB many ++ (flT mbB acc ++ rest)
  whole : ∀ l, fineSet l = true → encSet l = s → many = l.length ∧ acc.length ≤ l.length ∧ acc = l.take acc.length ∧ st = some (flT mbB (l.drop acc.length))
theorem RdM.start {s : List UInt8} {many : Nat} {st : PSt} (h : numP (some s) = (many, st)) : RdM s many [] st := by
  refine ⟨fun rest hr => ?_, fun l h1 h2 => ?_⟩
  · subst hr
    have := (numP_good h).1
    simpa [flT] using this
  · have hl := (fineSet_spec h1).2.1
    rw [← h2, encSet, numP_back _ (by omega)] at h
    simp only [Prod.mk.injEq] at h
    exact ⟨h.1.symm, Nat.zero_le _, rfl, h.2.symm⟩
theorem RdM.step {s : List UInt8} {many : Nat} {acc : List Mb} {st st1 st2 : PSt} {t : List UInt8} {n : Nat} (h : RdM s many acc st) (hi : acc.length < many) (h1 : textP 6 st = (t, st1)) (h2 : numP st1 = (n, st2)) : RdM s many (acc ++ [⟨t, (n : Int)⟩]) st2 := by
  refine ⟨fun rest hr => ?_, fun l g1 g2 => ?_⟩
  · subst hr
    obtain ⟨e1, _⟩ := numP_good h2
    subst e1
    obtain ⟨e2, _⟩ := textP_good h1
    rw [h.sound _ e2, flT_app, flT_cons, flT_nil, mbB]
    simp only [List.append_assoc, List.append_nil, List.nil_append, Int.toNat_natCast]
  · obtain ⟨k1, k2, k3, k4⟩ := h.whole l g1 g2
    obtain ⟨f1, f2, f3⟩ := fineSet_spec g1
    have hlt : acc.length < l.length := by omega
    obtain ⟨p1, p2, p3⟩ := f3 _ (getD_mem (d := mb0) hlt)
    rw [k4, flT_drop mbB mb0 l _ hlt, mbB, List.append_assoc, textP_back _ _ (by omega) (by omega)] at h1
    simp only [Prod.mk.injEq] at h1
    obtain ⟨rfl, rfl⟩ := h1
    rw [numP_back _ (by omega)] at h2
    simp only [Prod.mk.injEq] at h2
    obtain ⟨rfl, rfl⟩ := h2
    have hx : (⟨(l.getD acc.length mb0).name, (((l.getD acc.length mb0).power.toNat : Nat) : Int)⟩ : Mb) = l.getD acc.length mb0 := by
      rw [Int.toNat_of_nonneg (by omega)]
    have ht : l.take (acc.length + 1) = l.take acc.length ++ [l.getD acc.length mb0] := by
      rw [List.take_add_one, List.getElem?_eq_getElem hlt, List.getD_eq_getElem?_getD, List.getElem?_eq_getElem hlt]; rfl
    rw [hx]
    simp only [List.length_append, List.length_cons, List.length_nil, Nat.zero_add]
    exact ⟨k1, hlt, by rw [ht, ← k3], by trivial⟩
theorem RdM.yes {s : List UInt8} {many : Nat} {acc : List Mb} {st : PSt} (h : RdM s many acc st) (h1 : st = some []) (h2 : acc.length = many) (h3 : fineSet acc = true) : DecR fineSet encSet s (some acc) :=
  ⟨h3, by rw [h.sound _ h1, List.append_nil, encSet, h2]⟩
theorem RdM.no {s : List UInt8} {many : Nat} {acc : List Mb} {st : PSt} (h : RdM s many acc st) (hstop : acc.length < many → acc.length ≤ 7 → st = none) (hbad : ¬ (st = some [] ∧ acc.length = many ∧ fineSet acc = true)) : DecR fineSet encSet s none := by
  intro l g1 g2
  obtain ⟨k1, k2, k3, k4⟩ := h.whole l g1 g2
  obtain ⟨f1, f2, f3⟩ := fineSet_spec g1
  have he : ¬ acc.length < many := fun hlt => by rw [hstop hlt (by omega)] at k4; cases k4
  have ha : acc.length = l.length := by omega
  rw [ha, List.take_length] at k3
  subst k3
  rw [List.drop_length] at k4
  exact hbad ⟨k4, by omega, g1⟩
set_option maxHeartbeats 2000000 in
theorem pdecode_ok (s : List UInt8) (hs : s.length ≤ 1099511627776) : FnC Tryd.prog 107 [str s] [] (fun v L => (∃ o, DecR fineSet encSet s o ∧ v = .tup [msl (o.getD []), int (codeO o 3)]) ∧ L = []) := by
  have c0 := read_ok s
  have c1 := fun b => rd_Num b s 0 0 (Nat.zero_le _) hs
  refine FnC.intro Tryd.func107 rfl Tryd.ntmps107 rfl fun Z w0 hG => ?_
  focus (
    (refine W.seq ?_)
    (refine W.region ?_)
    (refine Jx.assign rfl rfl ?_)
    (refine Jx.assign rfl rfl ?_)
    (refine J.nil ?_)
    (refine N.seq ?_)
    (refine W.seq ?_)
    (refine W.region ?_)
    (refine Jx.move rfl rfl ?_)
    (refine J.call c0 rfl (evs_args rfl) rfl ?_; rintro _ _ ⟨b, rfl, rfl⟩; simp only [List.cons_append, List.nil_append, List.append_nil])
    (refine Jx.assign rfl rfl ?_)
    (refine J.nil ?_)
    (refine N.seq ?_)
    (refine W.seq ?_)
    (refine W.region ?_)
    (refine Jx.assign rfl rfl ?_)
    (refine J.nil ?_)
    (refine N.seq ?_)
    (refine W.seq ?_)
    (refine W.region ?_)
    (refine Jx.move rfl rfl ?_)
    (refine J.call ((c1 _)) rfl (evs_args rfl) rfl ?_; rintro _ _ ⟨many, a1, c1', rfl, rfl, ha1, hm, hn⟩; simp only [List.cons_append, List.nil_append, List.append_nil])
    (refine Jx.assign rfl rfl ?_)
    (refine J.nil ?_)
    (refine N.seq ?_)
    (refine W.seq ?_)
    (refine W.seq ?_)
    (refine W.region ?_)
    (refine Jx.assign rfl rfl ?_)
    (refine J.nil ?_)
    (refine N.seq ?_)
    (refine W.block ?_)
    (refine id ?_; rotate_left))
  have hst : RdM s many [] (lf s a1 c1') := RdM.start hn
  refine W.rowNil 133 2 (elOf mbC mb0 []) ?_
  refine W.perm (List.Perm.swap _ _ _) ?_
  refine W.loop (α := Value × List Mb × Nat × Int) (fun x => [(7, int (x.2.1.length : Int)), (6, int (many : Int)), (5, .val x.1), (4, ptr b)]) (fun x => [rdO b ⟨s, x.2.2.1, x.2.2.2⟩, .row x.1 133 2 x.2.1.length (elOf mbC mb0 x.2.1)])
    (fun x => x.2.2.1 ≤ s.length ∧ x.2.1.length ≤ 8 ∧ RdM s many x.2.1 (lf s x.2.2.1 x.2.2.2)) (fun x => 8 - x.2.1.length) (.slice none 0 0, [], a1, c1') ⟨ha1, by simp, hst⟩ rfl ⟨ref0 rfl, ref0 rfl, ref0 rfl, ref0 rfl, trivial⟩ ?_
  rintro ⟨u, acc, a, c⟩ ⟨ha, h8, hr⟩
  simp only at ha h8 hr ⊢
  have cc := code_ok b ⟨s, a, c⟩
  simp only at cc
  focus (
    (refine W.seq ?_)
    (refine W.seq ?_)
    (refine W.region ?_)
    (refine Jx.move rfl rfl ?_)
    (refine Jx.move rfl rfl ?_)
    (refine Jx.lssI rfl rfl rfl ?_)
    (refine Jx.move rfl rfl ?_)
    (refine' J.guardAnd rfl rfl rfl rfl rfl rfl rfl rfl (fun _ => ?_) ?_; rotate_left)
    (refine J.gY rfl rfl rfl ?_)
    (refine Jx.move rfl rfl ?_)
    (refine J.gY rfl rfl rfl ?_)
    (refine Jx.leqI rfl rfl rfl ?_)
    (refine J.nil ?_)
    (refine N.joinedN rfl rfl rfl)
    (refine Jx.move rfl rfl ?_)
    (refine' J.guardAnd rfl rfl rfl rfl rfl rfl rfl rfl (fun _ => ?_) ?_; rotate_left)
    (refine J.gY rfl rfl rfl ?_)
    (refine Jx.move rfl rfl ?_)
    (refine J.gY rfl rfl rfl ?_)
    (refine J.call (cc) rfl (evs_args rfl) rfl ?_; rintro _ _ ⟨rfl, rfl⟩; simp only [List.cons_append, List.nil_append, List.append_nil])
    (refine J.gY rfl rfl rfl ?_)
    (refine Jx.eqlI rfl rfl rfl ?_)
    (refine J.nil ?_)
    (refine N.joinedN rfl rfl rfl)
    (refine J.nil ?_)
    (refine N.seq ?_)
    (refine id ?_; rotate_left))
  refine W.cond rfl (fun hb => ?_) (fun hb => ?_)
  · simp only [Bool.and_eq_true, decide_eq_true_eq] at hb
    have c2 := rd_Text b s a c 6 ha hs
    have hmx : ∀ x : Mb, acc.length + [x].length ≤ maxLen ∧ (acc.length + [x].length) * 24 ≤ 140737488355328 := fun x => by simp only [maxLen, List.length_cons, List.length_nil]; omega
    focus (
    (refine W.skip ?_)
    (refine N.seq ?_)
    (refine W.seq ?_)
    (refine W.block ?_)
    (refine W.region ?_)
    (refine Jx.move rfl rfl ?_)
    (refine Jx.move rfl rfl ?_)
    (refine J.call (c2) rfl (evs_args rfl) rfl ?_; rintro _ _ ⟨t, a2, c2', rfl, rfl, ha2, hn2⟩; simp only [List.cons_append, List.nil_append, List.append_nil])
    (refine Jx.move rfl rfl ?_)
    (refine J.call (rd_Num b s a2 c2' ha2 hs) rfl (evs_args rfl) rfl ?_; rintro _ _ ⟨n, a3, c3', rfl, rfl, ha3, hn3l, hn3⟩; simp only [List.cons_append, List.nil_append, List.append_nil])
    (refine Jx.buildB rfl rfl rfl rfl rfl ?_)
    (refine J.qs (Qs.buildOne mbC mb0 ⟨t, (n : Int)⟩ rfl rfl rfl rfl rfl rfl rfl) rfl ?_)
    (refine J.appendAt (l := acc) (l2 := [⟨t, (n : Int)⟩]) 1 rfl rfl (SrcOK.sl rfl) rfl rfl (hmx _) rfl ?_; intro v2 hv2)
    (refine Jx.assign rfl rfl ?_)
    (refine J.nil ?_)
    (refine N.seq ?_)
    (refine W.region ?_)
    (refine Jx.move rfl rfl ?_)
    (refine Jx.add64 rfl rfl (by omega) rfl ?_)
    (refine Jx.assign rfl rfl ?_)
    (refine J.nil ?_)
    (refine id ?_; rotate_left))
    exact N.round (v2, acc ++ [⟨t, (n : Int)⟩], a3, c3') ⟨ha3, by simp only [List.length_append, List.length_cons, List.length_nil]; omega, hr.step (by omega) hn2 hn3⟩ (by simp only [List.length_append, List.length_cons, List.length_nil]; omega) rfl ⟨⟨_, rfl, Sub.of_eq (by simp)⟩, ref0 rfl, ref0 rfl, ref0 rfl, trivial⟩
  · refine W.freezeAt 1 5 rfl rfl (by simp only [maxLen]; omega) ?_
    have hstop : acc.length < many → acc.length ≤ 7 → lf s a c = none := fun h1 h2 => by
      rw [decide_eq_true (by omega : ((acc.length : Nat) : Int) < (many : Int)), decide_eq_true (by omega : ((acc.length : Nat) : Int) ≤ 7), Bool.true_and, Bool.true_and] at hb
      exact lf_no (by simpa using hb)
    have ce := rd_End b s a c ha hs
    have ck := pcheck_ok acc
    focus (
    (refine W.exit ?_)
    (refine N.seq ?_)
    (refine W.seq ?_)
    (refine W.seq ?_)
    (refine W.region ?_)
    (refine Jx.move rfl rfl ?_)
    (refine J.call (ce) rfl (evs_args rfl) rfl ?_; rintro _ _ ⟨e, a4, c4, rfl, rfl, he⟩; simp only [List.cons_append, List.nil_append, List.append_nil])
    (refine Jx.neqI rfl rfl rfl ?_)
    (refine Jx.move rfl rfl ?_)
    (refine' J.guardOr rfl rfl rfl rfl rfl rfl rfl rfl (fun _ => ?_) ?_; rotate_left)
    (refine J.gY rfl rfl rfl ?_)
    (refine Jx.move rfl rfl ?_)
    (refine J.gY rfl rfl rfl ?_)
    (refine Jx.lenSl rfl rfl ?_)
    (refine J.gY rfl rfl rfl ?_)
    (refine Jx.move rfl rfl ?_)
    (refine J.gY rfl rfl rfl ?_)
    (refine Jx.neqI rfl rfl rfl ?_)
    (refine J.nil ?_)
    (refine N.joinedN rfl rfl rfl)
    (refine Jx.move rfl rfl ?_)
    (refine' J.guardOr rfl rfl rfl rfl rfl rfl rfl rfl (fun _ => ?_) ?_; rotate_left)
    (refine J.gY rfl rfl rfl ?_)
    (refine Jx.move rfl rfl ?_)
    (refine J.gY rfl rfl rfl ?_)
    (refine J.call (ck) rfl (evs_args rfl) rfl ?_; rintro _ _ ⟨rfl, rfl⟩; simp only [List.cons_append, List.nil_append, List.append_nil])
    (refine J.gY rfl rfl rfl ?_)
    (refine Jx.neqI rfl rfl rfl ?_)
    (refine J.nil ?_)
    (refine N.joinedN rfl rfl rfl)
    (refine J.nil ?_)
    (refine N.seq ?_)
    (refine id ?_; rotate_left))
    refine W.cond rfl (fun hb2 => ?_) (fun hb2 => ?_)
    · focus (
    (refine W.seq ?_)
    (refine W.region ?_)
    (refine Jx.assign rfl rfl ?_)
    (refine Jx.assign rfl rfl ?_)
    (refine J.nil ?_)
    (refine N.seq ?_)
    (refine W.ret ?_)
    (refine N.seqRet ?_)
    (refine id ?_; rotate_left))
      refine N.told (G := [(2, msl []), (3, int 3)]) ⟨⟨_, rfl, Sub.nil 2 _⟩, ref0 rfl, trivial⟩ ?_
      refine N.retD (rs := [.tmp 2, .tmp 3]) (L1 := []) rfl (.tmp rfl (.tmp rfl .nil)) (List.nil_sublist _) ⟨⟨none, hr.no hstop ?_, rfl⟩, rfl⟩
      rintro ⟨p1, p2, p3⟩
      rw [he.2 p1, p2, p3] at hb2
      simp at hb2
    · focus (
    (refine W.skip ?_)
    (refine N.seq ?_)
    (refine W.seq ?_)
    (refine W.region ?_)
    (refine Jx.move rfl rfl ?_)
    (refine Jx.assign rfl rfl ?_)
    (refine Jx.assign rfl rfl ?_)
    (refine J.nil ?_)
    (refine N.seq ?_)
    (refine W.ret ?_)
    (refine id ?_; rotate_left))
      refine N.retD (rs := [.tmp 2, .tmp 3]) (L1 := []) rfl (.tmp rfl (.tmp rfl .nil)) (List.nil_sublist _) ⟨⟨some acc, ?_, rfl⟩, rfl⟩
      simp only [Bool.or_eq_false_iff, decide_eq_false_iff_not] at hb2
      refine hr.yes (he.1 (by omega)) (by omega) ?_
      cases hf : fineSet acc with
      | true => rfl
      | false => rw [hf] at hb2; simp at hb2
theorem mb_eq (a b : Mb) : (decide (a = b) = true ↔ [sv a.name, Value.int .i64 a.power] = [sv b.name, Value.int .i64 b.power]) := by
  cases a; cases b; simp
set_option maxHeartbeats 1000000 in
theorem sameM_ok (l m : List Mb) (hb : l.length ≤ 1048576) : FnC Tryd.prog 72 [msl l, msl m] [] (fun v L => v = bool (decide (l = m)) ∧ L = []) := by
  refine FnC.intro Tryd.func72 rfl Tryd.ntmps72 rfl fun Z w0 hG => ?_
  by_cases hl : l.length = m.length
  · focus (
    (refine W.seq ?_)
    (refine W.region ?_)
    (refine Jx.assign rfl rfl ?_)
    (refine J.nil ?_)
    (refine N.seq ?_)
    (refine W.seq ?_)
    (refine W.region ?_)
    (refine Jx.move rfl rfl ?_)
    (refine Jx.lenSl rfl rfl ?_)
    (refine Jx.move rfl rfl ?_)
    (refine Jx.lenSl rfl rfl ?_)
    (refine Jx.eqlI rfl rfl rfl ?_)
    (refine Jx.assign rfl rfl ?_)
    (refine J.nil ?_)
    (refine N.seq ?_)
    (refine W.seq ?_)
    (refine W.seq ?_)
    (refine W.region ?_)
    (refine Jx.assign rfl rfl ?_)
    (refine J.nil ?_)
    (refine N.seq ?_)
    (refine W.block ?_)
    (refine id ?_; rotate_left))
    refine W.loop (α := Nat × Bool) (fun x => [(6, int (x.1 : Int)), (5, bool x.2), (0, msl l), (1, msl m)]) (fun _ => []) (fun x => x.1 ≤ l.length ∧ (x.2 = true → l.take x.1 = m.take x.1) ∧ (x.2 = false → l ≠ m)) (fun x => l.length - x.1) (0, true) ⟨by omega, by simp, by simp⟩ rfl ⟨ref0 rfl, ⟨_, rfl, Sub.of_eq (by simp [hl])⟩, ref0 rfl, ref0 rfl, trivial⟩ ?_
    rintro ⟨i, q⟩ ⟨hi, h1, h2⟩
    simp only at hi h1 h2
    cases q with
    | false =>
      focus (
    (refine W.seq ?_)
    (refine W.seq ?_)
    (refine W.region ?_)
    (refine Jx.move rfl rfl ?_)
    (refine Jx.move rfl rfl ?_)
    (refine J.gN rfl rfl rfl rfl ?_)
    (refine J.gN rfl rfl rfl rfl ?_)
    (refine J.gN rfl rfl rfl rfl ?_)
    (refine J.gN rfl rfl rfl rfl ?_)
    (refine Jx.pF rfl rfl rfl ?_)
    (refine J.nil ?_)
    (refine N.seq ?_)
    (refine W.cF rfl ?_)
    (refine W.exit ?_)
    (refine N.seq ?_)
    (refine W.seq ?_)
    (refine W.region ?_)
    (refine Jx.move rfl rfl ?_)
    (refine Jx.assign rfl rfl ?_)
    (refine J.nil ?_)
    (refine N.seq ?_)
    (refine W.ret ?_)
    (refine id ?_; rotate_left))
      exact N.ret (rs := [.tmp 4]) rfl (.tmp rfl .nil) ⟨by rw [decide_eq_false (h2 rfl)]; rfl, rfl⟩
    | true =>
      by_cases h3 : i < l.length
      · have h4 : i < m.length := by omega
        have e1 : l.take (i + 1) = l.take i ++ [l.getD i mb0] := by rw [List.take_add_one, List.getElem?_eq_getElem h3, List.getD_eq_getElem?_getD, List.getElem?_eq_getElem h3]; rfl
        have e2 : m.take (i + 1) = m.take i ++ [m.getD i mb0] := by rw [List.take_add_one, List.getElem?_eq_getElem h4, List.getD_eq_getElem?_getD, List.getElem?_eq_getElem h4]; rfl
        focus (
    (refine W.seq ?_)
    (refine W.seq ?_)
    (refine W.region ?_)
    (refine Jx.move rfl rfl ?_)
    (refine Jx.move rfl rfl ?_)
    (refine J.gY rfl rfl rfl ?_)
    (refine Jx.move rfl rfl ?_)
    (refine J.gY rfl rfl rfl ?_)
    (refine Jx.move rfl rfl ?_)
    (refine J.gY rfl rfl rfl ?_)
    (refine Jx.lenSl rfl rfl ?_)
    (refine J.gY rfl rfl rfl ?_)
    (refine Jx.lssI rfl rfl rfl ?_)
    (refine Jx.pT rfl rfl rfl ?_)
    (refine J.nil ?_)
    (refine N.seq ?_)
    (refine W.cT rfl ?_)
    (refine W.skip ?_)
    (refine N.seq ?_)
    (refine W.seq ?_)
    (refine W.block ?_)
    (refine W.draw follows ?_)
    (refine JD.calm rfl (by decide +kernel) ?_)
    (refine Cx.move rfl rfl ?_)
    (refine Cx.move rfl rfl ?_)
    (refine Cx.indexEl rfl rfl (by assumption) rfl rfl ?_)
    (refine Cx.loadPPall rfl rfl rfl ?_)
    (refine Cx.move rfl rfl ?_)
    (refine Cx.move rfl rfl ?_)
    (refine Cx.indexEl rfl rfl (by assumption) rfl rfl ?_)
    (refine Cx.loadPPall rfl rfl rfl ?_)
    (refine Cx.eqlAg (decide (l.getD i mb0 = m.getD i mb0)) rfl rfl rfl rfl rfl rfl (mb_eq _ _) rfl ?_)
    (refine Cx.assign rfl rfl ?_)
    (refine SegC.nil ?_)
    (refine N.seq ?_)
    (refine W.region ?_)
    (refine Jx.move rfl rfl ?_)
    (refine Jx.add64 rfl rfl (by omega) rfl ?_)
    (refine Jx.assign rfl rfl ?_)
    (refine J.nil ?_)
    (refine id ?_; rotate_left))
        refine N.round (i + 1, decide (l.getD i mb0 = m.getD i mb0)) ⟨h3, fun h => ?_, fun h e => ?_⟩ (by simp only; omega) rfl ⟨ref0 rfl, ref0 rfl, ref0 rfl, ref0 rfl, trivial⟩
        · simp only [decide_eq_true_eq] at h
          rw [e1, e2, h1 rfl, h]
        · simp only [decide_eq_false_iff_not] at h
          exact h (by rw [e])
      · have e := h1 rfl
        rw [List.take_of_length_le (by omega), List.take_of_length_le (by omega)] at e
        focus (
    (refine W.seq ?_)
    (refine W.seq ?_)
    (refine W.region ?_)
    (refine Jx.move rfl rfl ?_)
    (refine Jx.move rfl rfl ?_)
    (refine J.gY rfl rfl rfl ?_)
    (refine Jx.move rfl rfl ?_)
    (refine J.gY rfl rfl rfl ?_)
    (refine Jx.move rfl rfl ?_)
    (refine J.gY rfl rfl rfl ?_)
    (refine Jx.lenSl rfl rfl ?_)
    (refine J.gY rfl rfl rfl ?_)
    (refine Jx.lssI rfl rfl rfl ?_)
    (refine Jx.pT rfl rfl rfl ?_)
    (refine J.nil ?_)
    (refine N.seq ?_)
    (refine W.cF rfl ?_)
    (refine W.exit ?_)
    (refine N.seq ?_)
    (refine W.seq ?_)
    (refine W.region ?_)
    (refine Jx.move rfl rfl ?_)
    (refine Jx.assign rfl rfl ?_)
    (refine J.nil ?_)
    (refine N.seq ?_)
    (refine W.ret ?_)
    (refine id ?_; rotate_left))
        exact N.ret (rs := [.tmp 4]) rfl (.tmp rfl .nil) ⟨by rw [decide_eq_true e]; rfl, rfl⟩
  · have hne : l ≠ m := fun e => hl (by rw [e])
    focus (
    (refine W.seq ?_)
    (refine W.region ?_)
    (refine Jx.assign rfl rfl ?_)
    (refine J.nil ?_)
    (refine N.seq ?_)
    (refine W.seq ?_)
    (refine W.region ?_)
    (refine Jx.move rfl rfl ?_)
    (refine Jx.lenSl rfl rfl ?_)
    (refine Jx.move rfl rfl ?_)
    (refine Jx.lenSl rfl rfl ?_)
    (refine Jx.eqlI rfl rfl rfl ?_)
    (refine Jx.assign rfl rfl ?_)
    (refine J.nil ?_)
    (refine N.seq ?_)
    (refine W.seq ?_)
    (refine W.seq ?_)
    (refine W.region ?_)
    (refine Jx.assign rfl rfl ?_)
    (refine J.nil ?_)
    (refine N.seq ?_)
    (refine W.block ?_)
    (refine id ?_; rotate_left))
    refine W.loop (α := Unit) (fun x => [(5, bool false)]) (fun _ => []) (fun x => True) (fun x => 0) () trivial rfl ⟨⟨_, rfl, Sub.of_eq (by simp; omega)⟩, trivial⟩ ?_
    rintro _ _
    focus (
    (refine W.seq ?_)
    (refine W.seq ?_)
    (refine W.region ?_)
    (refine Jx.move rfl rfl ?_)
    (refine Jx.move rfl rfl ?_)
    (refine J.gN rfl rfl rfl rfl ?_)
    (refine J.gN rfl rfl rfl rfl ?_)
    (refine J.gN rfl rfl rfl rfl ?_)
    (refine J.gN rfl rfl rfl rfl ?_)
    (refine Jx.pF rfl rfl rfl ?_)
    (refine J.nil ?_)
    (refine N.seq ?_)
    (refine W.cF rfl ?_)
    (refine W.exit ?_)
    (refine N.seq ?_)
    (refine W.seq ?_)
    (refine W.region ?_)
    (refine Jx.move rfl rfl ?_)
    (refine Jx.assign rfl rfl ?_)
    (refine J.nil ?_)
    (refine N.seq ?_)
    (refine W.ret ?_)
    (refine id ?_; rotate_left))
    exact N.ret (rs := [.tmp 4]) rfl (.tmp rfl .nil) ⟨by rw [decide_eq_false hne]; rfl, rfl⟩
end Go.Proofs.YtlfdhkahiaammaaDoor
namespace Go.Proofs.YtlfdhkahiaammaaDoor
open Go Go.Sse
set_option linter.unusedVariables false
set_option linter.unusedSimpArgs false
set_option maxRecDepth 10000
theorem numB_ap {a b : Nat} {r q : List UInt8} (ha : a < 9223372036854775808) (hb : b < 9223372036854775808) (h : numB a ++ r = numB b ++ q) : a = b ∧ r = q := by
  have := numP_back a ha r
  rw [h, numP_back b hb q] at this
  simp only [Prod.mk.injEq, Option.some.injEq] at this
  exact ⟨this.1.symm, this.2.symm⟩
theorem textB_ap {a b : List UInt8} {r q : List UInt8} (ha : a.length < 9223372036854775808) (hb : b.length < 9223372036854775808) (h : textB a ++ r = textB b ++ q) : a = b ∧ r = q := by
  have := textP_back (m := 9223372036854775808) a r (by omega) ha
  rw [h, textP_back b q (by omega) hb] at this
  simp only [Prod.mk.injEq, Option.some.injEq] at this
  exact ⟨this.1.symm, this.2.symm⟩
theorem mbs_inj : ∀ {a b : List Mb}, a.length = b.length → (∀ m ∈ a, m.name.length ≤ 6 ∧ 1 ≤ m.power ∧ m.power ≤ 1000) → (∀ m ∈ b, m.name.length ≤ 6 ∧ 1 ≤ m.power ∧ m.power ≤ 1000) → flT mbB a = flT mbB b → a = b
  | [], [], _, _, _, _ => rfl
  | [], _ :: _, h, _, _, _ => by simp at h
  | _ :: _, [], h, _, _, _ => by simp at h
  | x :: a, y :: b, h, ha, hb, he => by
    rw [flT_cons, flT_cons, mbB, mbB, List.append_assoc, List.append_assoc] at he
    obtain ⟨p1, p2, p3⟩ := ha x (List.mem_cons_self ..)
    obtain ⟨q1, q2, q3⟩ := hb y (List.mem_cons_self ..)
    obtain ⟨e1, he⟩ := textB_ap (by omega) (by omega) he
    obtain ⟨e2, he⟩ := numB_ap (by omega) (by omega) he
    have := mbs_inj (by simpa using h) (fun m hm => ha m (List.mem_cons_of_mem _ hm)) (fun m hm => hb m (List.mem_cons_of_mem _ hm)) he
    have hxy : x = y := by
      cases x; cases y
      simp only at e1 e2 p2 q2
      simp only [Mb.mk.injEq]
      exact ⟨e1, by omega⟩
    rw [this, hxy]
theorem encSet_inj {a b : List Mb} (ha : fineSet a = true) (hb : fineSet b = true) (h : encSet a = encSet b) : a = b := by
  obtain ⟨p1, p2, p3⟩ := fineSet_spec ha
  obtain ⟨q1, q2, q3⟩ := fineSet_spec hb
  obtain ⟨e1, e2⟩ := numB_ap (by omega) (by omega) h
  exact mbs_inj e1 p3 q3 e2
structure Tx where
  kind : Int
  from_ : List UInt8
  seq : Int
  to_ : List UInt8
  amount : Int
  key : List UInt8
  value : List UInt8
  members : List Mb
theorem Tx.ext' {x y : Tx} (h1 : x.kind = y.kind) (h2 : x.from_ = y.from_) (h3 : x.seq = y.seq) (h4 : x.to_ = y.to_) (h5 : x.amount = y.amount) (h6 : x.key = y.key) (h7 : x.value = y.value) (h8 : x.members = y.members) : x = y := by
  cases x; cases y; simp_all
instance : DecidableEq Tx := fun x y => decidable_of_iff ((((((((x.kind = y.kind ∧ x.from_ = y.from_) ∧ x.seq = y.seq) ∧ x.to_ = y.to_) ∧ x.amount = y.amount) ∧ x.key = y.key) ∧ x.value = y.value)) ∧ x.members = y.members) ⟨fun h => by cases x; cases y; simp_all, fun h => by subst h; simp⟩
abbrev txC (x : Tx) : List SV := [int x.kind, str x.from_, int x.seq, str x.to_, int x.amount, str x.key, str x.value, msl x.members]
def tx0 : Tx := ⟨0, [], 0, [], 0, [], [], []⟩
abbrev txsl (l : List Tx) : SV := .sl 8 l.length (elOf txC tx0 l)
def nameB (s : List UInt8) : Bool := decide (s ≠ []) && decide ((s.length : Int) ≤ 6)
def noneTA (x : Tx) : Bool := decide (x.to_ = []) && decide (x.amount = 0)
def noneKV (x : Tx) : Bool := decide (x.key = []) && decide (x.value = [])
def noneM (x : Tx) : Bool := decide ((x.members.length : Int) = 0)
def bareTx (x : Tx) : Bool := if x.kind = 1 then noneKV x && noneM x else if x.kind = 2 then noneTA x && noneM x else if x.kind = 3 then (noneTA x && noneM x) && decide (x.value = []) else if x.kind = 4 then noneTA x && noneKV x else false
def badTx (x : Tx) : Bool := ((!bareTx x || !nameB x.from_) || decide (x.seq < 0)) || decide (1099511627776 < x.seq)
def keyB (b : Bool) (x : Tx) : Bool := (b && decide (x.key ≠ [])) && decide ((x.key.length : Int) ≤ 6)
def valB' (x : Tx) : Bool := decide (x.value ≠ []) && decide ((x.value.length : Int) ≤ 32)
def moveB (x : Tx) : Bool := (nameB x.to_ && decide (1 ≤ x.amount)) && decide (x.amount ≤ 1099511627776)
def kindTx (x : Tx) : Bool := if x.kind = 1 then moveB x else if x.kind = 2 then keyB (valB' x) x else if x.kind = 3 then keyB true x else fineSet x.members
def fineTx (x : Tx) : Bool := !badTx x && kindTx x
def bodyTx (x : Tx) : List UInt8 := if x.kind = 1 then textB x.to_ ++ numB x.amount.toNat else if x.kind = 2 then textB x.key ++ textB x.value else if x.kind = 3 then textB x.key else textB (encSet x.members)
def encTx (x : Tx) : List UInt8 := [UInt8.ofNat x.kind.toNat] ++ textB x.from_ ++ numB x.seq.toNat ++ bodyTx x
structure FineT (x : Tx) : Prop where
  kind : 1 ≤ x.kind ∧ x.kind ≤ 4
  from1 : x.from_ ≠ []
  from6 : x.from_.length ≤ 6
  seq0 : 0 ≤ x.seq
  seqM : x.seq ≤ 1099511627776
  k1 : x.kind = 1 → (x.to_ ≠ [] ∧ x.to_.length ≤ 6 ∧ 1 ≤ x.amount ∧ x.amount ≤ 1099511627776) ∧ x.key = [] ∧ x.value = [] ∧ x.members = []
  k2 : x.kind = 2 → (x.value ≠ [] ∧ x.value.length ≤ 32 ∧ x.key ≠ [] ∧ x.key.length ≤ 6) ∧ x.to_ = [] ∧ x.amount = 0 ∧ x.members = []
  k3 : x.kind = 3 → (x.key ≠ [] ∧ x.key.length ≤ 6) ∧ x.value = [] ∧ x.to_ = [] ∧ x.amount = 0 ∧ x.members = []
  k4 : x.kind = 4 → fineSet x.members = true ∧ x.to_ = [] ∧ x.amount = 0 ∧ x.key = [] ∧ x.value = []
theorem len0 {α : Type} {l : List α} (h : (l.length : Int) = 0) : l = [] := List.eq_nil_of_length_eq_zero (by omega)
theorem fineTx_iff (x : Tx) : fineTx x = true ↔ FineT x := by
  constructor
  · intro h
    simp only [fineTx, badTx, Bool.and_eq_true, Bool.not_eq_true', Bool.or_eq_false_iff, Bool.not_eq_false', decide_eq_false_iff_not, nameB, decide_eq_true_eq] at h
    obtain ⟨⟨⟨⟨hb, hn1, hn2⟩, hs1⟩, hs2⟩, hk⟩ := h
    by_cases e1 : x.kind = 1
    · simp only [bareTx, if_pos e1, noneKV, noneM, Bool.and_eq_true, decide_eq_true_eq] at hb
      simp only [kindTx, if_pos e1, moveB, nameB, Bool.and_eq_true, decide_eq_true_eq] at hk
      exact ⟨by omega, hn1, by omega, by omega, by omega, fun _ => ⟨⟨hk.1.1.1, by omega, by omega, by omega⟩, hb.1.1, hb.1.2, len0 hb.2⟩, fun h => by omega, fun h => by omega, fun h => by omega⟩
    · by_cases e2 : x.kind = 2
      · simp only [bareTx, if_neg e1, if_pos e2, noneTA, noneM, Bool.and_eq_true, decide_eq_true_eq] at hb
        simp only [kindTx, if_neg e1, if_pos e2, keyB, valB', Bool.and_eq_true, decide_eq_true_eq] at hk
        exact ⟨by omega, hn1, by omega, by omega, by omega, fun h => by omega, fun _ => ⟨⟨hk.1.1.1, by omega, hk.1.2, by omega⟩, hb.1.1, hb.1.2, len0 hb.2⟩, fun h => by omega, fun h => by omega⟩
      · by_cases e3 : x.kind = 3
        · simp only [bareTx, if_neg e1, if_neg e2, if_pos e3, noneTA, noneM, Bool.and_eq_true, decide_eq_true_eq] at hb
          simp only [kindTx, if_neg e1, if_neg e2, if_pos e3, keyB, Bool.and_eq_true, decide_eq_true_eq] at hk
          exact ⟨by omega, hn1, by omega, by omega, by omega, fun h => by omega, fun h => by omega, fun _ => ⟨⟨hk.1.2, by omega⟩, hb.2, hb.1.1.1, hb.1.1.2, len0 hb.1.2⟩, fun h => by omega⟩
        · by_cases e4 : x.kind = 4
          · simp only [bareTx, if_neg e1, if_neg e2, if_neg e3, if_pos e4, noneTA, noneKV, Bool.and_eq_true, decide_eq_true_eq] at hb
            simp only [kindTx, if_neg e1, if_neg e2, if_neg e3] at hk
            exact ⟨by omega, hn1, by omega, by omega, by omega, fun h => by omega, fun h => by omega, fun h => by omega, fun _ => ⟨hk, hb.1.1, hb.1.2, hb.2.1, hb.2.2⟩⟩
          · simp only [bareTx, if_neg e1, if_neg e2, if_neg e3, if_neg e4] at hb
            cases hb
  · intro h
    have hk := h.kind
    have f1 := h.from1; have f2 := h.from6; have f3 := h.seq0; have f4 := h.seqM
    simp only [fineTx, badTx, Bool.and_eq_true, Bool.not_eq_true', Bool.or_eq_false_iff, Bool.not_eq_false', decide_eq_false_iff_not, nameB, decide_eq_true_eq]
    have hh : bareTx x = true ∧ kindTx x = true := by
      by_cases e1 : x.kind = 1
      · obtain ⟨⟨a1, a2, a3, a4⟩, b1, b2, b3⟩ := h.k1 e1
        simp only [bareTx, kindTx, if_pos e1, noneKV, noneM, moveB, nameB, Bool.and_eq_true, decide_eq_true_eq, b1, b2, b3]
        exact ⟨⟨by simp, by simp⟩, ⟨⟨a1, by omega⟩, a3⟩, a4⟩
      · by_cases e2 : x.kind = 2
        · obtain ⟨⟨a1, a2, a3, a4⟩, b1, b2, b3⟩ := h.k2 e2
          simp only [bareTx, kindTx, if_neg e1, if_pos e2, noneTA, noneM, keyB, valB', Bool.and_eq_true, decide_eq_true_eq, b1, b2, b3]
          exact ⟨⟨by simp, by simp⟩, ⟨⟨a1, by omega⟩, a3⟩, by omega⟩
        · by_cases e3 : x.kind = 3
          · obtain ⟨⟨a1, a2⟩, b1, b2, b3, b4⟩ := h.k3 e3
            simp only [bareTx, kindTx, if_neg e1, if_neg e2, if_pos e3, noneTA, noneM, keyB, Bool.and_eq_true, decide_eq_true_eq, b1, b2, b3, b4]
            exact ⟨⟨by simp, trivial⟩, ⟨trivial, a1⟩, by omega⟩
          · have e4 : x.kind = 4 := by omega
            obtain ⟨a1, b1, b2, b3, b4⟩ := h.k4 e4
            simp only [bareTx, kindTx, if_neg e1, if_neg e2, if_neg e3, if_pos e4, noneTA, noneKV, Bool.and_eq_true, decide_eq_true_eq, b1, b2, b3, b4, a1]
            simp
    exact ⟨⟨⟨⟨hh.1, f1, by omega⟩, by omega⟩, by omega⟩, hh.2⟩
theorem textB_len {s : List UInt8} {k : Nat} (h : s.length ≤ k) (hk : k ≤ 1099511627776) : (textB s).length ≤ k + 9 := by
  have := (numB_len (n := s.length) (by omega)).2
  rw [textB, List.length_append]; omega
theorem numB9 {n : Int} (h : n ≤ 1099511627776) : (numB n.toNat).length ≤ 9 := (numB_len (n := n.toNat) (by omega)).2
theorem bodyTx_len {x : Tx} (h : FineT x) : (bodyTx x).length ≤ 186 := by
  have hk := h.kind
  unfold bodyTx
  by_cases e1 : x.kind = 1
  · obtain ⟨⟨a1, a2, a3, a4⟩, _⟩ := h.k1 e1
    have := textB_len a2 (by omega); have := numB9 a4
    rw [if_pos e1, List.length_append]; omega
  · by_cases e2 : x.kind = 2
    · obtain ⟨⟨a1, a2, a3, a4⟩, _⟩ := h.k2 e2
      have := textB_len a2 (by omega); have := textB_len a4 (by omega)
      rw [if_neg e1, if_pos e2, List.length_append]; omega
    · by_cases e3 : x.kind = 3
      · obtain ⟨⟨a1, a2⟩, _⟩ := h.k3 e3
        have := textB_len a2 (by omega)
        rw [if_neg e1, if_neg e2, if_pos e3]; omega
      · obtain ⟨a1, _⟩ := h.k4 (by omega)
        have := textB_len (encSet_len a1) (by omega)
        rw [if_neg e1, if_neg e2, if_neg e3]; omega
theorem encTx_len {x : Tx} (h : FineT x) : (encTx x).length ≤ 211 := by
  have := bodyTx_len h; have := textB_len h.from6 (by omega); have := numB9 h.seqM
  simp only [encTx, List.length_append, List.length_cons, List.length_nil]; omega
def TailR (m1 m2 m3 m4 : Int) (x : Tx) (st st' : PSt) : Prop :=
  if x.kind = 1 then (∃ (st1 : PSt) (n : Nat), textP m1 st = (x.to_, st1) ∧ numP st1 = (n, st') ∧ x.amount = (n : Int)) ∧ x.key = [] ∧ x.value = [] ∧ x.members = []
  else if x.kind = 2 then (∃ st1 : PSt, textP m2 st = (x.key, st1) ∧ textP m3 st1 = (x.value, st')) ∧ x.to_ = [] ∧ x.amount = 0 ∧ x.members = []
  else if x.kind = 3 then textP m2 st = (x.key, st') ∧ x.to_ = [] ∧ x.amount = 0 ∧ x.value = [] ∧ x.members = []
  else if x.kind = 4 then (∃ t o, textP m4 st = (t, st') ∧ DecR fineSet encSet t o ∧ x.members = o.getD []) ∧ x.to_ = [] ∧ x.amount = 0 ∧ x.key = [] ∧ x.value = []
  else True
structure ReadT (m0 m1 m2 m3 m4 : Int) (s : List UInt8) (x : Tx) (st : PSt) : Prop where
  go : ∃ (k : List UInt8) (st1 st2 st3 : PSt) (q : Nat), bytesP 1 (some s) = (k, st1) ∧ x.kind = (((k.getD 0 0).toNat : Nat) : Int) ∧ textP m0 st1 = (x.from_, st2) ∧ numP st2 = (q, st3) ∧ x.seq = (q : Int) ∧ TailR m1 m2 m3 m4 x st3 st
theorem ReadT.sound {m0 m1 m2 m3 m4 : Int} {s : List UInt8} {x : Tx} (h : ReadT m0 m1 m2 m3 m4 s x (some [])) (hf : fineTx x = true) : encTx x = s := by
  obtain ⟨k, st1, st2, st3, q, e1, ek, e2, e3, eq, e4⟩ := h.go
  have hF := (fineTx_iff x).1 hf
  have hk := hF.kind
  have h3 : st3 = some (bodyTx x) := by
    unfold TailR at e4
    unfold bodyTx
    by_cases c1 : x.kind = 1
    · rw [if_pos c1] at e4 ⊢
      obtain ⟨⟨s1, n, a1, a2, a3⟩, _⟩ := e4
      obtain ⟨rfl, _⟩ := numP_good a2
      rw [(textP_good a1).1, a3, List.append_nil, Int.toNat_natCast]
    · by_cases c2 : x.kind = 2
      · rw [if_neg c1, if_pos c2] at e4 ⊢
        obtain ⟨⟨s1, a1, a2⟩, _⟩ := e4
        obtain ⟨rfl, _⟩ := textP_good a2
        rw [(textP_good a1).1, List.append_nil]
      · by_cases c3 : x.kind = 3
        · rw [if_neg c1, if_neg c2, if_pos c3] at e4 ⊢
          rw [(textP_good e4.1).1, List.append_nil]
        · have c4 : x.kind = 4 := by omega
          rw [if_neg c1, if_neg c2, if_neg c3, if_pos c4] at e4
          rw [if_neg c1, if_neg c2, if_neg c3]
          obtain ⟨⟨t, o, a1, a2, a3⟩, _⟩ := e4
          have hm := (hF.k4 c4).1
          cases o with
          | none => rw [a3] at hm; cases hm
          | some l =>
            simp only [Option.getD_some] at a3
            rw [(textP_good a1).1, a3, a2.2, List.append_nil]
  subst h3
  obtain ⟨rfl, _⟩ := numP_good e3
  obtain ⟨rfl, _⟩ := textP_good e2
  obtain ⟨g1, g2⟩ := bytesP_good e1
  obtain ⟨b, rfl⟩ : ∃ b, k = [b] := by
    match k, g2 with
    | [b], _ => exact ⟨b, rfl⟩
  simp only [Option.some.injEq] at g1
  rw [g1, encTx, ek, eq]
  simp only [Int.toNat_natCast, List.getD_cons_zero, List.append_assoc]
  congr 2
  apply UInt8.toNat_inj.1
  simp
theorem ReadT.whole {m0 m1 m2 m3 m4 : Int} {s : List UInt8} {x y : Tx} {st : PSt} (h : ReadT m0 m1 m2 m3 m4 s x st) (h0 : 6 ≤ m0) (h1 : 6 ≤ m1) (h2 : 6 ≤ m2) (h3 : 32 ≤ m3) (h4 : 177 ≤ m4)
    (hf : fineTx y = true) (hs : encTx y = s) : x = y ∧ st = some [] := by
  obtain ⟨k, st1, st2, st3, q, e1, ek, e2, e3, eq, e4⟩ := h.go
  have hF := (fineTx_iff y).1 hf
  have hk := hF.kind
  have f6 := hF.from6
  have fs0 := hF.seq0
  have fsM := hF.seqM
  rw [← hs, encTx, List.append_assoc, List.append_assoc, bytesP_back' (n := 1) [UInt8.ofNat y.kind.toNat] _ rfl] at e1
  simp only [Prod.mk.injEq] at e1
  obtain ⟨rfl, rfl⟩ := e1
  rw [textP_back _ _ (by omega) (by omega)] at e2
  simp only [Prod.mk.injEq] at e2
  obtain ⟨p2, rfl⟩ := e2
  rw [numP_back _ (by omega)] at e3
  simp only [Prod.mk.injEq] at e3
  obtain ⟨rfl, rfl⟩ := e3
  have pk : x.kind = y.kind := by
    rw [ek]
    simp only [List.getD_cons_zero, UInt8.toNat_ofNat']
    omega
  have ps : x.seq = y.seq := by rw [eq]; omega
  unfold TailR at e4
  unfold bodyTx at e4
  by_cases c1 : y.kind = 1
  · rw [if_pos (by omega), if_pos c1] at e4
    obtain ⟨⟨a1, a2, a3, a4⟩, b1, b2, b3⟩ := hF.k1 c1
    obtain ⟨⟨s1, n, d1, d2, d3⟩, d4, d5, d6⟩ := e4
    rw [textP_back _ _ (by omega) (by omega)] at d1
    simp only [Prod.mk.injEq] at d1
    obtain ⟨d1, rfl⟩ := d1
    rw [← List.append_nil (numB y.amount.toNat), numP_back _ (by omega)] at d2
    simp only [Prod.mk.injEq] at d2
    obtain ⟨rfl, rfl⟩ := d2
    exact ⟨Tx.ext' pk p2.symm ps d1.symm (by omega) (by rw [d4, b1]) (by rw [d5, b2]) (by rw [d6, b3]), rfl⟩
  · by_cases c2 : y.kind = 2
    · rw [if_neg (by omega), if_pos (by omega), if_neg c1, if_pos c2] at e4
      obtain ⟨⟨a1, a2, a3, a4⟩, b1, b2, b3⟩ := hF.k2 c2
      obtain ⟨⟨s1, d1, d2⟩, d4, d5, d6⟩ := e4
      rw [textP_back _ _ (by omega) (by omega)] at d1
      simp only [Prod.mk.injEq] at d1
      obtain ⟨d1, rfl⟩ := d1
      rw [← List.append_nil (textB y.value), textP_back _ _ (by omega) (by omega)] at d2
      simp only [Prod.mk.injEq] at d2
      obtain ⟨d2, rfl⟩ := d2
      exact ⟨Tx.ext' pk p2.symm ps (by rw [d4, b1]) (by rw [d5, b2]) d1.symm d2.symm (by rw [d6, b3]), rfl⟩
    · by_cases c3 : y.kind = 3
      · rw [if_neg (by omega), if_neg (by omega), if_pos (by omega), if_neg c1, if_neg c2, if_pos c3] at e4
        obtain ⟨⟨a1, a2⟩, b1, b2, b3, b4⟩ := hF.k3 c3
        obtain ⟨d1, d2, d3, d4, d5⟩ := e4
        rw [← List.append_nil (textB y.key), textP_back _ _ (by omega) (by omega)] at d1
        simp only [Prod.mk.injEq] at d1
        obtain ⟨d1, rfl⟩ := d1
        exact ⟨Tx.ext' pk p2.symm ps (by rw [d2, b2]) (by rw [d3, b3]) d1.symm (by rw [d4, b1]) (by rw [d5, b4]), rfl⟩
      · have c4 : y.kind = 4 := by omega
        rw [if_neg (by omega), if_neg (by omega), if_neg (by omega), if_pos (by omega), if_neg c1, if_neg c2, if_neg c3] at e4
        obtain ⟨a1, b1, b2, b3, b4⟩ := hF.k4 c4
        have hl := encSet_len a1
        obtain ⟨⟨t, o, d1, d2, d3⟩, d4, d5, d6, d7⟩ := e4
        rw [← List.append_nil (textB (encSet y.members)), textP_back _ _ (by omega) (by omega)] at d1
        simp only [Prod.mk.injEq] at d1
        obtain ⟨d1, rfl⟩ := d1
        have hm : x.members = y.members := by
          cases o with
          | none => exact absurd d1 (d2 _ a1)
          | some l =>
            rw [d3]
            have e : encSet l = encSet y.members := by rw [d2.2, d1]
            have h7 := (fineSet_spec d2.1).2.1
            have h7' := (fineSet_spec a1).2.1
            exact encSet_inj d2.1 a1 e
        exact ⟨Tx.ext' pk p2.symm ps (by rw [d4, b1]) (by rw [d5, b2]) (by rw [d6, b3]) (by rw [d7, b4]) hm, rfl⟩
end Go.Proofs.YtlfdhkahiaammaaDoor
namespace Go.Proofs.YtlfdhkahiaammaaDoor.Sha
open Go Go.Sse
set_option maxRecDepth 10000
set_option linter.unusedVariables false
set_option linter.unusedSimpArgs false
abbrev Wd := BitVec 32
def rot (x : Wd) (n : Nat) : Wd := x >>> n ||| x <<< (32 - n)
def sig0 (x : Wd) : Wd := rot x 7 ^^^ rot x 18 ^^^ x >>> 3
def sig1 (x : Wd) : Wd := rot x 17 ^^^ rot x 19 ^^^ x >>> 10
def byteAt (b : List UInt8) (i : Nat) : Wd := BitVec.ofNat 32 (b.getD i 0).toNat
def word (b : List UInt8) (i : Nat) : Wd := byteAt b (4 * i) <<< 24 ||| byteAt b (4 * i + 1) <<< 16 ||| byteAt b (4 * i + 2) <<< 8 ||| byteAt b (4 * i + 3)
def nextW (l : List Wd) (n : Nat) : Wd := l.getD (n - 16) 0 + sig0 (l.getD (n - 15) 0) + l.getD (n - 7) 0 + sig1 (l.getD (n - 2) 0)
def sched (b : List UInt8) : Nat → List Wd
  | 0 => []
  | n + 1 => sched b n ++ [if n < 16 then word b n else nextW (sched b n) n]
def W (b : List UInt8) (n : Nat) : Wd := (sched b (n + 1)).getD n 0
theorem sched_len (b : List UInt8) : ∀ n, (sched b n).length = n
  | 0 => rfl
  | n + 1 => by simp [sched, sched_len b n]
theorem sched_get (b : List UInt8) : ∀ n i, i < n → (sched b n).getD i 0 = W b i
  | 0, i, h => by omega
  | n + 1, i, h => by
    by_cases hi : i = n
    · subst hi; rfl
    · have : i < n := by omega
      rw [← sched_get b n i this]
      simp only [sched, List.getD_eq_getElem?_getD]
      rw [List.getElem?_append_left (by rw [sched_len]; exact this)]
structure S8 where
  a : Wd
  b : Wd
  c : Wd
  d : Wd
  e : Wd
  f : Wd
  g : Wd
  h : Wd
def S8.list (s : S8) : List Wd := [s.a, s.b, s.c, s.d, s.e, s.f, s.g, s.h]
abbrev S8.cells (s : S8) : List SV := [u32 s.a, u32 s.b, u32 s.c, u32 s.d, u32 s.e, u32 s.f, u32 s.g, u32 s.h]
def S8.one (s : S8) (k w : Wd) : Wd := s.h + (rot s.e 6 ^^^ rot s.e 11 ^^^ rot s.e 25) + (s.e &&& s.f ^^^ ~~~s.e &&& s.g) + k + w
def S8.two (s : S8) : Wd := (rot s.a 2 ^^^ rot s.a 13 ^^^ rot s.a 22) + (s.a &&& s.b ^^^ s.a &&& s.c ^^^ s.b &&& s.c)
def S8.round (s : S8) (k w : Wd) : S8 := ⟨s.one k w + s.two, s.a, s.b, s.c, s.d + s.one k w, s.e, s.f, s.g⟩
def kAt (i : Nat) : Wd := BitVec.ofNat 32 (shaK.getD i 0)
def rounds (s : S8) (b : List UInt8) : Nat → S8
  | 0 => s
  | n + 1 => (rounds s b n).round (kAt n) (W b n)
def S8.add (s t : S8) : S8 := ⟨s.a + t.a, s.b + t.b, s.c + t.c, s.d + t.d, s.e + t.e, s.f + t.f, s.g + t.g, s.h + t.h⟩
def blockS (s : S8) (b : List UInt8) : S8 := (rounds s b 64).add s
def first8 : S8 := ⟨0x6a09e667#32, 0xbb67ae85#32, 0x3c6ef372#32, 0xa54ff53a#32, 0x510e527f#32, 0x9b05688c#32, 0x1f83d9ab#32, 0x5be0cd19#32⟩
def wordB (w : Wd) : List UInt8 := [UInt8.ofNat (w >>> 24).toNat, UInt8.ofNat (w >>> 16).toNat, UInt8.ofNat (w >>> 8).toNat, UInt8.ofNat w.toNat]
def toldS (s : S8) : List UInt8 := s.list.flatMap wordB
theorem told_len (s : S8) : (toldS s).length = 32 := rfl
def blocksS (s : S8) (l : List UInt8) : S8 × List UInt8 :=
  if h : 64 ≤ l.length then blocksS (blockS s (l.take 64)) (l.drop 64) else (s, l)
termination_by l.length
decreasing_by simp only [List.length_drop]; omega
theorem blocksS_lt {s : S8} {l : List UInt8} (h : l.length < 64) : blocksS s l = (s, l) := by
  rw [blocksS, dif_neg (by omega)]
theorem blocksS_ge {s : S8} {l : List UInt8} (h : 64 ≤ l.length) : blocksS s l = blocksS (blockS s (l.take 64)) (l.drop 64) := by
  rw [blocksS, dif_pos h]
theorem blocksS_app : ∀ (n : Nat) (s : S8) (l t : List UInt8), l.length ≤ n → blocksS s (l ++ t) = blocksS (blocksS s l).1 ((blocksS s l).2 ++ t) := by
  intro n
  induction n with
  | zero => intro s l t h; have : l = [] := List.eq_nil_of_length_eq_zero (by omega); subst this; rw [blocksS_lt (s := s) (l := []) (by simp)]
  | succ n ih =>
    intro s l t h
    by_cases h64 : 64 ≤ l.length
    · rw [blocksS_ge (l := l) h64, blocksS_ge (l := l ++ t) (by simp; omega), List.take_append_of_le_length h64, List.drop_append_of_le_length h64]
      exact ih _ _ _ (by simp only [List.length_drop]; omega)
    · rw [blocksS_lt (l := l) (by omega)]
theorem blocksS_left : ∀ (n : Nat) (s : S8) (l : List UInt8), l.length ≤ n → (blocksS s l).2.length = l.length % 64 := by
  intro n
  induction n with
  | zero => intro s l h; rw [blocksS_lt (by omega)]; simp only; omega
  | succ n ih =>
    intro s l h
    by_cases h64 : 64 ≤ l.length
    · rw [blocksS_ge h64, ih _ _ (by simp only [List.length_drop]; omega), List.length_drop]; omega
    · rw [blocksS_lt (by omega)]; simp only; omega
def zerosOf (n : Nat) : Nat := (119 - n % 64) % 64
def lenB (n : Nat) : List UInt8 := (List.range 8).map fun i => UInt8.ofNat (n * 8 / 2 ^ (56 - 8 * i))
theorem lenB_len (n : Nat) : (lenB n).length = 8 := rfl
def padS (n : Nat) : List UInt8 := [128] ++ List.replicate (zerosOf n) 0 ++ lenB n
def shaS (l : List UInt8) : List UInt8 := toldS (blocksS first8 (l ++ padS l.length)).1
end Go.Proofs.YtlfdhkahiaammaaDoor.Sha
namespace Go.Proofs.YtlfdhkahiaammaaDoor.Sha
open Go Go.Sse
set_option maxRecDepth 10000
set_option linter.unusedVariables false
set_option linter.unusedSimpArgs false
theorem ref0 {F : List (Nat × SV)} {i : Nat} {s : SV} (h : Sse.look F i = some s) : ∃ t, Sse.look F i = some t ∧ Sub t s := ⟨s, h, .refl _⟩
theorem rot_ok (x : Wd) (n : Nat) (hn : n ≤ 32) : FnC Tryd.prog 117 [u32 x, u64 n] [] (fun s L => s = u32 (rot x n) ∧ L = []) := by
  refine FnC.intro Tryd.func117 rfl Tryd.ntmps117 rfl fun Z w0 hG => ?_
  focus (
    (refine W.seq ?_)
    (refine W.region ?_)
    (refine Jx.assign rfl rfl ?_)
    (refine J.nil ?_)
    (refine N.seq ?_)
    (refine W.seq ?_)
    (refine W.region ?_)
    (refine Jx.move rfl rfl ?_)
    (refine Jx.move rfl rfl ?_)
    (refine Jx.shrU rfl rfl hn rfl ?_)
    (refine Jx.move rfl rfl ?_)
    (refine Jx.move rfl rfl ?_)
    (refine Jx.subU64 (c := 32) rfl rfl hn (by decide) rfl ?_)
    (refine Jx.shlU rfl rfl (by omega) rfl ?_)
    (refine Jx.orU rfl rfl rfl ?_)
    (refine Jx.assign rfl rfl ?_)
    (refine J.nil ?_)
    (refine N.seq ?_)
    (refine W.ret ?_)
    (refine id ?_; rotate_left))
  exact N.ret (rs := [.tmp 4]) rfl (.tmp rfl .nil) ⟨rfl, rfl⟩
theorem first_ok : FnC Tryd.prog 111 [] [] (fun s L => s = .agg first8.cells ∧ L = []) := by
  refine FnC.intro Tryd.func111 rfl Tryd.ntmps111 rfl fun Z w0 hG => ?_
  focus (
    (refine W.seq ?_)
    (refine W.region ?_)
    (refine J.alloc (by simp only [List.map_cons, List.map_nil]; rfl) rfl rfl ?_; intro b')
    (refine J.nil ?_)
    (refine N.seq ?_)
    (refine W.seq ?_)
    (refine W.region ?_)
    (refine Jx.buildA rfl rfl rfl rfl rfl ?_)
    (refine J.storeAll rfl rfl rfl 0 rfl rfl rfl ?_)
    (refine J.nil ?_)
    (refine N.seq ?_)
    (refine W.ret ?_)
    (refine id ?_; rotate_left))
  exact N.retD (rs := [.cell 0 139]) (L1 := []) rfl (.cell rfl 0 rfl inferInstance .nil) (List.nil_sublist _) ⟨rfl, rfl⟩
end Go.Proofs.YtlfdhkahiaammaaDoor.Sha
namespace Go.Proofs.YtlfdhkahiaammaaDoor.Sha
open Go Go.Sse
set_option maxRecDepth 10000
set_option linter.unusedVariables false
set_option linter.unusedSimpArgs false
def tab (b : List UInt8) (i : Nat) : List Wd := sched b i ++ List.replicate (64 - i) 0
theorem tab_len (b : List UInt8) (i : Nat) (h : i ≤ 64) : (tab b i).length = 64 := by simp [tab, sched_len]; omega
theorem tab_get (b : List UInt8) (i j : Nat) (h : j < i) : (tab b i).getD j 0 = (sched b i).getD j 0 := by
  simp only [tab, List.getD_eq_getElem?_getD]; rw [List.getElem?_append_left (by rw [sched_len]; exact h)]
theorem tab_set (b : List UInt8) (i : Nat) (h : i < 64) (v : Wd) (hv : v = if i < 16 then word b i else nextW (sched b i) i) : (tab b i).set i v = tab b (i + 1) := by
  subst hv
  unfold tab
  rw [List.set_append_right _ _ (by rw [sched_len]; exact Nat.le_refl _), sched_len, Nat.sub_self, show 64 - i = (64 - (i + 1)) + 1 by omega, List.replicate_succ, List.set_cons_zero]
  simp [sched]
theorem tab_next (b : List UInt8) (i : Nat) (h : 16 ≤ i) : (tab b i).getD (i - 16) 0 + (rot ((tab b i).getD (i - 15) 0) 7 ^^^ rot ((tab b i).getD (i - 15) 0) 18 ^^^ (tab b i).getD (i - 15) 0 >>> 3) + (tab b i).getD (i - 7) 0 + (rot ((tab b i).getD (i - 2) 0) 17 ^^^ rot ((tab b i).getD (i - 2) 0) 19 ^^^ (tab b i).getD (i - 2) 0 >>> 10) = nextW (sched b i) i := by
  rw [tab_get _ _ _ (by omega), tab_get _ _ _ (by omega), tab_get _ _ _ (by omega), tab_get _ _ _ (by omega)]; rfl
abbrev tabO (p : Nat) (ws : List Wd) : Own := .obj p 160 (ws.map u32)
abbrev blkO (p : Nat) (bs : List UInt8) : Own := .obj p 141 (bs.map byte)
set_option maxHeartbeats 2000000 in
theorem spread_ok (bs : List UInt8) (hb : bs.length = 64) : FnC Tryd.prog 116 [.agg (bs.map byte)] [] (fun s L => s = .agg ((sched bs 64).map u32) ∧ L = []) := by
  refine FnC.intro Tryd.func116 rfl Tryd.ntmps116 rfl fun Z w0 hG => ?_
  focus (
    (refine W.seq ?_)
    (refine W.region ?_)
    (refine J.boxAg rfl rfl ?_; intro b')
    (refine J.alloc (by simp only [List.map_cons, List.map_nil]; rfl) rfl rfl ?_; intro b')
    (refine J.nil ?_)
    (refine N.seq ?_)
    (refine W.seq ?_)
    (refine W.region ?_)
    (refine J.alloc (by simp only [List.map_cons, List.map_nil]; rfl) rfl rfl ?_; intro b')
    (refine J.nil ?_)
    (refine N.seq ?_)
    (refine W.seq ?_)
    (refine W.seq ?_)
    (refine W.region ?_)
    (refine Jx.move rfl rfl ?_)
    (refine J.nil ?_)
    (refine N.seq ?_)
    (refine W.block ?_)
    (refine id ?_; rotate_left))
  rename_i p1 p2
  refine W.loop (α := Nat × List Wd) (fun x => [(8, int x.1), (3, ptr b'), (2, ptr p2), (1, ptr p1)]) (fun x => [tabO b' x.2, tabO p2 (tab bs 0), blkO p1 bs]) (fun x => x.1 ≤ 16 ∧ x.2 = tab bs x.1) (fun x => 16 - x.1) (0, tab bs 0) ⟨by omega, rfl⟩ rfl ⟨ref0 rfl, ref0 rfl, ref0 rfl, ref0 rfl, trivial⟩ ?_
  have hz : (tab bs 0).length = 64 := tab_len bs 0 (by omega)
  generalize tab bs 0 = zs at *
  rintro ⟨i, ws⟩ ⟨hi, hw⟩
  simp only at hi hw ⊢
  have hl : ws.length = 64 := by rw [hw]; exact tab_len bs i (by omega)
  by_cases h : i < 16
  · focus (
    (refine W.seq ?_)
    (refine W.region ?_)
    (refine Jx.lssI rfl rfl rfl ?_)
    (refine J.nil ?_)
    (refine N.seq ?_)
    (refine W.seq ?_)
    (refine W.condT rfl (by first | rfl | assumption | (exact decide_eq_true (by first | assumption | omega | rfl)) | (exact decide_eq_false (by first | assumption | omega | rfl)) | (simp; done) | (simp; omega)) ?_)
    (refine W.skip ?_)
    (refine N.seq ?_)
    (refine W.seq ?_)
    (refine W.block ?_)
    (refine W.seq ?_)
    (refine W.region ?_)
    (refine Jx.move rfl rfl ?_)
    (refine Jx.assign rfl rfl ?_)
    (refine J.nil ?_)
    (refine N.seq ?_)
    (refine W.draw follows ?_)
    (refine JD.upto (n := 31) rfl (by decide +kernel) (by decide +kernel) rfl rfl ?_)
    (refine Cx.move rfl rfl ?_)
    (refine Cx.move rfl rfl ?_)
    (refine Cx.mul64 rfl rfl (by omega) rfl ?_)
    (refine Cx.index0 (4 * i) rfl rfl (by omega) (by omega) rfl ?_)
    (refine Cx.loadA byte 0 rfl 2 rfl (by omega) rfl ?_)
    (refine Cx.byteWord rfl rfl rfl ?_)
    (refine Cx.shlU rfl rfl (by decide) rfl ?_)
    (refine Cx.move rfl rfl ?_)
    (refine Cx.mul64 rfl rfl (by omega) rfl ?_)
    (refine Cx.add64 rfl rfl (by omega) rfl ?_)
    (refine Cx.index0 (4 * i + 1) rfl rfl (by omega) (by omega) rfl ?_)
    (refine Cx.loadA byte 0 rfl 2 rfl (by omega) rfl ?_)
    (refine Cx.byteWord rfl rfl rfl ?_)
    (refine Cx.shlU rfl rfl (by decide) rfl ?_)
    (refine Cx.orU rfl rfl rfl ?_)
    (refine Cx.move rfl rfl ?_)
    (refine Cx.mul64 rfl rfl (by omega) rfl ?_)
    (refine Cx.add64 rfl rfl (by omega) rfl ?_)
    (refine Cx.index0 (4 * i + 2) rfl rfl (by omega) (by omega) rfl ?_)
    (refine Cx.loadA byte 0 rfl 2 rfl (by omega) rfl ?_)
    (refine Cx.byteWord rfl rfl rfl ?_)
    (refine Cx.shlU rfl rfl (by decide) rfl ?_)
    (refine Cx.orU rfl rfl rfl ?_)
    (refine Cx.move rfl rfl ?_)
    (refine Cx.mul64 rfl rfl (by omega) rfl ?_)
    (refine Cx.add64 rfl rfl (by omega) rfl ?_)
    (refine Cx.index0 (4 * i + 3) rfl rfl (by omega) (by omega) rfl ?_)
    (refine Cx.loadA byte 0 rfl 2 rfl (by omega) rfl ?_)
    (refine Cx.byteWord rfl rfl rfl ?_)
    (refine Cx.orU rfl rfl rfl ?_)
    (refine Cx.index0 i rfl rfl (by omega) (by omega) rfl ?_)
    (refine SegC.nil ?_)
    (refine J.storeA u32 (word bs i) rfl rfl (One.val rfl) 0 rfl (by omega) rfl ?_)
    (refine J.nil ?_)
    (refine N.seq ?_)
    (refine W.region ?_)
    (refine Jx.add64 rfl rfl (by omega) rfl ?_)
    (refine Jx.move rfl rfl ?_)
    (refine J.nil ?_)
    (refine id ?_; rotate_left))
    exact N.round (i + 1, ws.set i (word bs i)) ⟨by omega, by rw [hw]; exact tab_set bs i (by omega) (word bs i) (by rw [if_pos h])⟩ (by simp only; omega) rfl ⟨ref0 rfl, ref0 rfl, ref0 rfl, ref0 rfl, trivial⟩
  · have h16 : i = 16 := by omega
    focus (
    (refine W.seq ?_)
    (refine W.region ?_)
    (refine Jx.lssI rfl rfl rfl ?_)
    (refine J.nil ?_)
    (refine N.seq ?_)
    (refine W.seq ?_)
    (refine W.condF rfl (by first | rfl | assumption | (exact decide_eq_true (by first | assumption | omega | rfl)) | (exact decide_eq_false (by first | assumption | omega | rfl)) | (simp; done) | (simp; omega)) ?_)
    (refine W.exit ?_)
    (refine N.seq ?_)
    (refine W.seq ?_)
    (refine W.seq ?_)
    (refine W.region ?_)
    (refine Jx.assign rfl rfl ?_)
    (refine J.nil ?_)
    (refine N.seq ?_)
    (refine W.block ?_)
    (refine id ?_; rotate_left))
    refine W.loop (α := Nat × List Wd) (fun x => [(5, int x.1), (3, ptr b'), (2, ptr p2), (1, ptr p1)]) (fun x => [tabO b' x.2, tabO p2 zs, blkO p1 bs]) (fun x => 16 ≤ x.1 ∧ x.1 ≤ 64 ∧ x.2 = tab bs x.1) (fun x => 64 - x.1) (16, ws) ⟨by simp, by simp, by rw [hw, h16]⟩ rfl ⟨ref0 rfl, ref0 rfl, ref0 rfl, ref0 rfl, trivial⟩ ?_
    clear hi hw hl h h16
    rintro ⟨i, ws⟩ ⟨hi0, hi1, hw⟩
    simp only at hi0 hi1 hw ⊢
    have hl : ws.length = 64 := by rw [hw]; exact tab_len bs i (by omega)
    by_cases h : i < 64
    · focus (
    (refine W.seq ?_)
    (refine W.seq ?_)
    (refine W.region ?_)
    (refine Jx.move rfl rfl ?_)
    (refine Jx.lssI rfl rfl rfl ?_)
    (refine J.nil ?_)
    (refine N.seq ?_)
    (refine W.condT rfl (by first | rfl | assumption | (exact decide_eq_true (by first | assumption | omega | rfl)) | (exact decide_eq_false (by first | assumption | omega | rfl)) | (simp; done) | (simp; omega)) ?_)
    (refine W.skip ?_)
    (refine N.seq ?_)
    (refine W.seq ?_)
    (refine W.block ?_)
    (refine W.seq ?_)
    (refine W.draw follows ?_)
    (refine JD.calm rfl (by decide +kernel) ?_)
    (refine Cx.move rfl rfl ?_)
    (refine Cx.sub64 rfl rfl (by omega) rfl ?_)
    (refine Cx.index0 (i - 15) rfl rfl (by omega) (by omega) rfl ?_)
    (refine Cx.loadA u32 0 rfl 0 rfl (by omega) rfl ?_)
    (refine Cx.move rfl rfl ?_)
    (refine Cx.sub64 rfl rfl (by omega) rfl ?_)
    (refine Cx.index0 (i - 2) rfl rfl (by omega) (by omega) rfl ?_)
    (refine Cx.loadA u32 0 rfl 0 rfl (by omega) rfl ?_)
    (refine Cx.assign rfl rfl ?_)
    (refine Cx.assign rfl rfl ?_)
    (refine SegC.nil ?_)
    (refine N.seq ?_)
    (refine W.draw follows ?_)
    (refine JD.upto (n := 29) rfl (by decide +kernel) (by decide +kernel) rfl rfl ?_)
    (refine Cx.move rfl rfl ?_)
    (refine Cx.move rfl rfl ?_)
    (refine Cx.sub64 rfl rfl (by omega) rfl ?_)
    (refine Cx.index0 (i - 16) rfl rfl (by omega) (by omega) rfl ?_)
    (refine Cx.loadA u32 0 rfl 0 rfl (by omega) rfl ?_)
    (refine Cx.move rfl rfl ?_)
    (refine SegC.q (Qs.call (Lc := []) (rot_ok _ 7 (by decide)) (fun s L' h => h) (List.Perm.refl _) (evs_args rfl)) rfl ?_)
    (refine Cx.move rfl rfl ?_)
    (refine SegC.q (Qs.call (Lc := []) (rot_ok _ 18 (by decide)) (fun s L' h => h) (List.Perm.refl _) (evs_args rfl)) rfl ?_)
    (refine Cx.xorU rfl rfl rfl ?_)
    (refine Cx.move rfl rfl ?_)
    (refine Cx.shrU rfl rfl (by decide) rfl ?_)
    (refine Cx.xorU rfl rfl rfl ?_)
    (refine Cx.addU rfl rfl rfl ?_)
    (refine Cx.move rfl rfl ?_)
    (refine Cx.sub64 rfl rfl (by omega) rfl ?_)
    (refine Cx.index0 (i - 7) rfl rfl (by omega) (by omega) rfl ?_)
    (refine Cx.loadA u32 0 rfl 0 rfl (by omega) rfl ?_)
    (refine Cx.addU rfl rfl rfl ?_)
    (refine Cx.move rfl rfl ?_)
    (refine SegC.q (Qs.call (Lc := []) (rot_ok _ 17 (by decide)) (fun s L' h => h) (List.Perm.refl _) (evs_args rfl)) rfl ?_)
    (refine Cx.move rfl rfl ?_)
    (refine SegC.q (Qs.call (Lc := []) (rot_ok _ 19 (by decide)) (fun s L' h => h) (List.Perm.refl _) (evs_args rfl)) rfl ?_)
    (refine Cx.xorU rfl rfl rfl ?_)
    (refine Cx.move rfl rfl ?_)
    (refine Cx.shrU rfl rfl (by decide) rfl ?_)
    (refine Cx.xorU rfl rfl rfl ?_)
    (refine Cx.addU rfl rfl rfl ?_)
    (refine Cx.index0 i rfl rfl (by omega) (by omega) rfl ?_)
    (refine SegC.nil ?_)
    (refine J.storeA u32 (ws.getD (i - 16) 0 + sig0 (ws.getD (i - 15) 0) + ws.getD (i - 7) 0 + sig1 (ws.getD (i - 2) 0)) rfl rfl (One.val rfl) 0 rfl (by omega) rfl ?_)
    (refine J.nil ?_)
    (refine N.seq ?_)
    (refine W.region ?_)
    (refine Jx.move rfl rfl ?_)
    (refine Jx.add64 rfl rfl (by omega) rfl ?_)
    (refine Jx.assign rfl rfl ?_)
    (refine J.nil ?_)
    (refine id ?_; rotate_left))
      refine N.round (i + 1, ws.set i (ws.getD (i - 16) 0 + sig0 (ws.getD (i - 15) 0) + ws.getD (i - 7) 0 + sig1 (ws.getD (i - 2) 0))) ⟨by simp only; omega, by simp only; omega, ?_⟩ (by simp only; omega) rfl ⟨ref0 rfl, ref0 rfl, ref0 rfl, ref0 rfl, trivial⟩
      simp only
      rw [hw]
      exact tab_set bs i (by omega) _ (by rw [if_neg (by omega), ← tab_next bs i hi0]; rfl)
    · have h64 : i = 64 := by omega
      focus (
    (refine W.seq ?_)
    (refine W.seq ?_)
    (refine W.region ?_)
    (refine Jx.move rfl rfl ?_)
    (refine Jx.lssI rfl rfl rfl ?_)
    (refine J.nil ?_)
    (refine N.seq ?_)
    (refine W.condF rfl (by first | rfl | assumption | (exact decide_eq_true (by first | assumption | omega | rfl)) | (exact decide_eq_false (by first | assumption | omega | rfl)) | (simp; done) | (simp; omega)) ?_)
    (refine W.exit ?_)
    (refine N.seq ?_)
    (refine W.seq ?_)
    (refine W.region ?_)
    (refine Jx.loadArr (by rw [List.length_map]; exact hl) rfl 0 rfl rfl ?_)
    (refine J.storeArr (by rw [List.length_map]; exact hl) rfl rfl 1 rfl (by rw [List.length_map]; exact hz) rfl ?_)
    (refine J.nil ?_)
    (refine N.seq ?_)
    (refine W.ret ?_)
    (refine id ?_; rotate_left))
      refine N.retD (rs := [.cell 2 160]) (L1 := []) rfl (.cell rfl 1 rfl (by rw [List.length_map, hl]; infer_instance) .nil) (List.nil_sublist _) ⟨?_, rfl⟩
      rw [hw, h64]; simp [oneOr, tab]
end Go.Proofs.YtlfdhkahiaammaaDoor.Sha
namespace Go.Proofs.YtlfdhkahiaammaaDoor.Sha
open Go Go.Sse
set_option maxRecDepth 10000
set_option linter.unusedVariables false
set_option linter.unusedSimpArgs false
theorem shaK_lt : shaK.all (fun n => decide (n < 4294967296)) = true := by decide
theorem kAt_nat (i : Nat) : (kAt i).toNat = shaK.getD i 0 := by
  unfold kAt
  rw [BitVec.toNat_ofNat]
  refine Nat.mod_eq_of_lt ?_
  rw [List.getD_eq_getElem?_getD]
  cases h : shaK[i]? with
  | none => simp
  | some v => simpa using (List.all_eq_true.1 shaK_lt) v (List.mem_of_getElem? h)
theorem k_get (i : Nat) (h : i < 64) : (shaK.map fun (n : Nat) => Value.int .u32 (n : Int))[i]? = some (.int .u32 ((kAt i).toNat : Int)) := by
  have hl : i < shaK.length := h
  rw [List.getElem?_map, List.getElem?_eq_getElem hl, kAt_nat]
  simp [List.getD_eq_getElem?_getD, List.getElem?_eq_getElem hl]
theorem list8 {ws : List Wd} (t : S8) (hl : ws.length = 8) (h : ∀ j, j < 8 → ws.getD j 0 = t.list.getD j 0) : ws = t.list := by
  refine List.ext_getElem (by rw [hl]; rfl) fun j h1 h2 => ?_
  have := h j (by omega)
  simpa [List.getD_eq_getElem?_getD, List.getElem?_eq_getElem h1, List.getElem?_eq_getElem h2] using this
theorem add_step (s h vs : List Wd) (j : Nat) (h8 : j < 8) (hl : vs.length = 8) (hv : ∀ m, m < 8 → vs.getD m 0 = if m < j then s.getD m 0 + h.getD m 0 else s.getD m 0) (m : Nat) (hm : m < 8) :
    (vs.set j (vs.getD j 0 + h.getD j 0)).getD m 0 = if m < j + 1 then s.getD m 0 + h.getD m 0 else s.getD m 0 := by
  have e1 : (vs.set j (vs.getD j 0 + h.getD j 0)).getD m 0 = if m = j then vs.getD j 0 + h.getD j 0 else vs.getD m 0 := by
    simp only [List.getD_eq_getElem?_getD, List.getElem?_set]
    by_cases e : j = m
    · subst e; simp [hl, hm]
    · rw [if_neg e, if_neg (fun h => e h.symm)]
  rw [e1]
  by_cases e : m = j
  · subst e; rw [if_pos rfl, hv m hm, if_neg (Nat.lt_irrefl m), if_pos (Nat.lt_succ_self m)]
  · rw [if_neg e, hv m hm]
    by_cases hlt : m < j
    · rw [if_pos hlt, if_pos (by omega)]
    · rw [if_neg hlt, if_neg (by omega)]
set_option maxHeartbeats 4000000 in
theorem block_ok (h : S8) (bs : List UInt8) (hb : bs.length = 64) : FnC Tryd.prog 115 [.agg h.cells, .agg (bs.map byte)] [] (fun s L => s = .agg (blockS h bs).cells ∧ L = []) := by
  have c1 := spread_ok bs hb
  have hs := sched_len bs 64
  have hW : ∀ i, i < 64 → (sched bs 64).getD i 0 = W bs i := fun i hi => sched_get bs 64 i hi
  generalize sched bs 64 = ws at *
  refine FnC.intro Tryd.func115 rfl Tryd.ntmps115 rfl fun Z w0 hG => ?_
  focus (
    (refine W.seq ?_)
    (refine W.region ?_)
    (refine J.boxAg rfl rfl ?_; intro b')
    (refine J.boxAg rfl rfl ?_; intro b')
    (refine J.alloc (by simp only [List.map_cons, List.map_nil]; rfl) rfl rfl ?_; intro b')
    (refine J.nil ?_)
    (refine N.seq ?_)
    (refine W.seq ?_)
    (refine W.region ?_)
    (refine Jx.loadArr (by rw [List.length_map]; exact hb) rfl 1 rfl rfl ?_)
    (refine J.call (c1) rfl (evs_args rfl) rfl ?_; rintro _ _ ⟨rfl, rfl⟩; simp only [List.cons_append, List.nil_append, List.append_nil])
    (refine J.alloc (by simp only [List.map_cons, List.map_nil]; rfl) rfl rfl ?_; intro b')
    (refine J.storeArr (by rw [List.length_map]; exact hs) rfl rfl 0 rfl rfl rfl ?_)
    (refine J.nil ?_)
    (refine N.seq ?_)
    (refine W.seq ?_)
    (refine W.region ?_)
    (refine Jx.loadAll rfl 3 rfl rfl rfl ?_)
    (refine J.alloc (by simp only [List.map_cons, List.map_nil]; rfl) rfl rfl ?_; intro b')
    (refine J.storeAll rfl rfl rfl 0 rfl rfl rfl ?_)
    (refine J.nil ?_)
    (refine N.seq ?_)
    (refine W.seq ?_)
    (refine W.seq ?_)
    (refine W.region ?_)
    (refine Jx.move rfl rfl ?_)
    (refine J.nil ?_)
    (refine N.seq ?_)
    (refine W.block ?_)
    (refine id ?_; rotate_left))
  rename_i p2 p3 p4 p5
  refine W.loop (α := Nat × S8) (fun x => [(16, int x.1), (6, ptr b'), (5, ptr p5), (4, ptr p4), (2, ptr p2)]) (fun x => [.obj b' 139 x.2.cells, tabO p5 ws, .obj p4 139 (S8.cells ⟨0, 0, 0, 0, 0, 0, 0, 0⟩), blkO p3 bs, .obj p2 139 h.cells]) (fun x => x.1 ≤ 64 ∧ x.2 = rounds h bs x.1) (fun x => 64 - x.1) (0, h) ⟨by simp, rfl⟩ rfl ⟨ref0 rfl, ref0 rfl, ref0 rfl, ref0 rfl, ref0 rfl, trivial⟩ ?_
  rintro ⟨i, s⟩ ⟨hi, hst⟩
  simp only at hi hst ⊢
  by_cases h1 : i < 64
  · have hk := k_get i h1
    focus (
    (refine W.seq ?_)
    (refine W.region ?_)
    (refine Jx.lssI rfl rfl rfl ?_)
    (refine J.nil ?_)
    (refine N.seq ?_)
    (refine W.seq ?_)
    (refine W.condT rfl (by first | rfl | assumption | (exact decide_eq_true (by first | assumption | omega | rfl)) | (exact decide_eq_false (by first | assumption | omega | rfl)) | (simp; done) | (simp; omega)) ?_)
    (refine W.skip ?_)
    (refine N.seq ?_)
    (refine W.seq ?_)
    (refine W.block ?_)
    (refine W.seq ?_)
    (refine W.region ?_)
    (refine Jx.move rfl rfl ?_)
    (refine Jx.assign rfl rfl ?_)
    (refine J.nil ?_)
    (refine N.seq ?_)
    (refine W.seq ?_)
    (refine W.draw follows ?_)
    (refine JD.calm rfl (by decide +kernel) ?_)
    (refine Cx.indexArr rfl rfl (by decide) (by decide) rfl ?_)
    (refine Cx.load rfl 0 rfl rfl rfl ?_)
    (refine Cx.indexArr rfl rfl (by decide) (by decide) rfl ?_)
    (refine Cx.load rfl 0 rfl rfl rfl ?_)
    (refine Cx.assign rfl rfl ?_)
    (refine Cx.assign rfl rfl ?_)
    (refine SegC.nil ?_)
    (refine N.seq ?_)
    (refine W.seq ?_)
    (refine W.draw follows ?_)
    (refine JD.calm rfl (by decide +kernel) ?_)
    (refine Cx.indexArr rfl rfl (by decide) (by decide) rfl ?_)
    (refine Cx.load rfl 0 rfl rfl rfl ?_)
    (refine Cx.move rfl rfl ?_)
    (refine SegC.q (Qs.call (Lc := []) (rot_ok _ 6 (by decide)) (fun s L' h => h) (List.Perm.refl _) (evs_args rfl)) rfl ?_)
    (refine Cx.move rfl rfl ?_)
    (refine SegC.q (Qs.call (Lc := []) (rot_ok _ 11 (by decide)) (fun s L' h => h) (List.Perm.refl _) (evs_args rfl)) rfl ?_)
    (refine Cx.xorU rfl rfl rfl ?_)
    (refine Cx.move rfl rfl ?_)
    (refine SegC.q (Qs.call (Lc := []) (rot_ok _ 25 (by decide)) (fun s L' h => h) (List.Perm.refl _) (evs_args rfl)) rfl ?_)
    (refine Cx.xorU rfl rfl rfl ?_)
    (refine Cx.addU rfl rfl rfl ?_)
    (refine Cx.move rfl rfl ?_)
    (refine Cx.indexArr rfl rfl (by decide) (by decide) rfl ?_)
    (refine Cx.load rfl 0 rfl rfl rfl ?_)
    (refine Cx.andU rfl rfl rfl ?_)
    (refine Cx.move rfl rfl ?_)
    (refine Cx.notU rfl rfl ?_)
    (refine Cx.indexArr rfl rfl (by decide) (by decide) rfl ?_)
    (refine Cx.load rfl 0 rfl rfl rfl ?_)
    (refine Cx.andU rfl rfl rfl ?_)
    (refine Cx.xorU rfl rfl rfl ?_)
    (refine Cx.addU rfl rfl rfl ?_)
    (refine Cx.move rfl rfl ?_)
    (refine Cx.index0 i rfl rfl rfl (by omega) rfl ?_)
    (refine Cx.loadG rfl 0 rfl hk rfl ?_)
    (refine Cx.addU rfl rfl rfl ?_)
    (refine Cx.move rfl rfl ?_)
    (refine Cx.index0 i rfl rfl rfl (by omega) rfl ?_)
    (refine Cx.loadA u32 0 rfl 1 rfl (by omega) rfl ?_)
    (refine Cx.addU rfl rfl rfl ?_)
    (refine Cx.assign rfl rfl ?_)
    (refine SegC.nil ?_)
    (refine N.seq ?_)
    (refine W.seq ?_)
    (refine W.draw follows ?_)
    (refine JD.calm rfl (by decide +kernel) ?_)
    (refine Cx.move rfl rfl ?_)
    (refine SegC.q (Qs.call (Lc := []) (rot_ok _ 2 (by decide)) (fun s L' h => h) (List.Perm.refl _) (evs_args rfl)) rfl ?_)
    (refine Cx.move rfl rfl ?_)
    (refine SegC.q (Qs.call (Lc := []) (rot_ok _ 13 (by decide)) (fun s L' h => h) (List.Perm.refl _) (evs_args rfl)) rfl ?_)
    (refine Cx.xorU rfl rfl rfl ?_)
    (refine Cx.move rfl rfl ?_)
    (refine SegC.q (Qs.call (Lc := []) (rot_ok _ 22 (by decide)) (fun s L' h => h) (List.Perm.refl _) (evs_args rfl)) rfl ?_)
    (refine Cx.xorU rfl rfl rfl ?_)
    (refine Cx.move rfl rfl ?_)
    (refine Cx.indexArr rfl rfl (by decide) (by decide) rfl ?_)
    (refine Cx.load rfl 0 rfl rfl rfl ?_)
    (refine Cx.andU rfl rfl rfl ?_)
    (refine Cx.move rfl rfl ?_)
    (refine Cx.indexArr rfl rfl (by decide) (by decide) rfl ?_)
    (refine Cx.load rfl 0 rfl rfl rfl ?_)
    (refine Cx.andU rfl rfl rfl ?_)
    (refine Cx.xorU rfl rfl rfl ?_)
    (refine Cx.indexArr rfl rfl (by decide) (by decide) rfl ?_)
    (refine Cx.load rfl 0 rfl rfl rfl ?_)
    (refine Cx.indexArr rfl rfl (by decide) (by decide) rfl ?_)
    (refine Cx.load rfl 0 rfl rfl rfl ?_)
    (refine Cx.andU rfl rfl rfl ?_)
    (refine Cx.xorU rfl rfl rfl ?_)
    (refine Cx.addU rfl rfl rfl ?_)
    (refine Cx.assign rfl rfl ?_)
    (refine SegC.nil ?_)
    (refine N.seq ?_)
    (refine W.region ?_)
    (refine Jx.move rfl rfl ?_)
    (refine Jx.move rfl rfl ?_)
    (refine Jx.addU rfl rfl rfl ?_)
    (refine Jx.move rfl rfl ?_)
    (refine Jx.indexArr rfl rfl (by decide) (by decide) rfl ?_)
    (refine Jx.load rfl 0 rfl rfl rfl ?_)
    (refine Jx.indexArr rfl rfl (by decide) (by decide) rfl ?_)
    (refine Jx.load rfl 0 rfl rfl rfl ?_)
    (refine Jx.indexArr rfl rfl (by decide) (by decide) rfl ?_)
    (refine Jx.load rfl 0 rfl rfl rfl ?_)
    (refine Jx.move rfl rfl ?_)
    (refine Jx.addU rfl rfl rfl ?_)
    (refine Jx.move rfl rfl ?_)
    (refine Jx.indexArr rfl rfl (by decide) (by decide) rfl ?_)
    (refine Jx.load rfl 0 rfl rfl rfl ?_)
    (refine Jx.indexArr rfl rfl (by decide) (by decide) rfl ?_)
    (refine Jx.load rfl 0 rfl rfl rfl ?_)
    (refine Jx.buildA rfl rfl rfl rfl rfl ?_)
    (refine J.storeAll rfl rfl rfl 0 rfl rfl rfl ?_)
    (refine J.nil ?_)
    (refine N.seq ?_)
    (refine W.region ?_)
    (refine Jx.add64 rfl rfl (by omega) rfl ?_)
    (refine Jx.move rfl rfl ?_)
    (refine J.nil ?_)
    (refine id ?_; rotate_left))
    exact N.round (i + 1, s.round (kAt i) (ws.getD i 0)) ⟨by simp only; omega, by simp only; rw [hst, hW i h1]; rfl⟩ (by simp only; omega) rfl ⟨ref0 rfl, ref0 rfl, ref0 rfl, ref0 rfl, ref0 rfl, trivial⟩
  · have h64 : i = 64 := by omega
    rw [h64] at hst
    focus (
    (refine W.seq ?_)
    (refine W.region ?_)
    (refine Jx.lssI rfl rfl rfl ?_)
    (refine J.nil ?_)
    (refine N.seq ?_)
    (refine W.seq ?_)
    (refine W.condF rfl (by first | rfl | assumption | (exact decide_eq_true (by first | assumption | omega | rfl)) | (exact decide_eq_false (by first | assumption | omega | rfl)) | (simp; done) | (simp; omega)) ?_)
    (refine W.exit ?_)
    (refine N.seq ?_)
    (refine W.seq ?_)
    (refine W.seq ?_)
    (refine W.region ?_)
    (refine Jx.move rfl rfl ?_)
    (refine J.nil ?_)
    (refine N.seq ?_)
    (refine W.block ?_)
    (refine id ?_; rotate_left))
    refine W.loop (α := Nat × List Wd) (fun x => [(96, int x.1), (6, ptr b'), (4, ptr p4), (2, ptr p2)]) (fun x => [.obj b' 139 (x.2.map u32), tabO p5 ws, .obj p4 139 (S8.cells ⟨0, 0, 0, 0, 0, 0, 0, 0⟩), blkO p3 bs, .obj p2 139 (h.list.map u32)])
      (fun x => x.1 ≤ 8 ∧ x.2.length = 8 ∧ ∀ j, j < 8 → x.2.getD j 0 = if j < x.1 then s.list.getD j 0 + h.list.getD j 0 else s.list.getD j 0) (fun x => 8 - x.1) (0, s.list) ⟨by simp, rfl, fun j hj => by simp⟩ rfl ⟨ref0 rfl, ref0 rfl, ref0 rfl, ref0 rfl, trivial⟩ ?_
    rintro ⟨j, vs⟩ ⟨hj, hl, hv⟩
    simp only at hj hl hv ⊢
    by_cases h8 : j < 8
    · focus (
    (refine W.seq ?_)
    (refine W.region ?_)
    (refine Jx.lssI rfl rfl rfl ?_)
    (refine J.nil ?_)
    (refine N.seq ?_)
    (refine W.seq ?_)
    (refine W.condT rfl (by first | rfl | assumption | (exact decide_eq_true (by first | assumption | omega | rfl)) | (exact decide_eq_false (by first | assumption | omega | rfl)) | (simp; done) | (simp; omega)) ?_)
    (refine W.skip ?_)
    (refine N.seq ?_)
    (refine W.seq ?_)
    (refine W.block ?_)
    (refine W.seq ?_)
    (refine W.region ?_)
    (refine Jx.move rfl rfl ?_)
    (refine Jx.assign rfl rfl ?_)
    (refine J.nil ?_)
    (refine N.seq ?_)
    (refine W.draw follows ?_)
    (refine JD.upto (n := 8) rfl (by decide +kernel) (by decide +kernel) rfl rfl ?_)
    (refine Cx.move rfl rfl ?_)
    (refine Cx.index0 j rfl rfl rfl (by omega) rfl ?_)
    (refine Cx.loadA u32 0 rfl 0 rfl (by omega) rfl ?_)
    (refine Cx.move rfl rfl ?_)
    (refine Cx.index0 j rfl rfl rfl (by omega) rfl ?_)
    (refine Cx.loadA u32 0 rfl 4 rfl h8 rfl ?_)
    (refine Cx.addU rfl rfl rfl ?_)
    (refine Cx.index0 j rfl rfl rfl (by omega) rfl ?_)
    (refine SegC.nil ?_)
    (refine J.storeA u32 (vs.getD j 0 + h.list.getD j 0) rfl rfl (One.val rfl) 0 rfl (by omega) rfl ?_)
    (refine J.nil ?_)
    (refine N.seq ?_)
    (refine W.region ?_)
    (refine Jx.add64 rfl rfl (by omega) rfl ?_)
    (refine Jx.move rfl rfl ?_)
    (refine J.nil ?_)
    (refine id ?_; rotate_left))
      refine N.round (j + 1, vs.set j (vs.getD j 0 + h.list.getD j 0)) ⟨by simp only; omega, by simp only [List.length_set]; exact hl, fun m hm => ?_⟩ (by simp only; omega) rfl ⟨ref0 rfl, ref0 rfl, ref0 rfl, ref0 rfl, trivial⟩
      exact add_step s.list h.list vs j h8 hl hv m hm
    · have e : vs = ((rounds h bs 64).add h).list := by
        rw [← hst]
        refine list8 (s.add h) hl fun m hm => ?_
        rw [hv m hm, if_pos (by omega)]
        match m, hm with
        | 0, _ => rfl
        | 1, _ => rfl
        | 2, _ => rfl
        | 3, _ => rfl
        | 4, _ => rfl
        | 5, _ => rfl
        | 6, _ => rfl
        | 7, _ => rfl
      focus (
    (refine W.seq ?_)
    (refine W.region ?_)
    (refine Jx.lssI rfl rfl rfl ?_)
    (refine J.nil ?_)
    (refine N.seq ?_)
    (refine W.seq ?_)
    (refine W.condF rfl (by first | rfl | assumption | (exact decide_eq_true (by first | assumption | omega | rfl)) | (exact decide_eq_false (by first | assumption | omega | rfl)) | (simp; done) | (simp; omega)) ?_)
    (refine W.exit ?_)
    (refine N.seq ?_)
    (refine W.seq ?_)
    (refine W.region ?_)
    (refine Jx.loadArr (by rw [List.length_map]; exact hl) rfl 0 rfl rfl ?_)
    (refine J.storeArr (by rw [List.length_map]; exact hl) rfl rfl 2 rfl rfl rfl ?_)
    (refine J.nil ?_)
    (refine N.seq ?_)
    (refine W.ret ?_)
    (refine id ?_; rotate_left))
      refine N.retD (rs := [.cell 4 139]) (L1 := []) rfl (.cell rfl 2 rfl (by rw [List.length_map, hl]; infer_instance) .nil) (List.nil_sublist _) ⟨?_, rfl⟩
      rw [e]
      unfold blockS
      generalize rounds h bs 64 = r
      rfl
end Go.Proofs.YtlfdhkahiaammaaDoor.Sha
namespace Go.Proofs.YtlfdhkahiaammaaDoor.Sha
open Go Go.Sse
set_option linter.unusedVariables false
set_option linter.unusedSimpArgs false
set_option maxRecDepth 10000
def part (b : List UInt8) (j : Nat) : Nat → Wd
  | 0 => 0
  | n + 1 => part b j n * 256#32 + byteAt b (4 * j + n)
end Go.Proofs.YtlfdhkahiaammaaDoor.Sha
namespace Go.Proofs.YtlfdhkahiaammaaDoor.Sha
open Go Go.Sse
set_option maxRecDepth 10000
set_option linter.unusedVariables false
set_option linter.unusedSimpArgs false
end Go.Proofs.YtlfdhkahiaammaaDoor.Sha
namespace Go.Proofs.YtlfdhkahiaammaaDoor.Sha
open Go Go.Sse
set_option maxRecDepth 10000
set_option linter.unusedVariables false
set_option linter.unusedSimpArgs false
abbrev tU8 : Nat := 5
theorem told_get (h : S8) (i k : Nat) (hi : i < 8) (hk : k < 4) : (toldS h).getD (4 * i + k) 0 = (wordB (h.list.getD i 0)).getD k 0 := by
  match i, hi, k, hk with
  | 0, _, 0, _ => rfl
  | 0, _, 1, _ => rfl
  | 0, _, 2, _ => rfl
  | 0, _, 3, _ => rfl
  | 1, _, 0, _ => rfl
  | 1, _, 1, _ => rfl
  | 1, _, 2, _ => rfl
  | 1, _, 3, _ => rfl
  | 2, _, 0, _ => rfl
  | 2, _, 1, _ => rfl
  | 2, _, 2, _ => rfl
  | 2, _, 3, _ => rfl
  | 3, _, 0, _ => rfl
  | 3, _, 1, _ => rfl
  | 3, _, 2, _ => rfl
  | 3, _, 3, _ => rfl
  | 4, _, 0, _ => rfl
  | 4, _, 1, _ => rfl
  | 4, _, 2, _ => rfl
  | 4, _, 3, _ => rfl
  | 5, _, 0, _ => rfl
  | 5, _, 1, _ => rfl
  | 5, _, 2, _ => rfl
  | 5, _, 3, _ => rfl
  | 6, _, 0, _ => rfl
  | 6, _, 1, _ => rfl
  | 6, _, 2, _ => rfl
  | 6, _, 3, _ => rfl
  | 7, _, 0, _ => rfl
  | 7, _, 1, _ => rfl
  | 7, _, 2, _ => rfl
  | 7, _, 3, _ => rfl
theorem set4_get (bs : List UInt8) (i : Nat) (a b c d : UInt8) (hl : bs.length = 32) (hi : i < 8) (m : Nat) :
    ((((bs.set (4 * i) a).set (4 * i + 1) b).set (4 * i + 2) c).set (4 * i + 3) d).getD m 0 = if m = 4 * i then a else if m = 4 * i + 1 then b else if m = 4 * i + 2 then c else if m = 4 * i + 3 then d else bs.getD m 0 := by
  simp only [List.getD_eq_getElem?_getD, List.getElem?_set, List.length_set, hl]
  by_cases h0 : m = 4 * i
  · subst h0; simp [show ¬ 4 * i + 1 = 4 * i by omega, show ¬ 4 * i + 2 = 4 * i by omega, show ¬ 4 * i + 3 = 4 * i by omega, show 4 * i < 32 by omega]
  · by_cases h1 : m = 4 * i + 1
    · subst h1; simp [show ¬ 4 * i + 2 = 4 * i + 1 by omega, show ¬ 4 * i + 3 = 4 * i + 1 by omega, show 4 * i + 1 < 32 by omega]
    · by_cases h2 : m = 4 * i + 2
      · subst h2; simp [show ¬ 4 * i + 3 = 4 * i + 2 by omega, show 4 * i + 2 < 32 by omega]
      · by_cases h3 : m = 4 * i + 3
        · subst h3; simp [show 4 * i + 3 < 32 by omega]
        · simp [h0, h1, h2, h3, show ¬ 4 * i = m by omega, show ¬ 4 * i + 1 = m by omega, show ¬ 4 * i + 2 = m by omega, show ¬ 4 * i + 3 = m by omega]
theorem told_step (h : S8) (bs : List UInt8) (i : Nat) (hi : i < 8) (hl : bs.length = 32) (hb : ∀ m, m < 4 * i → bs.getD m 0 = (toldS h).getD m 0) (m : Nat) (hm : m < 4 * (i + 1)) :
    ((((bs.set (4 * i) ((wordB (h.list.getD i 0)).getD 0 0)).set (4 * i + 1) ((wordB (h.list.getD i 0)).getD 1 0)).set (4 * i + 2) ((wordB (h.list.getD i 0)).getD 2 0)).set (4 * i + 3) ((wordB (h.list.getD i 0)).getD 3 0)).getD m 0 = (toldS h).getD m 0 := by
  rw [set4_get _ _ _ _ _ _ hl hi]
  by_cases h0 : m = 4 * i
  · rw [if_pos h0, h0, ← told_get h i 0 hi (by omega)]; rfl
  · rw [if_neg h0]
    by_cases h1 : m = 4 * i + 1
    · rw [if_pos h1, h1, ← told_get h i 1 hi (by omega)]
    · rw [if_neg h1]
      by_cases h2 : m = 4 * i + 2
      · rw [if_pos h2, h2, ← told_get h i 2 hi (by omega)]
      · rw [if_neg h2]
        by_cases h3 : m = 4 * i + 3
        · rw [if_pos h3, h3, ← told_get h i 3 hi (by omega)]
        · rw [if_neg h3]; exact hb m (by omega)
theorem told_ext (h : S8) (bs : List UInt8) (hl : bs.length = 32) (hb : ∀ m, m < 32 → bs.getD m 0 = (toldS h).getD m 0) : bs = toldS h := by
  refine List.ext_getElem (by rw [hl, told_len]) fun m h1 h2 => ?_
  have := hb m (by omega)
  simpa [List.getD_eq_getElem?_getD, List.getElem?_eq_getElem h1, List.getElem?_eq_getElem h2] using this
set_option maxHeartbeats 4000000 in
theorem told_ok (h : S8) : FnC Tryd.prog 113 [.agg h.cells] [] (fun s L => s = str (toldS h) ∧ L = []) := by
  refine FnC.intro Tryd.func113 rfl Tryd.ntmps113 rfl fun Z w0 hG => ?_
  focus (
    (refine W.seq ?_)
    (refine W.region ?_)
    (refine J.boxAg rfl rfl ?_; intro b')
    (refine Jx.assign rfl rfl ?_)
    (refine J.nil ?_)
    (refine N.seq ?_)
    (refine W.seq ?_)
    (refine W.region ?_)
    (refine J.alloc (by simp only [List.map_cons, List.map_nil]; rfl) rfl rfl ?_; intro b')
    (refine J.nil ?_)
    (refine N.seq ?_)
    (refine W.seq ?_)
    (refine W.seq ?_)
    (refine W.region ?_)
    (refine Jx.loadAll rfl 1 rfl rfl rfl ?_)
    (refine Jx.move rfl rfl ?_)
    (refine J.nil ?_)
    (refine N.seq ?_)
    (refine W.block ?_)
    (refine id ?_; rotate_left))
  rename_i p1
  refine W.loop (α := Nat × List UInt8) (fun x => [(7, int x.1), (6, .agg (h.list.map u32)), (3, ptr b'), (1, ptr p1)]) (fun x => [.obj b' 161 (x.2.map byte), .obj p1 139 h.cells]) (fun x => x.1 ≤ 8 ∧ x.2.length = 32 ∧ ∀ m, m < 4 * x.1 → x.2.getD m 0 = (toldS h).getD m 0) (fun x => 8 - x.1) (0, List.replicate 32 0) ⟨by simp, rfl, fun m hm => by simp at hm⟩ rfl ⟨ref0 rfl, ref0 rfl, ref0 rfl, ref0 rfl, trivial⟩ ?_
  rintro ⟨i, bs⟩ ⟨hi, hl, hb⟩
  simp only at hi hl hb ⊢
  by_cases h1 : i < 8
  · focus (
    (refine W.seq ?_)
    (refine W.region ?_)
    (refine Jx.lssI rfl rfl rfl ?_)
    (refine J.nil ?_)
    (refine N.seq ?_)
    (refine W.seq ?_)
    (refine W.condT rfl (by first | rfl | assumption | (exact decide_eq_true (by first | assumption | omega | rfl)) | (exact decide_eq_false (by first | assumption | omega | rfl)) | (simp; done) | (simp; omega)) ?_)
    (refine W.skip ?_)
    (refine N.seq ?_)
    (refine W.seq ?_)
    (refine W.block ?_)
    (refine W.seq ?_)
    (refine W.region ?_)
    (refine Jx.move rfl rfl ?_)
    (refine Jx.indexAg u32 0 i rfl rfl rfl (by omega) (by exact h1) rfl ?_)
    (refine Jx.assign rfl rfl ?_)
    (refine Jx.assign rfl rfl ?_)
    (refine J.nil ?_)
    (refine N.seq ?_)
    (refine W.region ?_)
    (refine Jx.move rfl rfl ?_)
    (refine Jx.mul64 rfl rfl (by omega) rfl ?_)
    (refine Jx.move rfl rfl ?_)
    (refine Jx.mul64 rfl rfl (by omega) rfl ?_)
    (refine Jx.add64 rfl rfl (by omega) rfl ?_)
    (refine Jx.move rfl rfl ?_)
    (refine Jx.mul64 rfl rfl (by omega) rfl ?_)
    (refine Jx.add64 rfl rfl (by omega) rfl ?_)
    (refine Jx.move rfl rfl ?_)
    (refine Jx.mul64 rfl rfl (by omega) rfl ?_)
    (refine Jx.add64 rfl rfl (by omega) rfl ?_)
    (refine Jx.move rfl rfl ?_)
    (refine Jx.shrU rfl rfl (by decide) rfl ?_)
    (refine Jx.convByte rfl rfl rfl ?_)
    (refine Jx.move rfl rfl ?_)
    (refine Jx.shrU rfl rfl (by decide) rfl ?_)
    (refine Jx.convByte rfl rfl rfl ?_)
    (refine Jx.move rfl rfl ?_)
    (refine Jx.shrU rfl rfl (by decide) rfl ?_)
    (refine Jx.convByte rfl rfl rfl ?_)
    (refine Jx.move rfl rfl ?_)
    (refine Jx.convByte rfl rfl rfl ?_)
    (refine Jx.index0 (4 * i) rfl rfl (by omega) (by omega) rfl ?_)
    (refine J.storeA byte ((wordB (h.list.getD i 0)).getD 0 0) rfl rfl (One.val rfl) 0 rfl (by (try simp only [List.length_set]); omega) rfl ?_)
    (refine Jx.index0 (4 * i + 1) rfl rfl (by omega) (by omega) rfl ?_)
    (refine J.storeA byte ((wordB (h.list.getD i 0)).getD 1 0) rfl rfl (One.val rfl) 0 rfl (by (try simp only [List.length_set]); omega) rfl ?_)
    (refine Jx.index0 (4 * i + 2) rfl rfl (by omega) (by omega) rfl ?_)
    (refine J.storeA byte ((wordB (h.list.getD i 0)).getD 2 0) rfl rfl (One.val rfl) 0 rfl (by (try simp only [List.length_set]); omega) rfl ?_)
    (refine Jx.index0 (4 * i + 3) rfl rfl (by omega) (by omega) rfl ?_)
    (refine J.storeA byte ((wordB (h.list.getD i 0)).getD 3 0) rfl rfl (One.val rfl) 0 rfl (by (try simp only [List.length_set]); omega) rfl ?_)
    (refine J.nil ?_)
    (refine N.seq ?_)
    (refine W.region ?_)
    (refine Jx.add64 rfl rfl (by omega) rfl ?_)
    (refine Jx.move rfl rfl ?_)
    (refine J.nil ?_)
    (refine id ?_; rotate_left))
    exact N.round (i + 1, (((bs.set (4 * i) ((wordB (h.list.getD i 0)).getD 0 0)).set (4 * i + 1) ((wordB (h.list.getD i 0)).getD 1 0)).set (4 * i + 2) ((wordB (h.list.getD i 0)).getD 2 0)).set (4 * i + 3) ((wordB (h.list.getD i 0)).getD 3 0)) ⟨by simp only; omega, by simp only [List.length_set]; exact hl, fun m hm => told_step h bs i h1 hl hb m hm⟩ (by simp only; omega) rfl ⟨ref0 rfl, ref0 rfl, ref0 rfl, ref0 rfl, trivial⟩
  · have h8 : i = 8 := by omega
    have e : bs = toldS h := told_ext h bs hl fun m hm => hb m (by omega)
    focus (
    (refine W.seq ?_)
    (refine W.region ?_)
    (refine Jx.lssI rfl rfl rfl ?_)
    (refine J.nil ?_)
    (refine N.seq ?_)
    (refine W.seq ?_)
    (refine W.condF rfl (by first | rfl | assumption | (exact decide_eq_true (by first | assumption | omega | rfl)) | (exact decide_eq_false (by first | assumption | omega | rfl)) | (simp; done) | (simp; omega)) ?_)
    (refine W.exit ?_)
    (refine N.seq ?_)
    (refine W.seq ?_)
    (refine W.region ?_)
    (refine Jx.sliceArr rfl rfl ?_)
    (refine Jx.bytesStrObj bs rfl 0 rfl hl (fun k hk => by rw [Nat.zero_add]; exact getElem?_map_lt byte bs 0 k (by omega)) rfl ?_)
    (refine Jx.assign rfl rfl ?_)
    (refine J.nil ?_)
    (refine N.seq ?_)
    (refine W.ret ?_)
    (refine id ?_; rotate_left))
    exact N.retD (rs := [.tmp 2]) (L1 := []) rfl (.tmp rfl .nil) (List.nil_sublist _) ⟨by rw [e]; rfl, rfl⟩
theorem el_byte (m : List UInt8) (j : Nat) (hj : j < m.length) : (elOf encB 0 m j).getD 0 .any = (m.map byte).getD j .any := by
  simp [elOf, encB, List.getD_eq_getElem?_getD, List.getElem?_map, List.getElem?_eq_getElem hj]
set_option maxHeartbeats 4000000 in
theorem blocks_ok (s0 : S8) (l0 : List UInt8) (hl0 : l0.length ≤ 4294967296) : FnC Tryd.prog 112 [.agg s0.cells, bsl l0] [] (fun s L => ∃ v, v.oneCell' = true ∧ s = .tup [.agg (blocksS s0 l0).1.cells, .val v] ∧ L = [.row v tU8 1 (blocksS s0 l0).2.length (elOf encB 0 (blocksS s0 l0).2)]) := by
  refine FnC.intro Tryd.func112 rfl Tryd.ntmps112 rfl fun Z w0 hG => ?_
  focus (
    (refine W.seq ?_)
    (refine W.region ?_)
    (refine J.boxAg rfl rfl ?_; intro b')
    (refine J.alloc (by simp only [List.map_cons, List.map_nil]; rfl) rfl rfl ?_; intro b')
    (refine Jx.assign rfl rfl ?_)
    (refine J.nil ?_)
    (refine N.seq ?_)
    (refine W.seq ?_)
    (refine W.block ?_)
    (refine id ?_; rotate_left))
  rename_i p2
  refine W.loop (α := S8 × List UInt8) (fun x => [(1, bsl x.2), (2, ptr p2), (4, ptr b')]) (fun x => [.obj b' 139 (S8.cells ⟨0, 0, 0, 0, 0, 0, 0, 0⟩), .obj p2 139 x.1.cells]) (fun x => blocksS x.1 x.2 = blocksS s0 l0 ∧ x.2.length ≤ 4294967296) (fun x => x.2.length) (s0, l0) ⟨rfl, hl0⟩ rfl ⟨ref0 rfl, ref0 rfl, ref0 rfl, trivial⟩ ?_
  rintro ⟨s, l⟩ ⟨he, hl⟩
  simp only at he hl ⊢
  by_cases h1 : 64 ≤ l.length
  · have hlen : (l.take 64).length = 64 := by rw [List.length_take]; omega
    focus (
    (refine W.seq ?_)
    (refine W.seq ?_)
    (refine W.region ?_)
    (refine Jx.move rfl rfl ?_)
    (refine Jx.lenSl rfl rfl ?_)
    (refine Jx.geqI rfl rfl rfl ?_)
    (refine J.nil ?_)
    (refine N.seq ?_)
    (refine W.condT rfl (by first | rfl | assumption | (exact decide_eq_true (by first | assumption | omega | rfl)) | (exact decide_eq_false (by first | assumption | omega | rfl)) | (simp; done) | (simp; omega)) ?_)
    (refine W.skip ?_)
    (refine N.seq ?_)
    (refine W.block ?_)
    (refine W.seq ?_)
    (refine W.draw follows ?_)
    (refine JD.upto (n := 6) rfl (by decide +kernel) (by decide +kernel) rfl rfl ?_)
    (refine Cx.loadAll rfl 1 rfl rfl rfl ?_)
    (refine Cx.move rfl rfl ?_)
    (refine Cx.takeL 64 rfl rfl rfl h1 rfl ?_)
    (refine Cx.sliceArrPtr ((l.take 64).map byte) rfl (by omega) (by decide) (by rw [List.length_map]; exact hlen) (fun j hj => el_byte (l.take 64) j (by omega)) rfl ?_)
    (refine Cx.loadPPag rfl (List.take_of_length_le (by rw [List.length_map]; omega)) (by rw [List.length_map]; exact hlen) rfl ?_)
    (refine SegC.q (Qs.call (Lc := []) (block_ok s (l.take 64) hlen) (fun s L' h => h) (List.Perm.refl _) (evs_args rfl)) rfl ?_)
    (refine SegC.nil ?_)
    (refine J.storeAll rfl rfl rfl 1 rfl rfl rfl ?_)
    (refine J.nil ?_)
    (refine N.seq ?_)
    (refine W.region ?_)
    (refine Jx.move rfl rfl ?_)
    (refine Jx.dropL 64 rfl rfl rfl h1 rfl ?_)
    (refine Jx.assign rfl rfl ?_)
    (refine J.nil ?_)
    (refine N.blockNormal ?_)
    (refine id ?_; rotate_left))
    exact N.round (blockS s (l.take 64), l.drop 64) ⟨by simp only; rw [← blocksS_ge h1, he], by simp only [List.length_drop]; omega⟩ (by simp only [List.length_drop]; omega) rfl ⟨ref0 rfl, ref0 rfl, ref0 rfl, trivial⟩
  · have e2 : blocksS s l = (s, l) := blocksS_lt (by omega)
    rw [e2] at he
    focus (
    (refine W.seq ?_)
    (refine W.seq ?_)
    (refine W.region ?_)
    (refine Jx.move rfl rfl ?_)
    (refine Jx.lenSl rfl rfl ?_)
    (refine Jx.geqI rfl rfl rfl ?_)
    (refine J.nil ?_)
    (refine N.seq ?_)
    (refine W.condF rfl (by first | rfl | assumption | (exact decide_eq_true (by first | assumption | omega | rfl)) | (exact decide_eq_false (by first | assumption | omega | rfl)) | (simp; done) | (simp; omega)) ?_)
    (refine W.exit ?_)
    (refine N.seq ?_)
    (refine W.seq ?_)
    (refine W.draw follows ?_)
    (refine JD.begin 5 rfl ?_; refine JP.more [0, 1] _ rfl (by decide +kernel) ?_)
    (refine Cx.loadAll rfl 1 rfl rfl rfl ?_)
    (refine Cx.move rfl rfl ?_)
    (refine SegC.nil ?_)
    (refine JP.rowNil tU8 1 (elOf encB 0 []) ?_; refine JP.append (idx := [0, 1]) (m := []) (m2 := l) 2 [18] [1, 2] [0] (by decide +kernel) rfl ?_ rfl (SrcOK.sl rfl) rfl rfl (by simp only [maxLen, List.length_nil]; omega) rfl ?_; rotate_left; intro v' hv'; simp only [List.nil_append]; rotate_left)
    (refine Cx.loadAll rfl 2 rfl rfl rfl ?_)
    (refine Cx.move rfl rfl ?_)
    (refine SegC.nil ?_)
    (refine Ag.cons rfl ?_)
    (refine Ag.cons rfl ?_)
    (refine Ag.nil)
    (refine JP.storeAll (idx := [0]) 3 [4, 17] [0, 1, 2, 3] [] (by decide +kernel) rfl ?_ rfl rfl rfl 1 rfl rfl rfl ?_)
    (refine Cx.loadAll rfl 2 rfl rfl rfl ?_)
    (refine SegC.nil ?_)
    (refine Ag.cons rfl ?_)
    (refine Ag.nil)
    (refine JP.tail (idx := []) 4 (by decide +kernel) (by decide +kernel) rfl rfl ?_ ?_)
    (refine SegC.nil ?_)
    (refine Ag.nil)
    (refine Jx.assign rfl rfl ?_)
    (refine J.nil ?_)
    (refine N.seq ?_)
    (refine W.ret ?_)
    (refine id ?_; rotate_left))
    refine N.retD (rs := [.cell 4 139, .tmp 5]) (L1 := [.row v' tU8 1 l.length (elOf encB 0 l)]) rfl (.cell rfl 1 rfl inferInstance (.tmp rfl .nil)) (by simp) ⟨v', hv', ?_, ?_⟩
    · rw [← he]; rfl
    · rw [← he]
end Go.Proofs.YtlfdhkahiaammaaDoor.Sha
namespace Go.Proofs.YtlfdhkahiaammaaDoor.Sha
open Go Go.Sse
set_option maxRecDepth 10000
set_option linter.unusedVariables false
set_option linter.unusedSimpArgs false
abbrev tHash : Nat := 157
abbrev hraw (b : Nat) (v : Value) (s : S8) (tail : List UInt8) (n : Nat) : List Own :=
  [.row v tU8 1 tail.length (elOf encB 0 tail), .obj b tHash [u32 s.a, u32 s.b, u32 s.c, u32 s.d, u32 s.e, u32 s.f, u32 s.g, u32 s.h, .val v, int n]]
theorem new_ok : FnC Tryd.prog 104 [] [] (fun r L => ∃ b v, r = ptr b ∧ L = hraw b v first8 [] 0) := by
  refine FnC.intro Tryd.func104 rfl Tryd.ntmps104 rfl fun Z w0 hG => ?_
  focus (
    (refine W.seq ?_)
    (refine W.region ?_)
    (refine Jx.assign rfl rfl ?_)
    (refine J.nil ?_)
    (refine N.seq ?_)
    (refine W.seq ?_)
    (refine W.region ?_)
    (refine J.call (first_ok) rfl (evs_args rfl) rfl ?_; rintro _ _ ⟨rfl, rfl⟩; simp only [List.cons_append, List.nil_append, List.append_nil])
    (refine Jx.buildB rfl rfl rfl rfl rfl ?_)
    (refine J.boxAg rfl rfl ?_; intro b')
    (refine Jx.assign rfl rfl ?_)
    (refine J.nil ?_)
    (refine N.seq ?_)
    (refine W.ret ?_)
    (refine id ?_; rotate_left))
  refine N.rowNil tU8 1 (elOf encB 0 []) ?_
  exact N.ret (rs := [.tmp 0]) rfl (.tmp rfl .nil) ⟨b', .slice none 0 0, rfl, rfl⟩
set_option maxHeartbeats 4000000 in
theorem write_ok (b : Nat) (v : Value) (s : S8) (tail : List UInt8) (n : Nat) (x : List UInt8) (h1 : tail.length < 64) (h2 : n ≤ 2147483648) (h3 : x.length ≤ 2147483648) :
    FnC Tryd.prog 105 [ptr b, str x] (hraw b v s tail n) (fun r L => ∃ v', L = hraw b v' (blocksS s (tail ++ x)).1 (blocksS s (tail ++ x)).2 (n + x.length)) := by
  have c := blocks_ok s (tail ++ x) (by simp only [List.length_append]; omega)
  have hmax : (tail ++ x).length ≤ maxLen := by simp only [List.length_append, maxLen]; omega
  have hb : tail.length + x.length ≤ maxLen ∧ (tail.length + x.length) * 1 ≤ 140737488355328 := by simp only [maxLen]; omega
  generalize blocksS s (tail ++ x) = p at *
  obtain ⟨s2, tl2⟩ := p
  refine FnC.intro Tryd.func105 rfl Tryd.ntmps105 rfl fun Z w0 hG => ?_
  focus (
    (refine W.seq ?_)
    (refine W.region ?_)
    (refine Jx.move rfl rfl ?_)
    (refine Jx.nilCheck rfl rfl ?_)
    (refine Jx.fieldAddr rfl rfl ?_)
    (refine Jx.load rfl 1 rfl rfl rfl ?_)
    (refine Jx.move rfl rfl ?_)
    (refine Jx.lenS rfl rfl ?_)
    (refine Jx.add64 rfl rfl (by omega) rfl ?_)
    (refine Jx.nilCheck rfl rfl ?_)
    (refine Jx.fieldAddr rfl rfl ?_)
    (refine J.store rfl rfl (One.val rfl) 1 rfl rfl rfl rfl ?_)
    (refine J.nil ?_)
    (refine N.seq ?_)
    (refine W.draw follows ?_)
    (refine JD.begin 22 rfl ?_; refine JP.more [0, 1, 2, 3, 4, 5, 6, 7, 8, 9, 10] _ rfl (by decide +kernel) ?_)
    (refine Cx.move rfl rfl ?_)
    (refine Cx.move rfl rfl ?_)
    (refine Cx.move rfl rfl ?_)
    (refine Cx.nilCheck rfl rfl ?_)
    (refine Cx.fieldAddr rfl rfl ?_)
    (refine Cx.loadAg rfl 1 rfl rfl rfl rfl ?_)
    (refine Cx.move rfl rfl ?_)
    (refine Cx.nilCheck rfl rfl ?_)
    (refine Cx.fieldAddr rfl rfl ?_)
    (refine Cx.load rfl 1 rfl rfl rfl ?_)
    (refine Cx.move rfl rfl ?_)
    (refine SegC.nil ?_)
    (refine JP.append (idx := [0, 1, 2, 3, 4, 5, 6, 7, 8, 9, 10]) (m := tail) (m2 := x) 11 [23, 24] [6, 7, 8, 9, 10, 11] [0, 1, 2, 3, 4, 5] (by decide +kernel) rfl ?_ rfl (SrcOK.str rfl) rfl rfl hb rfl ?_; rotate_left; intro v' hv'; refine JP.freeze 25 rfl (by decide +kernel) hmax ?_; rotate_left)
    (refine Cx.move rfl rfl ?_)
    (refine Cx.move rfl rfl ?_)
    (refine Cx.move rfl rfl ?_)
    (refine Cx.nilCheck rfl rfl ?_)
    (refine Cx.fieldAddr rfl rfl ?_)
    (refine Cx.loadAg rfl 1 rfl rfl rfl rfl ?_)
    (refine Cx.move rfl rfl ?_)
    (refine Cx.nilCheck rfl rfl ?_)
    (refine Cx.fieldAddr rfl rfl ?_)
    (refine Cx.load rfl 1 rfl rfl rfl ?_)
    (refine Cx.move rfl rfl ?_)
    (refine SegC.nil ?_)
    (refine Ag.cons rfl ?_)
    (refine Ag.cons rfl ?_)
    (refine Ag.cons rfl ?_)
    (refine Ag.cons rfl ?_)
    (refine Ag.cons rfl ?_)
    (refine Ag.cons rfl ?_)
    (refine Ag.cons rfl ?_)
    (refine Ag.cons rfl ?_)
    (refine Ag.cons rfl ?_)
    (refine Ag.cons rfl ?_)
    (refine Ag.cons rfl ?_)
    (refine Ag.nil)
    (refine JP.call (idx := [0, 1, 2, 3, 4, 5]) (Lc := []) 12 [19, 25] [2, 3, 4, 5, 6, 7, 8, 9, 10, 11, 12] [0, 1] c rfl (by decide +kernel) rfl ?_ (evs_args rfl) rfl ?_; rotate_left; rintro _ _ ⟨v2, hv2, rfl, rfl⟩; simp only [List.cons_append, List.nil_append]; refine JP.more [13, 14, 15, 16, 17] _ rfl (by decide +kernel) ?_; rotate_left)
    (refine Cx.move rfl rfl ?_)
    (refine Cx.move rfl rfl ?_)
    (refine Cx.move rfl rfl ?_)
    (refine Cx.nilCheck rfl rfl ?_)
    (refine Cx.fieldAddr rfl rfl ?_)
    (refine Cx.loadAg rfl 0 rfl rfl rfl rfl ?_)
    (refine SegC.nil ?_)
    (refine Ag.cons rfl ?_)
    (refine Ag.cons rfl ?_)
    (refine Ag.cons rfl ?_)
    (refine Ag.cons rfl ?_)
    (refine Ag.cons rfl ?_)
    (refine Ag.cons rfl ?_)
    (refine Ag.nil)
    (refine Cx.move rfl rfl ?_)
    (refine Cx.extract rfl rfl rfl ?_)
    (refine Cx.extract rfl rfl rfl ?_)
    (refine Cx.nilCheck rfl rfl ?_)
    (refine Cx.fieldAddr rfl rfl ?_)
    (refine SegC.nil ?_)
    (refine JP.storeAg (idx := [0, 1, 13, 14, 15, 16, 17]) 18 [30, 27] [0, 2, 3, 4, 5, 6, 7, 8, 9, 10, 11, 12, 13, 14, 16, 17, 18] [1, 15] (by decide +kernel) rfl ?_ rfl rfl rfl 1 rfl rfl rfl rfl ?_; rotate_left; refine JP.more [19, 20] _ rfl (by decide +kernel) ?_; rotate_left)
    (refine Cx.move rfl rfl ?_)
    (refine Cx.move rfl rfl ?_)
    (refine Cx.move rfl rfl ?_)
    (refine Cx.extract rfl rfl rfl ?_)
    (refine Cx.extract rfl rfl rfl ?_)
    (refine Cx.nilCheck rfl rfl ?_)
    (refine Cx.fieldAddr rfl rfl ?_)
    (refine SegC.nil ?_)
    (refine Ag.cons rfl ?_)
    (refine Ag.cons rfl ?_)
    (refine Ag.cons rfl ?_)
    (refine Ag.cons rfl ?_)
    (refine Ag.cons rfl ?_)
    (refine Ag.cons rfl ?_)
    (refine Ag.cons rfl ?_)
    (refine Ag.nil)
    (refine Cx.nilCheck rfl rfl ?_)
    (refine Cx.fieldAddr rfl rfl ?_)
    (refine SegC.nil ?_)
    (refine JP.store (idx := [1, 15, 19, 20]) 21 [32, 28] [0, 1, 2, 3, 4, 5, 6, 7, 8, 9, 10, 11, 12, 13, 14, 15, 16, 17, 18, 19, 20, 21] [] (by decide +kernel) rfl ?_ rfl rfl (One.val hv2) 1 rfl rfl rfl rfl ?_)
    (refine Cx.move rfl rfl ?_)
    (refine Cx.extract rfl rfl rfl ?_)
    (refine Cx.nilCheck rfl rfl ?_)
    (refine Cx.fieldAddr rfl rfl ?_)
    (refine SegC.nil ?_)
    (refine Ag.cons rfl ?_)
    (refine Ag.cons rfl ?_)
    (refine Ag.cons rfl ?_)
    (refine Ag.cons rfl ?_)
    (refine Ag.nil)
    (refine JP.tail (idx := []) 22 (by decide +kernel) (by decide +kernel) rfl rfl ?_ ?_)
    (refine SegC.nil ?_)
    (refine Ag.nil)
    (refine J.nil ?_)
    (refine id ?_; rotate_left))
  exact N.fin (rs := []) rfl .nil ⟨v2, rfl⟩
end Go.Proofs.YtlfdhkahiaammaaDoor.Sha
namespace Go.Proofs.YtlfdhkahiaammaaDoor.Sha
open Go Go.Sse
set_option maxRecDepth 10000
set_option linter.unusedVariables false
set_option linter.unusedSimpArgs false
theorem zeros_stop (n k : Nat) (hk : k ≤ zerosOf n) (r : Nat) (hr : r = n % 64) : ((((r + 1 + k : Nat) : Int)) % 64 = 56) ↔ k = zerosOf n := by
  unfold zerosOf at *
  subst hr
  constructor
  · intro h; omega
  · intro h; subst h; omega
theorem lenB_take (n i : Nat) (h : i < 8) : (lenB n).take i ++ [UInt8.ofNat (n * 8 / 2 ^ (56 - 8 * i))] = (lenB n).take (i + 1) := by
  have hl : i < (lenB n).length := by rw [lenB_len]; exact h
  rw [List.take_add_one, List.getElem?_eq_getElem hl]
  simp [lenB]
theorem zerosOf_lt (n : Nat) : zerosOf n < 64 := Nat.mod_lt _ (by omega)
set_option maxHeartbeats 4000000 in
theorem sum_ok (b : Nat) (v : Value) (s : S8) (tail : List UInt8) (n : Nat) (h1 : tail.length = n % 64) (h2 : n ≤ 4294967296) :
    FnC Tryd.prog 106 [ptr b] (hraw b v s tail n) (fun r L => r = str (toldS (blocksS s (tail ++ padS n)).1) ∧ L = hraw b v s tail n) := by
  have hz := zerosOf_lt n
  have ht : tail.length < 64 := by omega
  have c := blocks_ok s (tail ++ padS n) (by simp only [padS, List.length_append, List.length_cons, List.length_nil, List.length_replicate, lenB_len]; omega)
  have hb0 : tail.length ≤ maxLen ∧ tail.length * 1 ≤ 140737488355328 := by simp only [maxLen]; omega
  have hb1 : tail.length + [(128 : UInt8)].length ≤ maxLen ∧ (tail.length + [(128 : UInt8)].length) * 1 ≤ 140737488355328 := by simp only [maxLen, List.length_cons, List.length_nil]; omega
  have hpad : tail ++ [128] ++ List.replicate (zerosOf n) 0 ++ lenB n = tail ++ padS n := by simp [padS]
  generalize hp : blocksS s (tail ++ padS n) = p at *
  obtain ⟨s2, tl2⟩ := p
  refine FnC.intro Tryd.func106 rfl Tryd.ntmps106 rfl fun Z w0 hG => ?_
  focus (
    (refine W.seq ?_)
    (refine W.region ?_)
    (refine Jx.assign rfl rfl ?_)
    (refine J.nil ?_)
    (refine N.seq ?_)
    (refine W.seq ?_)
    (refine W.region ?_)
    (refine Jx.move rfl rfl ?_)
    (refine Jx.nilCheck rfl rfl ?_)
    (refine Jx.fieldAddr rfl rfl ?_)
    (refine Jx.load rfl 1 rfl rfl rfl ?_)
    (refine J.appendNil (l2 := tail) (SrcOK.row rfl 1 rfl) rfl rfl hb0 rfl ?_; intro v1 hv1)
    (refine Jx.assign rfl rfl ?_)
    (refine J.nil ?_)
    (refine N.seq ?_)
    (refine W.seq ?_)
    (refine W.region ?_)
    (refine Jx.move rfl rfl ?_)
    (refine J.qs (Qs.buildBytes [128] rfl rfl rfl (by decide) (by decide)) rfl ?_)
    (refine J.appendL (l2 := [128]) rfl (SrcOK.sl rfl) rfl rfl hb1 rfl ?_; intro v2 hv2)
    (refine Jx.assign rfl rfl ?_)
    (refine J.nil ?_)
    (refine N.seq ?_)
    (refine W.seq ?_)
    (refine W.block ?_)
    (refine id ?_; rotate_left))
  refine W.loop (α := Nat × Value) (fun x => [(3, .val x.2), (0, ptr b)]) (fun x => .row x.2 tU8 1 (tail ++ [128] ++ List.replicate x.1 0).length (elOf encB 0 (tail ++ [128] ++ List.replicate x.1 0)) :: hraw b v s tail n) (fun x => x.1 ≤ zerosOf n) (fun x => zerosOf n - x.1) (0, v2) (by simp) (by simp only [List.replicate_zero, List.append_nil]) ⟨ref0 rfl, ref0 rfl, trivial⟩ ?_
  rintro ⟨k, u⟩ hk
  simp only at hk ⊢
  have hst := zeros_stop n k hk tail.length h1
  have hel : (tail ++ [128] ++ List.replicate k (0 : UInt8)).length = tail.length + 1 + k := by simp only [List.length_append, List.length_cons, List.length_nil, List.length_replicate]
  have hb2 : (tail ++ [128] ++ List.replicate k (0 : UInt8)).length + [(0 : UInt8)].length ≤ maxLen ∧ ((tail ++ [128] ++ List.replicate k (0 : UInt8)).length + [(0 : UInt8)].length) * 1 ≤ 140737488355328 := by rw [hel]; simp only [maxLen, List.length_cons, List.length_nil]; omega
  have hnext : tail ++ [128] ++ List.replicate k (0 : UInt8) ++ [0] = tail ++ [128] ++ List.replicate (k + 1) 0 := by rw [List.replicate_succ']; simp
  by_cases hkz : k = zerosOf n
  · have hc : (((tail ++ [128] ++ List.replicate k (0 : UInt8)).length : Nat) : Int) % 64 = 56 := by rw [hel]; exact hst.2 hkz
    rw [hkz] at hc hel ⊢
    generalize hE : tail ++ [128] ++ List.replicate (zerosOf n) (0 : UInt8) = e at *
    focus (
    (refine W.seq ?_)
    (refine W.seq ?_)
    (refine W.region ?_)
    (refine Jx.move rfl rfl ?_)
    (refine Jx.lenRow rfl 0 rfl rfl ?_)
    (refine Jx.rem64 rfl rfl (by omega) (by decide) rfl ?_)
    (refine Jx.neqI rfl rfl rfl ?_)
    (refine J.nil ?_)
    (refine N.seq ?_)
    (refine W.condF rfl (by first | rfl | assumption | (exact decide_eq_true (by first | assumption | omega | rfl)) | (exact decide_eq_false (by first | assumption | omega | rfl)) | (simp; done) | (simp; omega)) ?_)
    (refine W.exit ?_)
    (refine N.seq ?_)
    (refine W.seq ?_)
    (refine W.region ?_)
    (refine Jx.move rfl rfl ?_)
    (refine Jx.nilCheck rfl rfl ?_)
    (refine Jx.fieldAddr rfl rfl ?_)
    (refine Jx.load rfl 2 rfl rfl rfl ?_)
    (refine Jx.convU64 n rfl rfl rfl (by omega) rfl ?_)
    (refine Jx.mulU64 8 rfl rfl (by omega) rfl ?_)
    (refine Jx.assign rfl rfl ?_)
    (refine J.nil ?_)
    (refine N.seq ?_)
    (refine W.seq ?_)
    (refine W.seq ?_)
    (refine W.region ?_)
    (refine Jx.move rfl rfl ?_)
    (refine J.nil ?_)
    (refine N.seq ?_)
    (refine W.block ?_)
    (refine id ?_; rotate_left))
    refine W.loop (α := Nat × Value) (fun x => [(29, int x.1), (3, .val x.2), (4, u64 (n * 8)), (0, ptr b)]) (fun x => .row x.2 tU8 1 (e ++ (lenB n).take x.1).length (elOf encB 0 (e ++ (lenB n).take x.1)) :: hraw b v s tail n) (fun x => x.1 ≤ 8) (fun x => 8 - x.1) (0, u) (by simp) (by simp only [List.take_zero, List.append_nil]) ⟨ref0 rfl, ref0 rfl, ref0 rfl, ref0 rfl, trivial⟩ ?_
    rintro ⟨i, u⟩ hi
    simp only at hi ⊢
    have hlt : ((lenB n).take i).length ≤ 8 := by rw [List.length_take]; omega
    have hel2 : (e ++ (lenB n).take i).length ≤ 200 := by rw [List.length_append]; omega
    by_cases h8 : i < 8
    · have hb3 : (e ++ (lenB n).take i).length + [UInt8.ofNat (n * 8 / 2 ^ (56 - 8 * i))].length ≤ maxLen ∧ ((e ++ (lenB n).take i).length + [UInt8.ofNat (n * 8 / 2 ^ (56 - 8 * i))].length) * 1 ≤ 140737488355328 := by simp only [maxLen, List.length_cons, List.length_nil]; omega
      have hn2 : e ++ (lenB n).take i ++ [UInt8.ofNat (n * 8 / 2 ^ (56 - 8 * i))] = e ++ (lenB n).take (i + 1) := by rw [List.append_assoc, lenB_take n i h8]
      generalize hm : e ++ (lenB n).take i = m at *
      focus (
    (refine W.seq ?_)
    (refine W.region ?_)
    (refine Jx.lssI rfl rfl rfl ?_)
    (refine J.nil ?_)
    (refine N.seq ?_)
    (refine W.seq ?_)
    (refine W.condT rfl (by first | rfl | assumption | (exact decide_eq_true (by first | assumption | omega | rfl)) | (exact decide_eq_false (by first | assumption | omega | rfl)) | (simp; done) | (simp; omega)) ?_)
    (refine W.skip ?_)
    (refine N.seq ?_)
    (refine W.seq ?_)
    (refine W.block ?_)
    (refine W.seq ?_)
    (refine W.region ?_)
    (refine Jx.move rfl rfl ?_)
    (refine Jx.assign rfl rfl ?_)
    (refine J.nil ?_)
    (refine N.seq ?_)
    (refine W.region ?_)
    (refine Jx.move rfl rfl ?_)
    (refine Jx.move rfl rfl ?_)
    (refine Jx.move rfl rfl ?_)
    (refine Jx.mul64 rfl rfl (by omega) rfl ?_)
    (refine Jx.sub64 rfl rfl (by omega) rfl ?_)
    (refine Jx.shrN (s := 56 - 8 * i) rfl rfl (by omega) (by simp only [IntKind.bits]; omega) rfl ?_)
    (refine Jx.numByte (n * 8 / 2 ^ (56 - 8 * i)) rfl rfl rfl rfl ?_)
    (refine J.qs (Qs.buildBytes [UInt8.ofNat (n * 8 / 2 ^ (56 - 8 * i))] rfl rfl rfl (by decide) (by decide)) rfl ?_)
    (refine J.appendL (l2 := [UInt8.ofNat (n * 8 / 2 ^ (56 - 8 * i))]) rfl (SrcOK.sl rfl) rfl rfl hb3 rfl ?_; intro v3 hv3)
    (refine Jx.assign rfl rfl ?_)
    (refine J.nil ?_)
    (refine N.seq ?_)
    (refine W.region ?_)
    (refine Jx.add64 rfl rfl (by omega) rfl ?_)
    (refine Jx.move rfl rfl ?_)
    (refine J.nil ?_)
    (refine id ?_; rotate_left))
      exact N.round (i + 1, v3) (by simp only; omega) (by simp only; omega) (by simp only [hn2]) ⟨ref0 rfl, ref0 rfl, ref0 rfl, ref0 rfl, trivial⟩
    · have h8' : i = 8 := by omega
      have hall : e ++ (lenB n).take i = tail ++ padS n := by rw [h8', List.take_of_length_le (by rw [lenB_len]; omega), hpad]
      rw [hall]
      rw [hall] at hel2
      refine W.freeze 3 rfl (by simp only [maxLen]; omega) ?_
      focus (
    (refine W.seq ?_)
    (refine W.region ?_)
    (refine Jx.lssI rfl rfl rfl ?_)
    (refine J.nil ?_)
    (refine N.seq ?_)
    (refine W.seq ?_)
    (refine W.condF rfl (by first | rfl | assumption | (exact decide_eq_true (by first | assumption | omega | rfl)) | (exact decide_eq_false (by first | assumption | omega | rfl)) | (simp; done) | (simp; omega)) ?_)
    (refine W.exit ?_)
    (refine N.seq ?_)
    (refine W.seq ?_)
    (refine W.region ?_)
    (refine Jx.move rfl rfl ?_)
    (refine Jx.nilCheck rfl rfl ?_)
    (refine Jx.fieldAddr rfl rfl ?_)
    (refine Jx.loadAg rfl 1 rfl rfl rfl rfl ?_)
    (refine Jx.move rfl rfl ?_)
    (refine J.call c rfl (evs_args rfl) rfl ?_; rintro _ _ ⟨v4, hv4, rfl, rfl⟩; simp only [List.cons_append, List.nil_append])
    (refine Jx.move rfl rfl ?_)
    (refine Jx.extract rfl rfl rfl ?_)
    (refine Jx.extract rfl rfl rfl ?_)
    (refine J.alloc (by simp only [List.map_cons, List.map_nil]; rfl) rfl rfl ?_; intro b')
    (refine J.storeAll rfl rfl rfl 0 rfl rfl rfl ?_)
    (refine Jx.assign rfl rfl ?_)
    (refine J.nil ?_)
    (refine N.seq ?_)
    (refine W.seq ?_)
    (refine W.region ?_)
    (refine Jx.loadAll rfl 0 rfl rfl rfl ?_)
    (refine J.call (told_ok s2) rfl (evs_args rfl) rfl ?_; rintro _ _ ⟨rfl, rfl⟩; simp only [List.cons_append, List.nil_append, List.append_nil])
    (refine Jx.assign rfl rfl ?_)
    (refine J.nil ?_)
    (refine N.seq ?_)
    (refine W.ret ?_)
    (refine id ?_; rotate_left))
      exact N.retD (rs := [.tmp 2]) (L1 := hraw b v s tail n) rfl (.tmp rfl .nil) (by simp) ⟨rfl, rfl⟩
  · have hc : ¬ (((tail ++ [128] ++ List.replicate k (0 : UInt8)).length : Nat) : Int) % 64 = 56 := by rw [hel]; exact fun h => hkz (hst.1 h)
    generalize hE : tail ++ [128] ++ List.replicate k (0 : UInt8) = e at *
    focus (
    (refine W.seq ?_)
    (refine W.seq ?_)
    (refine W.region ?_)
    (refine Jx.move rfl rfl ?_)
    (refine Jx.lenRow rfl 0 rfl rfl ?_)
    (refine Jx.rem64 rfl rfl (by omega) (by decide) rfl ?_)
    (refine Jx.neqI rfl rfl rfl ?_)
    (refine J.nil ?_)
    (refine N.seq ?_)
    (refine W.condT rfl (by first | rfl | assumption | (exact decide_eq_true (by first | assumption | omega | rfl)) | (exact decide_eq_false (by first | assumption | omega | rfl)) | (simp; done) | (simp; omega)) ?_)
    (refine W.skip ?_)
    (refine N.seq ?_)
    (refine W.block ?_)
    (refine W.region ?_)
    (refine Jx.move rfl rfl ?_)
    (refine J.qs (Qs.buildBytes [0] rfl rfl rfl (by decide) (by decide)) rfl ?_)
    (refine J.appendL (l2 := [0]) rfl (SrcOK.sl rfl) rfl rfl hb2 rfl ?_; intro v3 hv3)
    (refine Jx.assign rfl rfl ?_)
    (refine J.nil ?_)
    (refine N.blockNormal ?_)
    (refine id ?_; rotate_left))
    exact N.round (k + 1, v3) (by simp only; omega) (by simp only; omega) (by simp only [hnext]) ⟨ref0 rfl, ref0 rfl, trivial⟩
theorem hsum_ok (x : List UInt8) (hx : x.length ≤ 2147483648) : FnC Tryd.prog 88 [str x] [] (fun r L => r = str (shaS x) ∧ L = []) := by
  have hl := blocksS_left x.length first8 x (Nat.le_refl _)
  have happ := blocksS_app x.length first8 x (padS x.length) (Nat.le_refl _)
  have c2 : ∀ b v, FnC Tryd.prog 105 [ptr b, str x] (hraw b v first8 [] 0) (fun r L => ∃ v', L = hraw b v' (blocksS first8 x).1 (blocksS first8 x).2 x.length) := fun b v => by
    have := write_ok b v first8 [] 0 x (by simp) (by omega) hx
    simpa using this
  have c3 := fun b v => sum_ok b v (blocksS first8 x).1 (blocksS first8 x).2 x.length hl (by omega)
  rw [← happ] at c3
  change ∀ b v, FnC Tryd.prog 106 [ptr b] (hraw b v (blocksS first8 x).1 (blocksS first8 x).2 x.length) (fun r L => r = str (shaS x) ∧ L = hraw b v (blocksS first8 x).1 (blocksS first8 x).2 x.length) at c3
  generalize blocksS first8 x = p at *
  refine FnC.intro Tryd.func88 rfl Tryd.ntmps88 rfl fun Z w0 hG => ?_
  focus (
    (refine W.seq ?_)
    (refine W.region ?_)
    (refine Jx.assign rfl rfl ?_)
    (refine J.nil ?_)
    (refine N.seq ?_)
    (refine W.seq ?_)
    (refine W.region ?_)
    (refine J.call new_ok rfl (evs_args rfl) rfl ?_; rintro _ _ ⟨b, v, rfl, rfl⟩; simp only [List.cons_append, List.nil_append, List.append_nil])
    (refine Jx.assign rfl rfl ?_)
    (refine J.nil ?_)
    (refine N.seq ?_)
    (refine W.seq ?_)
    (refine W.region ?_)
    (refine Jx.move rfl rfl ?_)
    (refine Jx.move rfl rfl ?_)
    (refine J.call (c2 b v) rfl (evs_args rfl) rfl ?_; rintro _ _ ⟨v2, rfl⟩; simp only [List.cons_append, List.nil_append, List.append_nil])
    (refine J.nil ?_)
    (refine N.seq ?_)
    (refine W.seq ?_)
    (refine W.region ?_)
    (refine Jx.move rfl rfl ?_)
    (refine J.call (c3 b v2) rfl (evs_args rfl) rfl ?_; rintro _ _ ⟨rfl, rfl⟩; simp only [List.cons_append, List.nil_append, List.append_nil])
    (refine Jx.assign rfl rfl ?_)
    (refine J.nil ?_)
    (refine N.seq ?_)
    (refine W.ret ?_)
    (refine id ?_; rotate_left))
  exact N.retD (rs := [.tmp 2]) (L1 := []) rfl (.tmp rfl .nil) (List.nil_sublist _) ⟨rfl, rfl⟩
end Go.Proofs.YtlfdhkahiaammaaDoor.Sha
namespace Go.Proofs.YtlfdhkahiaammaaDoor.Sha
open Go Go.Sse
set_option linter.unusedVariables false
set_option linter.unusedSimpArgs false
set_option maxRecDepth 100000
def fewB (l : List (List UInt8)) (n e : Int) : Bool := decide ((l.length : Int) ≤ n) && l.all fun s => decide ((s.length : Int) ≤ e)
theorem few_ok (l : List (List UInt8)) (n e : Int) (hn : n ≤ 9223372036854775807) : FnC Tryd.prog 31 [ssl l, int n, int e] [] (fun s L => s = bool (fewB l n e) ∧ L = []) := by
  refine FnC.intro Tryd.func31 rfl Tryd.ntmps31 rfl fun Z w0 hG => ?_
  by_cases h0 : n < (l.length : Int)
  · focus (
    (refine W.seq ?_)
    (refine W.region ?_)
    (refine Jx.assign rfl rfl ?_)
    (refine J.nil ?_)
    (refine N.seq ?_)
    (refine W.seq ?_)
    (refine W.seq ?_)
    (refine W.region ?_)
    (refine Jx.move rfl rfl ?_)
    (refine Jx.lenSl rfl rfl ?_)
    (refine Jx.move rfl rfl ?_)
    (refine Jx.gtrI rfl rfl rfl ?_)
    (refine J.nil ?_)
    (refine N.seq ?_)
    (refine W.condT rfl (by first | rfl | assumption | (exact decide_eq_true (by first | assumption | omega | rfl)) | (exact decide_eq_false (by first | assumption | omega | rfl)) | (simp; done) | (simp; omega)) ?_)
    (refine W.seq ?_)
    (refine W.region ?_)
    (refine Jx.assign rfl rfl ?_)
    (refine J.nil ?_)
    (refine N.seq ?_)
    (refine W.ret ?_)
    (refine N.seqRet ?_)
    (refine id ?_; rotate_left))
    refine N.ret (rs := [.tmp 6]) rfl (.tmp rfl .nil) ⟨?_, rfl⟩
    simp [oneOr, fewB, show ¬ (l.length : Int) ≤ n by omega]
  · focus (
    (refine W.seq ?_)
    (refine W.region ?_)
    (refine Jx.assign rfl rfl ?_)
    (refine J.nil ?_)
    (refine N.seq ?_)
    (refine W.seq ?_)
    (refine W.seq ?_)
    (refine W.region ?_)
    (refine Jx.move rfl rfl ?_)
    (refine Jx.lenSl rfl rfl ?_)
    (refine Jx.move rfl rfl ?_)
    (refine Jx.gtrI rfl rfl rfl ?_)
    (refine J.nil ?_)
    (refine N.seq ?_)
    (refine W.condF rfl (by first | rfl | assumption | (exact decide_eq_true (by first | assumption | omega | rfl)) | (exact decide_eq_false (by first | assumption | omega | rfl)) | (simp; done) | (simp; omega)) ?_)
    (refine W.skip ?_)
    (refine N.seq ?_)
    (refine W.seq ?_)
    (refine W.seq ?_)
    (refine W.region ?_)
    (refine Jx.assign rfl rfl ?_)
    (refine J.nil ?_)
    (refine N.seq ?_)
    (refine W.block ?_)
    (refine id ?_; rotate_left))
    refine W.loop (α := Nat) (fun i => [(7, int i), (2, int e), (0, ssl l)]) (fun _ => []) (fun i => i ≤ l.length ∧ ∀ s ∈ l.take i, (s.length : Int) ≤ e) (fun i => l.length - i) 0 ⟨by omega, by simp⟩ rfl ⟨ref0 rfl, ref0 rfl, ref0 rfl, trivial⟩ ?_
    rintro i ⟨hi, hall⟩
    by_cases h1 : i < l.length
    · have hm : l.getD i [] ∈ l := by rw [List.getD_eq_getElem?_getD, List.getElem?_eq_getElem h1]; exact List.getElem_mem _
      have hts : ∀ s ∈ l.take (i + 1), s ∈ l.take i ∨ s = l.getD i [] := fun s hs => by
        rw [List.take_add_one, List.getElem?_eq_getElem h1] at hs
        rw [List.getD_eq_getElem?_getD, List.getElem?_eq_getElem h1]
        simp only [Option.toList_some, List.mem_append, List.mem_singleton] at hs
        exact hs
      by_cases h2 : e < ((l.getD i []).length : Int)
      · focus (
    (refine W.seq ?_)
    (refine W.seq ?_)
    (refine W.region ?_)
    (refine Jx.move rfl rfl ?_)
    (refine Jx.move rfl rfl ?_)
    (refine Jx.lenSl rfl rfl ?_)
    (refine Jx.lssI rfl rfl rfl ?_)
    (refine J.nil ?_)
    (refine N.seq ?_)
    (refine W.condT rfl (by first | rfl | assumption | (exact decide_eq_true (by first | assumption | omega | rfl)) | (exact decide_eq_false (by first | assumption | omega | rfl)) | (simp; done) | (simp; omega)) ?_)
    (refine W.skip ?_)
    (refine N.seq ?_)
    (refine W.seq ?_)
    (refine W.block ?_)
    (refine W.seq ?_)
    (refine W.region ?_)
    (refine Jx.move rfl rfl ?_)
    (refine Jx.move rfl rfl ?_)
    (refine Jx.indexEl rfl rfl (by assumption) rfl rfl ?_)
    (refine Jx.loadPP rfl rfl ?_)
    (refine Jx.lenS rfl rfl ?_)
    (refine Jx.move rfl rfl ?_)
    (refine Jx.gtrI rfl rfl rfl ?_)
    (refine J.nil ?_)
    (refine N.seq ?_)
    (refine W.condT rfl (by first | rfl | assumption | (exact decide_eq_true (by first | assumption | omega | rfl)) | (exact decide_eq_false (by first | assumption | omega | rfl)) | (simp; done) | (simp; omega)) ?_)
    (refine W.seq ?_)
    (refine W.region ?_)
    (refine Jx.assign rfl rfl ?_)
    (refine J.nil ?_)
    (refine N.seq ?_)
    (refine W.ret ?_)
    (refine N.blockRet ?_)
    (refine N.seqRet ?_)
    (refine N.seqRet ?_)
    (refine N.blockRet ?_)
    (refine N.seqRet ?_)
    (refine id ?_; rotate_left))
        refine N.ret (rs := [.tmp 6]) rfl (.tmp rfl .nil) ⟨?_, rfl⟩
        have : l.all (fun s => decide ((s.length : Int) ≤ e)) = false := by
          rw [List.all_eq_false]; exact ⟨_, hm, by simp only [decide_eq_true_eq]; omega⟩
        simp [oneOr, fewB, this]
      · focus (
    (refine W.seq ?_)
    (refine W.seq ?_)
    (refine W.region ?_)
    (refine Jx.move rfl rfl ?_)
    (refine Jx.move rfl rfl ?_)
    (refine Jx.lenSl rfl rfl ?_)
    (refine Jx.lssI rfl rfl rfl ?_)
    (refine J.nil ?_)
    (refine N.seq ?_)
    (refine W.condT rfl (by first | rfl | assumption | (exact decide_eq_true (by first | assumption | omega | rfl)) | (exact decide_eq_false (by first | assumption | omega | rfl)) | (simp; done) | (simp; omega)) ?_)
    (refine W.skip ?_)
    (refine N.seq ?_)
    (refine W.seq ?_)
    (refine W.block ?_)
    (refine W.seq ?_)
    (refine W.region ?_)
    (refine Jx.move rfl rfl ?_)
    (refine Jx.move rfl rfl ?_)
    (refine Jx.indexEl rfl rfl (by assumption) rfl rfl ?_)
    (refine Jx.loadPP rfl rfl ?_)
    (refine Jx.lenS rfl rfl ?_)
    (refine Jx.move rfl rfl ?_)
    (refine Jx.gtrI rfl rfl rfl ?_)
    (refine J.nil ?_)
    (refine N.seq ?_)
    (refine W.condF rfl (by first | rfl | assumption | (exact decide_eq_true (by first | assumption | omega | rfl)) | (exact decide_eq_false (by first | assumption | omega | rfl)) | (simp; done) | (simp; omega)) ?_)
    (refine W.skip ?_)
    (refine N.seq ?_)
    (refine W.region ?_)
    (refine Jx.move rfl rfl ?_)
    (refine Jx.add64 rfl rfl (by omega) rfl ?_)
    (refine Jx.assign rfl rfl ?_)
    (refine J.nil ?_)
    (refine id ?_; rotate_left))
        exact N.round (i + 1) ⟨h1, fun s hs => by rcases hts s hs with h | rfl; exact hall s h; omega⟩ (by omega) rfl ⟨ref0 rfl, ref0 rfl, ref0 rfl, trivial⟩
    · have hil : i = l.length := by omega
      focus (
    (refine W.seq ?_)
    (refine W.seq ?_)
    (refine W.region ?_)
    (refine Jx.move rfl rfl ?_)
    (refine Jx.move rfl rfl ?_)
    (refine Jx.lenSl rfl rfl ?_)
    (refine Jx.lssI rfl rfl rfl ?_)
    (refine J.nil ?_)
    (refine N.seq ?_)
    (refine W.condF rfl (by first | rfl | assumption | (exact decide_eq_true (by first | assumption | omega | rfl)) | (exact decide_eq_false (by first | assumption | omega | rfl)) | (simp; done) | (simp; omega)) ?_)
    (refine W.exit ?_)
    (refine N.seq ?_)
    (refine W.seq ?_)
    (refine W.region ?_)
    (refine Jx.assign rfl rfl ?_)
    (refine J.nil ?_)
    (refine N.seq ?_)
    (refine W.ret ?_)
    (refine id ?_; rotate_left))
      refine N.ret (rs := [.tmp 6]) rfl (.tmp rfl .nil) ⟨?_, rfl⟩
      rw [hil, List.take_length] at hall
      have : l.all (fun s => decide ((s.length : Int) ≤ e)) = true := List.all_eq_true.2 fun s hs => by simpa using hall s hs
      simp only [oneOr, fewB, this, Bool.and_true]
      rw [decide_eq_true (by omega)]
end Go.Proofs.YtlfdhkahiaammaaDoor.Sha
namespace Go.Proofs.YtlfdhkahiaammaaDoor
open Go Go.Sse Go.ChangeShapes Go.WideShapes Go.ChangeAt Go.RowKit
set_option linter.unusedVariables false
set_option linter.unusedSimpArgs false
abbrev Z0 : Nat → Prop := fun _ => False
structure Rd (P : Program) (T : TypeId) (α : Type) where
  enc : α → List SV
  sz : Nat
  dflt : α
  good : α → Prop
  bulk : α → Nat
  cells : P.cellsOf T = sz
  len : ∀ a, (enc a).length = sz
  read : ∀ {H : Type} {en : TypeId × Value → H} {w : World} {base : Nat} {sp : Nat → Bool} {held : Bool} {fuel : Nat} {cs : List Value} {x : DataW H × List MemPlace},
    DataW.trod en P w base sp held fuel T cs = some x → ∃ a, good a ∧ bulk a ≤ Rows.uptoBulk x.1 ∧ cs.length = sz ∧ (∀ c ∈ cs, c.oneCell' = true) ∧ ∀ j, j < sz → Rel Z0 w ((enc a).getD j .any) (cs.getD j undef)
section
variable {P : Program} {T E : TypeId} {α β : Type}
def Rd.int {k : IntKind} (h : P.underlying T = some (.int k)) (hc : P.cellsOf T = 1) : Rd P T Int where
  enc n := [.val (.int k n)]
  sz := 1
  dflt := 0
  good n := (Lit.int k n).wf = true
  bulk _ := 1
  cells := hc
  len _ := rfl
  read := by
    intro H en w base sp held fuel cs x hx
    obtain ⟨n, rfl, rfl, hw⟩ := DataW.trod_int h hx
    refine ⟨n, hw, by simp [Rows.uptoBulk], rfl, by simp [Value.oneCell'], fun j hj => ?_⟩
    obtain rfl : j = 0 := by omega
    exact .val _
def Rd.bool (h : P.underlying T = some .bool) (hc : P.cellsOf T = 1) : Rd P T Bool where
  enc b := [.val (.bool b)]
  sz := 1
  dflt := false
  good _ := True
  bulk _ := 1
  cells := hc
  len _ := rfl
  read := by
    intro H en w base sp held fuel cs x hx
    obtain ⟨n, rfl, rfl⟩ := DataW.trod_bool h hx
    refine ⟨n, trivial, by simp [Rows.uptoBulk], rfl, by simp [Value.oneCell'], fun j hj => ?_⟩
    obtain rfl : j = 0 := by omega
    exact .val _
def Rd.str (h : P.underlying T = some .string) (hc : P.cellsOf T = 1) : Rd P T (List UInt8) where
  enc s := [Sse.str s]
  sz := 1
  dflt := []
  good s := s.length ≤ maxLen
  bulk s := s.length + 1
  cells := hc
  len _ := rfl
  read := by
    intro H en w base sp held fuel cs x hx
    obtain ⟨s, rfl, rfl, hw⟩ := DataW.trod_string h hx
    have hl : s.data.toList.length = s.size := Array.length_toList
    refine ⟨s.data.toList, by rw [hl]; exact hw, by simp only [Rows.uptoBulk]; exact Nat.le_refl _, rfl, by simp [Value.oneCell'], fun j hj => ?_⟩
    obtain rfl : j = 0 := by omega
    have e : Sse.str s.data.toList = .val (.string s) := rfl
    simp only [List.getD_cons_zero, e]
    exact .val _
theorem exists_list {d : α} {p : Nat → α → Prop} (n : Nat) (h : ∀ i, i < n → ∃ a, p i a) : ∃ l : List α, l.length = n ∧ ∀ i, i < n → p i (l.getD i d) := by
  induction n with
  | zero => exact ⟨[], rfl, fun i hi => by omega⟩
  | succ n ih =>
    obtain ⟨l, hl, hp⟩ := ih fun i hi => h i (by omega)
    obtain ⟨a, ha⟩ := h n (by omega)
    refine ⟨l ++ [a], by simp [hl], fun i hi => ?_⟩
    rw [List.getD_eq_getElem?_getD]
    by_cases hi' : i < n
    · rw [List.getElem?_append_left (by omega)]
      have := hp i hi'
      rwa [List.getD_eq_getElem?_getD] at this
    · obtain rfl : i = n := by omega
      rw [List.getElem?_append_right (by omega), hl, Nat.sub_self]
      exact ha
theorem bulkAll_le {H : Type} (f : α → Nat) (d : α) : ∀ (l : List α) (xs : List (DataW H)), l.length = xs.length → (∀ i, i < l.length → f (l.getD i d) ≤ Rows.uptoBulk (xs.getD i .nil)) → (l.map f).sum ≤ Rows.uptoBulkAll xs
  | [], [], _, _ => by simp
  | a :: l, x :: xs, hl, h => by
    have h0 := h 0 (by simp)
    have hr := bulkAll_le f d l xs (by simpa using hl) fun i hi => by simpa using h (i + 1) (by simpa using hi)
    simp only [List.map_cons, List.sum_cons, Rows.uptoBulkAll]
    simp only [List.getD_cons_zero] at h0
    omega
theorem getD_mem_all {p : α → Prop} {d : α} {l : List α} (h : ∀ i, i < l.length → p (l.getD i d)) : ∀ a ∈ l, p a := by
  intro a ha
  obtain ⟨i, hi, rfl⟩ := List.mem_iff_getElem.1 ha
  have := h i hi
  rwa [List.getD_eq_getElem?_getD, List.getElem?_eq_getElem hi] at this
theorem cells_addr {w : World} {base b off : Nat} {spot : Option Nat} {n : Nat} {cs : List Value} (k : Nat) (h : w.cells? base (Addr.add ⟨b, off, spot⟩ k) n = some cs) : ∀ j, j < n → w.cell? ⟨b, off + k + j, none⟩ = cs[j]? := by
  obtain ⟨_, hl, hc⟩ := World.cells?_some h
  intro j hj
  have := hc j hj
  rw [← this]
  by_cases h0 : k = 0 ∧ j = 0
  · obtain ⟨rfl, rfl⟩ := h0
    simp only [Addr.add, if_true, Nat.add_zero]
    simp only [Addr.add, if_true] at this
    have h1 : cs[0]? ≠ none := by rw [List.getElem?_eq_getElem (by omega)]; simp
    rw [← this] at h1
    unfold World.cell? at h1 ⊢
    simp only at h1 ⊢
    cases hb : w.heap[b]? with
    | none => simp [hb] at h1
    | some o =>
      rw [hb] at h1
      cases o with
      | cells c _ _ =>
        cases spot with
        | none => rfl
        | some _ => simp at h1
      | _ => exact absurd rfl h1
  · by_cases hk : k = 0
    · subst hk
      have hj0 : j ≠ 0 := fun e => h0 ⟨rfl, e⟩
      simp [Addr.add, hj0]
    · by_cases hj0 : j = 0
      · subst hj0; simp [Addr.add, hk]
      · simp [Addr.add, hk, hj0, Nat.add_assoc]
theorem spot_none {w : World} {base b off : Nat} {spot : Option Nat} {n : Nat} {cs : List Value} (hn : 0 < n) (h : w.cells? base (Addr.add ⟨b, off, spot⟩ 0) n = some cs) : spot = none := by
  obtain ⟨_, hl, hc⟩ := World.cells?_some h
  have := hc 0 hn
  simp only [Addr.add, if_true] at this
  cases spot with
  | none => rfl
  | some s =>
    exfalso
    have h1 : cs[0]? ≠ none := by rw [List.getElem?_eq_getElem (by omega)]; simp
    rw [← this] at h1
    unfold World.cell? at h1
    revert h1
    simp only [Option.isSome_some, if_true]
    split <;> simp
def Rd.slice (h : P.underlying T = some (.slice E)) (hc : P.cellsOf T = 1) (r : Rd P E α) (hs : Nat.blt 0 r.sz = true) : Rd P T (List α) where
  enc l := [.sl r.sz l.length (elOf r.enc r.dflt l)]
  sz := 1
  dflt := []
  good l := l.length ≤ maxLen ∧ ∀ a ∈ l, r.good a
  bulk l := (l.map r.bulk).sum + 1
  cells := hc
  len _ := rfl
  read := by
    intro H en w base sp held fuel cs x hx
    have hpos : 0 < r.sz := by simpa [Nat.blt_eq] using hs
    rcases DataW.trod_slice h hx with ⟨rfl, rfl⟩ | ⟨⟨b, off, spot⟩, len, cap, elems, rest, n, _, rfl, rfl, hb, hl, hm, hlen, hel, hsp, hns⟩
    · refine ⟨[], ⟨by simp, by simp⟩, by simp [Rows.uptoBulk], rfl, by simp [Value.oneCell'], fun j hj => ?_⟩
      obtain rfl : j = 0 := by omega
      exact .sl _ _ _ _ _ (fun _ => undef) (by simp) (by simp) (.inl (by simp)) (by simp) (by simp) (by simp)
    · have each : ∀ i, i < len → ∃ a, ∃ cs' x', w.cells? base (Addr.add ⟨b, off, spot⟩ (i * r.sz)) r.sz = some cs' ∧ elems[i]? = some x' ∧ r.good a ∧ r.bulk a ≤ Rows.uptoBulk x'.1 ∧ cs'.length = r.sz ∧ (∀ c ∈ cs', c.oneCell' = true) ∧ ∀ j, j < r.sz → Rel Z0 w ((r.enc a).getD j .any) (cs'.getD j undef) := by
        intro i hi
        have h1 := hel i hi
        rw [r.cells, List.getElem?_eq_getElem (by omega), Option.bind_eq_some_iff] at h1
        obtain ⟨cs', hcs, ht⟩ := h1
        obtain ⟨a, h2, h3, h4, h5, h6⟩ := r.read ht
        exact ⟨a, cs', _, hcs, List.getElem?_eq_getElem (by omega), h2, h3, h4, h5, h6⟩
      obtain ⟨l, hll, hp⟩ := exists_list (d := r.dflt) len each
      have cell : ∀ i j, i < len → j < r.sz → ∃ v, w.cell? ⟨b, off + (i * r.sz + j), none⟩ = some v ∧ v.oneCell' = true ∧ Rel Z0 w ((r.enc (l.getD i r.dflt)).getD j .any) v := by
        intro i j hi hj
        obtain ⟨cs', x', h1, _, _, _, h4, h5, h6⟩ := hp i hi
        have hj' : j < cs'.length := by omega
        refine ⟨cs'[j], ?_, h5 _ (List.getElem_mem _), ?_⟩
        · have := cells_addr (i * r.sz) h1 j hj
          rw [List.getElem?_eq_getElem hj'] at this
          rw [← Nat.add_assoc]; exact this
        · have := h6 j hj
          rwa [List.getD_eq_getElem?_getD (l := cs'), List.getElem?_eq_getElem hj'] at this
      refine ⟨l, ⟨by omega, ?_⟩, ?_, rfl, by simp [Value.oneCell'], fun j hj => ?_⟩
      · refine getD_mem_all (d := r.dflt) fun i hi => ?_
        obtain ⟨_, _, _, _, h2, _⟩ := hp i (by omega)
        exact h2
      · have := bulkAll_le r.bulk r.dflt l (elems.map (·.1)) (by simp [hll, hlen]) fun i hi => by
          obtain ⟨_, x', _, h1, _, h3, _⟩ := hp i (by omega)
          have e : (elems.map (·.1)).getD i .nil = x'.1 := by simp [List.getD_eq_getElem?_getD, h1]
          rw [e]; exact h3
        simp only [Rows.uptoBulk]; omega
      · obtain rfl : j = 0 := by omega
        simp only [List.getD_cons_zero]
        rw [hll]
        have hdec : ∀ k, k < len * r.sz → k / r.sz < len ∧ k % r.sz < r.sz ∧ k / r.sz * r.sz + k % r.sz = k := fun k hk => by
          refine ⟨Nat.div_lt_of_lt_mul (by rw [Nat.mul_comm]; exact hk), Nat.mod_lt _ hpos, ?_⟩
          rw [Nat.mul_comm]; exact Nat.div_add_mod k r.sz
        refine .sl _ _ _ _ _ (fun k => (w.cell? ⟨b, off + k, none⟩).getD undef) hl hm ?_ ?_ (fun i hi => r.len _) ?_
        · rcases Nat.eq_zero_or_pos len with h0 | h0
          · exact .inl (by simp [h0])
          · right
            obtain ⟨cs', _, h1, _⟩ := hp 0 h0
            rw [Nat.zero_mul] at h1
            refine ⟨b, off, by rw [spot_none hpos h1], fun f => f, fun k hk => ?_⟩
            obtain ⟨h2, h3, h4⟩ := hdec k hk
            obtain ⟨v, hv, _⟩ := cell _ _ h2 h3
            rw [h4] at hv
            rw [hv]; rfl
        · intro k hk
          obtain ⟨h2, h3, h4⟩ := hdec k hk
          obtain ⟨v, hv, h5, _⟩ := cell _ _ h2 h3
          rw [h4] at hv
          rw [hv]; exact h5
        · intro i j hi hj
          obtain ⟨v, hv, _, h6⟩ := cell i j hi hj
          rw [hv]; exact h6
def Rd.array {N : Nat} (h : P.underlying T = some (.array N E)) (hc : P.cellsOf T = N) (r : Rd P E α) (enc1 : α → SV) (he : ∀ a, r.enc a = [enc1 a]) (hs : r.sz = 1) : Rd P T { l : List α // l.length = N } where
  enc l := l.1.map enc1
  sz := N
  dflt := ⟨List.replicate N r.dflt, by simp⟩
  good l := ∀ a ∈ l.1, r.good a
  bulk l := (l.1.map r.bulk).sum
  cells := hc
  len l := by rw [List.length_map, l.2]
  read := by
    intro H en w base sp held fuel cs x hx
    obtain ⟨xs, m, _, rfl, hlen, hxl, hel⟩ := DataW.trod_array h hx
    have hce : P.cellsOf E = 1 := by rw [r.cells, hs]
    have each : ∀ i, i < N → ∃ a, ∃ x', xs[i]? = some x' ∧ r.good a ∧ r.bulk a ≤ Rows.uptoBulk x'.1 ∧ ∃ c, cs[i]? = some c ∧ c.oneCell' = true ∧ Rel Z0 w (enc1 a) c := by
      intro i hi
      have h1 := hel i hi
      rw [hce, Nat.mul_one, List.getElem?_eq_getElem (by omega)] at h1
      obtain ⟨a, h2, h3, h4, h5, h6⟩ := r.read h1
      have hic : i < cs.length := by rw [hlen, hc]; exact hi
      have hch : (cs.drop i).take 1 = [cs[i]] := by rw [List.drop_eq_getElem_cons hic]; rfl
      have h7 := h6 0 (by omega)
      rw [he, hch] at h7
      rw [hch] at h5
      exact ⟨a, _, List.getElem?_eq_getElem (by omega), h2, h3, cs[i], List.getElem?_eq_getElem hic, h5 _ (by simp), by simpa using h7⟩
    obtain ⟨l, hll, hp⟩ := exists_list (d := r.dflt) N each
    refine ⟨⟨l, hll⟩, ?_, ?_, by rw [hlen, hc], ?_, fun j hj => ?_⟩
    · refine getD_mem_all (d := r.dflt) fun i hi => ?_
      obtain ⟨_, _, h2, _⟩ := hp i (by simp only at hi; omega)
      exact h2
    · have := bulkAll_le r.bulk r.dflt l (xs.map (·.1)) (by simp [hll, hxl]) fun i hi => by
        obtain ⟨x', h1, _, h3, _⟩ := hp i (by omega)
        have e : (xs.map (·.1)).getD i .nil = x'.1 := by simp [List.getD_eq_getElem?_getD, h1]
        rw [e]; exact h3
      simp only [Rows.uptoBulk]; omega
    · intro c hcm
      obtain ⟨j, hj⟩ := List.mem_iff_getElem?.1 hcm
      have hjl : j < N := by
        have := (List.getElem?_eq_some_iff.1 hj).1
        rw [hlen, hc] at this; exact this
      obtain ⟨_, _, _, _, c', h5, h6, _⟩ := hp j hjl
      rw [hj] at h5; cases h5
      exact h6
    · obtain ⟨_, _, _, _, c', h5, _, h7⟩ := hp j hj
      have hjl : j < l.length := by omega
      simp only [List.getD_eq_getElem?_getD, List.getElem?_map, List.getElem?_eq_getElem hjl, Option.map_some, Option.getD_some, h5]
      rw [List.getD_eq_getElem?_getD, List.getElem?_eq_getElem hjl] at h7
      exact h7
def Rd.as (r : Rd P T α) (g : α → β) (d : β) (enc' : β → List SV) (good' : β → Prop) (bulk' : β → Nat) (he : ∀ a, enc' (g a) = r.enc a) (hl : ∀ b, (enc' b).length = r.sz) (hg : ∀ a, r.good a → good' (g a)) (hb : ∀ a, bulk' (g a) = r.bulk a) : Rd P T β where
  enc := enc'
  sz := r.sz
  dflt := d
  good := good'
  bulk := bulk'
  cells := r.cells
  len := hl
  read := by
    intro H en w base sp held fuel cs x hx
    obtain ⟨a, h1, h2, h3, h4, h5⟩ := r.read hx
    exact ⟨g a, hg a h1, by rw [hb]; exact h2, h3, h4, fun j hj => by rw [he]; exact h5 j hj⟩
structure Fds (P : Program) (off : Nat) (tos : List (TypeId × Nat)) (α : Type) where
  enc : α → List SV
  sz : Nat
  dflt : α
  good : α → Prop
  bulk : α → Nat
  len : ∀ a, (enc a).length = sz
  read : ∀ {H : Type} {en : TypeId × Value → H} {w : World} {base : Nat} {sp : Nat → Bool} {held : Bool} {fuel : Nat} {cs : List Value} {xs : List (DataW H × List MemPlace)}, xs.length = tos.length → off + sz = cs.length →
    (∀ (i : Nat) (f : TypeId × Nat), tos[i]? = some f → DataW.trod en P w base sp held fuel f.1 ((cs.drop f.2).take (P.cellsOf f.1)) = (xs[i]? : Option (DataW H × List MemPlace))) → ∃ a, good a ∧ bulk a ≤ Rows.uptoBulkAll (xs.map (·.1)) ∧
    ∀ j, j < sz → (cs.getD (off + j) undef).oneCell' = true ∧ Rel Z0 w ((enc a).getD j .any) (cs.getD (off + j) undef)
def Fds.nil {off : Nat} : Fds P off [] Unit where
  enc _ := []
  sz := 0
  dflt := ()
  good _ := True
  bulk _ := 0
  len _ := rfl
  read := by
    intro H en w base sp held fuel cs xs hl hs h
    exact ⟨(), trivial, by simp, fun j hj => by omega⟩
def Fds.cons {off : Nat} {t : TypeId} {tos : List (TypeId × Nat)} (r : Rd P t α) (k : Fds P (off + r.sz) tos β) : Fds P off ((t, off) :: tos) (α × β) where
  enc x := r.enc x.1 ++ k.enc x.2
  sz := r.sz + k.sz
  dflt := (r.dflt, k.dflt)
  good x := r.good x.1 ∧ k.good x.2
  bulk x := r.bulk x.1 + k.bulk x.2
  len x := by rw [List.length_append, r.len, k.len]
  read := by
    intro H en w base sp held fuel cs xs hl hs h
    cases xs with
    | nil => simp at hl
    | cons x xs =>
      have h0 := h 0 (t, off) rfl
      simp only [List.getElem?_cons_zero] at h0
      obtain ⟨a, h1, h2, h3, h4, h5⟩ := r.read h0
      obtain ⟨b, g1, g2, g3⟩ := k.read (w := w) (cs := cs) (by simpa using hl) (by omega) fun i f hf => by simpa using h (i + 1) f (by simpa using hf)
      refine ⟨(a, b), ⟨h1, g1⟩, by simp only [List.map_cons, Rows.uptoBulkAll]; omega, fun j hj => ?_⟩
      rw [List.getD_eq_getElem?_getD (l := r.enc a ++ k.enc b)]
      by_cases hj' : j < r.sz
      · rw [List.getElem?_append_left (by rw [r.len]; exact hj')]
        have e : (List.take (P.cellsOf t) (List.drop off cs)).getD j undef = cs.getD (off + j) undef := by
          rw [r.cells]
          simp only [List.getD_eq_getElem?_getD, List.getElem?_take, List.getElem?_drop, hj', if_true]
        have h5' := h5 j hj'
        simp only [e] at h5'
        refine ⟨?_, by rw [← List.getD_eq_getElem?_getD]; exact h5'⟩
        have hlt : off + j < cs.length := by omega
        rw [← e]
        have hm := h4 ((List.take (P.cellsOf t) (List.drop off cs)).getD j undef)
        apply hm
        rw [List.getD_eq_getElem?_getD, List.getElem?_eq_getElem (by simp only [h3]; exact hj')]
        exact List.getElem_mem _
      · rw [List.getElem?_append_right (by rw [r.len]; omega), r.len, ← List.getD_eq_getElem?_getD]
        have := g3 (j - r.sz) (by omega)
        rw [show off + r.sz + (j - r.sz) = off + j by omega] at this
        exact this
def fieldsAt (P : Program) (T : TypeId) : Option (List (TypeId × Nat)) := match P.underlying T with
  | some (.struct fs) => some (fs.toList.map fun f => (f.type, f.offset))
  | _ => none
theorem fieldsAt_spec {tos : List (TypeId × Nat)} (h : fieldsAt P T = some tos) : ∃ fs : Array Field, P.underlying T = some (.struct fs) ∧ tos = fs.toList.map fun f => (f.type, f.offset) := by
  unfold fieldsAt at h
  split at h
  · rename_i fs hu
    exact ⟨fs, hu, (Option.some.inj h).symm⟩
  · cases h
def Rd.struct {tos : List (TypeId × Nat)} (h : fieldsAt P T = some tos) (k : Fds P 0 tos α) (hc : P.cellsOf T = k.sz) : Rd P T α where
  enc := k.enc
  sz := k.sz
  dflt := k.dflt
  good := k.good
  bulk a := k.bulk a + 1
  cells := hc
  len := k.len
  read := by
    intro H en w base sp held fuel cs x hx
    obtain ⟨fs, hu, rfl⟩ := fieldsAt_spec h
    obtain ⟨xs, n, rfl, rfl, hl, hxl, hf⟩ := DataW.trod_struct hu hx
    rw [hc] at hl
    obtain ⟨a, h1, h2, h3⟩ := k.read (w := w) (cs := cs) (xs := xs) (by simp [hxl]) (by omega) fun i f hi => by
      rw [List.getElem?_map, Option.map_eq_some_iff] at hi
      obtain ⟨f', hf', rfl⟩ := hi
      exact hf i f' (by simpa using hf')
    refine ⟨a, h1, by simp only [Rows.uptoBulk]; omega, hl, ?_, fun j hj => by have := (h3 j hj).2; rwa [Nat.zero_add] at this⟩
    intro c hcm
    obtain ⟨i, hi, rfl⟩ := List.mem_iff_getElem.1 hcm
    have := (h3 i (by omega)).1
    rwa [Nat.zero_add, List.getD_eq_getElem?_getD, List.getElem?_eq_getElem hi] at this
structure Rds (P : Program) (ts : List TypeId) (α : Type) where
  svs : α → List SV
  good : α → Prop
  bulk : α → Nat
  len : ∀ a, (svs a).length = ts.length
  read : ∀ {H : Type} {en : TypeId × Value → H} {w : World} {base : Nat} {sp : Nat → Bool} {held : Bool} {vs : List Value} {ds : List (DataW H)} {ps : List MemPlace}, (∀ (j : Nat) t v, ts[j]? = some t → vs[j]? = some v → ∃ b, Value.okWide P w .any b t v) →
    DataW.TrodAll en P w base sp held ts vs ds ps → ∃ a, good a ∧ bulk a ≤ Rows.uptoBulkAll ds ∧ vs.length = ts.length ∧ ∀ j, j < ts.length → Rel Z0 w ((svs a).getD j .any) (vs.getD j undef)
def Rds.nil : Rds P [] Unit where
  svs _ := []
  good _ := True
  bulk _ := 0
  len _ := rfl
  read := by
    intro H en w base sp held vs ds ps hv h
    obtain ⟨rfl, rfl, rfl⟩ := trodAll_nil h
    exact ⟨(), trivial, by simp, rfl, fun j hj => by simp at hj⟩
def isAgg (P : Program) (T : TypeId) : Bool := match P.underlying T with
  | some (.struct _) | some (.array ..) => true
  | _ => false
theorem agg_of (h : isAgg P T = true) {w : World} {b : Nat} {v : Value} (hv : Value.okWide P w .any b T v) : ∃ cs, v = .agg cs := by
  unfold isAgg at h
  unfold Value.okWide at hv
  split at h
  · rename_i hu; rw [hu] at hv; exact ⟨_, hv.choose_spec.1⟩
  · rename_i hu; rw [hu] at hv; exact ⟨_, hv.choose_spec.1⟩
  · cases h
theorem cell_of (h : isAgg P T = false) {w : World} {b : Nat} {v : Value} (hv : Value.okWide P w .any b T v) : v.cells = #[v] := by
  cases v with
  | agg cs =>
    exfalso
    unfold isAgg at h
    unfold Value.okWide at hv
    cases hu : P.underlying T with
    | none => rw [hu] at hv; simp [Cell.okWide, Cell.ok, hu] at hv
    | some d => cases d <;> simp [hu, Cell.okWide, Cell.ok] at hv h
  | _ => rfl
def Rds.cons {ts : List TypeId} (r : Rd P T α) (h1 : r.sz = 1) (hagg : isAgg P T = false) (k : Rds P ts β) : Rds P (T :: ts) (α × β) where
  svs x := (r.enc x.1).getD 0 .any :: k.svs x.2
  good x := r.good x.1 ∧ k.good x.2
  bulk x := r.bulk x.1 + k.bulk x.2
  len x := by simp [k.len]
  read := by
    intro H en w base sp held vs ds ps hv h
    obtain ⟨v, vs, d, ds, p, q, rfl, rfl, rfl, ht, hr⟩ := trodAll_cons h
    obtain ⟨fuel, hf⟩ := ht
    obtain ⟨b, hb⟩ := hv 0 T v rfl rfl
    rw [cell_of hagg hb] at hf
    obtain ⟨a, g1, g2, g3, g4, g5⟩ := r.read hf
    obtain ⟨c, f1, f2, f3, f4⟩ := k.read (fun j t v hj hv' => hv (j + 1) t v (by simpa using hj) (by simpa using hv')) hr
    refine ⟨(a, c), ⟨g1, f1⟩, by simp only [Rows.uptoBulkAll]; exact Nat.add_le_add g2 f2, by simp [f3], fun j hj => ?_⟩
    cases j with
    | zero => exact g5 0 (by omega)
    | succ j => simpa using f4 j (by simpa using hj)
def Rds.consAgg {ts : List TypeId} (r : Rd P T α) (hagg : isAgg P T = true) (k : Rds P ts β) : Rds P (T :: ts) (α × β) where
  svs x := .agg (r.enc x.1) :: k.svs x.2
  good x := r.good x.1 ∧ k.good x.2
  bulk x := r.bulk x.1 + k.bulk x.2
  len x := by simp [k.len]
  read := by
    intro H en w base sp held vs ds ps hv h
    obtain ⟨v, vs, d, ds, p, q, rfl, rfl, rfl, ht, hr⟩ := trodAll_cons h
    obtain ⟨fuel, hf⟩ := ht
    obtain ⟨b, hb⟩ := hv 0 T v rfl rfl
    obtain ⟨cs, rfl⟩ := agg_of hagg hb
    simp only [Value.cells] at hf
    obtain ⟨a, g1, g2, g3, g4, g5⟩ := r.read hf
    obtain ⟨c, f1, f2, f3, f4⟩ := k.read (fun j t v hj hv' => hv (j + 1) t v (by simpa using hj) (by simpa using hv')) hr
    refine ⟨(a, c), ⟨g1, f1⟩, by simp only [Rows.uptoBulkAll]; exact Nat.add_le_add g2 f2, by simp [f3], fun j hj => ?_⟩
    cases j with
    | zero => exact .agg _ cs.toList (by rw [g3, r.len]) g4 fun j hj => g5 j (by rwa [r.len] at hj)
    | succ j => simpa using f4 j (by simpa using hj)
end
theorem grown_of {W W' : World} (hb : Below W.heap.size W W') : (∀ may, W.keptBut W' may) ∧ ∀ a : Addr, a.block < W.heap.size → W'.frozen? a = W.frozen? a := by
  refine ⟨fun may => ⟨hb.os, hb.output, fun i hi => ?_⟩, fun a ha => ?_⟩
  · rw [hb.block i hi]
    split
    · rename_i h1 h2
      rw [h1] at h2; cases h2
      exact ⟨rfl, rfl, rfl, fun _ _ => rfl⟩
    · rename_i h1 h2
      rw [h1] at h2; cases h2
      exact .inr ⟨rfl, rfl⟩
    · rfl
  · unfold World.frozen?
    rw [hb.block a.block ha]
theorem post_same {H : Type} {enc : TypeId × Value → H} {P : Program} {f : Func} {s : ChangeSpec} {apart fresh handsOn again : Bool} {W W' : World} {args : Array Value} {v : Value} {ds gs : List (DataW H)} {before pa pv : List MemPlace}
    (hW : DataW.Whole enc P f.params.toList s.vars apart W args.toList ds gs before)
    (hres : ∀ (b : Nat) (sp : Nat → Bool) (hd : Bool), DataW.TrodAll enc P W' b sp hd f.resultTypes.toList (v.resultList f.resultTypes.size) (s.fn H (ds ++ gs)).results [])
    (hargs : ∀ sp : Nat → Bool, (∀ p ∈ before, sp p.block = true) → DataW.TrodAll enc P W' 0 sp true f.params.toList args.toList (s.fn H (ds ++ gs)).args pa)
    (hvars : ∀ sp : Nat → Bool, (∀ p ∈ before, sp p.block = true) → DataW.TrodVars enc P W' sp s.vars (s.fn H (ds ++ gs)).vars pv)
    (hps : before = pa ++ pv) (hb : Below W.heap.size W W')
    (hok : ∀ (j : Nat) (t : TypeId) (r : Value), f.resultTypes[j]? = some t → (v.resultList f.resultTypes.size)[j]? = some r → Value.okWide P W' .any 0 t r) :
    s.post enc P f apart fresh handsOn again W args v W' := by
  obtain ⟨hk, hfz⟩ := grown_of hb
  have hlt := hW.lt
  have hold : ∀ p ∈ before, (fun b => decide (b < W.heap.size)) p.block = true := fun p hp => by simpa using hlt p hp
  refine ⟨ds, gs, before, [], pa, pv, hW, hres _ _ _, hargs _ hold, hvars _ hold, World.keptBut_mono (fun p hp => ⟨hp, ?_⟩) (hk (· ∈ before)), fun _ => ?_⟩
  · rw [hps, List.mem_append] at hp
    exact Or.inr hp
  · obtain ⟨_, _, _, _, _, hz, hn⟩ := hW
    refine ⟨hok, _, _, ([] ++ pa) ++ pv, ⟨[] ++ pa, pv, trodAll_append (hargs _ (fun _ _ => rfl)) (hres _ _ _), hvars _ (fun _ _ => rfl), rfl, ?_, ?_⟩, ?_⟩
    · intro b off hp
      have hp' : MemPlace.cell b off ∈ before := by rw [hps]; simpa using hp
      rw [hfz _ (hlt _ hp')]
      exact hz b off hp'
    · intro ha
      have := hn ha
      rw [hps] at this
      simpa using this
    · intro p hp _
      rw [hps]
      simpa using hp
theorem stays_all {H : Type} {en : TypeId × Value → H} {P : Program} (hl : laidOutB P = true) {W W' : World} (hb : Below W.heap.size W W') {sp : Nat → Bool} :
    ∀ {ts : List TypeId} {vs : List Value} {ds : List (DataW H)} {ps : List MemPlace}, ts.all (fun t => P.readableRec t && decide (t < P.types.size)) = true → DataW.TrodAll en P W 0 (fun _ => true) true ts vs ds ps → (∀ x ∈ ps, x.block < W.heap.size) → (∀ x ∈ ps, sp x.block = true) →
    DataW.TrodAll en P W' 0 sp true ts vs ds ps
  | [], _, _, _, _, h, _, _ => by
    obtain ⟨rfl, rfl, rfl⟩ := trodAll_nil h
    exact trodAll_mk0
  | t :: ts, _, _, _, hr, h, hlt, hsp => by
    obtain ⟨v, vs, d, ds, p, q, rfl, rfl, rfl, h0, h1⟩ := trodAll_cons h
    simp only [List.all_cons, Bool.and_eq_true, decide_eq_true_eq] at hr
    exact trodAll_cons_mk (WideElems.Trod_stays hl hr.1.1 hr.1.2 h0 (fun x hx => hb.same (hlt x (by simp [hx]))) (fun x hx => hsp x (by simp [hx])))
      (stays_all hl hb (by simpa using hr.2) h1 (fun x hx => hlt x (by simp [hx])) (fun x hx => hsp x (by simp [hx])))
theorem calls_of {H : Type} {en : TypeId × Value → H} {P : Program} [Gl P] {f : Nat} {fn : Func} {ts : List TypeId} {α : Type} (rds : Rds P ts α) {s : ChangeSpec} {tb : TypeId} {apart fresh handsOn again : Bool} (hs : s.vars = []) (hp : fn.params.toList = ts) (hres : fn.resultTypes = #[tb])
    (htb : P.underlying tb = some .bool) (hl : laidOutB P = true) (hread : ts.all (fun t => P.readableRec t && decide (t < P.types.size)) = true)
    (hfn : ∀ ds : List (DataW H), ds.length = ts.length → (s.fn H ds).results = [.lit (.bool true)] ∧ (s.fn H ds).args = ds ∧ (s.fn H ds).vars = [])
    {W : World} {base : Nat} {args : Array Value} {ds gs : List (DataW H)} {before : List MemPlace}
    (hval : ∀ (j : Nat) t v, fn.params[j]? = some t → args[j]? = some v → Value.okWide P W .any base t v)
    (hW : DataW.Whole en P fn.params.toList s.vars apart W args.toList ds gs before)
    (hgl : ∀ x ∈ Gl.gl P, x.1 < W.heap.size ∧ ∀ i v, x.2[i]? = some v → W.cell? ⟨x.1, i, none⟩ = some v)
    (hC : ∀ a, rds.good a → rds.bulk a ≤ Rows.uptoBulkAll ds → ∃ R : SV → List Own → Prop, FnC P f (rds.svs a) [] R ∧ ∀ s L, R s L → s = Sse.bool true) :
    Calls P f args W fun e W' => ∃ v, e = .returned v ∧ s.post en P fn apart fresh handsOn again W args v W' := by
  have hW' := hW
  have hlt0 := hW.lt
  obtain ⟨p, q, hA, hV, rfl, hfz, hnd⟩ := hW
  rw [hs] at hV
  obtain ⟨rfl, rfl⟩ := trodVars_none hV
  rw [hp] at hA
  obtain ⟨a, ha, hb, hlen, hrel⟩ := rds.read (fun j t v hj hv => ⟨base, hval j t v (by rw [← hp] at hj; simpa using hj) (by simpa using hv)⟩) hA
  obtain ⟨R, hF, hR⟩ := hC a ha hb
  have hlen' : ds.length = ts.length := by
    have : ∀ {ts : List TypeId} {vs : List Value} {ds : List (DataW H)} {p : List MemPlace}, DataW.TrodAll en P W 0 (fun _ => true) true ts vs ds p → ds.length = ts.length := by
      intro ts
      induction ts with
      | nil => intro vs ds p h; obtain ⟨_, rfl, _⟩ := trodAll_nil h; rfl
      | cons t ts ih => intro vs ds p h; obtain ⟨_, _, _, _, _, _, rfl, rfl, rfl, _, h1⟩ := trodAll_cons h; simp [ih h1]
    exact this hA
  have := hF.go Z0 W args.toList (by rw [hlen, rds.len]) (fun j hj => (hrel j (by rwa [rds.len] at hj)).stable fun b _ _ => ⟨rfl, by simp [ZL, Z0, inF, foots]⟩) (by simp [Z0]) (by simp [foots]) (by simp [inF, foots]) (by simp) (fun x hx => ⟨(hgl x hx).1, by simp [inF, foots], (hgl x hx).2⟩)
  simp only [Array.toArray_toList] at this
  refine this.mono fun e W' ⟨v, sv, L', he, hr, hrv, hw⟩ => ?_
  subst he
  obtain rfl := hR _ _ hr
  obtain rfl : v = .bool true := hrv.val_eq
  have hbel : Below W.heap.size W W' := ⟨hw.os, hw.tape, hw.output, hw.size, fun k hk => hw.keep k hk (by simp [inF, foots])⟩
  obtain ⟨e1, e2, e3⟩ := hfn (ds ++ []) (by simpa using hlen')
  simp only [List.append_nil] at hlt0 hW'
  refine ⟨_, rfl, post_same (pa := p) (pv := []) hW' (fun b sp hd => ?_) (fun sp hsp => ?_) (fun _ _ => ?_) (by simp) hbel (ok_one hres rfl (okWide_bool_mk htb _))⟩
  · rw [e1, hres]; exact trodAll_cons_mk (shut_bool htb _) trodAll_mk0
  · rw [e2, List.append_nil, hp]; exact stays_all hl hbel hread hA hlt0 hsp
  · rw [e3, hs]; rfl
end Go.Proofs.YtlfdhkahiaammaaDoor
