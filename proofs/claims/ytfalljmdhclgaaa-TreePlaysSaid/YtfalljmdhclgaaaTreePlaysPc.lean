/-
  Lemmas for the claim, part 3.
-/
import Derived.Test.YtfalljmdhclgaaaTreePlaysPb
namespace Go.Proofs.Ytfalljmdhclgaaa
open Go Go.Sse
set_option linter.unusedVariables false
set_option linter.unusedSimpArgs false
set_option maxRecDepth 10000
def certW (l : List Rw) (s : List UInt8) (now : Int) : List Rw × Int :=
  if atR l s < 0 then (l, 5) else if 0 < (l.getD (atR l s).toNat rw0).since then (l, 0) else
  if (l.getD (l.getD (atR l s).toNat rw0).par.toNat rw0).since = 0 then (l, 200) else (l.set (atR l s).toNat { l.getD (atR l s).toNat rw0 with since := now }, 0)
set_option maxHeartbeats 4000000 in
theorem rcert_ok (l : List Rw) (s : List UInt8) (now : Int) (hl : l.length < 1000) (hpar : ∀ i, i < l.length → 0 ≤ (l.getD i rw0).par ∧ (l.getD i rw0).par < l.length) : FnC Try.prog 22 [rwL l, str s, int now] [] (fun r L => r = .tup [rwL (certW l s now).1, int (certW l s now).2] ∧ L = []) := by
  have c1 := rat_ok l s (by omega)
  have hlt := atR_lt (l := l) (s := s)
  refine FnC.intro Try.func22 rfl Try.ntmps22 rfl fun Z w0 hG => ?_
  by_cases h1 : atR l s < 0
  · rw [show certW l s now = (l, 5) by simp [certW, h1]]
    focus (
 (refine W.seq (W.region (Jx.assign rfl rfl (Jx.assign rfl rfl (J.nil (N.seq (W.seq (W.region (Jx.move rfl rfl (Jx.move rfl rfl ?_))))))))))
 (refine J.call (c1) rfl (evs_args rfl) rfl ?_; rintro _ _ ⟨rfl, rfl⟩; simp only [la1, la2, la3])
 (refine Jx.assign rfl rfl (J.nil (N.seq (W.seq (W.seq (W.region (Jx.move rfl rfl (Jx.lssI rfl rfl rfl (J.nil (N.seq (W.cT rfl ?_)))))))))))
 (refine W.seq (W.region (Jx.move rfl rfl (Jx.assign rfl rfl (Jx.assign rfl rfl (J.nil (N.seq (W.ret (N.noGotoRet ?_)))))))))
 (refine id ?_; rotate_left))
    exact N.ret (rs := [.tmp 6, .tmp 7]) rfl (.tmp rfl (.tmp rfl .nil)) ⟨rfl, rfl⟩
  · obtain ⟨a, ha⟩ : ∃ a : Nat, atR l s = (a : Int) := ⟨(atR l s).toNat, by omega⟩
    have hat : (atR l s).toNat = a := by omega
    have hal : a < l.length := by omega
    obtain ⟨p1, p2⟩ := hpar a hal
    obtain ⟨p, hp⟩ : ∃ p : Nat, (l.getD a rw0).par = (p : Int) := ⟨(l.getD a rw0).par.toNat, by omega⟩
    have hpt : (l.getD a rw0).par.toNat = p := by omega
    have hpl : p < l.length := by omega
    have e : certW l s now = if 0 < (l.getD a rw0).since then (l, 0) else if (l.getD p rw0).since = 0 then (l, 200) else (l.set a { l.getD a rw0 with since := now }, 0) := by
      unfold certW
      rw [if_neg h1, hat, hpt]
    rw [e]
    rw [ha] at c1
    have h1' : ¬ (a : Int) < 0 := by omega
    by_cases h2 : 0 < (l.getD a rw0).since
    · rw [if_pos h2]
      focus (
 (refine W.seq (W.region (Jx.assign rfl rfl (Jx.assign rfl rfl (J.nil (N.seq (W.seq (W.region (Jx.move rfl rfl (Jx.move rfl rfl ?_))))))))))
 (refine J.call (c1) rfl (evs_args rfl) rfl ?_; rintro _ _ ⟨rfl, rfl⟩; simp only [la1, la2, la3])
 (refine Jx.assign rfl rfl (J.nil (N.seq (W.seq (W.seq (W.region (Jx.move rfl rfl (Jx.lssI rfl rfl rfl (J.nil (N.seq (W.cF rfl ?_)))))))))))
 (refine W.skip (N.seq (W.seq (W.seq (W.region (Jx.move rfl rfl (Jx.move rfl rfl (Jx.indexEl rfl rfl (by assumption) rfl rfl ?_))))))))
 (refine Jx.fieldEl rfl rfl rfl ?_)
 (refine Jx.loadPP rfl rfl ?_)
 (refine Jx.gtrI rfl rfl rfl (J.nil (N.seq (W.cT rfl ?_))))
 (refine W.seq (W.region (Jx.move rfl rfl (Jx.assign rfl rfl (Jx.assign rfl rfl (J.nil (N.seq (W.ret (N.noGotoRet ?_)))))))))
 (refine id ?_; rotate_left))
      exact N.ret (rs := [.tmp 6, .tmp 7]) rfl (.tmp rfl (.tmp rfl .nil)) ⟨rfl, rfl⟩
    · rw [if_neg h2]
      by_cases h3 : (l.getD p rw0).since = 0
      · rw [if_pos h3]
        focus (
 (refine W.seq (W.region (Jx.assign rfl rfl (Jx.assign rfl rfl (J.nil (N.seq (W.seq (W.region (Jx.move rfl rfl (Jx.move rfl rfl ?_))))))))))
 (refine J.call (c1) rfl (evs_args rfl) rfl ?_; rintro _ _ ⟨rfl, rfl⟩; simp only [la1, la2, la3])
 (refine Jx.assign rfl rfl (J.nil (N.seq (W.seq (W.seq (W.region (Jx.move rfl rfl (Jx.lssI rfl rfl rfl (J.nil (N.seq (W.cF rfl ?_)))))))))))
 (refine W.skip (N.seq (W.seq (W.seq (W.region (Jx.move rfl rfl (Jx.move rfl rfl (Jx.indexEl rfl rfl (by assumption) rfl rfl ?_))))))))
 (refine Jx.fieldEl rfl rfl rfl ?_)
 (refine Jx.loadPP rfl rfl ?_)
 (refine Jx.gtrI rfl rfl rfl (J.nil (N.seq (W.cF rfl ?_))))
 (refine W.skip (N.seq (W.seq (W.seq (W.region (Jx.move rfl rfl (Jx.move rfl rfl (Jx.move rfl rfl (Jx.indexEl rfl rfl (by assumption) rfl rfl ?_)))))))))
 (refine Jx.fieldEl rfl rfl rfl ?_)
 (refine Jx.loadPP rfl rfl ?_)
 (rw [hp]; refine Jx.indexEl rfl rfl hpl rfl rfl ?_)
 (refine Jx.fieldEl rfl rfl rfl ?_)
 (refine Jx.loadPP rfl rfl ?_)
 (refine Jx.eqlI rfl rfl rfl (J.nil (N.seq (W.cT rfl ?_))))
 (refine W.seq (W.region (Jx.move rfl rfl (Jx.assign rfl rfl (Jx.assign rfl rfl (J.nil (N.seq (W.ret (N.noGotoRet ?_)))))))))
 (refine id ?_; rotate_left))
        exact N.ret (rs := [.tmp 6, .tmp 7]) rfl (.tmp rfl (.tmp rfl .nil)) ⟨rfl, rfl⟩
      · rw [if_neg h3]
        have hm1 : ([] : List Rw).length + l.length ≤ maxLen ∧ (([] : List Rw).length + l.length) * 40 ≤ 140737488355328 := by simp only [maxLen, List.length_nil]; omega
        have hpos : 0 < l.length := by omega
        have hset : rwC { l.getD a rw0 with since := now } = (rwC (l.getD a rw0)).set 3 (int now) := rfl
        focus (
 (refine W.seq (W.region (Jx.assign rfl rfl (Jx.assign rfl rfl (J.nil (N.seq (W.seq (W.region (Jx.move rfl rfl (Jx.move rfl rfl ?_))))))))))
 (refine J.call (c1) rfl (evs_args rfl) rfl ?_; rintro _ _ ⟨rfl, rfl⟩; simp only [la1, la2, la3])
 (refine Jx.assign rfl rfl (J.nil (N.seq (W.seq (W.seq (W.region (Jx.move rfl rfl (Jx.lssI rfl rfl rfl (J.nil (N.seq (W.cF rfl ?_)))))))))))
 (refine W.skip (N.seq (W.seq (W.seq (W.region (Jx.move rfl rfl (Jx.move rfl rfl (Jx.indexEl rfl rfl (by assumption) rfl rfl ?_))))))))
 (refine Jx.fieldEl rfl rfl rfl ?_)
 (refine Jx.loadPP rfl rfl ?_)
 (refine Jx.gtrI rfl rfl rfl (J.nil (N.seq (W.cF rfl ?_))))
 (refine W.skip (N.seq (W.seq (W.seq (W.region (Jx.move rfl rfl (Jx.move rfl rfl (Jx.move rfl rfl (Jx.indexEl rfl rfl (by assumption) rfl rfl ?_)))))))))
 (refine Jx.fieldEl rfl rfl rfl ?_)
 (refine Jx.loadPP rfl rfl ?_)
 (rw [hp]; refine Jx.indexEl rfl rfl hpl rfl rfl ?_)
 (refine Jx.fieldEl rfl rfl rfl ?_)
 (refine Jx.loadPP rfl rfl ?_)
 (refine Jx.eqlI rfl rfl rfl (J.nil (N.seq (W.cF rfl ?_))))
 (refine W.skip (N.seq (W.seq (W.region (Jx.assign rfl rfl (J.nil (N.seq (W.seq (W.region (Jx.move rfl rfl (Jx.move rfl rfl ?_)))))))))))
 (refine J.rowNil tRw 4 (elOf rwC rw0 []) ?_; refine J.appendAt (l := []) (l2 := l) 0 rfl rfl (SrcOK.sl rfl) rfl rfl hm1 rfl ?_; intro v1 hv1; simp only [List.nil_append, List.set_cons_zero]; refine J.rowView 0 rfl hpos ?_; rintro r cap rfl hc1 hc2)
 (refine Jx.assign rfl rfl (J.nil (N.seq (W.seq (W.region (Jx.move rfl rfl (Jx.move rfl rfl (Jx.move rfl rfl ?_))))))))
 (refine Jx.indexRow a rfl rfl rfl hal rfl ?_)
 (refine Jx.fieldAddr rfl rfl ?_)
 (refine J.storeRowL a 3 { l.getD a rw0 with since := now } rfl rfl (One.val rfl) 0 rfl rfl hal (by decide) hset rfl ?_)
 (refine J.nil (N.seq (W.seq (W.region (Jx.move rfl rfl (Jx.assign rfl rfl (Jx.assign rfl rfl (J.nil (N.seq (W.ret ?_))))))))))
 (refine id ?_; rotate_left))
        refine N.freeze 6 rfl (by simp only [maxLen]; omega) ?_
        exact N.ret (rs := [.tmp 6, .tmp 7]) rfl (.tmp rfl (.tmp rfl .nil)) ⟨by rw [← hp]; show SV.tup [_, _] = SV.tup [.sl 4 (l.set a _).length _, _]; rw [List.length_set], rfl⟩
end Go.Proofs.Ytfalljmdhclgaaa
namespace Go.Proofs.Ytfalljmdhclgaaa
open Go Go.Sse
set_option linter.unusedVariables false
set_option linter.unusedSimpArgs false
set_option maxRecDepth 10000
def lineW (l : List Rw) : Nat → Nat → List (List UInt8)
  | 0, _ => []
  | _ + 1, 0 => []
  | f + 1, i + 1 => lineW l f (l.getD (i + 1) rw0).par.toNat ++ [(l.getD (i + 1) rw0).sum]
theorem lineW_len (l : List Rw) : ∀ f i, (lineW l f i).length ≤ f
  | 0, i => by simp [lineW]
  | f + 1, 0 => by simp [lineW]
  | f + 1, i + 1 => by
    have := lineW_len l f (l.getD (i + 1) rw0).par.toNat
    simp only [lineW, List.length_append, List.length_cons, List.length_nil]; omega
theorem rline_ok (l : List Rw) (hl : l.length < 1000) (hpar : ∀ i, 0 < i → i < l.length → 0 ≤ (l.getD i rw0).par ∧ (l.getD i rw0).par.toNat < i) : ∀ f i, i < f → i < l.length → f ≤ 1000 →
    FnC Try.prog 31 [rwL l, int (i : Int)] [] (fun r L => ∃ u, r = .val u ∧ L = [.row u tStr 1 (lineW l f i).length (elOf encS [] (lineW l f i))])
  | 0, i, h, _, _ => by omega
  | f + 1, 0, _, _, _ => by
    refine FnC.intro Try.func31 rfl Try.ntmps31 rfl fun Z w0 hG => ?_
    focus (
 (refine W.seq (W.region (Jx.assign rfl rfl (J.nil (N.seq (W.seq (W.seq (W.region (Jx.move rfl rfl (Jx.eqlI rfl rfl rfl (J.nil (N.seq (W.cT rfl ?_)))))))))))))
 (refine W.seq (W.region (Jx.assign rfl rfl (J.nil (N.seq (W.ret (N.noGotoRet ?_)))))))
 (refine id ?_; rotate_left))
    refine N.rowNil tStr 1 (elOf encS [] []) ?_
    exact N.ret (rs := [.tmp 4]) rfl (.tmp rfl .nil) ⟨_, rfl, rfl⟩
  | f + 1, i + 1, h1, h2, h3 => by
    obtain ⟨p1, p2⟩ := hpar (i + 1) (by omega) h2
    have ih := rline_ok l hl hpar f (l.getD (i + 1) rw0).par.toNat (by omega) (by omega) (by omega)
    have hln := lineW_len l f (l.getD (i + 1) rw0).par.toNat
    rw [show lineW l (f + 1) (i + 1) = lineW l f (l.getD (i + 1) rw0).par.toNat ++ [(l.getD (i + 1) rw0).sum] from rfl]
    generalize lineW l f (l.getD (i + 1) rw0).par.toNat = out at *
    obtain ⟨p, hp⟩ : ∃ p : Nat, (l.getD (i + 1) rw0).par = (p : Int) := ⟨(l.getD (i + 1) rw0).par.toNat, by omega⟩
    have hpt : (l.getD (i + 1) rw0).par.toNat = p := by omega
    rw [hpt, ← hp] at ih
    have hi0 : ¬ ((i + 1 : Nat) : Int) = 0 := by omega
    have hmx : out.length + [(l.getD (i + 1) rw0).sum].length ≤ maxLen ∧ (out.length + [(l.getD (i + 1) rw0).sum].length) * 16 ≤ 140737488355328 := by simp only [maxLen, List.length_cons, List.length_nil]; omega
    refine FnC.intro Try.func31 rfl Try.ntmps31 rfl fun Z w0 hG => ?_
    focus (
 (refine W.seq (W.region (Jx.assign rfl rfl (J.nil (N.seq (W.seq (W.seq (W.region (Jx.move rfl rfl (Jx.eqlI rfl rfl rfl (J.nil (N.seq (W.cF rfl ?_)))))))))))))
 (refine W.skip (N.seq (W.seq (W.region (Jx.move rfl rfl (Jx.move rfl rfl (Jx.move rfl rfl (Jx.indexEl rfl rfl (by assumption) rfl rfl ?_))))))))
 (refine Jx.fieldEl rfl rfl rfl ?_)
 (refine Jx.loadPP rfl rfl ?_)
 (refine J.call (ih) rfl (evs_args rfl) rfl ?_; rintro _ _ ⟨u, rfl, rfl⟩; simp only [la1, la2, la3])
 (refine Jx.assign rfl rfl (J.nil (N.seq (W.seq (W.region (Jx.move rfl rfl (Jx.move rfl rfl (Jx.move rfl rfl (Jx.indexEl rfl rfl (by assumption) rfl rfl ?_)))))))))
 (refine Jx.fieldEl rfl rfl rfl ?_)
 (refine Jx.loadPP rfl rfl ?_)
 (refine J.qs (Qs.buildTexts [(l.getD (i + 1) rw0).sum] rfl rfl rfl (by decide) (by decide)) rfl ?_)
 (refine J.appendAt (l := out) (l2 := [(l.getD (i + 1) rw0).sum]) 0 rfl rfl (SrcOK.sl rfl) rfl rfl hmx rfl ?_; intro v2 hv2)
 (refine Jx.assign rfl rfl (J.nil (N.seq (W.ret ?_))))
 (refine id ?_; rotate_left))
    exact N.ret (rs := [.tmp 4]) rfl (.tmp rfl .nil) ⟨_, rfl, rfl⟩
end Go.Proofs.Ytfalljmdhclgaaa
namespace Go.Proofs.Ytfalljmdhclgaaa
open Go Go.Sse
set_option linter.unusedVariables false
set_option linter.unusedSimpArgs false
set_option maxRecDepth 10000
set_option maxHeartbeats 2000000 in
theorem rthree_ok (a b c : Int) (ha : 0 ≤ a ∧ a ≤ 1048576) (hb : 0 ≤ b ∧ b ≤ 1048576) (hc : 0 ≤ c ∧ c ≤ 1048576) : FnC Try.prog 36 [int a, int b, int c] [] (fun s L => s = bool (threeB a b c) ∧ L = []) := by
  have h0 : 0 ≤ a := ha.1
  have h1 : a < 1099511627776 := by omega
  have h2 : ¬ 1099511627776 ≤ a := by omega
  by_cases h3 : b = a + 1
  · by_cases h4 : c = a + 2
    · have e : threeB a b c = true := decide_eq_true (by omega)
      rw [e]
      refine FnC.intro Try.func36 rfl Try.ntmps36 rfl fun Z w0 hG => ?_
      focus (
 (refine W.seq (W.region (Jx.assign rfl rfl (J.nil (N.seq (W.seq (W.region (Jx.move rfl rfl (Jx.geqI rfl rfl rfl (Jx.move rfl rfl (J.gY rfl rfl rfl ?_)))))))))))
 (refine Jx.move rfl rfl (J.gY rfl rfl rfl ?_))
 (refine Jx.lssI rfl rfl rfl (Jx.pT rfl rfl rfl ?_))
 (refine Jx.move rfl rfl (J.gY rfl rfl rfl ?_))
 (refine Jx.move rfl rfl (J.gY rfl rfl rfl ?_))
 (refine Jx.move rfl rfl (J.gY rfl rfl rfl ?_))
 (refine Jx.add64 rfl rfl (by omega) rfl ?_)
 (refine J.gY rfl rfl rfl ?_)
 (refine Jx.eqlI rfl rfl rfl (Jx.pT rfl rfl rfl ?_))
 (refine Jx.move rfl rfl (J.gY rfl rfl rfl ?_))
 (refine Jx.move rfl rfl (J.gY rfl rfl rfl ?_))
 (refine Jx.move rfl rfl (J.gY rfl rfl rfl ?_))
 (refine Jx.add64 rfl rfl (by omega) rfl ?_)
 (refine J.gY rfl rfl rfl ?_)
 (refine Jx.eqlI rfl rfl rfl (Jx.pT rfl rfl rfl ?_))
 (refine Jx.move rfl rfl (J.gN rfl rfl rfl rfl ?_))
 (refine J.gN rfl rfl rfl rfl ?_)
 (refine J.gN rfl rfl rfl rfl ?_)
 (refine J.guardSkip rfl rfl rfl rfl ?_)
 (refine J.guardSkip rfl rfl rfl rfl ?_)
 (refine J.guardSkip rfl rfl rfl rfl ?_)
 (refine J.gN rfl rfl rfl rfl ?_)
 (refine J.gN rfl rfl rfl rfl ?_)
 (refine J.guardSkip rfl rfl rfl rfl ?_)
 (refine J.guardSkip rfl rfl rfl rfl ?_)
 (refine J.guardSkip rfl rfl rfl rfl ?_)
 (refine J.gN rfl rfl rfl rfl ?_)
 (refine J.gN rfl rfl rfl rfl ?_)
 (refine J.guardSkip rfl rfl rfl rfl ?_)
 (refine J.guardSkip rfl rfl rfl rfl ?_)
 (refine J.guardSkip rfl rfl rfl rfl ?_)
 (refine J.guardSkip rfl rfl rfl rfl ?_)
 (refine J.gN rfl rfl rfl rfl ?_)
 (refine J.gN rfl rfl rfl rfl ?_)
 (refine J.guardSkip rfl rfl rfl rfl ?_)
 (refine J.guardSkip rfl rfl rfl rfl ?_)
 (refine J.guardSkip rfl rfl rfl rfl ?_)
 (refine J.guardSkip rfl rfl rfl rfl ?_)
 (refine J.gN rfl rfl rfl rfl ?_)
 (refine Jx.pT rfl rfl rfl ?_)
 (refine Jx.assign rfl rfl (J.nil (N.seq (W.ret ?_))))
 (refine id ?_; rotate_left))
      exact N.ret (rs := [.tmp 6]) rfl (.tmp rfl .nil) ⟨rfl, rfl⟩
    · have e : threeB a b c = false := decide_eq_false (by omega)
      rw [e]
      refine FnC.intro Try.func36 rfl Try.ntmps36 rfl fun Z w0 hG => ?_
      focus (
 (refine W.seq (W.region (Jx.assign rfl rfl (J.nil (N.seq (W.seq (W.region (Jx.move rfl rfl (Jx.geqI rfl rfl rfl (Jx.move rfl rfl (J.gY rfl rfl rfl ?_)))))))))))
 (refine Jx.move rfl rfl (J.gY rfl rfl rfl ?_))
 (refine Jx.lssI rfl rfl rfl (Jx.pT rfl rfl rfl ?_))
 (refine Jx.move rfl rfl (J.gY rfl rfl rfl ?_))
 (refine Jx.move rfl rfl (J.gY rfl rfl rfl ?_))
 (refine Jx.move rfl rfl (J.gY rfl rfl rfl ?_))
 (refine Jx.add64 rfl rfl (by omega) rfl ?_)
 (refine J.gY rfl rfl rfl ?_)
 (refine Jx.eqlI rfl rfl rfl (Jx.pT rfl rfl rfl ?_))
 (refine Jx.move rfl rfl (J.gY rfl rfl rfl ?_))
 (refine Jx.move rfl rfl (J.gY rfl rfl rfl ?_))
 (refine Jx.move rfl rfl (J.gY rfl rfl rfl ?_))
 (refine Jx.add64 rfl rfl (by omega) rfl ?_)
 (refine J.gY rfl rfl rfl ?_)
 (refine Jx.eqlI rfl rfl rfl (Jx.pT rfl rfl rfl ?_))
 (refine Jx.move rfl rfl (J.gY rfl rfl rfl ?_))
 (refine Jx.move rfl rfl (J.gY rfl rfl rfl ?_))
 (refine Jx.geqI rfl rfl rfl (J.gY rfl rfl rfl ?_))
 (refine Jx.move rfl rfl (J.gN rfl rfl rfl rfl ?_))
 (refine J.gN rfl rfl rfl rfl ?_)
 (refine J.gN rfl rfl rfl rfl ?_)
 (refine J.gY rfl rfl rfl ?_)
 (refine Jx.pF rfl rfl rfl ?_)
 (refine J.gY rfl rfl rfl ?_)
 (refine Jx.move rfl rfl (J.gN rfl rfl rfl rfl ?_))
 (refine J.gN rfl rfl rfl rfl ?_)
 (refine J.gN rfl rfl rfl rfl ?_)
 (refine J.gY rfl rfl rfl ?_)
 (refine Jx.pF rfl rfl rfl ?_)
 (refine J.gY rfl rfl rfl ?_)
 (refine Jx.move rfl rfl (J.gN rfl rfl rfl rfl ?_))
 (refine J.gN rfl rfl rfl rfl ?_)
 (refine J.gN rfl rfl rfl rfl ?_)
 (refine J.gN rfl rfl rfl rfl ?_)
 (refine J.gY rfl rfl rfl ?_)
 (refine Jx.pF rfl rfl rfl ?_)
 (refine J.gY rfl rfl rfl ?_)
 (refine Jx.move rfl rfl (J.gN rfl rfl rfl rfl ?_))
 (refine J.gN rfl rfl rfl rfl ?_)
 (refine J.gN rfl rfl rfl rfl ?_)
 (refine J.gN rfl rfl rfl rfl ?_)
 (refine J.gY rfl rfl rfl ?_)
 (refine Jx.pF rfl rfl rfl ?_)
 (refine Jx.pF rfl rfl rfl ?_)
 (refine Jx.assign rfl rfl (J.nil (N.seq (W.ret ?_))))
 (refine id ?_; rotate_left))
      exact N.ret (rs := [.tmp 6]) rfl (.tmp rfl .nil) ⟨rfl, rfl⟩
  · have e : threeB a b c = false := decide_eq_false (by omega)
    rw [e]
    refine FnC.intro Try.func36 rfl Try.ntmps36 rfl fun Z w0 hG => ?_
    focus (
 (refine W.seq (W.region (Jx.assign rfl rfl (J.nil (N.seq (W.seq (W.region (Jx.move rfl rfl (Jx.geqI rfl rfl rfl (Jx.move rfl rfl (J.gY rfl rfl rfl ?_)))))))))))
 (refine Jx.move rfl rfl (J.gY rfl rfl rfl ?_))
 (refine Jx.lssI rfl rfl rfl (Jx.pT rfl rfl rfl ?_))
 (refine Jx.move rfl rfl (J.gY rfl rfl rfl ?_))
 (refine Jx.move rfl rfl (J.gY rfl rfl rfl ?_))
 (refine Jx.move rfl rfl (J.gY rfl rfl rfl ?_))
 (refine Jx.add64 rfl rfl (by omega) rfl ?_)
 (refine J.gY rfl rfl rfl ?_)
 (refine Jx.eqlI rfl rfl rfl (Jx.pT rfl rfl rfl ?_))
 (refine Jx.move rfl rfl (J.gN rfl rfl rfl rfl ?_))
 (refine J.gN rfl rfl rfl rfl ?_)
 (refine J.gN rfl rfl rfl rfl ?_)
 (refine J.gN rfl rfl rfl rfl ?_)
 (refine Jx.pF rfl rfl rfl ?_)
 (refine Jx.move rfl rfl (J.gY rfl rfl rfl ?_))
 (refine Jx.move rfl rfl (J.gY rfl rfl rfl ?_))
 (refine Jx.geqI rfl rfl rfl (J.gY rfl rfl rfl ?_))
 (refine Jx.move rfl rfl (J.gN rfl rfl rfl rfl ?_))
 (refine J.gN rfl rfl rfl rfl ?_)
 (refine J.gN rfl rfl rfl rfl ?_)
 (refine J.gY rfl rfl rfl ?_)
 (refine Jx.pF rfl rfl rfl ?_)
 (refine J.gY rfl rfl rfl ?_)
 (refine Jx.move rfl rfl (J.gN rfl rfl rfl rfl ?_))
 (refine J.gN rfl rfl rfl rfl ?_)
 (refine J.gN rfl rfl rfl rfl ?_)
 (refine J.gY rfl rfl rfl ?_)
 (refine Jx.pF rfl rfl rfl ?_)
 (refine J.gY rfl rfl rfl ?_)
 (refine Jx.move rfl rfl (J.gN rfl rfl rfl rfl ?_))
 (refine J.gN rfl rfl rfl rfl ?_)
 (refine J.gN rfl rfl rfl rfl ?_)
 (refine J.gN rfl rfl rfl rfl ?_)
 (refine J.gY rfl rfl rfl ?_)
 (refine Jx.pF rfl rfl rfl ?_)
 (refine J.gY rfl rfl rfl ?_)
 (refine Jx.move rfl rfl (J.gN rfl rfl rfl rfl ?_))
 (refine J.gN rfl rfl rfl rfl ?_)
 (refine J.gN rfl rfl rfl rfl ?_)
 (refine J.gN rfl rfl rfl rfl ?_)
 (refine J.gY rfl rfl rfl ?_)
 (refine Jx.pF rfl rfl rfl ?_)
 (refine Jx.pF rfl rfl rfl ?_)
 (refine Jx.assign rfl rfl (J.nil (N.seq (W.ret ?_))))
 (refine id ?_; rotate_left))
    exact N.ret (rs := [.tmp 6]) rfl (.tmp rfl .nil) ⟨rfl, rfl⟩
end Go.Proofs.Ytfalljmdhclgaaa
namespace Go.Proofs.Ytfalljmdhclgaaa
open Go Go.Sse
set_option linter.unusedVariables false
set_option linter.unusedSimpArgs false
set_option maxRecDepth 10000
def anO : List UInt8 := [97, 110, 111, 116, 104, 101, 114, 32, 111, 110, 101]
def spoA (l : List (List UInt8)) (i : Nat) : List (List UInt8) := List.replicate i anO ++ l.drop i
theorem spoA_len {l : List (List UInt8)} {i : Nat} (h : i ≤ l.length) : (spoA l i).length = l.length := by simp [spoA]; omega
theorem spoA_set {l : List (List UInt8)} {i : Nat} (h : i < l.length) : (spoA l i).set i anO = spoA l (i + 1) := by
  simp only [spoA]
  rw [List.set_append_right _ _ (by simp), List.length_replicate, Nat.sub_self, List.drop_eq_getElem_cons h, List.set_cons_zero, List.replicate_succ']
  simp
set_option maxHeartbeats 2000000 in
theorem spoil_ok (u : Value) (l : List (List UInt8)) (hl : l.length ≤ 1000) : FnC Try.prog 30 [.val u] [.row u tStr 1 l.length (elOf encS [] l)] (fun r L => ∃ u' l', L = [.row u' tStr 1 l'.length (elOf encS [] l')]) := by
  by_cases h0 : l.length = 0
  · have hz : ¬ (0 : Int) < (l.length : Int) := by omega
    refine FnC.intro Try.func30 rfl Try.ntmps30 rfl fun Z w0 hG => ?_
    focus (
 (refine W.seq (W.region (Jx.assign rfl rfl (J.nil (N.seq (W.block ?_))))))
 (refine id ?_; rotate_left))
    refine W.loop (α := Unit) (fun _ => [(2, int 0), (0, .val u)]) (fun _ => [.row u tStr 1 l.length (elOf encS [] l)]) (fun _ => True) (fun _ => 0) () trivial rfl ⟨ref0 rfl, ref0 rfl, trivial⟩ ?_
    rintro _ _
    focus (
 (refine W.seq (W.seq (W.region (Jx.move rfl rfl (Jx.move rfl rfl (Jx.lenRow rfl 0 rfl rfl ?_))))))
 (refine Jx.lssI rfl rfl rfl (J.nil (N.seq (W.cF rfl ?_))))
 (refine W.exit (N.seqExit (N.seqExit (N.blockHere ?_))))
 (refine id ?_; rotate_left))
    exact N.fin (rs := []) rfl .nil ⟨_, _, rfl⟩
  · refine FnC.intro Try.func30 rfl Try.ntmps30 rfl fun Z w0 hG => ?_
    refine W.rowView 0 rfl (by omega) ?_
    rintro r cap rfl hc1 hc2
    focus (
 (refine W.seq (W.region (Jx.assign rfl rfl (J.nil (N.seq (W.block ?_))))))
 (refine id ?_; rotate_left))
    refine W.loop (α := Nat) (fun i => [(2, int (i : Int)), (0, .val (.slice (some ⟨r, 0, none⟩) l.length cap))]) (fun i => [.row (.slice (some ⟨r, 0, none⟩) l.length cap) tStr 1 l.length (elOf encS [] (spoA l i))]) (fun i => i ≤ l.length) (fun i => l.length - i) 0 (by simp) (by simp [spoA]) ⟨ref0 rfl, ref0 rfl, trivial⟩ ?_
    intro i hi
    by_cases h1 : i < l.length
    · have hs := spoA_set h1
      have e := spoA_len hi
      generalize spoA l i = A at *
      have hiA : i < A.length := by omega
      focus (
 (refine W.seq (W.seq (W.region (Jx.move rfl rfl (Jx.move rfl rfl (Jx.lenRow rfl 0 rfl rfl ?_))))))
 (refine Jx.lssI rfl rfl rfl (J.nil (N.seq (W.cT rfl ?_))))
 (refine W.skip (N.seq (W.seq (W.block (W.region (Jx.move rfl rfl (Jx.move rfl rfl ?_)))))))
 (refine Jx.indexRow i rfl rfl rfl h1 rfl ?_)
 (rw [← e]; refine J.storeRowL i 0 anO rfl rfl (One.val rfl) 0 rfl rfl hiA (by decide) rfl rfl ?_)
 (refine J.nil (N.seq (W.region (Jx.move rfl rfl (Jx.add64 rfl rfl (by omega) rfl ?_)))))
 (refine Jx.assign rfl rfl (J.nil ?_))
 (refine id ?_; rotate_left))
      exact N.round (i + 1) (by omega) (by omega) (by rw [← hs]; rfl) ⟨ref0 rfl, ref0 rfl, trivial⟩
    · focus (
 (refine W.seq (W.seq (W.region (Jx.move rfl rfl (Jx.move rfl rfl (Jx.lenRow rfl 0 rfl rfl ?_))))))
 (refine Jx.lssI rfl rfl rfl (J.nil (N.seq (W.cF rfl ?_))))
 (refine W.exit (N.seqExit (N.seqExit (N.blockHere ?_))))
 (refine id ?_; rotate_left))
      exact N.fin (rs := []) rfl .nil ⟨_, spoA l i, by rw [spoA_len hi]⟩
end Go.Proofs.Ytfalljmdhclgaaa
namespace Go.Proofs.Ytfalljmdhclgaaa
open Go Go.Sse
set_option linter.unusedVariables false
set_option linter.unusedSimpArgs false
set_option maxRecDepth 10000
abbrev Rl (l : List Rw) (i : Nat) : Rw := l.getD i rw0
structure RInv (T : Tr) (l : List Rw) (now : Int) : Prop where
  inv : TInv T
  len : l.length = T.all.length
  sum : ∀ i, i < l.length → (Rl l i).sum = (T.at i).sum
  view : ∀ i, i < l.length → (Rl l i).view = (T.at i).view
  par : ∀ i, 0 < i → i < l.length → (Rl l i).par = (T.at i).par
  root : (Rl l 0).par = 0
  cert : ∀ i, i < l.length → ((T.at i).cert = true ↔ 0 < (Rl l i).since)
  since : ∀ i, i < l.length → 0 ≤ (Rl l i).since ∧ (Rl l i).since < now
  dist : ∀ i j, i < l.length → j < l.length → (Rl l i).since = (Rl l j).since → 0 < (Rl l i).since → i = j
  high : ∀ i, i < l.length → 0 < (Rl l i).since → (Rl l i).view = (Rl l T.high).view → (Rl l T.high).since ≤ (Rl l i).since
theorem RInv.later {T : Tr} {l : List Rw} {now now' : Int} (h : RInv T l now) (hn : now ≤ now') : RInv T l now' :=
  ⟨h.inv, h.len, h.sum, h.view, h.par, h.root, h.cert, fun i hi => ⟨(h.since i hi).1, by have := (h.since i hi).2; omega⟩, h.dist, h.high⟩
theorem rinv_new (r : List UInt8) : RInv (Tr.new r) [⟨r, 0, 0, 1⟩] 2 := by
  have h0 : ∀ i, i < [(⟨r, 0, 0, 1⟩ : Rw)].length → i = 0 := fun i hi => by simp at hi; omega
  refine ⟨inv_new r, rfl, fun i hi => by rw [h0 i hi]; rfl, fun i hi => by rw [h0 i hi]; rfl, fun i h1 h2 => by have := h0 i h2; omega, rfl, fun i hi => by rw [h0 i hi]; exact ⟨fun _ => by show (0 : Int) < 1; omega, fun _ => rfl⟩, fun i hi => by rw [h0 i hi]; exact ⟨by show (0 : Int) ≤ 1; omega, by show (1 : Int) < 2; omega⟩, fun i j hi hj _ _ => by rw [h0 i hi, h0 j hj], fun i hi _ _ => by rw [h0 i hi]; exact Int.le_refl _⟩
theorem sums_map {T : Tr} {l : List Rw} {now : Int} (h : RInv T l now) : l.map (·.sum) = T.all.map (·.sum) := by
  apply List.ext_getElem
  · simp [h.len]
  · intro i h1 h2
    simp only [List.length_map] at h1 h2
    have := h.sum i h1
    simp only [Rl, Tr.at, List.getD_eq_getElem?_getD, List.getElem?_eq_getElem h1, List.getElem?_eq_getElem h2, Option.getD_some] at this
    simpa using this
theorem atR_eq {T : Tr} {l : List Rw} {now : Int} (h : RInv T l now) (s : List UInt8) : atR l s = match findT T.all s with | some i => (i : Int) | none => -1 := by
  have e : l.findIdx? (fun t => decide (t.sum = s)) = T.all.findIdx? (fun t => decide (t.sum = s)) := by
    have h1 := List.findIdx?_map (l := l) (f := fun x : Rw => x.sum) (p := fun x => decide (x = s))
    have h2 := List.findIdx?_map (l := T.all) (f := fun x : Tw => x.sum) (p := fun x => decide (x = s))
    rw [sums_map h] at h1
    exact h1.symm.trans h2
  unfold atR findT
  rw [e]
  cases List.findIdx? (fun t : Tw => decide (t.sum = s)) T.all <;> rfl
theorem rl_left {l : List Rw} {t : Rw} {i : Nat} (h : i < l.length) : Rl (l ++ [t]) i = Rl l i := by simp only [Rl]; rw [gl h]
theorem rl_end {l : List Rw} {t : Rw} : Rl (l ++ [t]) l.length = t := by simp only [Rl]; rw [gm]
theorem rinv_put {T : Tr} {l : List Rw} {now : Int} (h : RInv T l now) (hn : 0 < now) (s p : List UInt8) (v : Int) : RInv (putT T s p v).1 (putW l s p v).1 now ∧ (putT T s p v).2 = (putW l s p v).2 := by
  have hinv := inv_put h.inv s p v
  have asq := atR_eq h s
  have ap := atR_eq h p
  by_cases h1 : s.length ≠ 32
  · have a : putT T s p v = (T, 3) := by unfold putT; rw [if_pos h1]
    have b : putW l s p v = (l, 3) := by unfold putW; rw [if_pos h1]
    rw [a, b]; exact ⟨h, rfl⟩
  by_cases h2 : v < 1
  · have a : putT T s p v = (T, 1) := by unfold putT; rw [if_neg h1, if_pos (Or.inl h2)]
    have b : putW l s p v = (l, 1) := by unfold putW; rw [if_neg h1, if_pos h2]
    rw [a, b]; exact ⟨h, rfl⟩
  by_cases h3 : 1048576 < v
  · have a : putT T s p v = (T, 1) := by unfold putT; rw [if_neg h1, if_pos (Or.inr h3)]
    have b : putW l s p v = (l, 1) := by unfold putW; rw [if_neg h1, if_neg h2, if_pos h3]
    rw [a, b]; exact ⟨h, rfl⟩
  have h23 : ¬ (v < 1 ∨ 1048576 < v) := by omega
  cases h4 : findT T.all s with
  | some i =>
    rw [h4] at asq
    simp only at asq
    have h4' : (findT T.all s).isSome = true := by rw [h4]; rfl
    have a : putT T s p v = (T, 6) := by unfold putT; rw [if_neg h1, if_neg h23, if_pos h4']
    have b : putW l s p v = (l, 6) := by unfold putW; rw [if_neg h1, if_neg h2, if_neg h3, if_pos (by omega)]
    rw [a, b]; exact ⟨h, rfl⟩
  | none =>
    rw [h4] at asq
    simp only at asq
    have h4' : ¬ (findT T.all s).isSome = true := by rw [h4]; simp
    have h4'' : ¬ 0 ≤ atR l s := by omega
    cases h5 : findT T.all p with
    | none =>
      rw [h5] at ap
      simp only at ap
      have a : putT T s p v = (T, 5) := by unfold putT; rw [if_neg h1, if_neg h23, if_neg h4']; simp only [h5]
      have b : putW l s p v = (l, 5) := by unfold putW; rw [if_neg h1, if_neg h2, if_neg h3, if_neg h4'', if_pos (by omega)]
      rw [a, b]; exact ⟨h, rfl⟩
    | some u =>
      rw [h5] at ap
      simp only at ap
      have hul := findT_lt h5
      have hvu := h.view u (by rw [h.len]; exact hul)
      simp only [Rl] at hvu
      have apt : (atR l p).toNat = u := by omega
      have a0 : putT T s p v = if v ≤ (T.at u).view then (T, 230) else (⟨T.all ++ [⟨s, (u : Int), v, false⟩], T.high⟩, 0) := by unfold putT; rw [if_neg h1, if_neg h23, if_neg h4']; simp only [h5]
      have b0 : putW l s p v = if v ≤ (T.at u).view then (l, 230) else (l ++ [⟨s, (u : Int), v, 0⟩], 0) := by unfold putW; rw [if_neg h1, if_neg h2, if_neg h3, if_neg h4'', if_neg (by omega), apt]; simp only [hvu, ap]
      rw [a0] at hinv ⊢
      rw [b0]
      by_cases h6 : v ≤ (T.at u).view
      · rw [if_pos h6, if_pos h6]; exact ⟨h, rfl⟩
      · rw [if_neg h6] at hinv ⊢
        rw [if_neg h6]
        refine ⟨?_, rfl⟩
        have hcase : ∀ i, i < (l ++ [(⟨s, (u : Int), v, 0⟩ : Rw)]).length → i < l.length ∨ i = l.length := fun i hi => by simp at hi; omega
        have lL : ∀ i, i < l.length → Rl (l ++ [(⟨s, (u : Int), v, 0⟩ : Rw)]) i = Rl l i := fun i hi => rl_left hi
        have lE : Rl (l ++ [(⟨s, (u : Int), v, 0⟩ : Rw)]) l.length = ⟨s, (u : Int), v, 0⟩ := rl_end
        have tL : ∀ i, i < l.length → (⟨T.all ++ [⟨s, (u : Int), v, false⟩], T.high⟩ : Tr).at i = T.at i := fun i hi => by simp only [Tr.at]; rw [gl (by rw [← h.len]; exact hi)]
        have tE : (⟨T.all ++ [⟨s, (u : Int), v, false⟩], T.high⟩ : Tr).at l.length = ⟨s, (u : Int), v, false⟩ := by simp only [Tr.at]; rw [h.len, gm]
        have h0 : 0 < l.length := by rw [h.len]; exact h.inv.ne
        have hh : T.high < l.length := by rw [h.len]; exact h.inv.high.1
        refine ⟨hinv, by simp [h.len], fun i hi => ?_, fun i hi => ?_, fun i h0 hi => ?_, ?_, fun i hi => ?_, fun i hi => ?_, fun i j hi hj he hs => ?_, fun i hi hs he => ?_⟩
        · rcases hcase i hi with hi | hi
          · rw [lL i hi, tL i hi]; exact h.sum i hi
          · subst hi; rw [lE, tE]
        · rcases hcase i hi with hi | hi
          · rw [lL i hi, tL i hi]; exact h.view i hi
          · subst hi; rw [lE, tE]
        · rcases hcase i hi with hi | hi
          · rw [lL i hi, tL i hi]; exact h.par i h0 hi
          · subst hi; rw [lE, tE]
        · rw [lL 0 h0]; exact h.root
        · rcases hcase i hi with hi | hi
          · rw [lL i hi, tL i hi]; exact h.cert i hi
          · subst hi; rw [lE, tE]; exact Iff.intro (fun h => by cases h) (fun h => absurd h (Int.lt_irrefl 0))
        · rcases hcase i hi with hi | hi
          · rw [lL i hi]; exact h.since i hi
          · subst hi; rw [lE]; exact ⟨Int.le_refl _, hn⟩
        · rcases hcase i hi with hi | hi <;> rcases hcase j hj with hj | hj
          · rw [lL i hi] at he hs; rw [lL j hj] at he; exact h.dist i j hi hj he hs
          · subst hj; rw [lL i hi] at he hs; rw [lE] at he; simp only at he; omega
          · subst hi; rw [lE] at hs; simp at hs
          · omega
        · rcases hcase i hi with hi | hi
          · rw [lL i hi] at hs he ⊢; simp only at he ⊢; rw [lL _ hh] at he ⊢; exact h.high i hi hs he
          · subst hi; rw [lE] at hs; simp at hs
theorem rl_set {l : List Rw} {t : Rw} {i j : Nat} (h : i < l.length) : Rl (l.set i t) j = if i = j then t else Rl l j := by
  simp only [Rl, List.getD_eq_getElem?_getD, List.getElem?_set]
  by_cases e : i = j
  · subst e; simp [h]
  · simp [e]
theorem rinv_cert {T : Tr} {l : List Rw} {now : Int} (h : RInv T l now) (hn : 0 < now) (s : List UInt8) : RInv (certT T s).1 (certW l s now).1 (now + 1) ∧ (certT T s).2 = (certW l s now).2 := by
  have hinv := inv_cert h.inv s
  have hlat := h.later (show now ≤ now + 1 by omega)
  have asq := atR_eq h s
  cases hf : findT T.all s with
  | none =>
    rw [hf] at asq
    simp only at asq
    have a : certT T s = (T, 5) := by unfold certT; simp only [hf]
    have b : certW l s now = (l, 5) := by unfold certW; rw [if_pos (by omega)]
    rw [a, b]; exact ⟨hlat, rfl⟩
  | some i =>
    rw [hf] at asq
    simp only at asq
    have hi := findT_lt hf
    have hil : i < l.length := by rw [h.len]; exact hi
    have hci := h.cert i hil
    have ast : (atR l s).toNat = i := by omega
    have a0 : certT T s = if (T.at i).cert then (T, 0) else if (T.at (T.at i).par.toNat).cert then (⟨T.all.set i { T.at i with cert := true }, if (T.at T.high).view < (T.at i).view then i else T.high⟩, 0) else (T, 200) := by unfold certT; simp only [hf]
    have b0 : certW l s now = if 0 < (Rl l i).since then (l, 0) else if (Rl l (Rl l i).par.toNat).since = 0 then (l, 200) else (l.set i { Rl l i with since := now }, 0) := by unfold certW; rw [if_neg (by omega), ast]
    rw [a0] at hinv ⊢
    rw [b0]
    by_cases hc : (T.at i).cert = true
    · rw [if_pos hc, if_pos (hci.1 hc)]; exact ⟨hlat, rfl⟩
    · have hs0 : ¬ 0 < (Rl l i).since := fun h => hc (hci.2 h)
      rw [if_neg hc] at hinv ⊢
      rw [if_neg hs0]
      have hi0 : 0 < i := by
        rcases Nat.eq_zero_or_pos i with e | e
        · subst e; exact absurd h.inv.root.2.2 hc
        · exact e
      obtain ⟨p1, p2, _⟩ := h.inv.par i hi0 hi
      have hpar := h.par i hi0 hil
      rw [hpar]
      have hcp := h.cert (T.at i).par.toNat (by omega)
      have hsp := h.since (T.at i).par.toNat (by omega)
      by_cases hp : (T.at (T.at i).par.toNat).cert = true
      · have h3 : ¬ (Rl l (T.at i).par.toNat).since = 0 := by have := hcp.1 hp; omega
        rw [if_pos hp] at hinv ⊢
        rw [if_neg h3]
        refine ⟨?_, rfl⟩
        generalize hq : (if (T.at T.high).view < (T.at i).view then i else T.high) = q at *
        have lS : ∀ j, Rl (l.set i { Rl l i with since := now }) j = if i = j then { Rl l i with since := now } else Rl l j := fun j => rl_set hil
        have tS : ∀ j, (⟨T.all.set i { T.at i with cert := true }, q⟩ : Tr).at j = if i = j then { T.at i with cert := true } else T.at j := fun j => by simp only [Tr.at]; exact at_set hi
        have lsum : ∀ j, (Rl (l.set i { Rl l i with since := now }) j).sum = (Rl l j).sum := fun j => by rw [lS]; by_cases e : i = j <;> simp [e]
        have lview : ∀ j, (Rl (l.set i { Rl l i with since := now }) j).view = (Rl l j).view := fun j => by rw [lS]; by_cases e : i = j <;> simp [e]
        have lpar : ∀ j, (Rl (l.set i { Rl l i with since := now }) j).par = (Rl l j).par := fun j => by rw [lS]; by_cases e : i = j <;> simp [e]
        have lsin : ∀ j, (Rl (l.set i { Rl l i with since := now }) j).since = if i = j then now else (Rl l j).since := fun j => by rw [lS]; by_cases e : i = j <;> simp [e]
        have tsum : ∀ j, ((⟨T.all.set i { T.at i with cert := true }, q⟩ : Tr).at j).sum = (T.at j).sum := fun j => by rw [tS]; by_cases e : i = j <;> simp [e]
        have tview : ∀ j, ((⟨T.all.set i { T.at i with cert := true }, q⟩ : Tr).at j).view = (T.at j).view := fun j => by rw [tS]; by_cases e : i = j <;> simp [e]
        have tpar : ∀ j, ((⟨T.all.set i { T.at i with cert := true }, q⟩ : Tr).at j).par = (T.at j).par := fun j => by rw [tS]; by_cases e : i = j <;> simp [e]
        have tcert : ∀ j, ((⟨T.all.set i { T.at i with cert := true }, q⟩ : Tr).at j).cert = true ↔ i = j ∨ (T.at j).cert = true := fun j => by rw [tS]; by_cases e : i = j <;> simp [e]
        have hh : T.high < l.length := by rw [h.len]; exact h.inv.high.1
        refine ⟨hinv, by simp [h.len], fun j hj => ?_, fun j hj => ?_, fun j h0 hj => ?_, ?_, fun j hj => ?_, fun j hj => ?_, fun j k hj hk he hs => ?_, fun j hj hs he => ?_⟩
        · simp only [List.length_set] at hj; rw [lsum, tsum]; exact h.sum j hj
        · simp only [List.length_set] at hj; rw [lview, tview]; exact h.view j hj
        · simp only [List.length_set] at hj; rw [lpar, tpar]; exact h.par j h0 hj
        · rw [lpar]; exact h.root
        · simp only [List.length_set] at hj
          rw [tcert, lsin]
          by_cases e : i = j
          · simp [e, hn]
          · simp only [e, false_or, if_false]; exact h.cert j hj
        · simp only [List.length_set] at hj
          rw [lsin]
          have := h.since j hj
          split <;> omega
        · simp only [List.length_set] at hj hk
          rw [lsin, lsin] at he
          rw [lsin] at hs
          have a1 := h.since j hj
          have a2 := h.since k hk
          by_cases e1 : i = j
          · by_cases e2 : i = k
            · omega
            · rw [if_pos e1, if_neg e2] at he; omega
          · by_cases e2 : i = k
            · rw [if_neg e1, if_pos e2] at he; omega
            · rw [if_neg e1, if_neg e2] at he; rw [if_neg e1] at hs; exact h.dist j k hj hk he hs
        · simp only [List.length_set] at hj
          simp only at he ⊢
          rw [lview, lview] at he
          rw [lsin, lsin]
          rw [lsin] at hs
          have hvi := h.view i hil
          have hvh := h.view _ hh
          have hvj := h.view j hj
          have a1 := (h.since _ hh).2
          have a2 := (h.since j hj).2
          by_cases hlt : (T.at T.high).view < (T.at i).view
          · rw [if_pos hlt] at hq
            subst hq
            rw [if_pos rfl]
            by_cases e : i = j
            · rw [if_pos e]; exact Int.le_refl _
            · rw [if_neg e] at hs ⊢
              have := h.inv.high.2.2 j (by rw [← h.len]; exact hj) ((h.cert j hj).2 hs)
              omega
          · rw [if_neg hlt] at hq
            subst hq
            have hne : ¬ i = T.high := fun e => hc (by rw [e]; exact h.inv.high.2.1)
            rw [if_neg hne]
            by_cases e : i = j
            · rw [if_pos e]; omega
            · rw [if_neg e] at hs ⊢
              exact h.high j hj hs he
      · have h3 : (Rl l (T.at i).par.toNat).since = 0 := by
          have : ¬ 0 < (Rl l (T.at i).par.toNat).since := fun h => hp (hcp.2 h)
          omega
        rw [if_neg hp, if_pos h3]
        exact ⟨hlat, rfl⟩
structure Best (l : List Rw) (b : Nat) : Prop where
  lt : b < l.length
  on : 0 < (Rl l b).since
  zero : 0 < (Rl l 0).since
  nn : ∀ i, i < l.length → 0 ≤ (Rl l i).since
  top : ∀ i, i < l.length → 0 < (Rl l i).since → (Rl l i).view < (Rl l b).view ∨ (Rl l i).view = (Rl l b).view ∧ ((Rl l b).since < (Rl l i).since ∨ i = b)
theorem best_high {T : Tr} {l : List Rw} {now : Int} (h : RInv T l now) : Best l T.high := by
  have hh : T.high < l.length := by rw [h.len]; exact h.inv.high.1
  have h0 : 0 < l.length := by rw [h.len]; exact h.inv.ne
  refine ⟨hh, (h.cert _ hh).1 h.inv.high.2.1, (h.cert _ h0).1 h.inv.root.2.2, fun i hi => (h.since i hi).1, fun i hi hs => ?_⟩
  have h1 := h.inv.high.2.2 i (by rw [← h.len]; exact hi) ((h.cert i hi).2 hs)
  have h2 := h.view i hi
  have h3 := h.view _ hh
  rcases Int.lt_or_eq_of_le h1 with h4 | h4
  · left; omega
  · right
    refine ⟨by omega, ?_⟩
    have h5 := h.high i hi hs (by omega)
    rcases Int.lt_or_eq_of_le h5 with h6 | h6
    · exact .inl h6
    · exact .inr (h.dist i T.high hi hh h6.symm hs)
def stepH (l : List Rw) (q i : Nat) : Nat := if (Rl l i).since = 0 then q else if (Rl l q).view < (Rl l i).view then i else if (Rl l i).view = (Rl l q).view then if (Rl l i).since < (Rl l q).since then i else q else q
theorem stepH_ok {l : List Rw} {b : Nat} (h : Best l b) {i q : Nat} (hi : i < l.length) (hq : q < l.length ∧ 0 < (Rl l q).since ∧ (b < i → q = b)) : stepH l q i < l.length ∧ 0 < (Rl l (stepH l q i)).since ∧ (b < i + 1 → stepH l q i = b) := by
  obtain ⟨q1, q2, q3⟩ := hq
  have hn := h.nn i hi
  have tq := h.top q q1 q2
  have hon := h.on
  unfold stepH
  by_cases h1 : (Rl l i).since = 0
  · rw [if_pos h1]
    refine ⟨q1, q2, fun hb => ?_⟩
    rcases Nat.lt_or_ge b i with h2 | h2
    · exact q3 h2
    · obtain rfl : b = i := by omega
      omega
  rw [if_neg h1]
  have ti := h.top i hi (by omega)
  have key : ∀ x, (x = i ∨ x = q) → (i ≠ b → b < i → x = q) → (i = b → x = i) → x < l.length ∧ 0 < (Rl l x).since ∧ (b < i + 1 → x = b) := fun x hx k1 k2 => by
    refine ⟨by rcases hx with e | e <;> rw [e] <;> assumption, by rcases hx with e | e <;> rw [e] <;> omega, fun hb => ?_⟩
    rcases Nat.lt_or_ge b i with h2 | h2
    · rw [k1 (by omega) h2, q3 h2]
    · have e : i = b := by omega
      rw [k2 e, e]
  by_cases h2 : (Rl l q).view < (Rl l i).view
  · rw [if_pos h2]
    refine key i (.inl rfl) (fun h3 h4 => ?_) (fun _ => rfl)
    rw [q3 h4] at h2; omega
  rw [if_neg h2]
  by_cases h3 : (Rl l i).view = (Rl l q).view
  · rw [if_pos h3]
    by_cases h4 : (Rl l i).since < (Rl l q).since
    · rw [if_pos h4]
      refine key i (.inl rfl) (fun h5 h6 => ?_) (fun _ => rfl)
      rw [q3 h6] at h3 h4; omega
    · rw [if_neg h4]
      refine key q (.inr rfl) (fun _ _ => rfl) (fun e => ?_)
      subst e; omega
  · rw [if_neg h3]
    refine key q (.inr rfl) (fun _ _ => rfl) (fun e => ?_)
    subst e; omega
theorem lineW_eq {T : Tr} {l : List Rw} {now : Int} (h : RInv T l now) : ∀ f i, i < l.length → lineW l f i = lineF T.all f i
  | 0, i, _ => rfl
  | f + 1, 0, _ => rfl
  | f + 1, i + 1, hi => by
    have p := h.inv.par (i + 1) (by omega) (by rw [← h.len]; exact hi)
    have e1 := h.par (i + 1) (by omega) hi
    have e2 := h.sum (i + 1) hi
    simp only [Rl, Tr.at] at e1 e2 p
    rw [lineW, lineF, e1, e2, lineW_eq h f _ (by omega)]
def okR (l : List Rw) (a : Int) (i k : Nat) : Bool := decide (0 < i) && (decide (0 < k) && (decide ((Rl l i).par = a) && (decide ((Rl l k).par = (i : Int)) && (decide (0 < (Rl l k).since) && threeB (Rl l a.toNat).view (Rl l i).view (Rl l k).view))))
def finR (l : List Rw) (a : Nat) : Bool := (List.range l.length).any fun i => (List.range l.length).any fun k => okR l a i k
theorem finR_iff {T : Tr} {l : List Rw} {now : Int} (h : RInv T l now) {a : Nat} (ha : a < l.length) : finR l a = true ↔ ∃ k, k < l.length ∧ okC T (T.at k) = true ∧ qc T (T.at k) = a := by
  simp only [finR, List.any_eq_true, List.mem_range]
  constructor
  · rintro ⟨i, hi, k, hk, hok⟩
    simp only [okR, Bool.and_eq_true, decide_eq_true_eq, Int.toNat_natCast] at hok
    obtain ⟨i0, k0, e1, e2, e3, e4⟩ := hok
    have p1 := h.par i i0 hi
    have p2 := h.par k k0 hk
    have pck : pc (T.at k) = i := by show (T.at k).par.toNat = i; omega
    have qck : qc T (T.at k) = a := by show (T.at (pc (T.at k))).par.toNat = a; rw [pck]; omega
    refine ⟨k, hk, ?_, qck⟩
    unfold okC
    rw [qck, pck, ← h.view a ha, ← h.view i hi, ← h.view k hk, e4, (h.cert k hk).2 e3, decide_eq_true (by omega : 1 ≤ (T.at k).par)]
    rfl
  · rintro ⟨k, hk, hok, hq⟩
    have hkT : k < T.all.length := by rw [← h.len]; exact hk
    obtain ⟨a1, a2, a3, a4, a5, a6⟩ := okC_places h.inv hkT hok
    have hpl : pc (T.at k) < l.length := by rw [h.len]; exact a4
    refine ⟨pc (T.at k), hpl, k, hk, ?_⟩
    have p1 := h.par _ a3 hpl
    have p2 := h.par k a1 hk
    have b1 := h.inv.par _ a3 a4
    have b2 := h.inv.par k a1 hkT
    have e1 : (T.at (pc (T.at k))).par = (a : Int) := by
      have : (T.at (pc (T.at k))).par.toNat = a := hq
      omega
    have e2 : (T.at k).par = ((pc (T.at k) : Nat) : Int) := by show _ = (((T.at k).par.toNat : Nat) : Int); omega
    unfold okC at hok
    rw [hq] at hok
    simp only [Bool.and_eq_true] at hok
    unfold okR
    rw [Int.toNat_natCast, h.view a ha, h.view _ hpl, h.view k hk, p1, p2, hok.2.2, decide_eq_true a1, decide_eq_true a3, decide_eq_true e1, decide_eq_true e2, decide_eq_true ((h.cert k hk).1 a2)]
    rfl
theorem stepD_least (T : Tr) (best : Nat) (c : Tw) : ((T.at (stepD T best c)).view = (T.at best).view → stepD T best c ≤ best) ∧ (okC T c = true → (T.at (qc T c)).view = (T.at (stepD T best c)).view → stepD T best c ≤ qc T c) := by
  unfold stepD okC
  by_cases h1 : c.cert = false
  · rw [if_pos h1, h1]; exact ⟨fun _ => Nat.le_refl _, fun h => by simp at h⟩
  rw [if_neg h1]
  by_cases h2 : c.par < 1
  · rw [if_pos h2]; exact ⟨fun _ => Nat.le_refl _, fun h => by simp at h; omega⟩
  rw [if_neg h2]
  by_cases h3 : threeB (T.at (qc T c)).view (T.at (pc c)).view c.view = true
  · rw [if_pos h3]
    by_cases h4 : (T.at best).view < (T.at (qc T c)).view
    · rw [if_pos h4]; exact ⟨fun h => by have : (T.at (qc T c)).view = (T.at best).view := h; omega, fun _ _ => Nat.le_refl _⟩
    rw [if_neg h4]
    by_cases h5 : (T.at (qc T c)).view = (T.at best).view
    · rw [if_pos h5]
      by_cases h6 : (T.at c.par.toNat).par < (best : Int)
      · rw [if_pos h6]; exact ⟨fun _ => by omega, fun _ _ => Nat.le_refl _⟩
      · rw [if_neg h6]; exact ⟨fun _ => Nat.le_refl _, fun _ _ => by show best ≤ (T.at c.par.toNat).par.toNat; omega⟩
    · rw [if_neg h5]; exact ⟨fun _ => Nat.le_refl _, fun _ h => absurd h h5⟩
  · rw [if_neg h3]
    exact ⟨fun _ => Nat.le_refl _, fun h => by simp only [Bool.and_eq_true] at h; exact absurd h.2.2 h3⟩
theorem doneI_least (T : Tr) : ∀ k, k ≤ T.all.length → ∀ j, j < k → okC T (T.at j) = true → (T.at (qc T (T.at j))).view = (T.at (doneI T k)).view → doneI T k ≤ qc T (T.at j)
  | 0, _ => fun j hj => by omega
  | k + 1, h => fun j hj hok => by
    have ih := doneI_least T k (by omega)
    have sp := (doneI_spec T k (by omega)).1
    rw [doneI_succ (by omega)]
    obtain ⟨s1, s2, s3⟩ := stepD_spec T (doneI T k) (T.at k)
    obtain ⟨l1, l2⟩ := stepD_least T (doneI T k) (T.at k)
    intro he
    rcases Nat.lt_or_ge j k with hj2 | hj2
    · have a := sp j hj2 hok
      have b := l1 (by omega)
      have c := ih j hj2 hok (by omega)
      omega
    · obtain rfl : j = k := by omega
      exact l2 hok he
structure Last (l : List Rw) (b : Nat) : Prop where
  lt : b < l.length
  on : b = 0 ∨ finR l b = true
  pos : 0 < b → (Rl l 0).view < (Rl l b).view
  zero : ∀ i, i < l.length → (Rl l 0).view ≤ (Rl l i).view
  top : ∀ i, i < l.length → finR l i = true → (Rl l i).view < (Rl l b).view ∨ (Rl l i).view = (Rl l b).view ∧ b ≤ i
def stepL (l : List Rw) (q i : Nat) : Nat := if finR l i then if (Rl l q).view < (Rl l i).view then i else q else q
theorem stepL_ok {l : List Rw} {b : Nat} (h : Last l b) {i q : Nat} (hi : i < l.length) (hq : q < l.length ∧ (b < i → q = b) ∧ (i ≤ b → (Rl l q).view < (Rl l b).view ∨ q = b)) : stepL l q i < l.length ∧ (b < i + 1 → stepL l q i = b) ∧ (i + 1 ≤ b → (Rl l (stepL l q i)).view < (Rl l b).view ∨ stepL l q i = b) := by
  obtain ⟨q1, q2, q3⟩ := hq
  have hz := h.zero q q1
  have hon := h.on
  have hpos := h.pos
  unfold stepL
  by_cases h1 : finR l i = true
  · have ti := h.top i hi h1
    rw [if_pos h1]
    by_cases h2 : (Rl l q).view < (Rl l i).view
    · rw [if_pos h2]
      refine ⟨hi, fun hb => ?_, fun hb => ?_⟩
      · rcases Nat.lt_or_ge b i with h3 | h3
        · rw [q2 h3] at h2; omega
        · omega
      · left; omega
    · rw [if_neg h2]
      refine ⟨q1, fun hb => ?_, fun hb => q3 (by omega)⟩
      rcases Nat.lt_or_ge b i with h3 | h3
      · exact q2 h3
      · obtain rfl : b = i := by omega
        rcases q3 (by omega) with h4 | h4
        · omega
        · exact h4
  · rw [if_neg h1]
    refine ⟨q1, fun hb => ?_, fun hb => q3 (by omega)⟩
    rcases Nat.lt_or_ge b i with h3 | h3
    · exact q2 h3
    · obtain rfl : b = i := by omega
      rcases q3 (by omega) with h4 | h4
      · rcases hon with e | e
        · subst e; omega
        · exact absurd e h1
      · exact h4
theorem last_done {T : Tr} {l : List Rw} {now : Int} (h : RInv T l now) : Last l (doneI T T.all.length) := by
  have hd := doneI_lt h.inv T.all.length (Nat.le_refl _)
  have hdl : doneI T T.all.length < l.length := by rw [h.len]; exact hd
  obtain ⟨s1, s2⟩ := doneI_spec T T.all.length (Nat.le_refl _)
  have h0 : 0 < l.length := by rw [h.len]; exact h.inv.ne
  have hv0 := h.view 0 h0
  rw [h.inv.root.2.1] at hv0
  have hvs : ∀ i, i < l.length → 0 ≤ (Rl l i).view := fun i hi => by rw [h.view i hi]; exact (h.inv.view i (by rw [← h.len]; exact hi)).1
  refine ⟨hdl, ?_, fun hp => ?_, fun i hi => by rw [hv0]; exact hvs i hi, fun i hi hf => ?_⟩
  · rcases s2 with e | ⟨j, h1, h2, h3⟩
    · exact .inl e
    · exact .inr ((finR_iff h hdl).2 ⟨j, by rw [h.len]; exact h1, h2, h3.symm⟩)
  · obtain ⟨p1, p2, p3, _⟩ := h.inv.par _ hp hd
    have := (h.inv.view _ (show (T.at (doneI T T.all.length)).par.toNat < T.all.length by omega)).1
    rw [hv0, h.view _ hdl]; omega
  · obtain ⟨k, hk, h1, h2⟩ := (finR_iff h hi).1 hf
    have a := s1 k (by rw [← h.len]; exact hk) h1
    have b := doneI_least T T.all.length (Nat.le_refl _) k (by rw [← h.len]; exact hk) h1
    rw [h2] at a b
    rw [h.view i hi, h.view _ hdl]
    rcases Int.lt_or_eq_of_le a with c | c
    · exact .inl c
    · exact .inr ⟨c, b c⟩
end Go.Proofs.Ytfalljmdhclgaaa
namespace Go.Proofs.Ytfalljmdhclgaaa
open Go Go.Sse
set_option linter.unusedVariables false
set_option linter.unusedSimpArgs false
set_option maxRecDepth 10000
set_option maxHeartbeats 4000000 in
theorem rhigh_ok (l : List Rw) (b : Nat) (hb : Best l b) (hl : l.length < 1000) : FnC Try.prog 28 [rwL l] [] (fun r L => r = .tup [str (l.getD b rw0).sum, int (l.getD b rw0).view] ∧ L = []) := by
  have hlt := hb.lt
  have hz := hb.zero
  refine FnC.intro Try.func28 rfl Try.ntmps28 rfl fun Z w0 hG => ?_
  focus (
 (refine W.seq (W.region (Jx.assign rfl rfl (Jx.assign rfl rfl (J.nil (N.seq (W.seq (W.region (Jx.assign rfl rfl (J.nil (N.seq (W.seq (W.seq (W.region ?_))))))))))))))
 (refine Jx.assign rfl rfl (J.nil (N.seq (W.block ?_))))
 (refine id ?_; rotate_left))
  refine W.loop (α := Nat × Nat) (fun x => [(5, int (x.1 : Int)), (4, int (x.2 : Int)), (0, rwL l)]) (fun _ => []) (fun x => x.1 ≤ l.length ∧ x.2 < l.length ∧ 0 < (Rl l x.2).since ∧ (b < x.1 → x.2 = b)) (fun x => l.length - x.1) (0, 0) ⟨by simp, by simp only; omega, hz, by simp only; omega⟩ rfl ⟨ref0 rfl, ref0 rfl, ref0 rfl, trivial⟩ ?_
  rintro ⟨i, q⟩ ⟨hi, hq, hs, hd⟩
  simp only at hi hq hd hs ⊢
  by_cases h1 : i < l.length
  · have hk := stepH_ok hb h1 ⟨hq, hs, hd⟩
    unfold stepH at hk
    simp only [Rl] at hk
    by_cases h2 : (l.getD i rw0).since = 0
    · simp only [if_pos h2] at hk
      focus (
 (refine W.seq (W.seq (W.region (Jx.move rfl rfl (Jx.move rfl rfl (Jx.lenSl rfl rfl ?_))))))
 (refine Jx.lssI rfl rfl rfl (J.nil (N.seq (W.cT rfl ?_))))
 (refine W.skip (N.seq (W.seq (W.block (W.seq (W.seq (W.region (Jx.move rfl rfl (Jx.move rfl rfl (Jx.indexEl rfl rfl (by assumption) rfl rfl ?_))))))))))
 (refine Jx.fieldEl rfl rfl rfl ?_)
 (refine Jx.loadPP rfl rfl ?_)
 (refine Jx.eqlI rfl rfl rfl (J.nil (N.seq (W.cT rfl ?_))))
 (refine W.exit (N.seq (W.region (Jx.move rfl rfl (Jx.add64 rfl rfl (by omega) rfl ?_)))))
 (refine Jx.assign rfl rfl (J.nil ?_))
 (refine id ?_; rotate_left))
      exact N.round (i + 1, q) ⟨h1, hk⟩ (by simp only; omega) rfl ⟨ref0 rfl, ref0 rfl, ref0 rfl, trivial⟩
    · simp only [if_neg h2] at hk
      by_cases h3 : (l.getD q rw0).view < (l.getD i rw0).view
      · simp only [if_pos h3] at hk
        focus (
 (refine W.seq (W.seq (W.region (Jx.move rfl rfl (Jx.move rfl rfl (Jx.lenSl rfl rfl ?_))))))
 (refine Jx.lssI rfl rfl rfl (J.nil (N.seq (W.cT rfl ?_))))
 (refine W.skip (N.seq (W.seq (W.block (W.seq (W.seq (W.region (Jx.move rfl rfl (Jx.move rfl rfl (Jx.indexEl rfl rfl (by assumption) rfl rfl ?_))))))))))
 (refine Jx.fieldEl rfl rfl rfl ?_)
 (refine Jx.loadPP rfl rfl ?_)
 (refine Jx.eqlI rfl rfl rfl (J.nil (N.seq (W.cF rfl ?_))))
 (refine W.skip (N.seq (W.seq ?_)))
 (refine W.draw follows ?_)
 (refine JD.calm rfl (by decide +kernel) ?_)
 (refine Cx.move rfl rfl ?_)
 (refine Cx.move rfl rfl ?_)
 (refine Cx.indexEl rfl rfl (by assumption) rfl rfl ?_)
 (refine Cx.fieldEl rfl rfl rfl ?_)
 (refine Cx.loadPP rfl rfl ?_)
 (refine Cx.move rfl rfl ?_)
 (refine Cx.move rfl rfl ?_)
 (refine Cx.indexEl rfl rfl (by assumption) rfl rfl ?_)
 (refine Cx.fieldEl rfl rfl rfl ?_)
 (refine Cx.loadPP rfl rfl ?_)
 (refine Cx.gtrI rfl rfl rfl ?_)
 (refine Cx.move rfl rfl ?_)
 (refine SegC.gU rfl rfl rfl rfl ?_)
 (refine SegC.gU rfl rfl rfl rfl ?_)
 (refine SegC.gU rfl rfl rfl rfl ?_)
 (refine SegC.gU rfl rfl rfl rfl ?_)
 (refine SegC.gU rfl rfl rfl rfl ?_)
 (refine SegC.gU rfl rfl rfl rfl ?_)
 (refine SegC.gU rfl rfl rfl rfl ?_)
 (refine SegC.gU rfl rfl rfl rfl ?_)
 (refine SegC.gU rfl rfl rfl rfl ?_)
 (refine SegC.gU rfl rfl rfl rfl ?_)
 (refine SegC.gU rfl rfl rfl rfl ?_)
 (refine SegC.gU rfl rfl rfl rfl ?_)
 (refine SegC.gS rfl rfl rfl rfl ?_)
 (refine SegC.gS rfl rfl rfl rfl ?_)
 (refine SegC.gS rfl rfl rfl rfl ?_)
 (refine SegC.gS rfl rfl rfl rfl ?_)
 (refine SegC.gS rfl rfl rfl rfl ?_)
 (refine SegC.gS rfl rfl rfl rfl ?_)
 (refine SegC.gS rfl rfl rfl rfl ?_)
 (refine SegC.gS rfl rfl rfl rfl ?_)
 (refine SegC.gS rfl rfl rfl rfl ?_)
 (refine SegC.gS rfl rfl rfl rfl ?_)
 (refine SegC.gS rfl rfl rfl rfl ?_)
 (refine SegC.gU rfl rfl rfl rfl ?_)
 (refine Cx.pickT rfl (by first | rfl | assumption | (exact decide_eq_true (by first | assumption | omega | rfl)) | (exact decide_eq_false (by first | assumption | omega | rfl)) | (simp; done) | (simp; omega)) rfl rfl ?_)
 (refine SegC.nil ?_)
 (refine N.seq (W.cT rfl ?_))
 (refine W.region (Jx.move rfl rfl (Jx.assign rfl rfl (J.nil (N.seq (W.region (Jx.move rfl rfl (Jx.add64 rfl rfl (by omega) rfl ?_))))))))
 (refine Jx.assign rfl rfl (J.nil ?_))
 (refine id ?_; rotate_left))
        exact N.round (i + 1, i) ⟨h1, hk⟩ (by simp only; omega) rfl ⟨ref0 rfl, ref0 rfl, ref0 rfl, trivial⟩
      · simp only [if_neg h3] at hk
        by_cases h4 : (l.getD i rw0).view = (l.getD q rw0).view
        · simp only [if_pos h4] at hk
          by_cases h5 : (l.getD i rw0).since < (l.getD q rw0).since
          · simp only [if_pos h5] at hk
            focus (
 (refine W.seq (W.seq (W.region (Jx.move rfl rfl (Jx.move rfl rfl (Jx.lenSl rfl rfl ?_))))))
 (refine Jx.lssI rfl rfl rfl (J.nil (N.seq (W.cT rfl ?_))))
 (refine W.skip (N.seq (W.seq (W.block (W.seq (W.seq (W.region (Jx.move rfl rfl (Jx.move rfl rfl (Jx.indexEl rfl rfl (by assumption) rfl rfl ?_))))))))))
 (refine Jx.fieldEl rfl rfl rfl ?_)
 (refine Jx.loadPP rfl rfl ?_)
 (refine Jx.eqlI rfl rfl rfl (J.nil (N.seq (W.cF rfl ?_))))
 (refine W.skip (N.seq (W.seq ?_)))
 (refine W.draw follows ?_)
 (refine JD.calm rfl (by decide +kernel) ?_)
 (refine Cx.move rfl rfl ?_)
 (refine Cx.move rfl rfl ?_)
 (refine Cx.indexEl rfl rfl (by assumption) rfl rfl ?_)
 (refine Cx.fieldEl rfl rfl rfl ?_)
 (refine Cx.loadPP rfl rfl ?_)
 (refine Cx.move rfl rfl ?_)
 (refine Cx.move rfl rfl ?_)
 (refine Cx.indexEl rfl rfl (by assumption) rfl rfl ?_)
 (refine Cx.fieldEl rfl rfl rfl ?_)
 (refine Cx.loadPP rfl rfl ?_)
 (refine Cx.gtrI rfl rfl rfl ?_)
 (refine Cx.move rfl rfl ?_)
 (refine SegC.gY rfl rfl rfl ?_)
 (refine Cx.move rfl rfl ?_)
 (refine SegC.gY rfl rfl rfl ?_)
 (refine Cx.move rfl rfl ?_)
 (refine SegC.gY rfl rfl rfl ?_)
 (refine Cx.indexEl rfl rfl (by assumption) rfl rfl ?_)
 (refine SegC.gY rfl rfl rfl ?_)
 (refine Cx.fieldEl rfl rfl rfl ?_)
 (refine SegC.gY rfl rfl rfl ?_)
 (refine Cx.loadPP rfl rfl ?_)
 (refine SegC.gY rfl rfl rfl ?_)
 (refine Cx.move rfl rfl ?_)
 (refine SegC.gY rfl rfl rfl ?_)
 (refine Cx.move rfl rfl ?_)
 (refine SegC.gY rfl rfl rfl ?_)
 (refine Cx.indexEl rfl rfl (by assumption) rfl rfl ?_)
 (refine SegC.gY rfl rfl rfl ?_)
 (refine Cx.fieldEl rfl rfl rfl ?_)
 (refine SegC.gY rfl rfl rfl ?_)
 (refine Cx.loadPP rfl rfl ?_)
 (refine SegC.gY rfl rfl rfl ?_)
 (refine Cx.eqlI rfl rfl rfl ?_)
 (refine SegC.gY rfl rfl rfl ?_)
 (refine Cx.move rfl rfl ?_)
 (refine SegC.gY rfl rfl rfl ?_)
 (refine Cx.move rfl rfl ?_)
 (refine SegC.gY rfl rfl rfl ?_)
 (refine Cx.move rfl rfl ?_)
 (refine SegC.gY rfl rfl rfl ?_)
 (refine Cx.indexEl rfl rfl (by assumption) rfl rfl ?_)
 (refine SegC.gY rfl rfl rfl ?_)
 (refine Cx.fieldEl rfl rfl rfl ?_)
 (refine SegC.gY rfl rfl rfl ?_)
 (refine Cx.loadPP rfl rfl ?_)
 (refine SegC.gY rfl rfl rfl ?_)
 (refine Cx.move rfl rfl ?_)
 (refine SegC.gY rfl rfl rfl ?_)
 (refine Cx.move rfl rfl ?_)
 (refine SegC.gY rfl rfl rfl ?_)
 (refine Cx.indexEl rfl rfl (by assumption) rfl rfl ?_)
 (refine SegC.gY rfl rfl rfl ?_)
 (refine Cx.fieldEl rfl rfl rfl ?_)
 (refine SegC.gY rfl rfl rfl ?_)
 (refine Cx.loadPP rfl rfl ?_)
 (refine SegC.gY rfl rfl rfl ?_)
 (refine Cx.lssI rfl rfl rfl ?_)
 (refine SegC.gY rfl rfl rfl ?_)
 (refine Cx.pickT rfl (by first | rfl | assumption | (exact decide_eq_true (by first | assumption | omega | rfl)) | (exact decide_eq_false (by first | assumption | omega | rfl)) | (simp; done) | (simp; omega)) rfl rfl ?_)
 (refine Cx.pickF rfl (by first | rfl | assumption | (exact decide_eq_true (by first | assumption | omega | rfl)) | (exact decide_eq_false (by first | assumption | omega | rfl)) | (simp; done) | (simp; omega)) rfl rfl ?_)
 (refine SegC.nil ?_)
 (refine N.seq (W.cT rfl ?_))
 (refine W.region (Jx.move rfl rfl (Jx.assign rfl rfl (J.nil (N.seq (W.region (Jx.move rfl rfl (Jx.add64 rfl rfl (by omega) rfl ?_))))))))
 (refine Jx.assign rfl rfl (J.nil ?_))
 (refine id ?_; rotate_left))
            exact N.round (i + 1, i) ⟨h1, hk⟩ (by simp only; omega) rfl ⟨ref0 rfl, ref0 rfl, ref0 rfl, trivial⟩
          · simp only [if_neg h5] at hk
            focus (
 (refine W.seq (W.seq (W.region (Jx.move rfl rfl (Jx.move rfl rfl (Jx.lenSl rfl rfl ?_))))))
 (refine Jx.lssI rfl rfl rfl (J.nil (N.seq (W.cT rfl ?_))))
 (refine W.skip (N.seq (W.seq (W.block (W.seq (W.seq (W.region (Jx.move rfl rfl (Jx.move rfl rfl (Jx.indexEl rfl rfl (by assumption) rfl rfl ?_))))))))))
 (refine Jx.fieldEl rfl rfl rfl ?_)
 (refine Jx.loadPP rfl rfl ?_)
 (refine Jx.eqlI rfl rfl rfl (J.nil (N.seq (W.cF rfl ?_))))
 (refine W.skip (N.seq (W.seq ?_)))
 (refine W.draw follows ?_)
 (refine JD.calm rfl (by decide +kernel) ?_)
 (refine Cx.move rfl rfl ?_)
 (refine Cx.move rfl rfl ?_)
 (refine Cx.indexEl rfl rfl (by assumption) rfl rfl ?_)
 (refine Cx.fieldEl rfl rfl rfl ?_)
 (refine Cx.loadPP rfl rfl ?_)
 (refine Cx.move rfl rfl ?_)
 (refine Cx.move rfl rfl ?_)
 (refine Cx.indexEl rfl rfl (by assumption) rfl rfl ?_)
 (refine Cx.fieldEl rfl rfl rfl ?_)
 (refine Cx.loadPP rfl rfl ?_)
 (refine Cx.gtrI rfl rfl rfl ?_)
 (refine Cx.move rfl rfl ?_)
 (refine SegC.gY rfl rfl rfl ?_)
 (refine Cx.move rfl rfl ?_)
 (refine SegC.gY rfl rfl rfl ?_)
 (refine Cx.move rfl rfl ?_)
 (refine SegC.gY rfl rfl rfl ?_)
 (refine Cx.indexEl rfl rfl (by assumption) rfl rfl ?_)
 (refine SegC.gY rfl rfl rfl ?_)
 (refine Cx.fieldEl rfl rfl rfl ?_)
 (refine SegC.gY rfl rfl rfl ?_)
 (refine Cx.loadPP rfl rfl ?_)
 (refine SegC.gY rfl rfl rfl ?_)
 (refine Cx.move rfl rfl ?_)
 (refine SegC.gY rfl rfl rfl ?_)
 (refine Cx.move rfl rfl ?_)
 (refine SegC.gY rfl rfl rfl ?_)
 (refine Cx.indexEl rfl rfl (by assumption) rfl rfl ?_)
 (refine SegC.gY rfl rfl rfl ?_)
 (refine Cx.fieldEl rfl rfl rfl ?_)
 (refine SegC.gY rfl rfl rfl ?_)
 (refine Cx.loadPP rfl rfl ?_)
 (refine SegC.gY rfl rfl rfl ?_)
 (refine Cx.eqlI rfl rfl rfl ?_)
 (refine SegC.gY rfl rfl rfl ?_)
 (refine Cx.move rfl rfl ?_)
 (refine SegC.gY rfl rfl rfl ?_)
 (refine Cx.move rfl rfl ?_)
 (refine SegC.gY rfl rfl rfl ?_)
 (refine Cx.move rfl rfl ?_)
 (refine SegC.gY rfl rfl rfl ?_)
 (refine Cx.indexEl rfl rfl (by assumption) rfl rfl ?_)
 (refine SegC.gY rfl rfl rfl ?_)
 (refine Cx.fieldEl rfl rfl rfl ?_)
 (refine SegC.gY rfl rfl rfl ?_)
 (refine Cx.loadPP rfl rfl ?_)
 (refine SegC.gY rfl rfl rfl ?_)
 (refine Cx.move rfl rfl ?_)
 (refine SegC.gY rfl rfl rfl ?_)
 (refine Cx.move rfl rfl ?_)
 (refine SegC.gY rfl rfl rfl ?_)
 (refine Cx.indexEl rfl rfl (by assumption) rfl rfl ?_)
 (refine SegC.gY rfl rfl rfl ?_)
 (refine Cx.fieldEl rfl rfl rfl ?_)
 (refine SegC.gY rfl rfl rfl ?_)
 (refine Cx.loadPP rfl rfl ?_)
 (refine SegC.gY rfl rfl rfl ?_)
 (refine Cx.lssI rfl rfl rfl ?_)
 (refine SegC.gY rfl rfl rfl ?_)
 (refine Cx.pickT rfl (by first | rfl | assumption | (exact decide_eq_true (by first | assumption | omega | rfl)) | (exact decide_eq_false (by first | assumption | omega | rfl)) | (simp; done) | (simp; omega)) rfl rfl ?_)
 (refine Cx.pickF rfl (by first | rfl | assumption | (exact decide_eq_true (by first | assumption | omega | rfl)) | (exact decide_eq_false (by first | assumption | omega | rfl)) | (simp; done) | (simp; omega)) rfl rfl ?_)
 (refine SegC.nil ?_)
 (refine N.seq (W.cF rfl ?_))
 (refine W.skip (N.seq (W.region (Jx.move rfl rfl (Jx.add64 rfl rfl (by omega) rfl ?_)))))
 (refine Jx.assign rfl rfl (J.nil ?_))
 (refine id ?_; rotate_left))
            exact N.round (i + 1, q) ⟨h1, hk⟩ (by simp only; omega) rfl ⟨ref0 rfl, ref0 rfl, ref0 rfl, trivial⟩
        · simp only [if_neg h4] at hk
          focus (
 (refine W.seq (W.seq (W.region (Jx.move rfl rfl (Jx.move rfl rfl (Jx.lenSl rfl rfl ?_))))))
 (refine Jx.lssI rfl rfl rfl (J.nil (N.seq (W.cT rfl ?_))))
 (refine W.skip (N.seq (W.seq (W.block (W.seq (W.seq (W.region (Jx.move rfl rfl (Jx.move rfl rfl (Jx.indexEl rfl rfl (by assumption) rfl rfl ?_))))))))))
 (refine Jx.fieldEl rfl rfl rfl ?_)
 (refine Jx.loadPP rfl rfl ?_)
 (refine Jx.eqlI rfl rfl rfl (J.nil (N.seq (W.cF rfl ?_))))
 (refine W.skip (N.seq (W.seq ?_)))
 (refine W.draw follows ?_)
 (refine JD.calm rfl (by decide +kernel) ?_)
 (refine Cx.move rfl rfl ?_)
 (refine Cx.move rfl rfl ?_)
 (refine Cx.indexEl rfl rfl (by assumption) rfl rfl ?_)
 (refine Cx.fieldEl rfl rfl rfl ?_)
 (refine Cx.loadPP rfl rfl ?_)
 (refine Cx.move rfl rfl ?_)
 (refine Cx.move rfl rfl ?_)
 (refine Cx.indexEl rfl rfl (by assumption) rfl rfl ?_)
 (refine Cx.fieldEl rfl rfl rfl ?_)
 (refine Cx.loadPP rfl rfl ?_)
 (refine Cx.gtrI rfl rfl rfl ?_)
 (refine Cx.move rfl rfl ?_)
 (refine SegC.gY rfl rfl rfl ?_)
 (refine Cx.move rfl rfl ?_)
 (refine SegC.gY rfl rfl rfl ?_)
 (refine Cx.move rfl rfl ?_)
 (refine SegC.gY rfl rfl rfl ?_)
 (refine Cx.indexEl rfl rfl (by assumption) rfl rfl ?_)
 (refine SegC.gY rfl rfl rfl ?_)
 (refine Cx.fieldEl rfl rfl rfl ?_)
 (refine SegC.gY rfl rfl rfl ?_)
 (refine Cx.loadPP rfl rfl ?_)
 (refine SegC.gY rfl rfl rfl ?_)
 (refine Cx.move rfl rfl ?_)
 (refine SegC.gY rfl rfl rfl ?_)
 (refine Cx.move rfl rfl ?_)
 (refine SegC.gY rfl rfl rfl ?_)
 (refine Cx.indexEl rfl rfl (by assumption) rfl rfl ?_)
 (refine SegC.gY rfl rfl rfl ?_)
 (refine Cx.fieldEl rfl rfl rfl ?_)
 (refine SegC.gY rfl rfl rfl ?_)
 (refine Cx.loadPP rfl rfl ?_)
 (refine SegC.gY rfl rfl rfl ?_)
 (refine Cx.eqlI rfl rfl rfl ?_)
 (refine SegC.gY rfl rfl rfl ?_)
 (refine Cx.move rfl rfl ?_)
 (refine SegC.gU rfl rfl rfl rfl ?_)
 (refine SegC.gU rfl rfl rfl rfl ?_)
 (refine SegC.gU rfl rfl rfl rfl ?_)
 (refine SegC.gU rfl rfl rfl rfl ?_)
 (refine SegC.gU rfl rfl rfl rfl ?_)
 (refine SegC.gU rfl rfl rfl rfl ?_)
 (refine SegC.gU rfl rfl rfl rfl ?_)
 (refine SegC.gU rfl rfl rfl rfl ?_)
 (refine SegC.gU rfl rfl rfl rfl ?_)
 (refine SegC.gU rfl rfl rfl rfl ?_)
 (refine SegC.gU rfl rfl rfl rfl ?_)
 (refine SegC.gY rfl rfl rfl ?_)
 (refine Cx.pickF rfl (by first | rfl | assumption | (exact decide_eq_true (by first | assumption | omega | rfl)) | (exact decide_eq_false (by first | assumption | omega | rfl)) | (simp; done) | (simp; omega)) rfl rfl ?_)
 (refine Cx.pickF rfl (by first | rfl | assumption | (exact decide_eq_true (by first | assumption | omega | rfl)) | (exact decide_eq_false (by first | assumption | omega | rfl)) | (simp; done) | (simp; omega)) rfl rfl ?_)
 (refine SegC.nil ?_)
 (refine N.seq (W.cF rfl ?_))
 (refine W.skip (N.seq (W.region (Jx.move rfl rfl (Jx.add64 rfl rfl (by omega) rfl ?_)))))
 (refine Jx.assign rfl rfl (J.nil ?_))
 (refine id ?_; rotate_left))
          exact N.round (i + 1, q) ⟨h1, hk⟩ (by simp only; omega) rfl ⟨ref0 rfl, ref0 rfl, ref0 rfl, trivial⟩
  · have := hd (by omega)
    subst this
    focus (
 (refine W.seq (W.seq (W.region (Jx.move rfl rfl (Jx.move rfl rfl (Jx.lenSl rfl rfl ?_))))))
 (refine Jx.lssI rfl rfl rfl (J.nil (N.seq (W.cF rfl ?_))))
 (refine W.exit (N.seq (W.seq ?_)))
 (refine W.draw follows ?_)
 (refine JD.calm rfl (by decide +kernel) ?_)
 (refine Cx.move rfl rfl ?_)
 (refine Cx.move rfl rfl ?_)
 (refine Cx.indexEl rfl rfl (by assumption) rfl rfl ?_)
 (refine Cx.fieldEl rfl rfl rfl ?_)
 (refine Cx.loadPP rfl rfl ?_)
 (refine Cx.move rfl rfl ?_)
 (refine Cx.move rfl rfl ?_)
 (refine Cx.indexEl rfl rfl (by assumption) rfl rfl ?_)
 (refine Cx.fieldEl rfl rfl rfl ?_)
 (refine Cx.loadPP rfl rfl ?_)
 (refine Cx.assign rfl rfl ?_)
 (refine Cx.assign rfl rfl ?_)
 (refine SegC.nil ?_)
 (refine N.seq (W.ret ?_))
 (refine id ?_; rotate_left))
    exact N.ret (rs := [.tmp 2, .tmp 3]) rfl (.tmp rfl (.tmp rfl .nil)) ⟨rfl, rfl⟩
theorem rlineZ_ok (l : List Rw) (hl : l.length < 1000) (hpar : ∀ i, 0 < i → i < l.length → 0 ≤ (l.getD i rw0).par ∧ (l.getD i rw0).par.toNat < i) (i : Nat) (hi : i < l.length) :
    FnC Try.prog 31 [rwL l, int (i : Int)] [] (fun r L => r = ssl (lineW l (i + 1) i) ∧ L = []) := by
  cases i with
  | zero =>
    refine FnC.intro Try.func31 rfl Try.ntmps31 rfl fun Z w0 hG => ?_
    focus (
 (refine W.seq (W.region (Jx.assign rfl rfl (J.nil (N.seq (W.seq (W.seq (W.region (Jx.move rfl rfl (Jx.eqlI rfl rfl rfl (J.nil (N.seq (W.cT rfl ?_)))))))))))))
 (refine W.seq (W.region (Jx.assign rfl rfl (J.nil (N.seq (W.ret (N.noGotoRet ?_)))))))
 (refine id ?_; rotate_left))
    refine N.rowNil tStr 1 (elOf encS [] []) ?_
    refine N.freeze 4 rfl (by decide) ?_
    exact N.ret (rs := [.tmp 4]) rfl (.tmp rfl .nil) ⟨rfl, rfl⟩
  | succ i =>
    obtain ⟨p1, p2⟩ := hpar (i + 1) (by omega) hi
    have ih := rline_ok l hl hpar (i + 1) (l.getD (i + 1) rw0).par.toNat (by omega) (by omega) (by omega)
    have hln := lineW_len l (i + 1) (l.getD (i + 1) rw0).par.toNat
    rw [show lineW l (i + 1 + 1) (i + 1) = lineW l (i + 1) (l.getD (i + 1) rw0).par.toNat ++ [(l.getD (i + 1) rw0).sum] from rfl]
    generalize lineW l (i + 1) (l.getD (i + 1) rw0).par.toNat = out at *
    obtain ⟨p, hp⟩ : ∃ p : Nat, (l.getD (i + 1) rw0).par = (p : Int) := ⟨(l.getD (i + 1) rw0).par.toNat, by omega⟩
    have hpt : (l.getD (i + 1) rw0).par.toNat = p := by omega
    rw [hpt, ← hp] at ih
    have hi0 : ¬ ((i + 1 : Nat) : Int) = 0 := by omega
    have hmx : out.length + [(l.getD (i + 1) rw0).sum].length ≤ maxLen ∧ (out.length + [(l.getD (i + 1) rw0).sum].length) * 16 ≤ 140737488355328 := by simp only [maxLen, List.length_cons, List.length_nil]; omega
    refine FnC.intro Try.func31 rfl Try.ntmps31 rfl fun Z w0 hG => ?_
    focus (
 (refine W.seq (W.region (Jx.assign rfl rfl (J.nil (N.seq (W.seq (W.seq (W.region (Jx.move rfl rfl (Jx.eqlI rfl rfl rfl (J.nil (N.seq (W.cF rfl ?_)))))))))))))
 (refine W.skip (N.seq (W.seq (W.region (Jx.move rfl rfl (Jx.move rfl rfl (Jx.move rfl rfl (Jx.indexEl rfl rfl (by assumption) rfl rfl ?_))))))))
 (refine Jx.fieldEl rfl rfl rfl ?_)
 (refine Jx.loadPP rfl rfl ?_)
 (refine J.call (ih) rfl (evs_args rfl) rfl ?_; rintro _ _ ⟨u, rfl, rfl⟩; simp only [la1, la2, la3])
 (refine Jx.assign rfl rfl (J.nil (N.seq (W.seq (W.region (Jx.move rfl rfl (Jx.move rfl rfl (Jx.move rfl rfl (Jx.indexEl rfl rfl (by assumption) rfl rfl ?_)))))))))
 (refine Jx.fieldEl rfl rfl rfl ?_)
 (refine Jx.loadPP rfl rfl ?_)
 (refine J.qs (Qs.buildTexts [(l.getD (i + 1) rw0).sum] rfl rfl rfl (by decide) (by decide)) rfl ?_)
 (refine J.appendAt (l := out) (l2 := [(l.getD (i + 1) rw0).sum]) 0 rfl rfl (SrcOK.sl rfl) rfl rfl hmx rfl ?_; intro v2 hv2)
 (refine Jx.assign rfl rfl (J.nil (N.seq (W.ret ?_))))
 (refine id ?_; rotate_left))
    refine N.freeze 4 rfl (by simp only [maxLen, List.length_append, List.length_cons, List.length_nil]; omega) ?_
    exact N.ret (rs := [.tmp 4]) rfl (.tmp rfl .nil) ⟨rfl, rfl⟩
end Go.Proofs.Ytfalljmdhclgaaa
namespace Go.Proofs.Ytfalljmdhclgaaa
open Go Go.Sse
set_option linter.unusedVariables false
set_option linter.unusedSimpArgs false
set_option maxRecDepth 10000
theorem okR_false {l : List Rw} {a i : Nat} (h : ∀ k, k < l.length → okR l (a : Int) i k = false) : ((List.range l.length).any fun k => okR l (a : Int) i k) = false := by
  rw [List.any_eq_false]
  intro k hk
  rw [h k (List.mem_range.1 hk)]; simp
set_option maxHeartbeats 8000000 in
theorem rfin_ok (l : List Rw) (a : Nat) (ha : a < l.length) (hl : l.length < 1000) (hv : ∀ i, i < l.length → 0 ≤ (l.getD i rw0).view ∧ (l.getD i rw0).view ≤ 1048576) : FnC Try.prog 35 [rwL l, int (a : Int)] [] (fun r L => r = bool (finR l a) ∧ L = []) := by
  refine FnC.intro Try.func35 rfl Try.ntmps35 rfl fun Z w0 hG => ?_
  focus (
 (refine W.seq (W.region (Jx.assign rfl rfl (J.nil (N.seq (W.seq (W.seq (W.region (Jx.assign rfl rfl (J.nil (N.seq (W.block ?_))))))))))))
 (refine id ?_; rotate_left))
  refine W.loop (α := Nat) (fun i => [(5, int (i : Int)), (0, rwL l), (1, int (a : Int))]) (fun _ => []) (fun i => i ≤ l.length ∧ ∀ j, j < i → ∀ k, k < l.length → okR l (a : Int) j k = false) (fun i => l.length - i) 0 ⟨by simp, by intro j hj; omega⟩ rfl ⟨ref0 rfl, ref0 rfl, ref0 rfl, trivial⟩ ?_
  rintro i ⟨hi, hno⟩
  by_cases h1 : i < l.length
  · focus (
 (refine W.seq (W.seq (W.region (Jx.move rfl rfl (Jx.move rfl rfl (Jx.lenSl rfl rfl ?_))))))
 (refine Jx.lssI rfl rfl rfl (J.nil (N.seq (W.cT rfl ?_))))
 (refine W.skip (N.seq (W.seq (W.block (W.seq (W.region (Jx.assign rfl rfl (J.nil (N.seq (W.block ?_))))))))))
 (refine id ?_; rotate_left))
    refine W.loop (α := Nat) (fun k => [(6, int (k : Int)), (5, int (i : Int)), (0, rwL l), (1, int (a : Int))]) (fun _ => []) (fun k => k ≤ l.length ∧ ∀ j, j < k → okR l (a : Int) i j = false) (fun k => l.length - k) 0 ⟨by simp, by intro j hj; omega⟩ rfl ⟨ref0 rfl, ref0 rfl, ref0 rfl, ref0 rfl, trivial⟩ ?_
    rintro k ⟨hk, hnk⟩
    by_cases h2 : k < l.length
    · have c3 := rthree_ok (l.getD a rw0).view (l.getD i rw0).view (l.getD k rw0).view (hv a ha) (hv i h1) (hv k h2)
      have hst : okR l (a : Int) i k = false → ∀ j, j < k + 1 → okR l (a : Int) i j = false := fun h j hj => by
        rcases Nat.lt_or_ge j k with h3 | h3
        · exact hnk j h3
        · obtain rfl : j = k := by omega
          exact h
      unfold okR at hst
      simp only [Rl, Int.toNat_natCast] at hst
      by_cases g1 : (0 : Int) < (i : Int)
      · by_cases g2 : (0 : Int) < (k : Int)
        · by_cases g3 : (l.getD i rw0).par = (a : Int)
          · by_cases g4 : (l.getD k rw0).par = (i : Int)
            · by_cases g5 : 0 < (l.getD k rw0).since
              · cases g6 : threeB (l.getD a rw0).view (l.getD i rw0).view (l.getD k rw0).view with
                | true =>
                  rw [g6] at c3
                  have hf : finR l a = true := by
                    simp only [finR, List.any_eq_true, List.mem_range]
                    refine ⟨i, h1, k, h2, ?_⟩
                    unfold okR
                    simp only [Rl, Int.toNat_natCast]
                    rw [g6, decide_eq_true g3, decide_eq_true g4, decide_eq_true g5, decide_eq_true (by omega : 0 < i), decide_eq_true (by omega : 0 < k)]
                    rfl
                  rw [hf]
                  focus (
 (refine W.seq (W.seq (W.region (Jx.move rfl rfl (Jx.move rfl rfl (Jx.lenSl rfl rfl ?_))))))
 (refine Jx.lssI rfl rfl rfl (J.nil (N.seq (W.cT rfl ?_))))
 (refine W.skip (N.seq (W.seq (W.block (W.seq ?_)))))
 (refine W.draw follows ?_)
 (refine JD.calm rfl (by decide +kernel) ?_)
 (refine Cx.move rfl rfl ?_)
 (refine Cx.gtrI rfl rfl rfl ?_)
 (refine Cx.move rfl rfl ?_)
 (refine SegC.gY rfl rfl rfl ?_)
 (refine Cx.move rfl rfl ?_)
 (refine SegC.gY rfl rfl rfl ?_)
 (refine Cx.gtrI rfl rfl rfl ?_)
 (refine Cx.pickT rfl (by first | rfl | assumption | (exact decide_eq_true (by first | assumption | omega | rfl)) | (exact decide_eq_false (by first | assumption | omega | rfl)) | (simp; done) | (simp; omega)) rfl rfl ?_)
 (refine Cx.move rfl rfl ?_)
 (refine SegC.gY rfl rfl rfl ?_)
 (refine Cx.move rfl rfl ?_)
 (refine SegC.gY rfl rfl rfl ?_)
 (refine Cx.move rfl rfl ?_)
 (refine SegC.gY rfl rfl rfl ?_)
 (refine Cx.indexEl rfl rfl (by assumption) rfl rfl ?_)
 (refine SegC.gY rfl rfl rfl ?_)
 (refine Cx.fieldEl rfl rfl rfl ?_)
 (refine SegC.gY rfl rfl rfl ?_)
 (refine Cx.loadPP rfl rfl ?_)
 (refine SegC.gY rfl rfl rfl ?_)
 (refine Cx.move rfl rfl ?_)
 (refine SegC.gY rfl rfl rfl ?_)
 (refine Cx.eqlI rfl rfl rfl ?_)
 (refine Cx.pickT rfl (by first | rfl | assumption | (exact decide_eq_true (by first | assumption | omega | rfl)) | (exact decide_eq_false (by first | assumption | omega | rfl)) | (simp; done) | (simp; omega)) rfl rfl ?_)
 (refine Cx.move rfl rfl ?_)
 (refine SegC.gY rfl rfl rfl ?_)
 (refine Cx.move rfl rfl ?_)
 (refine SegC.gY rfl rfl rfl ?_)
 (refine Cx.move rfl rfl ?_)
 (refine SegC.gY rfl rfl rfl ?_)
 (refine Cx.indexEl rfl rfl (by assumption) rfl rfl ?_)
 (refine SegC.gY rfl rfl rfl ?_)
 (refine Cx.fieldEl rfl rfl rfl ?_)
 (refine SegC.gY rfl rfl rfl ?_)
 (refine Cx.loadPP rfl rfl ?_)
 (refine SegC.gY rfl rfl rfl ?_)
 (refine Cx.move rfl rfl ?_)
 (refine SegC.gY rfl rfl rfl ?_)
 (refine Cx.eqlI rfl rfl rfl ?_)
 (refine Cx.pickT rfl (by first | rfl | assumption | (exact decide_eq_true (by first | assumption | omega | rfl)) | (exact decide_eq_false (by first | assumption | omega | rfl)) | (simp; done) | (simp; omega)) rfl rfl ?_)
 (refine Cx.move rfl rfl ?_)
 (refine SegC.gY rfl rfl rfl ?_)
 (refine Cx.move rfl rfl ?_)
 (refine SegC.gY rfl rfl rfl ?_)
 (refine Cx.move rfl rfl ?_)
 (refine SegC.gY rfl rfl rfl ?_)
 (refine Cx.indexEl rfl rfl (by assumption) rfl rfl ?_)
 (refine SegC.gY rfl rfl rfl ?_)
 (refine Cx.fieldEl rfl rfl rfl ?_)
 (refine SegC.gY rfl rfl rfl ?_)
 (refine Cx.loadPP rfl rfl ?_)
 (refine SegC.gY rfl rfl rfl ?_)
 (refine Cx.gtrI rfl rfl rfl ?_)
 (refine Cx.pickT rfl (by first | rfl | assumption | (exact decide_eq_true (by first | assumption | omega | rfl)) | (exact decide_eq_false (by first | assumption | omega | rfl)) | (simp; done) | (simp; omega)) rfl rfl ?_)
 (refine Cx.move rfl rfl ?_)
 (refine SegC.gY rfl rfl rfl ?_)
 (refine Cx.move rfl rfl ?_)
 (refine SegC.gY rfl rfl rfl ?_)
 (refine Cx.move rfl rfl ?_)
 (refine SegC.gY rfl rfl rfl ?_)
 (refine Cx.indexEl rfl rfl (by assumption) rfl rfl ?_)
 (refine SegC.gY rfl rfl rfl ?_)
 (refine Cx.fieldEl rfl rfl rfl ?_)
 (refine SegC.gY rfl rfl rfl ?_)
 (refine Cx.loadPP rfl rfl ?_)
 (refine SegC.gY rfl rfl rfl ?_)
 (refine Cx.move rfl rfl ?_)
 (refine SegC.gY rfl rfl rfl ?_)
 (refine Cx.move rfl rfl ?_)
 (refine SegC.gY rfl rfl rfl ?_)
 (refine Cx.indexEl rfl rfl (by assumption) rfl rfl ?_)
 (refine SegC.gY rfl rfl rfl ?_)
 (refine Cx.fieldEl rfl rfl rfl ?_)
 (refine SegC.gY rfl rfl rfl ?_)
 (refine Cx.loadPP rfl rfl ?_)
 (refine SegC.gY rfl rfl rfl ?_)
 (refine Cx.move rfl rfl ?_)
 (refine SegC.gY rfl rfl rfl ?_)
 (refine Cx.move rfl rfl ?_)
 (refine SegC.gY rfl rfl rfl ?_)
 (refine Cx.indexEl rfl rfl (by assumption) rfl rfl ?_)
 (refine SegC.gY rfl rfl rfl ?_)
 (refine Cx.fieldEl rfl rfl rfl ?_)
 (refine SegC.gY rfl rfl rfl ?_)
 (refine Cx.loadPP rfl rfl ?_)
 (refine SegC.gY rfl rfl rfl ?_)
 (refine SegC.q (Qs.call (Lc := []) (c3) (fun s L' h => h) (List.Perm.refl _) (evs_args rfl)) rfl ?_)
 (refine Cx.pickT rfl (by first | rfl | assumption | (exact decide_eq_true (by first | assumption | omega | rfl)) | (exact decide_eq_false (by first | assumption | omega | rfl)) | (simp; done) | (simp; omega)) rfl rfl ?_)
 (refine SegC.nil ?_)
 (refine N.seq (W.cT rfl ?_))
 (refine W.seq (W.region (Jx.assign rfl rfl (J.nil (N.seq (W.ret (N.noGotoRet (N.noGotoRet (N.noGotoRet (N.noGotoRet (N.noGotoRet (N.noGotoRet (N.noGotoRet (N.noGotoRet ?_))))))))))))))
 (refine N.noGotoRet ?_)
 (refine id ?_; rotate_left))
                  exact N.ret (rs := [.tmp 4]) rfl (.tmp rfl .nil) ⟨rfl, rfl⟩
                | false =>
                  rw [g6] at c3
                  have hst := hst (by rw [g6]; simp)
                  focus (
 (refine W.seq (W.seq (W.region (Jx.move rfl rfl (Jx.move rfl rfl (Jx.lenSl rfl rfl ?_))))))
 (refine Jx.lssI rfl rfl rfl (J.nil (N.seq (W.cT rfl ?_))))
 (refine W.skip (N.seq (W.seq (W.block (W.seq ?_)))))
 (refine W.draw follows ?_)
 (refine JD.calm rfl (by decide +kernel) ?_)
 (refine Cx.move rfl rfl ?_)
 (refine Cx.gtrI rfl rfl rfl ?_)
 (refine Cx.move rfl rfl ?_)
 (refine SegC.gY rfl rfl rfl ?_)
 (refine Cx.move rfl rfl ?_)
 (refine SegC.gY rfl rfl rfl ?_)
 (refine Cx.gtrI rfl rfl rfl ?_)
 (refine Cx.pickT rfl (by first | rfl | assumption | (exact decide_eq_true (by first | assumption | omega | rfl)) | (exact decide_eq_false (by first | assumption | omega | rfl)) | (simp; done) | (simp; omega)) rfl rfl ?_)
 (refine Cx.move rfl rfl ?_)
 (refine SegC.gY rfl rfl rfl ?_)
 (refine Cx.move rfl rfl ?_)
 (refine SegC.gY rfl rfl rfl ?_)
 (refine Cx.move rfl rfl ?_)
 (refine SegC.gY rfl rfl rfl ?_)
 (refine Cx.indexEl rfl rfl (by assumption) rfl rfl ?_)
 (refine SegC.gY rfl rfl rfl ?_)
 (refine Cx.fieldEl rfl rfl rfl ?_)
 (refine SegC.gY rfl rfl rfl ?_)
 (refine Cx.loadPP rfl rfl ?_)
 (refine SegC.gY rfl rfl rfl ?_)
 (refine Cx.move rfl rfl ?_)
 (refine SegC.gY rfl rfl rfl ?_)
 (refine Cx.eqlI rfl rfl rfl ?_)
 (refine Cx.pickT rfl (by first | rfl | assumption | (exact decide_eq_true (by first | assumption | omega | rfl)) | (exact decide_eq_false (by first | assumption | omega | rfl)) | (simp; done) | (simp; omega)) rfl rfl ?_)
 (refine Cx.move rfl rfl ?_)
 (refine SegC.gY rfl rfl rfl ?_)
 (refine Cx.move rfl rfl ?_)
 (refine SegC.gY rfl rfl rfl ?_)
 (refine Cx.move rfl rfl ?_)
 (refine SegC.gY rfl rfl rfl ?_)
 (refine Cx.indexEl rfl rfl (by assumption) rfl rfl ?_)
 (refine SegC.gY rfl rfl rfl ?_)
 (refine Cx.fieldEl rfl rfl rfl ?_)
 (refine SegC.gY rfl rfl rfl ?_)
 (refine Cx.loadPP rfl rfl ?_)
 (refine SegC.gY rfl rfl rfl ?_)
 (refine Cx.move rfl rfl ?_)
 (refine SegC.gY rfl rfl rfl ?_)
 (refine Cx.eqlI rfl rfl rfl ?_)
 (refine Cx.pickT rfl (by first | rfl | assumption | (exact decide_eq_true (by first | assumption | omega | rfl)) | (exact decide_eq_false (by first | assumption | omega | rfl)) | (simp; done) | (simp; omega)) rfl rfl ?_)
 (refine Cx.move rfl rfl ?_)
 (refine SegC.gY rfl rfl rfl ?_)
 (refine Cx.move rfl rfl ?_)
 (refine SegC.gY rfl rfl rfl ?_)
 (refine Cx.move rfl rfl ?_)
 (refine SegC.gY rfl rfl rfl ?_)
 (refine Cx.indexEl rfl rfl (by assumption) rfl rfl ?_)
 (refine SegC.gY rfl rfl rfl ?_)
 (refine Cx.fieldEl rfl rfl rfl ?_)
 (refine SegC.gY rfl rfl rfl ?_)
 (refine Cx.loadPP rfl rfl ?_)
 (refine SegC.gY rfl rfl rfl ?_)
 (refine Cx.gtrI rfl rfl rfl ?_)
 (refine Cx.pickT rfl (by first | rfl | assumption | (exact decide_eq_true (by first | assumption | omega | rfl)) | (exact decide_eq_false (by first | assumption | omega | rfl)) | (simp; done) | (simp; omega)) rfl rfl ?_)
 (refine Cx.move rfl rfl ?_)
 (refine SegC.gY rfl rfl rfl ?_)
 (refine Cx.move rfl rfl ?_)
 (refine SegC.gY rfl rfl rfl ?_)
 (refine Cx.move rfl rfl ?_)
 (refine SegC.gY rfl rfl rfl ?_)
 (refine Cx.indexEl rfl rfl (by assumption) rfl rfl ?_)
 (refine SegC.gY rfl rfl rfl ?_)
 (refine Cx.fieldEl rfl rfl rfl ?_)
 (refine SegC.gY rfl rfl rfl ?_)
 (refine Cx.loadPP rfl rfl ?_)
 (refine SegC.gY rfl rfl rfl ?_)
 (refine Cx.move rfl rfl ?_)
 (refine SegC.gY rfl rfl rfl ?_)
 (refine Cx.move rfl rfl ?_)
 (refine SegC.gY rfl rfl rfl ?_)
 (refine Cx.indexEl rfl rfl (by assumption) rfl rfl ?_)
 (refine SegC.gY rfl rfl rfl ?_)
 (refine Cx.fieldEl rfl rfl rfl ?_)
 (refine SegC.gY rfl rfl rfl ?_)
 (refine Cx.loadPP rfl rfl ?_)
 (refine SegC.gY rfl rfl rfl ?_)
 (refine Cx.move rfl rfl ?_)
 (refine SegC.gY rfl rfl rfl ?_)
 (refine Cx.move rfl rfl ?_)
 (refine SegC.gY rfl rfl rfl ?_)
 (refine Cx.indexEl rfl rfl (by assumption) rfl rfl ?_)
 (refine SegC.gY rfl rfl rfl ?_)
 (refine Cx.fieldEl rfl rfl rfl ?_)
 (refine SegC.gY rfl rfl rfl ?_)
 (refine Cx.loadPP rfl rfl ?_)
 (refine SegC.gY rfl rfl rfl ?_)
 (refine SegC.q (Qs.call (Lc := []) (c3) (fun s L' h => h) (List.Perm.refl _) (evs_args rfl)) rfl ?_)
 (refine Cx.pickT rfl (by first | rfl | assumption | (exact decide_eq_true (by first | assumption | omega | rfl)) | (exact decide_eq_false (by first | assumption | omega | rfl)) | (simp; done) | (simp; omega)) rfl rfl ?_)
 (refine SegC.nil ?_)
 (refine N.seq (W.cF rfl ?_))
 (refine W.skip (N.seq (W.region (Jx.move rfl rfl (Jx.add64 rfl rfl (by omega) rfl ?_)))))
 (refine Jx.assign rfl rfl (J.nil ?_))
 (refine id ?_; rotate_left))
                  exact N.round (k + 1) ⟨h2, hst⟩ (by omega) rfl ⟨ref0 rfl, ref0 rfl, ref0 rfl, ref0 rfl, trivial⟩
              · have hst := hst (by rw [decide_eq_false g5]; simp)
                focus (
 (refine W.seq (W.seq (W.region (Jx.move rfl rfl (Jx.move rfl rfl (Jx.lenSl rfl rfl ?_))))))
 (refine Jx.lssI rfl rfl rfl (J.nil (N.seq (W.cT rfl ?_))))
 (refine W.skip (N.seq (W.seq (W.block (W.seq ?_)))))
 (refine W.draw follows ?_)
 (refine JD.calm rfl (by decide +kernel) ?_)
 (refine Cx.move rfl rfl ?_)
 (refine Cx.gtrI rfl rfl rfl ?_)
 (refine Cx.move rfl rfl ?_)
 (refine SegC.gY rfl rfl rfl ?_)
 (refine Cx.move rfl rfl ?_)
 (refine SegC.gY rfl rfl rfl ?_)
 (refine Cx.gtrI rfl rfl rfl ?_)
 (refine Cx.pickT rfl (by first | rfl | assumption | (exact decide_eq_true (by first | assumption | omega | rfl)) | (exact decide_eq_false (by first | assumption | omega | rfl)) | (simp; done) | (simp; omega)) rfl rfl ?_)
 (refine Cx.move rfl rfl ?_)
 (refine SegC.gY rfl rfl rfl ?_)
 (refine Cx.move rfl rfl ?_)
 (refine SegC.gY rfl rfl rfl ?_)
 (refine Cx.move rfl rfl ?_)
 (refine SegC.gY rfl rfl rfl ?_)
 (refine Cx.indexEl rfl rfl (by assumption) rfl rfl ?_)
 (refine SegC.gY rfl rfl rfl ?_)
 (refine Cx.fieldEl rfl rfl rfl ?_)
 (refine SegC.gY rfl rfl rfl ?_)
 (refine Cx.loadPP rfl rfl ?_)
 (refine SegC.gY rfl rfl rfl ?_)
 (refine Cx.move rfl rfl ?_)
 (refine SegC.gY rfl rfl rfl ?_)
 (refine Cx.eqlI rfl rfl rfl ?_)
 (refine Cx.pickT rfl (by first | rfl | assumption | (exact decide_eq_true (by first | assumption | omega | rfl)) | (exact decide_eq_false (by first | assumption | omega | rfl)) | (simp; done) | (simp; omega)) rfl rfl ?_)
 (refine Cx.move rfl rfl ?_)
 (refine SegC.gY rfl rfl rfl ?_)
 (refine Cx.move rfl rfl ?_)
 (refine SegC.gY rfl rfl rfl ?_)
 (refine Cx.move rfl rfl ?_)
 (refine SegC.gY rfl rfl rfl ?_)
 (refine Cx.indexEl rfl rfl (by assumption) rfl rfl ?_)
 (refine SegC.gY rfl rfl rfl ?_)
 (refine Cx.fieldEl rfl rfl rfl ?_)
 (refine SegC.gY rfl rfl rfl ?_)
 (refine Cx.loadPP rfl rfl ?_)
 (refine SegC.gY rfl rfl rfl ?_)
 (refine Cx.move rfl rfl ?_)
 (refine SegC.gY rfl rfl rfl ?_)
 (refine Cx.eqlI rfl rfl rfl ?_)
 (refine Cx.pickT rfl (by first | rfl | assumption | (exact decide_eq_true (by first | assumption | omega | rfl)) | (exact decide_eq_false (by first | assumption | omega | rfl)) | (simp; done) | (simp; omega)) rfl rfl ?_)
 (refine Cx.move rfl rfl ?_)
 (refine SegC.gY rfl rfl rfl ?_)
 (refine Cx.move rfl rfl ?_)
 (refine SegC.gY rfl rfl rfl ?_)
 (refine Cx.move rfl rfl ?_)
 (refine SegC.gY rfl rfl rfl ?_)
 (refine Cx.indexEl rfl rfl (by assumption) rfl rfl ?_)
 (refine SegC.gY rfl rfl rfl ?_)
 (refine Cx.fieldEl rfl rfl rfl ?_)
 (refine SegC.gY rfl rfl rfl ?_)
 (refine Cx.loadPP rfl rfl ?_)
 (refine SegC.gY rfl rfl rfl ?_)
 (refine Cx.gtrI rfl rfl rfl ?_)
 (refine Cx.pickT rfl (by first | rfl | assumption | (exact decide_eq_true (by first | assumption | omega | rfl)) | (exact decide_eq_false (by first | assumption | omega | rfl)) | (simp; done) | (simp; omega)) rfl rfl ?_)
 (refine Cx.move rfl rfl ?_)
 (refine SegC.gU rfl rfl rfl rfl ?_)
 (refine SegC.gU rfl rfl rfl rfl ?_)
 (refine SegC.gU rfl rfl rfl rfl ?_)
 (refine SegC.gU rfl rfl rfl rfl ?_)
 (refine SegC.gU rfl rfl rfl rfl ?_)
 (refine SegC.gU rfl rfl rfl rfl ?_)
 (refine SegC.gU rfl rfl rfl rfl ?_)
 (refine SegC.gU rfl rfl rfl rfl ?_)
 (refine SegC.gU rfl rfl rfl rfl ?_)
 (refine SegC.gU rfl rfl rfl rfl ?_)
 (refine SegC.gU rfl rfl rfl rfl ?_)
 (refine SegC.gU rfl rfl rfl rfl ?_)
 (refine SegC.gU rfl rfl rfl rfl ?_)
 (refine SegC.gU rfl rfl rfl rfl ?_)
 (refine SegC.gU rfl rfl rfl rfl ?_)
 (refine SegC.gU rfl rfl rfl rfl ?_)
 (refine Cx.pickF rfl (by first | rfl | assumption | (exact decide_eq_true (by first | assumption | omega | rfl)) | (exact decide_eq_false (by first | assumption | omega | rfl)) | (simp; done) | (simp; omega)) rfl rfl ?_)
 (refine SegC.nil ?_)
 (refine N.seq (W.cF rfl ?_))
 (refine W.skip (N.seq (W.region (Jx.move rfl rfl (Jx.add64 rfl rfl (by omega) rfl ?_)))))
 (refine Jx.assign rfl rfl (J.nil ?_))
 (refine id ?_; rotate_left))
                exact N.round (k + 1) ⟨h2, hst⟩ (by omega) rfl ⟨ref0 rfl, ref0 rfl, ref0 rfl, ref0 rfl, trivial⟩
            · have hst := hst (by rw [decide_eq_false g4]; simp)
              focus (
 (refine W.seq (W.seq (W.region (Jx.move rfl rfl (Jx.move rfl rfl (Jx.lenSl rfl rfl ?_))))))
 (refine Jx.lssI rfl rfl rfl (J.nil (N.seq (W.cT rfl ?_))))
 (refine W.skip (N.seq (W.seq (W.block (W.seq ?_)))))
 (refine W.draw follows ?_)
 (refine JD.calm rfl (by decide +kernel) ?_)
 (refine Cx.move rfl rfl ?_)
 (refine Cx.gtrI rfl rfl rfl ?_)
 (refine Cx.move rfl rfl ?_)
 (refine SegC.gY rfl rfl rfl ?_)
 (refine Cx.move rfl rfl ?_)
 (refine SegC.gY rfl rfl rfl ?_)
 (refine Cx.gtrI rfl rfl rfl ?_)
 (refine Cx.pickT rfl (by first | rfl | assumption | (exact decide_eq_true (by first | assumption | omega | rfl)) | (exact decide_eq_false (by first | assumption | omega | rfl)) | (simp; done) | (simp; omega)) rfl rfl ?_)
 (refine Cx.move rfl rfl ?_)
 (refine SegC.gY rfl rfl rfl ?_)
 (refine Cx.move rfl rfl ?_)
 (refine SegC.gY rfl rfl rfl ?_)
 (refine Cx.move rfl rfl ?_)
 (refine SegC.gY rfl rfl rfl ?_)
 (refine Cx.indexEl rfl rfl (by assumption) rfl rfl ?_)
 (refine SegC.gY rfl rfl rfl ?_)
 (refine Cx.fieldEl rfl rfl rfl ?_)
 (refine SegC.gY rfl rfl rfl ?_)
 (refine Cx.loadPP rfl rfl ?_)
 (refine SegC.gY rfl rfl rfl ?_)
 (refine Cx.move rfl rfl ?_)
 (refine SegC.gY rfl rfl rfl ?_)
 (refine Cx.eqlI rfl rfl rfl ?_)
 (refine Cx.pickT rfl (by first | rfl | assumption | (exact decide_eq_true (by first | assumption | omega | rfl)) | (exact decide_eq_false (by first | assumption | omega | rfl)) | (simp; done) | (simp; omega)) rfl rfl ?_)
 (refine Cx.move rfl rfl ?_)
 (refine SegC.gY rfl rfl rfl ?_)
 (refine Cx.move rfl rfl ?_)
 (refine SegC.gY rfl rfl rfl ?_)
 (refine Cx.move rfl rfl ?_)
 (refine SegC.gY rfl rfl rfl ?_)
 (refine Cx.indexEl rfl rfl (by assumption) rfl rfl ?_)
 (refine SegC.gY rfl rfl rfl ?_)
 (refine Cx.fieldEl rfl rfl rfl ?_)
 (refine SegC.gY rfl rfl rfl ?_)
 (refine Cx.loadPP rfl rfl ?_)
 (refine SegC.gY rfl rfl rfl ?_)
 (refine Cx.move rfl rfl ?_)
 (refine SegC.gY rfl rfl rfl ?_)
 (refine Cx.eqlI rfl rfl rfl ?_)
 (refine Cx.pickT rfl (by first | rfl | assumption | (exact decide_eq_true (by first | assumption | omega | rfl)) | (exact decide_eq_false (by first | assumption | omega | rfl)) | (simp; done) | (simp; omega)) rfl rfl ?_)
 (refine Cx.move rfl rfl ?_)
 (refine SegC.gU rfl rfl rfl rfl ?_)
 (refine SegC.gU rfl rfl rfl rfl ?_)
 (refine SegC.gU rfl rfl rfl rfl ?_)
 (refine SegC.gU rfl rfl rfl rfl ?_)
 (refine SegC.gU rfl rfl rfl rfl ?_)
 (refine SegC.gU rfl rfl rfl rfl ?_)
 (refine Cx.pickF rfl (by first | rfl | assumption | (exact decide_eq_true (by first | assumption | omega | rfl)) | (exact decide_eq_false (by first | assumption | omega | rfl)) | (simp; done) | (simp; omega)) rfl rfl ?_)
 (refine Cx.move rfl rfl ?_)
 (refine SegC.gU rfl rfl rfl rfl ?_)
 (refine SegC.gU rfl rfl rfl rfl ?_)
 (refine SegC.gU rfl rfl rfl rfl ?_)
 (refine SegC.gU rfl rfl rfl rfl ?_)
 (refine SegC.gU rfl rfl rfl rfl ?_)
 (refine SegC.gU rfl rfl rfl rfl ?_)
 (refine SegC.gU rfl rfl rfl rfl ?_)
 (refine SegC.gU rfl rfl rfl rfl ?_)
 (refine SegC.gU rfl rfl rfl rfl ?_)
 (refine SegC.gU rfl rfl rfl rfl ?_)
 (refine SegC.gU rfl rfl rfl rfl ?_)
 (refine SegC.gU rfl rfl rfl rfl ?_)
 (refine SegC.gU rfl rfl rfl rfl ?_)
 (refine SegC.gU rfl rfl rfl rfl ?_)
 (refine SegC.gU rfl rfl rfl rfl ?_)
 (refine SegC.gU rfl rfl rfl rfl ?_)
 (refine Cx.pickF rfl (by first | rfl | assumption | (exact decide_eq_true (by first | assumption | omega | rfl)) | (exact decide_eq_false (by first | assumption | omega | rfl)) | (simp; done) | (simp; omega)) rfl rfl ?_)
 (refine SegC.nil ?_)
 (refine N.seq (W.cF rfl ?_))
 (refine W.skip (N.seq (W.region (Jx.move rfl rfl (Jx.add64 rfl rfl (by omega) rfl ?_)))))
 (refine Jx.assign rfl rfl (J.nil ?_))
 (refine id ?_; rotate_left))
              exact N.round (k + 1) ⟨h2, hst⟩ (by omega) rfl ⟨ref0 rfl, ref0 rfl, ref0 rfl, ref0 rfl, trivial⟩
          · have hst := hst (by rw [decide_eq_false g3]; simp)
            focus (
 (refine W.seq (W.seq (W.region (Jx.move rfl rfl (Jx.move rfl rfl (Jx.lenSl rfl rfl ?_))))))
 (refine Jx.lssI rfl rfl rfl (J.nil (N.seq (W.cT rfl ?_))))
 (refine W.skip (N.seq (W.seq (W.block (W.seq ?_)))))
 (refine W.draw follows ?_)
 (refine JD.calm rfl (by decide +kernel) ?_)
 (refine Cx.move rfl rfl ?_)
 (refine Cx.gtrI rfl rfl rfl ?_)
 (refine Cx.move rfl rfl ?_)
 (refine SegC.gY rfl rfl rfl ?_)
 (refine Cx.move rfl rfl ?_)
 (refine SegC.gY rfl rfl rfl ?_)
 (refine Cx.gtrI rfl rfl rfl ?_)
 (refine Cx.pickT rfl (by first | rfl | assumption | (exact decide_eq_true (by first | assumption | omega | rfl)) | (exact decide_eq_false (by first | assumption | omega | rfl)) | (simp; done) | (simp; omega)) rfl rfl ?_)
 (refine Cx.move rfl rfl ?_)
 (refine SegC.gY rfl rfl rfl ?_)
 (refine Cx.move rfl rfl ?_)
 (refine SegC.gY rfl rfl rfl ?_)
 (refine Cx.move rfl rfl ?_)
 (refine SegC.gY rfl rfl rfl ?_)
 (refine Cx.indexEl rfl rfl (by assumption) rfl rfl ?_)
 (refine SegC.gY rfl rfl rfl ?_)
 (refine Cx.fieldEl rfl rfl rfl ?_)
 (refine SegC.gY rfl rfl rfl ?_)
 (refine Cx.loadPP rfl rfl ?_)
 (refine SegC.gY rfl rfl rfl ?_)
 (refine Cx.move rfl rfl ?_)
 (refine SegC.gY rfl rfl rfl ?_)
 (refine Cx.eqlI rfl rfl rfl ?_)
 (refine Cx.pickT rfl (by first | rfl | assumption | (exact decide_eq_true (by first | assumption | omega | rfl)) | (exact decide_eq_false (by first | assumption | omega | rfl)) | (simp; done) | (simp; omega)) rfl rfl ?_)
 (refine Cx.move rfl rfl ?_)
 (refine SegC.gU rfl rfl rfl rfl ?_)
 (refine SegC.gU rfl rfl rfl rfl ?_)
 (refine SegC.gU rfl rfl rfl rfl ?_)
 (refine SegC.gU rfl rfl rfl rfl ?_)
 (refine SegC.gU rfl rfl rfl rfl ?_)
 (refine SegC.gU rfl rfl rfl rfl ?_)
 (refine SegC.gU rfl rfl rfl rfl ?_)
 (refine Cx.pickF rfl (by first | rfl | assumption | (exact decide_eq_true (by first | assumption | omega | rfl)) | (exact decide_eq_false (by first | assumption | omega | rfl)) | (simp; done) | (simp; omega)) rfl rfl ?_)
 (refine Cx.move rfl rfl ?_)
 (refine SegC.gU rfl rfl rfl rfl ?_)
 (refine SegC.gU rfl rfl rfl rfl ?_)
 (refine SegC.gU rfl rfl rfl rfl ?_)
 (refine SegC.gU rfl rfl rfl rfl ?_)
 (refine SegC.gU rfl rfl rfl rfl ?_)
 (refine SegC.gU rfl rfl rfl rfl ?_)
 (refine Cx.pickF rfl (by first | rfl | assumption | (exact decide_eq_true (by first | assumption | omega | rfl)) | (exact decide_eq_false (by first | assumption | omega | rfl)) | (simp; done) | (simp; omega)) rfl rfl ?_)
 (refine Cx.move rfl rfl ?_)
 (refine SegC.gU rfl rfl rfl rfl ?_)
 (refine SegC.gU rfl rfl rfl rfl ?_)
 (refine SegC.gU rfl rfl rfl rfl ?_)
 (refine SegC.gU rfl rfl rfl rfl ?_)
 (refine SegC.gU rfl rfl rfl rfl ?_)
 (refine SegC.gU rfl rfl rfl rfl ?_)
 (refine SegC.gU rfl rfl rfl rfl ?_)
 (refine SegC.gU rfl rfl rfl rfl ?_)
 (refine SegC.gU rfl rfl rfl rfl ?_)
 (refine SegC.gU rfl rfl rfl rfl ?_)
 (refine SegC.gU rfl rfl rfl rfl ?_)
 (refine SegC.gU rfl rfl rfl rfl ?_)
 (refine SegC.gU rfl rfl rfl rfl ?_)
 (refine SegC.gU rfl rfl rfl rfl ?_)
 (refine SegC.gU rfl rfl rfl rfl ?_)
 (refine SegC.gU rfl rfl rfl rfl ?_)
 (refine Cx.pickF rfl (by first | rfl | assumption | (exact decide_eq_true (by first | assumption | omega | rfl)) | (exact decide_eq_false (by first | assumption | omega | rfl)) | (simp; done) | (simp; omega)) rfl rfl ?_)
 (refine SegC.nil ?_)
 (refine N.seq (W.cF rfl ?_))
 (refine W.skip (N.seq (W.region (Jx.move rfl rfl (Jx.add64 rfl rfl (by omega) rfl ?_)))))
 (refine Jx.assign rfl rfl (J.nil ?_))
 (refine id ?_; rotate_left))
            exact N.round (k + 1) ⟨h2, hst⟩ (by omega) rfl ⟨ref0 rfl, ref0 rfl, ref0 rfl, ref0 rfl, trivial⟩
        · have hst := hst (by rw [decide_eq_false (by omega : ¬ 0 < k)]; simp)
          focus (
 (refine W.seq (W.seq (W.region (Jx.move rfl rfl (Jx.move rfl rfl (Jx.lenSl rfl rfl ?_))))))
 (refine Jx.lssI rfl rfl rfl (J.nil (N.seq (W.cT rfl ?_))))
 (refine W.skip (N.seq (W.seq (W.block (W.seq ?_)))))
 (refine W.draw follows ?_)
 (refine JD.calm rfl (by decide +kernel) ?_)
 (refine Cx.move rfl rfl ?_)
 (refine Cx.gtrI rfl rfl rfl ?_)
 (refine Cx.move rfl rfl ?_)
 (refine SegC.gY rfl rfl rfl ?_)
 (refine Cx.move rfl rfl ?_)
 (refine SegC.gY rfl rfl rfl ?_)
 (refine Cx.gtrI rfl rfl rfl ?_)
 (refine Cx.pickT rfl (by first | rfl | assumption | (exact decide_eq_true (by first | assumption | omega | rfl)) | (exact decide_eq_false (by first | assumption | omega | rfl)) | (simp; done) | (simp; omega)) rfl rfl ?_)
 (refine Cx.move rfl rfl ?_)
 (refine SegC.gU rfl rfl rfl rfl ?_)
 (refine SegC.gU rfl rfl rfl rfl ?_)
 (refine SegC.gU rfl rfl rfl rfl ?_)
 (refine SegC.gU rfl rfl rfl rfl ?_)
 (refine SegC.gU rfl rfl rfl rfl ?_)
 (refine SegC.gU rfl rfl rfl rfl ?_)
 (refine SegC.gU rfl rfl rfl rfl ?_)
 (refine Cx.pickF rfl (by first | rfl | assumption | (exact decide_eq_true (by first | assumption | omega | rfl)) | (exact decide_eq_false (by first | assumption | omega | rfl)) | (simp; done) | (simp; omega)) rfl rfl ?_)
 (refine Cx.move rfl rfl ?_)
 (refine SegC.gU rfl rfl rfl rfl ?_)
 (refine SegC.gU rfl rfl rfl rfl ?_)
 (refine SegC.gU rfl rfl rfl rfl ?_)
 (refine SegC.gU rfl rfl rfl rfl ?_)
 (refine SegC.gU rfl rfl rfl rfl ?_)
 (refine SegC.gU rfl rfl rfl rfl ?_)
 (refine SegC.gU rfl rfl rfl rfl ?_)
 (refine Cx.pickF rfl (by first | rfl | assumption | (exact decide_eq_true (by first | assumption | omega | rfl)) | (exact decide_eq_false (by first | assumption | omega | rfl)) | (simp; done) | (simp; omega)) rfl rfl ?_)
 (refine Cx.move rfl rfl ?_)
 (refine SegC.gU rfl rfl rfl rfl ?_)
 (refine SegC.gU rfl rfl rfl rfl ?_)
 (refine SegC.gU rfl rfl rfl rfl ?_)
 (refine SegC.gU rfl rfl rfl rfl ?_)
 (refine SegC.gU rfl rfl rfl rfl ?_)
 (refine SegC.gU rfl rfl rfl rfl ?_)
 (refine Cx.pickF rfl (by first | rfl | assumption | (exact decide_eq_true (by first | assumption | omega | rfl)) | (exact decide_eq_false (by first | assumption | omega | rfl)) | (simp; done) | (simp; omega)) rfl rfl ?_)
 (refine Cx.move rfl rfl ?_)
 (refine SegC.gU rfl rfl rfl rfl ?_)
 (refine SegC.gU rfl rfl rfl rfl ?_)
 (refine SegC.gU rfl rfl rfl rfl ?_)
 (refine SegC.gU rfl rfl rfl rfl ?_)
 (refine SegC.gU rfl rfl rfl rfl ?_)
 (refine SegC.gU rfl rfl rfl rfl ?_)
 (refine SegC.gU rfl rfl rfl rfl ?_)
 (refine SegC.gU rfl rfl rfl rfl ?_)
 (refine SegC.gU rfl rfl rfl rfl ?_)
 (refine SegC.gU rfl rfl rfl rfl ?_)
 (refine SegC.gU rfl rfl rfl rfl ?_)
 (refine SegC.gU rfl rfl rfl rfl ?_)
 (refine SegC.gU rfl rfl rfl rfl ?_)
 (refine SegC.gU rfl rfl rfl rfl ?_)
 (refine SegC.gU rfl rfl rfl rfl ?_)
 (refine SegC.gU rfl rfl rfl rfl ?_)
 (refine Cx.pickF rfl (by first | rfl | assumption | (exact decide_eq_true (by first | assumption | omega | rfl)) | (exact decide_eq_false (by first | assumption | omega | rfl)) | (simp; done) | (simp; omega)) rfl rfl ?_)
 (refine SegC.nil ?_)
 (refine N.seq (W.cF rfl ?_))
 (refine W.skip (N.seq (W.region (Jx.move rfl rfl (Jx.add64 rfl rfl (by omega) rfl ?_)))))
 (refine Jx.assign rfl rfl (J.nil ?_))
 (refine id ?_; rotate_left))
          exact N.round (k + 1) ⟨h2, hst⟩ (by omega) rfl ⟨ref0 rfl, ref0 rfl, ref0 rfl, ref0 rfl, trivial⟩
      · have hst := hst (by rw [decide_eq_false (by omega : ¬ 0 < i)]; simp)
        focus (
 (refine W.seq (W.seq (W.region (Jx.move rfl rfl (Jx.move rfl rfl (Jx.lenSl rfl rfl ?_))))))
 (refine Jx.lssI rfl rfl rfl (J.nil (N.seq (W.cT rfl ?_))))
 (refine W.skip (N.seq (W.seq (W.block (W.seq ?_)))))
 (refine W.draw follows ?_)
 (refine JD.calm rfl (by decide +kernel) ?_)
 (refine Cx.move rfl rfl ?_)
 (refine Cx.gtrI rfl rfl rfl ?_)
 (refine Cx.move rfl rfl ?_)
 (refine SegC.gU rfl rfl rfl rfl ?_)
 (refine SegC.gU rfl rfl rfl rfl ?_)
 (refine Cx.pickF rfl (by first | rfl | assumption | (exact decide_eq_true (by first | assumption | omega | rfl)) | (exact decide_eq_false (by first | assumption | omega | rfl)) | (simp; done) | (simp; omega)) rfl rfl ?_)
 (refine Cx.move rfl rfl ?_)
 (refine SegC.gU rfl rfl rfl rfl ?_)
 (refine SegC.gU rfl rfl rfl rfl ?_)
 (refine SegC.gU rfl rfl rfl rfl ?_)
 (refine SegC.gU rfl rfl rfl rfl ?_)
 (refine SegC.gU rfl rfl rfl rfl ?_)
 (refine SegC.gU rfl rfl rfl rfl ?_)
 (refine SegC.gU rfl rfl rfl rfl ?_)
 (refine Cx.pickF rfl (by first | rfl | assumption | (exact decide_eq_true (by first | assumption | omega | rfl)) | (exact decide_eq_false (by first | assumption | omega | rfl)) | (simp; done) | (simp; omega)) rfl rfl ?_)
 (refine Cx.move rfl rfl ?_)
 (refine SegC.gU rfl rfl rfl rfl ?_)
 (refine SegC.gU rfl rfl rfl rfl ?_)
 (refine SegC.gU rfl rfl rfl rfl ?_)
 (refine SegC.gU rfl rfl rfl rfl ?_)
 (refine SegC.gU rfl rfl rfl rfl ?_)
 (refine SegC.gU rfl rfl rfl rfl ?_)
 (refine SegC.gU rfl rfl rfl rfl ?_)
 (refine Cx.pickF rfl (by first | rfl | assumption | (exact decide_eq_true (by first | assumption | omega | rfl)) | (exact decide_eq_false (by first | assumption | omega | rfl)) | (simp; done) | (simp; omega)) rfl rfl ?_)
 (refine Cx.move rfl rfl ?_)
 (refine SegC.gU rfl rfl rfl rfl ?_)
 (refine SegC.gU rfl rfl rfl rfl ?_)
 (refine SegC.gU rfl rfl rfl rfl ?_)
 (refine SegC.gU rfl rfl rfl rfl ?_)
 (refine SegC.gU rfl rfl rfl rfl ?_)
 (refine SegC.gU rfl rfl rfl rfl ?_)
 (refine Cx.pickF rfl (by first | rfl | assumption | (exact decide_eq_true (by first | assumption | omega | rfl)) | (exact decide_eq_false (by first | assumption | omega | rfl)) | (simp; done) | (simp; omega)) rfl rfl ?_)
 (refine Cx.move rfl rfl ?_)
 (refine SegC.gU rfl rfl rfl rfl ?_)
 (refine SegC.gU rfl rfl rfl rfl ?_)
 (refine SegC.gU rfl rfl rfl rfl ?_)
 (refine SegC.gU rfl rfl rfl rfl ?_)
 (refine SegC.gU rfl rfl rfl rfl ?_)
 (refine SegC.gU rfl rfl rfl rfl ?_)
 (refine SegC.gU rfl rfl rfl rfl ?_)
 (refine SegC.gU rfl rfl rfl rfl ?_)
 (refine SegC.gU rfl rfl rfl rfl ?_)
 (refine SegC.gU rfl rfl rfl rfl ?_)
 (refine SegC.gU rfl rfl rfl rfl ?_)
 (refine SegC.gU rfl rfl rfl rfl ?_)
 (refine SegC.gU rfl rfl rfl rfl ?_)
 (refine SegC.gU rfl rfl rfl rfl ?_)
 (refine SegC.gU rfl rfl rfl rfl ?_)
 (refine SegC.gU rfl rfl rfl rfl ?_)
 (refine Cx.pickF rfl (by first | rfl | assumption | (exact decide_eq_true (by first | assumption | omega | rfl)) | (exact decide_eq_false (by first | assumption | omega | rfl)) | (simp; done) | (simp; omega)) rfl rfl ?_)
 (refine SegC.nil ?_)
 (refine N.seq (W.cF rfl ?_))
 (refine W.skip (N.seq (W.region (Jx.move rfl rfl (Jx.add64 rfl rfl (by omega) rfl ?_)))))
 (refine Jx.assign rfl rfl (J.nil ?_))
 (refine id ?_; rotate_left))
        exact N.round (k + 1) ⟨h2, hst⟩ (by omega) rfl ⟨ref0 rfl, ref0 rfl, ref0 rfl, ref0 rfl, trivial⟩
    · obtain rfl : k = l.length := by omega
      focus (
 (refine W.seq (W.seq (W.region (Jx.move rfl rfl (Jx.move rfl rfl (Jx.lenSl rfl rfl ?_))))))
 (refine Jx.lssI rfl rfl rfl (J.nil (N.seq (W.cF rfl ?_))))
 (refine W.exit (N.seq (W.region (Jx.move rfl rfl (Jx.add64 rfl rfl (by omega) rfl ?_)))))
 (refine Jx.assign rfl rfl (J.nil ?_))
 (refine id ?_; rotate_left))
      exact N.round (i + 1) ⟨h1, fun j hj k hk => by
        rcases Nat.lt_or_ge j i with h3 | h3
        · exact hno j h3 k hk
        · obtain rfl : j = i := by omega
          exact hnk k hk⟩ (by omega) rfl ⟨ref0 rfl, ref0 rfl, ref0 rfl, trivial⟩
  · obtain rfl : i = l.length := by omega
    have hf : finR l a = false := by
      unfold finR
      rw [List.any_eq_false]
      intro i hi
      rw [okR_false (hno i (List.mem_range.1 hi))]; simp
    rw [hf]
    focus (
 (refine W.seq (W.seq (W.region (Jx.move rfl rfl (Jx.move rfl rfl (Jx.lenSl rfl rfl ?_))))))
 (refine Jx.lssI rfl rfl rfl (J.nil (N.seq (W.cF rfl ?_))))
 (refine W.exit (N.seq (W.seq (W.region (Jx.assign rfl rfl (J.nil (N.seq (W.ret ?_))))))))
 (refine id ?_; rotate_left))
    exact N.ret (rs := [.tmp 4]) rfl (.tmp rfl .nil) ⟨rfl, rfl⟩
set_option maxHeartbeats 4000000 in
theorem rdone_ok (l : List Rw) (b : Nat) (hb : Last l b) (hl : l.length < 1000) (hv : ∀ i, i < l.length → 0 ≤ (l.getD i rw0).view ∧ (l.getD i rw0).view ≤ 1048576) (hpar : ∀ i, 0 < i → i < l.length → 0 ≤ (l.getD i rw0).par ∧ (l.getD i rw0).par.toNat < i) :
    FnC Try.prog 29 [rwL l] [] (fun r L => r = ssl (lineW l (b + 1) b) ∧ L = []) := by
  have hlt := hb.lt
  have hz := hb.pos
  have cl := rlineZ_ok l hl hpar b hlt
  generalize lineW l (b + 1) b = ln at *
  refine FnC.intro Try.func29 rfl Try.ntmps29 rfl fun Z w0 hG => ?_
  focus (
 (refine W.seq (W.region (Jx.assign rfl rfl (J.nil (N.seq (W.seq (W.region (Jx.assign rfl rfl (J.nil (N.seq (W.seq (W.seq (W.region (Jx.assign rfl rfl ?_))))))))))))))
 (refine J.nil (N.seq (W.block ?_)))
 (refine id ?_; rotate_left))
  refine W.loop (α := Nat × Nat) (fun x => [(4, int (x.1 : Int)), (3, int (x.2 : Int)), (0, rwL l)]) (fun _ => []) (fun x => x.1 ≤ l.length ∧ x.2 < l.length ∧ (b < x.1 → x.2 = b) ∧ (x.1 ≤ b → (Rl l x.2).view < (Rl l b).view ∨ x.2 = b)) (fun x => l.length - x.1) (0, 0) ⟨by simp, by simp only; omega, by simp only; omega, fun _ => by
    rcases Nat.eq_zero_or_pos b with e | e
    · exact .inr e.symm
    · exact .inl (hz e)⟩ rfl ⟨ref0 rfl, ref0 rfl, ref0 rfl, trivial⟩ ?_
  rintro ⟨i, q⟩ ⟨hi, hq, hd1, hd2⟩
  simp only at hi hq hd1 hd2 ⊢
  by_cases h1 : i < l.length
  · have hk := stepL_ok hb h1 ⟨hq, hd1, hd2⟩
    unfold stepL at hk
    simp only [Rl] at hk
    have cf := rfin_ok l i h1 hl hv
    cases hf : finR l i with
    | false =>
      rw [hf] at cf
      simp only [hf, Bool.false_eq_true, if_false] at hk
      focus (
 (refine W.seq (W.seq (W.region (Jx.move rfl rfl (Jx.move rfl rfl (Jx.lenSl rfl rfl ?_))))))
 (refine Jx.lssI rfl rfl rfl (J.nil (N.seq (W.cT rfl ?_))))
 (refine W.skip (N.seq (W.seq (W.block (W.seq ?_)))))
 (refine W.draw follows ?_)
 (refine JD.calm rfl (by decide +kernel) ?_)
 (refine Cx.move rfl rfl ?_)
 (refine Cx.move rfl rfl ?_)
 (refine SegC.q (Qs.call (Lc := []) (cf) (fun s L' h => h) (List.Perm.refl _) (evs_args rfl)) rfl ?_)
 (refine Cx.move rfl rfl ?_)
 (refine SegC.gU rfl rfl rfl rfl ?_)
 (refine SegC.gU rfl rfl rfl rfl ?_)
 (refine SegC.gU rfl rfl rfl rfl ?_)
 (refine SegC.gU rfl rfl rfl rfl ?_)
 (refine SegC.gU rfl rfl rfl rfl ?_)
 (refine SegC.gU rfl rfl rfl rfl ?_)
 (refine SegC.gU rfl rfl rfl rfl ?_)
 (refine SegC.gU rfl rfl rfl rfl ?_)
 (refine SegC.gU rfl rfl rfl rfl ?_)
 (refine SegC.gU rfl rfl rfl rfl ?_)
 (refine SegC.gU rfl rfl rfl rfl ?_)
 (refine Cx.pickF rfl (by first | rfl | assumption | (exact decide_eq_true (by first | assumption | omega | rfl)) | (exact decide_eq_false (by first | assumption | omega | rfl)) | (simp; done) | (simp; omega)) rfl rfl ?_)
 (refine SegC.nil ?_)
 (refine N.seq (W.cF rfl ?_))
 (refine W.skip (N.seq (W.region (Jx.move rfl rfl (Jx.add64 rfl rfl (by omega) rfl ?_)))))
 (refine Jx.assign rfl rfl (J.nil ?_))
 (refine id ?_; rotate_left))
      exact N.round (i + 1, q) ⟨h1, hk⟩ (by simp only; omega) rfl ⟨ref0 rfl, ref0 rfl, ref0 rfl, trivial⟩
    | true =>
      rw [hf] at cf
      simp only [hf, if_true] at hk
      by_cases h3 : (l.getD q rw0).view < (l.getD i rw0).view
      · simp only [if_pos h3] at hk
        focus (
 (refine W.seq (W.seq (W.region (Jx.move rfl rfl (Jx.move rfl rfl (Jx.lenSl rfl rfl ?_))))))
 (refine Jx.lssI rfl rfl rfl (J.nil (N.seq (W.cT rfl ?_))))
 (refine W.skip (N.seq (W.seq (W.block (W.seq ?_)))))
 (refine W.draw follows ?_)
 (refine JD.calm rfl (by decide +kernel) ?_)
 (refine Cx.move rfl rfl ?_)
 (refine Cx.move rfl rfl ?_)
 (refine SegC.q (Qs.call (Lc := []) (cf) (fun s L' h => h) (List.Perm.refl _) (evs_args rfl)) rfl ?_)
 (refine Cx.move rfl rfl ?_)
 (refine SegC.gY rfl rfl rfl ?_)
 (refine Cx.move rfl rfl ?_)
 (refine SegC.gY rfl rfl rfl ?_)
 (refine Cx.move rfl rfl ?_)
 (refine SegC.gY rfl rfl rfl ?_)
 (refine Cx.indexEl rfl rfl (by assumption) rfl rfl ?_)
 (refine SegC.gY rfl rfl rfl ?_)
 (refine Cx.fieldEl rfl rfl rfl ?_)
 (refine SegC.gY rfl rfl rfl ?_)
 (refine Cx.loadPP rfl rfl ?_)
 (refine SegC.gY rfl rfl rfl ?_)
 (refine Cx.move rfl rfl ?_)
 (refine SegC.gY rfl rfl rfl ?_)
 (refine Cx.move rfl rfl ?_)
 (refine SegC.gY rfl rfl rfl ?_)
 (refine Cx.indexEl rfl rfl (by assumption) rfl rfl ?_)
 (refine SegC.gY rfl rfl rfl ?_)
 (refine Cx.fieldEl rfl rfl rfl ?_)
 (refine SegC.gY rfl rfl rfl ?_)
 (refine Cx.loadPP rfl rfl ?_)
 (refine SegC.gY rfl rfl rfl ?_)
 (refine Cx.gtrI rfl rfl rfl ?_)
 (refine Cx.pickT rfl (by first | rfl | assumption | (exact decide_eq_true (by first | assumption | omega | rfl)) | (exact decide_eq_false (by first | assumption | omega | rfl)) | (simp; done) | (simp; omega)) rfl rfl ?_)
 (refine SegC.nil ?_)
 (refine N.seq (W.cT rfl ?_))
 (refine W.region (Jx.move rfl rfl (Jx.assign rfl rfl (J.nil (N.seq (W.region (Jx.move rfl rfl (Jx.add64 rfl rfl (by omega) rfl ?_))))))))
 (refine Jx.assign rfl rfl (J.nil ?_))
 (refine id ?_; rotate_left))
        exact N.round (i + 1, i) ⟨h1, hk⟩ (by simp only; omega) rfl ⟨ref0 rfl, ref0 rfl, ref0 rfl, trivial⟩
      · simp only [if_neg h3] at hk
        focus (
 (refine W.seq (W.seq (W.region (Jx.move rfl rfl (Jx.move rfl rfl (Jx.lenSl rfl rfl ?_))))))
 (refine Jx.lssI rfl rfl rfl (J.nil (N.seq (W.cT rfl ?_))))
 (refine W.skip (N.seq (W.seq (W.block (W.seq ?_)))))
 (refine W.draw follows ?_)
 (refine JD.calm rfl (by decide +kernel) ?_)
 (refine Cx.move rfl rfl ?_)
 (refine Cx.move rfl rfl ?_)
 (refine SegC.q (Qs.call (Lc := []) (cf) (fun s L' h => h) (List.Perm.refl _) (evs_args rfl)) rfl ?_)
 (refine Cx.move rfl rfl ?_)
 (refine SegC.gY rfl rfl rfl ?_)
 (refine Cx.move rfl rfl ?_)
 (refine SegC.gY rfl rfl rfl ?_)
 (refine Cx.move rfl rfl ?_)
 (refine SegC.gY rfl rfl rfl ?_)
 (refine Cx.indexEl rfl rfl (by assumption) rfl rfl ?_)
 (refine SegC.gY rfl rfl rfl ?_)
 (refine Cx.fieldEl rfl rfl rfl ?_)
 (refine SegC.gY rfl rfl rfl ?_)
 (refine Cx.loadPP rfl rfl ?_)
 (refine SegC.gY rfl rfl rfl ?_)
 (refine Cx.move rfl rfl ?_)
 (refine SegC.gY rfl rfl rfl ?_)
 (refine Cx.move rfl rfl ?_)
 (refine SegC.gY rfl rfl rfl ?_)
 (refine Cx.indexEl rfl rfl (by assumption) rfl rfl ?_)
 (refine SegC.gY rfl rfl rfl ?_)
 (refine Cx.fieldEl rfl rfl rfl ?_)
 (refine SegC.gY rfl rfl rfl ?_)
 (refine Cx.loadPP rfl rfl ?_)
 (refine SegC.gY rfl rfl rfl ?_)
 (refine Cx.gtrI rfl rfl rfl ?_)
 (refine Cx.pickT rfl (by first | rfl | assumption | (exact decide_eq_true (by first | assumption | omega | rfl)) | (exact decide_eq_false (by first | assumption | omega | rfl)) | (simp; done) | (simp; omega)) rfl rfl ?_)
 (refine SegC.nil ?_)
 (refine N.seq (W.cF rfl ?_))
 (refine W.skip (N.seq (W.region (Jx.move rfl rfl (Jx.add64 rfl rfl (by omega) rfl ?_)))))
 (refine Jx.assign rfl rfl (J.nil ?_))
 (refine id ?_; rotate_left))
        exact N.round (i + 1, q) ⟨h1, hk⟩ (by simp only; omega) rfl ⟨ref0 rfl, ref0 rfl, ref0 rfl, trivial⟩
  · have := hd1 (by omega)
    subst this
    focus (
 (refine W.seq (W.seq (W.region (Jx.move rfl rfl (Jx.move rfl rfl (Jx.lenSl rfl rfl ?_))))))
 (refine Jx.lssI rfl rfl rfl (J.nil (N.seq (W.cF rfl ?_))))
 (refine W.exit (N.seq (W.seq (W.region (Jx.move rfl rfl (Jx.move rfl rfl ?_))))))
 (refine J.call (cl) rfl (evs_args rfl) rfl ?_; rintro _ _ ⟨rfl, rfl⟩; simp only [la1, la2, la3])
 (refine Jx.assign rfl rfl (J.nil (N.seq (W.ret ?_))))
 (refine id ?_; rotate_left))
    exact N.ret (rs := [.tmp 2]) rfl (.tmp rfl .nil) ⟨rfl, rfl⟩
end Go.Proofs.Ytfalljmdhclgaaa
namespace Go.Proofs.Ytfalljmdhclgaaa
open Go Go.Sse
set_option linter.unusedVariables false
set_option linter.unusedSimpArgs false
set_option maxRecDepth 10000
theorem sameRow_ok (u : Value) (l m : List (List UInt8)) (hb : l.length ≤ 1000) : FnC Try.prog 15 [.val u, ssl m] [.row u tStr 1 l.length (elOf encS [] l)] (fun v L => v = bool (decide (l = m)) ∧ L = [.row u tStr 1 l.length (elOf encS [] l)]) := by
  by_cases hl : l.length = m.length
  · by_cases h0 : l.length = 0
    · have e1 : l = [] := List.eq_nil_of_length_eq_zero h0
      have e2 : m = [] := List.eq_nil_of_length_eq_zero (by omega)
      subst e1 e2
      refine FnC.intro Try.func15 rfl Try.ntmps15 rfl fun Z w0 hG => ?_
      focus (
 (refine W.seq (W.region (Jx.assign rfl rfl (J.nil (N.seq (W.seq (W.region (Jx.move rfl rfl (Jx.lenRow rfl 0 rfl rfl ?_)))))))))
 (refine Jx.move rfl rfl (Jx.lenSl rfl rfl ?_))
 (refine Jx.eqlI rfl rfl rfl (Jx.assign rfl rfl (J.nil (N.seq (W.seq (W.seq (W.region (Jx.assign rfl rfl (J.nil (N.seq (W.block ?_)))))))))))
 (refine id ?_; rotate_left))
      refine W.loop (α := Unit) (fun _ => [(6, int 0), (5, bool true), (0, .val u), (1, ssl [])]) (fun _ => [.row u tStr 1 ([] : List (List UInt8)).length (elOf encS [] [])]) (fun _ => True) (fun _ => 0) () trivial rfl ⟨ref0 rfl, ref0 rfl, ref0 rfl, ref0 rfl, trivial⟩ ?_
      rintro _ _
      focus (
 (refine W.seq (W.seq (W.region (Jx.move rfl rfl (Jx.move rfl rfl (J.gY rfl rfl rfl ?_))))))
 (refine Jx.move rfl rfl (J.gY rfl rfl rfl ?_))
 (refine Jx.move rfl rfl (J.gY rfl rfl rfl ?_))
 (refine Jx.lenRow rfl 0 rfl rfl ?_)
 (refine J.gY rfl rfl rfl ?_)
 (refine Jx.lssI rfl rfl rfl (Jx.pT rfl rfl rfl ?_))
 (refine J.nil (N.seq (W.cF rfl ?_)))
 (refine W.exit (N.seq (W.seq (W.region (Jx.move rfl rfl (Jx.assign rfl rfl (J.nil (N.seq (W.ret ?_)))))))))
 (refine id ?_; rotate_left))
      exact N.ret (rs := [.tmp 4]) rfl (.tmp rfl .nil) ⟨rfl, rfl⟩
    · refine FnC.intro Try.func15 rfl Try.ntmps15 rfl fun Z w0 hG => ?_
      refine W.rowView 0 rfl (by omega) ?_
      rintro r cap rfl hc1 hc2
      focus (
 (refine W.seq (W.region (Jx.assign rfl rfl (J.nil (N.seq (W.seq (W.region (Jx.move rfl rfl (Jx.lenRow rfl 0 rfl rfl ?_)))))))))
 (refine Jx.move rfl rfl (Jx.lenSl rfl rfl ?_))
 (refine Jx.eqlI rfl rfl rfl (Jx.assign rfl rfl (J.nil (N.seq (W.seq (W.seq (W.region (Jx.assign rfl rfl (J.nil (N.seq (W.block ?_)))))))))))
 (refine id ?_; rotate_left))
      refine W.loop (α := Nat × Bool) (fun x => [(6, int (x.1 : Int)), (5, bool x.2), (0, .val (.slice (some ⟨r, 0, none⟩) l.length cap)), (1, ssl m)]) (fun _ => [.row (.slice (some ⟨r, 0, none⟩) l.length cap) tStr 1 l.length (elOf encS [] l)]) (fun x => x.1 ≤ l.length ∧ (x.2 = true → l.take x.1 = m.take x.1) ∧ (x.2 = false → l ≠ m)) (fun x => l.length - x.1) (0, true) ⟨by omega, by simp, by simp⟩ rfl ⟨ref0 rfl, ⟨_, rfl, Sub.of_eq (by simp [hl])⟩, ref0 rfl, ref0 rfl, trivial⟩ ?_
      rintro ⟨i, q⟩ ⟨hi, h1, h2⟩
      simp only at hi h1 h2
      cases q with
      | false =>
        focus (
 (refine W.seq (W.seq (W.region (Jx.move rfl rfl (Jx.move rfl rfl (J.gN rfl rfl rfl rfl ?_))))))
 (refine J.gN rfl rfl rfl rfl ?_)
 (refine J.gN rfl rfl rfl rfl ?_)
 (refine J.gN rfl rfl rfl rfl ?_)
 (refine Jx.pF rfl rfl rfl ?_)
 (refine J.nil (N.seq (W.cF rfl ?_)))
 (refine W.exit (N.seq (W.seq (W.region (Jx.move rfl rfl (Jx.assign rfl rfl (J.nil (N.seq (W.ret ?_)))))))))
 (refine id ?_; rotate_left))
        exact N.ret (rs := [.tmp 4]) rfl (.tmp rfl .nil) ⟨by rw [decide_eq_false (h2 rfl)]; rfl, rfl⟩
      | true =>
        by_cases h3 : i < l.length
        · have h4 : i < m.length := by omega
          have e1 : l.take (i + 1) = l.take i ++ [l.getD i []] := by rw [List.take_add_one, List.getElem?_eq_getElem h3, List.getD_eq_getElem?_getD, List.getElem?_eq_getElem h3]; rfl
          have e2 : m.take (i + 1) = m.take i ++ [m.getD i []] := by rw [List.take_add_one, List.getElem?_eq_getElem h4, List.getD_eq_getElem?_getD, List.getElem?_eq_getElem h4]; rfl
          have hel : (elOf encS [] l i).getD 0 .any = str (l.getD i []) := rfl
          by_cases h5 : l.getD i [] = m.getD i []
          · focus (
 (refine W.seq (W.seq (W.region (Jx.move rfl rfl (Jx.move rfl rfl (J.gY rfl rfl rfl ?_))))))
 (refine Jx.move rfl rfl (J.gY rfl rfl rfl ?_))
 (refine Jx.move rfl rfl (J.gY rfl rfl rfl ?_))
 (refine Jx.lenRow rfl 0 rfl rfl ?_)
 (refine J.gY rfl rfl rfl ?_)
 (refine Jx.lssI rfl rfl rfl (Jx.pT rfl rfl rfl ?_))
 (refine J.nil (N.seq (W.cT rfl ?_)))
 (refine W.skip (N.seq (W.seq (W.block ?_))))
 (refine W.draw follows ?_)
 (refine JD.calm rfl (by decide +kernel) ?_)
 (refine Cx.move rfl rfl ?_)
 (refine Cx.move rfl rfl ?_)
 (refine Cx.indexRow i rfl rfl rfl h3 rfl ?_)
 (refine Cx.loadRow rfl 0 rfl i 0 rfl h3 (by decide) hel rfl ?_)
 (refine Cx.move rfl rfl ?_)
 (refine Cx.move rfl rfl ?_)
 (refine Cx.indexEl rfl rfl (by assumption) rfl rfl ?_)
 (refine Cx.loadPP rfl rfl ?_)
 (refine Cx.eqlS rfl rfl rfl ?_)
 (refine Cx.assign rfl rfl ?_)
 (refine SegC.nil ?_)
 (refine N.seq (W.region (Jx.move rfl rfl (Jx.add64 rfl rfl (by omega) rfl ?_))))
 (refine Jx.assign rfl rfl (J.nil ?_))
 (refine id ?_; rotate_left))
            exact N.round (i + 1, true) ⟨h3, fun _ => by rw [e1, e2, h1 rfl, h5], by simp⟩ (by simp only; omega) rfl ⟨ref0 rfl, ⟨_, rfl, Sub.of_eq (by simp; simpa [List.getD_eq_getElem?_getD] using h5)⟩, ref0 rfl, ref0 rfl, trivial⟩
          · focus (
 (refine W.seq (W.seq (W.region (Jx.move rfl rfl (Jx.move rfl rfl (J.gY rfl rfl rfl ?_))))))
 (refine Jx.move rfl rfl (J.gY rfl rfl rfl ?_))
 (refine Jx.move rfl rfl (J.gY rfl rfl rfl ?_))
 (refine Jx.lenRow rfl 0 rfl rfl ?_)
 (refine J.gY rfl rfl rfl ?_)
 (refine Jx.lssI rfl rfl rfl (Jx.pT rfl rfl rfl ?_))
 (refine J.nil (N.seq (W.cT rfl ?_)))
 (refine W.skip (N.seq (W.seq (W.block ?_))))
 (refine W.draw follows ?_)
 (refine JD.calm rfl (by decide +kernel) ?_)
 (refine Cx.move rfl rfl ?_)
 (refine Cx.move rfl rfl ?_)
 (refine Cx.indexRow i rfl rfl rfl h3 rfl ?_)
 (refine Cx.loadRow rfl 0 rfl i 0 rfl h3 (by decide) hel rfl ?_)
 (refine Cx.move rfl rfl ?_)
 (refine Cx.move rfl rfl ?_)
 (refine Cx.indexEl rfl rfl (by assumption) rfl rfl ?_)
 (refine Cx.loadPP rfl rfl ?_)
 (refine Cx.eqlS rfl rfl rfl ?_)
 (refine Cx.assign rfl rfl ?_)
 (refine SegC.nil ?_)
 (refine N.seq (W.region (Jx.move rfl rfl (Jx.add64 rfl rfl (by omega) rfl ?_))))
 (refine Jx.assign rfl rfl (J.nil ?_))
 (refine id ?_; rotate_left))
            exact N.round (i + 1, false) ⟨h3, by simp, fun _ e => h5 (by rw [e])⟩ (by simp only; omega) rfl ⟨ref0 rfl, ⟨_, rfl, Sub.of_eq (by simp; simpa [List.getD_eq_getElem?_getD] using h5)⟩, ref0 rfl, ref0 rfl, trivial⟩
        · have e := h1 rfl
          rw [List.take_of_length_le (by omega), List.take_of_length_le (by omega)] at e
          focus (
 (refine W.seq (W.seq (W.region (Jx.move rfl rfl (Jx.move rfl rfl (J.gY rfl rfl rfl ?_))))))
 (refine Jx.move rfl rfl (J.gY rfl rfl rfl ?_))
 (refine Jx.move rfl rfl (J.gY rfl rfl rfl ?_))
 (refine Jx.lenRow rfl 0 rfl rfl ?_)
 (refine J.gY rfl rfl rfl ?_)
 (refine Jx.lssI rfl rfl rfl (Jx.pT rfl rfl rfl ?_))
 (refine J.nil (N.seq (W.cF rfl ?_)))
 (refine W.exit (N.seq (W.seq (W.region (Jx.move rfl rfl (Jx.assign rfl rfl (J.nil (N.seq (W.ret ?_)))))))))
 (refine id ?_; rotate_left))
          exact N.ret (rs := [.tmp 4]) rfl (.tmp rfl .nil) ⟨by rw [decide_eq_true e]; rfl, rfl⟩
  · have hne : l ≠ m := fun e => hl (by rw [e])
    refine FnC.intro Try.func15 rfl Try.ntmps15 rfl fun Z w0 hG => ?_
    focus (
 (refine W.seq (W.region (Jx.assign rfl rfl (J.nil (N.seq (W.seq (W.region (Jx.move rfl rfl (Jx.lenRow rfl 0 rfl rfl ?_)))))))))
 (refine Jx.move rfl rfl (Jx.lenSl rfl rfl ?_))
 (refine Jx.eqlI rfl rfl rfl (Jx.assign rfl rfl (J.nil (N.seq (W.seq (W.seq (W.region (Jx.assign rfl rfl (J.nil (N.seq (W.block ?_)))))))))))
 (refine id ?_; rotate_left))
    refine W.loop (α := Unit) (fun x => [(5, bool false)]) (fun _ => [.row u tStr 1 l.length (elOf encS [] l)]) (fun x => True) (fun x => 0) () trivial rfl ⟨⟨_, rfl, Sub.of_eq (by simp; omega)⟩, trivial⟩ ?_
    rintro _ _
    focus (
 (refine W.seq (W.seq (W.region (Jx.move rfl rfl (Jx.move rfl rfl (J.gN rfl rfl rfl rfl ?_))))))
 (refine J.gN rfl rfl rfl rfl ?_)
 (refine J.gN rfl rfl rfl rfl ?_)
 (refine J.gN rfl rfl rfl rfl ?_)
 (refine Jx.pF rfl rfl rfl ?_)
 (refine J.nil (N.seq (W.cF rfl ?_)))
 (refine W.exit (N.seq (W.seq (W.region (Jx.move rfl rfl (Jx.assign rfl rfl (J.nil (N.seq (W.ret ?_)))))))))
 (refine id ?_; rotate_left))
    exact N.ret (rs := [.tmp 4]) rfl (.tmp rfl .nil) ⟨by rw [decide_eq_false hne]; rfl, rfl⟩
end Go.Proofs.Ytfalljmdhclgaaa
namespace Go.Proofs.Ytfalljmdhclgaaa
open Go Go.Sse
set_option linter.unusedVariables false
set_option linter.unusedSimpArgs false
set_option maxRecDepth 10000
theorem rinv_par {T : Tr} {l : List Rw} {now : Int} (h : RInv T l now) : ∀ i, 0 < i → i < l.length → 0 ≤ (l.getD i rw0).par ∧ (l.getD i rw0).par.toNat < i := fun i h0 hi => by
  have e := h.par i h0 hi
  obtain ⟨p1, p2, _⟩ := h.inv.par i h0 (by rw [← h.len]; exact hi)
  simp only [Rl] at e
  rw [e]; exact ⟨p1, p2⟩
theorem rinv_par' {T : Tr} {l : List Rw} {now : Int} (h : RInv T l now) : ∀ i, i < l.length → 0 ≤ (l.getD i rw0).par ∧ (l.getD i rw0).par < l.length := fun i hi => by
  rcases Nat.eq_zero_or_pos i with e | e
  · subst e; have := h.root; simp only [Rl] at this; rw [this]; omega
  · obtain ⟨a, b⟩ := rinv_par h i e hi; omega
theorem rinv_view {T : Tr} {l : List Rw} {now : Int} (h : RInv T l now) : ∀ i, i < l.length → 0 ≤ (l.getD i rw0).view ∧ (l.getD i rw0).view ≤ 1048576 := fun i hi => by
  have e := h.view i hi
  simp only [Rl] at e
  rw [e]; exact h.inv.view i (by rw [← h.len]; exact hi)
set_option maxHeartbeats 8000000 in
theorem tells_ok (b : Nat) (v : Value) (m : Nat) (T : Tr) (l : List Rw) (now : Int) (h : RInv T l now) (hl : l.length < 1000) (s : List UInt8) :
    FnC Try.prog 23 [ptr b, rwL l, str s] (treeO b v m T) (fun r L => r = bool true ∧ L = treeO b v m T) := by
  have hlT : T.all.length ≤ 1000 := by rw [← h.len]; omega
  have hd := doneI_lt h.inv T.all.length (Nat.le_refl _)
  have hdl : doneI T T.all.length < l.length := by rw [h.len]; exact hd
  have cH := High_ok b v m T h.inv.high.1
  have cRH := rhigh_ok l T.high (best_high h) hl
  have hhl : T.high < l.length := by rw [h.len]; exact h.inv.high.1
  have e1 := h.sum T.high hhl
  have e2 := h.view T.high hhl
  simp only [Rl, Tr.at] at e1 e2
  rw [e1, e2] at cRH
  have cD := Done_ok b v m T h.inv hlT
  have cRD := rdone_ok l _ (last_done h) hl (rinv_view h) (rinv_par h)
  rw [lineW_eq h _ _ hdl] at cRD
  have hln := lineF_len T.all (doneI T T.all.length + 1) (doneI T T.all.length)
  rw [show lineF T.all (doneI T T.all.length + 1) (doneI T T.all.length) = lineT T (doneI T T.all.length) from rfl] at cRD hln
  generalize lineT T (doneI T T.all.length) = dn at *
  have cS := fun u => sameRow_ok u dn dn (by omega)
  rw [decide_eq_true rfl] at cS
  have cZ := fun u => spoil_ok u dn (by omega)
  have cA := rat_ok l s (by omega)
  have hat := atR_eq h s
  cases hf : findT T.all s with
  | none =>
    rw [hf] at hat
    simp only at hat
    rw [hat] at cA
    have c1 := View_no b v m T s hf
    have c2 := Parent_no b v m T s hf
    have c3 := Line_no b v m T s hf
    have c4 := Certified_no b v m T s hf
    refine FnC.intro Try.func23 rfl Try.ntmps23 rfl fun Z w0 hG => ?_
    focus (
 (refine W.seq (W.region (Jx.assign rfl rfl (J.nil (N.seq (W.seq (W.region (Jx.move rfl rfl ?_))))))))
 (refine J.call (cH) rfl (evs_args rfl) rfl ?_; rintro _ _ ⟨rfl, rfl⟩; simp only [la1, la2, la3])
 (refine Jx.move rfl rfl (Jx.extract rfl rfl rfl ?_))
 (refine Jx.extract rfl rfl rfl ?_)
 (refine Jx.assign rfl rfl (Jx.assign rfl rfl (J.nil (N.seq (W.seq (W.region (Jx.move rfl rfl ?_)))))))
 (refine J.call (cRH) rfl (evs_args rfl) rfl ?_; rintro _ _ ⟨rfl, rfl⟩; simp only [la1, la2, la3])
 (refine Jx.move rfl rfl (Jx.extract rfl rfl rfl ?_))
 (refine Jx.extract rfl rfl rfl ?_)
 (refine Jx.assign rfl rfl (Jx.assign rfl rfl (J.nil (N.seq (W.seq (W.region (Jx.move rfl rfl ?_)))))))
 (refine J.call (cD) rfl (evs_args rfl) rfl ?_; rintro _ _ ⟨u, rfl, rfl⟩; simp only [la1, la2, la3])
 (refine Jx.assign rfl rfl (J.nil (N.seq (W.seq (W.seq (W.region (Jx.move rfl rfl (Jx.move rfl rfl (Jx.neqS rfl rfl rfl (Jx.move rfl rfl (J.gY rfl rfl rfl ?_)))))))))))
 (refine Jx.move rfl rfl (J.gY rfl rfl rfl ?_))
 (refine Jx.move rfl rfl (J.gY rfl rfl rfl ?_))
 (refine Jx.neqI rfl rfl rfl (Jx.pF rfl rfl rfl ?_))
 (refine Jx.move rfl rfl (J.gY rfl rfl rfl ?_))
 (refine Jx.move rfl rfl (J.gY rfl rfl rfl ?_))
 (refine Jx.move rfl rfl (J.gY rfl rfl rfl ?_))
 (refine J.call (cRD) rfl (evs_args rfl) rfl ?_; rintro _ _ ⟨rfl, rfl⟩; simp only [la1, la2, la3])
 (refine J.gY rfl rfl rfl ?_)
 (refine J.call ((cS u)) rfl (evs_args rfl) rfl ?_; rintro _ _ ⟨rfl, rfl⟩; simp only [la1, la2, la3])
 (refine J.gY rfl rfl rfl ?_)
 (refine Jx.not rfl rfl (Jx.pF rfl rfl rfl ?_))
 (refine J.nil (N.seq (W.cF rfl ?_)))
 (refine W.skip (N.seq (W.seq (W.region (Jx.move rfl rfl ?_)))))
 (refine J.call (cZ u) rfl (evs_args rfl) rfl ?_; rintro _ _ ⟨u', l', rfl⟩; simp only [List.cons_append, List.nil_append]; refine J.drop (List.sublist_cons_self _ _) ?_)
 (refine J.nil (N.seq (W.seq (W.region (Jx.move rfl rfl (Jx.move rfl rfl ?_))))))
 (refine J.call (c1) rfl (evs_args rfl) rfl ?_; rintro _ _ ⟨rfl, rfl⟩; simp only [la1, la2, la3])
 (refine Jx.move rfl rfl (Jx.extract rfl rfl rfl ?_))
 (refine Jx.extract rfl rfl rfl ?_)
 (refine Jx.assign rfl rfl (Jx.assign rfl rfl (J.nil (N.seq (W.seq (W.region (Jx.move rfl rfl (Jx.move rfl rfl ?_))))))))
 (refine J.call (c2) rfl (evs_args rfl) rfl ?_; rintro _ _ ⟨rfl, rfl⟩; simp only [la1, la2, la3])
 (refine Jx.move rfl rfl (Jx.extract rfl rfl rfl ?_))
 (refine Jx.extract rfl rfl rfl ?_)
 (refine Jx.assign rfl rfl (Jx.assign rfl rfl (J.nil (N.seq (W.seq (W.region (Jx.move rfl rfl (Jx.move rfl rfl ?_))))))))
 (refine J.call (c3) rfl (evs_args rfl) rfl ?_; rintro _ _ ⟨rfl, rfl⟩; simp only [la1, la2, la3])
 (refine Jx.move rfl rfl (Jx.extract rfl rfl rfl ?_))
 (refine Jx.extract rfl rfl rfl ?_)
 (refine Jx.assign rfl rfl (Jx.assign rfl rfl (J.nil (N.seq (W.seq (W.region (Jx.move rfl rfl (Jx.move rfl rfl ?_))))))))
 (refine J.call (cA) rfl (evs_args rfl) rfl ?_; rintro _ _ ⟨rfl, rfl⟩; simp only [la1, la2, la3])
 (refine Jx.assign rfl rfl (J.nil (N.seq (W.seq (W.seq (W.region (Jx.move rfl rfl (Jx.lssI rfl rfl rfl (J.nil (N.seq (W.cT rfl ?_)))))))))))
 (refine W.seq (W.region (Jx.move rfl rfl (Jx.eqlI rfl rfl rfl (Jx.move rfl rfl (J.gY rfl rfl rfl ?_))))))
 (refine Jx.move rfl rfl (J.gY rfl rfl rfl ?_))
 (refine Jx.eqlI rfl rfl rfl (Jx.pT rfl rfl rfl ?_))
 (refine Jx.move rfl rfl (J.gY rfl rfl rfl ?_))
 (refine Jx.move rfl rfl (J.gY rfl rfl rfl ?_))
 (refine Jx.eqlS rfl rfl rfl (Jx.pT rfl rfl rfl ?_))
 (refine Jx.move rfl rfl (J.gY rfl rfl rfl ?_))
 (refine Jx.move rfl rfl (J.gY rfl rfl rfl ?_))
 (refine Jx.eqlI rfl rfl rfl (Jx.pT rfl rfl rfl ?_))
 (refine Jx.move rfl rfl (J.gY rfl rfl rfl ?_))
 (refine Jx.move rfl rfl (J.gY rfl rfl rfl ?_))
 (refine Jx.lenSl rfl rfl ?_)
 (refine J.gY rfl rfl rfl ?_)
 (refine Jx.eqlI rfl rfl rfl (Jx.pT rfl rfl rfl ?_))
 (refine Jx.move rfl rfl (J.gY rfl rfl rfl ?_))
 (refine Jx.move rfl rfl (J.gY rfl rfl rfl ?_))
 (refine Jx.eqlI rfl rfl rfl (Jx.pT rfl rfl rfl ?_))
 (refine Jx.move rfl rfl (J.gY rfl rfl rfl ?_))
 (refine Jx.move rfl rfl (J.gY rfl rfl rfl ?_))
 (refine Jx.move rfl rfl (J.gY rfl rfl rfl ?_))
 (refine J.call (c4) rfl (evs_args rfl) rfl ?_; rintro _ _ ⟨rfl, rfl⟩; simp only [la1, la2, la3])
 (refine J.gY rfl rfl rfl ?_)
 (refine Jx.not rfl rfl (Jx.pT rfl rfl rfl ?_))
 (refine Jx.assign rfl rfl (J.nil (N.seq (W.ret (N.noGotoRet ?_)))))
 (refine id ?_; rotate_left))
    exact N.ret (rs := [.tmp 6]) rfl (.tmp rfl .nil) ⟨rfl, rfl⟩
  | some i =>
    rw [hf] at hat
    simp only at hat
    rw [hat] at cA
    have hi := findT_lt hf
    have hil : i < l.length := by rw [h.len]; exact hi
    have c1 := View_yes b v m T s i hf
    have c3 := Line_yes b v m T h.inv hlT s i hf
    have c4 := Certified_yes b v m T s i hf
    have c5 := rlineZ_ok l hl (rinv_par h) i hil
    rw [lineW_eq h _ _ hil] at c5
    have hln2 := lineF_len T.all (i + 1) i
    rw [show lineF T.all (i + 1) i = lineT T i from rfl] at c5 hln2
    generalize lineT T i = ln at *
    have c6 := same_ok ln ln (by omega)
    rw [decide_eq_true rfl] at c6
    have e3 := h.view i hil
    have e4 := h.cert i hil
    have e5 := (h.since i hil).1
    simp only [Rl, Tr.at] at e3 e4 e5
    rw [← e3] at c1
    have e6 : (T.all.getD i tw0).cert = decide (0 < (l.getD i rw0).since) := by
      rw [Bool.eq_iff_iff, e4, decide_eq_true_eq]
    rw [e6] at c4
    have hni : ¬ (i : Int) < 0 := by omega
    by_cases h0 : i = 0
    · subst h0
      have c2 := Parent_root b v m T s hf
      refine FnC.intro Try.func23 rfl Try.ntmps23 rfl fun Z w0 hG => ?_
      focus (
 (refine W.seq (W.region (Jx.assign rfl rfl (J.nil (N.seq (W.seq (W.region (Jx.move rfl rfl ?_))))))))
 (refine J.call (cH) rfl (evs_args rfl) rfl ?_; rintro _ _ ⟨rfl, rfl⟩; simp only [la1, la2, la3])
 (refine Jx.move rfl rfl (Jx.extract rfl rfl rfl ?_))
 (refine Jx.extract rfl rfl rfl ?_)
 (refine Jx.assign rfl rfl (Jx.assign rfl rfl (J.nil (N.seq (W.seq (W.region (Jx.move rfl rfl ?_)))))))
 (refine J.call (cRH) rfl (evs_args rfl) rfl ?_; rintro _ _ ⟨rfl, rfl⟩; simp only [la1, la2, la3])
 (refine Jx.move rfl rfl (Jx.extract rfl rfl rfl ?_))
 (refine Jx.extract rfl rfl rfl ?_)
 (refine Jx.assign rfl rfl (Jx.assign rfl rfl (J.nil (N.seq (W.seq (W.region (Jx.move rfl rfl ?_)))))))
 (refine J.call (cD) rfl (evs_args rfl) rfl ?_; rintro _ _ ⟨u, rfl, rfl⟩; simp only [la1, la2, la3])
 (refine Jx.assign rfl rfl (J.nil (N.seq (W.seq (W.seq (W.region (Jx.move rfl rfl (Jx.move rfl rfl (Jx.neqS rfl rfl rfl (Jx.move rfl rfl (J.gY rfl rfl rfl ?_)))))))))))
 (refine Jx.move rfl rfl (J.gY rfl rfl rfl ?_))
 (refine Jx.move rfl rfl (J.gY rfl rfl rfl ?_))
 (refine Jx.neqI rfl rfl rfl (Jx.pF rfl rfl rfl ?_))
 (refine Jx.move rfl rfl (J.gY rfl rfl rfl ?_))
 (refine Jx.move rfl rfl (J.gY rfl rfl rfl ?_))
 (refine Jx.move rfl rfl (J.gY rfl rfl rfl ?_))
 (refine J.call (cRD) rfl (evs_args rfl) rfl ?_; rintro _ _ ⟨rfl, rfl⟩; simp only [la1, la2, la3])
 (refine J.gY rfl rfl rfl ?_)
 (refine J.call ((cS u)) rfl (evs_args rfl) rfl ?_; rintro _ _ ⟨rfl, rfl⟩; simp only [la1, la2, la3])
 (refine J.gY rfl rfl rfl ?_)
 (refine Jx.not rfl rfl (Jx.pF rfl rfl rfl ?_))
 (refine J.nil (N.seq (W.cF rfl ?_)))
 (refine W.skip (N.seq (W.seq (W.region (Jx.move rfl rfl ?_)))))
 (refine J.call (cZ u) rfl (evs_args rfl) rfl ?_; rintro _ _ ⟨u', l', rfl⟩; simp only [List.cons_append, List.nil_append]; refine J.drop (List.sublist_cons_self _ _) ?_)
 (refine J.nil (N.seq (W.seq (W.region (Jx.move rfl rfl (Jx.move rfl rfl ?_))))))
 (refine J.call (c1) rfl (evs_args rfl) rfl ?_; rintro _ _ ⟨rfl, rfl⟩; simp only [la1, la2, la3])
 (refine Jx.move rfl rfl (Jx.extract rfl rfl rfl ?_))
 (refine Jx.extract rfl rfl rfl ?_)
 (refine Jx.assign rfl rfl (Jx.assign rfl rfl (J.nil (N.seq (W.seq (W.region (Jx.move rfl rfl (Jx.move rfl rfl ?_))))))))
 (refine J.call (c2) rfl (evs_args rfl) rfl ?_; rintro _ _ ⟨rfl, rfl⟩; simp only [la1, la2, la3])
 (refine Jx.move rfl rfl (Jx.extract rfl rfl rfl ?_))
 (refine Jx.extract rfl rfl rfl ?_)
 (refine Jx.assign rfl rfl (Jx.assign rfl rfl (J.nil (N.seq (W.seq (W.region (Jx.move rfl rfl (Jx.move rfl rfl ?_))))))))
 (refine J.call (c3) rfl (evs_args rfl) rfl ?_; rintro _ _ ⟨rfl, rfl⟩; simp only [la1, la2, la3])
 (refine Jx.move rfl rfl (Jx.extract rfl rfl rfl ?_))
 (refine Jx.extract rfl rfl rfl ?_)
 (refine Jx.assign rfl rfl (Jx.assign rfl rfl (J.nil (N.seq (W.seq (W.region (Jx.move rfl rfl (Jx.move rfl rfl ?_))))))))
 (refine J.call (cA) rfl (evs_args rfl) rfl ?_; rintro _ _ ⟨rfl, rfl⟩; simp only [la1, la2, la3])
 (refine Jx.assign rfl rfl (J.nil (N.seq (W.seq (W.seq (W.region (Jx.move rfl rfl (Jx.lssI rfl rfl rfl (J.nil (N.seq (W.cF rfl ?_)))))))))))
 (refine W.skip (N.seq (W.seq (W.seq ?_))))
 (refine W.draw follows ?_)
 (refine JD.calm rfl (by decide +kernel) ?_)
 (refine Cx.move rfl rfl ?_)
 (refine Cx.move rfl rfl ?_)
 (refine Cx.move rfl rfl ?_)
 (refine Cx.indexEl rfl rfl (by assumption) rfl rfl ?_)
 (refine Cx.fieldEl rfl rfl rfl ?_)
 (refine Cx.loadPP rfl rfl ?_)
 (refine Cx.neqI rfl rfl rfl ?_)
 (refine Cx.move rfl rfl ?_)
 (refine SegC.gY rfl rfl rfl ?_)
 (refine Cx.move rfl rfl ?_)
 (refine SegC.gY rfl rfl rfl ?_)
 (refine Cx.neqI rfl rfl rfl ?_)
 (refine Cx.pickF rfl (by first | rfl | assumption | (exact decide_eq_true (by first | assumption | omega | rfl)) | (exact decide_eq_false (by first | assumption | omega | rfl)) | (simp; done) | (simp; omega)) rfl rfl ?_)
 (refine Cx.move rfl rfl ?_)
 (refine SegC.gY rfl rfl rfl ?_)
 (refine Cx.move rfl rfl ?_)
 (refine SegC.gY rfl rfl rfl ?_)
 (refine Cx.move rfl rfl ?_)
 (refine SegC.gY rfl rfl rfl ?_)
 (refine Cx.move rfl rfl ?_)
 (refine SegC.gY rfl rfl rfl ?_)
 (refine SegC.q (Qs.call (Lc := []) c5 (fun s L' h => h) (List.Perm.refl _) (evs_args rfl)) rfl ?_)
 (refine SegC.gY rfl rfl rfl ?_)
 (refine SegC.q (Qs.call (Lc := []) c6 (fun s L' h => h) (List.Perm.refl _) (evs_args rfl)) rfl ?_)
 (refine SegC.gY rfl rfl rfl ?_)
 (refine Cx.not rfl rfl ?_)
 (refine Cx.pickF rfl (by first | rfl | assumption | (exact decide_eq_true (by first | assumption | omega | rfl)) | (exact decide_eq_false (by first | assumption | omega | rfl)) | (simp; done) | (simp; omega)) rfl rfl ?_)
 (refine Cx.move rfl rfl ?_)
 (refine SegC.gY rfl rfl rfl ?_)
 (refine Cx.move rfl rfl ?_)
 (refine SegC.gY rfl rfl rfl ?_)
 (refine Cx.neqI rfl rfl rfl ?_)
 (refine Cx.pickF rfl (by first | rfl | assumption | (exact decide_eq_true (by first | assumption | omega | rfl)) | (exact decide_eq_false (by first | assumption | omega | rfl)) | (simp; done) | (simp; omega)) rfl rfl ?_)
 (refine Cx.move rfl rfl ?_)
 (refine SegC.gY rfl rfl rfl ?_)
 (refine Cx.move rfl rfl ?_)
 (refine SegC.gY rfl rfl rfl ?_)
 (refine Cx.move rfl rfl ?_)
 (refine SegC.gY rfl rfl rfl ?_)
 (refine SegC.q (Qs.call (Lr := []) c4 (fun s L' h => h) (List.Perm.refl _) (evs_args rfl)) rfl ?_)
 (refine SegC.gY rfl rfl rfl ?_)
 (refine Cx.move rfl rfl ?_)
 (refine SegC.gY rfl rfl rfl ?_)
 (refine Cx.move rfl rfl ?_)
 (refine SegC.gY rfl rfl rfl ?_)
 (refine Cx.indexEl rfl rfl (by assumption) rfl rfl ?_)
 (refine SegC.gY rfl rfl rfl ?_)
 (refine Cx.fieldEl rfl rfl rfl ?_)
 (refine SegC.gY rfl rfl rfl ?_)
 (refine Cx.loadPP rfl rfl ?_)
 (refine SegC.gY rfl rfl rfl ?_)
 (refine Cx.gtrI rfl rfl rfl ?_)
 (refine SegC.gY rfl rfl rfl ?_)
 (refine Cx.neqB rfl rfl rfl ?_)
 (refine Cx.pickF rfl (by first | rfl | assumption | (exact decide_eq_true (by first | assumption | omega | rfl)) | (exact decide_eq_false (by first | assumption | omega | rfl)) | (simp; done) | (simp; omega)) rfl rfl ?_)
 (refine SegC.nil ?_)
 (refine N.seq (W.cF rfl ?_))
 (refine W.skip (N.seq (W.seq (W.seq (W.region (Jx.move rfl rfl (Jx.eqlI rfl rfl rfl (J.nil (N.seq (W.cT rfl ?_))))))))))
 (refine W.seq (W.region (Jx.move rfl rfl (Jx.eqlS rfl rfl rfl (Jx.move rfl rfl (J.gY rfl rfl rfl ?_))))))
 (refine Jx.move rfl rfl (J.gY rfl rfl rfl ?_))
 (refine Jx.eqlI rfl rfl rfl (Jx.pT rfl rfl rfl ?_))
 (refine Jx.assign rfl rfl (J.nil (N.seq (W.ret (N.noGotoRet ?_)))))
 (refine id ?_; rotate_left))
      exact N.ret (rs := [.tmp 6]) rfl (.tmp rfl .nil) ⟨rfl, rfl⟩
    · obtain ⟨p1, p2, _⟩ := h.inv.par i (by omega) hi
      obtain ⟨p, hp⟩ : ∃ p : Nat, (T.at i).par = (p : Int) := ⟨(T.at i).par.toNat, by omega⟩
      have hpl : p < T.all.length := by omega
      have hpl2 : p < l.length := by rw [h.len]; exact hpl
      have c2 := Parent_yes b v m T s i p hf (by omega) hp hpl
      have e7 := h.par i (by omega) hil
      have e8 := h.sum p hpl2
      simp only [Rl, Tr.at] at e7 e8 hp
      rw [← e8] at c2
      have e9 : (l.getD i rw0).par = (p : Int) := by rw [e7, hp]
      have hni0 : ¬ (i : Int) = 0 := by omega
      refine FnC.intro Try.func23 rfl Try.ntmps23 rfl fun Z w0 hG => ?_
      focus (
 (refine W.seq (W.region (Jx.assign rfl rfl (J.nil (N.seq (W.seq (W.region (Jx.move rfl rfl ?_))))))))
 (refine J.call (cH) rfl (evs_args rfl) rfl ?_; rintro _ _ ⟨rfl, rfl⟩; simp only [la1, la2, la3])
 (refine Jx.move rfl rfl (Jx.extract rfl rfl rfl ?_))
 (refine Jx.extract rfl rfl rfl ?_)
 (refine Jx.assign rfl rfl (Jx.assign rfl rfl (J.nil (N.seq (W.seq (W.region (Jx.move rfl rfl ?_)))))))
 (refine J.call (cRH) rfl (evs_args rfl) rfl ?_; rintro _ _ ⟨rfl, rfl⟩; simp only [la1, la2, la3])
 (refine Jx.move rfl rfl (Jx.extract rfl rfl rfl ?_))
 (refine Jx.extract rfl rfl rfl ?_)
 (refine Jx.assign rfl rfl (Jx.assign rfl rfl (J.nil (N.seq (W.seq (W.region (Jx.move rfl rfl ?_)))))))
 (refine J.call (cD) rfl (evs_args rfl) rfl ?_; rintro _ _ ⟨u, rfl, rfl⟩; simp only [la1, la2, la3])
 (refine Jx.assign rfl rfl (J.nil (N.seq (W.seq (W.seq (W.region (Jx.move rfl rfl (Jx.move rfl rfl (Jx.neqS rfl rfl rfl (Jx.move rfl rfl (J.gY rfl rfl rfl ?_)))))))))))
 (refine Jx.move rfl rfl (J.gY rfl rfl rfl ?_))
 (refine Jx.move rfl rfl (J.gY rfl rfl rfl ?_))
 (refine Jx.neqI rfl rfl rfl (Jx.pF rfl rfl rfl ?_))
 (refine Jx.move rfl rfl (J.gY rfl rfl rfl ?_))
 (refine Jx.move rfl rfl (J.gY rfl rfl rfl ?_))
 (refine Jx.move rfl rfl (J.gY rfl rfl rfl ?_))
 (refine J.call (cRD) rfl (evs_args rfl) rfl ?_; rintro _ _ ⟨rfl, rfl⟩; simp only [la1, la2, la3])
 (refine J.gY rfl rfl rfl ?_)
 (refine J.call ((cS u)) rfl (evs_args rfl) rfl ?_; rintro _ _ ⟨rfl, rfl⟩; simp only [la1, la2, la3])
 (refine J.gY rfl rfl rfl ?_)
 (refine Jx.not rfl rfl (Jx.pF rfl rfl rfl ?_))
 (refine J.nil (N.seq (W.cF rfl ?_)))
 (refine W.skip (N.seq (W.seq (W.region (Jx.move rfl rfl ?_)))))
 (refine J.call (cZ u) rfl (evs_args rfl) rfl ?_; rintro _ _ ⟨u', l', rfl⟩; simp only [List.cons_append, List.nil_append]; refine J.drop (List.sublist_cons_self _ _) ?_)
 (refine J.nil (N.seq (W.seq (W.region (Jx.move rfl rfl (Jx.move rfl rfl ?_))))))
 (refine J.call (c1) rfl (evs_args rfl) rfl ?_; rintro _ _ ⟨rfl, rfl⟩; simp only [la1, la2, la3])
 (refine Jx.move rfl rfl (Jx.extract rfl rfl rfl ?_))
 (refine Jx.extract rfl rfl rfl ?_)
 (refine Jx.assign rfl rfl (Jx.assign rfl rfl (J.nil (N.seq (W.seq (W.region (Jx.move rfl rfl (Jx.move rfl rfl ?_))))))))
 (refine J.call (c2) rfl (evs_args rfl) rfl ?_; rintro _ _ ⟨rfl, rfl⟩; simp only [la1, la2, la3])
 (refine Jx.move rfl rfl (Jx.extract rfl rfl rfl ?_))
 (refine Jx.extract rfl rfl rfl ?_)
 (refine Jx.assign rfl rfl (Jx.assign rfl rfl (J.nil (N.seq (W.seq (W.region (Jx.move rfl rfl (Jx.move rfl rfl ?_))))))))
 (refine J.call (c3) rfl (evs_args rfl) rfl ?_; rintro _ _ ⟨rfl, rfl⟩; simp only [la1, la2, la3])
 (refine Jx.move rfl rfl (Jx.extract rfl rfl rfl ?_))
 (refine Jx.extract rfl rfl rfl ?_)
 (refine Jx.assign rfl rfl (Jx.assign rfl rfl (J.nil (N.seq (W.seq (W.region (Jx.move rfl rfl (Jx.move rfl rfl ?_))))))))
 (refine J.call (cA) rfl (evs_args rfl) rfl ?_; rintro _ _ ⟨rfl, rfl⟩; simp only [la1, la2, la3])
 (refine Jx.assign rfl rfl (J.nil (N.seq (W.seq (W.seq (W.region (Jx.move rfl rfl (Jx.lssI rfl rfl rfl (J.nil (N.seq (W.cF rfl ?_)))))))))))
 (refine W.skip (N.seq (W.seq (W.seq ?_))))
 (refine W.draw follows ?_)
 (refine JD.calm rfl (by decide +kernel) ?_)
 (refine Cx.move rfl rfl ?_)
 (refine Cx.move rfl rfl ?_)
 (refine Cx.move rfl rfl ?_)
 (refine Cx.indexEl rfl rfl (by assumption) rfl rfl ?_)
 (refine Cx.fieldEl rfl rfl rfl ?_)
 (refine Cx.loadPP rfl rfl ?_)
 (refine Cx.neqI rfl rfl rfl ?_)
 (refine Cx.move rfl rfl ?_)
 (refine SegC.gY rfl rfl rfl ?_)
 (refine Cx.move rfl rfl ?_)
 (refine SegC.gY rfl rfl rfl ?_)
 (refine Cx.neqI rfl rfl rfl ?_)
 (refine Cx.pickF rfl (by first | rfl | assumption | (exact decide_eq_true (by first | assumption | omega | rfl)) | (exact decide_eq_false (by first | assumption | omega | rfl)) | (simp; done) | (simp; omega)) rfl rfl ?_)
 (refine Cx.move rfl rfl ?_)
 (refine SegC.gY rfl rfl rfl ?_)
 (refine Cx.move rfl rfl ?_)
 (refine SegC.gY rfl rfl rfl ?_)
 (refine Cx.move rfl rfl ?_)
 (refine SegC.gY rfl rfl rfl ?_)
 (refine Cx.move rfl rfl ?_)
 (refine SegC.gY rfl rfl rfl ?_)
 (refine SegC.q (Qs.call (Lc := []) c5 (fun s L' h => h) (List.Perm.refl _) (evs_args rfl)) rfl ?_)
 (refine SegC.gY rfl rfl rfl ?_)
 (refine SegC.q (Qs.call (Lc := []) c6 (fun s L' h => h) (List.Perm.refl _) (evs_args rfl)) rfl ?_)
 (refine SegC.gY rfl rfl rfl ?_)
 (refine Cx.not rfl rfl ?_)
 (refine Cx.pickF rfl (by first | rfl | assumption | (exact decide_eq_true (by first | assumption | omega | rfl)) | (exact decide_eq_false (by first | assumption | omega | rfl)) | (simp; done) | (simp; omega)) rfl rfl ?_)
 (refine Cx.move rfl rfl ?_)
 (refine SegC.gY rfl rfl rfl ?_)
 (refine Cx.move rfl rfl ?_)
 (refine SegC.gY rfl rfl rfl ?_)
 (refine Cx.neqI rfl rfl rfl ?_)
 (refine Cx.pickF rfl (by first | rfl | assumption | (exact decide_eq_true (by first | assumption | omega | rfl)) | (exact decide_eq_false (by first | assumption | omega | rfl)) | (simp; done) | (simp; omega)) rfl rfl ?_)
 (refine Cx.move rfl rfl ?_)
 (refine SegC.gY rfl rfl rfl ?_)
 (refine Cx.move rfl rfl ?_)
 (refine SegC.gY rfl rfl rfl ?_)
 (refine Cx.move rfl rfl ?_)
 (refine SegC.gY rfl rfl rfl ?_)
 (refine SegC.q (Qs.call (Lr := []) c4 (fun s L' h => h) (List.Perm.refl _) (evs_args rfl)) rfl ?_)
 (refine SegC.gY rfl rfl rfl ?_)
 (refine Cx.move rfl rfl ?_)
 (refine SegC.gY rfl rfl rfl ?_)
 (refine Cx.move rfl rfl ?_)
 (refine SegC.gY rfl rfl rfl ?_)
 (refine Cx.indexEl rfl rfl (by assumption) rfl rfl ?_)
 (refine SegC.gY rfl rfl rfl ?_)
 (refine Cx.fieldEl rfl rfl rfl ?_)
 (refine SegC.gY rfl rfl rfl ?_)
 (refine Cx.loadPP rfl rfl ?_)
 (refine SegC.gY rfl rfl rfl ?_)
 (refine Cx.gtrI rfl rfl rfl ?_)
 (refine SegC.gY rfl rfl rfl ?_)
 (refine Cx.neqB rfl rfl rfl ?_)
 (refine Cx.pickF rfl (by first | rfl | assumption | (exact decide_eq_true (by first | assumption | omega | rfl)) | (exact decide_eq_false (by first | assumption | omega | rfl)) | (simp; done) | (simp; omega)) rfl rfl ?_)
 (refine SegC.nil ?_)
 (refine N.seq (W.cF rfl ?_))
 (refine W.skip (N.seq (W.seq (W.seq (W.region (Jx.move rfl rfl (Jx.eqlI rfl rfl rfl (J.nil (N.seq (W.cF rfl ?_))))))))))
 (refine W.skip (N.seq (W.seq (W.region (Jx.move rfl rfl (Jx.move rfl rfl (Jx.move rfl rfl (Jx.move rfl rfl (Jx.indexEl rfl rfl (by assumption) rfl rfl ?_)))))))))
 (refine Jx.fieldEl rfl rfl rfl ?_)
 (refine Jx.loadPP rfl rfl ?_)
 (rw [e9]; refine Jx.indexEl rfl rfl hpl2 rfl rfl ?_)
 (refine Jx.fieldEl rfl rfl rfl ?_)
 (refine Jx.loadPP rfl rfl ?_)
 (refine Jx.eqlS rfl rfl rfl (Jx.move rfl rfl (J.gY rfl rfl rfl ?_)))
 (refine Jx.move rfl rfl (J.gY rfl rfl rfl ?_))
 (refine Jx.eqlI rfl rfl rfl (Jx.pT rfl rfl rfl ?_))
 (refine Jx.assign rfl rfl (J.nil (N.seq (W.ret ?_))))
 (refine id ?_; rotate_left))
      exact N.ret (rs := [.tmp 6]) rfl (.tmp rfl .nil) ⟨rfl, rfl⟩
end Go.Proofs.Ytfalljmdhclgaaa
namespace Go.Proofs.Ytfalljmdhclgaaa
open Go Go.Sse
set_option linter.unusedVariables false
set_option linter.unusedSimpArgs false
set_option maxRecDepth 10000
theorem putW_len {l : List Rw} (s p : List UInt8) (v : Int) : (putW l s p v).1.length ≤ l.length + 1 := by
  unfold putW
  repeat' split
  all_goals first | (simp; done) | simp
theorem certW_len {l : List Rw} (s : List UInt8) (now : Int) : (certW l s now).1.length = l.length := by
  unfold certW
  repeat' split
  all_goals first | rfl | simp
set_option maxHeartbeats 8000000 in
theorem treePlays_ok (l : List Ac) (at_ : Int) : FnC Try.prog 5 [acL l, int at_] [] (fun r L => r = bool true ∧ L = []) := by
  have s0 := sum_ok 0
  have cn := new_ok (sumT 0)
  have crn := rnew_ok (sumT 0)
  have sa := sum_ok at_
  have cw := tworks_ok
  have hn := rinv_new (sumT 0)
  refine FnC.intro Try.func5 rfl Try.ntmps5 rfl fun Z w0 hG => ?_
  focus (
 (refine W.seq (W.region (Jx.assign rfl rfl (J.nil (N.seq (W.seq (W.region ?_)))))))
 (refine J.call (s0) rfl (evs_args rfl) rfl ?_; rintro _ _ ⟨rfl, rfl⟩; simp only [la1, la2, la3])
 (refine J.call (cn) rfl (evs_args rfl) rfl ?_; rintro _ _ ⟨b, v0, m, rfl, rfl⟩; simp only [la1, la2, la3])
 (refine Jx.assign rfl rfl (J.nil (N.seq (W.seq (W.seq (W.region (Jx.move rfl rfl (Jx.eqlNil rfl rfl ?_))))))))
 (refine J.nil (N.seq (W.cF rfl ?_)))
 (refine W.skip (N.seq (W.seq (W.region ?_))))
 (refine J.call (s0) rfl (evs_args rfl) rfl ?_; rintro _ _ ⟨rfl, rfl⟩; simp only [la1, la2, la3])
 (refine J.call (crn) rfl (evs_args rfl) rfl ?_; rintro _ _ ⟨rfl, rfl⟩; simp only [la1, la2, la3])
 (refine Jx.assign rfl rfl (J.nil (N.seq (W.seq (W.seq (W.region (Jx.assign rfl rfl (J.nil (N.seq (W.block ?_))))))))))
 (refine id ?_; rotate_left))
  refine W.loop (α := Nat × Value × Tr × List Rw) (fun x => [(7, int (x.1 : Int)), (0, acL l), (5, ptr b), (6, rwL x.2.2.2), (1, int at_)]) (fun x => treeO b x.2.1 m x.2.2.1) (fun x => x.1 ≤ l.length ∧ x.1 ≤ 40 ∧ x.2.2.2.length ≤ x.1 + 1 ∧ RInv x.2.2.1 x.2.2.2 ((x.1 : Int) + 2)) (fun x => 40 - x.1) (0, v0, Tr.new (sumT 0), [⟨sumT 0, 0, 0, 1⟩]) ⟨by simp, by simp, by simp, hn⟩ rfl ⟨ref0 rfl, ref0 rfl, ref0 rfl, ref0 rfl, ref0 rfl, trivial⟩ ?_
  rintro ⟨i, v, T, w⟩ ⟨hi, h40, hwl, hR⟩
  simp only at hi h40 hwl hR ⊢
  by_cases h1 : i < l.length
  · have h1' : (i : Int) < (l.length : Int) := by omega
    by_cases h2 : i < 40
    · have h2' : (i : Int) < 40 := by omega
      have sn := sum_ok (l.getD i ac0).sum
      have sp := sum_ok (l.getD i ac0).par
      have hTl : T.all.length ≤ i + 1 := by rw [← hR.len]; exact hwl
      by_cases k0 : (l.getD i ac0).kind = 0
      · have cp := Put_ok b v m T (sumT (l.getD i ac0).sum) (sumT (l.getD i ac0).par) (l.getD i ac0).view (by omega)
        have crp := rputT_ok w (sumT (l.getD i ac0).sum) (sumT (l.getD i ac0).par) (l.getD i ac0).view (by omega)
        obtain ⟨hR2, hco⟩ := rinv_put hR (by omega) (sumT (l.getD i ac0).sum) (sumT (l.getD i ac0).par) (l.getD i ac0).view
        have hl2 := putW_len (l := w) (sumT (l.getD i ac0).sum) (sumT (l.getD i ac0).par) (l.getD i ac0).view
        rw [hco] at cp
        generalize putT T (sumT (l.getD i ac0).sum) (sumT (l.getD i ac0).par) (l.getD i ac0).view = pr at *
        generalize putW w (sumT (l.getD i ac0).sum) (sumT (l.getD i ac0).par) (l.getD i ac0).view = pw at *
        obtain ⟨T2, e⟩ := pr
        obtain ⟨w2, f⟩ := pw
        simp only at hco hR2 hl2 cp crp
        have t1 := fun v2 => tells_ok b v2 m T2 w2 _ hR2 (by omega) (sumT (l.getD i ac0).sum)
        have t2 := fun v2 => tells_ok b v2 m T2 w2 _ hR2 (by omega) (sumT at_)
        focus (
 (refine W.seq (W.seq (W.region (Jx.move rfl rfl (Jx.move rfl rfl (Jx.lenSl rfl rfl ?_))))))
 (refine Jx.lssI rfl rfl rfl (Jx.move rfl rfl (J.gY rfl rfl rfl ?_)))
 (refine Jx.move rfl rfl (J.gY rfl rfl rfl ?_))
 (refine Jx.lssI rfl rfl rfl (Jx.pT rfl rfl rfl ?_))
 (refine J.nil (N.seq (W.cT rfl ?_)))
 (refine W.skip (N.seq (W.seq (W.block (W.seq (W.region (Jx.assign rfl rfl (Jx.assign rfl rfl (J.nil (N.seq (W.seq (W.seq (W.region (Jx.move rfl rfl ?_))))))))))))))
 (refine Jx.move rfl rfl (Jx.indexEl rfl rfl (by assumption) rfl rfl ?_))
 (refine Jx.fieldEl rfl rfl rfl ?_)
 (refine Jx.loadPP rfl rfl ?_)
 (refine J.nil (N.seq (W.block (W.seq (W.region (Jx.eqlI rfl rfl rfl (Jx.assign rfl rfl (J.nil (N.seq (W.cT rfl ?_))))))))))
 (refine W.seq ?_)
 (refine W.draw follows ?_)
 (refine JD.till 18 (by decide +kernel) (by decide +kernel) rfl rfl ?_)
 (refine Cx.move rfl rfl ?_)
 (refine Cx.move rfl rfl ?_)
 (refine Cx.move rfl rfl ?_)
 (refine Cx.indexEl rfl rfl (by assumption) rfl rfl ?_)
 (refine Cx.fieldEl rfl rfl rfl ?_)
 (refine Cx.loadPP rfl rfl ?_)
 (refine SegC.q (Qs.call (Lc := []) (sn) (fun s L' h => h) (List.Perm.refl _) (evs_args rfl)) rfl ?_)
 (refine Cx.move rfl rfl ?_)
 (refine Cx.move rfl rfl ?_)
 (refine Cx.indexEl rfl rfl (by assumption) rfl rfl ?_)
 (refine Cx.fieldEl rfl rfl rfl ?_)
 (refine Cx.loadPP rfl rfl ?_)
 (refine SegC.q (Qs.call (Lc := []) (sp) (fun s L' h => h) (List.Perm.refl _) (evs_args rfl)) rfl ?_)
 (refine Cx.move rfl rfl ?_)
 (refine Cx.move rfl rfl ?_)
 (refine Cx.indexEl rfl rfl (by assumption) rfl rfl ?_)
 (refine Cx.fieldEl rfl rfl rfl ?_)
 (refine Cx.loadPP rfl rfl ?_)
 (refine SegC.nil ?_)
 (refine J.call (cp) rfl (evs_args rfl) rfl ?_; rintro _ _ ⟨v2, rfl, rfl⟩; simp only [la1, la2, la3])
 (refine Jx.assign rfl rfl (J.nil (N.seq ?_)))
 (refine W.draw follows ?_)
 (refine JD.calm rfl (by decide +kernel) ?_)
 (refine Cx.move rfl rfl ?_)
 (refine Cx.move rfl rfl ?_)
 (refine Cx.move rfl rfl ?_)
 (refine Cx.indexEl rfl rfl (by assumption) rfl rfl ?_)
 (refine Cx.fieldEl rfl rfl rfl ?_)
 (refine Cx.loadPP rfl rfl ?_)
 (refine SegC.q (Qs.call (Lc := []) (sn) (fun s L' h => h) (List.Perm.refl _) (evs_args rfl)) rfl ?_)
 (refine Cx.move rfl rfl ?_)
 (refine Cx.move rfl rfl ?_)
 (refine Cx.indexEl rfl rfl (by assumption) rfl rfl ?_)
 (refine Cx.fieldEl rfl rfl rfl ?_)
 (refine Cx.loadPP rfl rfl ?_)
 (refine SegC.q (Qs.call (Lc := []) (sp) (fun s L' h => h) (List.Perm.refl _) (evs_args rfl)) rfl ?_)
 (refine Cx.move rfl rfl ?_)
 (refine Cx.move rfl rfl ?_)
 (refine Cx.indexEl rfl rfl (by assumption) rfl rfl ?_)
 (refine Cx.fieldEl rfl rfl rfl ?_)
 (refine Cx.loadPP rfl rfl ?_)
 (refine SegC.q (Qs.call (Lc := []) (crp) (fun s L' h => h) (List.Perm.refl _) (evs_args rfl)) rfl ?_)
 (refine Cx.move rfl rfl ?_)
 (refine Cx.extract rfl rfl rfl ?_)
 (refine Cx.extract rfl rfl rfl ?_)
 (refine Cx.assign rfl rfl ?_)
 (refine Cx.assign rfl rfl ?_)
 (refine SegC.nil ?_)
 (refine N.seq (W.seq (W.region (Jx.move rfl rfl (Jx.move rfl rfl (Jx.neqI rfl rfl rfl (Jx.move rfl rfl (J.gY rfl rfl rfl ?_))))))))
 (refine Jx.move rfl rfl (J.gY rfl rfl rfl ?_))
 (refine Jx.move rfl rfl (J.gY rfl rfl rfl ?_))
 (refine Jx.move rfl rfl (J.gY rfl rfl rfl ?_))
 (refine Jx.move rfl rfl (J.gY rfl rfl rfl ?_))
 (refine Jx.indexEl rfl rfl (by assumption) rfl rfl ?_)
 (refine J.gY rfl rfl rfl ?_)
 (refine Jx.fieldEl rfl rfl rfl ?_)
 (refine J.gY rfl rfl rfl ?_)
 (refine Jx.loadPP rfl rfl ?_)
 (refine J.gY rfl rfl rfl ?_)
 (refine J.call (sn) rfl (evs_args rfl) rfl ?_; rintro _ _ ⟨rfl, rfl⟩; simp only [la1, la2, la3])
 (refine J.gY rfl rfl rfl ?_)
 (refine J.call ((t1 v2)) rfl (evs_args rfl) rfl ?_; rintro _ _ ⟨rfl, rfl⟩; simp only [la1, la2, la3])
 (refine J.gY rfl rfl rfl ?_)
 (refine Jx.not rfl rfl (Jx.pF rfl rfl rfl ?_))
 (refine Jx.move rfl rfl (J.gY rfl rfl rfl ?_))
 (refine Jx.move rfl rfl (J.gY rfl rfl rfl ?_))
 (refine Jx.move rfl rfl (J.gY rfl rfl rfl ?_))
 (refine Jx.move rfl rfl (J.gY rfl rfl rfl ?_))
 (refine J.call (sa) rfl (evs_args rfl) rfl ?_; rintro _ _ ⟨rfl, rfl⟩; simp only [la1, la2, la3])
 (refine J.gY rfl rfl rfl ?_)
 (refine J.call ((t2 v2)) rfl (evs_args rfl) rfl ?_; rintro _ _ ⟨rfl, rfl⟩; simp only [la1, la2, la3])
 (refine J.gY rfl rfl rfl ?_)
 (refine Jx.not rfl rfl (Jx.pF rfl rfl rfl ?_))
 (refine J.nil (N.seq (W.cF rfl ?_)))
 (refine W.skip (N.seq (W.region (Jx.move rfl rfl (Jx.add64 rfl rfl (by omega) rfl ?_)))))
 (refine Jx.assign rfl rfl (J.nil ?_))
 (refine id ?_; rotate_left))
        exact N.round (i + 1, v2, T2, w2) ⟨h1, h2, by simp only; omega, hR2.later (by simp only; omega)⟩ (by simp only; omega) rfl ⟨ref0 rfl, ref0 rfl, ref0 rfl, ref0 rfl, ref0 rfl, trivial⟩
      · by_cases k1 : (l.getD i ac0).kind = 1
        · have cp := Certify_ok b v m T hR.inv (sumT (l.getD i ac0).sum)
          have crp := rcert_ok w (sumT (l.getD i ac0).sum) ((i : Int) + 2) (by omega) (rinv_par' hR)
          obtain ⟨hR2, hco⟩ := rinv_cert hR (by omega) (sumT (l.getD i ac0).sum)
          have hl2 := certW_len (l := w) (sumT (l.getD i ac0).sum) ((i : Int) + 2)
          rw [hco] at cp
          generalize certT T (sumT (l.getD i ac0).sum) = pr at *
          generalize certW w (sumT (l.getD i ac0).sum) ((i : Int) + 2) = pw at *
          obtain ⟨T2, e⟩ := pr
          obtain ⟨w2, f⟩ := pw
          simp only at hco hR2 hl2 cp crp
          have t1 := tells_ok b v m T2 w2 _ hR2 (by omega) (sumT (l.getD i ac0).sum)
          have t2 := tells_ok b v m T2 w2 _ hR2 (by omega) (sumT at_)
          focus (
 (refine W.seq (W.seq (W.region (Jx.move rfl rfl (Jx.move rfl rfl (Jx.lenSl rfl rfl ?_))))))
 (refine Jx.lssI rfl rfl rfl (Jx.move rfl rfl (J.gY rfl rfl rfl ?_)))
 (refine Jx.move rfl rfl (J.gY rfl rfl rfl ?_))
 (refine Jx.lssI rfl rfl rfl (Jx.pT rfl rfl rfl ?_))
 (refine J.nil (N.seq (W.cT rfl ?_)))
 (refine W.skip (N.seq (W.seq (W.block (W.seq (W.region (Jx.assign rfl rfl (Jx.assign rfl rfl (J.nil (N.seq (W.seq (W.seq (W.region (Jx.move rfl rfl ?_))))))))))))))
 (refine Jx.move rfl rfl (Jx.indexEl rfl rfl (by assumption) rfl rfl ?_))
 (refine Jx.fieldEl rfl rfl rfl ?_)
 (refine Jx.loadPP rfl rfl ?_)
 (refine J.nil (N.seq (W.block (W.seq (W.region (Jx.eqlI rfl rfl rfl (Jx.assign rfl rfl (J.nil (N.seq (W.cF rfl ?_))))))))))
 (refine W.seq (W.region (Jx.eqlI rfl rfl rfl (Jx.assign rfl rfl (J.nil (N.seq (W.cT rfl ?_)))))))
 (refine W.seq (W.region (Jx.move rfl rfl (Jx.move rfl rfl (Jx.move rfl rfl (Jx.indexEl rfl rfl (by assumption) rfl rfl ?_))))))
 (refine Jx.fieldEl rfl rfl rfl ?_)
 (refine Jx.loadPP rfl rfl ?_)
 (refine J.call (sn) rfl (evs_args rfl) rfl ?_; rintro _ _ ⟨rfl, rfl⟩; simp only [la1, la2, la3])
 (refine J.call (cp) rfl (evs_args rfl) rfl ?_; rintro _ _ ⟨rfl, rfl⟩; simp only [la1, la2, la3])
 (refine Jx.assign rfl rfl (J.nil (N.seq (W.region (Jx.move rfl rfl (Jx.move rfl rfl (Jx.move rfl rfl (Jx.indexEl rfl rfl (by assumption) rfl rfl ?_))))))))
 (refine Jx.fieldEl rfl rfl rfl ?_)
 (refine Jx.loadPP rfl rfl ?_)
 (refine J.call (sn) rfl (evs_args rfl) rfl ?_; rintro _ _ ⟨rfl, rfl⟩; simp only [la1, la2, la3])
 (refine Jx.move rfl rfl (Jx.add64 rfl rfl (by omega) rfl ?_))
 (refine J.call (crp) rfl (evs_args rfl) rfl ?_; rintro _ _ ⟨rfl, rfl⟩; simp only [la1, la2, la3])
 (refine Jx.move rfl rfl (Jx.extract rfl rfl rfl ?_))
 (refine Jx.extract rfl rfl rfl ?_)
 (refine Jx.assign rfl rfl (Jx.assign rfl rfl (J.nil (N.seq (W.seq (W.region (Jx.move rfl rfl (Jx.move rfl rfl (Jx.neqI rfl rfl rfl (Jx.move rfl rfl (J.gY rfl rfl rfl ?_)))))))))))
 (refine Jx.move rfl rfl (J.gY rfl rfl rfl ?_))
 (refine Jx.move rfl rfl (J.gY rfl rfl rfl ?_))
 (refine Jx.move rfl rfl (J.gY rfl rfl rfl ?_))
 (refine Jx.move rfl rfl (J.gY rfl rfl rfl ?_))
 (refine Jx.indexEl rfl rfl (by assumption) rfl rfl ?_)
 (refine J.gY rfl rfl rfl ?_)
 (refine Jx.fieldEl rfl rfl rfl ?_)
 (refine J.gY rfl rfl rfl ?_)
 (refine Jx.loadPP rfl rfl ?_)
 (refine J.gY rfl rfl rfl ?_)
 (refine J.call (sn) rfl (evs_args rfl) rfl ?_; rintro _ _ ⟨rfl, rfl⟩; simp only [la1, la2, la3])
 (refine J.gY rfl rfl rfl ?_)
 (refine J.call (t1) rfl (evs_args rfl) rfl ?_; rintro _ _ ⟨rfl, rfl⟩; simp only [la1, la2, la3])
 (refine J.gY rfl rfl rfl ?_)
 (refine Jx.not rfl rfl (Jx.pF rfl rfl rfl ?_))
 (refine Jx.move rfl rfl (J.gY rfl rfl rfl ?_))
 (refine Jx.move rfl rfl (J.gY rfl rfl rfl ?_))
 (refine Jx.move rfl rfl (J.gY rfl rfl rfl ?_))
 (refine Jx.move rfl rfl (J.gY rfl rfl rfl ?_))
 (refine J.call (sa) rfl (evs_args rfl) rfl ?_; rintro _ _ ⟨rfl, rfl⟩; simp only [la1, la2, la3])
 (refine J.gY rfl rfl rfl ?_)
 (refine J.call (t2) rfl (evs_args rfl) rfl ?_; rintro _ _ ⟨rfl, rfl⟩; simp only [la1, la2, la3])
 (refine J.gY rfl rfl rfl ?_)
 (refine Jx.not rfl rfl (Jx.pF rfl rfl rfl ?_))
 (refine J.nil (N.seq (W.cF rfl ?_)))
 (refine W.skip (N.seq (W.region (Jx.move rfl rfl (Jx.add64 rfl rfl (by omega) rfl ?_)))))
 (refine Jx.assign rfl rfl (J.nil ?_))
 (refine id ?_; rotate_left))
          exact N.round (i + 1, v, T2, w2) ⟨h1, h2, by simp only; omega, hR2.later (by simp only; omega)⟩ (by simp only; omega) rfl ⟨ref0 rfl, ref0 rfl, ref0 rfl, ref0 rfl, ref0 rfl, trivial⟩
        · have t1 := tells_ok b v m T w _ hR (by omega) (sumT (l.getD i ac0).sum)
          have t2 := tells_ok b v m T w _ hR (by omega) (sumT at_)
          focus (
 (refine W.seq (W.seq (W.region (Jx.move rfl rfl (Jx.move rfl rfl (Jx.lenSl rfl rfl ?_))))))
 (refine Jx.lssI rfl rfl rfl (Jx.move rfl rfl (J.gY rfl rfl rfl ?_)))
 (refine Jx.move rfl rfl (J.gY rfl rfl rfl ?_))
 (refine Jx.lssI rfl rfl rfl (Jx.pT rfl rfl rfl ?_))
 (refine J.nil (N.seq (W.cT rfl ?_)))
 (refine W.skip (N.seq (W.seq (W.block (W.seq (W.region (Jx.assign rfl rfl (Jx.assign rfl rfl (J.nil (N.seq (W.seq (W.seq (W.region (Jx.move rfl rfl ?_))))))))))))))
 (refine Jx.move rfl rfl (Jx.indexEl rfl rfl (by assumption) rfl rfl ?_))
 (refine Jx.fieldEl rfl rfl rfl ?_)
 (refine Jx.loadPP rfl rfl ?_)
 (refine J.nil (N.seq (W.block (W.seq (W.region (Jx.eqlI rfl rfl rfl (Jx.assign rfl rfl (J.nil (N.seq (W.cF rfl ?_))))))))))
 (refine W.seq (W.region (Jx.eqlI rfl rfl rfl (Jx.assign rfl rfl (J.nil (N.seq (W.cF rfl ?_)))))))
 (refine W.skip (N.seq (W.seq (W.region (Jx.move rfl rfl (Jx.move rfl rfl (Jx.neqI rfl rfl rfl (Jx.move rfl rfl (J.gY rfl rfl rfl ?_)))))))))
 (refine Jx.move rfl rfl (J.gY rfl rfl rfl ?_))
 (refine Jx.move rfl rfl (J.gY rfl rfl rfl ?_))
 (refine Jx.move rfl rfl (J.gY rfl rfl rfl ?_))
 (refine Jx.move rfl rfl (J.gY rfl rfl rfl ?_))
 (refine Jx.indexEl rfl rfl (by assumption) rfl rfl ?_)
 (refine J.gY rfl rfl rfl ?_)
 (refine Jx.fieldEl rfl rfl rfl ?_)
 (refine J.gY rfl rfl rfl ?_)
 (refine Jx.loadPP rfl rfl ?_)
 (refine J.gY rfl rfl rfl ?_)
 (refine J.call (sn) rfl (evs_args rfl) rfl ?_; rintro _ _ ⟨rfl, rfl⟩; simp only [la1, la2, la3])
 (refine J.gY rfl rfl rfl ?_)
 (refine J.call (t1) rfl (evs_args rfl) rfl ?_; rintro _ _ ⟨rfl, rfl⟩; simp only [la1, la2, la3])
 (refine J.gY rfl rfl rfl ?_)
 (refine Jx.not rfl rfl (Jx.pF rfl rfl rfl ?_))
 (refine Jx.move rfl rfl (J.gY rfl rfl rfl ?_))
 (refine Jx.move rfl rfl (J.gY rfl rfl rfl ?_))
 (refine Jx.move rfl rfl (J.gY rfl rfl rfl ?_))
 (refine Jx.move rfl rfl (J.gY rfl rfl rfl ?_))
 (refine J.call (sa) rfl (evs_args rfl) rfl ?_; rintro _ _ ⟨rfl, rfl⟩; simp only [la1, la2, la3])
 (refine J.gY rfl rfl rfl ?_)
 (refine J.call (t2) rfl (evs_args rfl) rfl ?_; rintro _ _ ⟨rfl, rfl⟩; simp only [la1, la2, la3])
 (refine J.gY rfl rfl rfl ?_)
 (refine Jx.not rfl rfl (Jx.pF rfl rfl rfl ?_))
 (refine J.nil (N.seq (W.cF rfl ?_)))
 (refine W.skip (N.seq (W.region (Jx.move rfl rfl (Jx.add64 rfl rfl (by omega) rfl ?_)))))
 (refine Jx.assign rfl rfl (J.nil ?_))
 (refine id ?_; rotate_left))
          exact N.round (i + 1, v, T, w) ⟨h1, h2, by simp only; omega, hR.later (by simp only; omega)⟩ (by simp only; omega) rfl ⟨ref0 rfl, ref0 rfl, ref0 rfl, ref0 rfl, ref0 rfl, trivial⟩
    · have h2' : ¬ (i : Int) < 40 := by omega
      focus (
 (refine W.seq (W.seq (W.region (Jx.move rfl rfl (Jx.move rfl rfl (Jx.lenSl rfl rfl ?_))))))
 (refine Jx.lssI rfl rfl rfl (Jx.move rfl rfl (J.gY rfl rfl rfl ?_)))
 (refine Jx.move rfl rfl (J.gY rfl rfl rfl ?_))
 (refine Jx.lssI rfl rfl rfl (Jx.pT rfl rfl rfl ?_))
 (refine J.nil (N.seq (W.cF rfl ?_)))
 (refine W.exit (N.seq (W.seq (W.region ?_))))
 (refine J.call (cw) rfl (evs_args rfl) rfl ?_; rintro _ _ ⟨rfl, rfl⟩; simp only [la1, la2, la3])
 (refine Jx.assign rfl rfl (J.nil (N.seq (W.ret ?_))))
 (refine id ?_; rotate_left))
      exact N.retD (rs := [.tmp 4]) (L1 := []) rfl (.tmp rfl .nil) (List.nil_sublist _) ⟨rfl, rfl⟩
  · have h1' : ¬ (i : Int) < (l.length : Int) := by omega
    focus (
 (refine W.seq (W.seq (W.region (Jx.move rfl rfl (Jx.move rfl rfl (Jx.lenSl rfl rfl ?_))))))
 (refine Jx.lssI rfl rfl rfl (Jx.move rfl rfl (J.gN rfl rfl rfl rfl ?_)))
 (refine J.gN rfl rfl rfl rfl ?_)
 (refine Jx.pF rfl rfl rfl ?_)
 (refine J.nil (N.seq (W.cF rfl ?_)))
 (refine W.exit (N.seq (W.seq (W.region ?_))))
 (refine J.call (cw) rfl (evs_args rfl) rfl ?_; rintro _ _ ⟨rfl, rfl⟩; simp only [la1, la2, la3])
 (refine Jx.assign rfl rfl (J.nil (N.seq (W.ret ?_))))
 (refine id ?_; rotate_left))
    exact N.retD (rs := [.tmp 4]) (L1 := []) rfl (.tmp rfl .nil) (List.nil_sublist _) ⟨rfl, rfl⟩
end Go.Proofs.Ytfalljmdhclgaaa
