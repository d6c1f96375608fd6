/-
  Lemmas for the claim, part 5.
-/
import Derived.Test.YtlfdhkahiaammaaGreatDoorVoteCodesPd
namespace Go.Proofs.YtlfdhkahiaammaaGreatDoor
open Go Go.Sse
set_option linter.unusedVariables false
set_option linter.unusedSimpArgs false
set_option maxRecDepth 10000
structure Ms where
  kind : Int
  who : List UInt8
  epoch : Int
  view : Int
  digest : List UInt8
  block : Bk
  cert : Ct
theorem Ms.ext' {x y : Ms} (h1 : x.kind = y.kind) (h2 : x.who = y.who) (h3 : x.epoch = y.epoch) (h4 : x.view = y.view) (h5 : x.digest = y.digest) (h6 : x.block = y.block) (h7 : x.cert = y.cert) : x = y := by
  cases x; cases y; simp_all
instance : DecidableEq Ms := fun x y => decidable_of_iff ((((((x.kind = y.kind ∧ x.who = y.who) ∧ x.epoch = y.epoch) ∧ x.view = y.view) ∧ x.digest = y.digest) ∧ x.block = y.block) ∧ x.cert = y.cert) ⟨fun h => Ms.ext' h.1.1.1.1.1.1 h.1.1.1.1.1.2 h.1.1.1.1.2 h.1.1.1.2 h.1.1.2 h.1.2 h.2, fun h => by subst h; simp⟩
abbrev msC (m : Ms) : List SV := [int m.kind, str m.who, int m.epoch, int m.view, str m.digest, int m.block.head.height, int m.block.head.epoch, int m.block.head.view, bool m.block.head.last, str m.block.head.parent, str m.block.head.state, str m.block.head.receipts, str m.block.head.txs, str m.block.head.members, str m.block.head.next, ssl m.block.head.skips, txsl m.block.txs, str m.block.just.digest, ssl m.block.just.signers, str m.cert.digest, ssl m.cert.signers]
def ms0 : Ms := ⟨0, [], 0, 0, [], bk0, ct0⟩
def fitsM (m : Ms) : Bool :=
  if m.kind = 1 then (((decide (m.digest = []) && bareCt m.cert) && fineBk m.block) && decide (m.epoch = m.block.head.epoch)) && decide (m.view = m.block.head.view)
  else if m.kind = 2 then (decide (m.digest.length = 32) && bareCt m.cert) && decide (m.block = bk0)
  else if m.kind = 3 then (decide (m.digest = []) && (bareCt m.cert || fineCt m.cert)) && decide (m.block = bk0)
  else if m.kind = 4 then (((decide (m.digest.length = 32) && bareCt m.cert) && decide (m.block = bk0)) && decide (m.epoch = 0)) && decide (m.view = 0)
  else false
def numsM (m : Ms) : Bool := ((decide (0 ≤ m.epoch) && decide (m.epoch ≤ 1048576)) && decide (0 ≤ m.view)) && decide (m.view ≤ 1048576)
def fineMs (m : Ms) : Bool := (nameB m.who && numsM m) && fitsM m
def tailM (m : Ms) : List UInt8 := if m.kind = 1 then textB (encBk m.block) else if m.kind = 3 then justE m.cert else m.digest
def encMs (m : Ms) : List UInt8 := [UInt8.ofNat m.kind.toNat] ++ textB m.who ++ numB m.epoch.toNat ++ numB m.view.toNat ++ tailM m
structure FineM (m : Ms) : Prop where
  kind : 1 ≤ m.kind ∧ m.kind ≤ 4
  who : 1 ≤ m.who.length ∧ m.who.length ≤ 6
  epoch : 0 ≤ m.epoch ∧ m.epoch ≤ 1048576
  view : 0 ≤ m.view ∧ m.view ≤ 1048576
  k1 : m.kind = 1 → m.digest = [] ∧ m.cert = ct0 ∧ fineBk m.block = true
  k2 : m.kind = 2 ∨ m.kind = 4 → m.digest.length = 32 ∧ m.cert = ct0 ∧ m.block = bk0
  k3 : m.kind = 3 → m.digest = [] ∧ (bareCt m.cert = true ∨ fineCt m.cert = true) ∧ m.block = bk0
theorem nameB_len {s : List UInt8} (h : nameB s = true) : 1 ≤ s.length ∧ s.length ≤ 6 := by
  cases s <;> simp [nameB] at h ⊢ <;> omega
theorem fineMs_spec {m : Ms} (h : fineMs m = true) : FineM m := by
  simp only [fineMs, numsM, Bool.and_eq_true, decide_eq_true_eq] at h
  obtain ⟨⟨h1, ⟨⟨h2, h3⟩, h4⟩, h5⟩, h6⟩ := h
  have hn := nameB_len h1
  unfold fitsM at h6
  by_cases e1 : m.kind = 1
  · rw [if_pos e1] at h6
    simp only [Bool.and_eq_true, decide_eq_true_eq] at h6
    exact ⟨by omega, hn, ⟨h2, h3⟩, ⟨h4, h5⟩, fun _ => ⟨h6.1.1.1.1, bare_eq h6.1.1.1.2, h6.1.1.2⟩, fun h => by omega, fun h => by omega⟩
  · rw [if_neg e1] at h6
    by_cases e2 : m.kind = 2
    · rw [if_pos e2] at h6
      simp only [Bool.and_eq_true, decide_eq_true_eq] at h6
      exact ⟨by omega, hn, ⟨h2, h3⟩, ⟨h4, h5⟩, fun h => by omega, fun _ => ⟨h6.1.1, bare_eq h6.1.2, h6.2⟩, fun h => by omega⟩
    · rw [if_neg e2] at h6
      by_cases e3 : m.kind = 3
      · rw [if_pos e3] at h6
        simp only [Bool.and_eq_true, Bool.or_eq_true, decide_eq_true_eq] at h6
        exact ⟨by omega, hn, ⟨h2, h3⟩, ⟨h4, h5⟩, fun h => by omega, fun h => by omega, fun _ => ⟨h6.1.1, h6.1.2, h6.2⟩⟩
      · rw [if_neg e3] at h6
        by_cases e4 : m.kind = 4
        · rw [if_pos e4] at h6
          simp only [Bool.and_eq_true, decide_eq_true_eq] at h6
          exact ⟨by omega, hn, ⟨h2, h3⟩, ⟨h4, h5⟩, fun h => by omega, fun _ => ⟨h6.1.1.1.1, bare_eq h6.1.1.1.2, h6.1.1.2⟩, fun h => by omega⟩
        · rw [if_neg e4] at h6; cases h6
theorem justE_len' {c : Ct} (f : bareCt c = true ∨ fineCt c = true) : (justE c).length ≤ 156 := by
  unfold justE
  cases hb : bareCt c with
  | true => simp [flag_len]
  | false =>
    have hf : fineCt c = true := by
      rcases f with h | h
      · rw [hb] at h; cases h
      · exact h
    have h2 := textB_len (encCt_len hf) (by omega)
    simp only [Bool.false_eq_true, if_false, List.length_append, flag_len]
    omega
theorem tailM_len {m : Ms} (f : FineM m) : (tailM m).length ≤ 2839 := by
  unfold tailM
  by_cases e1 : m.kind = 1
  · rw [if_pos e1]
    exact textB_len (encBk_len ((fineBk_iff _).1 (f.k1 e1).2.2)) (by omega)
  · rw [if_neg e1]
    by_cases e3 : m.kind = 3
    · rw [if_pos e3]
      have := justE_len' (f.k3 e3).2.1
      omega
    · rw [if_neg e3]
      have := (f.k2 (by have := f.kind; omega)).1
      omega
theorem encMs_len {m : Ms} (f : FineM m) : (encMs m).length ≤ 2873 := by
  have h1 := textB_len f.who.2 (by omega)
  have h2 := numB9 (n := m.epoch) (by have := f.epoch; omega)
  have h3 := numB9 (n := m.view) (by have := f.view; omega)
  have h4 := tailM_len f
  simp only [encMs, List.length_append, List.length_cons, List.length_nil]; omega
theorem encMs_pos (m : Ms) : 1 ≤ (encMs m).length := by simp only [encMs, List.length_append, List.length_cons, List.length_nil]; omega
structure TailM (mx : Int) (m : Ms) (ok : Bool) (st st' : PSt) : Prop where
  k1 : m.kind = 1 → ∃ t o, textP mx st = (t, st') ∧ DecR fineBk encBk t o ∧ m.block = o.getD bk0 ∧ ok = o.isSome ∧ m.cert = ct0 ∧ m.digest = []
  k3 : m.kind = 3 → JustR mx st m.cert ok st' ∧ m.block = bk0 ∧ m.digest = []
  kd : m.kind ≠ 1 → m.kind ≠ 3 → bytesP 32 st = (m.digest, st') ∧ m.block = bk0 ∧ m.cert = ct0 ∧ ok = true
structure ReadM (mn mx : Int) (s : List UInt8) (m : Ms) (ok : Bool) (st : PSt) : Prop where
  go : ∃ k s1 s2 e s3 v s4, bytesP 1 (some s) = (k, s1) ∧ m.kind = ((k.getD 0 0).toNat : Int) ∧ textP mn s1 = (m.who, s2) ∧ numP s2 = (e, s3) ∧ m.epoch = (e : Int) ∧ numP s3 = (v, s4) ∧ m.view = (v : Int) ∧ TailM mx m ok s4 st
theorem TailM.sound {mx : Int} {m : Ms} {st : PSt} {r : List UInt8} (h : TailM mx m true st (some r)) : st = some (tailM m ++ r) := by
  unfold tailM
  by_cases e1 : m.kind = 1
  · obtain ⟨t, o, h1, h2, h3, h4, _⟩ := h.k1 e1
    obtain ⟨g, _⟩ := textP_good h1
    cases o with
    | none => cases h4
    | some b => rw [if_pos e1, g, h3, Option.getD_some, h2.2]
  · by_cases e3 : m.kind = 3
    · rw [if_neg e1, if_pos e3]
      exact (h.k3 e3).1.sound
    · rw [if_neg e1, if_neg e3]
      exact (bytesP_good (h.kd e1 e3).1).1
theorem ReadM.sound {mn mx : Int} {s : List UInt8} {m : Ms} (h : ReadM mn mx s m true (some [])) : encMs m = s := by
  obtain ⟨k, s1, s2, e, s3, v, s4, h1, h2, h3, h4, h5, h6, h7, h8⟩ := h.go
  have h9 := h8.sound
  subst h9
  obtain ⟨rfl, _⟩ := numP_good h6
  obtain ⟨rfl, _⟩ := numP_good h4
  obtain ⟨rfl, _⟩ := textP_good h3
  obtain ⟨g1, g2⟩ := bytesP_good h1
  simp only [Option.some.injEq] at g1
  match k, g2 with
  | [b], _ =>
    have hk : m.kind = ((b.toNat : Nat) : Int) := h2
    rw [g1, encMs, hk, h5, h7]
    simp
theorem JustR.whole' {m : Int} (hm : 65536 ≤ m) {r : List UInt8} {st st2 : PSt} {c y : Ct} {k : Bool} (h : JustR m st2 c k st) (f : bareCt y = true ∨ fineCt y = true) (hs : st2 = some (justE y ++ r)) : c = y ∧ k = true ∧ st = some r := by
  obtain ⟨fl, s3, e1, h1, h2⟩ := h.go
  subst hs
  unfold justE at e1
  cases hb : bareCt y with
  | true =>
    rw [hb, if_pos rfl, flagP_back] at e1
    simp only [Prod.mk.injEq] at e1
    obtain ⟨rfl, rfl⟩ := e1
    obtain ⟨rfl, rfl, rfl⟩ := h1 rfl
    exact ⟨(bare_eq hb).symm, rfl, rfl⟩
  | false =>
    have g1 : fineCt y = true := by
      rcases f with h | h
      · rw [hb] at h; cases h
      · exact h
    have g2 := encCt_len g1
    rw [hb, if_neg (by simp), List.append_assoc, flagP_back] at e1
    simp only [Prod.mk.injEq] at e1
    obtain ⟨rfl, rfl⟩ := e1
    obtain ⟨t, o, e2, ho, rfl, rfl⟩ := h2 rfl
    rw [textP_back _ _ (by omega) (by omega)] at e2
    simp only [Prod.mk.injEq] at e2
    obtain ⟨rfl, rfl⟩ := e2
    rw [apCt.some' ho g1 rfl]
    exact ⟨rfl, rfl, rfl⟩
theorem justR_back {y : Ct} (f : bareCt y = true ∨ fineCt y = true) (r : List UInt8) : JustR 65536 (some (justE y ++ r)) y true (some r) := by
  unfold justE
  cases hb : bareCt y with
  | true => exact ⟨false, some r, by rw [if_pos rfl, flagP_back], fun _ => ⟨bare_eq hb, rfl, rfl⟩, fun h => by cases h⟩
  | false =>
    have g1 : fineCt y = true := by
      rcases f with h | h
      · rw [hb] at h; cases h
      · exact h
    have g2 := encCt_len g1
    exact ⟨true, _, by rw [if_neg (by simp), List.append_assoc, flagP_back], (fun h => by cases h), fun _ => ⟨encCt y, some y, textP_back _ _ (by omega) (by omega), ⟨g1, rfl⟩, rfl, rfl⟩⟩
theorem kind_byte {m : Ms} (f : FineM m) : ((UInt8.ofNat m.kind.toNat).toNat : Int) = m.kind := by
  have := f.kind
  have h : (UInt8.ofNat m.kind.toNat).toNat = m.kind.toNat := by
    rw [UInt8.toNat_ofNat']; omega
  rw [h]; omega
theorem encMs_cut {y : Ms} (r : List UInt8) : encMs y ++ r = [UInt8.ofNat y.kind.toNat] ++ (textB y.who ++ (numB y.epoch.toNat ++ (numB y.view.toNat ++ (tailM y ++ r)))) := by
  simp only [encMs, List.append_assoc]
theorem apBk' : ∀ {t : List UInt8} {o : Option Bk} {x : Bk}, DecR fineBk encBk t o → fineBk x = true → encBk x = t → o = some x := by
  intro t o x ho hf ht
  cases o with
  | none => exact absurd ht (fun h => ho x hf h)
  | some y =>
    obtain ⟨hy, hyt⟩ := ho
    have hb := (fineBk_iff x).1 hf
    obtain ⟨l1, l2, l3⟩ := hb.lens
    have hc := (fineBk_iff y).1 hy
    obtain ⟨m1, m2, m3⟩ := hc.lens
    have e : encBk x = encBk y := by rw [ht, hyt]
    have r1 : ReadB 65536 (encBk x) x true true true (some []) := by
      refine ⟨⟨encHd x.head, _, encAll x.txs, _, some x.head, some x.txs, ?_, ⟨hb.head, rfl⟩, rfl, rfl, textP_back _ (justE x.just) (by omega) (by omega), ⟨hb.txs, rfl⟩, rfl, rfl, ?_⟩⟩
      · rw [encBk]; exact textP_back _ _ (by omega) (by omega)
      · have := justR_back (y := x.just) (by rcases hb.just with h | h; exact .inl h; exact .inr h.1) []
        rwa [List.append_nil] at this
    rw [(r1.whole (by decide) hc (r := []) (by rw [List.append_nil, e])).1]
theorem ReadM.whole {mn mx : Int} (hn : 6 ≤ mn) (hm : 65536 ≤ mx) {s : List UInt8} {m y : Ms} {ok : Bool} {st : PSt} (h : ReadM mn mx s m ok st) (hy : fineMs y = true) {r : List UInt8} (hs : encMs y ++ r = s) : m = y ∧ ok = true ∧ st = some r := by
  have f := fineMs_spec hy
  have f1 := f.who; have f2 := f.epoch; have f3 := f.view
  obtain ⟨k, s1, s2, e, s3, v, s4, h1, h2, h3, h4, h5, h6, h7, h8⟩ := h.go
  subst hs
  rw [encMs_cut, bytesP_back' (n := 1) [UInt8.ofNat y.kind.toNat] _ rfl] at h1
  simp only [Prod.mk.injEq] at h1
  obtain ⟨rfl, rfl⟩ := h1
  rw [textP_back _ _ (by omega) (by omega)] at h3
  simp only [Prod.mk.injEq] at h3
  obtain ⟨h3, rfl⟩ := h3
  rw [numP_back _ (by omega)] at h4
  simp only [Prod.mk.injEq] at h4
  obtain ⟨h4, rfl⟩ := h4
  rw [numP_back _ (by omega)] at h6
  simp only [Prod.mk.injEq] at h6
  obtain ⟨h6, rfl⟩ := h6
  have hk : m.kind = y.kind := by rw [h2]; exact kind_byte f
  have he : m.epoch = y.epoch := by omega
  have hv : m.view = y.view := by omega
  have ht : (m.digest = y.digest ∧ m.block = y.block ∧ m.cert = y.cert) ∧ ok = true ∧ st = some r := by
    by_cases e1 : m.kind = 1
    · obtain ⟨t, o, g1, g2, g3, g4, g5, g6⟩ := h8.k1 e1
      obtain ⟨q1, q2, q3⟩ := f.k1 (by omega)
      have hl := encBk_len ((fineBk_iff _).1 q3)
      rw [tailM, if_pos (by omega), textP_back _ _ (by omega) (by omega)] at g1
      simp only [Prod.mk.injEq] at g1
      obtain ⟨rfl, rfl⟩ := g1
      rw [apBk' g2 q3 rfl] at g3 g4
      exact ⟨⟨by rw [g6, q1], g3, by rw [g5, q2]⟩, g4, rfl⟩
    · by_cases e3 : m.kind = 3
      · obtain ⟨g1, g2, g3⟩ := h8.k3 e3
        obtain ⟨q1, q2, q3⟩ := f.k3 (by omega)
        rw [tailM, if_neg (by omega), if_pos (by omega)] at g1
        obtain ⟨r1, r2, r3⟩ := g1.whole' hm q2 rfl
        exact ⟨⟨by rw [g3, q1], by rw [g2, q3], r1⟩, r2, r3⟩
      · obtain ⟨g1, g2, g3, g4⟩ := h8.kd e1 e3
        obtain ⟨q1, q2, q3⟩ := f.k2 (by have := f.kind; omega)
        rw [tailM, if_neg (by omega), if_neg (by omega), bytesP_back' _ _ q1] at g1
        simp only [Prod.mk.injEq] at g1
        exact ⟨⟨g1.1.symm, by rw [g2, q3], by rw [g3, q2]⟩, g4, g1.2.symm⟩
  obtain ⟨⟨t1, t2, t3⟩, t4, t5⟩ := ht
  exact ⟨Ms.ext' hk h3.symm he hv t1 t2 t3, t4, t5⟩
theorem readM_back {y : Ms} (hy : fineMs y = true) (r : List UInt8) : ReadM 6 65536 (encMs y ++ r) y true (some r) := by
  have f := fineMs_spec hy
  have f1 := f.who; have f2 := f.epoch; have f3 := f.view
  refine ⟨[UInt8.ofNat y.kind.toNat], _, _, y.epoch.toNat, _, y.view.toNat, _, by rw [encMs_cut]; exact bytesP_back' _ _ rfl, (kind_byte f).symm, textP_back _ _ (by omega) (by omega), numP_back _ (by omega) _, by omega, numP_back _ (by omega) _, by omega, fun e1 => ?_, fun e3 => ?_, fun e1 e3 => ?_⟩
  · obtain ⟨q1, q2, q3⟩ := f.k1 e1
    have hl := encBk_len ((fineBk_iff _).1 q3)
    exact ⟨encBk y.block, some y.block, by rw [tailM, if_pos e1]; exact textP_back _ _ (by omega) (by omega), ⟨q3, rfl⟩, rfl, rfl, q2, q1⟩
  · obtain ⟨q1, q2, q3⟩ := f.k3 e3
    rw [tailM, if_neg (by omega), if_pos e3]
    exact ⟨justR_back q2 r, q3, q1⟩
  · obtain ⟨q1, q2, q3⟩ := f.k2 (by have := f.kind; omega)
    rw [tailM, if_neg e1, if_neg e3]
    exact ⟨bytesP_back' _ _ q1, q3, q2, rfl⟩
theorem apMs : Apart fineMs encMs := ⟨fun x y r q hx hy h => by
  have hr := readM_back hx r
  rw [h] at hr
  obtain ⟨e1, _, e2⟩ := hr.whole (by decide) (by decide) hy rfl
  exact ⟨e1, by simpa using e2⟩⟩
end Go.Proofs.YtlfdhkahiaammaaGreatDoor
namespace Go.Proofs.YtlfdhkahiaammaaGreatDoor
open Go Go.Sse
set_option linter.unusedVariables false
set_option linter.unusedSimpArgs false
set_option maxRecDepth 10000
abbrev tCt : Nat := 27
theorem agCt : TAg Tryz.prog tCt 2 := inferInstance
abbrev ctz : List SV := [str [], .val (.slice none 0 0)]
theorem ctz_sub : SubL ctz (ctC ct0) := .cons (.refl _) (.cons (Sub.nil 1 _) .nil)
set_option maxHeartbeats 1000000 in
theorem cmay_ok (c : Ct) : FnC Tryz.prog 71 [.agg (ctC c)] [] (fun v L => v = bool (fineCt c) ∧ L = []) := by
  refine FnC.intro Tryz.func71 rfl Tryz.ntmps71 rfl fun Z w0 hG => ?_
  focus (
 (refine W.seq (W.region ?_))
 (refine J.boxAg rfl rfl ?_; intro b')
 (refine Jx.assign rfl rfl (J.nil (N.seq (W.seq (W.seq (W.region (Jx.fieldAddr rfl rfl ?_)))))))
 (refine Jx.load rfl 0 rfl rfl rfl ?_)
 (refine Jx.lenS rfl rfl ?_)
 (refine Jx.neqI rfl rfl rfl (Jx.move rfl rfl ?_))
 (refine' J.guardOr rfl rfl rfl rfl rfl rfl rfl rfl (fun _ => ?_) ?_; rotate_left)
 (refine J.gY rfl rfl rfl ?_)
 (refine Jx.fieldAddr rfl rfl ?_)
 (refine J.gY rfl rfl rfl ?_)
 (refine Jx.load rfl 0 rfl rfl rfl ?_)
 (refine J.gY rfl rfl rfl ?_)
 (refine Jx.lenSl rfl rfl ?_)
 (refine J.gY rfl rfl rfl ?_)
 (refine Jx.gtrI rfl rfl rfl (J.nil ?_))
 (refine N.joinedN rfl rfl rfl)
 (refine J.nil (N.seq ?_))
 (refine id ?_; rotate_left))
  refine W.cond rfl (fun hb => ?_) (fun hb => ?_)
  · have hf : fineCt c = false := by
      simp only [Bool.or_eq_true, decide_eq_true_eq] at hb
      simp only [fineCt, Bool.and_eq_false_iff, decide_eq_false_iff_not]
      omega
    rw [hf]
    focus (
 (refine W.seq (W.region (Jx.assign rfl rfl (J.nil (N.seq (W.ret (N.noGotoRet ?_)))))))
 (refine id ?_; rotate_left))
    exact N.retD (rs := [.tmp 2]) (L1 := []) rfl (.tmp rfl .nil) (List.nil_sublist _) ⟨rfl, rfl⟩
  · simp only [Bool.or_eq_false_iff, decide_eq_false_iff_not] at hb
    have hf : fineCt c = fineN [] c.signers := by
      simp only [fineCt]
      rw [decide_eq_true (by omega), decide_eq_true (by omega)]
      rfl
    focus (
 (refine W.skip (N.seq (W.seq (W.region (Jx.assign rfl rfl (J.nil (N.seq (W.seq (W.seq (W.region (Jx.fieldAddr rfl rfl ?_)))))))))))
 (refine Jx.load rfl 0 rfl rfl rfl ?_)
 (refine Jx.lenSl rfl rfl ?_)
 (refine Jx.move rfl rfl (J.nil (N.seq (W.block ?_))))
 (refine id ?_; rotate_left))
    refine W.loop (α := Nat) (fun i => [(19, int (i : Int)), (18, int (c.signers.length : Int)), (17, ssl c.signers), (3, str (lastS c.signers i))]) (fun _ => [.obj b' tCt (ctC c)]) (fun i => i ≤ c.signers.length ∧ fineCt c = fineN (lastS c.signers i) (c.signers.drop i)) (fun i => c.signers.length - i) 0 ⟨by omega, hf⟩ rfl ⟨ref0 rfl, ref0 rfl, ref0 rfl, ref0 rfl, trivial⟩ ?_
    rintro i ⟨hi, hs⟩
    by_cases h1 : i < c.signers.length
    · rw [fineN_step c.signers i h1] at hs
      have hns := lastS_succ c.signers i
      generalize lastS c.signers i = last at *
      focus (
 (refine W.seq (W.region (Jx.lssI rfl rfl rfl (J.nil (N.seq (W.seq (W.cT rfl ?_)))))))
 (refine W.skip (N.seq (W.seq (W.block (W.seq (W.region (Jx.indexEl rfl rfl (by assumption) rfl rfl ?_)))))))
 (refine Jx.loadPP rfl rfl ?_)
 (refine Jx.assign rfl rfl (J.nil (N.seq (W.seq (W.seq (W.region (Jx.move rfl rfl (Jx.move rfl rfl (Jx.leqS rfl rfl rfl ?_)))))))))
 (refine Jx.move rfl rfl ?_)
 (refine' J.guardOr rfl rfl rfl rfl rfl rfl rfl rfl (fun _ => ?_) ?_; rotate_left)
 (refine J.gY rfl rfl rfl ?_)
 (refine Jx.move rfl rfl (J.gY rfl rfl rfl ?_))
 (refine Jx.lenS rfl rfl ?_)
 (refine J.gY rfl rfl rfl ?_)
 (refine Jx.gtrI rfl rfl rfl (J.nil ?_))
 (refine N.joinedN rfl rfl rfl)
 (refine J.nil (N.seq ?_))
 (refine id ?_; rotate_left))
      refine W.cond rfl (fun hb => ?_) (fun hb => ?_)
      · have hf : fineCt c = false := by
          rw [hs]
          cases hk : okN last (c.signers.getD i []) with
          | false => rfl
          | true =>
            simp only [okN, leB, Bool.and_eq_true, decide_eq_true_eq, Bool.not_eq_true', Bool.or_eq_false_iff, decide_eq_false_iff_not] at hk
            obtain ⟨⟨k1, k2⟩, k3⟩ := hk
            simp only [Bool.or_eq_true, decide_eq_true_eq] at hb
            rcases hb with (h | h) | h
            · rw [k1] at h; cases h
            · exact absurd h k2
            · omega
        rw [hf]
        focus (
 (refine W.seq (W.region (Jx.assign rfl rfl (J.nil (N.seq (W.ret (N.noGotoRet (N.noGotoRet (N.noGotoRet (N.noGotoRet (N.noGotoRet (N.noGotoRet ?_))))))))))))
 (refine id ?_; rotate_left))
        exact N.retD (rs := [.tmp 2]) (L1 := []) rfl (.tmp rfl .nil) (List.nil_sublist _) ⟨rfl, rfl⟩
      · focus (
 (refine W.skip (N.seq (W.region (Jx.move rfl rfl (Jx.assign rfl rfl (J.nil (N.seq (W.region (Jx.add64 rfl rfl (by omega) rfl ?_)))))))))
 (refine Jx.move rfl rfl (J.nil ?_))
 (refine id ?_; rotate_left))
        refine N.round (i + 1) ⟨h1, ?_⟩ (by omega) rfl ⟨ref0 rfl, ref0 rfl, ref0 rfl, ⟨_, rfl, Sub.of_eq (by rw [hns])⟩, trivial⟩
        have : okN last (c.signers.getD i []) = true := by
          simp only [Bool.or_eq_false_iff, decide_eq_false_iff_not] at hb
          simp only [okN, leB, Bool.and_eq_true, decide_eq_true_eq, Bool.not_eq_true', Bool.or_eq_false_iff, decide_eq_false_iff_not]
          exact ⟨hb.1, by omega⟩
        rw [hs, this, hns, Bool.true_and]
    · have hil : i = c.signers.length := by omega
      subst hil
      rw [List.drop_length] at hs
      rw [hs]
      focus (
 (refine W.seq (W.region (Jx.lssI rfl rfl rfl (J.nil (N.seq (W.seq (W.cF rfl ?_)))))))
 (refine W.exit (N.seq (W.seq (W.region (Jx.assign rfl rfl (J.nil (N.seq (W.ret ?_))))))))
 (refine id ?_; rotate_left))
      exact N.retD (rs := [.tmp 2]) (L1 := []) rfl (.tmp rfl .nil) (List.nil_sublist _) ⟨rfl, rfl⟩
set_option maxHeartbeats 2000000 in
theorem rmay_ok (c : Ct) : FnC Tryz.prog 75 [.agg (ctC c)] [] (fun v L => v = bool (fineCt c) ∧ L = []) := by
  refine FnC.intro Tryz.func75 rfl Tryz.ntmps75 rfl fun Z w0 hG => ?_
  focus (
 (refine W.seq (W.region ?_))
 (refine J.boxAg rfl rfl ?_; intro b')
 (refine Jx.assign rfl rfl (J.nil (N.seq (W.seq (W.seq (W.region (Jx.fieldAddr rfl rfl ?_)))))))
 (refine Jx.load rfl 0 rfl rfl rfl ?_)
 (refine Jx.lenS rfl rfl ?_)
 (refine Jx.neqI rfl rfl rfl (Jx.move rfl rfl ?_))
 (refine' J.guardOr rfl rfl rfl rfl rfl rfl rfl rfl (fun _ => ?_) ?_; rotate_left)
 (refine J.gY rfl rfl rfl ?_)
 (refine Jx.fieldAddr rfl rfl ?_)
 (refine J.gY rfl rfl rfl ?_)
 (refine Jx.load rfl 0 rfl rfl rfl ?_)
 (refine J.gY rfl rfl rfl ?_)
 (refine Jx.lenSl rfl rfl ?_)
 (refine J.gY rfl rfl rfl ?_)
 (refine Jx.gtrI rfl rfl rfl (J.nil ?_))
 (refine N.joinedN rfl rfl rfl)
 (refine J.nil (N.seq ?_))
 (refine id ?_; rotate_left))
  refine W.cond rfl (fun hb => ?_) (fun hb => ?_)
  · have hf : fineCt c = false := by
      simp only [Bool.or_eq_true, decide_eq_true_eq] at hb
      simp only [fineCt, Bool.and_eq_false_iff, decide_eq_false_iff_not]
      omega
    rw [hf]
    focus (
 (refine W.seq (W.region (Jx.assign rfl rfl (J.nil (N.seq (W.ret (N.noGotoRet ?_)))))))
 (refine id ?_; rotate_left))
    exact N.retD (rs := [.tmp 2]) (L1 := []) rfl (.tmp rfl .nil) (List.nil_sublist _) ⟨rfl, rfl⟩
  · simp only [Bool.or_eq_false_iff, decide_eq_false_iff_not] at hb
    have hf : fineCt c = fineN [] c.signers := by
      simp only [fineCt]
      rw [decide_eq_true (by omega), decide_eq_true (by omega)]
      rfl
    focus (
 (refine W.skip (N.seq (W.seq (W.seq (W.region (Jx.assign rfl rfl (J.nil (N.seq (W.block ?_)))))))))
 (refine id ?_; rotate_left))
    refine W.loop (α := Nat) (fun i => [(3, int (i : Int)), (1, ptr b')]) (fun _ => [.obj b' tCt (ctC c)]) (fun i => i ≤ c.signers.length ∧ fineCt c = fineN (lastS c.signers i) (c.signers.drop i)) (fun i => c.signers.length - i) 0 ⟨by omega, hf⟩ rfl ⟨ref0 rfl, ref0 rfl, trivial⟩ ?_
    rintro i ⟨hi, hs⟩
    by_cases h1 : i < c.signers.length
    · rw [fineN_step c.signers i h1] at hs
      have hns := lastS_succ c.signers i
      by_cases a1 : ((c.signers.getD i []).length : Int) < 1
      · have : c.signers.getD i [] = [] := List.eq_nil_of_length_eq_zero (by omega)
        have hf : fineCt c = false := by rw [hs, this, okN, leB_nil]; rfl
        rw [hf]
        focus (
 (refine W.seq (W.seq (W.region (Jx.move rfl rfl (Jx.fieldAddr rfl rfl ?_)))))
 (refine Jx.load rfl 0 rfl rfl rfl ?_)
 (refine Jx.lenSl rfl rfl ?_)
 (refine Jx.lssI rfl rfl rfl (J.nil (N.seq (W.cT rfl ?_))))
 (refine W.skip (N.seq (W.seq (W.block (W.seq ?_)))))
 (refine W.draw follows ?_)
 (refine JD.calm rfl (by decide +kernel) ?_)
 (refine Cx.fieldAddr rfl rfl ?_)
 (refine Cx.load rfl 0 rfl rfl rfl ?_)
 (refine Cx.move rfl rfl ?_)
 (refine Cx.indexEl rfl rfl (by assumption) rfl rfl ?_)
 (refine Cx.loadPP rfl rfl ?_)
 (refine Cx.lenS rfl rfl ?_)
 (refine Cx.lssI rfl rfl rfl ?_)
 (refine Cx.move rfl rfl ?_)
 (refine SegC.gU rfl rfl rfl rfl ?_)
 (refine SegC.gU rfl rfl rfl rfl ?_)
 (refine SegC.gU rfl rfl rfl rfl ?_)
 (refine SegC.gU rfl rfl rfl rfl ?_)
 (refine SegC.gU rfl rfl rfl rfl ?_)
 (refine SegC.gU rfl rfl rfl rfl ?_)
 (refine SegC.gU rfl rfl rfl rfl ?_)
 (refine Cx.pickT rfl (by first | rfl | assumption | (exact decide_eq_true (by first | assumption | omega | rfl)) | (exact decide_eq_false (by first | assumption | omega | rfl)) | (simp; done) | (simp; omega)) rfl rfl ?_)
 (refine Cx.move rfl rfl ?_)
 (refine SegC.gU rfl rfl rfl rfl ?_)
 (refine SegC.gU rfl rfl rfl rfl ?_)
 (refine SegC.gU rfl rfl rfl rfl ?_)
 (refine SegC.gS rfl rfl rfl rfl ?_)
 (refine SegC.gS rfl rfl rfl rfl ?_)
 (refine SegC.gS rfl rfl rfl rfl ?_)
 (refine SegC.gS rfl rfl rfl rfl ?_)
 (refine SegC.gS rfl rfl rfl rfl ?_)
 (refine SegC.gS rfl rfl rfl rfl ?_)
 (refine SegC.gS rfl rfl rfl rfl ?_)
 (refine SegC.gS rfl rfl rfl rfl ?_)
 (refine SegC.gS rfl rfl rfl rfl ?_)
 (refine SegC.gS rfl rfl rfl rfl ?_)
 (refine SegC.gS rfl rfl rfl rfl ?_)
 (refine SegC.gS rfl rfl rfl rfl ?_)
 (refine SegC.gU rfl rfl rfl rfl ?_)
 (refine Cx.pickT rfl (by first | rfl | assumption | (exact decide_eq_true (by first | assumption | omega | rfl)) | (exact decide_eq_false (by first | assumption | omega | rfl)) | (simp; done) | (simp; omega)) rfl rfl ?_)
 (refine SegC.nil ?_)
 (refine N.seq (W.cT rfl ?_))
 (refine W.seq (W.region (Jx.assign rfl rfl (J.nil (N.seq (W.ret (N.noGotoRet (N.noGotoRet (N.noGotoRet (N.noGotoRet (N.noGotoRet ?_)))))))))))
 (refine id ?_; rotate_left))
        exact N.retD (rs := [.tmp 2]) (L1 := []) rfl (.tmp rfl .nil) (List.nil_sublist _) ⟨rfl, rfl⟩
      · by_cases a2 : 6 < ((c.signers.getD i []).length : Int)
        · have hf : fineCt c = false := by rw [hs, okN, decide_eq_false (by omega)]; simp
          rw [hf]
          focus (
 (refine W.seq (W.seq (W.region (Jx.move rfl rfl (Jx.fieldAddr rfl rfl ?_)))))
 (refine Jx.load rfl 0 rfl rfl rfl ?_)
 (refine Jx.lenSl rfl rfl ?_)
 (refine Jx.lssI rfl rfl rfl (J.nil (N.seq (W.cT rfl ?_))))
 (refine W.skip (N.seq (W.seq (W.block (W.seq ?_)))))
 (refine W.draw follows ?_)
 (refine JD.calm rfl (by decide +kernel) ?_)
 (refine Cx.fieldAddr rfl rfl ?_)
 (refine Cx.load rfl 0 rfl rfl rfl ?_)
 (refine Cx.move rfl rfl ?_)
 (refine Cx.indexEl rfl rfl (by assumption) rfl rfl ?_)
 (refine Cx.loadPP rfl rfl ?_)
 (refine Cx.lenS rfl rfl ?_)
 (refine Cx.lssI rfl rfl rfl ?_)
 (refine Cx.move rfl rfl ?_)
 (refine SegC.gY rfl rfl rfl ?_)
 (refine Cx.fieldAddr rfl rfl ?_)
 (refine SegC.gY rfl rfl rfl ?_)
 (refine Cx.load rfl 0 rfl rfl rfl ?_)
 (refine SegC.gY rfl rfl rfl ?_)
 (refine Cx.move rfl rfl ?_)
 (refine SegC.gY rfl rfl rfl ?_)
 (refine Cx.indexEl rfl rfl (by assumption) rfl rfl ?_)
 (refine SegC.gY rfl rfl rfl ?_)
 (refine Cx.loadPP rfl rfl ?_)
 (refine SegC.gY rfl rfl rfl ?_)
 (refine Cx.lenS rfl rfl ?_)
 (refine SegC.gY rfl rfl rfl ?_)
 (refine Cx.gtrI rfl rfl rfl ?_)
 (refine Cx.pickF rfl (by first | rfl | assumption | (exact decide_eq_true (by first | assumption | omega | rfl)) | (exact decide_eq_false (by first | assumption | omega | rfl)) | (simp; done) | (simp; omega)) rfl rfl ?_)
 (refine Cx.move rfl rfl ?_)
 (refine SegC.gU rfl rfl rfl rfl ?_)
 (refine SegC.gU rfl rfl rfl rfl ?_)
 (refine SegC.gU rfl rfl rfl rfl ?_)
 (refine SegC.gS rfl rfl rfl rfl ?_)
 (refine SegC.gS rfl rfl rfl rfl ?_)
 (refine SegC.gS rfl rfl rfl rfl ?_)
 (refine SegC.gS rfl rfl rfl rfl ?_)
 (refine SegC.gS rfl rfl rfl rfl ?_)
 (refine SegC.gS rfl rfl rfl rfl ?_)
 (refine SegC.gS rfl rfl rfl rfl ?_)
 (refine SegC.gS rfl rfl rfl rfl ?_)
 (refine SegC.gS rfl rfl rfl rfl ?_)
 (refine SegC.gS rfl rfl rfl rfl ?_)
 (refine SegC.gS rfl rfl rfl rfl ?_)
 (refine SegC.gS rfl rfl rfl rfl ?_)
 (refine SegC.gU rfl rfl rfl rfl ?_)
 (refine Cx.pickT rfl (by first | rfl | assumption | (exact decide_eq_true (by first | assumption | omega | rfl)) | (exact decide_eq_false (by first | assumption | omega | rfl)) | (simp; done) | (simp; omega)) rfl rfl ?_)
 (refine SegC.nil ?_)
 (refine N.seq (W.cT rfl ?_))
 (refine W.seq (W.region (Jx.assign rfl rfl (J.nil (N.seq (W.ret (N.noGotoRet (N.noGotoRet (N.noGotoRet (N.noGotoRet (N.noGotoRet ?_)))))))))))
 (refine id ?_; rotate_left))
          exact N.retD (rs := [.tmp 2]) (L1 := []) rfl (.tmp rfl .nil) (List.nil_sublist _) ⟨rfl, rfl⟩
        · have hne : c.signers.getD i [] ≠ [] := fun h => by rw [h] at a1; simp at a1
          by_cases h0 : i = 0
          · have hle : leB (c.signers.getD i []) (lastS c.signers i) = false := by rw [h0] at hne ⊢; exact leB_none hne
            focus (
 (refine W.seq (W.seq (W.region (Jx.move rfl rfl (Jx.fieldAddr rfl rfl ?_)))))
 (refine Jx.load rfl 0 rfl rfl rfl ?_)
 (refine Jx.lenSl rfl rfl ?_)
 (refine Jx.lssI rfl rfl rfl (J.nil (N.seq (W.cT rfl ?_))))
 (refine W.skip (N.seq (W.seq (W.block (W.seq ?_)))))
 (refine W.draw follows ?_)
 (refine JD.calm rfl (by decide +kernel) ?_)
 (refine Cx.fieldAddr rfl rfl ?_)
 (refine Cx.load rfl 0 rfl rfl rfl ?_)
 (refine Cx.move rfl rfl ?_)
 (refine Cx.indexEl rfl rfl (by assumption) rfl rfl ?_)
 (refine Cx.loadPP rfl rfl ?_)
 (refine Cx.lenS rfl rfl ?_)
 (refine Cx.lssI rfl rfl rfl ?_)
 (refine Cx.move rfl rfl ?_)
 (refine SegC.gY rfl rfl rfl ?_)
 (refine Cx.fieldAddr rfl rfl ?_)
 (refine SegC.gY rfl rfl rfl ?_)
 (refine Cx.load rfl 0 rfl rfl rfl ?_)
 (refine SegC.gY rfl rfl rfl ?_)
 (refine Cx.move rfl rfl ?_)
 (refine SegC.gY rfl rfl rfl ?_)
 (refine Cx.indexEl rfl rfl (by assumption) rfl rfl ?_)
 (refine SegC.gY rfl rfl rfl ?_)
 (refine Cx.loadPP rfl rfl ?_)
 (refine SegC.gY rfl rfl rfl ?_)
 (refine Cx.lenS rfl rfl ?_)
 (refine SegC.gY rfl rfl rfl ?_)
 (refine Cx.gtrI rfl rfl rfl ?_)
 (refine Cx.pickF rfl (by first | rfl | assumption | (exact decide_eq_true (by first | assumption | omega | rfl)) | (exact decide_eq_false (by first | assumption | omega | rfl)) | (simp; done) | (simp; omega)) rfl rfl ?_)
 (refine Cx.move rfl rfl ?_)
 (refine SegC.gY rfl rfl rfl ?_)
 (refine Cx.move rfl rfl ?_)
 (refine SegC.gY rfl rfl rfl ?_)
 (refine Cx.gtrI rfl rfl rfl ?_)
 (refine SegC.gY rfl rfl rfl ?_)
 (refine Cx.move rfl rfl ?_)
 (refine SegC.gU rfl rfl rfl rfl ?_)
 (refine SegC.gU rfl rfl rfl rfl ?_)
 (refine SegC.gU rfl rfl rfl rfl ?_)
 (refine SegC.gU rfl rfl rfl rfl ?_)
 (refine SegC.gU rfl rfl rfl rfl ?_)
 (refine SegC.gU rfl rfl rfl rfl ?_)
 (refine SegC.gU rfl rfl rfl rfl ?_)
 (refine SegC.gU rfl rfl rfl rfl ?_)
 (refine SegC.gU rfl rfl rfl rfl ?_)
 (refine SegC.gU rfl rfl rfl rfl ?_)
 (refine SegC.gU rfl rfl rfl rfl ?_)
 (refine SegC.gU rfl rfl rfl rfl ?_)
 (refine SegC.gY rfl rfl rfl ?_)
 (refine Cx.pickF rfl (by first | rfl | assumption | (exact decide_eq_true (by first | assumption | omega | rfl)) | (exact decide_eq_false (by first | assumption | omega | rfl)) | (simp; done) | (simp; omega)) rfl rfl ?_)
 (refine Cx.pickF rfl (by first | rfl | assumption | (exact decide_eq_true (by first | assumption | omega | rfl)) | (exact decide_eq_false (by first | assumption | omega | rfl)) | (simp; done) | (simp; omega)) rfl rfl ?_)
 (refine SegC.nil ?_)
 (refine N.seq (W.cF rfl ?_))
 (refine W.skip (N.seq (W.region (Jx.move rfl rfl (Jx.add64 rfl rfl (by omega) rfl ?_)))))
 (refine Jx.assign rfl rfl (J.nil ?_))
 (refine id ?_; rotate_left))
            refine N.round (i + 1) ⟨h1, ?_⟩ (by omega) rfl ⟨ref0 rfl, ref0 rfl, trivial⟩
            have : okN (lastS c.signers i) (c.signers.getD i []) = true := by
              simp only [okN, hle, Bool.and_eq_true, decide_eq_true_eq, Bool.not_false]
              exact ⟨trivial, by omega⟩
            rw [hs, this, hns, Bool.true_and]
          · have hsub : (i : Int) - 1 = ((i - 1 : Nat) : Int) := by omega
            have hl1 : i - 1 < c.signers.length := by omega
            have hla : lastS c.signers i = c.signers.getD (i - 1) [] := by simp [lastS, h0]
            have hi0 : (0 : Int) < (i : Int) := by omega
            focus (
 (refine W.seq (W.seq (W.region (Jx.move rfl rfl (Jx.fieldAddr rfl rfl ?_)))))
 (refine Jx.load rfl 0 rfl rfl rfl ?_)
 (refine Jx.lenSl rfl rfl ?_)
 (refine Jx.lssI rfl rfl rfl (J.nil (N.seq (W.cT rfl ?_))))
 (refine W.skip (N.seq (W.seq (W.block (W.seq ?_)))))
 (refine W.draw follows ?_)
 (refine JD.calm rfl (by decide +kernel) ?_)
 (refine Cx.fieldAddr rfl rfl ?_)
 (refine Cx.load rfl 0 rfl rfl rfl ?_)
 (refine Cx.move rfl rfl ?_)
 (refine Cx.indexEl rfl rfl (by assumption) rfl rfl ?_)
 (refine Cx.loadPP rfl rfl ?_)
 (refine Cx.lenS rfl rfl ?_)
 (refine Cx.lssI rfl rfl rfl ?_)
 (refine Cx.move rfl rfl ?_)
 (refine SegC.gY rfl rfl rfl ?_)
 (refine Cx.fieldAddr rfl rfl ?_)
 (refine SegC.gY rfl rfl rfl ?_)
 (refine Cx.load rfl 0 rfl rfl rfl ?_)
 (refine SegC.gY rfl rfl rfl ?_)
 (refine Cx.move rfl rfl ?_)
 (refine SegC.gY rfl rfl rfl ?_)
 (refine Cx.indexEl rfl rfl (by assumption) rfl rfl ?_)
 (refine SegC.gY rfl rfl rfl ?_)
 (refine Cx.loadPP rfl rfl ?_)
 (refine SegC.gY rfl rfl rfl ?_)
 (refine Cx.lenS rfl rfl ?_)
 (refine SegC.gY rfl rfl rfl ?_)
 (refine Cx.gtrI rfl rfl rfl ?_)
 (refine Cx.pickF rfl (by first | rfl | assumption | (exact decide_eq_true (by first | assumption | omega | rfl)) | (exact decide_eq_false (by first | assumption | omega | rfl)) | (simp; done) | (simp; omega)) rfl rfl ?_)
 (refine Cx.move rfl rfl ?_)
 (refine SegC.gY rfl rfl rfl ?_)
 (refine Cx.move rfl rfl ?_)
 (refine SegC.gY rfl rfl rfl ?_)
 (refine Cx.gtrI rfl rfl rfl ?_)
 (refine SegC.gY rfl rfl rfl ?_)
 (refine Cx.move rfl rfl ?_)
 (refine SegC.gY rfl rfl rfl ?_)
 (refine Cx.fieldAddr rfl rfl ?_)
 (refine SegC.gY rfl rfl rfl ?_)
 (refine Cx.load rfl 0 rfl rfl rfl ?_)
 (refine SegC.gY rfl rfl rfl ?_)
 (refine Cx.move rfl rfl ?_)
 (refine SegC.gY rfl rfl rfl ?_)
 (refine Cx.indexEl rfl rfl (by assumption) rfl rfl ?_)
 (refine SegC.gY rfl rfl rfl ?_)
 (refine Cx.loadPP rfl rfl ?_)
 (refine SegC.gY rfl rfl rfl ?_)
 (refine Cx.fieldAddr rfl rfl ?_)
 (refine SegC.gY rfl rfl rfl ?_)
 (refine Cx.load rfl 0 rfl rfl rfl ?_)
 (refine SegC.gY rfl rfl rfl ?_)
 (refine Cx.move rfl rfl ?_)
 (refine SegC.gY rfl rfl rfl ?_)
 (refine Cx.sub64 rfl rfl (by omega) rfl ?_)
 (refine SegC.gY rfl rfl rfl ?_)
 (refine Cx.indexEl (j := i - 1) rfl (by rw [← hsub]; rfl) hl1 rfl rfl ?_)
 (refine SegC.gY rfl rfl rfl ?_)
 (refine Cx.loadPP rfl rfl ?_)
 (refine SegC.gY rfl rfl rfl ?_)
 (refine Cx.leqS rfl rfl rfl ?_)
 (refine SegC.gY rfl rfl rfl ?_)
 (refine Cx.pickT rfl (by first | rfl | assumption | (exact decide_eq_true (by first | assumption | omega | rfl)) | (exact decide_eq_false (by first | assumption | omega | rfl)) | (simp; done) | (simp; omega)) rfl rfl ?_)
 (refine Cx.pickF rfl (by first | rfl | assumption | (exact decide_eq_true (by first | assumption | omega | rfl)) | (exact decide_eq_false (by first | assumption | omega | rfl)) | (simp; done) | (simp; omega)) rfl rfl ?_)
 (refine SegC.nil ?_)
 (refine N.seq ?_)
 (refine id ?_; rotate_left))
            refine W.cond rfl (fun hb2 => ?_) (fun hb2 => ?_)
            · have hf : fineCt c = false := by
                rw [hs, okN, hla, leB, hb2]; simp
              rw [hf]
              focus (
 (refine W.seq (W.region (Jx.assign rfl rfl (J.nil (N.seq (W.ret (N.noGotoRet (N.noGotoRet (N.noGotoRet (N.noGotoRet (N.noGotoRet ?_)))))))))))
 (refine id ?_; rotate_left))
              exact N.retD (rs := [.tmp 2]) (L1 := []) rfl (.tmp rfl .nil) (List.nil_sublist _) ⟨rfl, rfl⟩
            · focus (
 (refine W.skip (N.seq (W.region (Jx.move rfl rfl (Jx.add64 rfl rfl (by omega) rfl ?_)))))
 (refine Jx.assign rfl rfl (J.nil ?_))
 (refine id ?_; rotate_left))
              refine N.round (i + 1) ⟨h1, ?_⟩ (by omega) rfl ⟨ref0 rfl, ref0 rfl, trivial⟩
              have : okN (lastS c.signers i) (c.signers.getD i []) = true := by
                rw [hla, okN, leB, hb2]
                simp only [Bool.not_false, Bool.true_and, decide_eq_true_eq]
                omega
              rw [hs, this, hns, Bool.true_and]
    · have hil : i = c.signers.length := by omega
      subst hil
      rw [List.drop_length] at hs
      rw [hs]
      focus (
 (refine W.seq (W.seq (W.region (Jx.move rfl rfl (Jx.fieldAddr rfl rfl ?_)))))
 (refine Jx.load rfl 0 rfl rfl rfl ?_)
 (refine Jx.lenSl rfl rfl ?_)
 (refine Jx.lssI rfl rfl rfl (J.nil (N.seq (W.cF rfl ?_))))
 (refine W.exit (N.seq (W.seq (W.region (Jx.assign rfl rfl (J.nil (N.seq (W.ret ?_))))))))
 (refine id ?_; rotate_left))
      exact N.retD (rs := [.tmp 2]) (L1 := []) rfl (.tmp rfl .nil) (List.nil_sublist _) ⟨rfl, rfl⟩
theorem cencode_ok (c : Ct) : FnC Tryz.prog 34 [.agg (ctC c)] [] (fun v L => v = .tup [str (encO fineCt encCt c), int (codeB (fineCt c) 3)] ∧ L = []) := by
  have c0 := cmay_ok c
  refine FnC.intro Tryz.func34 rfl Tryz.ntmps34 rfl fun Z w0 hG => ?_
  unfold encO
  cases hf : fineCt c with
  | false =>
    rw [hf] at c0
    focus (
 (refine W.seq (W.region ?_))
 (refine J.boxAg rfl rfl ?_; intro b')
 (refine Jx.assign rfl rfl (Jx.assign rfl rfl (J.nil (N.seq (W.seq (W.seq (W.region (Jx.loadAll rfl 0 rfl rfl rfl ?_))))))))
 (refine J.call (c0) rfl (evs_args rfl) rfl ?_; rintro _ _ ⟨rfl, rfl⟩; simp only [la1, la2, la3])
 (refine Jx.not rfl rfl (J.nil (N.seq (W.cT rfl ?_))))
 (refine W.seq (W.region (Jx.assign rfl rfl (Jx.assign rfl rfl (J.nil (N.seq (W.ret (N.noGotoRet ?_))))))))
 (refine id ?_; rotate_left))
    exact N.retD (rs := [.tmp 2, .tmp 3]) (L1 := []) rfl (.tmp rfl (.tmp rfl .nil)) (List.nil_sublist _) ⟨rfl, rfl⟩
  | true =>
    rw [hf] at c0
    obtain ⟨h1, h2, h3⟩ := fineCt_spec hf
    have c1 := list_ok c.signers (by omega) (fun s hs => by have := h3 s hs; omega)
    have hlb := listB_len' (l := c.signers) (k := 6) (n := 7) h2 (by decide) h3 (by decide)
    focus (
 (refine W.seq (W.region ?_))
 (refine J.boxAg rfl rfl ?_; intro b')
 (refine Jx.assign rfl rfl (Jx.assign rfl rfl (J.nil (N.seq (W.seq (W.seq (W.region (Jx.loadAll rfl 0 rfl rfl rfl ?_))))))))
 (refine J.call (c0) rfl (evs_args rfl) rfl ?_; rintro _ _ ⟨rfl, rfl⟩; simp only [la1, la2, la3])
 (refine Jx.not rfl rfl (J.nil (N.seq (W.cF rfl ?_))))
 (refine W.skip (N.seq (W.seq ?_)))
 (refine W.draw follows ?_)
 (refine JD.calm rfl (by decide +kernel) ?_)
 (refine Cx.fieldAddr rfl rfl ?_)
 (refine Cx.load rfl 0 rfl rfl rfl ?_)
 (refine Cx.fieldAddr rfl rfl ?_)
 (refine Cx.load rfl 0 rfl rfl rfl ?_)
 (refine SegC.q (Qs.call (Lc := []) (c1) (fun s L' h => h) (List.Perm.refl _) (evs_args rfl)) rfl ?_)
 (refine Cx.cat rfl rfl (by first | omega | (simp only [List.length_append, List.length_cons, List.length_nil]; omega)) rfl ?_)
 (refine Cx.assign rfl rfl ?_)
 (refine Cx.assign rfl rfl ?_)
 (refine SegC.nil ?_)
 (refine N.seq (W.ret ?_))
 (refine id ?_; rotate_left))
    exact N.retD (rs := [.tmp 2, .tmp 3]) (L1 := []) rfl (.tmp rfl (.tmp rfl .nil)) (List.nil_sublist _) ⟨rfl, rfl⟩
theorem rcencode_ok (c : Ct) : FnC Tryz.prog 80 [.agg (ctC c)] [] (fun v L => v = .tup [str (encO fineCt encCt c), int (codeB (fineCt c) 3)] ∧ L = []) := by
  have c0 := rmay_ok c
  refine FnC.intro Tryz.func80 rfl Tryz.ntmps80 rfl fun Z w0 hG => ?_
  unfold encO
  cases hf : fineCt c with
  | false =>
    rw [hf] at c0
    focus (
 (refine W.seq (W.region ?_))
 (refine J.boxAg rfl rfl ?_; intro b')
 (refine Jx.assign rfl rfl (Jx.assign rfl rfl (J.nil (N.seq (W.seq (W.seq (W.region (Jx.loadAll rfl 0 rfl rfl rfl ?_))))))))
 (refine J.call (c0) rfl (evs_args rfl) rfl ?_; rintro _ _ ⟨rfl, rfl⟩; simp only [la1, la2, la3])
 (refine Jx.not rfl rfl (J.nil (N.seq (W.cT rfl ?_))))
 (refine W.seq (W.region (Jx.assign rfl rfl (Jx.assign rfl rfl (J.nil (N.seq (W.ret (N.noGotoRet ?_))))))))
 (refine id ?_; rotate_left))
    exact N.retD (rs := [.tmp 2, .tmp 3]) (L1 := []) rfl (.tmp rfl (.tmp rfl .nil)) (List.nil_sublist _) ⟨rfl, rfl⟩
  | true =>
    rw [hf] at c0
    obtain ⟨h1, h2, h3⟩ := fineCt_spec hf
    have c1 := rlist_ok c.signers (by omega) (fun s hs => by have := h3 s hs; omega)
    have hlb := listB_len' (l := c.signers) (k := 6) (n := 7) h2 (by decide) h3 (by decide)
    focus (
 (refine W.seq (W.region ?_))
 (refine J.boxAg rfl rfl ?_; intro b')
 (refine Jx.assign rfl rfl (Jx.assign rfl rfl (J.nil (N.seq (W.seq (W.seq (W.region (Jx.loadAll rfl 0 rfl rfl rfl ?_))))))))
 (refine J.call (c0) rfl (evs_args rfl) rfl ?_; rintro _ _ ⟨rfl, rfl⟩; simp only [la1, la2, la3])
 (refine Jx.not rfl rfl (J.nil (N.seq (W.cF rfl ?_))))
 (refine W.skip (N.seq (W.seq ?_)))
 (refine W.draw follows ?_)
 (refine JD.calm rfl (by decide +kernel) ?_)
 (refine Cx.fieldAddr rfl rfl ?_)
 (refine Cx.load rfl 0 rfl rfl rfl ?_)
 (refine Cx.fieldAddr rfl rfl ?_)
 (refine Cx.load rfl 0 rfl rfl rfl ?_)
 (refine SegC.q (Qs.call (Lc := []) (c1) (fun s L' h => h) (List.Perm.refl _) (evs_args rfl)) rfl ?_)
 (refine Cx.cat rfl rfl (by first | omega | (simp only [List.length_append, List.length_cons, List.length_nil]; omega)) rfl ?_)
 (refine Cx.assign rfl rfl ?_)
 (refine Cx.assign rfl rfl ?_)
 (refine SegC.nil ?_)
 (refine N.seq (W.ret ?_))
 (refine id ?_; rotate_left))
    exact N.retD (rs := [.tmp 2, .tmp 3]) (L1 := []) rfl (.tmp rfl (.tmp rfl .nil)) (List.nil_sublist _) ⟨rfl, rfl⟩
theorem cdecode_ok (s : List UInt8) (hs : s.length ≤ 1099511627776) : FnC Tryz.prog 62 [str s] [] (fun v L => (∃ o, DecR fineCt encCt s o ∧ v = .tup [.agg (ctC (o.getD ct0)), int (codeO o 3)]) ∧ L = []) := by
  have c0 := read_ok s
  refine FnC.intro Tryz.func62 rfl Tryz.ntmps62 rfl fun Z w0 hG => ?_
  focus (
 (refine W.seq (W.region ?_))
 (refine J.alloc (by simp only [List.map_cons, List.map_nil]; rfl) rfl rfl ?_; intro b')
 (refine Jx.assign rfl rfl (J.nil (N.seq (W.seq (W.region (Jx.move rfl rfl ?_))))))
 (refine J.call (Lc := []) c0 rfl (evs_args rfl) rfl ?_; rintro _ _ ⟨b, rfl, rfl⟩; simp only [la1, la2, la3])
 (refine Jx.assign rfl rfl (J.nil (N.seq (W.seq (W.region (Jx.move rfl rfl ?_))))))
 (refine J.call1 0 ((rd_Bytes b s 0 0 32 (Nat.zero_le _) hs)) rfl (evs_args rfl) rfl (by rintro _ _ ⟨t, a1, c1, rfl, rfl, ha1, e1⟩; exact ⟨_, rfl⟩) ?_; rintro _ _ ⟨t, a1, c1, rfl, ⟨⟩, ha1, e1⟩; simp only [la4, la5])
 (refine Jx.move rfl rfl ?_)
 (refine J.call1 0 ((rd_List b s a1 c1 7 6 ha1 hs (by decide))) rfl (evs_args rfl) rfl (by rintro _ _ ⟨l, a2, c2, rfl, rfl, ha2, e2⟩; exact ⟨_, rfl⟩) ?_; rintro _ _ ⟨l, a2, c2, rfl, ⟨⟩, ha2, e2⟩; simp only [la4, la5])
 (refine Jx.buildB rfl rfl rfl rfl rfl ?_)
 (refine J.alloc (by simp only [List.map_cons, List.map_nil]; rfl) rfl rfl ?_; intro b')
 (refine J.storeAll rfl rfl rfl 0 rfl rfl rfl ?_)
 (refine J.nil (N.seq (W.seq (W.seq (W.region (Jx.move rfl rfl ?_))))))
 (refine J.call1 1 ((rd_End b s a2 c2 ha2 hs)) rfl (evs_args rfl) rfl (by rintro _ _ ⟨e, a3, c3, rfl, rfl, he⟩; exact ⟨_, rfl⟩) ?_; rintro _ _ ⟨e, a3, c3, rfl, ⟨⟩, he⟩; simp only [la4, la5])
 (refine Jx.neqI rfl rfl rfl (Jx.move rfl rfl ?_))
 (refine' J.guardOr rfl rfl rfl rfl rfl rfl rfl rfl (fun _ => ?_) ?_; rotate_left)
 (refine J.gY rfl rfl rfl ?_)
 (refine Jx.loadAll rfl 0 rfl rfl rfl ?_)
 (refine J.gY rfl rfl rfl ?_)
 (refine J.cP (cmay_ok ⟨t, l⟩) (evs_args rfl) rfl ?_; try simp only)
 (refine J.gY rfl rfl rfl ?_)
 (refine Jx.not rfl rfl (J.nil ?_))
 (refine N.joinedN rfl rfl rfl)
 (refine J.nil (N.seq ?_))
 (refine id ?_; rotate_left))
  have hr : ReadC 7 6 s ⟨t, l⟩ (lf s a2 c2) := ⟨_, e1, e2⟩
  refine W.cond rfl (fun hb => ?_) (fun hb => ?_)
  · focus (
 (refine W.seq (W.region (Jx.buildB rfl rfl rfl rfl rfl ?_)))
 (refine J.storeAll rfl rfl rfl 2 rfl rfl rfl ?_)
 (refine Jx.assign rfl rfl (J.nil (N.seq (W.ret (N.noGotoRet ?_)))))
 (refine id ?_; rotate_left))
    refine N.objSub 2 (ctC ct0) rfl ctz_sub rfl ?_
    refine N.retD (rs := [.cell 2 tCt, .tmp 3]) (L1 := []) rfl (.cell rfl 2 rfl agCt (.tmp rfl .nil)) (List.nil_sublist _) ⟨⟨none, fun y hy hz => ?_, rfl⟩, rfl⟩
    obtain ⟨rfl, h2⟩ := hr.whole (by decide) (by decide) hy hz
    rw [he.2 h2, hy] at hb
    simp at hb
  · focus (
 (refine W.skip (N.seq (W.seq (W.region (Jx.loadAll rfl 0 rfl rfl rfl ?_)))))
 (refine J.storeAll rfl rfl rfl 2 rfl rfl rfl ?_)
 (refine Jx.assign rfl rfl (J.nil (N.seq (W.ret ?_))))
 (refine id ?_; rotate_left))
    refine N.retD (rs := [.cell 2 tCt, .tmp 3]) (L1 := []) rfl (.cell rfl 2 rfl agCt (.tmp rfl .nil)) (List.nil_sublist _) ⟨⟨some ⟨t, l⟩, ?_, rfl⟩, rfl⟩
    simp only [Bool.or_eq_false_iff, decide_eq_false_iff_not, Bool.not_eq_false'] at hb
    rw [he.1 (by omega)] at hr
    exact ⟨hb.2, hr.sound⟩
theorem rcdecode_ok (s : List UInt8) (hs : s.length ≤ 1099511627776) : FnC Tryz.prog 48 [str s] [] (fun v L => (∃ o, DecR fineCt encCt s o ∧ v = .tup [.agg (ctC (o.getD ct0)), int (codeO o 3)]) ∧ L = []) := by
  refine FnC.intro Tryz.func48 rfl Tryz.ntmps48 rfl fun Z w0 hG => ?_
  by_cases h32 : (s.length : Int) < 32
  · focus (
 (refine W.seq (W.region ?_))
 (refine J.alloc (by simp only [List.map_cons, List.map_nil]; rfl) rfl rfl ?_; intro b')
 (refine Jx.assign rfl rfl (J.nil (N.seq (W.seq (W.seq (W.region (Jx.move rfl rfl (Jx.lenS rfl rfl ?_))))))))
 (refine Jx.lssI rfl rfl rfl (J.nil (N.seq (W.cT rfl ?_))))
 (refine W.seq (W.region (Jx.buildB rfl rfl rfl rfl rfl ?_)))
 (refine J.storeAll rfl rfl rfl 0 rfl rfl rfl ?_)
 (refine Jx.assign rfl rfl (J.nil (N.seq (W.ret (N.noGotoRet ?_)))))
 (refine id ?_; rotate_left))
    refine N.objSub 0 (ctC ct0) rfl ctz_sub rfl ?_
    refine N.retD (rs := [.cell 2 tCt, .tmp 3]) (L1 := []) rfl (.cell rfl 0 rfl agCt (.tmp rfl .nil)) (List.nil_sublist _) ⟨⟨none, fun y hy hz => ?_, rfl⟩, rfl⟩
    have := (fineCt_spec hy).1
    rw [← hz] at h32
    simp only [encCt, List.length_append] at h32
    omega
  · have h32' : (32 : Int) ≤ (s.length : Int) := by omega
    have e1 : bytesP 32 (some s) = (s.take 32, rf (s.drop 32) 0) := by
      have h : 32 ≤ s.length := by omega
      simp only [bytesP, if_pos h]; rfl
    have hsl : (s.drop 32).length ≤ 1099511627776 := by rw [List.length_drop]; omega
    have hd : s.drop (Int.toNat 32) = s.drop 32 := rfl
    have ht : s.take (Int.toNat 32) = s.take 32 := rfl
    generalize s.take 32 = t at *
    generalize s.drop 32 = s1 at *
    have c1 := fun b => r_List b s1 0 7 6 hsl (by decide)
    focus (
 (refine W.seq (W.region ?_))
 (refine J.alloc (by simp only [List.map_cons, List.map_nil]; rfl) rfl rfl ?_; intro b')
 (refine Jx.assign rfl rfl (J.nil (N.seq (W.seq (W.seq (W.region (Jx.move rfl rfl (Jx.lenS rfl rfl ?_))))))))
 (refine Jx.lssI rfl rfl rfl (J.nil (N.seq (W.cF rfl ?_))))
 (refine W.skip (N.seq (W.seq (W.region (Jx.move rfl rfl ?_)))))
 (refine Jx.sliceSl rfl rfl (by decide) h32' rfl ?_; rw [hd])
 (refine Jx.buildB rfl rfl rfl rfl rfl ?_)
 (refine J.boxAg rfl rfl ?_; intro b')
 (refine Jx.assign rfl rfl (J.nil (N.seq (W.seq (W.region (Jx.move rfl rfl ?_))))))
 (refine J.call1 0 ((c1 _)) rfl (evs_args rfl) rfl (by rintro _ _ ⟨l, s2, c2, rfl, rfl, hs2, e2⟩; exact ⟨_, rfl⟩) ?_; rintro _ _ ⟨l, s2, c2, rfl, ⟨⟩, hs2, e2⟩; simp only [la4, la5])
 (refine Jx.assign rfl rfl (J.nil (N.seq (W.seq (W.region (Jx.move rfl rfl ?_))))))
 (refine Jx.sliceSh rfl rfl (by decide) h32' rfl ?_; rw [ht])
 (refine Jx.move rfl rfl (Jx.buildB rfl rfl rfl rfl rfl ?_))
 (refine J.alloc (by simp only [List.map_cons, List.map_nil]; rfl) rfl rfl ?_; intro b')
 (refine J.storeAll rfl rfl rfl 0 rfl rfl rfl ?_)
 (refine J.nil (N.seq (W.seq (W.seq (W.region (Jx.move rfl rfl ?_))))))
 (refine J.call1 1 ((r_End _ s2 c2)) rfl (evs_args rfl) rfl (by rintro _ _ ⟨e, s3, c3, rfl, rfl, he⟩; exact ⟨_, rfl⟩) ?_; rintro _ _ ⟨e, s3, c3, rfl, ⟨⟩, he⟩; simp only [la4, la5])
 (refine Jx.neqI rfl rfl rfl (Jx.move rfl rfl ?_))
 (refine' J.guardOr rfl rfl rfl rfl rfl rfl rfl rfl (fun _ => ?_) ?_; rotate_left)
 (refine J.gY rfl rfl rfl ?_)
 (refine Jx.loadAll rfl 0 rfl rfl rfl ?_)
 (refine J.gY rfl rfl rfl ?_)
 (refine J.cP (rmay_ok ⟨t, l⟩) (evs_args rfl) rfl ?_; try simp only)
 (refine J.gY rfl rfl rfl ?_)
 (refine Jx.not rfl rfl (J.nil ?_))
 (refine N.joinedN rfl rfl rfl)
 (refine J.nil (N.seq ?_))
 (refine id ?_; rotate_left))
    have hr : ReadC 7 6 s ⟨t, l⟩ (rf s2 c2) := ⟨_, e1, e2⟩
    refine W.cond rfl (fun hb => ?_) (fun hb => ?_)
    · focus (
 (refine W.seq (W.region (Jx.buildB rfl rfl rfl rfl rfl ?_)))
 (refine J.storeAll rfl rfl rfl 2 rfl rfl rfl ?_)
 (refine Jx.assign rfl rfl (J.nil (N.seq (W.ret (N.noGotoRet ?_)))))
 (refine id ?_; rotate_left))
      refine N.objSub 2 (ctC ct0) rfl ctz_sub rfl ?_
      refine N.retD (rs := [.cell 2 tCt, .tmp 3]) (L1 := []) rfl (.cell rfl 2 rfl agCt (.tmp rfl .nil)) (List.nil_sublist _) ⟨⟨none, fun y hy hz => ?_, rfl⟩, rfl⟩
      obtain ⟨rfl, h2⟩ := hr.whole (by decide) (by decide) hy hz
      rw [he.2 h2, hy] at hb
      simp at hb
    · focus (
 (refine W.skip (N.seq (W.seq (W.region (Jx.loadAll rfl 0 rfl rfl rfl ?_)))))
 (refine J.storeAll rfl rfl rfl 2 rfl rfl rfl ?_)
 (refine Jx.assign rfl rfl (J.nil (N.seq (W.ret ?_))))
 (refine id ?_; rotate_left))
      refine N.retD (rs := [.cell 2 tCt, .tmp 3]) (L1 := []) rfl (.cell rfl 2 rfl agCt (.tmp rfl .nil)) (List.nil_sublist _) ⟨⟨some ⟨t, l⟩, ?_, rfl⟩, rfl⟩
      simp only [Bool.or_eq_false_iff, decide_eq_false_iff_not, Bool.not_eq_false'] at hb
      rw [he.1 (by omega)] at hr
      exact ⟨hb.2, hr.sound⟩
theorem sameC_ok (x y : Ct) (hb : x.signers.length ≤ 1048576) : FnC Tryz.prog 52 [.agg (ctC x), .agg (ctC y)] [] (fun v L => v = bool (decide (x = y)) ∧ L = []) := by
  have c := same_ok x.signers y.signers hb
  refine FnC.intro Tryz.func52 rfl Tryz.ntmps52 rfl fun Z w0 hG => ?_
  focus (
 (refine W.seq (W.region ?_))
 (refine J.boxAg rfl rfl ?_; intro b')
 (refine J.boxAg rfl rfl ?_; intro b')
 (refine Jx.assign rfl rfl (J.nil (N.seq (W.seq (W.region (Jx.fieldAddr rfl rfl ?_))))))
 (refine Jx.load rfl 1 rfl rfl rfl ?_)
 (refine Jx.fieldAddr rfl rfl ?_)
 (refine Jx.load rfl 0 rfl rfl rfl ?_)
 (refine Jx.eqlS rfl rfl rfl (Jx.move rfl rfl ?_))
 (refine' J.guardAnd rfl rfl rfl rfl rfl rfl rfl rfl (fun _ => ?_) ?_; rotate_left)
 (refine J.gY rfl rfl rfl ?_)
 (refine Jx.fieldAddr rfl rfl ?_)
 (refine J.gY rfl rfl rfl ?_)
 (refine Jx.load rfl 1 rfl rfl rfl ?_)
 (refine J.gY rfl rfl rfl ?_)
 (refine Jx.fieldAddr rfl rfl ?_)
 (refine J.gY rfl rfl rfl ?_)
 (refine Jx.load rfl 0 rfl rfl rfl ?_)
 (refine J.gY rfl rfl rfl ?_)
 (refine J.call (c) rfl (evs_args rfl) rfl ?_; rintro _ _ ⟨rfl, rfl⟩; simp only [la1, la2, la3])
 (refine J.nil ?_)
 (refine N.joinedN rfl rfl rfl)
 (refine Jx.assign rfl rfl (J.nil (N.seq (W.ret ?_))))
 (refine id ?_; rotate_left))
  refine N.retD (rs := [.tmp 4]) (L1 := []) rfl (.tmp rfl .nil) (List.nil_sublist _) ⟨congrArg Sse.bool ?_, rfl⟩
  rw [Bool.eq_iff_iff]
  simp only [Bool.and_eq_true, decide_eq_true_eq]
  exact ⟨fun h => Ct.ext' h.1 h.2, fun h => by subst h; exact ⟨rfl, rfl⟩⟩
theorem bbare_ok (c : Ct) : FnC Tryz.prog 32 [.agg (ctC c)] [] (fun v L => v = bool (bareCt c) ∧ L = []) := by
  refine FnC.intro Tryz.func32 rfl Tryz.ntmps32 rfl fun Z w0 hG => ?_
  focus (
 (refine W.seq (W.region ?_))
 (refine J.boxAg rfl rfl ?_; intro b')
 (refine Jx.assign rfl rfl (J.nil (N.seq (W.seq (W.region (Jx.fieldAddr rfl rfl ?_))))))
 (refine Jx.load rfl 0 rfl rfl rfl ?_)
 (refine Jx.eqlS rfl rfl rfl (Jx.move rfl rfl ?_))
 (refine' J.guardAnd rfl rfl rfl rfl rfl rfl rfl rfl (fun _ => ?_) ?_; rotate_left)
 (refine J.gY rfl rfl rfl ?_)
 (refine Jx.fieldAddr rfl rfl ?_)
 (refine J.gY rfl rfl rfl ?_)
 (refine Jx.load rfl 0 rfl rfl rfl ?_)
 (refine J.gY rfl rfl rfl ?_)
 (refine Jx.lenSl rfl rfl ?_)
 (refine J.gY rfl rfl rfl ?_)
 (refine Jx.eqlI rfl rfl rfl (J.nil ?_))
 (refine N.joinedN rfl rfl rfl)
 (refine Jx.assign rfl rfl (J.nil (N.seq (W.ret ?_))))
 (refine id ?_; rotate_left))
  exact N.retD (rs := [.tmp 2]) (L1 := []) rfl (.tmp rfl .nil) (List.nil_sublist _) ⟨rfl, rfl⟩
theorem vbare_ok (c : Ct) : FnC Tryz.prog 56 [.agg (ctC c)] [] (fun v L => v = bool (bareCt c) ∧ L = []) := by
  refine FnC.intro Tryz.func56 rfl Tryz.ntmps56 rfl fun Z w0 hG => ?_
  focus (
 (refine W.seq (W.region ?_))
 (refine J.boxAg rfl rfl ?_; intro b')
 (refine Jx.assign rfl rfl (J.nil (N.seq (W.seq (W.region (Jx.fieldAddr rfl rfl ?_))))))
 (refine Jx.load rfl 0 rfl rfl rfl ?_)
 (refine Jx.eqlS rfl rfl rfl (Jx.move rfl rfl ?_))
 (refine' J.guardAnd rfl rfl rfl rfl rfl rfl rfl rfl (fun _ => ?_) ?_; rotate_left)
 (refine J.gY rfl rfl rfl ?_)
 (refine Jx.fieldAddr rfl rfl ?_)
 (refine J.gY rfl rfl rfl ?_)
 (refine Jx.load rfl 0 rfl rfl rfl ?_)
 (refine J.gY rfl rfl rfl ?_)
 (refine Jx.lenSl rfl rfl ?_)
 (refine J.gY rfl rfl rfl ?_)
 (refine Jx.eqlI rfl rfl rfl (J.nil ?_))
 (refine N.joinedN rfl rfl rfl)
 (refine Jx.assign rfl rfl (J.nil (N.seq (W.ret ?_))))
 (refine id ?_; rotate_left))
  exact N.retD (rs := [.tmp 2]) (L1 := []) rfl (.tmp rfl .nil) (List.nil_sublist _) ⟨rfl, rfl⟩
theorem rbare_ok (c : Ct) : FnC Tryz.prog 74 [.agg (ctC c)] [] (fun v L => v = bool (bareCt c) ∧ L = []) := by
  refine FnC.intro Tryz.func74 rfl Tryz.ntmps74 rfl fun Z w0 hG => ?_
  focus (
 (refine W.seq (W.region ?_))
 (refine J.boxAg rfl rfl ?_; intro b')
 (refine Jx.assign rfl rfl (J.nil (N.seq (W.seq (W.region (Jx.fieldAddr rfl rfl ?_))))))
 (refine Jx.load rfl 0 rfl rfl rfl ?_)
 (refine Jx.eqlS rfl rfl rfl (Jx.move rfl rfl ?_))
 (refine' J.guardAnd rfl rfl rfl rfl rfl rfl rfl rfl (fun _ => ?_) ?_; rotate_left)
 (refine J.gY rfl rfl rfl ?_)
 (refine Jx.fieldAddr rfl rfl ?_)
 (refine J.gY rfl rfl rfl ?_)
 (refine Jx.load rfl 0 rfl rfl rfl ?_)
 (refine J.gY rfl rfl rfl ?_)
 (refine Jx.lenSl rfl rfl ?_)
 (refine J.gY rfl rfl rfl ?_)
 (refine Jx.eqlI rfl rfl rfl (J.nil ?_))
 (refine N.joinedN rfl rfl rfl)
 (refine Jx.assign rfl rfl (J.nil (N.seq (W.ret ?_))))
 (refine id ?_; rotate_left))
  exact N.retD (rs := [.tmp 2]) (L1 := []) rfl (.tmp rfl .nil) (List.nil_sublist _) ⟨rfl, rfl⟩
end Go.Proofs.YtlfdhkahiaammaaGreatDoor
namespace Go.Proofs.YtlfdhkahiaammaaGreatDoor
open Go Go.Sse
set_option linter.unusedVariables false
set_option linter.unusedSimpArgs false
set_option maxRecDepth 10000
abbrev tHd : Nat := 24
abbrev fnV (f : Nat) : SV := .val (.func (.func f) #[] #[])
theorem hin_ok (n m : Int) : FnC Tryz.prog 129 [int n, int m] [] (fun v L => v = bool (decide (0 ≤ n) && decide (n ≤ m)) ∧ L = []) := by
  refine FnC.intro Tryz.func129 rfl Tryz.ntmps129 rfl fun Z w0 hG => ?_
  focus (
 (refine W.seq (W.region (Jx.assign rfl rfl (J.nil (N.seq (W.seq (W.region (Jx.move rfl rfl (Jx.geqI rfl rfl rfl (Jx.move rfl rfl ?_))))))))))
 (refine' J.guardAnd rfl rfl rfl rfl rfl rfl rfl rfl (fun _ => ?_) ?_; rotate_left)
 (refine J.gY rfl rfl rfl ?_)
 (refine Jx.move rfl rfl (J.gY rfl rfl rfl ?_))
 (refine Jx.move rfl rfl (J.gY rfl rfl rfl ?_))
 (refine Jx.leqI rfl rfl rfl (J.nil ?_))
 (refine N.joinedN rfl rfl rfl)
 (refine Jx.assign rfl rfl (J.nil (N.seq (W.ret ?_))))
 (refine id ?_; rotate_left))
  exact N.ret (rs := [.tmp 4]) rfl (.tmp rfl .nil) ⟨rfl, rfl⟩
theorem hsum_ok (s : List UInt8) : FnC Tryz.prog 130 [str s] [] (fun v L => v = bool (sumB s) ∧ L = []) := by
  refine FnC.intro Tryz.func130 rfl Tryz.ntmps130 rfl fun Z w0 hG => ?_
  focus (
 (refine W.seq (W.region (Jx.assign rfl rfl (J.nil (N.seq (W.seq (W.region (Jx.move rfl rfl (Jx.lenS rfl rfl ?_)))))))))
 (refine Jx.eqlI rfl rfl rfl (Jx.assign rfl rfl (J.nil (N.seq (W.ret ?_)))))
 (refine id ?_; rotate_left))
  exact N.ret (rs := [.tmp 2]) rfl (.tmp rfl .nil) ⟨rfl, rfl⟩
theorem hodd_ok (s : List UInt8) : FnC Tryz.prog 131 [str s] [] (fun v L => v = bool (!sumB s) ∧ L = []) := by
  have c := hsum_ok s
  refine FnC.intro Tryz.func131 rfl Tryz.ntmps131 rfl fun Z w0 hG => ?_
  focus (
 (refine W.seq (W.region (Jx.assign rfl rfl (J.nil (N.seq (W.seq (W.region (Jx.move rfl rfl ?_))))))))
 (refine J.call (c) rfl (evs_args rfl) rfl ?_; rintro _ _ ⟨rfl, rfl⟩; simp only [la1, la2, la3])
 (refine Jx.not rfl rfl (Jx.assign rfl rfl (J.nil (N.seq (W.ret ?_)))))
 (refine id ?_; rotate_left))
  exact N.ret (rs := [.tmp 2]) rfl (.tmp rfl .nil) ⟨rfl, rfl⟩
theorem hmaybe_ok (s : List UInt8) : FnC Tryz.prog 133 [str s] [] (fun v L => v = bool (maybeB s) ∧ L = []) := by
  have c := hsum_ok s
  refine FnC.intro Tryz.func133 rfl Tryz.ntmps133 rfl fun Z w0 hG => ?_
  focus (
 (refine W.seq (W.region (Jx.assign rfl rfl (J.nil (N.seq (W.seq (W.region (Jx.move rfl rfl (Jx.eqlS rfl rfl rfl (Jx.move rfl rfl ?_))))))))))
 (refine' J.guardOr rfl rfl rfl rfl rfl rfl rfl rfl (fun _ => ?_) ?_; rotate_left)
 (refine J.gY rfl rfl rfl ?_)
 (refine Jx.move rfl rfl (J.gY rfl rfl rfl ?_))
 (refine J.call (c) rfl (evs_args rfl) rfl ?_; rintro _ _ ⟨rfl, rfl⟩; simp only [la1, la2, la3])
 (refine J.nil ?_)
 (refine N.joinedN rfl rfl rfl)
 (refine Jx.assign rfl rfl (J.nil (N.seq (W.ret ?_))))
 (refine id ?_; rotate_left))
  exact N.ret (rs := [.tmp 2]) rfl (.tmp rfl .nil) ⟨rfl, rfl⟩
def idxP (l : List (List UInt8)) (p : List UInt8 → Bool) : Int := match l.findIdx? p with
  | some i => (i : Int)
  | none => -1
theorem indexF_ok (l : List (List UInt8)) (hl : l.length ≤ 1048576) : FnC Tryz.prog 148 [ssl l, fnV 131] [] (fun v L => v = int (idxP l fun s => !sumB s) ∧ L = []) := by
  have c := fun i => hodd_ok (l.getD i [])
  refine FnC.intro Tryz.func148 rfl Tryz.ntmps148 rfl fun Z w0 hG => ?_
  focus (
 (refine W.seq (W.region (Jx.assign rfl rfl (J.nil (N.seq (W.seq (W.seq (W.region (Jx.move rfl rfl (Jx.lenSl rfl rfl ?_))))))))))
 (refine Jx.move rfl rfl (J.nil (N.seq (W.block ?_))))
 (refine id ?_; rotate_left))
  refine W.loop (α := Nat) (fun i => [(8, int (i : Int)), (7, int l.length), (1, fnV 131), (0, ssl l)]) (fun _ => []) (fun i => i ≤ l.length ∧ ∀ y ∈ l.take i, (!sumB y) = false) (fun i => l.length - i) 0 (by simp) rfl ⟨ref0 rfl, ref0 rfl, ref0 rfl, ref0 rfl, trivial⟩ ?_
  rintro i ⟨hi, hn⟩
  by_cases h1 : i < l.length
  · have ci := c i
    cases h2 : (!sumB (l.getD i [])) with
    | true =>
      rw [h2] at ci
      have := findIdx_take (p := fun s => !sumB s) hn h1 [] h2
      focus (
 (refine W.seq (W.region (Jx.lssI rfl rfl rfl (J.nil (N.seq (W.seq (W.cT rfl ?_)))))))
 (refine W.skip (N.seq (W.seq (W.block (W.seq (W.region (Jx.move rfl rfl (Jx.assign rfl rfl (J.nil (N.seq (W.seq (W.region (Jx.move rfl rfl (Jx.move rfl rfl ?_))))))))))))))
 (refine Jx.move rfl rfl (Jx.indexEl rfl rfl (by assumption) rfl rfl ?_))
 (refine Jx.loadPP rfl rfl ?_)
 (refine J.callV (us := []) (vs := []) (args := [str (l.getD i [])]) (Lc := []) rfl ci rfl (evs_args rfl) rfl ?_; rintro _ _ ⟨rfl, rfl⟩; simp only [la1, la2, la3])
 (refine J.nil (N.seq (W.cT rfl ?_)))
 (refine W.seq (W.region (Jx.move rfl rfl (Jx.assign rfl rfl (J.nil (N.seq (W.ret (N.noGotoRet (N.noGotoRet (N.noGotoRet (N.noGotoRet (N.noGotoRet ?_))))))))))))
 (refine id ?_; rotate_left))
      exact N.ret (rs := [.tmp 4]) rfl (.tmp rfl .nil) ⟨by rw [idxP, this]; rfl, rfl⟩
    | false =>
      rw [h2] at ci
      focus (
 (refine W.seq (W.region (Jx.lssI rfl rfl rfl (J.nil (N.seq (W.seq (W.cT rfl ?_)))))))
 (refine W.skip (N.seq (W.seq (W.block (W.seq (W.region (Jx.move rfl rfl (Jx.assign rfl rfl (J.nil (N.seq (W.seq (W.region (Jx.move rfl rfl (Jx.move rfl rfl ?_))))))))))))))
 (refine Jx.move rfl rfl (Jx.indexEl rfl rfl (by assumption) rfl rfl ?_))
 (refine Jx.loadPP rfl rfl ?_)
 (refine J.callV (us := []) (vs := []) (args := [str (l.getD i [])]) (Lc := []) rfl ci rfl (evs_args rfl) rfl ?_; rintro _ _ ⟨rfl, rfl⟩; simp only [la1, la2, la3])
 (refine J.nil (N.seq (W.cF rfl ?_)))
 (refine W.skip (N.seq (W.region (Jx.add64 rfl rfl (by omega) rfl ?_))))
 (refine Jx.move rfl rfl (J.nil ?_))
 (refine id ?_; rotate_left))
      refine N.round (i + 1) ⟨h1, fun y hy => ?_⟩ (by omega) rfl ⟨ref0 rfl, ref0 rfl, ref0 rfl, ref0 rfl, trivial⟩
      rw [List.take_add_one, List.getElem?_eq_getElem h1] at hy
      rcases List.mem_append.1 hy with hy | hy
      · exact hn y hy
      · simp only [Option.toList_some, List.mem_singleton] at hy
        subst hy
        rw [List.getD_eq_getElem?_getD, List.getElem?_eq_getElem h1] at h2
        exact h2
  · have : l.findIdx? (fun s => !sumB s) = none := List.findIdx?_eq_none_iff.2 fun y hy => hn y (by rw [List.take_of_length_le (by omega)]; exact hy)
    focus (
 (refine W.seq (W.region (Jx.lssI rfl rfl rfl (J.nil (N.seq (W.seq (W.cF rfl ?_)))))))
 (refine W.exit (N.seq (W.seq (W.region (Jx.assign rfl rfl (J.nil (N.seq (W.ret ?_))))))))
 (refine id ?_; rotate_left))
    exact N.ret (rs := [.tmp 4]) rfl (.tmp rfl .nil) ⟨by rw [idxP, this]; rfl, rfl⟩
theorem idxP_any (l : List (List UInt8)) (p : List UInt8 → Bool) : decide (0 ≤ idxP l p) = l.any p := by
  unfold idxP
  cases h : l.findIdx? p with
  | none =>
    have := List.findIdx?_eq_none_iff.1 h
    have ha : l.any p = false := List.any_eq_false.2 fun x hx => by rw [this x hx]; simp
    rw [ha]; rfl
  | some i =>
    obtain ⟨hi, hp, _⟩ := List.findIdx?_eq_some_iff_getElem.1 h
    have ha : l.any p = true := List.any_eq_true.2 ⟨_, List.getElem_mem hi, hp⟩
    rw [ha]
    exact decide_eq_true (by show (0 : Int) ≤ (i : Int); omega)
theorem contains_ok (l : List (List UInt8)) (hl : l.length ≤ 1048576) : FnC Tryz.prog 132 [ssl l, fnV 131] [] (fun v L => v = bool (l.any fun s => !sumB s) ∧ L = []) := by
  have c := indexF_ok l hl
  have h := idxP_any l fun s => !sumB s
  refine FnC.intro Tryz.func132 rfl Tryz.ntmps132 rfl fun Z w0 hG => ?_
  focus (
 (refine W.seq (W.region (Jx.assign rfl rfl (J.nil (N.seq (W.seq (W.region (Jx.move rfl rfl (Jx.move rfl rfl ?_)))))))))
 (refine J.call (c) rfl (evs_args rfl) rfl ?_; rintro _ _ ⟨rfl, rfl⟩; simp only [la1, la2, la3])
 (refine Jx.geqI rfl rfl rfl (Jx.assign rfl rfl (J.nil (N.seq (W.ret ?_)))))
 (refine id ?_; rotate_left))
  exact N.ret (rs := [.tmp 4]) rfl (.tmp rfl .nil) ⟨congrArg Sse.bool h, rfl⟩
theorem hnumbers_ok (h : Hd) : FnC Tryz.prog 108 [.agg (hdC h)] [] (fun v L => v = bool (numbersH h) ∧ L = []) := by
  have c1 := hin_ok h.height 1048576
  have c2 := hin_ok h.epoch 1048576
  have c3 := hin_ok h.view 1048576
  refine FnC.intro Tryz.func108 rfl Tryz.ntmps108 rfl fun Z w0 hG => ?_
  focus (
 (refine W.seq (W.region ?_))
 (refine J.boxAg rfl rfl ?_; intro b')
 (refine Jx.assign rfl rfl (J.nil (N.seq (W.seq (W.region (Jx.assign rfl rfl (J.nil (N.seq (W.seq (W.region (Jx.move rfl rfl (Jx.fieldAddr rfl rfl ?_))))))))))))
 (refine Jx.load rfl 0 rfl rfl rfl ?_)
 (refine J.callV (us := []) (vs := []) (args := [int h.height, int 1048576]) (Lc := []) rfl c1 rfl (evs_args rfl) rfl ?_; rintro _ _ ⟨rfl, rfl⟩; simp only [la1, la2, la3])
 (refine Jx.move rfl rfl ?_)
 (refine' J.guardAnd rfl rfl rfl rfl rfl rfl rfl rfl (fun _ => ?_) ?_; rotate_left)
 (refine J.gY rfl rfl rfl ?_)
 (refine Jx.move rfl rfl (J.gY rfl rfl rfl ?_))
 (refine Jx.fieldAddr rfl rfl ?_)
 (refine J.gY rfl rfl rfl ?_)
 (refine Jx.load rfl 0 rfl rfl rfl ?_)
 (refine J.gY rfl rfl rfl ?_)
 (refine J.callV (us := []) (vs := []) (args := [int h.epoch, int 1048576]) (Lc := []) rfl c2 rfl (evs_args rfl) rfl ?_; rintro _ _ ⟨rfl, rfl⟩; simp only [la1, la2, la3])
 (refine J.nil ?_)
 (refine N.joinedN rfl rfl rfl)
 (refine Jx.move rfl rfl ?_)
 (refine' J.guardAnd rfl rfl rfl rfl rfl rfl rfl rfl (fun _ => ?_) ?_; rotate_left)
 (refine J.gY rfl rfl rfl ?_)
 (refine Jx.move rfl rfl (J.gY rfl rfl rfl ?_))
 (refine Jx.fieldAddr rfl rfl ?_)
 (refine J.gY rfl rfl rfl ?_)
 (refine Jx.load rfl 0 rfl rfl rfl ?_)
 (refine J.gY rfl rfl rfl ?_)
 (refine J.callV (us := []) (vs := []) (args := [int h.view, int 1048576]) (Lc := []) rfl c3 rfl (evs_args rfl) rfl ?_; rintro _ _ ⟨rfl, rfl⟩; simp only [la1, la2, la3])
 (refine J.nil ?_)
 (refine N.joinedN rfl rfl rfl)
 (refine Jx.assign rfl rfl (J.nil (N.seq (W.ret ?_))))
 (refine id ?_; rotate_left))
  exact N.retD (rs := [.tmp 2]) (L1 := []) rfl (.tmp rfl .nil) (List.nil_sublist _) ⟨rfl, rfl⟩
theorem hfirst_ok (h : Hd) : FnC Tryz.prog 109 [.agg (hdC h)] [] (fun v L => v = bool (firstH h) ∧ L = []) := by
  have c1 := hsum_ok h.parent
  refine FnC.intro Tryz.func109 rfl Tryz.ntmps109 rfl fun Z w0 hG => ?_
  by_cases h0 : 0 < h.height
  · focus (
 (refine W.seq (W.region ?_))
 (refine J.boxAg rfl rfl ?_; intro b')
 (refine Jx.assign rfl rfl (J.nil (N.seq (W.seq (W.seq (W.region (Jx.fieldAddr rfl rfl ?_)))))))
 (refine Jx.load rfl 0 rfl rfl rfl ?_)
 (refine Jx.gtrI rfl rfl rfl (J.nil (N.seq (W.cT rfl ?_))))
 (refine W.seq (W.region (Jx.fieldAddr rfl rfl ?_)))
 (refine Jx.load rfl 0 rfl rfl rfl ?_)
 (refine J.call (c1) rfl (evs_args rfl) rfl ?_; rintro _ _ ⟨rfl, rfl⟩; simp only [la1, la2, la3])
 (refine Jx.assign rfl rfl (J.nil (N.seq (W.ret (N.noGotoRet ?_)))))
 (refine id ?_; rotate_left))
    exact N.retD (rs := [.tmp 2]) (L1 := []) rfl (.tmp rfl .nil) (List.nil_sublist _) ⟨by rw [firstH, if_pos h0]; rfl, rfl⟩
  · focus (
 (refine W.seq (W.region ?_))
 (refine J.boxAg rfl rfl ?_; intro b')
 (refine Jx.assign rfl rfl (J.nil (N.seq (W.seq (W.seq (W.region (Jx.fieldAddr rfl rfl ?_)))))))
 (refine Jx.load rfl 0 rfl rfl rfl ?_)
 (refine Jx.gtrI rfl rfl rfl (J.nil (N.seq (W.cF rfl ?_))))
 (refine W.skip (N.seq (W.seq (W.region (Jx.fieldAddr rfl rfl ?_)))))
 (refine Jx.load rfl 0 rfl rfl rfl ?_)
 (refine Jx.eqlS rfl rfl rfl (Jx.move rfl rfl ?_))
 (refine' J.guardAnd rfl rfl rfl rfl rfl rfl rfl rfl (fun _ => ?_) ?_; rotate_left)
 (refine J.gY rfl rfl rfl ?_)
 (refine Jx.fieldAddr rfl rfl ?_)
 (refine J.gY rfl rfl rfl ?_)
 (refine Jx.load rfl 0 rfl rfl rfl ?_)
 (refine J.gY rfl rfl rfl ?_)
 (refine Jx.eqlI rfl rfl rfl (J.nil ?_))
 (refine N.joinedN rfl rfl rfl)
 (refine Jx.move rfl rfl ?_)
 (refine' J.guardAnd rfl rfl rfl rfl rfl rfl rfl rfl (fun _ => ?_) ?_; rotate_left)
 (refine J.gY rfl rfl rfl ?_)
 (refine Jx.fieldAddr rfl rfl ?_)
 (refine J.gY rfl rfl rfl ?_)
 (refine Jx.load rfl 0 rfl rfl rfl ?_)
 (refine J.gY rfl rfl rfl ?_)
 (refine Jx.eqlI rfl rfl rfl (J.nil ?_))
 (refine N.joinedN rfl rfl rfl)
 (refine Jx.move rfl rfl ?_)
 (refine' J.guardAnd rfl rfl rfl rfl rfl rfl rfl rfl (fun _ => ?_) ?_; rotate_left)
 (refine J.gY rfl rfl rfl ?_)
 (refine Jx.fieldAddr rfl rfl ?_)
 (refine J.gY rfl rfl rfl ?_)
 (refine Jx.load rfl 0 rfl rfl rfl ?_)
 (refine J.nil ?_)
 (refine N.joinedN rfl rfl rfl)
 (refine Jx.assign rfl rfl (J.nil (N.seq (W.ret ?_))))
 (refine id ?_; rotate_left))
    exact N.retD (rs := [.tmp 2]) (L1 := []) rfl (.tmp rfl .nil) (List.nil_sublist _) ⟨by rw [firstH, if_neg h0]; rfl, rfl⟩
set_option maxHeartbeats 2000000 in
theorem hsums_ok (h : Hd) (hl : h.skips.length ≤ 1048576) : FnC Tryz.prog 110 [.agg (hdC h)] [] (fun v L => v = bool (sumsH h) ∧ L = []) := by
  have c1 := hsum_ok h.txs
  have c2 := hsum_ok h.members
  have c3 := hsum_ok h.next
  have c4 := hmaybe_ok h.state
  have c5 := hmaybe_ok h.receipts
  have c6 := links_ok h.height
  have c7 := contains_ok h.skips hl
  refine FnC.intro Tryz.func110 rfl Tryz.ntmps110 rfl fun Z w0 hG => ?_
  by_cases h0 : 0 < h.height
  · by_cases h1 : (h.skips.length : Int) = ((linksI h.height).length : Int)
    · focus (
 (refine W.seq (W.region ?_))
 (refine J.boxAg rfl rfl ?_; intro b')
 (refine Jx.assign rfl rfl (J.nil (N.seq (W.seq (W.region (Jx.assign rfl rfl (J.nil (N.seq (W.seq (W.region (Jx.assign rfl rfl (J.nil (N.seq (W.seq ?_))))))))))))))
 (refine W.block (W.seq (W.block (W.seq (W.block (W.seq (W.seq (W.seq (W.region (Jx.fieldAddr rfl rfl ?_))))))))))
 (refine Jx.load rfl 0 rfl rfl rfl ?_)
 (refine Jx.gtrI rfl rfl rfl (Jx.assign rfl rfl (J.nil (N.seq (W.cT rfl ?_)))))
 (refine W.exit (N.seq ?_))
 (refine W.draw follows ?_)
 (refine JD.calm rfl (by decide +kernel) ?_)
 (refine Cx.fieldAddr rfl rfl ?_)
 (refine Cx.load rfl 0 rfl rfl rfl ?_)
 (refine Cx.lenSl rfl rfl ?_)
 (refine Cx.fieldAddr rfl rfl ?_)
 (refine Cx.load rfl 0 rfl rfl rfl ?_)
 (refine SegC.q (Qs.call (Lc := []) (c6) (fun s L' h => h) (List.Perm.refl _) (evs_args rfl)) rfl ?_)
 (refine Cx.lenSl rfl rfl ?_)
 (refine Cx.eqlI rfl rfl rfl ?_)
 (refine Cx.move rfl rfl ?_)
 (refine SegC.gY rfl rfl rfl ?_)
 (refine Cx.fieldAddr rfl rfl ?_)
 (refine SegC.gY rfl rfl rfl ?_)
 (refine Cx.load rfl 0 rfl rfl rfl ?_)
 (refine SegC.gY rfl rfl rfl ?_)
 (refine Cx.move rfl rfl ?_)
 (refine SegC.gY rfl rfl rfl ?_)
 (refine SegC.q (Qs.call (Lc := []) (c7) (fun s L' h => h) (List.Perm.refl _) (evs_args rfl)) rfl ?_)
 (refine SegC.gY rfl rfl rfl ?_)
 (refine Cx.not rfl rfl ?_)
 (refine Cx.pickT rfl (by first | rfl | assumption | (exact decide_eq_true (by first | assumption | omega | rfl)) | (exact decide_eq_false (by first | assumption | omega | rfl)) | (simp; done) | (simp; omega)) rfl rfl ?_)
 (refine Cx.assign rfl rfl ?_)
 (refine SegC.nil ?_)
 (refine N.seq (W.seq (W.seq (W.region (Jx.move rfl rfl (Jx.move rfl rfl ?_))))))
 (refine' J.guardAnd rfl rfl rfl rfl rfl rfl rfl rfl (fun _ => ?_) ?_; rotate_left)
 (refine J.gY rfl rfl rfl ?_)
 (refine Jx.fieldAddr rfl rfl ?_)
 (refine J.gY rfl rfl rfl ?_)
 (refine Jx.load rfl 0 rfl rfl rfl ?_)
 (refine J.gY rfl rfl rfl ?_)
 (refine J.call (c1) rfl (evs_args rfl) rfl ?_; rintro _ _ ⟨rfl, rfl⟩; simp only [la1, la2, la3])
 (refine J.nil ?_)
 (refine N.joinedN rfl rfl rfl)
 (refine Jx.move rfl rfl ?_)
 (refine' J.guardAnd rfl rfl rfl rfl rfl rfl rfl rfl (fun _ => ?_) ?_; rotate_left)
 (refine J.gY rfl rfl rfl ?_)
 (refine Jx.fieldAddr rfl rfl ?_)
 (refine J.gY rfl rfl rfl ?_)
 (refine Jx.load rfl 0 rfl rfl rfl ?_)
 (refine J.gY rfl rfl rfl ?_)
 (refine J.call (c2) rfl (evs_args rfl) rfl ?_; rintro _ _ ⟨rfl, rfl⟩; simp only [la1, la2, la3])
 (refine J.nil ?_)
 (refine N.joinedN rfl rfl rfl)
 (refine Jx.move rfl rfl ?_)
 (refine' J.guardAnd rfl rfl rfl rfl rfl rfl rfl rfl (fun _ => ?_) ?_; rotate_left)
 (refine J.gY rfl rfl rfl ?_)
 (refine Jx.fieldAddr rfl rfl ?_)
 (refine J.gY rfl rfl rfl ?_)
 (refine Jx.load rfl 0 rfl rfl rfl ?_)
 (refine J.gY rfl rfl rfl ?_)
 (refine J.call (c3) rfl (evs_args rfl) rfl ?_; rintro _ _ ⟨rfl, rfl⟩; simp only [la1, la2, la3])
 (refine J.nil ?_)
 (refine N.joinedN rfl rfl rfl)
 (refine Jx.move rfl rfl ?_)
 (refine' J.guardAnd rfl rfl rfl rfl rfl rfl rfl rfl (fun _ => ?_) ?_; rotate_left)
 (refine J.gY rfl rfl rfl ?_)
 (refine Jx.fieldAddr rfl rfl ?_)
 (refine J.gY rfl rfl rfl ?_)
 (refine Jx.load rfl 0 rfl rfl rfl ?_)
 (refine J.gY rfl rfl rfl ?_)
 (refine J.call (c4) rfl (evs_args rfl) rfl ?_; rintro _ _ ⟨rfl, rfl⟩; simp only [la1, la2, la3])
 (refine J.nil ?_)
 (refine N.joinedN rfl rfl rfl)
 (refine Jx.move rfl rfl ?_)
 (refine' J.guardAnd rfl rfl rfl rfl rfl rfl rfl rfl (fun _ => ?_) ?_; rotate_left)
 (refine J.gY rfl rfl rfl ?_)
 (refine Jx.fieldAddr rfl rfl ?_)
 (refine J.gY rfl rfl rfl ?_)
 (refine Jx.load rfl 0 rfl rfl rfl ?_)
 (refine J.gY rfl rfl rfl ?_)
 (refine J.call (c5) rfl (evs_args rfl) rfl ?_; rintro _ _ ⟨rfl, rfl⟩; simp only [la1, la2, la3])
 (refine J.nil ?_)
 (refine N.joinedN rfl rfl rfl)
 (refine Jx.assign rfl rfl (J.nil (N.seq (W.ret (N.noGotoRet (N.noGotoRet (N.noGotoRet ?_)))))))
 (refine id ?_; rotate_left))
      refine N.retD (rs := [.tmp 2]) (L1 := []) rfl (.tmp rfl .nil) (List.nil_sublist _) ⟨congrArg Sse.bool ?_, rfl⟩
      rw [sumsH, if_pos h0, skipsH, decide_eq_true h1, Bool.true_and]; rfl
    · focus (
 (refine W.seq (W.region ?_))
 (refine J.boxAg rfl rfl ?_; intro b')
 (refine Jx.assign rfl rfl (J.nil (N.seq (W.seq (W.region (Jx.assign rfl rfl (J.nil (N.seq (W.seq (W.region (Jx.assign rfl rfl (J.nil (N.seq (W.seq ?_))))))))))))))
 (refine W.block (W.seq (W.block (W.seq (W.block (W.seq (W.seq (W.seq (W.region (Jx.fieldAddr rfl rfl ?_))))))))))
 (refine Jx.load rfl 0 rfl rfl rfl ?_)
 (refine Jx.gtrI rfl rfl rfl (Jx.assign rfl rfl (J.nil (N.seq (W.cT rfl ?_)))))
 (refine W.exit (N.seq ?_))
 (refine W.draw follows ?_)
 (refine JD.calm rfl (by decide +kernel) ?_)
 (refine Cx.fieldAddr rfl rfl ?_)
 (refine Cx.load rfl 0 rfl rfl rfl ?_)
 (refine Cx.lenSl rfl rfl ?_)
 (refine Cx.fieldAddr rfl rfl ?_)
 (refine Cx.load rfl 0 rfl rfl rfl ?_)
 (refine SegC.q (Qs.call (Lc := []) (c6) (fun s L' h => h) (List.Perm.refl _) (evs_args rfl)) rfl ?_)
 (refine Cx.lenSl rfl rfl ?_)
 (refine Cx.eqlI rfl rfl rfl ?_)
 (refine Cx.move rfl rfl ?_)
 (refine SegC.gN rfl rfl rfl rfl ?_)
 (refine SegC.gN rfl rfl rfl rfl ?_)
 (refine SegC.gN rfl rfl rfl rfl ?_)
 (refine SegC.gN rfl rfl rfl rfl ?_)
 (refine SegC.gN rfl rfl rfl rfl ?_)
 (refine Cx.pickF rfl (by first | rfl | assumption | (exact decide_eq_true (by first | assumption | omega | rfl)) | (exact decide_eq_false (by first | assumption | omega | rfl)) | (simp; done) | (simp; omega)) rfl rfl ?_)
 (refine Cx.assign rfl rfl ?_)
 (refine SegC.nil ?_)
 (refine N.seq (W.seq (W.seq (W.region (Jx.move rfl rfl (Jx.move rfl rfl (J.gN rfl rfl rfl rfl ?_)))))))
 (refine J.gN rfl rfl rfl rfl ?_)
 (refine J.gN rfl rfl rfl rfl ?_)
 (refine Jx.pF rfl rfl rfl ?_)
 (refine Jx.move rfl rfl (J.gN rfl rfl rfl rfl ?_))
 (refine J.gN rfl rfl rfl rfl ?_)
 (refine J.gN rfl rfl rfl rfl ?_)
 (refine Jx.pF rfl rfl rfl ?_)
 (refine Jx.move rfl rfl (J.gN rfl rfl rfl rfl ?_))
 (refine J.gN rfl rfl rfl rfl ?_)
 (refine J.gN rfl rfl rfl rfl ?_)
 (refine Jx.pF rfl rfl rfl ?_)
 (refine Jx.move rfl rfl (J.gN rfl rfl rfl rfl ?_))
 (refine J.gN rfl rfl rfl rfl ?_)
 (refine J.gN rfl rfl rfl rfl ?_)
 (refine Jx.pF rfl rfl rfl ?_)
 (refine Jx.move rfl rfl (J.gN rfl rfl rfl rfl ?_))
 (refine J.gN rfl rfl rfl rfl ?_)
 (refine J.gN rfl rfl rfl rfl ?_)
 (refine Jx.pF rfl rfl rfl ?_)
 (refine Jx.assign rfl rfl (J.nil (N.seq (W.ret (N.noGotoRet (N.noGotoRet (N.noGotoRet ?_)))))))
 (refine id ?_; rotate_left))
      refine N.retD (rs := [.tmp 2]) (L1 := []) rfl (.tmp rfl .nil) (List.nil_sublist _) ⟨congrArg Sse.bool ?_, rfl⟩
      rw [sumsH, if_pos h0, skipsH, decide_eq_false h1, Bool.false_and]; rfl
  · by_cases h1 : (h.skips.length : Int) = 0
    · focus (
 (refine W.seq (W.region ?_))
 (refine J.boxAg rfl rfl ?_; intro b')
 (refine Jx.assign rfl rfl (J.nil (N.seq (W.seq (W.region (Jx.assign rfl rfl (J.nil (N.seq (W.seq (W.region (Jx.assign rfl rfl (J.nil (N.seq (W.seq ?_))))))))))))))
 (refine W.block (W.seq (W.block (W.seq (W.block (W.seq (W.seq (W.seq (W.region (Jx.fieldAddr rfl rfl ?_))))))))))
 (refine Jx.load rfl 0 rfl rfl rfl ?_)
 (refine Jx.gtrI rfl rfl rfl (Jx.assign rfl rfl (J.nil (N.seq (W.cF rfl ?_)))))
 (refine W.skip (N.seq (W.seq (W.region (Jx.fieldAddr rfl rfl ?_)))))
 (refine Jx.load rfl 0 rfl rfl rfl ?_)
 (refine Jx.lenSl rfl rfl ?_)
 (refine Jx.eqlI rfl rfl rfl (Jx.assign rfl rfl (J.nil (N.seq (W.cT rfl ?_)))))
 (refine W.exit (N.seq (W.seq (W.seq (W.region (Jx.move rfl rfl (Jx.move rfl rfl (J.gY rfl rfl rfl ?_))))))))
 (refine Jx.fieldAddr rfl rfl ?_)
 (refine J.gY rfl rfl rfl ?_)
 (refine Jx.load rfl 0 rfl rfl rfl ?_)
 (refine J.gY rfl rfl rfl ?_)
 (refine J.call (c1) rfl (evs_args rfl) rfl ?_; rintro _ _ ⟨rfl, rfl⟩; simp only [la1, la2, la3])
 (refine Jx.pT rfl rfl rfl ?_)
 (refine Jx.move rfl rfl ?_)
 (refine' J.guardAnd rfl rfl rfl rfl rfl rfl rfl rfl (fun _ => ?_) ?_; rotate_left)
 (refine J.gY rfl rfl rfl ?_)
 (refine Jx.fieldAddr rfl rfl ?_)
 (refine J.gY rfl rfl rfl ?_)
 (refine Jx.load rfl 0 rfl rfl rfl ?_)
 (refine J.gY rfl rfl rfl ?_)
 (refine J.call (c2) rfl (evs_args rfl) rfl ?_; rintro _ _ ⟨rfl, rfl⟩; simp only [la1, la2, la3])
 (refine J.nil ?_)
 (refine N.joinedN rfl rfl rfl)
 (refine Jx.move rfl rfl ?_)
 (refine' J.guardAnd rfl rfl rfl rfl rfl rfl rfl rfl (fun _ => ?_) ?_; rotate_left)
 (refine J.gY rfl rfl rfl ?_)
 (refine Jx.fieldAddr rfl rfl ?_)
 (refine J.gY rfl rfl rfl ?_)
 (refine Jx.load rfl 0 rfl rfl rfl ?_)
 (refine J.gY rfl rfl rfl ?_)
 (refine J.call (c3) rfl (evs_args rfl) rfl ?_; rintro _ _ ⟨rfl, rfl⟩; simp only [la1, la2, la3])
 (refine J.nil ?_)
 (refine N.joinedN rfl rfl rfl)
 (refine Jx.move rfl rfl ?_)
 (refine' J.guardAnd rfl rfl rfl rfl rfl rfl rfl rfl (fun _ => ?_) ?_; rotate_left)
 (refine J.gY rfl rfl rfl ?_)
 (refine Jx.fieldAddr rfl rfl ?_)
 (refine J.gY rfl rfl rfl ?_)
 (refine Jx.load rfl 0 rfl rfl rfl ?_)
 (refine J.gY rfl rfl rfl ?_)
 (refine J.call (c4) rfl (evs_args rfl) rfl ?_; rintro _ _ ⟨rfl, rfl⟩; simp only [la1, la2, la3])
 (refine J.nil ?_)
 (refine N.joinedN rfl rfl rfl)
 (refine Jx.move rfl rfl ?_)
 (refine' J.guardAnd rfl rfl rfl rfl rfl rfl rfl rfl (fun _ => ?_) ?_; rotate_left)
 (refine J.gY rfl rfl rfl ?_)
 (refine Jx.fieldAddr rfl rfl ?_)
 (refine J.gY rfl rfl rfl ?_)
 (refine Jx.load rfl 0 rfl rfl rfl ?_)
 (refine J.gY rfl rfl rfl ?_)
 (refine J.call (c5) rfl (evs_args rfl) rfl ?_; rintro _ _ ⟨rfl, rfl⟩; simp only [la1, la2, la3])
 (refine J.nil ?_)
 (refine N.joinedN rfl rfl rfl)
 (refine Jx.assign rfl rfl (J.nil (N.seq (W.ret (N.noGotoRet (N.noGotoRet (N.noGotoRet ?_)))))))
 (refine id ?_; rotate_left))
      refine N.retD (rs := [.tmp 2]) (L1 := []) rfl (.tmp rfl .nil) (List.nil_sublist _) ⟨congrArg Sse.bool ?_, rfl⟩
      rw [sumsH, if_neg h0, if_pos h1]; rfl
    · focus (
 (refine W.seq (W.region ?_))
 (refine J.boxAg rfl rfl ?_; intro b')
 (refine Jx.assign rfl rfl (J.nil (N.seq (W.seq (W.region (Jx.assign rfl rfl (J.nil (N.seq (W.seq (W.region (Jx.assign rfl rfl (J.nil (N.seq (W.seq ?_))))))))))))))
 (refine W.block (W.seq (W.block (W.seq (W.block (W.seq (W.seq (W.seq (W.region (Jx.fieldAddr rfl rfl ?_))))))))))
 (refine Jx.load rfl 0 rfl rfl rfl ?_)
 (refine Jx.gtrI rfl rfl rfl (Jx.assign rfl rfl (J.nil (N.seq (W.cF rfl ?_)))))
 (refine W.skip (N.seq (W.seq (W.region (Jx.fieldAddr rfl rfl ?_)))))
 (refine Jx.load rfl 0 rfl rfl rfl ?_)
 (refine Jx.lenSl rfl rfl ?_)
 (refine Jx.eqlI rfl rfl rfl (Jx.assign rfl rfl (J.nil (N.seq (W.cF rfl ?_)))))
 (refine W.skip (N.seq (W.exit (N.seq (W.seq (W.region (Jx.assign rfl rfl (J.nil (N.seq (W.ret ?_))))))))))
 (refine id ?_; rotate_left))
      refine N.retD (rs := [.tmp 2]) (L1 := []) rfl (.tmp rfl .nil) (List.nil_sublist _) ⟨congrArg Sse.bool ?_, rfl⟩
      rw [sumsH, if_neg h0, if_neg h1]
theorem hcheck_ok (h : Hd) (hl : h.skips.length ≤ 1048576) : FnC Tryz.prog 67 [.agg (hdC h)] [] (fun v L => v = int (codeB (fineHd h) 190) ∧ L = []) := by
  have c1 := hnumbers_ok h
  have c2 := hfirst_ok h
  have c3 := hsums_ok h hl
  refine FnC.intro Tryz.func67 rfl Tryz.ntmps67 rfl fun Z w0 hG => ?_
  focus (
 (refine W.seq (W.region ?_))
 (refine J.boxAg rfl rfl ?_; intro b')
 (refine Jx.assign rfl rfl (J.nil (N.seq (W.seq (W.seq (W.region (Jx.loadAll rfl 0 rfl rfl rfl ?_)))))))
 (refine J.call (c1) rfl (evs_args rfl) rfl ?_; rintro _ _ ⟨rfl, rfl⟩; simp only [la1, la2, la3])
 (refine Jx.not rfl rfl (Jx.move rfl rfl ?_))
 (refine' J.guardOr rfl rfl rfl rfl rfl rfl rfl rfl (fun _ => ?_) ?_; rotate_left)
 (refine J.gY rfl rfl rfl ?_)
 (refine Jx.loadAll rfl 0 rfl rfl rfl ?_)
 (refine J.gY rfl rfl rfl ?_)
 (refine J.call (c2) rfl (evs_args rfl) rfl ?_; rintro _ _ ⟨rfl, rfl⟩; simp only [la1, la2, la3])
 (refine J.gY rfl rfl rfl ?_)
 (refine Jx.not rfl rfl (J.nil ?_))
 (refine N.joinedN rfl rfl rfl)
 (refine Jx.move rfl rfl ?_)
 (refine' J.guardOr rfl rfl rfl rfl rfl rfl rfl rfl (fun _ => ?_) ?_; rotate_left)
 (refine J.gY rfl rfl rfl ?_)
 (refine Jx.loadAll rfl 0 rfl rfl rfl ?_)
 (refine J.gY rfl rfl rfl ?_)
 (refine J.call (c3) rfl (evs_args rfl) rfl ?_; rintro _ _ ⟨rfl, rfl⟩; simp only [la1, la2, la3])
 (refine J.gY rfl rfl rfl ?_)
 (refine Jx.not rfl rfl (J.nil ?_))
 (refine N.joinedN rfl rfl rfl)
 (refine Jx.move rfl rfl ?_)
 (refine' J.guardOr rfl rfl rfl rfl rfl rfl rfl rfl (fun _ => ?_) ?_; rotate_left)
 (refine J.gY rfl rfl rfl ?_)
 (refine Jx.fieldAddr rfl rfl ?_)
 (refine J.gY rfl rfl rfl ?_)
 (refine Jx.load rfl 0 rfl rfl rfl ?_)
 (refine J.gY rfl rfl rfl ?_)
 (refine Jx.not rfl rfl (J.gY rfl rfl rfl ?_))
 (refine Jx.move rfl rfl ?_)
 (refine' J.guardAndG rfl rfl rfl (by first | rfl | assumption | (exact decide_eq_true (by first | assumption | omega | rfl)) | (exact decide_eq_false (by first | assumption | omega | rfl)) | (simp; done) | (simp; omega)) rfl rfl rfl rfl rfl rfl rfl rfl (fun _ => ?_) ?_; rotate_left)
 (refine J.gY rfl rfl rfl ?_)
 (refine Jx.fieldAddr rfl rfl ?_)
 (refine J.gY rfl rfl rfl ?_)
 (refine Jx.load rfl 0 rfl rfl rfl ?_)
 (refine J.gY rfl rfl rfl ?_)
 (refine Jx.fieldAddr rfl rfl ?_)
 (refine J.gY rfl rfl rfl ?_)
 (refine Jx.load rfl 0 rfl rfl rfl ?_)
 (refine J.gY rfl rfl rfl ?_)
 (refine Jx.neqS rfl rfl rfl (J.nil ?_))
 (refine N.joinedN rfl rfl rfl)
 (refine J.nil ?_)
 (refine N.joinedN rfl rfl rfl)
 (refine J.nil (N.seq ?_))
 (refine id ?_; rotate_left))
  refine W.cond rfl (fun hb => ?_) (fun hb => ?_)
  · have hf : fineHd h = false := by rw [fineHd, show badH h = true from hb]; rfl
    rw [hf]
    focus (
 (refine W.seq (W.region (Jx.assign rfl rfl (J.nil (N.seq (W.ret (N.noGotoRet ?_)))))))
 (refine id ?_; rotate_left))
    exact N.retD (rs := [.tmp 2]) (L1 := []) rfl (.tmp rfl .nil) (List.nil_sublist _) ⟨rfl, rfl⟩
  · have hf : fineHd h = true := by rw [fineHd, show badH h = false from hb]; rfl
    rw [hf]
    focus (
 (refine W.skip (N.seq (W.seq (W.region (Jx.assign rfl rfl (J.nil (N.seq (W.ret ?_))))))))
 (refine id ?_; rotate_left))
    exact N.retD (rs := [.tmp 2]) (L1 := []) rfl (.tmp rfl .nil) (List.nil_sublist _) ⟨rfl, rfl⟩
def nB (n : Int) : List UInt8 := numB n.toNat
set_option maxHeartbeats 4000000 in
theorem hencode_ok (h : Hd) (hl : h.skips.length ≤ 1048576) : FnC Tryz.prog 28 [.agg (hdC h)] [] (fun v L => v = .tup [str (encO fineHd encHd h), int (codeB (fineHd h) 190)] ∧ L = []) := by
  have c0 := hcheck_ok h hl
  refine FnC.intro Tryz.func28 rfl Tryz.ntmps28 rfl fun Z w0 hG => ?_
  unfold encO
  cases hf : fineHd h with
  | false =>
    rw [hf] at c0
    focus (
 (refine W.seq (W.region ?_))
 (refine J.boxAg rfl rfl ?_; intro b')
 (refine Jx.assign rfl rfl (Jx.assign rfl rfl (J.nil (N.seq (W.seq (W.seq (W.region (Jx.loadAll rfl 0 rfl rfl rfl ?_))))))))
 (refine J.call (c0) rfl (evs_args rfl) rfl ?_; rintro _ _ ⟨rfl, rfl⟩; simp only [la1, la2, la3])
 (refine Jx.assign rfl rfl (J.nil (N.seq (W.seq (W.region (Jx.move rfl rfl (Jx.neqI rfl rfl rfl (J.nil (N.seq (W.cT rfl ?_))))))))))
 (refine W.seq (W.region (Jx.move rfl rfl (Jx.assign rfl rfl (Jx.assign rfl rfl (J.nil (N.seq (W.ret (N.noGotoRet ?_)))))))))
 (refine id ?_; rotate_left))
    exact N.retD (rs := [.tmp 2, .tmp 3]) (L1 := []) rfl (.tmp rfl (.tmp rfl .nil)) (List.nil_sublist _) ⟨rfl, rfl⟩
  | true =>
    rw [hf] at c0
    rw [if_pos rfl]
    have f := (fineHd_iff h).1 hf
    have f1 := f.height; have f2 := f.epoch; have f3 := f.view
    focus (
 (refine W.seq (W.region ?_))
 (refine J.boxAg rfl rfl ?_; intro b')
 (refine Jx.assign rfl rfl (Jx.assign rfl rfl (J.nil (N.seq (W.seq (W.seq (W.region (Jx.loadAll rfl 0 rfl rfl rfl ?_))))))))
 (refine J.call (c0) rfl (evs_args rfl) rfl ?_; rintro _ _ ⟨rfl, rfl⟩; simp only [la1, la2, la3])
 (refine Jx.assign rfl rfl (J.nil (N.seq (W.seq (W.region (Jx.move rfl rfl (Jx.neqI rfl rfl rfl (J.nil (N.seq (W.cF rfl ?_))))))))))
 (refine W.skip (N.seq (W.seq (W.region (Jx.assign rfl rfl (J.nil (N.seq (W.seq (W.seq (W.region (Jx.fieldAddr rfl rfl ?_)))))))))))
 (refine Jx.load rfl 0 rfl rfl rfl ?_)
 (refine Jx.fieldAddr rfl rfl ?_)
 (refine Jx.load rfl 0 rfl rfl rfl ?_)
 (refine Jx.fieldAddr rfl rfl ?_)
 (refine Jx.load rfl 0 rfl rfl rfl ?_)
 (refine J.qs (Qs.buildL (fun n : Int => int n) 0 [h.height, h.epoch, h.view] (fun _ => .val rfl) rfl rfl rfl (by decide) (by decide) rfl) rfl ?_)
 (refine Jx.lenSl rfl rfl ?_)
 (refine Jx.move rfl rfl (J.nil (N.seq (W.block ?_))))
 (refine id ?_; rotate_left))
    refine W.loop (α := Nat) (fun i => [(25, int (i : Int)), (24, int (3 : Nat)), (23, isl [h.height, h.epoch, h.view]), (5, str (flT nB ([h.height, h.epoch, h.view].take i))), (1, ptr b')]) (fun _ => [.obj b' tHd (hdC h)]) (fun i => i ≤ 3) (fun i => 3 - i) 0 (by simp) rfl ⟨ref0 rfl, ref0 rfl, ref0 rfl, ref0 rfl, ref0 rfl, trivial⟩ ?_
    intro i hi
    by_cases h1 : i < 3
    · have hg : [h.height, h.epoch, h.view].getD i 0 ≤ 1048576 ∧ 0 ≤ [h.height, h.epoch, h.view].getD i 0 := by
        match i, h1 with
        | 0, _ => exact ⟨f1.2, f1.1⟩
        | 1, _ => exact ⟨f2.2, f2.1⟩
        | 2, _ => exact ⟨f3.2, f3.1⟩
      have h1' : i < [h.height, h.epoch, h.view].length := h1
      have c1 := Num_ok ([h.height, h.epoch, h.view].getD i 0) (by omega)
      rw [numR_pos hg.2] at c1
      have hst := flT_take nB 0 [h.height, h.epoch, h.view] i h1
      have hlen : (flT nB ([h.height, h.epoch, h.view].take i)).length ≤ 27 := by
        have := flT_len (f := nB) (k := 9) (l := [h.height, h.epoch, h.view].take i) (fun n hn => by
          have hn := List.mem_of_mem_take hn
          simp only [List.mem_cons, List.not_mem_nil, or_false] at hn
          rcases hn with rfl | rfl | rfl
          · exact numBs f1.2
          · exact numBs f2.2
          · exact numBs f3.2)
        have h3 : ([h.height, h.epoch, h.view].take i).length ≤ 3 := by rw [List.length_take]; simp only [List.length_cons, List.length_nil]; omega
        omega
      have hnl := numBs hg.1
      have hnn : nB ([h.height, h.epoch, h.view].getD i 0) = numB ([h.height, h.epoch, h.view].getD i 0).toNat := rfl
      rw [hnn] at hst
      generalize numB ([h.height, h.epoch, h.view].getD i 0).toNat = nb at *
      generalize flT nB ([h.height, h.epoch, h.view].take i) = acc at *
      focus (
 (refine W.seq (W.region (Jx.lssI rfl rfl rfl (J.nil (N.seq (W.seq (W.cT rfl ?_)))))))
 (refine W.skip (N.seq (W.seq (W.block (W.seq (W.region (Jx.indexEl rfl rfl (by assumption) rfl rfl ?_)))))))
 (refine Jx.loadPP rfl rfl ?_)
 (refine Jx.assign rfl rfl (J.nil (N.seq (W.seq (W.region (Jx.move rfl rfl ?_))))))
 (refine J.call (c1) rfl (evs_args rfl) rfl ?_; rintro _ _ ⟨rfl, rfl⟩; simp only [la1, la2, la3])
 (refine Jx.move rfl rfl (Jx.extract rfl rfl rfl ?_))
 (refine Jx.extract rfl rfl rfl ?_)
 (refine Jx.assign rfl rfl (Jx.assign rfl rfl (J.nil (N.seq (W.region (Jx.move rfl rfl (Jx.move rfl rfl (Jx.cat rfl rfl (by first | omega | (simp only [List.length_append, List.length_cons, List.length_nil]; omega)) rfl ?_))))))))
 (refine Jx.assign rfl rfl (J.nil (N.seq (W.region (Jx.add64 rfl rfl (by omega) rfl ?_)))))
 (refine Jx.move rfl rfl (J.nil ?_))
 (refine id ?_; rotate_left))
      exact N.round (i + 1) h1 (by omega) rfl ⟨ref0 rfl, ref0 rfl, ref0 rfl, ⟨_, rfl, Sub.of_eq (by rw [hst])⟩, ref0 rfl, trivial⟩
    · have hi3 : i = 3 := by omega
      subst hi3
      have hd : flT nB ([h.height, h.epoch, h.view].take 3) = numB h.height.toNat ++ (numB h.epoch.toNat ++ (numB h.view.toNat ++ [])) := rfl
      rw [hd]
      have n1 := numBs f1.2; have n2 := numBs f2.2; have n3 := numBs f3.2
      have p1 := f.parent32; have p2 := f.state32; have p3 := f.receipts32
      have t1 := textB_len p1 (by omega); have t2 := textB_len p2 (by omega); have t3 := textB_len p3 (by omega)
      have tf := flag_len h.last
      have c2 := flag_ok h.last
      have c3 := text_ok h.parent (by omega)
      have c4 := text_ok h.state (by omega)
      have c5 := text_ok h.receipts (by omega)
      have x1 := f.txs; have x2 := f.members; have x3 := f.next
      have hel := flS_len f
      have he : encHd h = numB h.height.toNat ++ (numB h.epoch.toNat ++ (numB h.view.toNat ++ (flagB h.last ++ (textB h.parent ++ (textB h.state ++ (textB h.receipts ++ (h.txs ++ (h.members ++ (h.next ++ flT idB h.skips))))))))) := rfl
      rw [he]
      have hsk : ∀ i, (flT idB (h.skips.take i)).length ≤ 640 := fun i => by
        have h2 := flT_len (f := idB) (k := 32) (l := h.skips.take i) fun s hs => by rw [idB, f.each s (List.mem_of_mem_take hs)]; exact Nat.le_refl _
        have := f.skips20
        have h3 : (h.skips.take i).length ≤ 20 := by rw [List.length_take]; omega
        omega
      generalize numB h.height.toNat = nb1 at *
      generalize numB h.epoch.toNat = nb2 at *
      generalize numB h.view.toNat = nb3 at *
      generalize flagB h.last = fb at *
      generalize textB h.parent = tp at *
      generalize textB h.state = ts at *
      generalize textB h.receipts = tr at *
      generalize hX : nb1 ++ (nb2 ++ (nb3 ++ [])) ++ (fb ++ tp ++ ts ++ tr ++ h.txs ++ h.members ++ h.next) = X at *
      have hXl : X.length ≤ 300 := by rw [← hX]; simp only [List.length_append, List.length_nil]; omega
      focus (
 (refine W.seq (W.region (Jx.lssI rfl rfl rfl (J.nil (N.seq (W.seq (W.cF rfl ?_)))))))
 (refine W.exit (N.seq (W.seq ?_)))
 (refine W.draw follows ?_)
 (refine JD.calm rfl (by decide +kernel) ?_)
 (refine Cx.move rfl rfl ?_)
 (refine Cx.fieldAddr rfl rfl ?_)
 (refine Cx.load rfl 0 rfl rfl rfl ?_)
 (refine SegC.q (Qs.call (Lc := []) (c2) (fun s L' h => h) (List.Perm.refl _) (evs_args rfl)) rfl ?_)
 (refine Cx.fieldAddr rfl rfl ?_)
 (refine Cx.load rfl 0 rfl rfl rfl ?_)
 (refine SegC.q (Qs.call (Lc := []) (c3) (fun s L' h => h) (List.Perm.refl _) (evs_args rfl)) rfl ?_)
 (refine Cx.cat rfl rfl (by first | omega | (simp only [List.length_append, List.length_cons, List.length_nil]; omega)) rfl ?_)
 (refine Cx.fieldAddr rfl rfl ?_)
 (refine Cx.load rfl 0 rfl rfl rfl ?_)
 (refine SegC.q (Qs.call (Lc := []) (c4) (fun s L' h => h) (List.Perm.refl _) (evs_args rfl)) rfl ?_)
 (refine Cx.cat rfl rfl (by first | omega | (simp only [List.length_append, List.length_cons, List.length_nil]; omega)) rfl ?_)
 (refine Cx.fieldAddr rfl rfl ?_)
 (refine Cx.load rfl 0 rfl rfl rfl ?_)
 (refine SegC.q (Qs.call (Lc := []) (c5) (fun s L' h => h) (List.Perm.refl _) (evs_args rfl)) rfl ?_)
 (refine Cx.cat rfl rfl (by first | omega | (simp only [List.length_append, List.length_cons, List.length_nil]; omega)) rfl ?_)
 (refine Cx.fieldAddr rfl rfl ?_)
 (refine Cx.load rfl 0 rfl rfl rfl ?_)
 (refine Cx.cat rfl rfl (by first | omega | (simp only [List.length_append, List.length_cons, List.length_nil]; omega)) rfl ?_)
 (refine Cx.fieldAddr rfl rfl ?_)
 (refine Cx.load rfl 0 rfl rfl rfl ?_)
 (refine Cx.cat rfl rfl (by first | omega | (simp only [List.length_append, List.length_cons, List.length_nil]; omega)) rfl ?_)
 (refine Cx.fieldAddr rfl rfl ?_)
 (refine Cx.load rfl 0 rfl rfl rfl ?_)
 (refine Cx.cat rfl rfl (by first | omega | (simp only [List.length_append, List.length_cons, List.length_nil]; omega)) rfl ?_)
 (refine Cx.cat rfl rfl (by first | omega | (simp only [List.length_append, List.length_cons, List.length_nil]; omega)) rfl ?_)
 (refine Cx.assign rfl rfl ?_)
 (refine SegC.nil ?_)
 (refine N.seq (W.seq (W.seq (W.region (Jx.fieldAddr rfl rfl ?_)))))
 (refine Jx.load rfl 0 rfl rfl rfl ?_)
 (refine Jx.lenSl rfl rfl ?_)
 (refine Jx.move rfl rfl (J.nil (N.seq (W.block ?_))))
 (refine id ?_; rotate_left))
      refine W.loop (α := Nat) (fun i => [(67, int (i : Int)), (66, int h.skips.length), (65, ssl h.skips), (5, str (X ++ flT idB (h.skips.take i)))]) (fun _ => [.obj b' tHd (hdC h)]) (fun i => i ≤ h.skips.length) (fun i => h.skips.length - i) 0 (by simp) rfl ⟨ref0 rfl, ref0 rfl, ref0 rfl, ⟨_, rfl, Sub.of_eq (by rw [hX]; simp [flT])⟩, trivial⟩ ?_
      intro i hi
      by_cases h2 : i < h.skips.length
      · have hst := flT_take idB [] h.skips i h2
        have hsi : (h.skips.getD i []).length = 32 := f.each _ (getD_mem h2)
        have hki := hsk i
        have hst2 : X ++ flT idB (h.skips.take i) ++ h.skips.getD i [] = X ++ flT idB (h.skips.take (i + 1)) := by rw [← hst, List.append_assoc]; rfl
        generalize flT idB (h.skips.take i) = acc at *
        focus (
 (refine W.seq (W.region (Jx.lssI rfl rfl rfl (J.nil (N.seq (W.seq (W.cT rfl ?_)))))))
 (refine W.skip (N.seq (W.seq (W.block (W.seq (W.region (Jx.indexEl rfl rfl (by assumption) rfl rfl ?_)))))))
 (refine Jx.loadPP rfl rfl ?_)
 (refine Jx.assign rfl rfl (J.nil (N.seq (W.region (Jx.move rfl rfl (Jx.move rfl rfl (Jx.cat rfl rfl (by first | omega | (simp only [List.length_append, List.length_cons, List.length_nil]; omega)) rfl ?_)))))))
 (refine Jx.assign rfl rfl (J.nil (N.seq (W.region (Jx.add64 rfl rfl (by omega) rfl ?_)))))
 (refine Jx.move rfl rfl (J.nil ?_))
 (refine id ?_; rotate_left))
        exact N.round (i + 1) h2 (by omega) rfl ⟨ref0 rfl, ref0 rfl, ref0 rfl, ⟨_, rfl, Sub.of_eq (by rw [hst2])⟩, trivial⟩
      · rw [List.take_of_length_le (by omega)]
        focus (
 (refine W.seq (W.region (Jx.lssI rfl rfl rfl (J.nil (N.seq (W.seq (W.cF rfl ?_)))))))
 (refine W.exit (N.seq (W.seq (W.region (Jx.move rfl rfl (Jx.assign rfl rfl (Jx.assign rfl rfl (J.nil (N.seq (W.ret ?_))))))))))
 (refine id ?_; rotate_left))
        refine N.retD (rs := [.tmp 2, .tmp 3]) (L1 := []) rfl (.tmp rfl (.tmp rfl .nil)) (List.nil_sublist _) ⟨?_, rfl⟩
        rw [← hX]
        simp only [oneOr, List.append_assoc, List.append_nil]
        rfl
end Go.Proofs.YtlfdhkahiaammaaGreatDoor
namespace Go.Proofs.YtlfdhkahiaammaaGreatDoor
open Go Go.Sse
set_option linter.unusedVariables false
set_option linter.unusedSimpArgs false
set_option maxRecDepth 10000
theorem fineHd_no {h : Hd} (hn : ¬ FineH h) : fineHd h = false := by
  cases hf : fineHd h with
  | false => rfl
  | true => exact absurd ((fineHd_iff h).1 hf) hn
set_option maxHeartbeats 4000000 in
theorem rhfine_ok (h : Hd) (hl : h.skips.length ≤ 1048576) : FnC Tryz.prog 73 [.agg (hdC h)] [] (fun v L => v = bool (fineHd h) ∧ L = []) := by
  have c1 := rlinks_ok h.height
  refine FnC.intro Tryz.func73 rfl Tryz.ntmps73 rfl fun Z w0 hG => ?_
  focus (
 (refine W.seq (W.region ?_))
 (refine J.boxAg rfl rfl ?_; intro b')
 (refine Jx.assign rfl rfl (J.nil (N.seq (W.seq (W.seq (W.region (Jx.fieldAddr rfl rfl ?_)))))))
 (refine Jx.load rfl 0 rfl rfl rfl ?_)
 (refine Jx.lssI rfl rfl rfl (Jx.move rfl rfl ?_))
 (refine' J.guardOr rfl rfl rfl rfl rfl rfl rfl rfl (fun _ => ?_) ?_; rotate_left)
 (refine J.gY rfl rfl rfl ?_)
 (refine Jx.fieldAddr rfl rfl ?_)
 (refine J.gY rfl rfl rfl ?_)
 (refine Jx.load rfl 0 rfl rfl rfl ?_)
 (refine J.gY rfl rfl rfl ?_)
 (refine Jx.gtrI rfl rfl rfl (J.nil ?_))
 (refine N.joinedN rfl rfl rfl)
 (refine Jx.move rfl rfl ?_)
 (refine' J.guardOr rfl rfl rfl rfl rfl rfl rfl rfl (fun _ => ?_) ?_; rotate_left)
 (refine J.gY rfl rfl rfl ?_)
 (refine Jx.fieldAddr rfl rfl ?_)
 (refine J.gY rfl rfl rfl ?_)
 (refine Jx.load rfl 0 rfl rfl rfl ?_)
 (refine J.gY rfl rfl rfl ?_)
 (refine Jx.lssI rfl rfl rfl (J.nil ?_))
 (refine N.joinedN rfl rfl rfl)
 (refine Jx.move rfl rfl ?_)
 (refine' J.guardOr rfl rfl rfl rfl rfl rfl rfl rfl (fun _ => ?_) ?_; rotate_left)
 (refine J.gY rfl rfl rfl ?_)
 (refine Jx.fieldAddr rfl rfl ?_)
 (refine J.gY rfl rfl rfl ?_)
 (refine Jx.load rfl 0 rfl rfl rfl ?_)
 (refine J.gY rfl rfl rfl ?_)
 (refine Jx.gtrI rfl rfl rfl (J.nil ?_))
 (refine N.joinedN rfl rfl rfl)
 (refine Jx.move rfl rfl ?_)
 (refine' J.guardOr rfl rfl rfl rfl rfl rfl rfl rfl (fun _ => ?_) ?_; rotate_left)
 (refine J.gY rfl rfl rfl ?_)
 (refine Jx.fieldAddr rfl rfl ?_)
 (refine J.gY rfl rfl rfl ?_)
 (refine Jx.load rfl 0 rfl rfl rfl ?_)
 (refine J.gY rfl rfl rfl ?_)
 (refine Jx.lssI rfl rfl rfl (J.nil ?_))
 (refine N.joinedN rfl rfl rfl)
 (refine Jx.move rfl rfl ?_)
 (refine' J.guardOr rfl rfl rfl rfl rfl rfl rfl rfl (fun _ => ?_) ?_; rotate_left)
 (refine J.gY rfl rfl rfl ?_)
 (refine Jx.fieldAddr rfl rfl ?_)
 (refine J.gY rfl rfl rfl ?_)
 (refine Jx.load rfl 0 rfl rfl rfl ?_)
 (refine J.gY rfl rfl rfl ?_)
 (refine Jx.gtrI rfl rfl rfl (J.nil ?_))
 (refine N.joinedN rfl rfl rfl)
 (refine J.nil (N.seq ?_))
 (refine id ?_; rotate_left))
  refine W.cond rfl (fun hb => ?_) (fun hb => ?_)
  · have hf : fineHd h = false := fineHd_no fun f => by
      have := f.height; have := f.epoch; have := f.view
      simp only [Bool.or_eq_true, decide_eq_true_eq] at hb
      omega
    rw [hf]
    focus (
 (refine W.seq (W.region (Jx.assign rfl rfl (J.nil (N.seq (W.ret (N.noGotoRet ?_)))))))
 (refine id ?_; rotate_left))
    exact N.retD (rs := [.tmp 2]) (L1 := []) rfl (.tmp rfl .nil) (List.nil_sublist _) ⟨rfl, rfl⟩
  · simp only [Bool.or_eq_false_iff, decide_eq_false_iff_not] at hb
    focus (
 (refine W.skip (N.seq (W.seq (W.seq (W.region (Jx.fieldAddr rfl rfl ?_))))))
 (refine Jx.load rfl 0 rfl rfl rfl ?_)
 (refine Jx.lenS rfl rfl ?_)
 (refine Jx.neqI rfl rfl rfl (Jx.move rfl rfl ?_))
 (refine' J.guardOr rfl rfl rfl rfl rfl rfl rfl rfl (fun _ => ?_) ?_; rotate_left)
 (refine J.gY rfl rfl rfl ?_)
 (refine Jx.fieldAddr rfl rfl ?_)
 (refine J.gY rfl rfl rfl ?_)
 (refine Jx.load rfl 0 rfl rfl rfl ?_)
 (refine J.gY rfl rfl rfl ?_)
 (refine Jx.lenS rfl rfl ?_)
 (refine J.gY rfl rfl rfl ?_)
 (refine Jx.neqI rfl rfl rfl (J.nil ?_))
 (refine N.joinedN rfl rfl rfl)
 (refine Jx.move rfl rfl ?_)
 (refine' J.guardOr rfl rfl rfl rfl rfl rfl rfl rfl (fun _ => ?_) ?_; rotate_left)
 (refine J.gY rfl rfl rfl ?_)
 (refine Jx.fieldAddr rfl rfl ?_)
 (refine J.gY rfl rfl rfl ?_)
 (refine Jx.load rfl 0 rfl rfl rfl ?_)
 (refine J.gY rfl rfl rfl ?_)
 (refine Jx.lenS rfl rfl ?_)
 (refine J.gY rfl rfl rfl ?_)
 (refine Jx.neqI rfl rfl rfl (J.nil ?_))
 (refine N.joinedN rfl rfl rfl)
 (refine Jx.move rfl rfl ?_)
 (refine' J.guardOr rfl rfl rfl rfl rfl rfl rfl rfl (fun _ => ?_) ?_; rotate_left)
 (refine J.gY rfl rfl rfl ?_)
 (refine Jx.fieldAddr rfl rfl ?_)
 (refine J.gY rfl rfl rfl ?_)
 (refine Jx.load rfl 0 rfl rfl rfl ?_)
 (refine J.gY rfl rfl rfl ?_)
 (refine Jx.neqS rfl rfl rfl (J.gY rfl rfl rfl ?_))
 (refine Jx.move rfl rfl ?_)
 (refine' J.guardAndG rfl rfl rfl (by first | rfl | assumption | (exact decide_eq_true (by first | assumption | omega | rfl)) | (exact decide_eq_false (by first | assumption | omega | rfl)) | (simp; done) | (simp; omega)) rfl rfl rfl rfl rfl rfl rfl rfl (fun _ => ?_) ?_; rotate_left)
 (refine J.gY rfl rfl rfl ?_)
 (refine Jx.fieldAddr rfl rfl ?_)
 (refine J.gY rfl rfl rfl ?_)
 (refine Jx.load rfl 0 rfl rfl rfl ?_)
 (refine J.gY rfl rfl rfl ?_)
 (refine Jx.lenS rfl rfl ?_)
 (refine J.gY rfl rfl rfl ?_)
 (refine Jx.neqI rfl rfl rfl (J.nil ?_))
 (refine N.joinedN rfl rfl rfl)
 (refine J.nil ?_)
 (refine N.joinedN rfl rfl rfl)
 (refine Jx.move rfl rfl ?_)
 (refine' J.guardOr rfl rfl rfl rfl rfl rfl rfl rfl (fun _ => ?_) ?_; rotate_left)
 (refine J.gY rfl rfl rfl ?_)
 (refine Jx.fieldAddr rfl rfl ?_)
 (refine J.gY rfl rfl rfl ?_)
 (refine Jx.load rfl 0 rfl rfl rfl ?_)
 (refine J.gY rfl rfl rfl ?_)
 (refine Jx.neqS rfl rfl rfl (J.gY rfl rfl rfl ?_))
 (refine Jx.move rfl rfl ?_)
 (refine' J.guardAndG rfl rfl rfl (by first | rfl | assumption | (exact decide_eq_true (by first | assumption | omega | rfl)) | (exact decide_eq_false (by first | assumption | omega | rfl)) | (simp; done) | (simp; omega)) rfl rfl rfl rfl rfl rfl rfl rfl (fun _ => ?_) ?_; rotate_left)
 (refine J.gY rfl rfl rfl ?_)
 (refine Jx.fieldAddr rfl rfl ?_)
 (refine J.gY rfl rfl rfl ?_)
 (refine Jx.load rfl 0 rfl rfl rfl ?_)
 (refine J.gY rfl rfl rfl ?_)
 (refine Jx.lenS rfl rfl ?_)
 (refine J.gY rfl rfl rfl ?_)
 (refine Jx.neqI rfl rfl rfl (J.nil ?_))
 (refine N.joinedN rfl rfl rfl)
 (refine J.nil ?_)
 (refine N.joinedN rfl rfl rfl)
 (refine J.nil (N.seq ?_))
 (refine id ?_; rotate_left))
    refine W.cond rfl (fun hb2 => ?_) (fun hb2 => ?_)
    · have hf : fineHd h = false := fineHd_no fun f => by
        have := f.txs; have := f.members; have := f.next; have := f.state; have := f.receipts
        simp only [Bool.or_eq_true, Bool.and_eq_true, decide_eq_true_eq] at hb2
        rcases hb2 with (((h1 | h1) | h1) | h1) | h1
        · omega
        · omega
        · omega
        · rcases f.state with h2 | h2
          · exact h1.1 h2
          · omega
        · rcases f.receipts with h2 | h2
          · exact h1.1 h2
          · omega
      rw [hf]
      focus (
 (refine W.seq (W.region (Jx.assign rfl rfl (J.nil (N.seq (W.ret (N.noGotoRet ?_)))))))
 (refine id ?_; rotate_left))
      exact N.retD (rs := [.tmp 2]) (L1 := []) rfl (.tmp rfl .nil) (List.nil_sublist _) ⟨rfl, rfl⟩
    · simp only [Bool.or_eq_false_iff, Bool.and_eq_false_iff, decide_eq_false_iff_not, Classical.not_not] at hb2
      obtain ⟨⟨⟨⟨x1, x2⟩, x3⟩, x4⟩, x5⟩ := hb2
      focus (
 (refine W.skip (N.seq (W.seq (W.seq ?_))))
 (refine W.draw follows ?_)
 (refine JD.calm rfl (by decide +kernel) ?_)
 (refine Cx.fieldAddr rfl rfl ?_)
 (refine Cx.load rfl 0 rfl rfl rfl ?_)
 (refine Cx.lenSl rfl rfl ?_)
 (refine Cx.fieldAddr rfl rfl ?_)
 (refine Cx.load rfl 0 rfl rfl rfl ?_)
 (refine SegC.q (Qs.call (Lc := []) (c1) (fun s L' h => h) (List.Perm.refl _) (evs_args rfl)) rfl ?_)
 (refine Cx.lenSl rfl rfl ?_)
 (refine Cx.neqI rfl rfl rfl ?_)
 (refine SegC.nil ?_)
 (refine N.seq ?_)
 (refine id ?_; rotate_left))
      refine W.cond rfl (fun hb3 => ?_) (fun hb3 => ?_)
      · have hf : fineHd h = false := fineHd_no fun f => by
          have := f.skips
          simp only [decide_eq_true_eq] at hb3
          omega
        rw [hf]
        focus (
 (refine W.seq (W.region (Jx.assign rfl rfl (J.nil (N.seq (W.ret (N.noGotoRet ?_)))))))
 (refine id ?_; rotate_left))
        exact N.retD (rs := [.tmp 2]) (L1 := []) rfl (.tmp rfl .nil) (List.nil_sublist _) ⟨rfl, rfl⟩
      · simp only [decide_eq_false_iff_not, Classical.not_not] at hb3
        focus (
 (refine W.skip (N.seq (W.seq (W.seq (W.region (Jx.assign rfl rfl (J.nil (N.seq (W.block ?_)))))))))
 (refine id ?_; rotate_left))
        refine W.loop (α := Nat) (fun i => [(3, int (i : Int)), (1, ptr b')]) (fun _ => [.obj b' tHd (hdC h)]) (fun i => i ≤ h.skips.length ∧ ∀ s ∈ h.skips.take i, s.length = 32) (fun i => h.skips.length - i) 0 (by simp) rfl ⟨ref0 rfl, ref0 rfl, trivial⟩ ?_
        rintro i ⟨hi, hs⟩
        by_cases h1 : i < h.skips.length
        · by_cases h2 : ((h.skips.getD i []).length : Int) = 32
          · focus (
 (refine W.seq (W.seq (W.region (Jx.move rfl rfl (Jx.fieldAddr rfl rfl ?_)))))
 (refine Jx.load rfl 0 rfl rfl rfl ?_)
 (refine Jx.lenSl rfl rfl ?_)
 (refine Jx.lssI rfl rfl rfl (J.nil (N.seq (W.cT rfl ?_))))
 (refine W.skip (N.seq (W.seq (W.block (W.seq (W.region (Jx.fieldAddr rfl rfl ?_)))))))
 (refine Jx.load rfl 0 rfl rfl rfl ?_)
 (refine Jx.move rfl rfl (Jx.indexEl rfl rfl (by assumption) rfl rfl ?_))
 (refine Jx.loadPP rfl rfl ?_)
 (refine Jx.lenS rfl rfl ?_)
 (refine Jx.neqI rfl rfl rfl (J.nil (N.seq (W.cF rfl ?_))))
 (refine W.skip (N.seq (W.region (Jx.move rfl rfl (Jx.add64 rfl rfl (by omega) rfl ?_)))))
 (refine Jx.assign rfl rfl (J.nil ?_))
 (refine id ?_; rotate_left))
            refine N.round (i + 1) ⟨h1, fun s hs2 => ?_⟩ (by omega) rfl ⟨ref0 rfl, ref0 rfl, trivial⟩
            rw [List.take_add_one, List.getElem?_eq_getElem h1] at hs2
            rcases List.mem_append.1 hs2 with hs2 | hs2
            · exact hs s hs2
            · simp only [Option.toList_some, List.mem_singleton] at hs2
              subst hs2
              rw [List.getD_eq_getElem?_getD, List.getElem?_eq_getElem h1] at h2
              simp only [Option.getD_some] at h2
              omega
          · have hf : fineHd h = false := fineHd_no fun f => by
              have := f.each _ (getD_mem (d := []) h1)
              omega
            rw [hf]
            focus (
 (refine W.seq (W.seq (W.region (Jx.move rfl rfl (Jx.fieldAddr rfl rfl ?_)))))
 (refine Jx.load rfl 0 rfl rfl rfl ?_)
 (refine Jx.lenSl rfl rfl ?_)
 (refine Jx.lssI rfl rfl rfl (J.nil (N.seq (W.cT rfl ?_))))
 (refine W.skip (N.seq (W.seq (W.block (W.seq (W.region (Jx.fieldAddr rfl rfl ?_)))))))
 (refine Jx.load rfl 0 rfl rfl rfl ?_)
 (refine Jx.move rfl rfl (Jx.indexEl rfl rfl (by assumption) rfl rfl ?_))
 (refine Jx.loadPP rfl rfl ?_)
 (refine Jx.lenS rfl rfl ?_)
 (refine Jx.neqI rfl rfl rfl (J.nil (N.seq (W.cT rfl ?_))))
 (refine W.seq (W.region (Jx.assign rfl rfl (J.nil (N.seq (W.ret (N.noGotoRet (N.noGotoRet (N.noGotoRet (N.noGotoRet (N.noGotoRet ?_)))))))))))
 (refine id ?_; rotate_left))
            exact N.retD (rs := [.tmp 2]) (L1 := []) rfl (.tmp rfl .nil) (List.nil_sublist _) ⟨rfl, rfl⟩
        · rw [List.take_of_length_le (by omega)] at hs
          have mk : ∀ (_ : (0 < h.height → h.parent.length = 32) ∧ (h.height = 0 → h.parent = [] ∧ h.epoch = 0 ∧ h.view = 0 ∧ h.last = true)) (_ : h.last = false → h.next = h.members), FineH h := fun p1 p2 =>
            ⟨by omega, by omega, by omega, p1, by omega, by omega, by omega, by rcases x4 with q | q; exact .inl q; exact .inr (by omega), by rcases x5 with q | q; exact .inl q; exact .inr (by omega), by omega, hs, p2⟩
          by_cases h0 : h.height = 0
          · focus (
 (refine W.seq (W.seq (W.region (Jx.move rfl rfl (Jx.fieldAddr rfl rfl ?_)))))
 (refine Jx.load rfl 0 rfl rfl rfl ?_)
 (refine Jx.lenSl rfl rfl ?_)
 (refine Jx.lssI rfl rfl rfl (J.nil (N.seq (W.cF rfl ?_))))
 (refine W.exit (N.seq (W.seq (W.seq (W.region (Jx.fieldAddr rfl rfl ?_))))))
 (refine Jx.load rfl 0 rfl rfl rfl ?_)
 (refine Jx.eqlI rfl rfl rfl (J.nil (N.seq (W.cT rfl ?_))))
 (refine W.seq (W.region (Jx.fieldAddr rfl rfl ?_)))
 (refine Jx.load rfl 0 rfl rfl rfl ?_)
 (refine Jx.eqlS rfl rfl rfl (Jx.move rfl rfl ?_))
 (refine' J.guardAnd rfl rfl rfl rfl rfl rfl rfl rfl (fun _ => ?_) ?_; rotate_left)
 (refine J.gY rfl rfl rfl ?_)
 (refine Jx.fieldAddr rfl rfl ?_)
 (refine J.gY rfl rfl rfl ?_)
 (refine Jx.load rfl 0 rfl rfl rfl ?_)
 (refine J.gY rfl rfl rfl ?_)
 (refine Jx.eqlI rfl rfl rfl (J.nil ?_))
 (refine N.joinedN rfl rfl rfl)
 (refine Jx.move rfl rfl ?_)
 (refine' J.guardAnd rfl rfl rfl rfl rfl rfl rfl rfl (fun _ => ?_) ?_; rotate_left)
 (refine J.gY rfl rfl rfl ?_)
 (refine Jx.fieldAddr rfl rfl ?_)
 (refine J.gY rfl rfl rfl ?_)
 (refine Jx.load rfl 0 rfl rfl rfl ?_)
 (refine J.gY rfl rfl rfl ?_)
 (refine Jx.eqlI rfl rfl rfl (J.nil ?_))
 (refine N.joinedN rfl rfl rfl)
 (refine Jx.move rfl rfl ?_)
 (refine' J.guardAnd rfl rfl rfl rfl rfl rfl rfl rfl (fun _ => ?_) ?_; rotate_left)
 (refine J.gY rfl rfl rfl ?_)
 (refine Jx.fieldAddr rfl rfl ?_)
 (refine J.gY rfl rfl rfl ?_)
 (refine Jx.load rfl 0 rfl rfl rfl ?_)
 (refine J.nil ?_)
 (refine N.joinedN rfl rfl rfl)
 (refine Jx.assign rfl rfl (J.nil (N.seq (W.ret (N.noGotoRet ?_)))))
 (refine id ?_; rotate_left))
            refine N.retD (rs := [.tmp 2]) (L1 := []) rfl (.tmp rfl .nil) (List.nil_sublist _) ⟨congrArg Sse.bool ?_, rfl⟩
            rw [Bool.eq_iff_iff, fineHd_iff]
            simp only [Bool.and_eq_true, decide_eq_true_eq]
            constructor
            · rintro ⟨⟨⟨q1, q2⟩, q3⟩, q4⟩
              exact mk ⟨fun h' => by omega, fun _ => ⟨q1, q2, q3, q4⟩⟩ fun h' => by rw [q4] at h'; cases h'
            · intro f
              obtain ⟨q1, q2, q3, q4⟩ := f.parent.2 h0
              exact ⟨⟨⟨q1, q2⟩, q3⟩, q4⟩
          · focus (
 (refine W.seq (W.seq (W.region (Jx.move rfl rfl (Jx.fieldAddr rfl rfl ?_)))))
 (refine Jx.load rfl 0 rfl rfl rfl ?_)
 (refine Jx.lenSl rfl rfl ?_)
 (refine Jx.lssI rfl rfl rfl (J.nil (N.seq (W.cF rfl ?_))))
 (refine W.exit (N.seq (W.seq (W.seq (W.region (Jx.fieldAddr rfl rfl ?_))))))
 (refine Jx.load rfl 0 rfl rfl rfl ?_)
 (refine Jx.eqlI rfl rfl rfl (J.nil (N.seq (W.cF rfl ?_))))
 (refine W.skip (N.seq (W.seq (W.region (Jx.fieldAddr rfl rfl ?_)))))
 (refine Jx.load rfl 0 rfl rfl rfl ?_)
 (refine Jx.lenS rfl rfl ?_)
 (refine Jx.eqlI rfl rfl rfl (Jx.move rfl rfl ?_))
 (refine' J.guardAnd rfl rfl rfl rfl rfl rfl rfl rfl (fun _ => ?_) ?_; rotate_left)
 (refine J.gY rfl rfl rfl ?_)
 (refine Jx.fieldAddr rfl rfl ?_)
 (refine J.gY rfl rfl rfl ?_)
 (refine Jx.load rfl 0 rfl rfl rfl ?_)
 (refine J.gY rfl rfl rfl ?_)
 (refine Jx.move rfl rfl ?_)
 (refine' J.guardOrG rfl rfl rfl (by first | rfl | assumption | (exact decide_eq_true (by first | assumption | omega | rfl)) | (exact decide_eq_false (by first | assumption | omega | rfl)) | (simp; done) | (simp; omega)) rfl rfl rfl rfl rfl rfl rfl rfl (fun _ => ?_) ?_; rotate_left)
 (refine J.gY rfl rfl rfl ?_)
 (refine Jx.fieldAddr rfl rfl ?_)
 (refine J.gY rfl rfl rfl ?_)
 (refine Jx.load rfl 0 rfl rfl rfl ?_)
 (refine J.gY rfl rfl rfl ?_)
 (refine Jx.fieldAddr rfl rfl ?_)
 (refine J.gY rfl rfl rfl ?_)
 (refine Jx.load rfl 0 rfl rfl rfl ?_)
 (refine J.gY rfl rfl rfl ?_)
 (refine Jx.eqlS rfl rfl rfl (J.nil ?_))
 (refine N.joinedN rfl rfl rfl)
 (refine J.nil ?_)
 (refine N.joinedN rfl rfl rfl)
 (refine Jx.assign rfl rfl (J.nil (N.seq (W.ret ?_))))
 (refine id ?_; rotate_left))
            refine N.retD (rs := [.tmp 2]) (L1 := []) rfl (.tmp rfl .nil) (List.nil_sublist _) ⟨congrArg Sse.bool ?_, rfl⟩
            rw [Bool.eq_iff_iff, fineHd_iff]
            simp only [Bool.and_eq_true, Bool.or_eq_true, decide_eq_true_eq]
            constructor
            · rintro ⟨q1, q2⟩
              exact mk ⟨fun _ => by omega, fun h' => absurd h' h0⟩ fun h' => by
                rcases q2 with q2 | q2
                · rw [q2] at h'; cases h'
                · exact q2
            · intro f
              have := f.parent.1 (by omega)
              refine ⟨by omega, ?_⟩
              cases hb : h.last with
              | true => exact .inl rfl
              | false => exact .inr (f.same hb)
set_option maxHeartbeats 4000000 in
theorem rhwritten_ok (h : Hd) (hf : fineHd h = true) : FnC Tryz.prog 78 [.agg (hdC h)] [] (fun v L => v = str (encHd h) ∧ L = []) := by
  have f := (fineHd_iff h).1 hf
  have f1 := f.height; have f2 := f.epoch; have f3 := f.view
  have n1 := numBs f1.2; have n2 := numBs f2.2; have n3 := numBs f3.2
  have p1 := f.parent32; have p2 := f.state32; have p3 := f.receipts32
  have t1 := textB_len p1 (by omega); have t2 := textB_len p2 (by omega); have t3 := textB_len p3 (by omega)
  have tf := flag_len h.last
  have a1 := number_ok h.height.toNat (by omega)
  have a2 := number_ok h.epoch.toNat (by omega)
  have a3 := number_ok h.view.toNat (by omega)
  rw [Int.toNat_of_nonneg f1.1] at a1
  rw [Int.toNat_of_nonneg f2.1] at a2
  rw [Int.toNat_of_nonneg f3.1] at a3
  have c2 := rflag_ok h.last
  have c3 := rtext_ok h.parent (by omega)
  have c4 := rtext_ok h.state (by omega)
  have c5 := rtext_ok h.receipts (by omega)
  have x1 := f.txs; have x2 := f.members; have x3 := f.next
  have he : encHd h = numB h.height.toNat ++ (numB h.epoch.toNat ++ (numB h.view.toNat ++ (flagB h.last ++ (textB h.parent ++ (textB h.state ++ (textB h.receipts ++ (h.txs ++ (h.members ++ (h.next ++ flT idB h.skips))))))))) := rfl
  rw [he]
  have hsk : ∀ i, (flT idB (h.skips.take i)).length ≤ 640 := fun i => by
    have h2 := flT_len (f := idB) (k := 32) (l := h.skips.take i) fun s hs => by rw [idB, f.each s (List.mem_of_mem_take hs)]; exact Nat.le_refl _
    have := f.skips20
    have h3 : (h.skips.take i).length ≤ 20 := by rw [List.length_take]; omega
    omega
  have hs20 := f.skips20
  generalize numB h.height.toNat = nb1 at *
  generalize numB h.epoch.toNat = nb2 at *
  generalize numB h.view.toNat = nb3 at *
  generalize flagB h.last = fb at *
  generalize textB h.parent = tp at *
  generalize textB h.state = ts at *
  generalize textB h.receipts = tr at *
  generalize hX : nb1 ++ nb2 ++ nb3 ++ fb ++ tp ++ ts ++ tr ++ h.txs ++ h.members ++ h.next = X at *
  have hXl : X.length ≤ 300 := by rw [← hX]; simp only [List.length_append]; omega
  refine FnC.intro Tryz.func78 rfl Tryz.ntmps78 rfl fun Z w0 hG => ?_
  focus (
 (refine W.seq (W.region ?_))
 (refine J.boxAg rfl rfl ?_; intro b')
 (refine Jx.assign rfl rfl (J.nil (N.seq (W.seq ?_))))
 (refine W.draw follows ?_)
 (refine JD.calm rfl (by decide +kernel) ?_)
 (refine Cx.fieldAddr rfl rfl ?_)
 (refine Cx.load rfl 0 rfl rfl rfl ?_)
 (refine SegC.q (Qs.call (Lc := []) (a1) (fun s L' h => h) (List.Perm.refl _) (evs_args rfl)) rfl ?_)
 (refine Cx.fieldAddr rfl rfl ?_)
 (refine Cx.load rfl 0 rfl rfl rfl ?_)
 (refine SegC.q (Qs.call (Lc := []) (a2) (fun s L' h => h) (List.Perm.refl _) (evs_args rfl)) rfl ?_)
 (refine Cx.cat rfl rfl (by first | omega | (simp only [List.length_append, List.length_cons, List.length_nil]; omega)) rfl ?_)
 (refine Cx.fieldAddr rfl rfl ?_)
 (refine Cx.load rfl 0 rfl rfl rfl ?_)
 (refine SegC.q (Qs.call (Lc := []) (a3) (fun s L' h => h) (List.Perm.refl _) (evs_args rfl)) rfl ?_)
 (refine Cx.cat rfl rfl (by first | omega | (simp only [List.length_append, List.length_cons, List.length_nil]; omega)) rfl ?_)
 (refine Cx.fieldAddr rfl rfl ?_)
 (refine Cx.load rfl 0 rfl rfl rfl ?_)
 (refine SegC.q (Qs.call (Lc := []) (c2) (fun s L' h => h) (List.Perm.refl _) (evs_args rfl)) rfl ?_)
 (refine Cx.cat rfl rfl (by first | omega | (simp only [List.length_append, List.length_cons, List.length_nil]; omega)) rfl ?_)
 (refine Cx.assign rfl rfl ?_)
 (refine SegC.nil ?_)
 (refine N.seq (W.seq ?_))
 (refine W.draw follows ?_)
 (refine JD.calm rfl (by decide +kernel) ?_)
 (refine Cx.move rfl rfl ?_)
 (refine Cx.fieldAddr rfl rfl ?_)
 (refine Cx.load rfl 0 rfl rfl rfl ?_)
 (refine SegC.q (Qs.call (Lc := []) (c3) (fun s L' h => h) (List.Perm.refl _) (evs_args rfl)) rfl ?_)
 (refine Cx.cat rfl rfl (by first | omega | (simp only [List.length_append, List.length_cons, List.length_nil]; omega)) rfl ?_)
 (refine Cx.fieldAddr rfl rfl ?_)
 (refine Cx.load rfl 0 rfl rfl rfl ?_)
 (refine SegC.q (Qs.call (Lc := []) (c4) (fun s L' h => h) (List.Perm.refl _) (evs_args rfl)) rfl ?_)
 (refine Cx.cat rfl rfl (by first | omega | (simp only [List.length_append, List.length_cons, List.length_nil]; omega)) rfl ?_)
 (refine Cx.fieldAddr rfl rfl ?_)
 (refine Cx.load rfl 0 rfl rfl rfl ?_)
 (refine SegC.q (Qs.call (Lc := []) (c5) (fun s L' h => h) (List.Perm.refl _) (evs_args rfl)) rfl ?_)
 (refine Cx.cat rfl rfl (by first | omega | (simp only [List.length_append, List.length_cons, List.length_nil]; omega)) rfl ?_)
 (refine Cx.fieldAddr rfl rfl ?_)
 (refine Cx.load rfl 0 rfl rfl rfl ?_)
 (refine Cx.cat rfl rfl (by first | omega | (simp only [List.length_append, List.length_cons, List.length_nil]; omega)) rfl ?_)
 (refine Cx.fieldAddr rfl rfl ?_)
 (refine Cx.load rfl 0 rfl rfl rfl ?_)
 (refine Cx.cat rfl rfl (by first | omega | (simp only [List.length_append, List.length_cons, List.length_nil]; omega)) rfl ?_)
 (refine Cx.fieldAddr rfl rfl ?_)
 (refine Cx.load rfl 0 rfl rfl rfl ?_)
 (refine Cx.cat rfl rfl (by first | omega | (simp only [List.length_append, List.length_cons, List.length_nil]; omega)) rfl ?_)
 (refine Cx.assign rfl rfl ?_)
 (refine SegC.nil ?_)
 (refine N.seq (W.seq (W.seq (W.region (Jx.assign rfl rfl (J.nil (N.seq (W.block ?_))))))))
 (refine id ?_; rotate_left))
  refine W.loop (α := Nat) (fun i => [(4, int (i : Int)), (1, ptr b'), (3, str (X ++ flT idB (h.skips.take i)))]) (fun _ => [.obj b' tHd (hdC h)]) (fun i => i ≤ h.skips.length) (fun i => h.skips.length - i) 0 (by simp) rfl ⟨ref0 rfl, ref0 rfl, ⟨_, rfl, Sub.of_eq (by rw [hX]; simp [flT])⟩, trivial⟩ ?_
  intro i hi
  by_cases h2 : i < h.skips.length
  · have hst := flT_take idB [] h.skips i h2
    have hsi : (h.skips.getD i []).length = 32 := f.each _ (getD_mem h2)
    have hki := hsk i
    have hst2 : X ++ flT idB (h.skips.take i) ++ h.skips.getD i [] = X ++ flT idB (h.skips.take (i + 1)) := by rw [← hst, List.append_assoc]; rfl
    generalize flT idB (h.skips.take i) = acc at *
    focus (
 (refine W.seq (W.seq (W.region (Jx.move rfl rfl (Jx.fieldAddr rfl rfl ?_)))))
 (refine Jx.load rfl 0 rfl rfl rfl ?_)
 (refine Jx.lenSl rfl rfl ?_)
 (refine Jx.lssI rfl rfl rfl (J.nil (N.seq (W.cT rfl ?_))))
 (refine W.skip (N.seq (W.seq (W.block (W.region (Jx.move rfl rfl (Jx.fieldAddr rfl rfl ?_)))))))
 (refine Jx.load rfl 0 rfl rfl rfl ?_)
 (refine Jx.move rfl rfl (Jx.indexEl rfl rfl (by assumption) rfl rfl ?_))
 (refine Jx.loadPP rfl rfl ?_)
 (refine Jx.cat rfl rfl (by first | omega | (simp only [List.length_append, List.length_cons, List.length_nil]; omega)) rfl ?_)
 (refine Jx.assign rfl rfl (J.nil (N.seq (W.region (Jx.move rfl rfl (Jx.add64 rfl rfl (by omega) rfl ?_))))))
 (refine Jx.assign rfl rfl (J.nil ?_))
 (refine id ?_; rotate_left))
    exact N.round (i + 1) h2 (by omega) rfl ⟨ref0 rfl, ref0 rfl, ⟨_, rfl, Sub.of_eq (by rw [hst2])⟩, trivial⟩
  · rw [List.take_of_length_le (by omega)]
    focus (
 (refine W.seq (W.seq (W.region (Jx.move rfl rfl (Jx.fieldAddr rfl rfl ?_)))))
 (refine Jx.load rfl 0 rfl rfl rfl ?_)
 (refine Jx.lenSl rfl rfl ?_)
 (refine Jx.lssI rfl rfl rfl (J.nil (N.seq (W.cF rfl ?_))))
 (refine W.exit (N.seq (W.seq (W.region (Jx.move rfl rfl (Jx.assign rfl rfl (J.nil (N.seq (W.ret ?_)))))))))
 (refine id ?_; rotate_left))
    refine N.retD (rs := [.tmp 2]) (L1 := []) rfl (.tmp rfl .nil) (List.nil_sublist _) ⟨?_, rfl⟩
    rw [← hX]
    simp only [oneOr, List.append_assoc]
set_option maxHeartbeats 2000000 in
theorem sameH_ok (x y : Hd) (hb : x.skips.length ≤ 1048576) : FnC Tryz.prog 50 [.agg (hdC x), .agg (hdC y)] [] (fun v L => v = bool (decide (x = y)) ∧ L = []) := by
  have c := same_ok x.skips y.skips hb
  refine FnC.intro Tryz.func50 rfl Tryz.ntmps50 rfl fun Z w0 hG => ?_
  focus (
 (refine W.seq (W.region ?_))
 (refine J.boxAg rfl rfl ?_; intro b')
 (refine J.boxAg rfl rfl ?_; intro b')
 (refine Jx.assign rfl rfl (J.nil (N.seq (W.seq (W.seq (W.region (Jx.fieldAddr rfl rfl ?_)))))))
 (refine Jx.load rfl 1 rfl rfl rfl ?_)
 (refine Jx.fieldAddr rfl rfl ?_)
 (refine Jx.load rfl 0 rfl rfl rfl ?_)
 (refine Jx.neqI rfl rfl rfl (Jx.move rfl rfl ?_))
 (refine' J.guardOr rfl rfl rfl rfl rfl rfl rfl rfl (fun _ => ?_) ?_; rotate_left)
 (refine J.gY rfl rfl rfl ?_)
 (refine Jx.fieldAddr rfl rfl ?_)
 (refine J.gY rfl rfl rfl ?_)
 (refine Jx.load rfl 1 rfl rfl rfl ?_)
 (refine J.gY rfl rfl rfl ?_)
 (refine Jx.fieldAddr rfl rfl ?_)
 (refine J.gY rfl rfl rfl ?_)
 (refine Jx.load rfl 0 rfl rfl rfl ?_)
 (refine J.gY rfl rfl rfl ?_)
 (refine Jx.neqI rfl rfl rfl (J.nil ?_))
 (refine N.joinedN rfl rfl rfl)
 (refine Jx.move rfl rfl ?_)
 (refine' J.guardOr rfl rfl rfl rfl rfl rfl rfl rfl (fun _ => ?_) ?_; rotate_left)
 (refine J.gY rfl rfl rfl ?_)
 (refine Jx.fieldAddr rfl rfl ?_)
 (refine J.gY rfl rfl rfl ?_)
 (refine Jx.load rfl 1 rfl rfl rfl ?_)
 (refine J.gY rfl rfl rfl ?_)
 (refine Jx.fieldAddr rfl rfl ?_)
 (refine J.gY rfl rfl rfl ?_)
 (refine Jx.load rfl 0 rfl rfl rfl ?_)
 (refine J.gY rfl rfl rfl ?_)
 (refine Jx.neqI rfl rfl rfl (J.nil ?_))
 (refine N.joinedN rfl rfl rfl)
 (refine Jx.move rfl rfl ?_)
 (refine' J.guardOr rfl rfl rfl rfl rfl rfl rfl rfl (fun _ => ?_) ?_; rotate_left)
 (refine J.gY rfl rfl rfl ?_)
 (refine Jx.fieldAddr rfl rfl ?_)
 (refine J.gY rfl rfl rfl ?_)
 (refine Jx.load rfl 1 rfl rfl rfl ?_)
 (refine J.gY rfl rfl rfl ?_)
 (refine Jx.fieldAddr rfl rfl ?_)
 (refine J.gY rfl rfl rfl ?_)
 (refine Jx.load rfl 0 rfl rfl rfl ?_)
 (refine J.gY rfl rfl rfl ?_)
 (refine Jx.neqB rfl rfl rfl ?_)
 (refine J.nil ?_)
 (refine N.joinedN rfl rfl rfl)
 (refine Jx.move rfl rfl ?_)
 (refine' J.guardOr rfl rfl rfl rfl rfl rfl rfl rfl (fun _ => ?_) ?_; rotate_left)
 (refine J.gY rfl rfl rfl ?_)
 (refine Jx.fieldAddr rfl rfl ?_)
 (refine J.gY rfl rfl rfl ?_)
 (refine Jx.load rfl 1 rfl rfl rfl ?_)
 (refine J.gY rfl rfl rfl ?_)
 (refine Jx.fieldAddr rfl rfl ?_)
 (refine J.gY rfl rfl rfl ?_)
 (refine Jx.load rfl 0 rfl rfl rfl ?_)
 (refine J.gY rfl rfl rfl ?_)
 (refine Jx.neqS rfl rfl rfl (J.nil ?_))
 (refine N.joinedN rfl rfl rfl)
 (refine Jx.move rfl rfl ?_)
 (refine' J.guardOr rfl rfl rfl rfl rfl rfl rfl rfl (fun _ => ?_) ?_; rotate_left)
 (refine J.gY rfl rfl rfl ?_)
 (refine Jx.fieldAddr rfl rfl ?_)
 (refine J.gY rfl rfl rfl ?_)
 (refine Jx.load rfl 1 rfl rfl rfl ?_)
 (refine J.gY rfl rfl rfl ?_)
 (refine Jx.fieldAddr rfl rfl ?_)
 (refine J.gY rfl rfl rfl ?_)
 (refine Jx.load rfl 0 rfl rfl rfl ?_)
 (refine J.gY rfl rfl rfl ?_)
 (refine Jx.neqS rfl rfl rfl (J.nil ?_))
 (refine N.joinedN rfl rfl rfl)
 (refine J.nil (N.seq ?_))
 (refine id ?_; rotate_left))
  refine W.cond rfl (fun hb => ?_) (fun hb => ?_)
  · have hne : x ≠ y := fun e => by subst e; simp at hb
    rw [decide_eq_false hne]
    focus (
 (refine W.seq (W.region (Jx.assign rfl rfl (J.nil (N.seq (W.ret (N.noGotoRet ?_)))))))
 (refine id ?_; rotate_left))
    exact N.retD (rs := [.tmp 4]) (L1 := []) rfl (.tmp rfl .nil) (List.nil_sublist _) ⟨rfl, rfl⟩
  · simp only [Bool.or_eq_false_iff, decide_eq_false_iff_not, Classical.not_not, Bool.not_eq_false', beq_iff_eq] at hb
    obtain ⟨⟨⟨⟨⟨e1, e2⟩, e3⟩, e4⟩, e5⟩, e6⟩ := hb
    focus (
 (refine W.skip (N.seq (W.seq (W.region (Jx.fieldAddr rfl rfl ?_)))))
 (refine Jx.load rfl 1 rfl rfl rfl ?_)
 (refine Jx.fieldAddr rfl rfl ?_)
 (refine Jx.load rfl 0 rfl rfl rfl ?_)
 (refine Jx.eqlS rfl rfl rfl (Jx.move rfl rfl ?_))
 (refine' J.guardAnd rfl rfl rfl rfl rfl rfl rfl rfl (fun _ => ?_) ?_; rotate_left)
 (refine J.gY rfl rfl rfl ?_)
 (refine Jx.fieldAddr rfl rfl ?_)
 (refine J.gY rfl rfl rfl ?_)
 (refine Jx.load rfl 1 rfl rfl rfl ?_)
 (refine J.gY rfl rfl rfl ?_)
 (refine Jx.fieldAddr rfl rfl ?_)
 (refine J.gY rfl rfl rfl ?_)
 (refine Jx.load rfl 0 rfl rfl rfl ?_)
 (refine J.gY rfl rfl rfl ?_)
 (refine Jx.eqlS rfl rfl rfl (J.nil ?_))
 (refine N.joinedN rfl rfl rfl)
 (refine Jx.move rfl rfl ?_)
 (refine' J.guardAnd rfl rfl rfl rfl rfl rfl rfl rfl (fun _ => ?_) ?_; rotate_left)
 (refine J.gY rfl rfl rfl ?_)
 (refine Jx.fieldAddr rfl rfl ?_)
 (refine J.gY rfl rfl rfl ?_)
 (refine Jx.load rfl 1 rfl rfl rfl ?_)
 (refine J.gY rfl rfl rfl ?_)
 (refine Jx.fieldAddr rfl rfl ?_)
 (refine J.gY rfl rfl rfl ?_)
 (refine Jx.load rfl 0 rfl rfl rfl ?_)
 (refine J.gY rfl rfl rfl ?_)
 (refine Jx.eqlS rfl rfl rfl (J.nil ?_))
 (refine N.joinedN rfl rfl rfl)
 (refine Jx.move rfl rfl ?_)
 (refine' J.guardAnd rfl rfl rfl rfl rfl rfl rfl rfl (fun _ => ?_) ?_; rotate_left)
 (refine J.gY rfl rfl rfl ?_)
 (refine Jx.fieldAddr rfl rfl ?_)
 (refine J.gY rfl rfl rfl ?_)
 (refine Jx.load rfl 1 rfl rfl rfl ?_)
 (refine J.gY rfl rfl rfl ?_)
 (refine Jx.fieldAddr rfl rfl ?_)
 (refine J.gY rfl rfl rfl ?_)
 (refine Jx.load rfl 0 rfl rfl rfl ?_)
 (refine J.gY rfl rfl rfl ?_)
 (refine Jx.eqlS rfl rfl rfl (J.nil ?_))
 (refine N.joinedN rfl rfl rfl)
 (refine Jx.move rfl rfl ?_)
 (refine' J.guardAnd rfl rfl rfl rfl rfl rfl rfl rfl (fun _ => ?_) ?_; rotate_left)
 (refine J.gY rfl rfl rfl ?_)
 (refine Jx.fieldAddr rfl rfl ?_)
 (refine J.gY rfl rfl rfl ?_)
 (refine Jx.load rfl 1 rfl rfl rfl ?_)
 (refine J.gY rfl rfl rfl ?_)
 (refine Jx.fieldAddr rfl rfl ?_)
 (refine J.gY rfl rfl rfl ?_)
 (refine Jx.load rfl 0 rfl rfl rfl ?_)
 (refine J.gY rfl rfl rfl ?_)
 (refine J.call (c) rfl (evs_args rfl) rfl ?_; rintro _ _ ⟨rfl, rfl⟩; simp only [la1, la2, la3])
 (refine J.nil ?_)
 (refine N.joinedN rfl rfl rfl)
 (refine Jx.assign rfl rfl (J.nil (N.seq (W.ret ?_))))
 (refine id ?_; rotate_left))
    refine N.retD (rs := [.tmp 4]) (L1 := []) rfl (.tmp rfl .nil) (List.nil_sublist _) ⟨congrArg Sse.bool ?_, rfl⟩
    rw [Bool.eq_iff_iff]
    simp only [Bool.and_eq_true, decide_eq_true_eq]
    constructor
    · rintro ⟨⟨⟨⟨e7, e8⟩, e9⟩, e10⟩, e11⟩
      exact Hd.ext' e1 e2 e3 e4 e5 e6 e7 e8 e9 e10 e11
    · rintro rfl
      exact ⟨⟨⟨⟨rfl, rfl⟩, rfl⟩, rfl⟩, rfl⟩
end Go.Proofs.YtlfdhkahiaammaaGreatDoor
namespace Go.Proofs.YtlfdhkahiaammaaGreatDoor
open Go Go.Sse
set_option linter.unusedVariables false
set_option linter.unusedSimpArgs false
set_option maxRecDepth 10000
abbrev tBk : Nat := 29
theorem agBk : TAg Tryz.prog tBk 14 := inferInstance
abbrev bkz : List SV := [int 0, int 0, int 0, bool false, str [], str [], str [], str [], str [], str [], .val (.slice none 0 0), .val (.slice none 0 0), str [], .val (.slice none 0 0)]
theorem bkz_sub : SubL bkz (bkC bk0) := .cons (.refl _) (.cons (.refl _) (.cons (.refl _) (.cons (.refl _) (.cons (.refl _) (.cons (.refl _) (.cons (.refl _) (.cons (.refl _) (.cons (.refl _) (.cons (.refl _) (.cons (Sub.nil 1 _) (.cons (Sub.nil 8 _) (.cons (.refl _) (.cons (Sub.nil 1 _) .nil)))))))))))))
theorem topB_spec {b : Bk} (h : topB b = true) : fineHd b.head = true ∧ 1 ≤ b.head.height ∧ fineAll b.txs = true ∧ rootT b.txs = b.head.txs := by
  simp only [topB, Bool.and_eq_true, decide_eq_true_eq] at h
  exact ⟨h.1.1.1, h.1.1.2, h.1.2, h.2⟩
theorem topB_bad {b : Bk} (h : topB b = false) (hb : (((decide (codeB (fineHd b.head) 190 ≠ 0) || decide (codeAll b.txs ≠ 0)) || decide (b.head.height = 0)) || decide (rootT b.txs ≠ b.head.txs)) = false) : False := by
  simp only [Bool.or_eq_false_iff, decide_eq_false_iff_not, Classical.not_not] at hb
  obtain ⟨⟨⟨h1, h2⟩, h3⟩, h4⟩ := hb
  have hf : fineHd b.head = true := by
    cases hf : fineHd b.head with
    | true => rfl
    | false => rw [hf] at h1; simp at h1
  have := ((fineHd_iff _).1 hf).height
  rw [topB, hf, decide_eq_true (by omega), (codeAll_zero _).1 h2, decide_eq_true h4] at h
  cases h
theorem rtopB_bad {b : Bk} (h : topB b = false) (hb : (((!fineHd b.head || decide (b.head.height < 1)) || decide (codeAll b.txs ≠ 0)) || decide (rootT b.txs ≠ b.head.txs)) = false) : False := by
  simp only [Bool.or_eq_false_iff, decide_eq_false_iff_not, Classical.not_not, Bool.not_eq_false'] at hb
  obtain ⟨⟨⟨h1, h2⟩, h3⟩, h4⟩ := hb
  rw [topB, h1, decide_eq_true (by omega), (codeAll_zero _).1 h3, decide_eq_true h4] at h
  cases h
theorem fineBk_top {b : Bk} (h : topB b = false) : fineBk b = false := by rw [fineBk, h]; rfl
set_option maxHeartbeats 2000000 in
theorem bencode_ok (b : Bk) (hl : b.head.skips.length ≤ 1048576) : FnC Tryz.prog 7 [.agg (bkC b)] [] (fun v L => v = .tup [str (encO fineBk encBk b), int (codeB (fineBk b) 210)] ∧ L = []) := by
  have c1 := hencode_ok b.head hl
  have c2 := troot_ok b.txs
  have c3 := tencAll_ok b.txs
  have c4 := bbare_ok b.just
  have c5 := cencode_ok b.just
  refine FnC.intro Tryz.func7 rfl Tryz.ntmps7 rfl fun Z w0 hG => ?_
  unfold encO
  cases ht : topB b with
  | false =>
    rw [fineBk_top ht]
    focus (
 (refine W.seq (W.region ?_))
 (refine J.boxAg rfl rfl ?_; intro b')
 (refine Jx.assign rfl rfl (Jx.assign rfl rfl (J.nil (N.seq (W.seq (W.region (Jx.fieldAddr rfl rfl ?_)))))))
 (refine Jx.loadAg rfl 0 rfl rfl rfl rfl ?_)
 (refine J.call (c1) rfl (evs_args rfl) rfl ?_; rintro _ _ ⟨rfl, rfl⟩; simp only [la1, la2, la3])
 (refine Jx.move rfl rfl (Jx.extract rfl rfl rfl ?_))
 (refine Jx.extract rfl rfl rfl ?_)
 (refine Jx.assign rfl rfl (Jx.assign rfl rfl (J.nil (N.seq (W.seq (W.region (Jx.fieldAddr rfl rfl ?_)))))))
 (refine Jx.load rfl 0 rfl rfl rfl ?_)
 (refine J.call (c2) rfl (evs_args rfl) rfl ?_; rintro _ _ ⟨rfl, rfl⟩; simp only [la1, la2, la3])
 (refine Jx.move rfl rfl (Jx.extract rfl rfl rfl ?_))
 (refine Jx.extract rfl rfl rfl ?_)
 (refine Jx.assign rfl rfl (Jx.assign rfl rfl (J.nil (N.seq (W.seq (W.seq (W.region (Jx.move rfl rfl (Jx.neqI rfl rfl rfl (Jx.move rfl rfl ?_))))))))))
 (refine' J.guardOr rfl rfl rfl rfl rfl rfl rfl rfl (fun _ => ?_) ?_; rotate_left)
 (refine J.gY rfl rfl rfl ?_)
 (refine Jx.move rfl rfl (J.gY rfl rfl rfl ?_))
 (refine Jx.neqI rfl rfl rfl (J.nil ?_))
 (refine N.joinedN rfl rfl rfl)
 (refine Jx.move rfl rfl ?_)
 (refine' J.guardOr rfl rfl rfl rfl rfl rfl rfl rfl (fun _ => ?_) ?_; rotate_left)
 (refine J.gY rfl rfl rfl ?_)
 (refine Jx.fieldAddr rfl rfl ?_)
 (refine J.gY rfl rfl rfl ?_)
 (refine Jx.fieldAddr rfl rfl ?_)
 (refine J.gY rfl rfl rfl ?_)
 (refine Jx.load rfl 0 rfl rfl rfl ?_)
 (refine J.gY rfl rfl rfl ?_)
 (refine Jx.eqlI rfl rfl rfl (J.nil ?_))
 (refine N.joinedN rfl rfl rfl)
 (refine Jx.move rfl rfl ?_)
 (refine' J.guardOr rfl rfl rfl rfl rfl rfl rfl rfl (fun _ => ?_) ?_; rotate_left)
 (refine J.gY rfl rfl rfl ?_)
 (refine Jx.move rfl rfl (J.gY rfl rfl rfl ?_))
 (refine Jx.fieldAddr rfl rfl ?_)
 (refine J.gY rfl rfl rfl ?_)
 (refine Jx.fieldAddr rfl rfl ?_)
 (refine J.gY rfl rfl rfl ?_)
 (refine Jx.load rfl 0 rfl rfl rfl ?_)
 (refine J.gY rfl rfl rfl ?_)
 (refine Jx.neqS rfl rfl rfl (J.nil ?_))
 (refine N.joinedN rfl rfl rfl)
 (refine J.nil (N.seq ?_))
 (refine id ?_; rotate_left))
    refine W.cond rfl (fun hb => ?_) (fun hb => ?_)
    · focus (
 (refine W.seq (W.region (Jx.assign rfl rfl (Jx.assign rfl rfl (J.nil (N.seq (W.ret (N.noGotoRet ?_))))))))
 (refine id ?_; rotate_left))
      exact N.retD (rs := [.tmp 2, .tmp 3]) (L1 := []) rfl (.tmp rfl (.tmp rfl .nil)) (List.nil_sublist _) ⟨rfl, rfl⟩
    · exact (topB_bad ht hb).elim
  | true =>
    obtain ⟨t1, t2, t3, t4⟩ := topB_spec ht
    have hroot : ¬ rootT b.txs ≠ b.head.txs := fun h => h t4
    have l1 := encHd_len ((fineHd_iff _).1 t1)
    have l2 := encAll_len t3
    have c6 := text_ok (encHd b.head) (by omega)
    have c7 := text_ok (encAll b.txs) (by omega)
    have k1 := textB_len l1 (by omega); have k2 := textB_len l2 (by omega); have kf1 := flag_len true; have kf0 := flag_len false
    rw [encO, t1, if_pos rfl] at c1
    rw [(codeAll_zero _).2 t3] at c2
    rw [encO, t3, if_pos rfl, (codeAll_zero _).2 t3] at c3
    have e0 : encBk b = textB (encHd b.head) ++ (textB (encAll b.txs) ++ justE b.just) := rfl
    have e1 : fineBk b = justB b := by rw [fineBk, ht]; rfl
    rw [e0, e1]
    unfold justE justB
    clear e0 e1
    generalize rootT b.txs = rt at *
    generalize textB (encHd b.head) = th at *
    generalize textB (encAll b.txs) = ta at *
    generalize encHd b.head = eh at *
    generalize encAll b.txs = ea at *
    cases hbare : bareCt b.just with
    | true =>
      rw [hbare] at c4
      focus (
 (refine W.seq (W.region ?_))
 (refine J.boxAg rfl rfl ?_; intro b')
 (refine Jx.assign rfl rfl (Jx.assign rfl rfl (J.nil (N.seq (W.seq (W.region (Jx.fieldAddr rfl rfl ?_)))))))
 (refine Jx.loadAg rfl 0 rfl rfl rfl rfl ?_)
 (refine J.call (c1) rfl (evs_args rfl) rfl ?_; rintro _ _ ⟨rfl, rfl⟩; simp only [la1, la2, la3])
 (refine Jx.move rfl rfl (Jx.extract rfl rfl rfl ?_))
 (refine Jx.extract rfl rfl rfl ?_)
 (refine Jx.assign rfl rfl (Jx.assign rfl rfl (J.nil (N.seq (W.seq (W.region (Jx.fieldAddr rfl rfl ?_)))))))
 (refine Jx.load rfl 0 rfl rfl rfl ?_)
 (refine J.call (c2) rfl (evs_args rfl) rfl ?_; rintro _ _ ⟨rfl, rfl⟩; simp only [la1, la2, la3])
 (refine Jx.move rfl rfl (Jx.extract rfl rfl rfl ?_))
 (refine Jx.extract rfl rfl rfl ?_)
 (refine Jx.assign rfl rfl (Jx.assign rfl rfl (J.nil (N.seq (W.seq (W.seq (W.region (Jx.move rfl rfl (Jx.neqI rfl rfl rfl (Jx.move rfl rfl (J.gY rfl rfl rfl ?_)))))))))))
 (refine Jx.move rfl rfl (J.gY rfl rfl rfl ?_))
 (refine Jx.neqI rfl rfl rfl (Jx.pF rfl rfl rfl ?_))
 (refine Jx.move rfl rfl (J.gY rfl rfl rfl ?_))
 (refine Jx.fieldAddr rfl rfl ?_)
 (refine J.gY rfl rfl rfl ?_)
 (refine Jx.fieldAddr rfl rfl ?_)
 (refine J.gY rfl rfl rfl ?_)
 (refine Jx.load rfl 0 rfl rfl rfl ?_)
 (refine J.gY rfl rfl rfl ?_)
 (refine Jx.eqlI rfl rfl rfl (Jx.pF rfl rfl rfl ?_))
 (refine Jx.move rfl rfl (J.gY rfl rfl rfl ?_))
 (refine Jx.move rfl rfl (J.gY rfl rfl rfl ?_))
 (refine Jx.fieldAddr rfl rfl ?_)
 (refine J.gY rfl rfl rfl ?_)
 (refine Jx.fieldAddr rfl rfl ?_)
 (refine J.gY rfl rfl rfl ?_)
 (refine Jx.load rfl 0 rfl rfl rfl ?_)
 (refine J.gY rfl rfl rfl ?_)
 (refine Jx.neqS rfl rfl rfl (Jx.pF rfl rfl rfl ?_))
 (refine J.nil (N.seq (W.cF rfl ?_)))
 (refine W.skip (N.seq (W.seq (W.region (Jx.fieldAddr rfl rfl ?_)))))
 (refine Jx.load rfl 0 rfl rfl rfl ?_)
 (refine J.call (c3) rfl (evs_args rfl) rfl ?_; rintro _ _ ⟨rfl, rfl⟩; simp only [la1, la2, la3])
 (refine Jx.move rfl rfl (Jx.extract rfl rfl rfl ?_))
 (refine Jx.extract rfl rfl rfl ?_)
 (refine Jx.assign rfl rfl (Jx.assign rfl rfl (J.nil (N.seq (W.seq (W.region (Jx.move rfl rfl ?_)))))))
 (refine J.call (c6) rfl (evs_args rfl) rfl ?_; rintro _ _ ⟨rfl, rfl⟩; simp only [la1, la2, la3])
 (refine Jx.move rfl rfl ?_)
 (refine J.call (c7) rfl (evs_args rfl) rfl ?_; rintro _ _ ⟨rfl, rfl⟩; simp only [la1, la2, la3])
 (refine Jx.cat rfl rfl (by first | omega | (simp only [List.length_append, List.length_cons, List.length_nil]; omega)) rfl ?_)
 (refine Jx.assign rfl rfl (J.nil (N.seq (W.seq (W.seq (W.region (Jx.fieldAddr rfl rfl ?_)))))))
 (refine Jx.loadAg rfl 0 rfl rfl rfl rfl ?_)
 (refine J.call (c4) rfl (evs_args rfl) rfl ?_; rintro _ _ ⟨rfl, rfl⟩; simp only [la1, la2, la3])
 (refine J.nil (N.seq (W.cT rfl ?_)))
 (refine W.seq (W.region (Jx.move rfl rfl ?_)))
 (refine J.call ((flag_ok false)) rfl (evs_args rfl) rfl ?_; rintro _ _ ⟨rfl, rfl⟩; simp only [la1, la2, la3])
 (refine Jx.cat rfl rfl (by first | omega | (simp only [List.length_append, List.length_cons, List.length_nil]; omega)) rfl ?_)
 (refine Jx.assign rfl rfl (Jx.assign rfl rfl (J.nil (N.seq (W.ret (N.noGotoRet ?_))))))
 (refine id ?_; rotate_left))
      exact N.retD (rs := [.tmp 2, .tmp 3]) (L1 := []) rfl (.tmp rfl (.tmp rfl .nil)) (List.nil_sublist _) ⟨by simp [oneOr], rfl⟩
    | false =>
      rw [hbare] at c4
      cases hj : fineCt b.just with
      | false =>
        rw [hj] at c5
        focus (
 (refine W.seq (W.region ?_))
 (refine J.boxAg rfl rfl ?_; intro b')
 (refine Jx.assign rfl rfl (Jx.assign rfl rfl (J.nil (N.seq (W.seq (W.region (Jx.fieldAddr rfl rfl ?_)))))))
 (refine Jx.loadAg rfl 0 rfl rfl rfl rfl ?_)
 (refine J.call (c1) rfl (evs_args rfl) rfl ?_; rintro _ _ ⟨rfl, rfl⟩; simp only [la1, la2, la3])
 (refine Jx.move rfl rfl (Jx.extract rfl rfl rfl ?_))
 (refine Jx.extract rfl rfl rfl ?_)
 (refine Jx.assign rfl rfl (Jx.assign rfl rfl (J.nil (N.seq (W.seq (W.region (Jx.fieldAddr rfl rfl ?_)))))))
 (refine Jx.load rfl 0 rfl rfl rfl ?_)
 (refine J.call (c2) rfl (evs_args rfl) rfl ?_; rintro _ _ ⟨rfl, rfl⟩; simp only [la1, la2, la3])
 (refine Jx.move rfl rfl (Jx.extract rfl rfl rfl ?_))
 (refine Jx.extract rfl rfl rfl ?_)
 (refine Jx.assign rfl rfl (Jx.assign rfl rfl (J.nil (N.seq (W.seq (W.seq (W.region (Jx.move rfl rfl (Jx.neqI rfl rfl rfl (Jx.move rfl rfl (J.gY rfl rfl rfl ?_)))))))))))
 (refine Jx.move rfl rfl (J.gY rfl rfl rfl ?_))
 (refine Jx.neqI rfl rfl rfl (Jx.pF rfl rfl rfl ?_))
 (refine Jx.move rfl rfl (J.gY rfl rfl rfl ?_))
 (refine Jx.fieldAddr rfl rfl ?_)
 (refine J.gY rfl rfl rfl ?_)
 (refine Jx.fieldAddr rfl rfl ?_)
 (refine J.gY rfl rfl rfl ?_)
 (refine Jx.load rfl 0 rfl rfl rfl ?_)
 (refine J.gY rfl rfl rfl ?_)
 (refine Jx.eqlI rfl rfl rfl (Jx.pF rfl rfl rfl ?_))
 (refine Jx.move rfl rfl (J.gY rfl rfl rfl ?_))
 (refine Jx.move rfl rfl (J.gY rfl rfl rfl ?_))
 (refine Jx.fieldAddr rfl rfl ?_)
 (refine J.gY rfl rfl rfl ?_)
 (refine Jx.fieldAddr rfl rfl ?_)
 (refine J.gY rfl rfl rfl ?_)
 (refine Jx.load rfl 0 rfl rfl rfl ?_)
 (refine J.gY rfl rfl rfl ?_)
 (refine Jx.neqS rfl rfl rfl (Jx.pF rfl rfl rfl ?_))
 (refine J.nil (N.seq (W.cF rfl ?_)))
 (refine W.skip (N.seq (W.seq (W.region (Jx.fieldAddr rfl rfl ?_)))))
 (refine Jx.load rfl 0 rfl rfl rfl ?_)
 (refine J.call (c3) rfl (evs_args rfl) rfl ?_; rintro _ _ ⟨rfl, rfl⟩; simp only [la1, la2, la3])
 (refine Jx.move rfl rfl (Jx.extract rfl rfl rfl ?_))
 (refine Jx.extract rfl rfl rfl ?_)
 (refine Jx.assign rfl rfl (Jx.assign rfl rfl (J.nil (N.seq (W.seq (W.region (Jx.move rfl rfl ?_)))))))
 (refine J.call (c6) rfl (evs_args rfl) rfl ?_; rintro _ _ ⟨rfl, rfl⟩; simp only [la1, la2, la3])
 (refine Jx.move rfl rfl ?_)
 (refine J.call (c7) rfl (evs_args rfl) rfl ?_; rintro _ _ ⟨rfl, rfl⟩; simp only [la1, la2, la3])
 (refine Jx.cat rfl rfl (by first | omega | (simp only [List.length_append, List.length_cons, List.length_nil]; omega)) rfl ?_)
 (refine Jx.assign rfl rfl (J.nil (N.seq (W.seq (W.seq (W.region (Jx.fieldAddr rfl rfl ?_)))))))
 (refine Jx.loadAg rfl 0 rfl rfl rfl rfl ?_)
 (refine J.call (c4) rfl (evs_args rfl) rfl ?_; rintro _ _ ⟨rfl, rfl⟩; simp only [la1, la2, la3])
 (refine J.nil (N.seq (W.cF rfl ?_)))
 (refine W.skip (N.seq (W.seq (W.region (Jx.fieldAddr rfl rfl ?_)))))
 (refine Jx.loadAg rfl 0 rfl rfl rfl rfl ?_)
 (refine J.call (c5) rfl (evs_args rfl) rfl ?_; rintro _ _ ⟨rfl, rfl⟩; simp only [la1, la2, la3])
 (refine Jx.move rfl rfl (Jx.extract rfl rfl rfl ?_))
 (refine Jx.extract rfl rfl rfl ?_)
 (refine Jx.assign rfl rfl (Jx.assign rfl rfl (J.nil (N.seq (W.seq (W.seq (W.region (Jx.move rfl rfl (Jx.neqI rfl rfl rfl (Jx.move rfl rfl (J.gN rfl rfl rfl rfl ?_)))))))))))
 (refine J.gN rfl rfl rfl rfl ?_)
 (refine J.gN rfl rfl rfl rfl ?_)
 (refine J.gN rfl rfl rfl rfl ?_)
 (refine J.gN rfl rfl rfl rfl ?_)
 (refine J.gN rfl rfl rfl rfl ?_)
 (refine J.gN rfl rfl rfl rfl ?_)
 (refine Jx.pT rfl rfl rfl ?_)
 (refine J.nil (N.seq (W.cT rfl ?_)))
 (refine W.seq (W.region (Jx.assign rfl rfl (Jx.assign rfl rfl (J.nil (N.seq (W.ret (N.noGotoRet ?_))))))))
 (refine id ?_; rotate_left))
        exact N.retD (rs := [.tmp 2, .tmp 3]) (L1 := []) rfl (.tmp rfl (.tmp rfl .nil)) (List.nil_sublist _) ⟨rfl, rfl⟩
      | true =>
        rw [encO, hj, if_pos rfl] at c5
        have l3 := encCt_len hj
        have c8 := text_ok (encCt b.just) (by omega)
        have k3 := textB_len l3 (by omega)
        generalize textB (encCt b.just) = tc at *
        generalize encCt b.just = ec at *
        by_cases hp : b.just.digest = b.head.parent
        · have hp' : ¬ b.just.digest ≠ b.head.parent := fun h => h hp
          focus (
 (refine W.seq (W.region ?_))
 (refine J.boxAg rfl rfl ?_; intro b')
 (refine Jx.assign rfl rfl (Jx.assign rfl rfl (J.nil (N.seq (W.seq (W.region (Jx.fieldAddr rfl rfl ?_)))))))
 (refine Jx.loadAg rfl 0 rfl rfl rfl rfl ?_)
 (refine J.call (c1) rfl (evs_args rfl) rfl ?_; rintro _ _ ⟨rfl, rfl⟩; simp only [la1, la2, la3])
 (refine Jx.move rfl rfl (Jx.extract rfl rfl rfl ?_))
 (refine Jx.extract rfl rfl rfl ?_)
 (refine Jx.assign rfl rfl (Jx.assign rfl rfl (J.nil (N.seq (W.seq (W.region (Jx.fieldAddr rfl rfl ?_)))))))
 (refine Jx.load rfl 0 rfl rfl rfl ?_)
 (refine J.call (c2) rfl (evs_args rfl) rfl ?_; rintro _ _ ⟨rfl, rfl⟩; simp only [la1, la2, la3])
 (refine Jx.move rfl rfl (Jx.extract rfl rfl rfl ?_))
 (refine Jx.extract rfl rfl rfl ?_)
 (refine Jx.assign rfl rfl (Jx.assign rfl rfl (J.nil (N.seq (W.seq (W.seq (W.region (Jx.move rfl rfl (Jx.neqI rfl rfl rfl (Jx.move rfl rfl (J.gY rfl rfl rfl ?_)))))))))))
 (refine Jx.move rfl rfl (J.gY rfl rfl rfl ?_))
 (refine Jx.neqI rfl rfl rfl (Jx.pF rfl rfl rfl ?_))
 (refine Jx.move rfl rfl (J.gY rfl rfl rfl ?_))
 (refine Jx.fieldAddr rfl rfl ?_)
 (refine J.gY rfl rfl rfl ?_)
 (refine Jx.fieldAddr rfl rfl ?_)
 (refine J.gY rfl rfl rfl ?_)
 (refine Jx.load rfl 0 rfl rfl rfl ?_)
 (refine J.gY rfl rfl rfl ?_)
 (refine Jx.eqlI rfl rfl rfl (Jx.pF rfl rfl rfl ?_))
 (refine Jx.move rfl rfl (J.gY rfl rfl rfl ?_))
 (refine Jx.move rfl rfl (J.gY rfl rfl rfl ?_))
 (refine Jx.fieldAddr rfl rfl ?_)
 (refine J.gY rfl rfl rfl ?_)
 (refine Jx.fieldAddr rfl rfl ?_)
 (refine J.gY rfl rfl rfl ?_)
 (refine Jx.load rfl 0 rfl rfl rfl ?_)
 (refine J.gY rfl rfl rfl ?_)
 (refine Jx.neqS rfl rfl rfl (Jx.pF rfl rfl rfl ?_))
 (refine J.nil (N.seq (W.cF rfl ?_)))
 (refine W.skip (N.seq (W.seq (W.region (Jx.fieldAddr rfl rfl ?_)))))
 (refine Jx.load rfl 0 rfl rfl rfl ?_)
 (refine J.call (c3) rfl (evs_args rfl) rfl ?_; rintro _ _ ⟨rfl, rfl⟩; simp only [la1, la2, la3])
 (refine Jx.move rfl rfl (Jx.extract rfl rfl rfl ?_))
 (refine Jx.extract rfl rfl rfl ?_)
 (refine Jx.assign rfl rfl (Jx.assign rfl rfl (J.nil (N.seq (W.seq (W.region (Jx.move rfl rfl ?_)))))))
 (refine J.call (c6) rfl (evs_args rfl) rfl ?_; rintro _ _ ⟨rfl, rfl⟩; simp only [la1, la2, la3])
 (refine Jx.move rfl rfl ?_)
 (refine J.call (c7) rfl (evs_args rfl) rfl ?_; rintro _ _ ⟨rfl, rfl⟩; simp only [la1, la2, la3])
 (refine Jx.cat rfl rfl (by first | omega | (simp only [List.length_append, List.length_cons, List.length_nil]; omega)) rfl ?_)
 (refine Jx.assign rfl rfl (J.nil (N.seq (W.seq (W.seq (W.region (Jx.fieldAddr rfl rfl ?_)))))))
 (refine Jx.loadAg rfl 0 rfl rfl rfl rfl ?_)
 (refine J.call (c4) rfl (evs_args rfl) rfl ?_; rintro _ _ ⟨rfl, rfl⟩; simp only [la1, la2, la3])
 (refine J.nil (N.seq (W.cF rfl ?_)))
 (refine W.skip (N.seq (W.seq (W.region (Jx.fieldAddr rfl rfl ?_)))))
 (refine Jx.loadAg rfl 0 rfl rfl rfl rfl ?_)
 (refine J.call (c5) rfl (evs_args rfl) rfl ?_; rintro _ _ ⟨rfl, rfl⟩; simp only [la1, la2, la3])
 (refine Jx.move rfl rfl (Jx.extract rfl rfl rfl ?_))
 (refine Jx.extract rfl rfl rfl ?_)
 (refine Jx.assign rfl rfl (Jx.assign rfl rfl (J.nil (N.seq (W.seq (W.seq (W.region (Jx.move rfl rfl (Jx.neqI rfl rfl rfl (Jx.move rfl rfl (J.gY rfl rfl rfl ?_)))))))))))
 (refine Jx.fieldAddr rfl rfl ?_)
 (refine J.gY rfl rfl rfl ?_)
 (refine Jx.fieldAddr rfl rfl ?_)
 (refine J.gY rfl rfl rfl ?_)
 (refine Jx.load rfl 0 rfl rfl rfl ?_)
 (refine J.gY rfl rfl rfl ?_)
 (refine Jx.fieldAddr rfl rfl ?_)
 (refine J.gY rfl rfl rfl ?_)
 (refine Jx.fieldAddr rfl rfl ?_)
 (refine J.gY rfl rfl rfl ?_)
 (refine Jx.load rfl 0 rfl rfl rfl ?_)
 (refine J.gY rfl rfl rfl ?_)
 (refine Jx.neqS rfl rfl rfl (Jx.pF rfl rfl rfl ?_))
 (refine J.nil (N.seq (W.cF rfl ?_)))
 (refine W.skip (N.seq (W.seq (W.region (Jx.move rfl rfl ?_)))))
 (refine J.call ((flag_ok true)) rfl (evs_args rfl) rfl ?_; rintro _ _ ⟨rfl, rfl⟩; simp only [la1, la2, la3])
 (refine Jx.cat rfl rfl (by first | omega | (simp only [List.length_append, List.length_cons, List.length_nil]; omega)) rfl ?_)
 (refine Jx.move rfl rfl ?_)
 (refine J.call (c8) rfl (evs_args rfl) rfl ?_; rintro _ _ ⟨rfl, rfl⟩; simp only [la1, la2, la3])
 (refine Jx.cat rfl rfl (by first | omega | (simp only [List.length_append, List.length_cons, List.length_nil]; omega)) rfl ?_)
 (refine Jx.assign rfl rfl (Jx.assign rfl rfl (J.nil (N.seq (W.ret ?_)))))
 (refine id ?_; rotate_left))
          exact N.retD (rs := [.tmp 2, .tmp 3]) (L1 := []) rfl (.tmp rfl (.tmp rfl .nil)) (List.nil_sublist _) ⟨by simp [oneOr, hp], rfl⟩
        · rw [decide_eq_false hp]
          focus (
 (refine W.seq (W.region ?_))
 (refine J.boxAg rfl rfl ?_; intro b')
 (refine Jx.assign rfl rfl (Jx.assign rfl rfl (J.nil (N.seq (W.seq (W.region (Jx.fieldAddr rfl rfl ?_)))))))
 (refine Jx.loadAg rfl 0 rfl rfl rfl rfl ?_)
 (refine J.call (c1) rfl (evs_args rfl) rfl ?_; rintro _ _ ⟨rfl, rfl⟩; simp only [la1, la2, la3])
 (refine Jx.move rfl rfl (Jx.extract rfl rfl rfl ?_))
 (refine Jx.extract rfl rfl rfl ?_)
 (refine Jx.assign rfl rfl (Jx.assign rfl rfl (J.nil (N.seq (W.seq (W.region (Jx.fieldAddr rfl rfl ?_)))))))
 (refine Jx.load rfl 0 rfl rfl rfl ?_)
 (refine J.call (c2) rfl (evs_args rfl) rfl ?_; rintro _ _ ⟨rfl, rfl⟩; simp only [la1, la2, la3])
 (refine Jx.move rfl rfl (Jx.extract rfl rfl rfl ?_))
 (refine Jx.extract rfl rfl rfl ?_)
 (refine Jx.assign rfl rfl (Jx.assign rfl rfl (J.nil (N.seq (W.seq (W.seq (W.region (Jx.move rfl rfl (Jx.neqI rfl rfl rfl (Jx.move rfl rfl (J.gY rfl rfl rfl ?_)))))))))))
 (refine Jx.move rfl rfl (J.gY rfl rfl rfl ?_))
 (refine Jx.neqI rfl rfl rfl (Jx.pF rfl rfl rfl ?_))
 (refine Jx.move rfl rfl (J.gY rfl rfl rfl ?_))
 (refine Jx.fieldAddr rfl rfl ?_)
 (refine J.gY rfl rfl rfl ?_)
 (refine Jx.fieldAddr rfl rfl ?_)
 (refine J.gY rfl rfl rfl ?_)
 (refine Jx.load rfl 0 rfl rfl rfl ?_)
 (refine J.gY rfl rfl rfl ?_)
 (refine Jx.eqlI rfl rfl rfl (Jx.pF rfl rfl rfl ?_))
 (refine Jx.move rfl rfl (J.gY rfl rfl rfl ?_))
 (refine Jx.move rfl rfl (J.gY rfl rfl rfl ?_))
 (refine Jx.fieldAddr rfl rfl ?_)
 (refine J.gY rfl rfl rfl ?_)
 (refine Jx.fieldAddr rfl rfl ?_)
 (refine J.gY rfl rfl rfl ?_)
 (refine Jx.load rfl 0 rfl rfl rfl ?_)
 (refine J.gY rfl rfl rfl ?_)
 (refine Jx.neqS rfl rfl rfl (Jx.pF rfl rfl rfl ?_))
 (refine J.nil (N.seq (W.cF rfl ?_)))
 (refine W.skip (N.seq (W.seq (W.region (Jx.fieldAddr rfl rfl ?_)))))
 (refine Jx.load rfl 0 rfl rfl rfl ?_)
 (refine J.call (c3) rfl (evs_args rfl) rfl ?_; rintro _ _ ⟨rfl, rfl⟩; simp only [la1, la2, la3])
 (refine Jx.move rfl rfl (Jx.extract rfl rfl rfl ?_))
 (refine Jx.extract rfl rfl rfl ?_)
 (refine Jx.assign rfl rfl (Jx.assign rfl rfl (J.nil (N.seq (W.seq (W.region (Jx.move rfl rfl ?_)))))))
 (refine J.call (c6) rfl (evs_args rfl) rfl ?_; rintro _ _ ⟨rfl, rfl⟩; simp only [la1, la2, la3])
 (refine Jx.move rfl rfl ?_)
 (refine J.call (c7) rfl (evs_args rfl) rfl ?_; rintro _ _ ⟨rfl, rfl⟩; simp only [la1, la2, la3])
 (refine Jx.cat rfl rfl (by first | omega | (simp only [List.length_append, List.length_cons, List.length_nil]; omega)) rfl ?_)
 (refine Jx.assign rfl rfl (J.nil (N.seq (W.seq (W.seq (W.region (Jx.fieldAddr rfl rfl ?_)))))))
 (refine Jx.loadAg rfl 0 rfl rfl rfl rfl ?_)
 (refine J.call (c4) rfl (evs_args rfl) rfl ?_; rintro _ _ ⟨rfl, rfl⟩; simp only [la1, la2, la3])
 (refine J.nil (N.seq (W.cF rfl ?_)))
 (refine W.skip (N.seq (W.seq (W.region (Jx.fieldAddr rfl rfl ?_)))))
 (refine Jx.loadAg rfl 0 rfl rfl rfl rfl ?_)
 (refine J.call (c5) rfl (evs_args rfl) rfl ?_; rintro _ _ ⟨rfl, rfl⟩; simp only [la1, la2, la3])
 (refine Jx.move rfl rfl (Jx.extract rfl rfl rfl ?_))
 (refine Jx.extract rfl rfl rfl ?_)
 (refine Jx.assign rfl rfl (Jx.assign rfl rfl (J.nil (N.seq (W.seq (W.seq (W.region (Jx.move rfl rfl (Jx.neqI rfl rfl rfl (Jx.move rfl rfl (J.gY rfl rfl rfl ?_)))))))))))
 (refine Jx.fieldAddr rfl rfl ?_)
 (refine J.gY rfl rfl rfl ?_)
 (refine Jx.fieldAddr rfl rfl ?_)
 (refine J.gY rfl rfl rfl ?_)
 (refine Jx.load rfl 0 rfl rfl rfl ?_)
 (refine J.gY rfl rfl rfl ?_)
 (refine Jx.fieldAddr rfl rfl ?_)
 (refine J.gY rfl rfl rfl ?_)
 (refine Jx.fieldAddr rfl rfl ?_)
 (refine J.gY rfl rfl rfl ?_)
 (refine Jx.load rfl 0 rfl rfl rfl ?_)
 (refine J.gY rfl rfl rfl ?_)
 (refine Jx.neqS rfl rfl rfl (Jx.pF rfl rfl rfl ?_))
 (refine J.nil (N.seq (W.cT rfl ?_)))
 (refine W.seq (W.region (Jx.assign rfl rfl (Jx.assign rfl rfl (J.nil (N.seq (W.ret (N.noGotoRet ?_))))))))
 (refine id ?_; rotate_left))
          exact N.retD (rs := [.tmp 2, .tmp 3]) (L1 := []) rfl (.tmp rfl (.tmp rfl .nil)) (List.nil_sublist _) ⟨rfl, rfl⟩
theorem bcheck_ok (b : Bk) (hl : b.head.skips.length ≤ 1048576) : FnC Tryz.prog 12 [.agg (bkC b)] [] (fun v L => v = int (codeB (fineBk b) 210) ∧ L = []) := by
  have c := bencode_ok b hl
  generalize encO fineBk encBk b = e at *
  refine FnC.intro Tryz.func12 rfl Tryz.ntmps12 rfl fun Z w0 hG => ?_
  focus (
 (refine W.seq (W.region ?_))
 (refine J.boxAg rfl rfl ?_; intro b')
 (refine Jx.assign rfl rfl (J.nil (N.seq (W.seq (W.region (Jx.loadAll rfl 0 rfl rfl rfl ?_))))))
 (refine J.call (c) rfl (evs_args rfl) rfl ?_; rintro _ _ ⟨rfl, rfl⟩; simp only [la1, la2, la3])
 (refine Jx.move rfl rfl (Jx.extract rfl rfl rfl ?_))
 (refine Jx.extract rfl rfl rfl ?_)
 (refine Jx.assign rfl rfl (Jx.assign rfl rfl (J.nil (N.seq (W.seq (W.region (Jx.move rfl rfl (Jx.assign rfl rfl (J.nil (N.seq (W.ret ?_)))))))))))
 (refine id ?_; rotate_left))
  exact N.retD (rs := [.tmp 2]) (L1 := []) rfl (.tmp rfl .nil) (List.nil_sublist _) ⟨rfl, rfl⟩
set_option maxHeartbeats 2000000 in
theorem rbfine_ok (b : Bk) (hl : b.head.skips.length ≤ 1048576) : FnC Tryz.prog 35 [.agg (bkC b)] [] (fun v L => v = bool (fineBk b) ∧ L = []) := by
  have c1 := rhfine_ok b.head hl
  have c2 := rtroot_ok b.txs
  have c4 := rbare_ok b.just
  have c5 := rmay_ok b.just
  refine FnC.intro Tryz.func35 rfl Tryz.ntmps35 rfl fun Z w0 hG => ?_
  cases ht : topB b with
  | false =>
    rw [fineBk_top ht]
    focus (
 (refine W.seq (W.region ?_))
 (refine J.boxAg rfl rfl ?_; intro b')
 (refine Jx.assign rfl rfl (J.nil (N.seq (W.seq (W.region (Jx.fieldAddr rfl rfl ?_))))))
 (refine Jx.load rfl 0 rfl rfl rfl ?_)
 (refine J.call (c2) rfl (evs_args rfl) rfl ?_; rintro _ _ ⟨rfl, rfl⟩; simp only [la1, la2, la3])
 (refine Jx.move rfl rfl (Jx.extract rfl rfl rfl ?_))
 (refine Jx.extract rfl rfl rfl ?_)
 (refine Jx.assign rfl rfl (Jx.assign rfl rfl (J.nil (N.seq (W.seq (W.seq (W.region (Jx.fieldAddr rfl rfl ?_))))))))
 (refine Jx.loadAg rfl 0 rfl rfl rfl rfl ?_)
 (refine J.call (c1) rfl (evs_args rfl) rfl ?_; rintro _ _ ⟨rfl, rfl⟩; simp only [la1, la2, la3])
 (refine Jx.not rfl rfl (Jx.move rfl rfl ?_))
 (refine' J.guardOr rfl rfl rfl rfl rfl rfl rfl rfl (fun _ => ?_) ?_; rotate_left)
 (refine J.gY rfl rfl rfl ?_)
 (refine Jx.fieldAddr rfl rfl ?_)
 (refine J.gY rfl rfl rfl ?_)
 (refine Jx.fieldAddr rfl rfl ?_)
 (refine J.gY rfl rfl rfl ?_)
 (refine Jx.load rfl 0 rfl rfl rfl ?_)
 (refine J.gY rfl rfl rfl ?_)
 (refine Jx.lssI rfl rfl rfl (J.nil ?_))
 (refine N.joinedN rfl rfl rfl)
 (refine Jx.move rfl rfl ?_)
 (refine' J.guardOr rfl rfl rfl rfl rfl rfl rfl rfl (fun _ => ?_) ?_; rotate_left)
 (refine J.gY rfl rfl rfl ?_)
 (refine Jx.move rfl rfl (J.gY rfl rfl rfl ?_))
 (refine Jx.neqI rfl rfl rfl (J.nil ?_))
 (refine N.joinedN rfl rfl rfl)
 (refine Jx.move rfl rfl ?_)
 (refine' J.guardOr rfl rfl rfl rfl rfl rfl rfl rfl (fun _ => ?_) ?_; rotate_left)
 (refine J.gY rfl rfl rfl ?_)
 (refine Jx.move rfl rfl (J.gY rfl rfl rfl ?_))
 (refine Jx.fieldAddr rfl rfl ?_)
 (refine J.gY rfl rfl rfl ?_)
 (refine Jx.fieldAddr rfl rfl ?_)
 (refine J.gY rfl rfl rfl ?_)
 (refine Jx.load rfl 0 rfl rfl rfl ?_)
 (refine J.gY rfl rfl rfl ?_)
 (refine Jx.neqS rfl rfl rfl (J.nil ?_))
 (refine N.joinedN rfl rfl rfl)
 (refine J.nil (N.seq ?_))
 (refine id ?_; rotate_left))
    refine W.cond rfl (fun hb => ?_) (fun hb => ?_)
    · focus (
 (refine W.seq (W.region (Jx.assign rfl rfl (J.nil (N.seq (W.ret (N.noGotoRet ?_)))))))
 (refine id ?_; rotate_left))
      exact N.retD (rs := [.tmp 2]) (L1 := []) rfl (.tmp rfl .nil) (List.nil_sublist _) ⟨rfl, rfl⟩
    · exact (rtopB_bad ht hb).elim
  | true =>
    obtain ⟨t1, t2, t3, t4⟩ := topB_spec ht
    have hroot : ¬ rootT b.txs ≠ b.head.txs := fun h => h t4
    rw [t1] at c1
    rw [(codeAll_zero _).2 t3] at c2
    have e1 : fineBk b = justB b := by rw [fineBk, ht]; rfl
    rw [e1]
    unfold justB
    clear e1
    generalize rootT b.txs = rt at *
    cases hbare : bareCt b.just with
    | true =>
      rw [hbare] at c4
      focus (
 (refine W.seq (W.region ?_))
 (refine J.boxAg rfl rfl ?_; intro b')
 (refine Jx.assign rfl rfl (J.nil (N.seq (W.seq (W.region (Jx.fieldAddr rfl rfl ?_))))))
 (refine Jx.load rfl 0 rfl rfl rfl ?_)
 (refine J.call (c2) rfl (evs_args rfl) rfl ?_; rintro _ _ ⟨rfl, rfl⟩; simp only [la1, la2, la3])
 (refine Jx.move rfl rfl (Jx.extract rfl rfl rfl ?_))
 (refine Jx.extract rfl rfl rfl ?_)
 (refine Jx.assign rfl rfl (Jx.assign rfl rfl (J.nil (N.seq (W.seq (W.seq (W.region (Jx.fieldAddr rfl rfl ?_))))))))
 (refine Jx.loadAg rfl 0 rfl rfl rfl rfl ?_)
 (refine J.call (c1) rfl (evs_args rfl) rfl ?_; rintro _ _ ⟨rfl, rfl⟩; simp only [la1, la2, la3])
 (refine Jx.not rfl rfl (Jx.move rfl rfl (J.gY rfl rfl rfl ?_)))
 (refine Jx.fieldAddr rfl rfl ?_)
 (refine J.gY rfl rfl rfl ?_)
 (refine Jx.fieldAddr rfl rfl ?_)
 (refine J.gY rfl rfl rfl ?_)
 (refine Jx.load rfl 0 rfl rfl rfl ?_)
 (refine J.gY rfl rfl rfl ?_)
 (refine Jx.lssI rfl rfl rfl (Jx.pF rfl rfl rfl ?_))
 (refine Jx.move rfl rfl (J.gY rfl rfl rfl ?_))
 (refine Jx.move rfl rfl (J.gY rfl rfl rfl ?_))
 (refine Jx.neqI rfl rfl rfl (Jx.pF rfl rfl rfl ?_))
 (refine Jx.move rfl rfl (J.gY rfl rfl rfl ?_))
 (refine Jx.move rfl rfl (J.gY rfl rfl rfl ?_))
 (refine Jx.fieldAddr rfl rfl ?_)
 (refine J.gY rfl rfl rfl ?_)
 (refine Jx.fieldAddr rfl rfl ?_)
 (refine J.gY rfl rfl rfl ?_)
 (refine Jx.load rfl 0 rfl rfl rfl ?_)
 (refine J.gY rfl rfl rfl ?_)
 (refine Jx.neqS rfl rfl rfl (Jx.pF rfl rfl rfl ?_))
 (refine J.nil (N.seq (W.cF rfl ?_)))
 (refine W.skip (N.seq (W.seq (W.region (Jx.fieldAddr rfl rfl ?_)))))
 (refine Jx.loadAg rfl 0 rfl rfl rfl rfl ?_)
 (refine J.call (c4) rfl (evs_args rfl) rfl ?_; rintro _ _ ⟨rfl, rfl⟩; simp only [la1, la2, la3])
 (refine Jx.move rfl rfl (J.gN rfl rfl rfl rfl ?_))
 (refine J.gN rfl rfl rfl rfl ?_)
 (refine J.gN rfl rfl rfl rfl ?_)
 (refine J.gN rfl rfl rfl rfl ?_)
 (refine J.guardSkip rfl rfl rfl rfl ?_)
 (refine J.guardSkip rfl rfl rfl rfl ?_)
 (refine J.guardSkip rfl rfl rfl rfl ?_)
 (refine J.guardSkip rfl rfl rfl rfl ?_)
 (refine J.guardSkip rfl rfl rfl rfl ?_)
 (refine J.guardSkip rfl rfl rfl rfl ?_)
 (refine J.guardSkip rfl rfl rfl rfl ?_)
 (refine J.gN rfl rfl rfl rfl ?_)
 (refine Jx.pT rfl rfl rfl ?_)
 (refine Jx.assign rfl rfl (J.nil (N.seq (W.ret ?_))))
 (refine id ?_; rotate_left))
      exact N.retD (rs := [.tmp 2]) (L1 := []) rfl (.tmp rfl .nil) (List.nil_sublist _) ⟨rfl, rfl⟩
    | false =>
      rw [hbare] at c4
      cases hj : fineCt b.just with
      | false =>
        rw [hj] at c5
        focus (
 (refine W.seq (W.region ?_))
 (refine J.boxAg rfl rfl ?_; intro b')
 (refine Jx.assign rfl rfl (J.nil (N.seq (W.seq (W.region (Jx.fieldAddr rfl rfl ?_))))))
 (refine Jx.load rfl 0 rfl rfl rfl ?_)
 (refine J.call (c2) rfl (evs_args rfl) rfl ?_; rintro _ _ ⟨rfl, rfl⟩; simp only [la1, la2, la3])
 (refine Jx.move rfl rfl (Jx.extract rfl rfl rfl ?_))
 (refine Jx.extract rfl rfl rfl ?_)
 (refine Jx.assign rfl rfl (Jx.assign rfl rfl (J.nil (N.seq (W.seq (W.seq (W.region (Jx.fieldAddr rfl rfl ?_))))))))
 (refine Jx.loadAg rfl 0 rfl rfl rfl rfl ?_)
 (refine J.call (c1) rfl (evs_args rfl) rfl ?_; rintro _ _ ⟨rfl, rfl⟩; simp only [la1, la2, la3])
 (refine Jx.not rfl rfl (Jx.move rfl rfl (J.gY rfl rfl rfl ?_)))
 (refine Jx.fieldAddr rfl rfl ?_)
 (refine J.gY rfl rfl rfl ?_)
 (refine Jx.fieldAddr rfl rfl ?_)
 (refine J.gY rfl rfl rfl ?_)
 (refine Jx.load rfl 0 rfl rfl rfl ?_)
 (refine J.gY rfl rfl rfl ?_)
 (refine Jx.lssI rfl rfl rfl (Jx.pF rfl rfl rfl ?_))
 (refine Jx.move rfl rfl (J.gY rfl rfl rfl ?_))
 (refine Jx.move rfl rfl (J.gY rfl rfl rfl ?_))
 (refine Jx.neqI rfl rfl rfl (Jx.pF rfl rfl rfl ?_))
 (refine Jx.move rfl rfl (J.gY rfl rfl rfl ?_))
 (refine Jx.move rfl rfl (J.gY rfl rfl rfl ?_))
 (refine Jx.fieldAddr rfl rfl ?_)
 (refine J.gY rfl rfl rfl ?_)
 (refine Jx.fieldAddr rfl rfl ?_)
 (refine J.gY rfl rfl rfl ?_)
 (refine Jx.load rfl 0 rfl rfl rfl ?_)
 (refine J.gY rfl rfl rfl ?_)
 (refine Jx.neqS rfl rfl rfl (Jx.pF rfl rfl rfl ?_))
 (refine J.nil (N.seq (W.cF rfl ?_)))
 (refine W.skip (N.seq (W.seq (W.region (Jx.fieldAddr rfl rfl ?_)))))
 (refine Jx.loadAg rfl 0 rfl rfl rfl rfl ?_)
 (refine J.call (c4) rfl (evs_args rfl) rfl ?_; rintro _ _ ⟨rfl, rfl⟩; simp only [la1, la2, la3])
 (refine Jx.move rfl rfl (J.gY rfl rfl rfl ?_))
 (refine Jx.fieldAddr rfl rfl ?_)
 (refine J.gY rfl rfl rfl ?_)
 (refine Jx.loadAg rfl 0 rfl rfl rfl rfl ?_)
 (refine J.gY rfl rfl rfl ?_)
 (refine J.call (c5) rfl (evs_args rfl) rfl ?_; rintro _ _ ⟨rfl, rfl⟩; simp only [la1, la2, la3])
 (refine J.gY rfl rfl rfl ?_)
 (refine Jx.move rfl rfl (J.gN rfl rfl rfl rfl ?_))
 (refine J.gN rfl rfl rfl rfl ?_)
 (refine J.gN rfl rfl rfl rfl ?_)
 (refine J.gN rfl rfl rfl rfl ?_)
 (refine J.gN rfl rfl rfl rfl ?_)
 (refine J.gN rfl rfl rfl rfl ?_)
 (refine J.gN rfl rfl rfl rfl ?_)
 (refine J.gY rfl rfl rfl ?_)
 (refine Jx.pF rfl rfl rfl ?_)
 (refine Jx.pF rfl rfl rfl ?_)
 (refine Jx.assign rfl rfl (J.nil (N.seq (W.ret ?_))))
 (refine id ?_; rotate_left))
        exact N.retD (rs := [.tmp 2]) (L1 := []) rfl (.tmp rfl .nil) (List.nil_sublist _) ⟨rfl, rfl⟩
      | true =>
        rw [hj] at c5
        focus (
 (refine W.seq (W.region ?_))
 (refine J.boxAg rfl rfl ?_; intro b')
 (refine Jx.assign rfl rfl (J.nil (N.seq (W.seq (W.region (Jx.fieldAddr rfl rfl ?_))))))
 (refine Jx.load rfl 0 rfl rfl rfl ?_)
 (refine J.call (c2) rfl (evs_args rfl) rfl ?_; rintro _ _ ⟨rfl, rfl⟩; simp only [la1, la2, la3])
 (refine Jx.move rfl rfl (Jx.extract rfl rfl rfl ?_))
 (refine Jx.extract rfl rfl rfl ?_)
 (refine Jx.assign rfl rfl (Jx.assign rfl rfl (J.nil (N.seq (W.seq (W.seq (W.region (Jx.fieldAddr rfl rfl ?_))))))))
 (refine Jx.loadAg rfl 0 rfl rfl rfl rfl ?_)
 (refine J.call (c1) rfl (evs_args rfl) rfl ?_; rintro _ _ ⟨rfl, rfl⟩; simp only [la1, la2, la3])
 (refine Jx.not rfl rfl (Jx.move rfl rfl (J.gY rfl rfl rfl ?_)))
 (refine Jx.fieldAddr rfl rfl ?_)
 (refine J.gY rfl rfl rfl ?_)
 (refine Jx.fieldAddr rfl rfl ?_)
 (refine J.gY rfl rfl rfl ?_)
 (refine Jx.load rfl 0 rfl rfl rfl ?_)
 (refine J.gY rfl rfl rfl ?_)
 (refine Jx.lssI rfl rfl rfl (Jx.pF rfl rfl rfl ?_))
 (refine Jx.move rfl rfl (J.gY rfl rfl rfl ?_))
 (refine Jx.move rfl rfl (J.gY rfl rfl rfl ?_))
 (refine Jx.neqI rfl rfl rfl (Jx.pF rfl rfl rfl ?_))
 (refine Jx.move rfl rfl (J.gY rfl rfl rfl ?_))
 (refine Jx.move rfl rfl (J.gY rfl rfl rfl ?_))
 (refine Jx.fieldAddr rfl rfl ?_)
 (refine J.gY rfl rfl rfl ?_)
 (refine Jx.fieldAddr rfl rfl ?_)
 (refine J.gY rfl rfl rfl ?_)
 (refine Jx.load rfl 0 rfl rfl rfl ?_)
 (refine J.gY rfl rfl rfl ?_)
 (refine Jx.neqS rfl rfl rfl (Jx.pF rfl rfl rfl ?_))
 (refine J.nil (N.seq (W.cF rfl ?_)))
 (refine W.skip (N.seq (W.seq (W.region (Jx.fieldAddr rfl rfl ?_)))))
 (refine Jx.loadAg rfl 0 rfl rfl rfl rfl ?_)
 (refine J.call (c4) rfl (evs_args rfl) rfl ?_; rintro _ _ ⟨rfl, rfl⟩; simp only [la1, la2, la3])
 (refine Jx.move rfl rfl (J.gY rfl rfl rfl ?_))
 (refine Jx.fieldAddr rfl rfl ?_)
 (refine J.gY rfl rfl rfl ?_)
 (refine Jx.loadAg rfl 0 rfl rfl rfl rfl ?_)
 (refine J.gY rfl rfl rfl ?_)
 (refine J.call (c5) rfl (evs_args rfl) rfl ?_; rintro _ _ ⟨rfl, rfl⟩; simp only [la1, la2, la3])
 (refine J.gY rfl rfl rfl ?_)
 (refine Jx.move rfl rfl (J.gY rfl rfl rfl ?_))
 (refine Jx.fieldAddr rfl rfl ?_)
 (refine J.gY rfl rfl rfl ?_)
 (refine Jx.fieldAddr rfl rfl ?_)
 (refine J.gY rfl rfl rfl ?_)
 (refine Jx.load rfl 0 rfl rfl rfl ?_)
 (refine J.gY rfl rfl rfl ?_)
 (refine Jx.fieldAddr rfl rfl ?_)
 (refine J.gY rfl rfl rfl ?_)
 (refine Jx.fieldAddr rfl rfl ?_)
 (refine J.gY rfl rfl rfl ?_)
 (refine Jx.load rfl 0 rfl rfl rfl ?_)
 (refine J.gY rfl rfl rfl ?_)
 (refine Jx.eqlS rfl rfl rfl (J.gY rfl rfl rfl ?_))
 (refine Jx.pT rfl rfl rfl ?_)
 (refine Jx.pF rfl rfl rfl ?_)
 (refine Jx.assign rfl rfl (J.nil (N.seq (W.ret ?_))))
 (refine id ?_; rotate_left))
        exact N.retD (rs := [.tmp 2]) (L1 := []) rfl (.tmp rfl .nil) (List.nil_sublist _) ⟨rfl, rfl⟩
set_option maxHeartbeats 2000000 in
theorem rbwritten_ok (b : Bk) (hf : fineBk b = true) : FnC Tryz.prog 36 [.agg (bkC b)] [] (fun v L => v = str (encBk b) ∧ L = []) := by
  have f := (fineBk_iff b).1 hf
  obtain ⟨l1, l2, l3⟩ := f.lens
  have c1 := rtencAll_ok b.txs
  have c2 := rhwritten_ok b.head f.head
  have c3 := rtext_ok (encHd b.head) (by omega)
  have c4 := rtext_ok (encAll b.txs) (by omega)
  have c5 := rbare_ok b.just
  have c6 := rcencode_ok b.just
  have k1 := textB_len l1 (by omega); have k2 := textB_len l2 (by omega); have kf1 := flag_len true; have kf0 := flag_len false
  rw [encO, f.txs, if_pos rfl, (codeAll_zero _).2 f.txs] at c1
  have e0 : encBk b = textB (encHd b.head) ++ (textB (encAll b.txs) ++ justE b.just) := rfl
  refine FnC.intro Tryz.func36 rfl Tryz.ntmps36 rfl fun Z w0 hG => ?_
  rw [e0]
  unfold justE
  clear e0
  generalize textB (encHd b.head) = th at *
  generalize textB (encAll b.txs) = ta at *
  generalize encHd b.head = eh at *
  generalize encAll b.txs = ea at *
  cases hbare : bareCt b.just with
  | true =>
    rw [hbare] at c5
    have cf := rflag_ok false
    focus (
 (refine W.seq (W.region ?_))
 (refine J.boxAg rfl rfl ?_; intro b')
 (refine Jx.assign rfl rfl (J.nil (N.seq (W.seq (W.region (Jx.fieldAddr rfl rfl ?_))))))
 (refine Jx.load rfl 0 rfl rfl rfl ?_)
 (refine J.call (c1) rfl (evs_args rfl) rfl ?_; rintro _ _ ⟨rfl, rfl⟩; simp only [la1, la2, la3])
 (refine Jx.move rfl rfl (Jx.extract rfl rfl rfl ?_))
 (refine Jx.extract rfl rfl rfl ?_)
 (refine Jx.assign rfl rfl (Jx.assign rfl rfl (J.nil (N.seq (W.seq ?_)))))
 (refine W.draw follows ?_)
 (refine JD.calm rfl (by decide +kernel) ?_)
 (refine Cx.fieldAddr rfl rfl ?_)
 (refine Cx.loadAg rfl 0 rfl rfl rfl rfl ?_)
 (refine SegC.q (Qs.call (Lc := []) (c2) (fun s L' h => h) (List.Perm.refl _) (evs_args rfl)) rfl ?_)
 (refine SegC.q (Qs.call (Lc := []) (c3) (fun s L' h => h) (List.Perm.refl _) (evs_args rfl)) rfl ?_)
 (refine Cx.move rfl rfl ?_)
 (refine SegC.q (Qs.call (Lc := []) (c4) (fun s L' h => h) (List.Perm.refl _) (evs_args rfl)) rfl ?_)
 (refine Cx.cat rfl rfl (by first | omega | (simp only [List.length_append, List.length_cons, List.length_nil]; omega)) rfl ?_)
 (refine Cx.fieldAddr rfl rfl ?_)
 (refine Cx.loadAg rfl 0 rfl rfl rfl rfl ?_)
 (refine SegC.q (Qs.call (Lc := []) (c5) (fun s L' h => h) (List.Perm.refl _) (evs_args rfl)) rfl ?_)
 (refine Cx.not rfl rfl ?_)
 (refine SegC.q (Qs.call (Lc := []) (cf) (fun s L' h => h) (List.Perm.refl _) (evs_args rfl)) rfl ?_)
 (refine Cx.cat rfl rfl (by first | omega | (simp only [List.length_append, List.length_cons, List.length_nil]; omega)) rfl ?_)
 (refine Cx.assign rfl rfl ?_)
 (refine SegC.nil ?_)
 (refine N.seq (W.seq (W.seq (W.region (Jx.fieldAddr rfl rfl ?_)))))
 (refine Jx.loadAg rfl 0 rfl rfl rfl rfl ?_)
 (refine J.call (c5) rfl (evs_args rfl) rfl ?_; rintro _ _ ⟨rfl, rfl⟩; simp only [la1, la2, la3])
 (refine J.nil (N.seq (W.cT rfl ?_)))
 (refine W.seq (W.region (Jx.move rfl rfl (Jx.assign rfl rfl (J.nil (N.seq (W.ret (N.noGotoRet ?_))))))))
 (refine id ?_; rotate_left))
    exact N.retD (rs := [.tmp 2]) (L1 := []) rfl (.tmp rfl .nil) (List.nil_sublist _) ⟨by simp [oneOr], rfl⟩
  | false =>
    rw [hbare] at c5
    obtain ⟨hj, l4⟩ := l3 hbare
    rw [encO, hj, if_pos rfl] at c6
    have c8 := rtext_ok (encCt b.just) (by omega)
    have k3 := textB_len l4 (by omega)
    generalize textB (encCt b.just) = tc at *
    generalize encCt b.just = ec at *
    have cf := rflag_ok true
    focus (
 (refine W.seq (W.region ?_))
 (refine J.boxAg rfl rfl ?_; intro b')
 (refine Jx.assign rfl rfl (J.nil (N.seq (W.seq (W.region (Jx.fieldAddr rfl rfl ?_))))))
 (refine Jx.load rfl 0 rfl rfl rfl ?_)
 (refine J.call (c1) rfl (evs_args rfl) rfl ?_; rintro _ _ ⟨rfl, rfl⟩; simp only [la1, la2, la3])
 (refine Jx.move rfl rfl (Jx.extract rfl rfl rfl ?_))
 (refine Jx.extract rfl rfl rfl ?_)
 (refine Jx.assign rfl rfl (Jx.assign rfl rfl (J.nil (N.seq (W.seq ?_)))))
 (refine W.draw follows ?_)
 (refine JD.calm rfl (by decide +kernel) ?_)
 (refine Cx.fieldAddr rfl rfl ?_)
 (refine Cx.loadAg rfl 0 rfl rfl rfl rfl ?_)
 (refine SegC.q (Qs.call (Lc := []) (c2) (fun s L' h => h) (List.Perm.refl _) (evs_args rfl)) rfl ?_)
 (refine SegC.q (Qs.call (Lc := []) (c3) (fun s L' h => h) (List.Perm.refl _) (evs_args rfl)) rfl ?_)
 (refine Cx.move rfl rfl ?_)
 (refine SegC.q (Qs.call (Lc := []) (c4) (fun s L' h => h) (List.Perm.refl _) (evs_args rfl)) rfl ?_)
 (refine Cx.cat rfl rfl (by first | omega | (simp only [List.length_append, List.length_cons, List.length_nil]; omega)) rfl ?_)
 (refine Cx.fieldAddr rfl rfl ?_)
 (refine Cx.loadAg rfl 0 rfl rfl rfl rfl ?_)
 (refine SegC.q (Qs.call (Lc := []) (c5) (fun s L' h => h) (List.Perm.refl _) (evs_args rfl)) rfl ?_)
 (refine Cx.not rfl rfl ?_)
 (refine SegC.q (Qs.call (Lc := []) (cf) (fun s L' h => h) (List.Perm.refl _) (evs_args rfl)) rfl ?_)
 (refine Cx.cat rfl rfl (by first | omega | (simp only [List.length_append, List.length_cons, List.length_nil]; omega)) rfl ?_)
 (refine Cx.assign rfl rfl ?_)
 (refine SegC.nil ?_)
 (refine N.seq (W.seq (W.seq (W.region (Jx.fieldAddr rfl rfl ?_)))))
 (refine Jx.loadAg rfl 0 rfl rfl rfl rfl ?_)
 (refine J.call (c5) rfl (evs_args rfl) rfl ?_; rintro _ _ ⟨rfl, rfl⟩; simp only [la1, la2, la3])
 (refine J.nil (N.seq (W.cF rfl ?_)))
 (refine W.skip (N.seq (W.seq (W.region (Jx.fieldAddr rfl rfl ?_)))))
 (refine Jx.loadAg rfl 0 rfl rfl rfl rfl ?_)
 (refine J.call (c6) rfl (evs_args rfl) rfl ?_; rintro _ _ ⟨rfl, rfl⟩; simp only [la1, la2, la3])
 (refine Jx.move rfl rfl (Jx.extract rfl rfl rfl ?_))
 (refine Jx.extract rfl rfl rfl ?_)
 (refine Jx.assign rfl rfl (Jx.assign rfl rfl (J.nil (N.seq (W.seq (W.region (Jx.move rfl rfl (Jx.move rfl rfl ?_))))))))
 (refine J.call (c8) rfl (evs_args rfl) rfl ?_; rintro _ _ ⟨rfl, rfl⟩; simp only [la1, la2, la3])
 (refine Jx.cat rfl rfl (by first | omega | (simp only [List.length_append, List.length_cons, List.length_nil]; omega)) rfl ?_)
 (refine Jx.assign rfl rfl (J.nil (N.seq (W.ret ?_))))
 (refine id ?_; rotate_left))
    exact N.retD (rs := [.tmp 2]) (L1 := []) rfl (.tmp rfl .nil) (List.nil_sublist _) ⟨by simp [oneOr], rfl⟩
set_option maxHeartbeats 2000000 in
theorem sameB_ok (x y : Bk) (h1 : x.head.skips.length ≤ 1048576) (h2 : x.txs.length ≤ 1048576) (h3 : ∀ t ∈ x.txs, t.members.length ≤ 1048576) (h4 : x.just.signers.length ≤ 1048576) : FnC Tryz.prog 11 [.agg (bkC x), .agg (bkC y)] [] (fun v L => v = bool (decide (x = y)) ∧ L = []) := by
  have c1 := sameH_ok x.head y.head h1
  have c2 := sameTs_ok x.txs y.txs h2 h3
  have c3 := sameC_ok x.just y.just h4
  refine FnC.intro Tryz.func11 rfl Tryz.ntmps11 rfl fun Z w0 hG => ?_
  focus (
 (refine W.seq (W.region ?_))
 (refine J.boxAg rfl rfl ?_; intro b')
 (refine J.boxAg rfl rfl ?_; intro b')
 (refine Jx.assign rfl rfl (J.nil (N.seq (W.seq (W.region (Jx.fieldAddr rfl rfl ?_))))))
 (refine Jx.loadAg rfl 1 rfl rfl rfl rfl ?_)
 (refine Jx.fieldAddr rfl rfl ?_)
 (refine Jx.loadAg rfl 0 rfl rfl rfl rfl ?_)
 (refine J.call (c1) rfl (evs_args rfl) rfl ?_; rintro _ _ ⟨rfl, rfl⟩; simp only [la1, la2, la3])
 (refine Jx.move rfl rfl ?_)
 (refine' J.guardAnd rfl rfl rfl rfl rfl rfl rfl rfl (fun _ => ?_) ?_; rotate_left)
 (refine J.gY rfl rfl rfl ?_)
 (refine Jx.fieldAddr rfl rfl ?_)
 (refine J.gY rfl rfl rfl ?_)
 (refine Jx.load rfl 1 rfl rfl rfl ?_)
 (refine J.gY rfl rfl rfl ?_)
 (refine Jx.fieldAddr rfl rfl ?_)
 (refine J.gY rfl rfl rfl ?_)
 (refine Jx.load rfl 0 rfl rfl rfl ?_)
 (refine J.gY rfl rfl rfl ?_)
 (refine J.call (c2) rfl (evs_args rfl) rfl ?_; rintro _ _ ⟨rfl, rfl⟩; simp only [la1, la2, la3])
 (refine J.nil ?_)
 (refine N.joinedN rfl rfl rfl)
 (refine Jx.move rfl rfl ?_)
 (refine' J.guardAnd rfl rfl rfl rfl rfl rfl rfl rfl (fun _ => ?_) ?_; rotate_left)
 (refine J.gY rfl rfl rfl ?_)
 (refine Jx.fieldAddr rfl rfl ?_)
 (refine J.gY rfl rfl rfl ?_)
 (refine Jx.loadAg rfl 1 rfl rfl rfl rfl ?_)
 (refine J.gY rfl rfl rfl ?_)
 (refine Jx.fieldAddr rfl rfl ?_)
 (refine J.gY rfl rfl rfl ?_)
 (refine Jx.loadAg rfl 0 rfl rfl rfl rfl ?_)
 (refine J.gY rfl rfl rfl ?_)
 (refine J.call (c3) rfl (evs_args rfl) rfl ?_; rintro _ _ ⟨rfl, rfl⟩; simp only [la1, la2, la3])
 (refine J.nil ?_)
 (refine N.joinedN rfl rfl rfl)
 (refine Jx.assign rfl rfl (J.nil (N.seq (W.ret ?_))))
 (refine id ?_; rotate_left))
  refine N.retD (rs := [.tmp 4]) (L1 := []) rfl (.tmp rfl .nil) (List.nil_sublist _) ⟨congrArg Sse.bool ?_, rfl⟩
  rw [Bool.eq_iff_iff]
  simp only [Bool.and_eq_true, decide_eq_true_eq]
  exact ⟨fun h => Bk.ext' h.1.1 h.1.2 h.2, fun h => by subst h; exact ⟨⟨rfl, rfl⟩, rfl⟩⟩
end Go.Proofs.YtlfdhkahiaammaaGreatDoor
namespace Go.Proofs.YtlfdhkahiaammaaGreatDoor
open Go Go.Sse
set_option linter.unusedVariables false
set_option linter.unusedSimpArgs false
set_option maxRecDepth 10000
abbrev hdz : List SV := [int 0, int 0, int 0, bool false, str [], str [], str [], str [], str [], str [], .val (.slice none 0 0)]
theorem hdz_sub : SubL hdz (hdC hd0) := .cons (.refl _) (.cons (.refl _) (.cons (.refl _) (.cons (.refl _) (.cons (.refl _) (.cons (.refl _) (.cons (.refl _) (.cons (.refl _) (.cons (.refl _) (.cons (.refl _) (.cons (Sub.nil 1 _) .nil))))))))))
theorem agHd : TAg Tryz.prog tHd 11 := inferInstance
theorem reps_step {n : Nat} {acc : List (List UInt8)} {t : List UInt8} {st st' : PSt} {all : List (List UInt8) × PSt} (h : all = (acc ++ (reps (n + 1) st).1, (reps (n + 1) st).2)) (hb : bytesP 32 st = (t, st')) : all = ((acc ++ [t]) ++ (reps n st').1, (reps n st').2) := by
  rw [h]; simp only [reps, hb, List.append_assoc, List.cons_append, List.nil_append]
set_option maxHeartbeats 8000000 in
theorem hdecode_ok (s : List UInt8) (hs : s.length ≤ 1099511627776) : FnC Tryz.prog 81 [str s] [] (fun v L => (∃ o, DecR fineHd encHd s o ∧ v = .tup [.agg (hdC (o.getD hd0)), int (codeO o 190)]) ∧ L = []) := by
  have c0 := read_ok s
  refine FnC.intro Tryz.func81 rfl Tryz.ntmps81 rfl fun Z w0 hG => ?_
  focus (
 (refine W.seq (W.region ?_))
 (refine J.alloc (by simp only [List.map_cons, List.map_nil]; rfl) rfl rfl ?_; intro b')
 (refine Jx.assign rfl rfl (J.nil (N.seq (W.seq (W.region (Jx.move rfl rfl ?_))))))
 (refine J.call (Lc := []) c0 rfl (evs_args rfl) rfl ?_; rintro _ _ ⟨b, rfl, rfl⟩; simp only [la1, la2, la3])
 (refine Jx.assign rfl rfl (J.nil (N.seq (W.seq (W.region ?_)))))
 (refine J.alloc (by simp only [List.map_cons, List.map_nil]; rfl) rfl rfl ?_; intro b')
 (refine J.nil (N.seq (W.seq (W.region (Jx.move rfl rfl ?_)))))
 (refine J.call1 1 ((rd_Num b s 0 0 (Nat.zero_le _) hs)) rfl (evs_args rfl) rfl (by rintro _ _ ⟨n1, a1, c1, rfl, rfl, ha1, hl1, e1⟩; exact ⟨_, rfl⟩) ?_; rintro _ _ ⟨n1, a1, c1, rfl, ⟨⟩, ha1, hl1, e1⟩; simp only [la4, la5])
 (refine Jx.move rfl rfl ?_)
 (refine J.call1 1 ((rd_Num b s a1 c1 ha1 hs)) rfl (evs_args rfl) rfl (by rintro _ _ ⟨n2, a2, c2, rfl, rfl, ha2, hl2, e2⟩; exact ⟨_, rfl⟩) ?_; rintro _ _ ⟨n2, a2, c2, rfl, ⟨⟩, ha2, hl2, e2⟩; simp only [la4, la5])
 (refine Jx.move rfl rfl ?_)
 (refine J.call1 1 ((rd_Num b s a2 c2 ha2 hs)) rfl (evs_args rfl) rfl (by rintro _ _ ⟨n3, a3, c3, rfl, rfl, ha3, hl3, e3⟩; exact ⟨_, rfl⟩) ?_; rintro _ _ ⟨n3, a3, c3, rfl, ⟨⟩, ha3, hl3, e3⟩; simp only [la4, la5])
 (refine Jx.fieldAddr rfl rfl ?_)
 (refine J.st 0 rfl rfl rfl rfl rfl rfl ?_)
 (refine Jx.fieldAddr rfl rfl ?_)
 (refine J.st 0 rfl rfl rfl rfl rfl rfl ?_)
 (refine Jx.fieldAddr rfl rfl ?_)
 (refine J.st 0 rfl rfl rfl rfl rfl rfl ?_)
 (refine J.nil (N.seq (W.seq (W.region (Jx.move rfl rfl ?_)))))
 (refine J.call1 1 ((rd_Flag b s a3 c3 ha3 hs)) rfl (evs_args rfl) rfl (by rintro _ _ ⟨lf', a4, c4, rfl, rfl, ha4, e4⟩; exact ⟨_, rfl⟩) ?_; rintro _ _ ⟨lf', a4, c4, rfl, ⟨⟩, ha4, e4⟩; simp only [la4, la5])
 (refine Jx.fieldAddr rfl rfl ?_)
 (refine J.st 0 rfl rfl rfl rfl rfl rfl ?_)
 (refine J.nil (N.seq (W.seq (W.region (Jx.move rfl rfl ?_)))))
 (refine J.call1 1 ((rd_Text b s a4 c4 32 ha4 hs)) rfl (evs_args rfl) rfl (by rintro _ _ ⟨t5, a5, c5, rfl, rfl, ha5, e5⟩; exact ⟨_, rfl⟩) ?_; rintro _ _ ⟨t5, a5, c5, rfl, ⟨⟩, ha5, e5⟩; simp only [la4, la5])
 (refine Jx.move rfl rfl ?_)
 (refine J.call1 1 ((rd_Text b s a5 c5 32 ha5 hs)) rfl (evs_args rfl) rfl (by rintro _ _ ⟨t6, a6, c6, rfl, rfl, ha6, e6⟩; exact ⟨_, rfl⟩) ?_; rintro _ _ ⟨t6, a6, c6, rfl, ⟨⟩, ha6, e6⟩; simp only [la4, la5])
 (refine Jx.move rfl rfl ?_)
 (refine J.call1 1 ((rd_Text b s a6 c6 32 ha6 hs)) rfl (evs_args rfl) rfl (by rintro _ _ ⟨t7, a7, c7, rfl, rfl, ha7, e7⟩; exact ⟨_, rfl⟩) ?_; rintro _ _ ⟨t7, a7, c7, rfl, ⟨⟩, ha7, e7⟩; simp only [la4, la5])
 (refine Jx.fieldAddr rfl rfl ?_)
 (refine J.st 0 rfl rfl rfl rfl rfl rfl ?_)
 (refine Jx.fieldAddr rfl rfl ?_)
 (refine J.st 0 rfl rfl rfl rfl rfl rfl ?_)
 (refine Jx.fieldAddr rfl rfl ?_)
 (refine J.st 0 rfl rfl rfl rfl rfl rfl ?_)
 (refine J.nil (N.seq (W.seq (W.region (Jx.move rfl rfl ?_)))))
 (refine J.call1 1 ((rd_Bytes b s a7 c7 32 ha7 hs)) rfl (evs_args rfl) rfl (by rintro _ _ ⟨t8, a8, c8, rfl, rfl, ha8, e8⟩; exact ⟨_, rfl⟩) ?_; rintro _ _ ⟨t8, a8, c8, rfl, ⟨⟩, ha8, e8⟩; simp only [la4, la5])
 (refine Jx.move rfl rfl ?_)
 (refine J.call1 1 ((rd_Bytes b s a8 c8 32 ha8 hs)) rfl (evs_args rfl) rfl (by rintro _ _ ⟨t9, a9, c9, rfl, rfl, ha9, e9⟩; exact ⟨_, rfl⟩) ?_; rintro _ _ ⟨t9, a9, c9, rfl, ⟨⟩, ha9, e9⟩; simp only [la4, la5])
 (refine Jx.move rfl rfl ?_)
 (refine J.call1 1 ((rd_Bytes b s a9 c9 32 ha9 hs)) rfl (evs_args rfl) rfl (by rintro _ _ ⟨t10, a10, c10, rfl, rfl, ha10, e10⟩; exact ⟨_, rfl⟩) ?_; rintro _ _ ⟨t10, a10, c10, rfl, ⟨⟩, ha10, e10⟩; simp only [la4, la5])
 (refine Jx.fieldAddr rfl rfl ?_)
 (refine J.st 0 rfl rfl rfl rfl rfl rfl ?_)
 (refine Jx.fieldAddr rfl rfl ?_)
 (refine J.st 0 rfl rfl rfl rfl rfl rfl ?_)
 (refine Jx.fieldAddr rfl rfl ?_)
 (refine J.st 0 rfl rfl rfl rfl rfl rfl ?_)
 (refine J.nil (N.seq (W.seq (W.seq (W.region (Jx.fieldAddr rfl rfl ?_))))))
 (refine Jx.load rfl 0 rfl rfl rfl ?_)
 (refine J.call ((links_ok (n1 : Int))) rfl (evs_args rfl) rfl ?_; rintro _ _ ⟨rfl, rfl⟩; simp only [la1, la2, la3])
 (refine Jx.lenSl rfl rfl ?_)
 (refine Jx.move rfl rfl (J.nil (N.seq (W.block ?_))))
 (refine id ?_; rotate_left))
  rename_i p2
  have hln := linksI_len (n1 : Int)
  refine W.rowNil 9 1 (elOf (fun a => [str a]) [] []) ?_
  refine W.perm (List.Perm.trans (List.Perm.cons _ (List.Perm.swap _ _ _)) (List.Perm.swap _ _ _)) ?_
  refine W.loop (α := Value × List (List UInt8) × Nat × Int) (fun x => [(42, int (x.2.1.length : Int)), (41, int ((linksI (n1 : Int)).length : Int)), (5, ptr b'), (4, ptr b), (2, ptr p2)])
    (fun x => [rdO b ⟨s, x.2.2.1, x.2.2.2⟩, .row x.1 9 1 x.2.1.length (elOf (fun a => [str a]) [] x.2.1), .obj b' tHd [int (n1 : Int), int (n2 : Int), int (n3 : Int), bool lf', str t5, str t6, str t7, str t8, str t9, str t10, .val x.1], .obj p2 tHd hdz])
    (fun x => x.2.2.1 ≤ s.length ∧ x.2.1.length ≤ (linksI (n1 : Int)).length ∧ reps (linksI (n1 : Int)).length (lf s a10 c10) = (x.2.1 ++ (reps ((linksI (n1 : Int)).length - x.2.1.length) (lf s x.2.2.1 x.2.2.2)).1, (reps ((linksI (n1 : Int)).length - x.2.1.length) (lf s x.2.2.1 x.2.2.2)).2)) (fun x => (linksI (n1 : Int)).length - x.2.1.length) (.slice none 0 0, [], a10, c10) ⟨ha10, by simp, by simp⟩ rfl ⟨ref0 rfl, ref0 rfl, ref0 rfl, ref0 rfl, ref0 rfl, trivial⟩ ?_
  rintro ⟨u, acc, a, c⟩ ⟨ha, hi, hr⟩
  simp only at ha hi hr ⊢
  have rdh : ∀ (sk : List (List UInt8)) (st : PSt), reps (linksI (n1 : Int)).length (lf s a10 c10) = (sk, st) → ReadH s ⟨n1, n2, n3, lf', t5, t6, t7, t8, t9, t10, sk⟩ st := fun sk st h =>
    ⟨n1, n2, n3, _, _, _, _, _, _, _, _, _, _, e1, rfl, e2, rfl, e3, rfl, e4, e5, e6, e7, e8, e9, e10, h⟩
  by_cases h1 : acc.length < (linksI (n1 : Int)).length
  · have cb := rd_Bytes b s a c 32 ha hs
    have hmx : ∀ t : List UInt8, acc.length + [t].length ≤ maxLen ∧ (acc.length + [t].length) * 16 ≤ 140737488355328 := fun t => by simp only [maxLen, List.length_cons, List.length_nil]; omega
    have hsucc : (linksI (n1 : Int)).length - acc.length = ((linksI (n1 : Int)).length - (acc.length + 1)) + 1 := by omega
    focus (
 (refine W.seq (W.region (Jx.lssI rfl rfl rfl (J.nil (N.seq (W.seq (W.cT rfl ?_)))))))
 (refine W.skip (N.seq (W.seq (W.block ?_))))
 (refine W.draw follows ?_)
 (refine JD.begin 8 rfl ?_; refine JP.more [0, 1, 2] _ rfl (by decide +kernel) ?_)
 (refine Cx.fieldAddr rfl rfl ?_)
 (refine Cx.load rfl 2 rfl rfl rfl ?_)
 (refine Cx.move rfl rfl ?_)
 (refine SegC.nil ?_)
 (refine JP.call (idx := [0, 1, 2]) (Lc := [rdO b ⟨s, a, c⟩]) 3 [46] [2, 3] [0, 1] cb rfl (by decide +kernel) rfl ?_ (evs_args rfl) rfl ?_; rotate_left; rintro _ _ ⟨t, a', c', rfl, rfl, ha', hb'⟩; simp only [List.cons_append, List.nil_append]; refine JP.more [4] _ rfl (by decide +kernel) ?_; rotate_left)
 (refine Cx.fieldAddr rfl rfl ?_)
 (refine Cx.load rfl 2 rfl rfl rfl ?_)
 (refine Cx.move rfl rfl ?_)
 (refine SegC.nil ?_)
 (refine Ag.cons rfl ?_)
 (refine Ag.cons rfl ?_)
 (refine Ag.cons rfl ?_)
 (refine Ag.nil)
 (refine SegC.q (Qs.buildTexts [t] rfl rfl rfl (by decide) (by decide)) rfl ?_)
 (refine SegC.nil ?_)
 (refine JP.perm (List.Perm.swap _ _ _) ?_; refine JP.append (idx := [0, 1, 4]) (m := acc) (m2 := [t]) 5 [45, 48] [0, 1, 2, 3, 4, 5] [] (by decide +kernel) rfl ?_ rfl (SrcOK.sl rfl) rfl rfl (hmx t) rfl ?_; rotate_left; intro v' hv'; rotate_left)
 (refine Cx.fieldAddr rfl rfl ?_)
 (refine Cx.load rfl 2 rfl rfl rfl ?_)
 (refine SegC.q (Qs.buildTexts [t] rfl rfl rfl (by decide) (by decide)) rfl ?_)
 (refine SegC.nil ?_)
 (refine Ag.cons rfl ?_)
 (refine Ag.cons rfl ?_)
 (refine Ag.cons rfl ?_)
 (refine Ag.nil)
 (refine JP.tail (idx := []) 6 (by decide +kernel) (by decide +kernel) rfl rfl ?_ ?_)
 (refine SegC.nil ?_)
 (refine Ag.nil)
 (refine Jx.fieldAddr rfl rfl ?_)
 (refine J.store rfl rfl (One.val hv') 2 rfl rfl rfl rfl ?_)
 (refine J.nil (N.seq (W.region (Jx.add64 rfl rfl (by omega) rfl ?_))))
 (refine Jx.move rfl rfl (J.nil ?_))
 (refine id ?_; rotate_left))
    refine N.perm (List.Perm.swap _ _ _) ?_
    refine N.round (v', acc ++ [t], a', c') ⟨ha', by simp only [List.length_append, List.length_cons, List.length_nil]; omega, ?_⟩ (by simp only [List.length_append, List.length_cons, List.length_nil]; omega) rfl ⟨⟨_, rfl, Sub.of_eq (by simp)⟩, ref0 rfl, ref0 rfl, ref0 rfl, ref0 rfl, trivial⟩
    rw [hsucc] at hr
    have := reps_step hr hb'
    simpa only [List.length_append, List.length_cons, List.length_nil, Nat.zero_add] using this
  · have hlen : acc.length = (linksI (n1 : Int)).length := by omega
    rw [hlen, Nat.sub_self] at hr
    simp only [reps, List.append_nil] at hr
    have hrd := rdh _ _ hr
    refine W.freezeCell 1 1 10 rfl rfl rfl (by simp only [maxLen]; omega) rfl ?_
    have ce := rd_End b s a c ha hs
    have ck := hcheck_ok ⟨n1, n2, n3, lf', t5, t6, t7, t8, t9, t10, acc⟩ (by simp only; omega)
    generalize hx : (⟨n1, n2, n3, lf', t5, t6, t7, t8, t9, t10, acc⟩ : Hd) = x at *
    rw [show [int (n1 : Int), int (n2 : Int), int (n3 : Int), bool lf', str t5, str t6, str t7, str t8, str t9, str t10, SV.val u].set 10 (SV.sl 1 acc.length (elOf (fun a => [str a]) [] acc)) = hdC x by rw [← hx]; rfl]
    focus (
 (refine W.seq (W.region (Jx.lssI rfl rfl rfl (J.nil (N.seq (W.seq (W.cF rfl ?_)))))))
 (refine W.exit (N.seq (W.seq (W.seq (W.region (Jx.move rfl rfl ?_))))))
 (refine J.call (ce) rfl (evs_args rfl) rfl ?_; rintro _ _ ⟨e, a', c', rfl, rfl, he⟩; simp only [la1, la2, la3])
 (refine Jx.neqI rfl rfl rfl (Jx.move rfl rfl ?_))
 (refine' J.guardOr rfl rfl rfl rfl rfl rfl rfl rfl (fun _ => ?_) ?_; rotate_left)
 (refine J.gY rfl rfl rfl ?_)
 (refine Jx.loadAll rfl 1 rfl rfl rfl ?_)
 (refine J.gY rfl rfl rfl ?_)
 (refine J.cP ck (evs_args rfl) rfl ?_; try simp only)
 (refine J.gY rfl rfl rfl ?_)
 (refine Jx.neqI rfl rfl rfl (J.nil ?_))
 (refine N.joinedN rfl rfl rfl)
 (refine J.nil (N.seq ?_))
 (refine id ?_; rotate_left))
    refine W.cond rfl (fun hb => ?_) (fun hb => ?_)
    · focus (
 (refine W.seq (W.region (Jx.buildB rfl rfl rfl rfl rfl ?_)))
 (refine J.storeAll rfl rfl rfl 2 rfl rfl rfl ?_)
 (refine Jx.assign rfl rfl (J.nil (N.seq (W.ret (N.noGotoRet ?_)))))
 (refine id ?_; rotate_left))
      refine N.objSub 2 (hdC hd0) rfl hdz_sub rfl ?_
      refine N.retD (rs := [.cell 2 tHd, .tmp 3]) (L1 := []) rfl (.cell rfl 2 rfl agHd (.tmp rfl .nil)) (List.nil_sublist _) ⟨⟨none, fun y hy hz => ?_, rfl⟩, rfl⟩
      obtain ⟨rfl, h2⟩ := hrd.whole ((fineHd_iff y).1 hy) hz
      rw [he.2 h2, hy] at hb
      simp at hb
    · focus (
 (refine W.skip (N.seq (W.seq (W.region (Jx.loadAll rfl 1 rfl rfl rfl ?_)))))
 (refine J.storeAll rfl rfl rfl 2 rfl rfl rfl ?_)
 (refine Jx.assign rfl rfl (J.nil (N.seq (W.ret ?_))))
 (refine id ?_; rotate_left))
      refine N.retD (rs := [.cell 2 tHd, .tmp 3]) (L1 := []) rfl (.cell rfl 2 rfl agHd (.tmp rfl .nil)) (List.nil_sublist _) ⟨⟨some x, ?_, rfl⟩, rfl⟩
      simp only [Bool.or_eq_false_iff, decide_eq_false_iff_not] at hb
      have hf : fineHd x = true := by
        cases hf : fineHd x with
        | true => rfl
        | false => rw [hf] at hb; simp at hb
      rw [he.1 (by omega)] at hrd
      exact ⟨hf, hrd.sound⟩
end Go.Proofs.YtlfdhkahiaammaaGreatDoor
namespace Go.Proofs.YtlfdhkahiaammaaGreatDoor
open Go Go.Sse
set_option linter.unusedVariables false
set_option linter.unusedSimpArgs false
set_option maxRecDepth 10000
theorem bhead_ok (s : List UInt8) (hs : s.length ≤ 1099511627776) (p : Nat) (x : Bk) : FnC Tryz.prog 38 [str s, ptr p] [.obj p tBk (bkC x)] (fun v L => (∃ o, DecR fineHd encHd s o ∧ v = bool o.isSome ∧ L = [.obj p tBk (bkC ⟨o.getD hd0, x.txs, x.just⟩)])) := by
  have c := hdecode_ok s hs
  refine FnC.intro Tryz.func38 rfl Tryz.ntmps38 rfl fun Z w0 hG => ?_
  focus (
 (refine W.seq (W.region (Jx.assign rfl rfl (J.nil (N.seq (W.seq (W.region (Jx.move rfl rfl ?_))))))))
 (refine J.call (Lc := []) c rfl (evs_args rfl) rfl ?_; rintro _ _ ⟨⟨o, ho, rfl⟩, rfl⟩; simp only [la1, la2, la3])
 (refine Jx.move rfl rfl (Jx.extract rfl rfl rfl ?_))
 (refine Jx.extract rfl rfl rfl ?_)
 (refine J.alloc (by simp only [List.map_cons, List.map_nil]; rfl) rfl rfl ?_; intro b')
 (refine J.storeAll rfl rfl rfl 0 rfl rfl rfl ?_)
 (refine Jx.assign rfl rfl (J.nil (N.seq (W.seq (W.region (Jx.move rfl rfl (Jx.loadAll rfl 0 rfl rfl rfl ?_)))))))
 (refine Jx.nilCheck rfl rfl ?_)
 (refine Jx.fieldAddr rfl rfl ?_)
 (refine J.storeAg rfl rfl rfl 1 rfl rfl rfl rfl ?_)
 (refine J.nil (N.seq (W.seq (W.region (Jx.move rfl rfl (Jx.eqlI rfl rfl rfl (Jx.assign rfl rfl (J.nil (N.seq (W.ret ?_))))))))))
 (refine id ?_; rotate_left))
  refine N.retD (rs := [.tmp 4]) (L1 := [.obj p tBk (bkC ⟨o.getD hd0, x.txs, x.just⟩)]) rfl (.tmp rfl .nil) (List.sublist_cons_self _ _) ⟨o, ho, ?_, rfl⟩
  cases o <;> rfl
theorem btxs_ok (s : List UInt8) (hs : s.length ≤ 1099511627776) (p : Nat) (x : Bk) : FnC Tryz.prog 39 [str s, ptr p] [.obj p tBk (bkC x)] (fun v L => (∃ o, DecR fineAll encAll s o ∧ v = bool o.isSome ∧ L = [.obj p tBk (bkC ⟨x.head, o.getD [], x.just⟩)])) := by
  have c := tdecAll_ok s hs
  refine FnC.intro Tryz.func39 rfl Tryz.ntmps39 rfl fun Z w0 hG => ?_
  focus (
 (refine W.seq (W.region (Jx.assign rfl rfl (J.nil (N.seq (W.seq (W.region (Jx.move rfl rfl ?_))))))))
 (refine J.call (Lc := []) c rfl (evs_args rfl) rfl ?_; rintro _ _ ⟨⟨o, ho, rfl⟩, rfl⟩; simp only [la1, la2, la3])
 (refine Jx.move rfl rfl (Jx.extract rfl rfl rfl ?_))
 (refine Jx.extract rfl rfl rfl ?_)
 (refine Jx.assign rfl rfl (Jx.assign rfl rfl (J.nil (N.seq (W.seq (W.region (Jx.move rfl rfl (Jx.move rfl rfl (Jx.nilCheck rfl rfl ?_)))))))))
 (refine Jx.fieldAddr rfl rfl ?_)
 (refine J.st 0 rfl rfl rfl rfl rfl rfl ?_)
 (refine J.nil (N.seq (W.seq (W.region (Jx.move rfl rfl (Jx.eqlI rfl rfl rfl (Jx.assign rfl rfl (J.nil (N.seq (W.ret ?_))))))))))
 (refine id ?_; rotate_left))
  refine N.ret (rs := [.tmp 4]) rfl (.tmp rfl .nil) ⟨o, ho, ?_, rfl⟩
  cases o <;> rfl
theorem bjust_ok (s : List UInt8) (hs : s.length ≤ 1099511627776) (p : Nat) (x : Bk) : FnC Tryz.prog 42 [str s, ptr p] [.obj p tBk (bkC x)] (fun v L => (∃ o, DecR fineCt encCt s o ∧ v = bool o.isSome ∧ L = [.obj p tBk (bkC ⟨x.head, x.txs, o.getD ct0⟩)])) := by
  have c := cdecode_ok s hs
  refine FnC.intro Tryz.func42 rfl Tryz.ntmps42 rfl fun Z w0 hG => ?_
  focus (
 (refine W.seq (W.region (Jx.assign rfl rfl (J.nil (N.seq (W.seq (W.region (Jx.move rfl rfl ?_))))))))
 (refine J.call (Lc := []) c rfl (evs_args rfl) rfl ?_; rintro _ _ ⟨⟨o, ho, rfl⟩, rfl⟩; simp only [la1, la2, la3])
 (refine Jx.move rfl rfl (Jx.extract rfl rfl rfl ?_))
 (refine Jx.extract rfl rfl rfl ?_)
 (refine J.alloc (by simp only [List.map_cons, List.map_nil]; rfl) rfl rfl ?_; intro b')
 (refine J.storeAll rfl rfl rfl 0 rfl rfl rfl ?_)
 (refine Jx.assign rfl rfl (J.nil (N.seq (W.seq (W.region (Jx.move rfl rfl (Jx.loadAll rfl 0 rfl rfl rfl ?_)))))))
 (refine Jx.nilCheck rfl rfl ?_)
 (refine Jx.fieldAddr rfl rfl ?_)
 (refine J.storeAg rfl rfl rfl 1 rfl rfl rfl rfl ?_)
 (refine J.nil (N.seq (W.seq (W.region (Jx.move rfl rfl (Jx.eqlI rfl rfl rfl (Jx.assign rfl rfl (J.nil (N.seq (W.ret ?_))))))))))
 (refine id ?_; rotate_left))
  refine N.retD (rs := [.tmp 4]) (L1 := [.obj p tBk (bkC ⟨x.head, x.txs, o.getD ct0⟩)]) rfl (.tmp rfl .nil) (List.sublist_cons_self _ _) ⟨o, ho, ?_, rfl⟩
  cases o <;> rfl
abbrev nHead : Nat := 38
abbrev nTxs : Nat := 39
def PartR (s : List UInt8) (x : Bk) (fine : Bool) (st : PSt) : Nat → Prop
  | 0 => x = bk0 ∧ fine = true ∧ st = some s
  | 1 => ∃ t1 o1, textP 65536 (some s) = (t1, st) ∧ DecR fineHd encHd t1 o1 ∧ x = ⟨o1.getD hd0, [], ct0⟩ ∧ fine = o1.isSome
  | _ => ∃ t1 s1 t2 o1 o2, textP 65536 (some s) = (t1, s1) ∧ DecR fineHd encHd t1 o1 ∧ textP 65536 s1 = (t2, st) ∧ DecR fineAll encAll t2 o2 ∧ x = ⟨o1.getD hd0, o2.getD [], ct0⟩ ∧ fine = (o2.isSome && o1.isSome)
theorem PartR.read {s : List UInt8} {x : Bk} {fine : Bool} {st2 st : PSt} {c : Ct} {k : Bool} (h : PartR s x fine st2 2) (hj : JustR 65536 st2 c k st) : ∃ k1 k2, ReadB 65536 s ⟨x.head, x.txs, c⟩ k1 k2 k st ∧ fine = (k2 && k1) := by
  obtain ⟨t1, s1, t2, o1, o2, e1, d1, e2, d2, rfl, hf⟩ := h
  exact ⟨o1.isSome, o2.isSome, ⟨t1, s1, t2, st2, o1, o2, e1, d1, rfl, rfl, e2, d2, rfl, rfl, hj⟩, hf⟩
theorem dec_skips {s : List UInt8} {o : Option Hd} (h : DecR fineHd encHd s o) : (o.getD hd0).skips.length ≤ 1048576 := by
  cases o with
  | none => simp [hd0]
  | some x => have := ((fineHd_iff x).1 h.1).skips20; simp only [Option.getD_some]; omega
set_option maxHeartbeats 8000000 in
theorem bdecode_ok (s : List UInt8) (hs : s.length ≤ 1099511627776) : FnC Tryz.prog 9 [str s] [] (fun v L => (∃ o, DecR fineBk encBk s o ∧ v = .tup [.agg (bkC (o.getD bk0)), int (codeO o 210)]) ∧ L = []) := by
  have c0 := read_ok s
  refine FnC.intro Tryz.func9 rfl Tryz.ntmps9 rfl fun Z w0 hG => ?_
  focus (
 (refine W.seq (W.region ?_))
 (refine J.alloc (by simp only [List.map_cons, List.map_nil]; rfl) rfl rfl ?_; intro b')
 (refine Jx.assign rfl rfl (J.nil (N.seq (W.seq (W.region (Jx.move rfl rfl ?_))))))
 (refine J.call (Lc := []) c0 rfl (evs_args rfl) rfl ?_; rintro _ _ ⟨b, rfl, rfl⟩; simp only [la1, la2, la3])
 (refine Jx.assign rfl rfl (J.nil (N.seq (W.seq (W.region ?_)))))
 (refine J.alloc (by simp only [List.map_cons, List.map_nil]; rfl) rfl rfl ?_; intro b')
 (refine J.nil (N.seq (W.seq (W.region (Jx.assign rfl rfl (J.nil (N.seq (W.seq (W.seq (W.region (Jx.buildB rfl rfl rfl rfl rfl ?_)))))))))))
 (refine Jx.buildB rfl rfl rfl rfl rfl ?_)
 (refine J.qs (Qs.buildAgs (fun f : Nat => [fnV f]) 0 [nHead, nTxs] rfl rfl (fun _ => rfl) rfl rfl (by decide) (by decide) rfl) rfl ?_)
 (refine Jx.lenSl rfl rfl ?_)
 (refine Jx.move rfl rfl (J.nil (N.seq (W.block ?_))))
 (refine id ?_; rotate_left))
  rename_i p2
  obtain ⟨p5, hp5⟩ : ∃ q, q = b' := ⟨_, rfl⟩
  subst hp5
  refine W.objSub 0 (bkC bk0) rfl bkz_sub rfl ?_
  refine W.loop (α := Nat × Bk × Bool × Nat × Int) (fun x => [(16, int (x.1 : Int)), (15, int (2 : Nat)), (14, .sl 1 2 (elOf (fun f : Nat => [fnV f]) 0 [nHead, nTxs])), (6, bool x.2.2.1), (5, ptr p5), (4, ptr b), (2, ptr p2)])
    (fun x => [.obj p5 tBk (bkC x.2.1), rdO b ⟨s, x.2.2.2.1, x.2.2.2.2⟩, .obj p2 tBk bkz]) (fun x => x.1 ≤ 2 ∧ x.2.2.2.1 ≤ s.length ∧ PartR s x.2.1 x.2.2.1 (lf s x.2.2.2.1 x.2.2.2.2) x.1) (fun x => 2 - x.1) (0, bk0, true, 0, 0) ⟨by decide, Nat.zero_le _, rfl, rfl, rfl⟩ rfl ⟨ref0 rfl, ref0 rfl, ref0 rfl, ref0 rfl, ref0 rfl, ref0 rfl, ref0 rfl, trivial⟩ ?_
  rintro ⟨k, x, fine, a, c⟩ ⟨hk, ha, hr⟩
  simp only at hk ha hr ⊢
  match k, hk, hr with
  | 0, _, hr =>
    have h02 : 0 < 2 := by decide
    have cr := rd_Text b s a c 65536 ha hs
    obtain ⟨rfl, rfl, hst⟩ := hr
    focus (
 (refine W.seq (W.region (Jx.lssI rfl rfl rfl (J.nil (N.seq (W.seq (W.cT rfl ?_)))))))
 (refine W.skip (N.seq (W.seq (W.block (W.seq (W.region (Jx.indexEl rfl rfl (by assumption) rfl rfl ?_)))))))
 (refine Jx.loadPPall rfl rfl rfl ?_)
 (refine J.alloc (by simp only [List.map_cons, List.map_nil]; rfl) rfl rfl ?_; intro b')
 (refine J.storeAll rfl rfl rfl 0 rfl rfl rfl ?_)
 (refine J.nil (N.seq ?_))
 (refine W.draw follows ?_)
 (refine JD.begin 9 rfl ?_; refine JP.more [0, 1, 2] _ rfl (by decide +kernel) ?_)
 (refine Cx.fieldAddr rfl rfl ?_)
 (refine Cx.load rfl 0 rfl rfl rfl ?_)
 (refine Cx.move rfl rfl ?_)
 (refine SegC.nil ?_)
 (focus (refine JP.perm (List.Perm.trans (List.Perm.cons _ (List.Perm.swap _ _ _)) (List.Perm.swap _ _ _)) ?_; refine JP.call (idx := [0, 1, 2]) (Lc := [rdO b ⟨s, a, c⟩]) 3 [22] [2, 3] [0, 1] cr rfl (by decide +kernel) rfl ?_ (evs_args rfl) rfl ?_; rotate_left); rintro _ _ ⟨t, a', c', rfl, rfl, ha', hb'⟩; simp only [List.cons_append, List.nil_append])
 (focus (refine JP.perm (List.Perm.trans (List.Perm.cons _ (List.Perm.swap _ _ _)) (List.Perm.swap _ _ _)) ?_; refine JP.callV (us := []) (vs := []) (args := [str t, ptr p5]) (idx := [0, 1]) (Lc := [.obj p5 tBk (bkC bk0)]) 4 [21, 23, 5] [0, 1, 2, 3, 4] [] (bhead_ok t (by have := bound_text hb'; omega) p5 bk0) rfl (by decide +kernel) rfl ?_ rfl (evs_args rfl) rfl ?_; rotate_left); rintro _ _ ⟨o, ho, rfl, rfl⟩; simp only [List.cons_append, List.nil_append])
 (refine JP.tail (idx := []) 5 (by decide +kernel) (by decide +kernel) rfl rfl ?_ ?_)
 (refine SegC.nil ?_)
 (refine Ag.nil)
 (refine Jx.move rfl rfl ?_)
 (refine' J.guardAnd rfl rfl rfl rfl rfl rfl rfl rfl (fun _ => ?_) ?_; rotate_left)
 (refine J.gY rfl rfl rfl ?_)
 (refine Jx.move rfl rfl (J.nil ?_))
 (refine N.joinedN rfl rfl rfl)
 (refine Jx.assign rfl rfl (J.nil (N.seq (W.region (Jx.add64 rfl rfl (by omega) rfl ?_)))))
 (refine Jx.move rfl rfl (J.nil ?_))
 (refine id ?_; rotate_left)
 (refine Cx.fieldAddr rfl rfl ?_)
 (refine Cx.load rfl 2 rfl rfl rfl ?_)
 (refine SegC.nil ?_)
 (refine Ag.cons rfl ?_)
 (refine Ag.cons rfl ?_)
 (refine Ag.nil)
 (refine Cx.fieldAddr rfl rfl ?_)
 (refine Cx.load rfl 1 rfl rfl rfl ?_)
 (refine Cx.move rfl rfl ?_)
 (refine SegC.nil ?_)
 (refine Ag.cons rfl ?_)
 (refine Ag.cons rfl ?_)
 (refine Ag.cons rfl ?_)
 (refine Ag.nil))
    refine N.drop (List.Sublist.cons_cons _ (List.Sublist.cons_cons _ (List.sublist_cons_self _ _))) ?_
    exact N.round (0 + 1, ⟨o.getD hd0, [], ct0⟩, o.isSome && true, a', c') ⟨by simp only; omega, ha', ⟨t, o, by rw [← hst]; exact hb', ho, rfl, Bool.and_true _⟩⟩ (by simp only; omega) rfl ⟨ref0 rfl, ref0 rfl, ref0 rfl, ref0 rfl, ref0 rfl, ref0 rfl, ref0 rfl, trivial⟩
  | 1, _, hr =>
    have h02 : 1 < 2 := by decide
    have cr := rd_Text b s a c 65536 ha hs
    obtain ⟨t1, o1, e1, d1, rfl, rfl⟩ := hr
    focus (
 (refine W.seq (W.region (Jx.lssI rfl rfl rfl (J.nil (N.seq (W.seq (W.cT rfl ?_)))))))
 (refine W.skip (N.seq (W.seq (W.block (W.seq (W.region (Jx.indexEl rfl rfl (by assumption) rfl rfl ?_)))))))
 (refine Jx.loadPPall rfl rfl rfl ?_)
 (refine J.alloc (by simp only [List.map_cons, List.map_nil]; rfl) rfl rfl ?_; intro b')
 (refine J.storeAll rfl rfl rfl 0 rfl rfl rfl ?_)
 (refine J.nil (N.seq ?_))
 (refine W.draw follows ?_)
 (refine JD.begin 9 rfl ?_; refine JP.more [0, 1, 2] _ rfl (by decide +kernel) ?_)
 (refine Cx.fieldAddr rfl rfl ?_)
 (refine Cx.load rfl 0 rfl rfl rfl ?_)
 (refine Cx.move rfl rfl ?_)
 (refine SegC.nil ?_)
 (focus (refine JP.perm (List.Perm.trans (List.Perm.cons _ (List.Perm.swap _ _ _)) (List.Perm.swap _ _ _)) ?_; refine JP.call (idx := [0, 1, 2]) (Lc := [rdO b ⟨s, a, c⟩]) 3 [22] [2, 3] [0, 1] cr rfl (by decide +kernel) rfl ?_ (evs_args rfl) rfl ?_; rotate_left); rintro _ _ ⟨t, a', c', rfl, rfl, ha', hb'⟩; simp only [List.cons_append, List.nil_append])
 (focus (refine JP.perm (List.Perm.trans (List.Perm.cons _ (List.Perm.swap _ _ _)) (List.Perm.swap _ _ _)) ?_; refine JP.callV (us := []) (vs := []) (args := [str t, ptr p5]) (idx := [0, 1]) (Lc := [.obj p5 tBk (bkC ⟨o1.getD hd0, [], ct0⟩)]) 4 [21, 23, 5] [0, 1, 2, 3, 4] [] (btxs_ok t (by have := bound_text hb'; omega) p5 ⟨o1.getD hd0, [], ct0⟩) rfl (by decide +kernel) rfl ?_ rfl (evs_args rfl) rfl ?_; rotate_left); rintro _ _ ⟨o, ho, rfl, rfl⟩; simp only [List.cons_append, List.nil_append])
 (refine JP.tail (idx := []) 5 (by decide +kernel) (by decide +kernel) rfl rfl ?_ ?_)
 (refine SegC.nil ?_)
 (refine Ag.nil)
 (refine Jx.move rfl rfl ?_)
 (refine' J.guardAnd rfl rfl rfl rfl rfl rfl rfl rfl (fun _ => ?_) ?_; rotate_left)
 (refine J.gY rfl rfl rfl ?_)
 (refine Jx.move rfl rfl (J.nil ?_))
 (refine N.joinedN rfl rfl rfl)
 (refine Jx.assign rfl rfl (J.nil (N.seq (W.region (Jx.add64 rfl rfl (by omega) rfl ?_)))))
 (refine Jx.move rfl rfl (J.nil ?_))
 (refine id ?_; rotate_left)
 (refine Cx.fieldAddr rfl rfl ?_)
 (refine Cx.load rfl 2 rfl rfl rfl ?_)
 (refine SegC.nil ?_)
 (refine Ag.cons rfl ?_)
 (refine Ag.cons rfl ?_)
 (refine Ag.nil)
 (refine Cx.fieldAddr rfl rfl ?_)
 (refine Cx.load rfl 1 rfl rfl rfl ?_)
 (refine Cx.move rfl rfl ?_)
 (refine SegC.nil ?_)
 (refine Ag.cons rfl ?_)
 (refine Ag.cons rfl ?_)
 (refine Ag.cons rfl ?_)
 (refine Ag.nil))
    refine N.drop (List.Sublist.cons_cons _ (List.Sublist.cons_cons _ (List.sublist_cons_self _ _))) ?_
    exact N.round (1 + 1, ⟨o1.getD hd0, o.getD [], ct0⟩, o.isSome && o1.isSome, a', c') ⟨by simp only; omega, ha', ⟨t1, _, t, o1, o, e1, d1, hb', ho, rfl, rfl⟩⟩ (by simp only; omega) rfl ⟨ref0 rfl, ref0 rfl, ref0 rfl, ref0 rfl, ref0 rfl, ref0 rfl, ref0 rfl, trivial⟩
  | 2, _, hr =>
    have cfl := rd_Flag b s a c ha hs
    have hjs : x.just = ct0 := by obtain ⟨_, _, _, o1, o2, _, _, _, _, h, _⟩ := hr; rw [h]
    have hsk : x.head.skips.length ≤ 1048576 := by obtain ⟨_, _, _, o1, o2, _, d1, _, _, h, _⟩ := hr; rw [h]; exact dec_skips d1
    obtain ⟨xh, xt, xj⟩ := x
    simp only at hjs hsk
    subst hjs
    focus (
 (refine W.seq (W.region (Jx.lssI rfl rfl rfl (J.nil (N.seq (W.seq (W.cF rfl ?_)))))))
 (refine W.exit (N.seq (W.seq (W.seq (W.region (Jx.move rfl rfl ?_))))))
 (refine J.call1 1 (cfl) rfl (evs_args rfl) rfl (by rintro _ _ ⟨f, a1, c1, rfl, rfl, ha1, hfl⟩; exact ⟨_, rfl⟩) ?_; rintro _ _ ⟨f, a1, c1, rfl, ⟨⟩, ha1, hfl⟩; simp only [la4, la5])
 (refine J.nil (N.seq ?_))
 (refine id ?_; rotate_left))
    refine W.joinE (α := Ct × Bool × Bool × Nat × Int) (fun y => [(6, bool (y.2.1 && fine)), (5, ptr p5), (4, ptr b), (2, ptr p2)]) (fun y => [.obj p5 tBk (bkC ⟨xh, xt, y.1⟩), rdO b ⟨s, y.2.2.2.1, y.2.2.2.2⟩, .obj p2 tBk bkz]) (fun y => y.2.2.2.1 ≤ s.length ∧ JustR 65536 (lf s a c) y.1 y.2.1 (lf s y.2.2.2.1 y.2.2.2.2)) ?_ ?_
    · cases f with
      | false =>
        focus (
 (refine W.cF rfl ?_)
 (refine W.skip ?_)
 (refine id ?_; rotate_left))
        exact N.joinE (ct0, true, true, a1, c1) ⟨ha1, _, _, hfl, fun _ => ⟨rfl, rfl, rfl⟩, fun h => by cases h⟩ rfl ⟨ref0 rfl, ref0 rfl, ref0 rfl, ref0 rfl, trivial⟩
      | true =>
        have cr := rd_Text b s a1 c1 65536 ha1 hs
        focus (
 (refine W.cT rfl ?_)
 (refine W.seq (W.region (Jx.buildB rfl rfl rfl rfl rfl ?_)))
 (refine J.alloc (by simp only [List.map_cons, List.map_nil]; rfl) rfl rfl ?_; intro b')
 (refine J.storeAll rfl rfl rfl 0 rfl rfl rfl ?_)
 (refine J.nil (N.seq ?_))
 (refine W.draw follows ?_)
 (refine JD.begin 9 rfl ?_; refine JP.more [0, 1, 2] _ rfl (by decide +kernel) ?_)
 (refine Cx.fieldAddr rfl rfl ?_)
 (refine Cx.load rfl 0 rfl rfl rfl ?_)
 (refine Cx.move rfl rfl ?_)
 (refine SegC.nil ?_)
 (focus (refine JP.perm (List.Perm.trans (List.Perm.cons _ (List.Perm.swap _ _ _)) (List.Perm.swap _ _ _)) ?_; refine JP.call (idx := [0, 1, 2]) (Lc := [rdO b ⟨s, a1, c1⟩]) 3 [34] [2, 3] [0, 1] cr rfl (by decide +kernel) rfl ?_ (evs_args rfl) rfl ?_; rotate_left); rintro _ _ ⟨t, a', c', rfl, rfl, ha', hb'⟩; simp only [List.cons_append, List.nil_append])
 (focus (refine JP.perm (List.Perm.trans (List.Perm.cons _ (List.Perm.swap _ _ _)) (List.Perm.swap _ _ _)) ?_; refine JP.callV (us := []) (vs := []) (args := [str t, ptr p5]) (idx := [0, 1]) (Lc := [.obj p5 tBk (bkC ⟨xh, xt, ct0⟩)]) 4 [33, 35, 5] [0, 1, 2, 3, 4] [] (bjust_ok t (by have := bound_text hb'; omega) p5 ⟨xh, xt, ct0⟩) rfl (by decide +kernel) rfl ?_ rfl (evs_args rfl) rfl ?_; rotate_left); rintro _ _ ⟨o, ho, rfl, rfl⟩; simp only [List.cons_append, List.nil_append])
 (refine JP.tail (idx := []) 5 (by decide +kernel) (by decide +kernel) rfl rfl ?_ ?_)
 (refine SegC.nil ?_)
 (refine Ag.nil)
 (refine Jx.move rfl rfl ?_)
 (refine' J.guardAnd rfl rfl rfl rfl rfl rfl rfl rfl (fun _ => ?_) ?_; rotate_left)
 (refine J.gY rfl rfl rfl ?_)
 (refine Jx.move rfl rfl (J.nil ?_))
 (refine N.joinedN rfl rfl rfl)
 (refine Jx.assign rfl rfl (J.nil ?_))
 (refine id ?_; rotate_left)
 (refine Cx.fieldAddr rfl rfl ?_)
 (refine Cx.load rfl 2 rfl rfl rfl ?_)
 (refine SegC.nil ?_)
 (refine Ag.cons rfl ?_)
 (refine Ag.cons rfl ?_)
 (refine Ag.nil)
 (refine Cx.fieldAddr rfl rfl ?_)
 (refine Cx.load rfl 1 rfl rfl rfl ?_)
 (refine Cx.move rfl rfl ?_)
 (refine SegC.nil ?_)
 (refine Ag.cons rfl ?_)
 (refine Ag.cons rfl ?_)
 (refine Ag.cons rfl ?_)
 (refine Ag.nil))
        refine N.drop (List.Sublist.cons_cons _ (List.Sublist.cons_cons _ (List.sublist_cons_self _ _))) ?_
        exact N.joinE (o.getD ct0, o.isSome, true, a', c') ⟨ha', _, _, hfl, (fun h => by cases h), fun _ => ⟨t, o, hb', ho, rfl, rfl⟩⟩ rfl ⟨ref0 rfl, ref0 rfl, ref0 rfl, ref0 rfl, trivial⟩
    · rintro ⟨c3, k3, _, a3, cc3⟩ ⟨ha3, hj⟩
      simp only at ha3 hj ⊢
      obtain ⟨k1, k2, hrd, hfine⟩ := PartR.read hr hj
      simp only at hrd
      have ce := rd_End b s a3 cc3 ha3 hs
      have ck := bcheck_ok ⟨xh, xt, c3⟩ hsk
      focus (
 (refine N.seq (W.seq (W.seq (W.region (Jx.move rfl rfl ?_)))))
 (refine J.call1 1 (ce) rfl (evs_args rfl) rfl (by rintro _ _ ⟨e, a4, c4, rfl, rfl, he⟩; exact ⟨_, rfl⟩) ?_; rintro _ _ ⟨e, a4, c4, rfl, ⟨⟩, he⟩; simp only [la4, la5])
 (refine Jx.neqI rfl rfl rfl (Jx.move rfl rfl ?_))
 (refine' J.guardOr rfl rfl rfl rfl rfl rfl rfl rfl (fun _ => ?_) ?_; rotate_left)
 (refine J.gY rfl rfl rfl ?_)
 (refine Jx.move rfl rfl (J.gY rfl rfl rfl ?_))
 (refine Jx.not rfl rfl (J.nil ?_))
 (refine N.joinedN rfl rfl rfl)
 (refine Jx.move rfl rfl ?_)
 (refine' J.guardOr rfl rfl rfl rfl rfl rfl rfl rfl (fun _ => ?_) ?_; rotate_left)
 (refine J.gY rfl rfl rfl ?_)
 (refine Jx.loadAll rfl 0 rfl rfl rfl ?_)
 (refine J.gY rfl rfl rfl ?_)
 (refine J.cP ck (evs_args rfl) rfl ?_; try simp only)
 (refine J.gY rfl rfl rfl ?_)
 (refine Jx.neqI rfl rfl rfl (J.nil ?_))
 (refine N.joinedN rfl rfl rfl)
 (refine J.nil (N.seq ?_))
 (refine id ?_; rotate_left))
      refine W.cond rfl (fun hb => ?_) (fun hb => ?_)
      · focus (
 (refine W.seq (W.region (Jx.buildB rfl rfl rfl rfl rfl ?_)))
 (refine J.storeAll rfl rfl rfl 2 rfl rfl rfl ?_)
 (refine Jx.assign rfl rfl (J.nil (N.seq (W.ret (N.noGotoRet ?_)))))
 (refine id ?_; rotate_left))
        refine N.objSub 2 (bkC bk0) rfl bkz_sub rfl ?_
        refine N.retD (rs := [.cell 2 tBk, .tmp 3]) (L1 := []) rfl (.cell rfl 2 rfl agBk (.tmp rfl .nil)) (List.nil_sublist _) ⟨⟨none, fun y hy hz => ?_, rfl⟩, rfl⟩
        obtain ⟨rfl, h1, h2, h3, h4⟩ := hrd.whole (by decide) ((fineBk_iff y).1 hy) (r := []) (by rw [List.append_nil, hz])
        rw [he.2 h4, hy, hfine, h1, h2, h3] at hb
        simp at hb
      · focus (
 (refine W.skip (N.seq (W.seq (W.region (Jx.loadAll rfl 0 rfl rfl rfl ?_)))))
 (refine J.storeAll rfl rfl rfl 2 rfl rfl rfl ?_)
 (refine Jx.assign rfl rfl (J.nil (N.seq (W.ret ?_))))
 (refine id ?_; rotate_left))
        refine N.retD (rs := [.cell 2 tBk, .tmp 3]) (L1 := []) rfl (.cell rfl 2 rfl agBk (.tmp rfl .nil)) (List.nil_sublist _) ⟨⟨some ⟨xh, xt, c3⟩, ?_, rfl⟩, rfl⟩
        simp only [Bool.or_eq_false_iff, decide_eq_false_iff_not, Classical.not_not, Bool.not_eq_false', Bool.and_eq_true] at hb
        obtain ⟨⟨b1, b2, b3⟩, b4⟩ := hb
        have hf : fineBk ⟨xh, xt, c3⟩ = true := by
          cases hf : fineBk ⟨xh, xt, c3⟩ with
          | true => rfl
          | false => rw [hf] at b4; simp at b4
        rw [hfine, Bool.and_eq_true] at b3
        rw [he.1 b1, b3.1, b3.2, b2] at hrd
        exact ⟨hf, hrd.sound⟩
end Go.Proofs.YtlfdhkahiaammaaGreatDoor
namespace Go.Proofs.YtlfdhkahiaammaaGreatDoor
open Go Go.Sse
set_option linter.unusedVariables false
set_option linter.unusedSimpArgs false
set_option maxRecDepth 10000
abbrev tMs : Nat := 42
theorem agMs : TAg Tryz.prog tMs 21 := inferInstance
abbrev msz : List SV := [int 0, str [], int 0, int 0, str [], int 0, int 0, int 0, bool false, str [], str [], str [], str [], str [], str [], .val (.slice none 0 0), .val (.slice none 0 0), str [], .val (.slice none 0 0), str [], .val (.slice none 0 0)]
theorem msz_sub : SubL msz (msC ms0) := .cons (.refl _) (.cons (.refl _) (.cons (.refl _) (.cons (.refl _) (.cons (.refl _) (.cons (.refl _) (.cons (.refl _) (.cons (.refl _) (.cons (.refl _) (.cons (.refl _) (.cons (.refl _) (.cons (.refl _) (.cons (.refl _) (.cons (.refl _) (.cons (.refl _) (.cons (Sub.nil 1 _) (.cons (Sub.nil 8 _) (.cons (.refl _) (.cons (Sub.nil 1 _) (.cons (.refl _) (.cons (Sub.nil 1 _) .nil))))))))))))))))))))
theorem bk0_iff (b : Bk) : b = bk0 ↔ (b.head.height = 0 ∧ b.head.epoch = 0 ∧ b.head.view = 0 ∧ b.head.last = false ∧ b.head.parent = [] ∧ b.head.state = [] ∧ b.head.receipts = [] ∧ b.head.txs = [] ∧ b.head.members = [] ∧ b.head.next = [] ∧ (b.head.skips.length : Int) = 0) ∧ (b.txs.length : Int) = 0 ∧ bareCt b.just = true := by
  constructor
  · intro h; subst h; simp [bk0, hd0, bareCt, ct0]
  · rintro ⟨⟨h1, h2, h3, h4, h5, h6, h7, h8, h9, h10, h11⟩, h12, h13⟩
    refine Bk.ext' ?_ (len0 h12) (bare_eq h13)
    obtain ⟨⟨a1, a2, a3, a4, a5, a6, a7, a8, a9, a10, a11⟩, q, r⟩ := b
    simp only at h1 h2 h3 h4 h5 h6 h7 h8 h9 h10 h11
    rw [h1, h2, h3, h4, h5, h6, h7, h8, h9, h10, len0 h11]
    rfl
set_option maxHeartbeats 4000000 in
theorem vempty_ok (b : Bk) : FnC Tryz.prog 106 [.agg (bkC b)] [] (fun v L => v = bool (decide (b = bk0)) ∧ L = []) := by
  have c := vbare_ok b.just
  refine FnC.intro Tryz.func106 rfl Tryz.ntmps106 rfl fun Z w0 hG => ?_
  focus (
 (refine W.seq (W.region ?_))
 (refine J.boxAg rfl rfl ?_; intro b')
 (refine Jx.assign rfl rfl (J.nil (N.seq (W.seq (W.region (Jx.fieldAddr rfl rfl ?_))))))
 (refine Jx.loadAg rfl 0 rfl rfl rfl rfl ?_)
 (refine J.alloc (by simp only [List.map_cons, List.map_nil]; rfl) rfl rfl ?_; intro b')
 (refine J.storeAll rfl rfl rfl 0 rfl rfl rfl ?_)
 (refine J.nil (N.seq (W.seq (W.region (Jx.fieldAddr rfl rfl ?_)))))
 (refine Jx.load rfl 0 rfl rfl rfl ?_)
 (refine Jx.eqlI rfl rfl rfl (Jx.move rfl rfl ?_))
 (refine' J.guardAnd rfl rfl rfl rfl rfl rfl rfl rfl (fun _ => ?_) ?_; rotate_left)
 (refine J.gY rfl rfl rfl ?_)
 (refine Jx.fieldAddr rfl rfl ?_)
 (refine J.gY rfl rfl rfl ?_)
 (refine Jx.load rfl 0 rfl rfl rfl ?_)
 (refine J.gY rfl rfl rfl ?_)
 (refine Jx.eqlI rfl rfl rfl (J.nil ?_))
 (refine N.joinedN rfl rfl rfl)
 (refine Jx.move rfl rfl ?_)
 (refine' J.guardAnd rfl rfl rfl rfl rfl rfl rfl rfl (fun _ => ?_) ?_; rotate_left)
 (refine J.gY rfl rfl rfl ?_)
 (refine Jx.fieldAddr rfl rfl ?_)
 (refine J.gY rfl rfl rfl ?_)
 (refine Jx.load rfl 0 rfl rfl rfl ?_)
 (refine J.gY rfl rfl rfl ?_)
 (refine Jx.eqlI rfl rfl rfl (J.nil ?_))
 (refine N.joinedN rfl rfl rfl)
 (refine Jx.move rfl rfl ?_)
 (refine' J.guardAnd rfl rfl rfl rfl rfl rfl rfl rfl (fun _ => ?_) ?_; rotate_left)
 (refine J.gY rfl rfl rfl ?_)
 (refine Jx.fieldAddr rfl rfl ?_)
 (refine J.gY rfl rfl rfl ?_)
 (refine Jx.load rfl 0 rfl rfl rfl ?_)
 (refine J.gY rfl rfl rfl ?_)
 (refine Jx.not rfl rfl (J.nil ?_))
 (refine N.joinedN rfl rfl rfl)
 (refine Jx.move rfl rfl ?_)
 (refine' J.guardAnd rfl rfl rfl rfl rfl rfl rfl rfl (fun _ => ?_) ?_; rotate_left)
 (refine J.gY rfl rfl rfl ?_)
 (refine Jx.fieldAddr rfl rfl ?_)
 (refine J.gY rfl rfl rfl ?_)
 (refine Jx.load rfl 0 rfl rfl rfl ?_)
 (refine J.gY rfl rfl rfl ?_)
 (refine Jx.eqlS rfl rfl rfl (J.nil ?_))
 (refine N.joinedN rfl rfl rfl)
 (refine Jx.move rfl rfl ?_)
 (refine' J.guardAnd rfl rfl rfl rfl rfl rfl rfl rfl (fun _ => ?_) ?_; rotate_left)
 (refine J.gY rfl rfl rfl ?_)
 (refine Jx.fieldAddr rfl rfl ?_)
 (refine J.gY rfl rfl rfl ?_)
 (refine Jx.load rfl 0 rfl rfl rfl ?_)
 (refine J.gY rfl rfl rfl ?_)
 (refine Jx.eqlS rfl rfl rfl (J.nil ?_))
 (refine N.joinedN rfl rfl rfl)
 (refine Jx.move rfl rfl ?_)
 (refine' J.guardAnd rfl rfl rfl rfl rfl rfl rfl rfl (fun _ => ?_) ?_; rotate_left)
 (refine J.gY rfl rfl rfl ?_)
 (refine Jx.fieldAddr rfl rfl ?_)
 (refine J.gY rfl rfl rfl ?_)
 (refine Jx.load rfl 0 rfl rfl rfl ?_)
 (refine J.gY rfl rfl rfl ?_)
 (refine Jx.eqlS rfl rfl rfl (J.nil ?_))
 (refine N.joinedN rfl rfl rfl)
 (refine Jx.assign rfl rfl (J.nil (N.seq (W.seq (W.region (Jx.fieldAddr rfl rfl ?_))))))
 (refine Jx.load rfl 0 rfl rfl rfl ?_)
 (refine Jx.eqlS rfl rfl rfl (Jx.move rfl rfl ?_))
 (refine' J.guardAnd rfl rfl rfl rfl rfl rfl rfl rfl (fun _ => ?_) ?_; rotate_left)
 (refine J.gY rfl rfl rfl ?_)
 (refine Jx.fieldAddr rfl rfl ?_)
 (refine J.gY rfl rfl rfl ?_)
 (refine Jx.load rfl 0 rfl rfl rfl ?_)
 (refine J.gY rfl rfl rfl ?_)
 (refine Jx.eqlS rfl rfl rfl (J.nil ?_))
 (refine N.joinedN rfl rfl rfl)
 (refine Jx.move rfl rfl ?_)
 (refine' J.guardAnd rfl rfl rfl rfl rfl rfl rfl rfl (fun _ => ?_) ?_; rotate_left)
 (refine J.gY rfl rfl rfl ?_)
 (refine Jx.fieldAddr rfl rfl ?_)
 (refine J.gY rfl rfl rfl ?_)
 (refine Jx.load rfl 0 rfl rfl rfl ?_)
 (refine J.gY rfl rfl rfl ?_)
 (refine Jx.eqlS rfl rfl rfl (J.nil ?_))
 (refine N.joinedN rfl rfl rfl)
 (refine Jx.move rfl rfl ?_)
 (refine' J.guardAnd rfl rfl rfl rfl rfl rfl rfl rfl (fun _ => ?_) ?_; rotate_left)
 (refine J.gY rfl rfl rfl ?_)
 (refine Jx.fieldAddr rfl rfl ?_)
 (refine J.gY rfl rfl rfl ?_)
 (refine Jx.load rfl 0 rfl rfl rfl ?_)
 (refine J.gY rfl rfl rfl ?_)
 (refine Jx.lenSl rfl rfl ?_)
 (refine J.gY rfl rfl rfl ?_)
 (refine Jx.eqlI rfl rfl rfl (J.nil ?_))
 (refine N.joinedN rfl rfl rfl)
 (refine Jx.assign rfl rfl (J.nil (N.seq (W.seq (W.region (Jx.move rfl rfl (Jx.move rfl rfl ?_)))))))
 (refine' J.guardAnd rfl rfl rfl rfl rfl rfl rfl rfl (fun _ => ?_) ?_; rotate_left)
 (refine J.gY rfl rfl rfl ?_)
 (refine Jx.move rfl rfl (J.nil ?_))
 (refine N.joinedN rfl rfl rfl)
 (refine Jx.move rfl rfl ?_)
 (refine' J.guardAnd rfl rfl rfl rfl rfl rfl rfl rfl (fun _ => ?_) ?_; rotate_left)
 (refine J.gY rfl rfl rfl ?_)
 (refine Jx.fieldAddr rfl rfl ?_)
 (refine J.gY rfl rfl rfl ?_)
 (refine Jx.load rfl 1 rfl rfl rfl ?_)
 (refine J.gY rfl rfl rfl ?_)
 (refine Jx.lenSl rfl rfl ?_)
 (refine J.gY rfl rfl rfl ?_)
 (refine Jx.eqlI rfl rfl rfl (J.nil ?_))
 (refine N.joinedN rfl rfl rfl)
 (refine Jx.move rfl rfl ?_)
 (refine' J.guardAnd rfl rfl rfl rfl rfl rfl rfl rfl (fun _ => ?_) ?_; rotate_left)
 (refine J.gY rfl rfl rfl ?_)
 (refine Jx.fieldAddr rfl rfl ?_)
 (refine J.gY rfl rfl rfl ?_)
 (refine Jx.loadAg rfl 1 rfl rfl rfl rfl ?_)
 (refine J.gY rfl rfl rfl ?_)
 (refine J.call (c) rfl (evs_args rfl) rfl ?_; rintro _ _ ⟨rfl, rfl⟩; simp only [la1, la2, la3])
 (refine J.nil ?_)
 (refine N.joinedN rfl rfl rfl)
 (refine Jx.assign rfl rfl (J.nil (N.seq (W.ret ?_))))
 (refine id ?_; rotate_left))
  refine N.retD (rs := [.tmp 2]) (L1 := []) rfl (.tmp rfl .nil) (List.nil_sublist _) ⟨congrArg Sse.bool ?_, rfl⟩
  rw [Bool.eq_iff_iff, decide_eq_true_iff, bk0_iff]
  simp only [Bool.and_eq_true, decide_eq_true_eq, Bool.not_eq_true']
  constructor
  · intro h; simp only [h, and_self]
  · intro h; simp only [h, and_self]
set_option maxHeartbeats 4000000 in
theorem vfits_ok (m : Ms) (hl : m.block.head.skips.length ≤ 1048576) : FnC Tryz.prog 65 [.agg (msC m)] [] (fun v L => v = bool (fitsM m) ∧ L = []) := by
  have c1 := vbare_ok m.cert
  have c2 := cencode_ok m.cert
  have c3 := bcheck_ok m.block hl
  have c4 := vempty_ok m.block
  have e32 : decide ((m.digest.length : Int) = 32) = decide (m.digest.length = 32) := decide_eq_decide.2 (by omega)
  generalize hE : encO fineCt encCt m.cert = E at *
  refine FnC.intro Tryz.func65 rfl Tryz.ntmps65 rfl fun Z w0 hG => ?_
  unfold fitsM
  by_cases e1 : m.kind = 1
  · rw [if_pos e1]
    cases hf : fineBk m.block <;> rw [hf] at c3
    · focus (
 (refine W.seq (W.region ?_))
 (refine J.boxAg rfl rfl ?_; intro b')
 (refine Jx.assign rfl rfl (J.nil (N.seq (W.seq (W.region (Jx.fieldAddr rfl rfl ?_))))))
 (refine Jx.load rfl 0 rfl rfl rfl ?_)
 (refine Jx.lenS rfl rfl ?_)
 (refine Jx.eqlI rfl rfl rfl (Jx.assign rfl rfl (J.nil (N.seq (W.seq (W.region (Jx.fieldAddr rfl rfl ?_)))))))
 (refine Jx.load rfl 0 rfl rfl rfl ?_)
 (refine Jx.eqlS rfl rfl rfl (Jx.assign rfl rfl (J.nil (N.seq (W.seq (W.region (Jx.fieldAddr rfl rfl ?_)))))))
 (refine Jx.loadAg rfl 0 rfl rfl rfl rfl ?_)
 (refine J.call (c2) rfl (evs_args rfl) rfl ?_; rintro _ _ ⟨rfl, rfl⟩; simp only [la1, la2, la3])
 (refine Jx.move rfl rfl (Jx.extract rfl rfl rfl ?_))
 (refine Jx.extract rfl rfl rfl ?_)
 (refine Jx.assign rfl rfl (Jx.assign rfl rfl (J.nil (N.seq (W.seq (W.seq (W.region (Jx.fieldAddr rfl rfl ?_))))))))
 (refine Jx.load rfl 0 rfl rfl rfl ?_)
 (refine J.nil (N.seq (W.block (W.seq (W.region (Jx.eqlI rfl rfl rfl (Jx.assign rfl rfl (J.nil (N.seq (W.cT rfl ?_))))))))))
 (refine W.seq (W.region (Jx.move rfl rfl (Jx.move rfl rfl ?_))))
 (refine' J.guardAnd rfl rfl rfl rfl rfl rfl rfl rfl (fun _ => ?_) ?_; rotate_left)
 (refine J.gY rfl rfl rfl ?_)
 (refine Jx.fieldAddr rfl rfl ?_)
 (refine J.gY rfl rfl rfl ?_)
 (refine Jx.loadAg rfl 0 rfl rfl rfl rfl ?_)
 (refine J.gY rfl rfl rfl ?_)
 (refine J.call (c1) rfl (evs_args rfl) rfl ?_; rintro _ _ ⟨rfl, rfl⟩; simp only [la1, la2, la3])
 (refine J.nil ?_)
 (refine N.joinedN rfl rfl rfl)
 (refine Jx.move rfl rfl ?_)
 (refine' J.guardAnd rfl rfl rfl rfl rfl rfl rfl rfl (fun _ => ?_) ?_; rotate_left)
 (refine J.gY rfl rfl rfl ?_)
 (refine Jx.fieldAddr rfl rfl ?_)
 (refine J.gY rfl rfl rfl ?_)
 (refine Jx.loadAg rfl 0 rfl rfl rfl rfl ?_)
 (refine J.gY rfl rfl rfl ?_)
 (refine J.call (c3) rfl (evs_args rfl) rfl ?_; rintro _ _ ⟨rfl, rfl⟩; simp only [la1, la2, la3])
 (refine J.gY rfl rfl rfl ?_)
 (refine Jx.eqlI rfl rfl rfl (J.nil ?_))
 (refine N.joinedN rfl rfl rfl)
 (refine Jx.move rfl rfl (J.gN rfl rfl rfl rfl ?_))
 (refine J.gN rfl rfl rfl rfl ?_)
 (refine J.gN rfl rfl rfl rfl ?_)
 (refine J.gN rfl rfl rfl rfl ?_)
 (refine J.gN rfl rfl rfl rfl ?_)
 (refine J.gN rfl rfl rfl rfl ?_)
 (refine J.gN rfl rfl rfl rfl ?_)
 (refine Jx.pF rfl rfl rfl ?_)
 (refine Jx.move rfl rfl (J.gN rfl rfl rfl rfl ?_))
 (refine J.gN rfl rfl rfl rfl ?_)
 (refine J.gN rfl rfl rfl rfl ?_)
 (refine J.gN rfl rfl rfl rfl ?_)
 (refine J.gN rfl rfl rfl rfl ?_)
 (refine J.gN rfl rfl rfl rfl ?_)
 (refine J.gN rfl rfl rfl rfl ?_)
 (refine Jx.pF rfl rfl rfl ?_)
 (refine Jx.assign rfl rfl (J.nil (N.seq (W.ret (N.noGotoRet (N.noGotoRet ?_))))))
 (refine id ?_; rotate_left))
      exact N.retD (rs := [.tmp 2]) (L1 := []) rfl (.tmp rfl .nil) (List.nil_sublist _) ⟨by simp [oneOr], rfl⟩
    · focus (
 (refine W.seq (W.region ?_))
 (refine J.boxAg rfl rfl ?_; intro b')
 (refine Jx.assign rfl rfl (J.nil (N.seq (W.seq (W.region (Jx.fieldAddr rfl rfl ?_))))))
 (refine Jx.load rfl 0 rfl rfl rfl ?_)
 (refine Jx.lenS rfl rfl ?_)
 (refine Jx.eqlI rfl rfl rfl (Jx.assign rfl rfl (J.nil (N.seq (W.seq (W.region (Jx.fieldAddr rfl rfl ?_)))))))
 (refine Jx.load rfl 0 rfl rfl rfl ?_)
 (refine Jx.eqlS rfl rfl rfl (Jx.assign rfl rfl (J.nil (N.seq (W.seq (W.region (Jx.fieldAddr rfl rfl ?_)))))))
 (refine Jx.loadAg rfl 0 rfl rfl rfl rfl ?_)
 (refine J.call (c2) rfl (evs_args rfl) rfl ?_; rintro _ _ ⟨rfl, rfl⟩; simp only [la1, la2, la3])
 (refine Jx.move rfl rfl (Jx.extract rfl rfl rfl ?_))
 (refine Jx.extract rfl rfl rfl ?_)
 (refine Jx.assign rfl rfl (Jx.assign rfl rfl (J.nil (N.seq (W.seq (W.seq (W.region (Jx.fieldAddr rfl rfl ?_))))))))
 (refine Jx.load rfl 0 rfl rfl rfl ?_)
 (refine J.nil (N.seq (W.block (W.seq (W.region (Jx.eqlI rfl rfl rfl (Jx.assign rfl rfl (J.nil (N.seq (W.cT rfl ?_))))))))))
 (refine W.seq (W.region (Jx.move rfl rfl (Jx.move rfl rfl ?_))))
 (refine' J.guardAnd rfl rfl rfl rfl rfl rfl rfl rfl (fun _ => ?_) ?_; rotate_left)
 (refine J.gY rfl rfl rfl ?_)
 (refine Jx.fieldAddr rfl rfl ?_)
 (refine J.gY rfl rfl rfl ?_)
 (refine Jx.loadAg rfl 0 rfl rfl rfl rfl ?_)
 (refine J.gY rfl rfl rfl ?_)
 (refine J.call (c1) rfl (evs_args rfl) rfl ?_; rintro _ _ ⟨rfl, rfl⟩; simp only [la1, la2, la3])
 (refine J.nil ?_)
 (refine N.joinedN rfl rfl rfl)
 (refine Jx.move rfl rfl ?_)
 (refine' J.guardAnd rfl rfl rfl rfl rfl rfl rfl rfl (fun _ => ?_) ?_; rotate_left)
 (refine J.gY rfl rfl rfl ?_)
 (refine Jx.fieldAddr rfl rfl ?_)
 (refine J.gY rfl rfl rfl ?_)
 (refine Jx.loadAg rfl 0 rfl rfl rfl rfl ?_)
 (refine J.gY rfl rfl rfl ?_)
 (refine J.call (c3) rfl (evs_args rfl) rfl ?_; rintro _ _ ⟨rfl, rfl⟩; simp only [la1, la2, la3])
 (refine J.gY rfl rfl rfl ?_)
 (refine Jx.eqlI rfl rfl rfl (J.nil ?_))
 (refine N.joinedN rfl rfl rfl)
 (refine Jx.move rfl rfl ?_)
 (refine' J.guardAnd rfl rfl rfl rfl rfl rfl rfl rfl (fun _ => ?_) ?_; rotate_left)
 (refine J.gY rfl rfl rfl ?_)
 (refine Jx.fieldAddr rfl rfl ?_)
 (refine J.gY rfl rfl rfl ?_)
 (refine Jx.load rfl 0 rfl rfl rfl ?_)
 (refine J.gY rfl rfl rfl ?_)
 (refine Jx.fieldAddr rfl rfl ?_)
 (refine J.gY rfl rfl rfl ?_)
 (refine Jx.fieldAddr rfl rfl ?_)
 (refine J.gY rfl rfl rfl ?_)
 (refine Jx.fieldAddr rfl rfl ?_)
 (refine J.gY rfl rfl rfl ?_)
 (refine Jx.load rfl 0 rfl rfl rfl ?_)
 (refine J.gY rfl rfl rfl ?_)
 (refine Jx.eqlI rfl rfl rfl (J.nil ?_))
 (refine N.joinedN rfl rfl rfl)
 (refine Jx.move rfl rfl ?_)
 (refine' J.guardAnd rfl rfl rfl rfl rfl rfl rfl rfl (fun _ => ?_) ?_; rotate_left)
 (refine J.gY rfl rfl rfl ?_)
 (refine Jx.fieldAddr rfl rfl ?_)
 (refine J.gY rfl rfl rfl ?_)
 (refine Jx.load rfl 0 rfl rfl rfl ?_)
 (refine J.gY rfl rfl rfl ?_)
 (refine Jx.fieldAddr rfl rfl ?_)
 (refine J.gY rfl rfl rfl ?_)
 (refine Jx.fieldAddr rfl rfl ?_)
 (refine J.gY rfl rfl rfl ?_)
 (refine Jx.fieldAddr rfl rfl ?_)
 (refine J.gY rfl rfl rfl ?_)
 (refine Jx.load rfl 0 rfl rfl rfl ?_)
 (refine J.gY rfl rfl rfl ?_)
 (refine Jx.eqlI rfl rfl rfl (J.nil ?_))
 (refine N.joinedN rfl rfl rfl)
 (refine Jx.assign rfl rfl (J.nil (N.seq (W.ret (N.noGotoRet (N.noGotoRet ?_))))))
 (refine id ?_; rotate_left))
      exact N.retD (rs := [.tmp 2]) (L1 := []) rfl (.tmp rfl .nil) (List.nil_sublist _) ⟨rfl, rfl⟩
  · rw [if_neg e1]
    by_cases e2 : m.kind = 2
    · rw [if_pos e2]
      focus (
 (refine W.seq (W.region ?_))
 (refine J.boxAg rfl rfl ?_; intro b')
 (refine Jx.assign rfl rfl (J.nil (N.seq (W.seq (W.region (Jx.fieldAddr rfl rfl ?_))))))
 (refine Jx.load rfl 0 rfl rfl rfl ?_)
 (refine Jx.lenS rfl rfl ?_)
 (refine Jx.eqlI rfl rfl rfl (Jx.assign rfl rfl (J.nil (N.seq (W.seq (W.region (Jx.fieldAddr rfl rfl ?_)))))))
 (refine Jx.load rfl 0 rfl rfl rfl ?_)
 (refine Jx.eqlS rfl rfl rfl (Jx.assign rfl rfl (J.nil (N.seq (W.seq (W.region (Jx.fieldAddr rfl rfl ?_)))))))
 (refine Jx.loadAg rfl 0 rfl rfl rfl rfl ?_)
 (refine J.call (c2) rfl (evs_args rfl) rfl ?_; rintro _ _ ⟨rfl, rfl⟩; simp only [la1, la2, la3])
 (refine Jx.move rfl rfl (Jx.extract rfl rfl rfl ?_))
 (refine Jx.extract rfl rfl rfl ?_)
 (refine Jx.assign rfl rfl (Jx.assign rfl rfl (J.nil (N.seq (W.seq (W.seq (W.region (Jx.fieldAddr rfl rfl ?_))))))))
 (refine Jx.load rfl 0 rfl rfl rfl ?_)
 (refine J.nil (N.seq (W.block (W.seq (W.region (Jx.eqlI rfl rfl rfl (Jx.assign rfl rfl (J.nil (N.seq (W.cF rfl ?_))))))))))
 (refine W.seq (W.region (Jx.eqlI rfl rfl rfl (Jx.assign rfl rfl (J.nil (N.seq (W.cT rfl ?_)))))))
 (refine W.seq (W.region (Jx.move rfl rfl (Jx.move rfl rfl ?_))))
 (refine' J.guardAnd rfl rfl rfl rfl rfl rfl rfl rfl (fun _ => ?_) ?_; rotate_left)
 (refine J.gY rfl rfl rfl ?_)
 (refine Jx.fieldAddr rfl rfl ?_)
 (refine J.gY rfl rfl rfl ?_)
 (refine Jx.loadAg rfl 0 rfl rfl rfl rfl ?_)
 (refine J.gY rfl rfl rfl ?_)
 (refine J.call (c1) rfl (evs_args rfl) rfl ?_; rintro _ _ ⟨rfl, rfl⟩; simp only [la1, la2, la3])
 (refine J.nil ?_)
 (refine N.joinedN rfl rfl rfl)
 (refine Jx.move rfl rfl ?_)
 (refine' J.guardAnd rfl rfl rfl rfl rfl rfl rfl rfl (fun _ => ?_) ?_; rotate_left)
 (refine J.gY rfl rfl rfl ?_)
 (refine Jx.fieldAddr rfl rfl ?_)
 (refine J.gY rfl rfl rfl ?_)
 (refine Jx.loadAg rfl 0 rfl rfl rfl rfl ?_)
 (refine J.gY rfl rfl rfl ?_)
 (refine J.call (c4) rfl (evs_args rfl) rfl ?_; rintro _ _ ⟨rfl, rfl⟩; simp only [la1, la2, la3])
 (refine J.nil ?_)
 (refine N.joinedN rfl rfl rfl)
 (refine Jx.assign rfl rfl (J.nil (N.seq (W.ret (N.noGotoRet (N.noGotoRet ?_))))))
 (refine id ?_; rotate_left))
      exact N.retD (rs := [.tmp 2]) (L1 := []) rfl (.tmp rfl .nil) (List.nil_sublist _) ⟨by rw [← e32]; rfl, rfl⟩
    · rw [if_neg e2]
      by_cases e3 : m.kind = 3
      · rw [if_pos e3]
        by_cases hd : m.digest = []
        · cases hb : bareCt m.cert with
          | true =>
            rw [hb] at c1
            focus (
 (refine W.seq (W.region ?_))
 (refine J.boxAg rfl rfl ?_; intro b')
 (refine Jx.assign rfl rfl (J.nil (N.seq (W.seq (W.region (Jx.fieldAddr rfl rfl ?_))))))
 (refine Jx.load rfl 0 rfl rfl rfl ?_)
 (refine Jx.lenS rfl rfl ?_)
 (refine Jx.eqlI rfl rfl rfl (Jx.assign rfl rfl (J.nil (N.seq (W.seq (W.region (Jx.fieldAddr rfl rfl ?_)))))))
 (refine Jx.load rfl 0 rfl rfl rfl ?_)
 (refine Jx.eqlS rfl rfl rfl (Jx.assign rfl rfl (J.nil (N.seq (W.seq (W.region (Jx.fieldAddr rfl rfl ?_)))))))
 (refine Jx.loadAg rfl 0 rfl rfl rfl rfl ?_)
 (refine J.call (c2) rfl (evs_args rfl) rfl ?_; rintro _ _ ⟨rfl, rfl⟩; simp only [la1, la2, la3])
 (refine Jx.move rfl rfl (Jx.extract rfl rfl rfl ?_))
 (refine Jx.extract rfl rfl rfl ?_)
 (refine Jx.assign rfl rfl (Jx.assign rfl rfl (J.nil (N.seq (W.seq (W.seq (W.region (Jx.fieldAddr rfl rfl ?_))))))))
 (refine Jx.load rfl 0 rfl rfl rfl ?_)
 (refine J.nil (N.seq (W.block (W.seq (W.region (Jx.eqlI rfl rfl rfl (Jx.assign rfl rfl (J.nil (N.seq (W.cF rfl ?_))))))))))
 (refine W.seq (W.region (Jx.eqlI rfl rfl rfl (Jx.assign rfl rfl (J.nil (N.seq (W.cF rfl ?_)))))))
 (refine W.seq (W.region (Jx.eqlI rfl rfl rfl (Jx.assign rfl rfl (J.nil (N.seq (W.cT rfl ?_)))))))
 (refine W.seq (W.region (Jx.move rfl rfl (Jx.move rfl rfl (J.gY rfl rfl rfl ?_)))))
 (refine Jx.fieldAddr rfl rfl ?_)
 (refine J.gY rfl rfl rfl ?_)
 (refine Jx.loadAg rfl 0 rfl rfl rfl rfl ?_)
 (refine J.gY rfl rfl rfl ?_)
 (refine J.call (c1) rfl (evs_args rfl) rfl ?_; rintro _ _ ⟨rfl, rfl⟩; simp only [la1, la2, la3])
 (refine J.gY rfl rfl rfl ?_)
 (refine Jx.move rfl rfl (J.gN rfl rfl rfl rfl ?_))
 (refine J.gN rfl rfl rfl rfl ?_)
 (refine J.gY rfl rfl rfl ?_)
 (refine Jx.pT rfl rfl rfl ?_)
 (refine Jx.pT rfl rfl rfl ?_)
 (refine Jx.move rfl rfl (J.gY rfl rfl rfl ?_))
 (refine Jx.fieldAddr rfl rfl ?_)
 (refine J.gY rfl rfl rfl ?_)
 (refine Jx.loadAg rfl 0 rfl rfl rfl rfl ?_)
 (refine J.gY rfl rfl rfl ?_)
 (refine J.call (c4) rfl (evs_args rfl) rfl ?_; rintro _ _ ⟨rfl, rfl⟩; simp only [la1, la2, la3])
 (refine Jx.pT rfl rfl rfl ?_)
 (refine Jx.assign rfl rfl (J.nil (N.seq (W.ret (N.noGotoRet (N.noGotoRet ?_))))))
 (refine id ?_; rotate_left))
            exact N.retD (rs := [.tmp 2]) (L1 := []) rfl (.tmp rfl .nil) (List.nil_sublist _) ⟨by rw [decide_eq_true hd]; rfl, rfl⟩
          | false =>
            rw [hb] at c1
            cases hf : fineCt m.cert with
            | true =>
              rw [hf] at c2
              focus (
 (refine W.seq (W.region ?_))
 (refine J.boxAg rfl rfl ?_; intro b')
 (refine Jx.assign rfl rfl (J.nil (N.seq (W.seq (W.region (Jx.fieldAddr rfl rfl ?_))))))
 (refine Jx.load rfl 0 rfl rfl rfl ?_)
 (refine Jx.lenS rfl rfl ?_)
 (refine Jx.eqlI rfl rfl rfl (Jx.assign rfl rfl (J.nil (N.seq (W.seq (W.region (Jx.fieldAddr rfl rfl ?_)))))))
 (refine Jx.load rfl 0 rfl rfl rfl ?_)
 (refine Jx.eqlS rfl rfl rfl (Jx.assign rfl rfl (J.nil (N.seq (W.seq (W.region (Jx.fieldAddr rfl rfl ?_)))))))
 (refine Jx.loadAg rfl 0 rfl rfl rfl rfl ?_)
 (refine J.call (c2) rfl (evs_args rfl) rfl ?_; rintro _ _ ⟨rfl, rfl⟩; simp only [la1, la2, la3])
 (refine Jx.move rfl rfl (Jx.extract rfl rfl rfl ?_))
 (refine Jx.extract rfl rfl rfl ?_)
 (refine Jx.assign rfl rfl (Jx.assign rfl rfl (J.nil (N.seq (W.seq (W.seq (W.region (Jx.fieldAddr rfl rfl ?_))))))))
 (refine Jx.load rfl 0 rfl rfl rfl ?_)
 (refine J.nil (N.seq (W.block (W.seq (W.region (Jx.eqlI rfl rfl rfl (Jx.assign rfl rfl (J.nil (N.seq (W.cF rfl ?_))))))))))
 (refine W.seq (W.region (Jx.eqlI rfl rfl rfl (Jx.assign rfl rfl (J.nil (N.seq (W.cF rfl ?_)))))))
 (refine W.seq (W.region (Jx.eqlI rfl rfl rfl (Jx.assign rfl rfl (J.nil (N.seq (W.cT rfl ?_)))))))
 (refine W.seq (W.region (Jx.move rfl rfl (Jx.move rfl rfl (J.gY rfl rfl rfl ?_)))))
 (refine Jx.fieldAddr rfl rfl ?_)
 (refine J.gY rfl rfl rfl ?_)
 (refine Jx.loadAg rfl 0 rfl rfl rfl rfl ?_)
 (refine J.gY rfl rfl rfl ?_)
 (refine J.call (c1) rfl (evs_args rfl) rfl ?_; rintro _ _ ⟨rfl, rfl⟩; simp only [la1, la2, la3])
 (refine J.gY rfl rfl rfl ?_)
 (refine Jx.move rfl rfl (J.gY rfl rfl rfl ?_))
 (refine Jx.move rfl rfl (J.gY rfl rfl rfl ?_))
 (refine Jx.eqlI rfl rfl rfl (J.gY rfl rfl rfl ?_))
 (refine Jx.pF rfl rfl rfl ?_)
 (refine Jx.pT rfl rfl rfl ?_)
 (refine Jx.move rfl rfl (J.gY rfl rfl rfl ?_))
 (refine Jx.fieldAddr rfl rfl ?_)
 (refine J.gY rfl rfl rfl ?_)
 (refine Jx.loadAg rfl 0 rfl rfl rfl rfl ?_)
 (refine J.gY rfl rfl rfl ?_)
 (refine J.call (c4) rfl (evs_args rfl) rfl ?_; rintro _ _ ⟨rfl, rfl⟩; simp only [la1, la2, la3])
 (refine Jx.pT rfl rfl rfl ?_)
 (refine Jx.assign rfl rfl (J.nil (N.seq (W.ret (N.noGotoRet (N.noGotoRet ?_))))))
 (refine id ?_; rotate_left))
              exact N.retD (rs := [.tmp 2]) (L1 := []) rfl (.tmp rfl .nil) (List.nil_sublist _) ⟨by rw [decide_eq_true hd]; rfl, rfl⟩
            | false =>
              rw [hf] at c2
              focus (
 (refine W.seq (W.region ?_))
 (refine J.boxAg rfl rfl ?_; intro b')
 (refine Jx.assign rfl rfl (J.nil (N.seq (W.seq (W.region (Jx.fieldAddr rfl rfl ?_))))))
 (refine Jx.load rfl 0 rfl rfl rfl ?_)
 (refine Jx.lenS rfl rfl ?_)
 (refine Jx.eqlI rfl rfl rfl (Jx.assign rfl rfl (J.nil (N.seq (W.seq (W.region (Jx.fieldAddr rfl rfl ?_)))))))
 (refine Jx.load rfl 0 rfl rfl rfl ?_)
 (refine Jx.eqlS rfl rfl rfl (Jx.assign rfl rfl (J.nil (N.seq (W.seq (W.region (Jx.fieldAddr rfl rfl ?_)))))))
 (refine Jx.loadAg rfl 0 rfl rfl rfl rfl ?_)
 (refine J.call (c2) rfl (evs_args rfl) rfl ?_; rintro _ _ ⟨rfl, rfl⟩; simp only [la1, la2, la3])
 (refine Jx.move rfl rfl (Jx.extract rfl rfl rfl ?_))
 (refine Jx.extract rfl rfl rfl ?_)
 (refine Jx.assign rfl rfl (Jx.assign rfl rfl (J.nil (N.seq (W.seq (W.seq (W.region (Jx.fieldAddr rfl rfl ?_))))))))
 (refine Jx.load rfl 0 rfl rfl rfl ?_)
 (refine J.nil (N.seq (W.block (W.seq (W.region (Jx.eqlI rfl rfl rfl (Jx.assign rfl rfl (J.nil (N.seq (W.cF rfl ?_))))))))))
 (refine W.seq (W.region (Jx.eqlI rfl rfl rfl (Jx.assign rfl rfl (J.nil (N.seq (W.cF rfl ?_)))))))
 (refine W.seq (W.region (Jx.eqlI rfl rfl rfl (Jx.assign rfl rfl (J.nil (N.seq (W.cT rfl ?_)))))))
 (refine W.seq (W.region (Jx.move rfl rfl (Jx.move rfl rfl (J.gY rfl rfl rfl ?_)))))
 (refine Jx.fieldAddr rfl rfl ?_)
 (refine J.gY rfl rfl rfl ?_)
 (refine Jx.loadAg rfl 0 rfl rfl rfl rfl ?_)
 (refine J.gY rfl rfl rfl ?_)
 (refine J.call (c1) rfl (evs_args rfl) rfl ?_; rintro _ _ ⟨rfl, rfl⟩; simp only [la1, la2, la3])
 (refine J.gY rfl rfl rfl ?_)
 (refine Jx.move rfl rfl (J.gY rfl rfl rfl ?_))
 (refine Jx.move rfl rfl (J.gY rfl rfl rfl ?_))
 (refine Jx.eqlI rfl rfl rfl (J.gY rfl rfl rfl ?_))
 (refine Jx.pF rfl rfl rfl ?_)
 (refine Jx.pT rfl rfl rfl ?_)
 (refine Jx.move rfl rfl (J.gN rfl rfl rfl rfl ?_))
 (refine J.gN rfl rfl rfl rfl ?_)
 (refine J.gN rfl rfl rfl rfl ?_)
 (refine Jx.pF rfl rfl rfl ?_)
 (refine Jx.assign rfl rfl (J.nil (N.seq (W.ret (N.noGotoRet (N.noGotoRet ?_))))))
 (refine id ?_; rotate_left))
              exact N.retD (rs := [.tmp 2]) (L1 := []) rfl (.tmp rfl .nil) (List.nil_sublist _) ⟨by rw [decide_eq_true hd]; rfl, rfl⟩
        · rw [decide_eq_false hd]
          focus (
 (refine W.seq (W.region ?_))
 (refine J.boxAg rfl rfl ?_; intro b')
 (refine Jx.assign rfl rfl (J.nil (N.seq (W.seq (W.region (Jx.fieldAddr rfl rfl ?_))))))
 (refine Jx.load rfl 0 rfl rfl rfl ?_)
 (refine Jx.lenS rfl rfl ?_)
 (refine Jx.eqlI rfl rfl rfl (Jx.assign rfl rfl (J.nil (N.seq (W.seq (W.region (Jx.fieldAddr rfl rfl ?_)))))))
 (refine Jx.load rfl 0 rfl rfl rfl ?_)
 (refine Jx.eqlS rfl rfl rfl (Jx.assign rfl rfl (J.nil (N.seq (W.seq (W.region (Jx.fieldAddr rfl rfl ?_)))))))
 (refine Jx.loadAg rfl 0 rfl rfl rfl rfl ?_)
 (refine J.call (c2) rfl (evs_args rfl) rfl ?_; rintro _ _ ⟨rfl, rfl⟩; simp only [la1, la2, la3])
 (refine Jx.move rfl rfl (Jx.extract rfl rfl rfl ?_))
 (refine Jx.extract rfl rfl rfl ?_)
 (refine Jx.assign rfl rfl (Jx.assign rfl rfl (J.nil (N.seq (W.seq (W.seq (W.region (Jx.fieldAddr rfl rfl ?_))))))))
 (refine Jx.load rfl 0 rfl rfl rfl ?_)
 (refine J.nil (N.seq (W.block (W.seq (W.region (Jx.eqlI rfl rfl rfl (Jx.assign rfl rfl (J.nil (N.seq (W.cF rfl ?_))))))))))
 (refine W.seq (W.region (Jx.eqlI rfl rfl rfl (Jx.assign rfl rfl (J.nil (N.seq (W.cF rfl ?_)))))))
 (refine W.seq (W.region (Jx.eqlI rfl rfl rfl (Jx.assign rfl rfl (J.nil (N.seq (W.cT rfl ?_)))))))
 (refine W.seq (W.region (Jx.move rfl rfl (Jx.move rfl rfl (J.gN rfl rfl rfl rfl ?_)))))
 (refine J.gN rfl rfl rfl rfl ?_)
 (refine J.gN rfl rfl rfl rfl ?_)
 (refine J.gN rfl rfl rfl rfl ?_)
 (refine J.guardSkip rfl rfl rfl rfl ?_)
 (refine J.guardSkip rfl rfl rfl rfl ?_)
 (refine J.gN rfl rfl rfl rfl ?_)
 (refine Jx.pF rfl rfl rfl ?_)
 (refine Jx.move rfl rfl (J.gN rfl rfl rfl rfl ?_))
 (refine J.gN rfl rfl rfl rfl ?_)
 (refine J.gN rfl rfl rfl rfl ?_)
 (refine Jx.pF rfl rfl rfl ?_)
 (refine Jx.assign rfl rfl (J.nil (N.seq (W.ret (N.noGotoRet (N.noGotoRet ?_))))))
 (refine id ?_; rotate_left))
          exact N.retD (rs := [.tmp 2]) (L1 := []) rfl (.tmp rfl .nil) (List.nil_sublist _) ⟨rfl, rfl⟩
      · rw [if_neg e3]
        by_cases e4 : m.kind = 4
        · rw [if_pos e4]
          focus (
 (refine W.seq (W.region ?_))
 (refine J.boxAg rfl rfl ?_; intro b')
 (refine Jx.assign rfl rfl (J.nil (N.seq (W.seq (W.region (Jx.fieldAddr rfl rfl ?_))))))
 (refine Jx.load rfl 0 rfl rfl rfl ?_)
 (refine Jx.lenS rfl rfl ?_)
 (refine Jx.eqlI rfl rfl rfl (Jx.assign rfl rfl (J.nil (N.seq (W.seq (W.region (Jx.fieldAddr rfl rfl ?_)))))))
 (refine Jx.load rfl 0 rfl rfl rfl ?_)
 (refine Jx.eqlS rfl rfl rfl (Jx.assign rfl rfl (J.nil (N.seq (W.seq (W.region (Jx.fieldAddr rfl rfl ?_)))))))
 (refine Jx.loadAg rfl 0 rfl rfl rfl rfl ?_)
 (refine J.call (c2) rfl (evs_args rfl) rfl ?_; rintro _ _ ⟨rfl, rfl⟩; simp only [la1, la2, la3])
 (refine Jx.move rfl rfl (Jx.extract rfl rfl rfl ?_))
 (refine Jx.extract rfl rfl rfl ?_)
 (refine Jx.assign rfl rfl (Jx.assign rfl rfl (J.nil (N.seq (W.seq (W.seq (W.region (Jx.fieldAddr rfl rfl ?_))))))))
 (refine Jx.load rfl 0 rfl rfl rfl ?_)
 (refine J.nil (N.seq (W.block (W.seq (W.region (Jx.eqlI rfl rfl rfl (Jx.assign rfl rfl (J.nil (N.seq (W.cF rfl ?_))))))))))
 (refine W.seq (W.region (Jx.eqlI rfl rfl rfl (Jx.assign rfl rfl (J.nil (N.seq (W.cF rfl ?_)))))))
 (refine W.seq (W.region (Jx.eqlI rfl rfl rfl (Jx.assign rfl rfl (J.nil (N.seq (W.cF rfl ?_)))))))
 (refine W.seq (W.region (Jx.eqlI rfl rfl rfl (Jx.assign rfl rfl (J.nil (N.seq (W.cT rfl ?_)))))))
 (refine W.seq (W.region (Jx.move rfl rfl (Jx.move rfl rfl ?_))))
 (refine' J.guardAnd rfl rfl rfl rfl rfl rfl rfl rfl (fun _ => ?_) ?_; rotate_left)
 (refine J.gY rfl rfl rfl ?_)
 (refine Jx.fieldAddr rfl rfl ?_)
 (refine J.gY rfl rfl rfl ?_)
 (refine Jx.loadAg rfl 0 rfl rfl rfl rfl ?_)
 (refine J.gY rfl rfl rfl ?_)
 (refine J.call (c1) rfl (evs_args rfl) rfl ?_; rintro _ _ ⟨rfl, rfl⟩; simp only [la1, la2, la3])
 (refine J.nil ?_)
 (refine N.joinedN rfl rfl rfl)
 (refine Jx.move rfl rfl ?_)
 (refine' J.guardAnd rfl rfl rfl rfl rfl rfl rfl rfl (fun _ => ?_) ?_; rotate_left)
 (refine J.gY rfl rfl rfl ?_)
 (refine Jx.fieldAddr rfl rfl ?_)
 (refine J.gY rfl rfl rfl ?_)
 (refine Jx.loadAg rfl 0 rfl rfl rfl rfl ?_)
 (refine J.gY rfl rfl rfl ?_)
 (refine J.call (c4) rfl (evs_args rfl) rfl ?_; rintro _ _ ⟨rfl, rfl⟩; simp only [la1, la2, la3])
 (refine J.nil ?_)
 (refine N.joinedN rfl rfl rfl)
 (refine Jx.move rfl rfl ?_)
 (refine' J.guardAnd rfl rfl rfl rfl rfl rfl rfl rfl (fun _ => ?_) ?_; rotate_left)
 (refine J.gY rfl rfl rfl ?_)
 (refine Jx.fieldAddr rfl rfl ?_)
 (refine J.gY rfl rfl rfl ?_)
 (refine Jx.load rfl 0 rfl rfl rfl ?_)
 (refine J.gY rfl rfl rfl ?_)
 (refine Jx.eqlI rfl rfl rfl (J.nil ?_))
 (refine N.joinedN rfl rfl rfl)
 (refine Jx.move rfl rfl ?_)
 (refine' J.guardAnd rfl rfl rfl rfl rfl rfl rfl rfl (fun _ => ?_) ?_; rotate_left)
 (refine J.gY rfl rfl rfl ?_)
 (refine Jx.fieldAddr rfl rfl ?_)
 (refine J.gY rfl rfl rfl ?_)
 (refine Jx.load rfl 0 rfl rfl rfl ?_)
 (refine J.gY rfl rfl rfl ?_)
 (refine Jx.eqlI rfl rfl rfl (J.nil ?_))
 (refine N.joinedN rfl rfl rfl)
 (refine Jx.assign rfl rfl (J.nil (N.seq (W.ret (N.noGotoRet (N.noGotoRet ?_))))))
 (refine id ?_; rotate_left))
          exact N.retD (rs := [.tmp 2]) (L1 := []) rfl (.tmp rfl .nil) (List.nil_sublist _) ⟨by rw [← e32]; rfl, rfl⟩
        · rw [if_neg e4]
          focus (
 (refine W.seq (W.region ?_))
 (refine J.boxAg rfl rfl ?_; intro b')
 (refine Jx.assign rfl rfl (J.nil (N.seq (W.seq (W.region (Jx.fieldAddr rfl rfl ?_))))))
 (refine Jx.load rfl 0 rfl rfl rfl ?_)
 (refine Jx.lenS rfl rfl ?_)
 (refine Jx.eqlI rfl rfl rfl (Jx.assign rfl rfl (J.nil (N.seq (W.seq (W.region (Jx.fieldAddr rfl rfl ?_)))))))
 (refine Jx.load rfl 0 rfl rfl rfl ?_)
 (refine Jx.eqlS rfl rfl rfl (Jx.assign rfl rfl (J.nil (N.seq (W.seq (W.region (Jx.fieldAddr rfl rfl ?_)))))))
 (refine Jx.loadAg rfl 0 rfl rfl rfl rfl ?_)
 (refine J.call (c2) rfl (evs_args rfl) rfl ?_; rintro _ _ ⟨rfl, rfl⟩; simp only [la1, la2, la3])
 (refine Jx.move rfl rfl (Jx.extract rfl rfl rfl ?_))
 (refine Jx.extract rfl rfl rfl ?_)
 (refine Jx.assign rfl rfl (Jx.assign rfl rfl (J.nil (N.seq (W.seq (W.seq (W.region (Jx.fieldAddr rfl rfl ?_))))))))
 (refine Jx.load rfl 0 rfl rfl rfl ?_)
 (refine J.nil (N.seq (W.block (W.seq (W.region (Jx.eqlI rfl rfl rfl (Jx.assign rfl rfl (J.nil (N.seq (W.cF rfl ?_))))))))))
 (refine W.seq (W.region (Jx.eqlI rfl rfl rfl (Jx.assign rfl rfl (J.nil (N.seq (W.cF rfl ?_)))))))
 (refine W.seq (W.region (Jx.eqlI rfl rfl rfl (Jx.assign rfl rfl (J.nil (N.seq (W.cF rfl ?_)))))))
 (refine W.seq (W.region (Jx.eqlI rfl rfl rfl (Jx.assign rfl rfl (J.nil (N.seq (W.cF rfl ?_)))))))
 (refine W.skip (N.seq (W.seq (W.region (Jx.assign rfl rfl (J.nil (N.seq (W.ret ?_))))))))
 (refine id ?_; rotate_left))
          exact N.retD (rs := [.tmp 2]) (L1 := []) rfl (.tmp rfl .nil) (List.nil_sublist _) ⟨rfl, rfl⟩
set_option maxHeartbeats 4000000 in
theorem vcheck_ok (m : Ms) (hl : m.block.head.skips.length ≤ 1048576) : FnC Tryz.prog 23 [.agg (msC m)] [] (fun v L => v = int (codeB (fineMs m) 220) ∧ L = []) := by
  have c := vfits_ok m hl
  have hn : nameB m.who = (decide (m.who ≠ []) && decide ((m.who.length : Int) ≤ 6)) := rfl
  have hf : fineMs m = ((nameB m.who && numsM m) && fitsM m) := rfl
  have hz := codeB_zero (fineMs m) 220 (by decide)
  refine FnC.intro Tryz.func23 rfl Tryz.ntmps23 rfl fun Z w0 hG => ?_
  focus (
 (refine W.seq (W.region ?_))
 (refine J.boxAg rfl rfl ?_; intro b')
 (refine Jx.assign rfl rfl (J.nil (N.seq (W.seq (W.region (Jx.fieldAddr rfl rfl ?_))))))
 (refine Jx.load rfl 0 rfl rfl rfl ?_)
 (refine Jx.neqS rfl rfl rfl (Jx.move rfl rfl ?_))
 (refine' J.guardAnd rfl rfl rfl rfl rfl rfl rfl rfl (fun _ => ?_) ?_; rotate_left)
 (refine J.gY rfl rfl rfl ?_)
 (refine Jx.fieldAddr rfl rfl ?_)
 (refine J.gY rfl rfl rfl ?_)
 (refine Jx.load rfl 0 rfl rfl rfl ?_)
 (refine J.gY rfl rfl rfl ?_)
 (refine Jx.lenS rfl rfl ?_)
 (refine J.gY rfl rfl rfl ?_)
 (refine Jx.leqI rfl rfl rfl (J.nil ?_))
 (refine N.joinedN rfl rfl rfl)
 (refine Jx.assign rfl rfl (J.nil (N.seq (W.seq (W.region (Jx.fieldAddr rfl rfl ?_))))))
 (refine Jx.load rfl 0 rfl rfl rfl ?_)
 (refine Jx.geqI rfl rfl rfl (Jx.move rfl rfl ?_))
 (refine' J.guardAnd rfl rfl rfl rfl rfl rfl rfl rfl (fun _ => ?_) ?_; rotate_left)
 (refine J.gY rfl rfl rfl ?_)
 (refine Jx.fieldAddr rfl rfl ?_)
 (refine J.gY rfl rfl rfl ?_)
 (refine Jx.load rfl 0 rfl rfl rfl ?_)
 (refine J.gY rfl rfl rfl ?_)
 (refine Jx.leqI rfl rfl rfl (J.nil ?_))
 (refine N.joinedN rfl rfl rfl)
 (refine Jx.move rfl rfl ?_)
 (refine' J.guardAnd rfl rfl rfl rfl rfl rfl rfl rfl (fun _ => ?_) ?_; rotate_left)
 (refine J.gY rfl rfl rfl ?_)
 (refine Jx.fieldAddr rfl rfl ?_)
 (refine J.gY rfl rfl rfl ?_)
 (refine Jx.load rfl 0 rfl rfl rfl ?_)
 (refine J.gY rfl rfl rfl ?_)
 (refine Jx.geqI rfl rfl rfl (J.nil ?_))
 (refine N.joinedN rfl rfl rfl)
 (refine Jx.move rfl rfl ?_)
 (refine' J.guardAnd rfl rfl rfl rfl rfl rfl rfl rfl (fun _ => ?_) ?_; rotate_left)
 (refine J.gY rfl rfl rfl ?_)
 (refine Jx.fieldAddr rfl rfl ?_)
 (refine J.gY rfl rfl rfl ?_)
 (refine Jx.load rfl 0 rfl rfl rfl ?_)
 (refine J.gY rfl rfl rfl ?_)
 (refine Jx.leqI rfl rfl rfl (J.nil ?_))
 (refine N.joinedN rfl rfl rfl)
 (refine Jx.assign rfl rfl (J.nil (N.seq (W.seq (W.seq (W.region (Jx.move rfl rfl (Jx.not rfl rfl (Jx.move rfl rfl ?_)))))))))
 (refine' J.guardOr rfl rfl rfl rfl rfl rfl rfl rfl (fun _ => ?_) ?_; rotate_left)
 (refine J.gY rfl rfl rfl ?_)
 (refine Jx.move rfl rfl (J.gY rfl rfl rfl ?_))
 (refine Jx.not rfl rfl (J.nil ?_))
 (refine N.joinedN rfl rfl rfl)
 (refine Jx.move rfl rfl ?_)
 (refine' J.guardOr rfl rfl rfl rfl rfl rfl rfl rfl (fun _ => ?_) ?_; rotate_left)
 (refine J.gY rfl rfl rfl ?_)
 (refine Jx.loadAll rfl 0 rfl rfl rfl ?_)
 (refine J.gY rfl rfl rfl ?_)
 (refine J.call (c) rfl (evs_args rfl) rfl ?_; rintro _ _ ⟨rfl, rfl⟩; simp only [la1, la2, la3])
 (refine J.gY rfl rfl rfl ?_)
 (refine Jx.not rfl rfl (J.nil ?_))
 (refine N.joinedN rfl rfl rfl)
 (refine J.nil (N.seq ?_))
 (refine id ?_; rotate_left))
  refine W.cond rfl (fun hb => ?_) (fun hb => ?_)
  · have : fineMs m = false := by
      rw [hf, hn]
      simp only [Bool.or_eq_true, Bool.not_eq_true'] at hb
      rcases hb with (h | h) | h
      · rw [h]; rfl
      · have : numsM m = false := h
        rw [this, Bool.and_false]; rfl
      · rw [h, Bool.and_false]
    rw [this]
    focus (
 (refine W.seq (W.region (Jx.assign rfl rfl (J.nil (N.seq (W.ret (N.noGotoRet ?_)))))))
 (refine id ?_; rotate_left))
    exact N.retD (rs := [.tmp 2]) (L1 := []) rfl (.tmp rfl .nil) (List.nil_sublist _) ⟨rfl, rfl⟩
  · have : fineMs m = true := by
      rw [hf, hn]
      simp only [Bool.or_eq_false_iff, Bool.not_eq_false'] at hb
      obtain ⟨⟨h1, h2⟩, h3⟩ := hb
      have : numsM m = true := h2
      rw [h1, this, h3]; rfl
    rw [this]
    focus (
 (refine W.skip (N.seq (W.seq (W.region (Jx.assign rfl rfl (J.nil (N.seq (W.ret ?_))))))))
 (refine id ?_; rotate_left))
    exact N.retD (rs := [.tmp 2]) (L1 := []) rfl (.tmp rfl .nil) (List.nil_sublist _) ⟨rfl, rfl⟩
set_option maxHeartbeats 4000000 in
theorem sameMs_ok (x y : Ms) (h1 : x.block.head.skips.length ≤ 1048576) (h2 : x.block.txs.length ≤ 1048576) (h3 : ∀ t ∈ x.block.txs, t.members.length ≤ 1048576) (h4 : x.block.just.signers.length ≤ 1048576) (h5 : x.cert.signers.length ≤ 1048576) : FnC Tryz.prog 22 [.agg (msC x), .agg (msC y)] [] (fun v L => v = bool (decide (x = y)) ∧ L = []) := by
  have c1 := sameB_ok x.block y.block h1 h2 h3 h4
  have c2 := sameC_ok x.cert y.cert h5
  refine FnC.intro Tryz.func22 rfl Tryz.ntmps22 rfl fun Z w0 hG => ?_
  focus (
 (refine W.seq (W.region ?_))
 (refine J.boxAg rfl rfl ?_; intro b')
 (refine J.boxAg rfl rfl ?_; intro b')
 (refine Jx.assign rfl rfl (J.nil (N.seq (W.seq (W.region (Jx.fieldAddr rfl rfl ?_))))))
 (refine Jx.load rfl 1 rfl rfl rfl ?_)
 (refine Jx.fieldAddr rfl rfl ?_)
 (refine Jx.load rfl 0 rfl rfl rfl ?_)
 (refine Jx.eqlI rfl rfl rfl (Jx.move rfl rfl ?_))
 (refine' J.guardAnd rfl rfl rfl rfl rfl rfl rfl rfl (fun _ => ?_) ?_; rotate_left)
 (refine J.gY rfl rfl rfl ?_)
 (refine Jx.fieldAddr rfl rfl ?_)
 (refine J.gY rfl rfl rfl ?_)
 (refine Jx.load rfl 1 rfl rfl rfl ?_)
 (refine J.gY rfl rfl rfl ?_)
 (refine Jx.fieldAddr rfl rfl ?_)
 (refine J.gY rfl rfl rfl ?_)
 (refine Jx.load rfl 0 rfl rfl rfl ?_)
 (refine J.gY rfl rfl rfl ?_)
 (refine Jx.eqlS rfl rfl rfl (J.nil ?_))
 (refine N.joinedN rfl rfl rfl)
 (refine Jx.move rfl rfl ?_)
 (refine' J.guardAnd rfl rfl rfl rfl rfl rfl rfl rfl (fun _ => ?_) ?_; rotate_left)
 (refine J.gY rfl rfl rfl ?_)
 (refine Jx.fieldAddr rfl rfl ?_)
 (refine J.gY rfl rfl rfl ?_)
 (refine Jx.load rfl 1 rfl rfl rfl ?_)
 (refine J.gY rfl rfl rfl ?_)
 (refine Jx.fieldAddr rfl rfl ?_)
 (refine J.gY rfl rfl rfl ?_)
 (refine Jx.load rfl 0 rfl rfl rfl ?_)
 (refine J.gY rfl rfl rfl ?_)
 (refine Jx.eqlI rfl rfl rfl (J.nil ?_))
 (refine N.joinedN rfl rfl rfl)
 (refine Jx.move rfl rfl ?_)
 (refine' J.guardAnd rfl rfl rfl rfl rfl rfl rfl rfl (fun _ => ?_) ?_; rotate_left)
 (refine J.gY rfl rfl rfl ?_)
 (refine Jx.fieldAddr rfl rfl ?_)
 (refine J.gY rfl rfl rfl ?_)
 (refine Jx.load rfl 1 rfl rfl rfl ?_)
 (refine J.gY rfl rfl rfl ?_)
 (refine Jx.fieldAddr rfl rfl ?_)
 (refine J.gY rfl rfl rfl ?_)
 (refine Jx.load rfl 0 rfl rfl rfl ?_)
 (refine J.gY rfl rfl rfl ?_)
 (refine Jx.eqlI rfl rfl rfl (J.nil ?_))
 (refine N.joinedN rfl rfl rfl)
 (refine Jx.move rfl rfl ?_)
 (refine' J.guardAnd rfl rfl rfl rfl rfl rfl rfl rfl (fun _ => ?_) ?_; rotate_left)
 (refine J.gY rfl rfl rfl ?_)
 (refine Jx.fieldAddr rfl rfl ?_)
 (refine J.gY rfl rfl rfl ?_)
 (refine Jx.load rfl 1 rfl rfl rfl ?_)
 (refine J.gY rfl rfl rfl ?_)
 (refine Jx.fieldAddr rfl rfl ?_)
 (refine J.gY rfl rfl rfl ?_)
 (refine Jx.load rfl 0 rfl rfl rfl ?_)
 (refine J.gY rfl rfl rfl ?_)
 (refine Jx.eqlS rfl rfl rfl (J.nil ?_))
 (refine N.joinedN rfl rfl rfl)
 (refine Jx.move rfl rfl ?_)
 (refine' J.guardAnd rfl rfl rfl rfl rfl rfl rfl rfl (fun _ => ?_) ?_; rotate_left)
 (refine J.gY rfl rfl rfl ?_)
 (refine Jx.fieldAddr rfl rfl ?_)
 (refine J.gY rfl rfl rfl ?_)
 (refine Jx.loadAg rfl 1 rfl rfl rfl rfl ?_)
 (refine J.gY rfl rfl rfl ?_)
 (refine Jx.fieldAddr rfl rfl ?_)
 (refine J.gY rfl rfl rfl ?_)
 (refine Jx.loadAg rfl 0 rfl rfl rfl rfl ?_)
 (refine J.gY rfl rfl rfl ?_)
 (refine J.call (c1) rfl (evs_args rfl) rfl ?_; rintro _ _ ⟨rfl, rfl⟩; simp only [la1, la2, la3])
 (refine J.nil ?_)
 (refine N.joinedN rfl rfl rfl)
 (refine Jx.move rfl rfl ?_)
 (refine' J.guardAnd rfl rfl rfl rfl rfl rfl rfl rfl (fun _ => ?_) ?_; rotate_left)
 (refine J.gY rfl rfl rfl ?_)
 (refine Jx.fieldAddr rfl rfl ?_)
 (refine J.gY rfl rfl rfl ?_)
 (refine Jx.loadAg rfl 1 rfl rfl rfl rfl ?_)
 (refine J.gY rfl rfl rfl ?_)
 (refine Jx.fieldAddr rfl rfl ?_)
 (refine J.gY rfl rfl rfl ?_)
 (refine Jx.loadAg rfl 0 rfl rfl rfl rfl ?_)
 (refine J.gY rfl rfl rfl ?_)
 (refine J.call (c2) rfl (evs_args rfl) rfl ?_; rintro _ _ ⟨rfl, rfl⟩; simp only [la1, la2, la3])
 (refine J.nil ?_)
 (refine N.joinedN rfl rfl rfl)
 (refine Jx.assign rfl rfl (J.nil (N.seq (W.ret ?_))))
 (refine id ?_; rotate_left))
  refine N.retD (rs := [.tmp 4]) (L1 := []) rfl (.tmp rfl .nil) (List.nil_sublist _) ⟨congrArg Sse.bool ?_, rfl⟩
  rw [Bool.eq_iff_iff]
  simp only [Bool.and_eq_true, decide_eq_true_eq]
  exact ⟨fun h => Ms.ext' h.1.1.1.1.1.1 h.1.1.1.1.1.2 h.1.1.1.1.2 h.1.1.1.2 h.1.1.2 h.1.2 h.2, fun h => by subst h; simp⟩
end Go.Proofs.YtlfdhkahiaammaaGreatDoor
namespace Go.Proofs.YtlfdhkahiaammaaGreatDoor
open Go Go.Sse
set_option linter.unusedVariables false
set_option linter.unusedSimpArgs false
set_option maxRecDepth 10000
theorem vtail_ok (a b : Nat) (s t : List UInt8) (hl : s.length + t.length ≤ 1099511627776) : FnD Tryz.prog 55 [ptr a, ptr b] [.obj b 9 [str t], .obj a 9 [str s]] (fun v L => L = [.obj b 9 [str t], .obj a 9 [str (s ++ t)]]) := by
  refine FnD.intro Tryz.func55 rfl Tryz.ntmps55 rfl fun Z w0 hG => ?_
  focus (
 (refine W.region (Jx.load rfl 1 rfl rfl rfl ?_))
 (refine Jx.load rfl 0 rfl rfl rfl ?_)
 (refine Jx.cat rfl rfl (by first | omega | (simp only [List.length_append, List.length_cons, List.length_nil]; omega)) rfl ?_)
 (refine J.st 1 rfl rfl rfl rfl rfl rfl ?_)
 (refine J.nil ?_)
 (refine id ?_; rotate_left))
  exact N.fin (rs := []) rfl .nil rfl
set_option maxHeartbeats 8000000 in
theorem vencode_ok (m : Ms) (hl : m.block.head.skips.length ≤ 1048576) : FnC Tryz.prog 18 [.agg (msC m)] [] (fun v L => v = .tup [str (encO fineMs encMs m), int (codeB (fineMs m) 220)] ∧ L = []) := by
  have ck := vcheck_ok m hl
  refine FnC.introD Tryz.func18 rfl Tryz.ntmps18 rfl fun Z w0 hG => ?_
  unfold encO
  cases hf : fineMs m with
  | false =>
    rw [hf] at ck
    focus (
 (refine W.seq (W.region ?_))
 (refine J.boxAg rfl rfl ?_; intro b')
 (refine J.alloc (by simp only [List.map_cons, List.map_nil]; rfl) rfl rfl ?_; intro b')
 (refine Jx.assign rfl rfl (J.nil (N.seq (W.seq (W.seq (W.region (Jx.loadAll rfl 1 rfl rfl rfl ?_)))))))
 (refine J.call (ck) rfl (evs_args rfl) rfl ?_; rintro _ _ ⟨rfl, rfl⟩; simp only [la1, la2, la3])
 (refine Jx.assign rfl rfl (J.nil (N.seq (W.seq (W.region (Jx.move rfl rfl (Jx.neqI rfl rfl rfl (J.nil (N.seq (W.cT rfl ?_))))))))))
 (refine W.seq (W.region (Jx.move rfl rfl (J.st 0 rfl rfl rfl rfl rfl rfl ?_))))
 (refine Jx.assign rfl rfl (J.nil (N.seq (W.ret (N.noGotoRet ?_)))))
 (refine id ?_; rotate_left))
    exact N.leave0 (N.retD (rs := [.cell 2 9, .tmp 3]) (L1 := []) rfl (.cell1 rfl 0 rfl inferInstance (.tmp rfl .nil)) (List.nil_sublist _) ⟨rfl, rfl⟩)
  | true =>
    rw [hf] at ck
    have f := fineMs_spec hf
    have f1 := f.who; have f2 := f.epoch; have f3 := f.view; have fk := f.kind
    have c1 := text_ok m.who (by omega)
    have c2 := Num_ok m.epoch (by omega)
    have c3 := Num_ok m.view (by omega)
    rw [numR_pos f2.1] at c2
    rw [numR_pos f3.1] at c3
    have k1 := textB_len f1.2 (by omega)
    have k2 := numB9 (n := m.epoch) (by omega)
    have k3 := numB9 (n := m.view) (by omega)
    have hkn : m.kind = ((m.kind.toNat : Nat) : Int) := by omega
    have he : encMs m = [UInt8.ofNat m.kind.toNat] ++ textB m.who ++ numB m.epoch.toNat ++ numB m.view.toNat ++ tailM m := rfl
    have ht := tailM_len f
    rw [if_pos rfl, he]
    generalize textB m.who = tw at *
    generalize numB m.epoch.toNat = te at *
    generalize numB m.view.toNat = tv at *
    have hend : ∀ (s t : List UInt8) (a b : Nat), s.length + t.length ≤ 1099511627776 → FnD Tryz.prog 55 ([].map SV.val ++ [Value.pointer (some ⟨a, 0, none⟩), .pointer (some ⟨b, 0, none⟩)].map SV.val) [.obj b 9 [str t], .obj a 9 [str s]] (fun v L => L = [.obj b 9 [str t], .obj a 9 [str (s ++ t)]]) := fun s t a b h => vtail_ok a b s t h
    by_cases e1 : m.kind = 1
    · have g := f.k1 e1
      have cb := bencode_ok m.block hl
      rw [encO, g.2.2, if_pos rfl] at cb
      have lb := encBk_len ((fineBk_iff _).1 g.2.2)
      have c4 := text_ok (encBk m.block) (by omega)
      have htl : tailM m = textB (encBk m.block) := by rw [tailM, if_pos e1]
      rw [htl] at ht ⊢
      clear he htl
      generalize textB (encBk m.block) = tl at *
      generalize encBk m.block = eb at *
      focus (
 (refine W.seq (W.region ?_))
 (refine J.boxAg rfl rfl ?_; intro b')
 (refine J.alloc (by simp only [List.map_cons, List.map_nil]; rfl) rfl rfl ?_; intro b')
 (refine Jx.assign rfl rfl (J.nil (N.seq (W.seq (W.seq (W.region (Jx.loadAll rfl 1 rfl rfl rfl ?_)))))))
 (refine J.call (ck) rfl (evs_args rfl) rfl ?_; rintro _ _ ⟨rfl, rfl⟩; simp only [la1, la2, la3])
 (refine Jx.assign rfl rfl (J.nil (N.seq (W.seq (W.region (Jx.move rfl rfl (Jx.neqI rfl rfl rfl (J.nil (N.seq (W.cF rfl ?_))))))))))
 (refine W.skip (N.seq (W.seq (W.region ?_))))
 (refine J.alloc (by simp only [List.map_cons, List.map_nil]; rfl) rfl rfl ?_; intro b')
 (refine J.st 0 rfl rfl rfl rfl rfl rfl ?_)
 (refine J.nil (N.seq (W.seq (W.region ?_))))
 (refine J.pv (Pv.makeFunc (us := []) (vs := [.pointer (some ⟨_, 0, none⟩), .pointer (some ⟨_, 0, none⟩)]) (evs_args rfl) (evs_args rfl) (fun _ => rfl)) rfl ?_)
 (refine J.defer rfl ?_)
 (refine J.nil (N.seq (W.seq (W.seq (W.region (Jx.fieldAddr rfl rfl ?_))))))
 (refine Jx.load rfl 2 rfl rfl rfl ?_)
 (refine J.nil (N.seq (W.block (W.seq (W.region (Jx.eqlI rfl rfl rfl (Jx.assign rfl rfl (J.nil (N.seq (W.cT rfl ?_))))))))))
 (refine W.seq (W.region (Jx.fieldAddr rfl rfl ?_)))
 (refine Jx.loadAg rfl 2 rfl rfl rfl rfl ?_)
 (refine J.call (cb) rfl (evs_args rfl) rfl ?_; rintro _ _ ⟨rfl, rfl⟩; simp only [la1, la2, la3])
 (refine Jx.move rfl rfl (Jx.extract rfl rfl rfl ?_))
 (refine Jx.extract rfl rfl rfl ?_)
 (refine Jx.assign rfl rfl (Jx.assign rfl rfl (J.nil (N.seq (W.region (Jx.move rfl rfl ?_))))))
 (refine J.call (c4) rfl (evs_args rfl) rfl ?_; rintro _ _ ⟨rfl, rfl⟩; simp only [la1, la2, la3])
 (refine J.st 0 rfl rfl rfl rfl rfl rfl ?_)
 (refine J.nil (N.seq (W.seq (W.region (Jx.fieldAddr rfl rfl ?_)))))
 (refine Jx.load rfl 2 rfl rfl rfl ?_)
 (refine J.call (c2) rfl (evs_args rfl) rfl ?_; rintro _ _ ⟨rfl, rfl⟩; simp only [la1, la2, la3])
 (refine Jx.move rfl rfl (Jx.extract rfl rfl rfl ?_))
 (refine Jx.extract rfl rfl rfl ?_)
 (refine Jx.assign rfl rfl (Jx.assign rfl rfl (J.nil (N.seq (W.seq (W.region (Jx.fieldAddr rfl rfl ?_)))))))
 (refine Jx.load rfl 2 rfl rfl rfl ?_)
 (refine J.call (c3) rfl (evs_args rfl) rfl ?_; rintro _ _ ⟨rfl, rfl⟩; simp only [la1, la2, la3])
 (refine Jx.move rfl rfl (Jx.extract rfl rfl rfl ?_))
 (refine Jx.extract rfl rfl rfl ?_)
 (refine Jx.assign rfl rfl (Jx.assign rfl rfl (J.nil (N.seq (W.seq ?_)))))
 (refine W.draw follows ?_)
 (refine JD.upto (n := 13) rfl (by decide +kernel) (by decide +kernel) rfl rfl ?_)
 (refine Cx.fieldAddr rfl rfl ?_)
 (refine Cx.load rfl 2 rfl rfl rfl ?_)
 (refine Cx.numByte m.kind.toNat rfl rfl hkn rfl ?_)
 (refine SegC.q (Qs.buildBytes [UInt8.ofNat m.kind.toNat] rfl rfl rfl (by decide) (by decide)) rfl ?_)
 (refine Cx.bytesStr rfl rfl ?_)
 (refine Cx.fieldAddr rfl rfl ?_)
 (refine Cx.load rfl 2 rfl rfl rfl ?_)
 (refine SegC.q (Qs.call (Lc := []) (c1) (fun s L' h => h) (List.Perm.refl _) (evs_args rfl)) rfl ?_)
 (refine Cx.cat rfl rfl (by first | omega | (simp only [List.length_append, List.length_cons, List.length_nil]; omega)) rfl ?_)
 (refine Cx.move rfl rfl ?_)
 (refine Cx.cat rfl rfl (by first | omega | (simp only [List.length_append, List.length_cons, List.length_nil]; omega)) rfl ?_)
 (refine Cx.move rfl rfl ?_)
 (refine Cx.cat rfl rfl (by first | omega | (simp only [List.length_append, List.length_cons, List.length_nil]; omega)) rfl ?_)
 (refine SegC.nil ?_)
 (refine J.st 1 rfl rfl rfl rfl rfl rfl ?_)
 (refine Jx.assign rfl rfl (J.nil (N.seq (W.ret ?_))))
 (refine id ?_; rotate_left))
      refine N.leave1 (Lc := [_, _]) (hend _ _ _ _ (by simp; omega)) rfl ?_
      rintro _ _ rfl
      exact N.retD (rs := [.cell 2 9, .tmp 3]) (L1 := []) rfl (.cell1 rfl 1 rfl inferInstance (.tmp rfl .nil)) (List.nil_sublist _) ⟨by simp [oneOr], rfl⟩
    · by_cases e3 : m.kind = 3
      · have g := f.k3 e3
        have cv := vbare_ok m.cert
        have cc := cencode_ok m.cert
        have htl : tailM m = justE m.cert := by rw [tailM, if_neg e1, if_pos e3]
        have kf1 := flag_len true; have kf0 := flag_len false
        rw [htl]
        clear he htl
        cases hb : bareCt m.cert with
        | true =>
          rw [hb] at cv
          rw [encO, bare_fine hb] at cc
          have hj : justE m.cert = flagB false := by rw [justE, if_pos hb]
          rw [hj]
          clear hj
          have c5 := flag_ok false
          generalize flagB false = fb at *
          focus (
 (refine W.seq (W.region ?_))
 (refine J.boxAg rfl rfl ?_; intro b')
 (refine J.alloc (by simp only [List.map_cons, List.map_nil]; rfl) rfl rfl ?_; intro b')
 (refine Jx.assign rfl rfl (J.nil (N.seq (W.seq (W.seq (W.region (Jx.loadAll rfl 1 rfl rfl rfl ?_)))))))
 (refine J.call (ck) rfl (evs_args rfl) rfl ?_; rintro _ _ ⟨rfl, rfl⟩; simp only [la1, la2, la3])
 (refine Jx.assign rfl rfl (J.nil (N.seq (W.seq (W.region (Jx.move rfl rfl (Jx.neqI rfl rfl rfl (J.nil (N.seq (W.cF rfl ?_))))))))))
 (refine W.skip (N.seq (W.seq (W.region ?_))))
 (refine J.alloc (by simp only [List.map_cons, List.map_nil]; rfl) rfl rfl ?_; intro b')
 (refine J.st 0 rfl rfl rfl rfl rfl rfl ?_)
 (refine J.nil (N.seq (W.seq (W.region ?_))))
 (refine J.pv (Pv.makeFunc (us := []) (vs := [.pointer (some ⟨_, 0, none⟩), .pointer (some ⟨_, 0, none⟩)]) (evs_args rfl) (evs_args rfl) (fun _ => rfl)) rfl ?_)
 (refine J.defer rfl ?_)
 (refine J.nil (N.seq (W.seq (W.seq (W.region (Jx.fieldAddr rfl rfl ?_))))))
 (refine Jx.load rfl 2 rfl rfl rfl ?_)
 (refine J.nil (N.seq (W.block (W.seq (W.region (Jx.eqlI rfl rfl rfl (Jx.assign rfl rfl (J.nil (N.seq (W.cF rfl ?_))))))))))
 (refine W.seq (W.region (Jx.eqlI rfl rfl rfl (Jx.assign rfl rfl (J.nil (N.seq (W.cT rfl ?_)))))))
 (refine W.seq (W.region (Jx.fieldAddr rfl rfl ?_)))
 (refine Jx.loadAg rfl 2 rfl rfl rfl rfl ?_)
 (refine J.call (cv) rfl (evs_args rfl) rfl ?_; rintro _ _ ⟨rfl, rfl⟩; simp only [la1, la2, la3])
 (refine Jx.not rfl rfl ?_)
 (refine J.call (c5) rfl (evs_args rfl) rfl ?_; rintro _ _ ⟨rfl, rfl⟩; simp only [la1, la2, la3])
 (refine J.st 0 rfl rfl rfl rfl rfl rfl ?_)
 (refine J.nil (N.seq (W.seq (W.region (Jx.fieldAddr rfl rfl ?_)))))
 (refine Jx.loadAg rfl 2 rfl rfl rfl rfl ?_)
 (refine J.call (cc) rfl (evs_args rfl) rfl ?_; rintro _ _ ⟨rfl, rfl⟩; simp only [la1, la2, la3])
 (refine Jx.move rfl rfl (Jx.extract rfl rfl rfl ?_))
 (refine Jx.extract rfl rfl rfl ?_)
 (refine Jx.assign rfl rfl (Jx.assign rfl rfl (J.nil (N.seq (W.seq (W.region (Jx.move rfl rfl (Jx.eqlI rfl rfl rfl (J.nil (N.seq (W.cF rfl ?_)))))))))))
 (refine W.skip (N.seq (W.seq (W.region (Jx.fieldAddr rfl rfl ?_)))))
 (refine Jx.load rfl 2 rfl rfl rfl ?_)
 (refine J.call (c2) rfl (evs_args rfl) rfl ?_; rintro _ _ ⟨rfl, rfl⟩; simp only [la1, la2, la3])
 (refine Jx.move rfl rfl (Jx.extract rfl rfl rfl ?_))
 (refine Jx.extract rfl rfl rfl ?_)
 (refine Jx.assign rfl rfl (Jx.assign rfl rfl (J.nil (N.seq (W.seq (W.region (Jx.fieldAddr rfl rfl ?_)))))))
 (refine Jx.load rfl 2 rfl rfl rfl ?_)
 (refine J.call (c3) rfl (evs_args rfl) rfl ?_; rintro _ _ ⟨rfl, rfl⟩; simp only [la1, la2, la3])
 (refine Jx.move rfl rfl (Jx.extract rfl rfl rfl ?_))
 (refine Jx.extract rfl rfl rfl ?_)
 (refine Jx.assign rfl rfl (Jx.assign rfl rfl (J.nil (N.seq (W.seq ?_)))))
 (refine W.draw follows ?_)
 (refine JD.upto (n := 13) rfl (by decide +kernel) (by decide +kernel) rfl rfl ?_)
 (refine Cx.fieldAddr rfl rfl ?_)
 (refine Cx.load rfl 2 rfl rfl rfl ?_)
 (refine Cx.numByte m.kind.toNat rfl rfl hkn rfl ?_)
 (refine SegC.q (Qs.buildBytes [UInt8.ofNat m.kind.toNat] rfl rfl rfl (by decide) (by decide)) rfl ?_)
 (refine Cx.bytesStr rfl rfl ?_)
 (refine Cx.fieldAddr rfl rfl ?_)
 (refine Cx.load rfl 2 rfl rfl rfl ?_)
 (refine SegC.q (Qs.call (Lc := []) (c1) (fun s L' h => h) (List.Perm.refl _) (evs_args rfl)) rfl ?_)
 (refine Cx.cat rfl rfl (by first | omega | (simp only [List.length_append, List.length_cons, List.length_nil]; omega)) rfl ?_)
 (refine Cx.move rfl rfl ?_)
 (refine Cx.cat rfl rfl (by first | omega | (simp only [List.length_append, List.length_cons, List.length_nil]; omega)) rfl ?_)
 (refine Cx.move rfl rfl ?_)
 (refine Cx.cat rfl rfl (by first | omega | (simp only [List.length_append, List.length_cons, List.length_nil]; omega)) rfl ?_)
 (refine SegC.nil ?_)
 (refine J.st 1 rfl rfl rfl rfl rfl rfl ?_)
 (refine Jx.assign rfl rfl (J.nil (N.seq (W.ret ?_))))
 (refine id ?_; rotate_left))
          refine N.leave1 (Lc := [_, _]) (hend _ _ _ _ (by simp; omega)) rfl ?_
          rintro _ _ rfl
          exact N.retD (rs := [.cell 2 9, .tmp 3]) (L1 := []) rfl (.cell1 rfl 1 rfl inferInstance (.tmp rfl .nil)) (List.nil_sublist _) ⟨by simp [oneOr], rfl⟩
        | false =>
          rw [hb] at cv
          have hfc : fineCt m.cert = true := by rcases g.2.1 with h | h; (rw [hb] at h; cases h); exact h
          have lc := encCt_len hfc
          rw [encO, hfc, if_pos rfl] at cc
          have hj : justE m.cert = flagB true ++ textB (encCt m.cert) := by rw [justE, if_neg (by rw [hb]; simp)]
          have lt := textB_len lc (by omega)
          rw [hj]
          clear hj
          have c5 := flag_ok true
          have c6 := text_ok (encCt m.cert) (by omega)
          generalize flagB true = fb at *
          generalize textB (encCt m.cert) = tc at *
          generalize encCt m.cert = ec at *
          focus (
 (refine W.seq (W.region ?_))
 (refine J.boxAg rfl rfl ?_; intro b')
 (refine J.alloc (by simp only [List.map_cons, List.map_nil]; rfl) rfl rfl ?_; intro b')
 (refine Jx.assign rfl rfl (J.nil (N.seq (W.seq (W.seq (W.region (Jx.loadAll rfl 1 rfl rfl rfl ?_)))))))
 (refine J.call (ck) rfl (evs_args rfl) rfl ?_; rintro _ _ ⟨rfl, rfl⟩; simp only [la1, la2, la3])
 (refine Jx.assign rfl rfl (J.nil (N.seq (W.seq (W.region (Jx.move rfl rfl (Jx.neqI rfl rfl rfl (J.nil (N.seq (W.cF rfl ?_))))))))))
 (refine W.skip (N.seq (W.seq (W.region ?_))))
 (refine J.alloc (by simp only [List.map_cons, List.map_nil]; rfl) rfl rfl ?_; intro b')
 (refine J.st 0 rfl rfl rfl rfl rfl rfl ?_)
 (refine J.nil (N.seq (W.seq (W.region ?_))))
 (refine J.pv (Pv.makeFunc (us := []) (vs := [.pointer (some ⟨_, 0, none⟩), .pointer (some ⟨_, 0, none⟩)]) (evs_args rfl) (evs_args rfl) (fun _ => rfl)) rfl ?_)
 (refine J.defer rfl ?_)
 (refine J.nil (N.seq (W.seq (W.seq (W.region (Jx.fieldAddr rfl rfl ?_))))))
 (refine Jx.load rfl 2 rfl rfl rfl ?_)
 (refine J.nil (N.seq (W.block (W.seq (W.region (Jx.eqlI rfl rfl rfl (Jx.assign rfl rfl (J.nil (N.seq (W.cF rfl ?_))))))))))
 (refine W.seq (W.region (Jx.eqlI rfl rfl rfl (Jx.assign rfl rfl (J.nil (N.seq (W.cT rfl ?_)))))))
 (refine W.seq (W.region (Jx.fieldAddr rfl rfl ?_)))
 (refine Jx.loadAg rfl 2 rfl rfl rfl rfl ?_)
 (refine J.call (cv) rfl (evs_args rfl) rfl ?_; rintro _ _ ⟨rfl, rfl⟩; simp only [la1, la2, la3])
 (refine Jx.not rfl rfl ?_)
 (refine J.call (c5) rfl (evs_args rfl) rfl ?_; rintro _ _ ⟨rfl, rfl⟩; simp only [la1, la2, la3])
 (refine J.st 0 rfl rfl rfl rfl rfl rfl ?_)
 (refine J.nil (N.seq (W.seq (W.region (Jx.fieldAddr rfl rfl ?_)))))
 (refine Jx.loadAg rfl 2 rfl rfl rfl rfl ?_)
 (refine J.call (cc) rfl (evs_args rfl) rfl ?_; rintro _ _ ⟨rfl, rfl⟩; simp only [la1, la2, la3])
 (refine Jx.move rfl rfl (Jx.extract rfl rfl rfl ?_))
 (refine Jx.extract rfl rfl rfl ?_)
 (refine Jx.assign rfl rfl (Jx.assign rfl rfl (J.nil (N.seq (W.seq (W.region (Jx.move rfl rfl (Jx.eqlI rfl rfl rfl (J.nil (N.seq (W.cT rfl ?_)))))))))))
 (refine W.draw follows ?_)
 (refine JD.upto (n := 4) rfl (by decide +kernel) (by decide +kernel) rfl rfl ?_)
 (refine Cx.load rfl 0 rfl rfl rfl ?_)
 (refine Cx.move rfl rfl ?_)
 (refine SegC.q (Qs.call (Lc := []) (c6) (fun s L' h => h) (List.Perm.refl _) (evs_args rfl)) rfl ?_)
 (refine Cx.cat rfl rfl (by first | omega | (simp only [List.length_append, List.length_cons, List.length_nil]; omega)) rfl ?_)
 (refine SegC.nil ?_)
 (refine J.st 0 rfl rfl rfl rfl rfl rfl ?_)
 (refine J.nil (N.seq (W.seq (W.region (Jx.fieldAddr rfl rfl ?_)))))
 (refine Jx.load rfl 2 rfl rfl rfl ?_)
 (refine J.call (c2) rfl (evs_args rfl) rfl ?_; rintro _ _ ⟨rfl, rfl⟩; simp only [la1, la2, la3])
 (refine Jx.move rfl rfl (Jx.extract rfl rfl rfl ?_))
 (refine Jx.extract rfl rfl rfl ?_)
 (refine Jx.assign rfl rfl (Jx.assign rfl rfl (J.nil (N.seq (W.seq (W.region (Jx.fieldAddr rfl rfl ?_)))))))
 (refine Jx.load rfl 2 rfl rfl rfl ?_)
 (refine J.call (c3) rfl (evs_args rfl) rfl ?_; rintro _ _ ⟨rfl, rfl⟩; simp only [la1, la2, la3])
 (refine Jx.move rfl rfl (Jx.extract rfl rfl rfl ?_))
 (refine Jx.extract rfl rfl rfl ?_)
 (refine Jx.assign rfl rfl (Jx.assign rfl rfl (J.nil (N.seq (W.seq ?_)))))
 (refine W.draw follows ?_)
 (refine JD.upto (n := 13) rfl (by decide +kernel) (by decide +kernel) rfl rfl ?_)
 (refine Cx.fieldAddr rfl rfl ?_)
 (refine Cx.load rfl 2 rfl rfl rfl ?_)
 (refine Cx.numByte m.kind.toNat rfl rfl hkn rfl ?_)
 (refine SegC.q (Qs.buildBytes [UInt8.ofNat m.kind.toNat] rfl rfl rfl (by decide) (by decide)) rfl ?_)
 (refine Cx.bytesStr rfl rfl ?_)
 (refine Cx.fieldAddr rfl rfl ?_)
 (refine Cx.load rfl 2 rfl rfl rfl ?_)
 (refine SegC.q (Qs.call (Lc := []) (c1) (fun s L' h => h) (List.Perm.refl _) (evs_args rfl)) rfl ?_)
 (refine Cx.cat rfl rfl (by first | omega | (simp only [List.length_append, List.length_cons, List.length_nil]; omega)) rfl ?_)
 (refine Cx.move rfl rfl ?_)
 (refine Cx.cat rfl rfl (by first | omega | (simp only [List.length_append, List.length_cons, List.length_nil]; omega)) rfl ?_)
 (refine Cx.move rfl rfl ?_)
 (refine Cx.cat rfl rfl (by first | omega | (simp only [List.length_append, List.length_cons, List.length_nil]; omega)) rfl ?_)
 (refine SegC.nil ?_)
 (refine J.st 1 rfl rfl rfl rfl rfl rfl ?_)
 (refine Jx.assign rfl rfl (J.nil (N.seq (W.ret ?_))))
 (refine id ?_; rotate_left))
          refine N.leave1 (Lc := [_, _]) (hend _ _ _ _ (by simp; omega)) rfl ?_
          rintro _ _ rfl
          exact N.retD (rs := [.cell 2 9, .tmp 3]) (L1 := []) rfl (.cell1 rfl 1 rfl inferInstance (.tmp rfl .nil)) (List.nil_sublist _) ⟨by simp [oneOr], rfl⟩
      · have g := f.k2 (by omega)
        have htl : tailM m = m.digest := by rw [tailM, if_neg e1, if_neg e3]
        rw [htl] at ht ⊢
        clear he htl
        focus (
 (refine W.seq (W.region ?_))
 (refine J.boxAg rfl rfl ?_; intro b')
 (refine J.alloc (by simp only [List.map_cons, List.map_nil]; rfl) rfl rfl ?_; intro b')
 (refine Jx.assign rfl rfl (J.nil (N.seq (W.seq (W.seq (W.region (Jx.loadAll rfl 1 rfl rfl rfl ?_)))))))
 (refine J.call (ck) rfl (evs_args rfl) rfl ?_; rintro _ _ ⟨rfl, rfl⟩; simp only [la1, la2, la3])
 (refine Jx.assign rfl rfl (J.nil (N.seq (W.seq (W.region (Jx.move rfl rfl (Jx.neqI rfl rfl rfl (J.nil (N.seq (W.cF rfl ?_))))))))))
 (refine W.skip (N.seq (W.seq (W.region ?_))))
 (refine J.alloc (by simp only [List.map_cons, List.map_nil]; rfl) rfl rfl ?_; intro b')
 (refine J.st 0 rfl rfl rfl rfl rfl rfl ?_)
 (refine J.nil (N.seq (W.seq (W.region ?_))))
 (refine J.pv (Pv.makeFunc (us := []) (vs := [.pointer (some ⟨_, 0, none⟩), .pointer (some ⟨_, 0, none⟩)]) (evs_args rfl) (evs_args rfl) (fun _ => rfl)) rfl ?_)
 (refine J.defer rfl ?_)
 (refine J.nil (N.seq (W.seq (W.seq (W.region (Jx.fieldAddr rfl rfl ?_))))))
 (refine Jx.load rfl 2 rfl rfl rfl ?_)
 (refine J.nil (N.seq (W.block (W.seq (W.region (Jx.eqlI rfl rfl rfl (Jx.assign rfl rfl (J.nil (N.seq (W.cF rfl ?_))))))))))
 (refine W.seq (W.region (Jx.eqlI rfl rfl rfl (Jx.assign rfl rfl (J.nil (N.seq (W.cF rfl ?_)))))))
 (refine W.region (Jx.fieldAddr rfl rfl ?_))
 (refine Jx.load rfl 2 rfl rfl rfl ?_)
 (refine J.st 0 rfl rfl rfl rfl rfl rfl ?_)
 (refine J.nil (N.seq (W.seq (W.region (Jx.fieldAddr rfl rfl ?_)))))
 (refine Jx.load rfl 2 rfl rfl rfl ?_)
 (refine J.call (c2) rfl (evs_args rfl) rfl ?_; rintro _ _ ⟨rfl, rfl⟩; simp only [la1, la2, la3])
 (refine Jx.move rfl rfl (Jx.extract rfl rfl rfl ?_))
 (refine Jx.extract rfl rfl rfl ?_)
 (refine Jx.assign rfl rfl (Jx.assign rfl rfl (J.nil (N.seq (W.seq (W.region (Jx.fieldAddr rfl rfl ?_)))))))
 (refine Jx.load rfl 2 rfl rfl rfl ?_)
 (refine J.call (c3) rfl (evs_args rfl) rfl ?_; rintro _ _ ⟨rfl, rfl⟩; simp only [la1, la2, la3])
 (refine Jx.move rfl rfl (Jx.extract rfl rfl rfl ?_))
 (refine Jx.extract rfl rfl rfl ?_)
 (refine Jx.assign rfl rfl (Jx.assign rfl rfl (J.nil (N.seq (W.seq ?_)))))
 (refine W.draw follows ?_)
 (refine JD.upto (n := 13) rfl (by decide +kernel) (by decide +kernel) rfl rfl ?_)
 (refine Cx.fieldAddr rfl rfl ?_)
 (refine Cx.load rfl 2 rfl rfl rfl ?_)
 (refine Cx.numByte m.kind.toNat rfl rfl hkn rfl ?_)
 (refine SegC.q (Qs.buildBytes [UInt8.ofNat m.kind.toNat] rfl rfl rfl (by decide) (by decide)) rfl ?_)
 (refine Cx.bytesStr rfl rfl ?_)
 (refine Cx.fieldAddr rfl rfl ?_)
 (refine Cx.load rfl 2 rfl rfl rfl ?_)
 (refine SegC.q (Qs.call (Lc := []) (c1) (fun s L' h => h) (List.Perm.refl _) (evs_args rfl)) rfl ?_)
 (refine Cx.cat rfl rfl (by first | omega | (simp only [List.length_append, List.length_cons, List.length_nil]; omega)) rfl ?_)
 (refine Cx.move rfl rfl ?_)
 (refine Cx.cat rfl rfl (by first | omega | (simp only [List.length_append, List.length_cons, List.length_nil]; omega)) rfl ?_)
 (refine Cx.move rfl rfl ?_)
 (refine Cx.cat rfl rfl (by first | omega | (simp only [List.length_append, List.length_cons, List.length_nil]; omega)) rfl ?_)
 (refine SegC.nil ?_)
 (refine J.st 1 rfl rfl rfl rfl rfl rfl ?_)
 (refine Jx.assign rfl rfl (J.nil (N.seq (W.ret ?_))))
 (refine id ?_; rotate_left))
        refine N.leave1 (Lc := [_, _]) (hend _ _ _ _ (by simp; omega)) rfl ?_
        rintro _ _ rfl
        exact N.retD (rs := [.cell 2 9, .tmp 3]) (L1 := []) rfl (.cell1 rfl 1 rfl inferInstance (.tmp rfl .nil)) (List.nil_sublist _) ⟨by simp [oneOr], rfl⟩
end Go.Proofs.YtlfdhkahiaammaaGreatDoor
namespace Go.Proofs.YtlfdhkahiaammaaGreatDoor
open Go Go.Sse
set_option linter.unusedVariables false
set_option linter.unusedSimpArgs false
set_option maxRecDepth 10000
abbrev msJ (k : Int) (w : List UInt8) (e v : Int) (d : List UInt8) : List SV := [int k, str w, int e, int v, str d, int 0, int 0, int 0, bool false, str [], str [], str [], str [], str [], str [], .val (.slice none 0 0), .val (.slice none 0 0), str [], .val (.slice none 0 0), str [], .val (.slice none 0 0)]
theorem msJ_sub (k : Int) (w : List UInt8) (e v : Int) (d : List UInt8) : SubL (msJ k w e v d) (msC ⟨k, w, e, v, d, bk0, ct0⟩) := .cons (.refl _) (.cons (.refl _) (.cons (.refl _) (.cons (.refl _) (.cons (.refl _) (.cons (.refl _) (.cons (.refl _) (.cons (.refl _) (.cons (.refl _) (.cons (.refl _) (.cons (.refl _) (.cons (.refl _) (.cons (.refl _) (.cons (.refl _) (.cons (.refl _) (.cons (Sub.nil 1 _) (.cons (Sub.nil 8 _) (.cons (.refl _) (.cons (Sub.nil 1 _) (.cons (.refl _) (.cons (Sub.nil 1 _) .nil))))))))))))))))))))
theorem msB_sub (k : Int) (w : List UInt8) (e v : Int) (d : List UInt8) (B : Bk) : SubL [int k, str w, int e, int v, str d, int B.head.height, int B.head.epoch, int B.head.view, bool B.head.last, str B.head.parent, str B.head.state, str B.head.receipts, str B.head.txs, str B.head.members, str B.head.next, ssl B.head.skips, txsl B.txs, str B.just.digest, ssl B.just.signers, str [], .val (.slice none 0 0)] (msC ⟨k, w, e, v, d, B, ct0⟩) := .cons (.refl _) (.cons (.refl _) (.cons (.refl _) (.cons (.refl _) (.cons (.refl _) (.cons (.refl _) (.cons (.refl _) (.cons (.refl _) (.cons (.refl _) (.cons (.refl _) (.cons (.refl _) (.cons (.refl _) (.cons (.refl _) (.cons (.refl _) (.cons (.refl _) (.cons (.refl _) (.cons (.refl _) (.cons (.refl _) (.cons (.refl _) (.cons (.refl _) (.cons (Sub.nil 1 _) .nil))))))))))))))))))))
theorem msK_sub (k : Int) (w : List UInt8) (e v : Int) (d : List UInt8) (C : Ct) : SubL [int k, str w, int e, int v, str d, int 0, int 0, int 0, bool false, str [], str [], str [], str [], str [], str [], .val (.slice none 0 0), .val (.slice none 0 0), str [], .val (.slice none 0 0), str C.digest, ssl C.signers] (msC ⟨k, w, e, v, d, bk0, C⟩) := .cons (.refl _) (.cons (.refl _) (.cons (.refl _) (.cons (.refl _) (.cons (.refl _) (.cons (.refl _) (.cons (.refl _) (.cons (.refl _) (.cons (.refl _) (.cons (.refl _) (.cons (.refl _) (.cons (.refl _) (.cons (.refl _) (.cons (.refl _) (.cons (.refl _) (.cons (Sub.nil 1 _) (.cons (Sub.nil 8 _) (.cons (.refl _) (.cons (Sub.nil 1 _) (.cons (.refl _) (.cons (.refl _) .nil))))))))))))))))))))
theorem codeO_zero {α : Type} {o : Option α} {e : Int} (he : e ≠ 0) : codeO o e = 0 ↔ o.isSome = true := by cases o <;> simp [he]
theorem kdOf_eq (k : List UInt8) : kdOf k = ((k.getD 0 0).toNat : Int) := by
  cases k <;> rfl
theorem decB_skips {s : List UInt8} {o : Option Bk} (h : DecR fineBk encBk s o) : (o.getD bk0).head.skips.length ≤ 1048576 := by
  cases o with
  | none => simp [bk0, hd0]
  | some x => have := ((fineHd_iff _).1 ((fineBk_iff x).1 h.1).head).skips20; simp only [Option.getD_some]; omega
set_option maxHeartbeats 8000000 in
theorem vdecode_ok (s : List UInt8) (hs : s.length ≤ 1099511627776) : FnC Tryz.prog 20 [str s] [] (fun v L => (∃ o, DecR fineMs encMs s o ∧ v = .tup [.agg (msC (o.getD ms0)), int (codeO o 220)]) ∧ L = []) := by
  have c0 := read_ok s
  have c1 := fun b => rd_Bytes b s 0 0 1 (Nat.zero_le _) hs
  refine FnC.intro Tryz.func20 rfl Tryz.ntmps20 rfl fun Z w0 hG => ?_
  focus (
 (refine W.seq (W.region ?_))
 (refine J.alloc (by simp only [List.map_cons, List.map_nil]; rfl) rfl rfl ?_; intro b')
 (refine Jx.assign rfl rfl (J.nil (N.seq (W.seq (W.region (Jx.move rfl rfl ?_))))))
 (refine J.call (Lc := []) c0 rfl (evs_args rfl) rfl ?_; rintro _ _ ⟨b, rfl, rfl⟩; simp only [la1, la2, la3])
 (refine Jx.assign rfl rfl (J.nil (N.seq (W.seq (W.region ?_)))))
 (refine J.alloc (by simp only [List.map_cons, List.map_nil]; rfl) rfl rfl ?_; intro b')
 (refine J.nil (N.seq (W.seq (W.seq (W.region (Jx.move rfl rfl ?_))))))
 (refine J.call1 1 ((c1 _)) rfl (evs_args rfl) rfl (by rintro _ _ ⟨k, a1, c1', rfl, rfl, ha1, hk⟩; exact ⟨_, rfl⟩) ?_; rintro _ _ ⟨k, a1, c1', rfl, ⟨⟩, ha1, hk⟩; simp only [la4, la5])
 (refine Jx.assign rfl rfl (J.nil (N.seq (W.seq (W.region (Jx.move rfl rfl (Jx.neqS rfl rfl rfl (J.nil (N.seq ?_)))))))))
 (refine id ?_; rotate_left))
  rename_i p2
  refine W.joinE (α := Unit) (fun _ => [(4, ptr b), (5, ptr b'), (2, ptr p2)]) (fun _ => [.obj b' tMs (msJ (kdOf k) [] 0 0 []), rdO b ⟨s, a1, c1'⟩, .obj p2 tMs msz]) (fun _ => True) ?_ ?_
  · refine W.cond rfl (fun h1 => ?_) (fun h1 => ?_)
    · have h1 := of_decide_eq_true h1
      have hl : (0 : Int) < (k.length : Int) := by have := List.length_pos_iff.2 h1; omega
      focus (
 (refine W.region (Jx.move rfl rfl ?_))
 (refine Jx.indexS (m := 0) rfl rfl (by decide) hl rfl ?_)
 (refine Jx.byteNum rfl rfl rfl ?_)
 (refine Jx.fieldAddr rfl rfl ?_)
 (refine J.st 0 rfl rfl rfl rfl rfl rfl ?_)
 (refine J.nil ?_)
 (refine id ?_; rotate_left))
      exact N.joinE () trivial rfl ⟨ref0 rfl, ref0 rfl, ref0 rfl, trivial⟩
    · have h1 : k = [] := by have := of_decide_eq_false h1; exact Classical.not_not.1 this
      focus (
 (refine W.skip ?_)
 (refine id ?_; rotate_left))
      exact N.joinE () trivial (by rw [h1]; rfl) ⟨ref0 rfl, ref0 rfl, ref0 rfl, trivial⟩
  · intro _ _
    have c2 := rd_Text b s a1 c1' 6 ha1 hs
    have hke := kdOf_eq k
    generalize kdOf k = kd at *
    focus (
 (refine N.seq (W.seq (W.region (Jx.move rfl rfl ?_))))
 (refine J.call1 1 (c2) rfl (evs_args rfl) rfl (by rintro _ _ ⟨f, a2, c2', rfl, rfl, ha2, hf⟩; exact ⟨_, rfl⟩) ?_; rintro _ _ ⟨f, a2, c2', rfl, ⟨⟩, ha2, hf⟩; simp only [la4, la5])
 (refine Jx.fieldAddr rfl rfl ?_)
 (refine J.st 0 rfl rfl rfl rfl rfl rfl ?_)
 (refine J.nil (N.seq (W.seq (W.region (Jx.move rfl rfl ?_)))))
 (refine J.call1 1 ((rd_Num b s a2 c2' ha2 hs)) rfl (evs_args rfl) rfl (by rintro _ _ ⟨q, a3, c3', rfl, rfl, ha3, hql, hq⟩; exact ⟨_, rfl⟩) ?_; rintro _ _ ⟨q, a3, c3', rfl, ⟨⟩, ha3, hql, hq⟩; simp only [la4, la5])
 (refine Jx.move rfl rfl ?_)
 (refine J.call1 1 ((rd_Num b s a3 c3' ha3 hs)) rfl (evs_args rfl) rfl (by rintro _ _ ⟨v, a4, c4', rfl, rfl, ha4, hvl, hv⟩; exact ⟨_, rfl⟩) ?_; rintro _ _ ⟨v, a4, c4', rfl, ⟨⟩, ha4, hvl, hv⟩; simp only [la4, la5])
 (refine Jx.fieldAddr rfl rfl ?_)
 (refine J.st 0 rfl rfl rfl rfl rfl rfl ?_)
 (refine Jx.fieldAddr rfl rfl ?_)
 (refine J.st 0 rfl rfl rfl rfl rfl rfl ?_)
 (refine J.nil (N.seq (W.seq (W.region (Jx.assign rfl rfl (J.nil (N.seq (W.seq (W.seq (W.region (Jx.fieldAddr rfl rfl ?_)))))))))))
 (refine Jx.load rfl 0 rfl rfl rfl ?_)
 (refine J.nil (N.seq ?_))
 (refine id ?_; rotate_left))
    refine W.joinE (α := Ms × Bool × Nat × Int × Int) (fun x => [(7, int x.2.2.2.2), (4, ptr b), (5, ptr b'), (2, ptr p2)]) (fun x => [.obj b' tMs (msC x.1), rdO b ⟨s, x.2.2.1, x.2.2.2.1⟩, .obj p2 tMs msz]) (fun x => x.2.2.1 ≤ s.length ∧ x.1.block.head.skips.length ≤ 1048576 ∧ (x.2.2.2.2 = 0 ↔ x.2.1 = true) ∧ ReadM 6 65536 s x.1 x.2.1 (lf s x.2.2.1 x.2.2.2.1)) ?_ ?_
    · have mk : ∀ (x : Ms) ok st, x.kind = kd → x.who = f → x.epoch = (q : Int) → x.view = (v : Int) → TailM 65536 x ok (lf s a4 c4') st → ReadM 6 65536 s x ok st := fun x ok st h1 h2 h3 h4 h5 =>
        ⟨k, _, _, q, _, v, _, hk, by rw [h1, hke], by rw [h2]; exact hf, hq, h3, hv, h4, h5⟩
      have hsk0 : bk0.head.skips.length ≤ 1048576 := by decide
      by_cases e1 : kd = 1
      · focus (
 (refine W.block (W.seq (W.region (Jx.eqlI rfl rfl rfl (Jx.assign rfl rfl (J.nil (N.seq (W.cT rfl ?_))))))))
 (refine W.region (Jx.move rfl rfl ?_))
 (refine J.call1 1 ((rd_Text b s a4 c4' 65536 ha4 hs)) rfl (evs_args rfl) rfl (by rintro _ _ ⟨t, a5, c5', rfl, rfl, ha5, ht⟩; exact ⟨_, rfl⟩) ?_; rintro _ _ ⟨t, a5, c5', rfl, ⟨⟩, ha5, ht⟩; simp only [la4, la5])
 (refine J.call (Lc := []) (bdecode_ok t (by have := bound_text ht; omega)) rfl (evs_args rfl) rfl ?_; rintro _ _ ⟨⟨o, ho, rfl⟩, rfl⟩; simp only [la1, la2, la3])
 (refine Jx.move rfl rfl (Jx.extract rfl rfl rfl ?_))
 (refine Jx.extract rfl rfl rfl ?_)
 (refine Jx.fieldAddr rfl rfl ?_)
 (refine J.storeAg rfl rfl rfl 0 rfl rfl rfl rfl ?_)
 (refine Jx.assign rfl rfl (J.nil (N.noGotoNormal ?_)))
 (refine id ?_; rotate_left))
        refine N.objSub 0 (msC ⟨kd, f, q, v, [], o.getD bk0, ct0⟩) rfl (msB_sub _ _ _ _ _ _) rfl ?_
        exact N.joinE (⟨kd, f, q, v, [], o.getD bk0, ct0⟩, o.isSome, a5, c5', codeO o 210) ⟨ha5, decB_skips ho, codeO_zero (by decide), mk _ _ _ rfl rfl rfl rfl ⟨fun _ => ⟨t, o, ht, ho, rfl, rfl, rfl, rfl⟩, fun h => by simp only at h; omega, fun h => absurd e1 h⟩⟩ rfl ⟨ref0 rfl, ref0 rfl, ref0 rfl, ref0 rfl, trivial⟩
      · by_cases e3 : kd = 3
        · focus (
 (refine W.block (W.seq (W.region (Jx.eqlI rfl rfl rfl (Jx.assign rfl rfl (J.nil (N.seq (W.cF rfl ?_))))))))
 (refine W.seq (W.region (Jx.eqlI rfl rfl rfl (Jx.assign rfl rfl (J.nil (N.seq (W.cT rfl ?_)))))))
 (refine W.seq (W.region (Jx.move rfl rfl ?_)))
 (refine J.call1 1 ((rd_Flag b s a4 c4' ha4 hs)) rfl (evs_args rfl) rfl (by rintro _ _ ⟨fl, a5, c5', rfl, rfl, ha5, hfl⟩; exact ⟨_, rfl⟩) ?_; rintro _ _ ⟨fl, a5, c5', rfl, ⟨⟩, ha5, hfl⟩; simp only [la4, la5])
 (refine J.nil (N.seq ?_))
 (refine id ?_; rotate_left))
          cases fl with
          | false =>
            focus (
 (refine W.cF rfl ?_)
 (refine W.skip (N.noGotoNormal ?_))
 (refine id ?_; rotate_left))
            refine N.objSub 0 (msC ⟨kd, f, q, v, [], bk0, ct0⟩) rfl (msJ_sub _ _ _ _ _) rfl ?_
            exact N.joinE (⟨kd, f, q, v, [], bk0, ct0⟩, true, a5, c5', 0) ⟨ha5, hsk0, by simp, mk _ _ _ rfl rfl rfl rfl ⟨fun h => absurd h e1, fun _ => ⟨⟨false, _, hfl, fun _ => ⟨rfl, rfl, rfl⟩, fun h => by cases h⟩, rfl, rfl⟩, fun _ h => absurd e3 h⟩⟩ rfl ⟨ref0 rfl, ref0 rfl, ref0 rfl, ref0 rfl, trivial⟩
          | true =>
            focus (
 (refine W.cT rfl ?_)
 (refine W.region (Jx.move rfl rfl ?_))
 (refine J.call1 1 ((rd_Text b s a5 c5' 65536 ha5 hs)) rfl (evs_args rfl) rfl (by rintro _ _ ⟨t, a6, c6', rfl, rfl, ha6, ht⟩; exact ⟨_, rfl⟩) ?_; rintro _ _ ⟨t, a6, c6', rfl, ⟨⟩, ha6, ht⟩; simp only [la4, la5])
 (refine J.call (Lc := []) (cdecode_ok t (by have := bound_text ht; omega)) rfl (evs_args rfl) rfl ?_; rintro _ _ ⟨⟨o, ho, rfl⟩, rfl⟩; simp only [la1, la2, la3])
 (refine Jx.move rfl rfl (Jx.extract rfl rfl rfl ?_))
 (refine Jx.extract rfl rfl rfl ?_)
 (refine Jx.fieldAddr rfl rfl ?_)
 (refine J.storeAg rfl rfl rfl 0 rfl rfl rfl rfl ?_)
 (refine Jx.assign rfl rfl (J.nil (N.noGotoNormal ?_)))
 (refine id ?_; rotate_left))
            refine N.objSub 0 (msC ⟨kd, f, q, v, [], bk0, o.getD ct0⟩) rfl (msK_sub _ _ _ _ _ _) rfl ?_
            exact N.joinE (⟨kd, f, q, v, [], bk0, o.getD ct0⟩, o.isSome, a6, c6', codeO o 3) ⟨ha6, hsk0, codeO_zero (by decide), mk _ _ _ rfl rfl rfl rfl ⟨fun h => absurd h e1, fun _ => ⟨⟨true, _, hfl, (fun h => by cases h), fun _ => ⟨t, o, ht, ho, rfl, rfl⟩⟩, rfl, rfl⟩, fun _ h => absurd e3 h⟩⟩ rfl ⟨ref0 rfl, ref0 rfl, ref0 rfl, ref0 rfl, trivial⟩
        · focus (
 (refine W.block (W.seq (W.region (Jx.eqlI rfl rfl rfl (Jx.assign rfl rfl (J.nil (N.seq (W.cF rfl ?_))))))))
 (refine W.seq (W.region (Jx.eqlI rfl rfl rfl (Jx.assign rfl rfl (J.nil (N.seq (W.cF rfl ?_)))))))
 (refine W.region (Jx.move rfl rfl ?_))
 (refine J.call1 1 ((rd_Bytes b s a4 c4' 32 ha4 hs)) rfl (evs_args rfl) rfl (by rintro _ _ ⟨t, a5, c5', rfl, rfl, ha5, ht⟩; exact ⟨_, rfl⟩) ?_; rintro _ _ ⟨t, a5, c5', rfl, ⟨⟩, ha5, ht⟩; simp only [la4, la5])
 (refine Jx.fieldAddr rfl rfl ?_)
 (refine J.st 0 rfl rfl rfl rfl rfl rfl ?_)
 (refine J.nil (N.noGotoNormal ?_))
 (refine id ?_; rotate_left))
          refine N.objSub 0 (msC ⟨kd, f, q, v, t, bk0, ct0⟩) rfl (msJ_sub _ _ _ _ _) rfl ?_
          exact N.joinE (⟨kd, f, q, v, t, bk0, ct0⟩, true, a5, c5', 0) ⟨ha5, hsk0, by simp, mk _ _ _ rfl rfl rfl rfl ⟨fun h => absurd h e1, fun h => absurd h e3, fun _ _ => ⟨ht, rfl, rfl, rfl⟩⟩⟩ rfl ⟨ref0 rfl, ref0 rfl, ref0 rfl, ref0 rfl, trivial⟩
    · rintro ⟨x, ok, a, c, e7⟩ ⟨ha, hsk, h7, hr⟩
      simp only at ha hsk h7 hr ⊢
      have ce := rd_End b s a c ha hs
      have ck := vcheck_ok x hsk
      focus (
 (refine N.seq (W.seq (W.seq (W.region (Jx.move rfl rfl ?_)))))
 (refine J.call1 1 (ce) rfl (evs_args rfl) rfl (by rintro _ _ ⟨e, a9, c9, rfl, rfl, he⟩; exact ⟨_, rfl⟩) ?_; rintro _ _ ⟨e, a9, c9, rfl, ⟨⟩, he⟩; simp only [la4, la5])
 (refine Jx.neqI rfl rfl rfl (Jx.move rfl rfl ?_))
 (refine' J.guardOr rfl rfl rfl rfl rfl rfl rfl rfl (fun _ => ?_) ?_; rotate_left)
 (refine J.gY rfl rfl rfl ?_)
 (refine Jx.move rfl rfl (J.gY rfl rfl rfl ?_))
 (refine Jx.neqI rfl rfl rfl (J.nil ?_))
 (refine N.joinedN rfl rfl rfl)
 (refine Jx.move rfl rfl ?_)
 (refine' J.guardOr rfl rfl rfl rfl rfl rfl rfl rfl (fun _ => ?_) ?_; rotate_left)
 (refine J.gY rfl rfl rfl ?_)
 (refine Jx.loadAll rfl 0 rfl rfl rfl ?_)
 (refine J.gY rfl rfl rfl ?_)
 (refine J.cP ck (evs_args rfl) rfl ?_; try simp only)
 (refine J.gY rfl rfl rfl ?_)
 (refine Jx.neqI rfl rfl rfl (J.nil ?_))
 (refine N.joinedN rfl rfl rfl)
 (refine J.nil (N.seq ?_))
 (refine id ?_; rotate_left))
      refine W.cond rfl (fun hb => ?_) (fun hb => ?_)
      · focus (
 (refine W.seq (W.region (Jx.buildB rfl rfl rfl rfl rfl ?_)))
 (refine J.storeAll rfl rfl rfl 2 rfl rfl rfl ?_)
 (refine Jx.assign rfl rfl (J.nil (N.seq (W.ret (N.noGotoRet ?_)))))
 (refine id ?_; rotate_left))
        refine N.objSub 2 (msC ms0) rfl msz_sub rfl ?_
        refine N.retD (rs := [.cell 2 tMs, .tmp 3]) (L1 := []) rfl (.cell rfl 2 rfl agMs (.tmp rfl .nil)) (List.nil_sublist _) ⟨⟨none, fun y hy hz => ?_, rfl⟩, rfl⟩
        obtain ⟨rfl, h1, h2⟩ := hr.whole (by decide) (by decide) hy (r := []) (by rw [List.append_nil, hz])
        rw [he.2 h2, hy, h7.2 h1] at hb
        simp at hb
      · focus (
 (refine W.skip (N.seq (W.seq (W.region (Jx.loadAll rfl 0 rfl rfl rfl ?_)))))
 (refine J.storeAll rfl rfl rfl 2 rfl rfl rfl ?_)
 (refine Jx.assign rfl rfl (J.nil (N.seq (W.ret ?_))))
 (refine id ?_; rotate_left))
        refine N.retD (rs := [.cell 2 tMs, .tmp 3]) (L1 := []) rfl (.cell rfl 2 rfl agMs (.tmp rfl .nil)) (List.nil_sublist _) ⟨⟨some x, ?_, rfl⟩, rfl⟩
        simp only [Bool.or_eq_false_iff, decide_eq_false_iff_not, Classical.not_not] at hb
        obtain ⟨⟨b1, b2⟩, b3⟩ := hb
        have hf : fineMs x = true := by
          cases hf : fineMs x with
          | true => rfl
          | false => rw [hf] at b3; simp at b3
        rw [he.1 b1, h7.1 b2] at hr
        exact ⟨hf, hr.sound⟩
end Go.Proofs.YtlfdhkahiaammaaGreatDoor
namespace Go.Proofs.YtlfdhkahiaammaaGreatDoor
open Go Go.Sse
set_option linter.unusedVariables false
open Go.Shelf in
def lays105_ren : Go.Shelf.Ren := ⟨fun | 105 => 54 | 212 => 93 | 99 => 94 | 165 => 95 | 166 => 96 | 170 => 97 | 169 => 98 | 263 => 121 | 264 => 122 | 206 => 123 | 240 => 124 | 241 => 125 | 276 => 143 | 277 => 144 | n => n, fun | 9 => 9 | 3 => 3 | 4 => 4 | 20 => 20 | 0 => 0 | 46 => 106 | 109 => 107 | 5 => 5 | 72 => 112 | 76 => 116 | 51 => 134 | 146 => 135 | 53 => 137 | 148 => 138 | 70 => 110 | 37 => 85 | 75 => 115 | 127 => 140 | 164 => 154 | 80 => 118 | n => n, fun | n => n⟩
open Go.Shelf in
theorem lays105 : Go.Proofs.Lays.n105 Tryz.prog lays105_ren := {
  mixed := by kernel_rfl
  f99 := Tryz.func94.trans (congrArg some (by kernel_rfl))
  f105 := Tryz.func54.trans (congrArg some (by kernel_rfl))
  f165 := Tryz.func95.trans (congrArg some (by kernel_rfl))
  f166 := Tryz.func96.trans (congrArg some (by kernel_rfl))
  f169 := Tryz.func98.trans (congrArg some (by kernel_rfl))
  f170 := Tryz.func97.trans (congrArg some (by kernel_rfl))
  f206 := Tryz.func123.trans (congrArg some (by kernel_rfl))
  f212 := Tryz.func93.trans (congrArg some (by kernel_rfl))
  f240 := Tryz.func124.trans (congrArg some (by kernel_rfl))
  f241 := Tryz.func125.trans (congrArg some (by kernel_rfl))
  f263 := Tryz.func121.trans (congrArg some (by kernel_rfl))
  f264 := Tryz.func122.trans (congrArg some (by kernel_rfl))
  f276 := Tryz.func143.trans (congrArg some (by kernel_rfl))
  f277 := Tryz.func144.trans (congrArg some (by kernel_rfl))
  t0 := Tryz.underlying0
  a0 := Tryz.isAgg0
  z0 := Tryz.sizeOf0
  v0 := Tryz.zeroValue0
  t3 := Tryz.underlying3
  a3 := Tryz.isAgg3
  z3 := Tryz.sizeOf3
  v3 := Tryz.zeroValue3
  t4 := Tryz.underlying4
  a4 := Tryz.isAgg4
  z4 := Tryz.sizeOf4
  v4 := Tryz.zeroValue4
  t5 := Tryz.underlying5
  a5 := Tryz.isAgg5
  z5 := Tryz.sizeOf5
  v5 := Tryz.zeroValue5
  t9 := Tryz.underlying9
  a9 := Tryz.isAgg9
  z9 := Tryz.sizeOf9
  v9 := Tryz.zeroValue9
  t20 := Tryz.underlying20
  a20 := Tryz.isAgg20
  z20 := Tryz.sizeOf20
  v20 := Tryz.zeroValue20
  t37 := Tryz.underlying85
  a37 := Tryz.isAgg85
  z37 := Tryz.sizeOf85
  v37 := Tryz.zeroValue85
  t46 := Tryz.underlying106
  a46 := Tryz.isAgg106
  z46 := Tryz.sizeOf106
  v46 := Tryz.zeroValue106
  t51 := Tryz.underlying134
  a51 := Tryz.isAgg134
  z51 := Tryz.sizeOf134
  v51 := Tryz.zeroValue134
  t53 := Tryz.underlying137
  a53 := Tryz.isAgg137
  z53 := Tryz.sizeOf137
  v53 := Tryz.zeroValue137
  t70 := Tryz.underlying110
  a70 := Tryz.isAgg110
  z70 := Tryz.sizeOf110
  v70 := Tryz.zeroValue110
  t72 := Tryz.underlying112
  a72 := Tryz.isAgg112
  z72 := Tryz.sizeOf112
  v72 := Tryz.zeroValue112
  t75 := Tryz.underlying115
  a75 := Tryz.isAgg115
  z75 := Tryz.sizeOf115
  v75 := Tryz.zeroValue115
  t76 := Tryz.underlying116
  a76 := Tryz.isAgg116
  z76 := Tryz.sizeOf116
  v76 := Tryz.zeroValue116
  t109 := Tryz.underlying107
  a109 := Tryz.isAgg107
  z109 := Tryz.sizeOf107
  v109 := Tryz.zeroValue107
  t127 := Tryz.underlying140
  a127 := Tryz.isAgg140
  z127 := Tryz.sizeOf140
  v127 := Tryz.zeroValue140
  t146 := Tryz.underlying135
  a146 := Tryz.isAgg135
  z146 := Tryz.sizeOf135
  v146 := Tryz.zeroValue135
  t148 := Tryz.underlying138
  a148 := Tryz.isAgg138
  z148 := Tryz.sizeOf138
  v148 := Tryz.zeroValue138
  t164 := Tryz.underlying154
  a164 := Tryz.isAgg154
  z164 := Tryz.sizeOf154
  v164 := Tryz.zeroValue154 }
open Go.Shelf in
theorem Builder_Extra_105 : Builder.Extra Tryz.prog lays105_ren := {
  sizeBuilder := by kernel_rfl
  liesBuilder := by kernel_rfl
  t5 := Tryz.underlying5
  a5 := Tryz.isAgg5
  z5 := Tryz.sizeOf5
  v5 := Tryz.zeroValue5
  infoByte := by kernel_rfl
  cellsByte := by kernel_rfl
  sizeByte := by kernel_rfl
  neB5 := by decide }
open Go.RowKit Go.Lib Go.Shelf in
theorem strings_Repeat (s : ByteArray) (c : Nat) (w : World) (hc : c ≤ 9223372036854775807) (hlen : s.size * c ≤ 140737488355328) :
    Calls Tryz.prog 54 #[.string s, .int .i64 c] w fun e w' => e = .returned (.string ⟨(Lib.repeatL s.data.toList c).toArray⟩) ∧ Below w.heap.size w w' := Any.strings_Repeat lays105 Builder_Extra_105 s c w hc hlen
theorem repL_one (x : UInt8) : ∀ n, Lib.repeatL [x] n = List.replicate n x
  | 0 => rfl
  | n + 1 => by rw [Lib.repeatL, repL_one x n]; rfl
theorem rep_ok (x : UInt8) (n : Nat) (hn : n ≤ 140737488355328) : FnC Tryz.prog 54 [str [x], int (n : Int)] [] (fun v L => v = str (List.replicate n x) ∧ L = []) := by
  refine ⟨fun Z w vs hl hr hz hnd hd ho hgl => ?_⟩
  match vs, hl with
  | [a, b], _ =>
    obtain rfl : a = _ := (hr 0 (by simp)).val_eq
    obtain rfl : b = _ := (hr 1 (by simp)).val_eq
    refine (strings_Repeat ⟨[x].toArray⟩ n w (by omega) (by simpa [ByteArray.size] using hn)).mono fun e w' ⟨he, hb⟩ => ?_
    refine ⟨_, str (List.replicate n x), [], he, ⟨rfl, rfl⟩, ?_, ⟨hb.os, hb.tape, hb.output, hb.size, fun k hk _ => hb.block k hk, hz, hnd, fun b hi => by simp [inF, foots] at hi, fun o h => by cases h⟩⟩
    rw [show [x].toArray.toList = [x] from rfl, repL_one]
    exact .val _
end Go.Proofs.YtlfdhkahiaammaaGreatDoor
namespace Go.Proofs.YtlfdhkahiaammaaGreatDoor
open Go Go.Sse
set_option linter.unusedVariables false
set_option linter.unusedSimpArgs false
set_option maxRecDepth 10000
def bigH (h : Hd) : Bool := (((((!fewB h.skips 40 100 || decide (100 < (h.parent.length : Int))) || decide (100 < (h.state.length : Int))) || decide (100 < (h.receipts.length : Int))) || decide (100 < (h.txs.length : Int))) || decide (100 < (h.members.length : Int))) || decide (100 < (h.next.length : Int))
theorem bigH_no {h : Hd} (hb : bigH h = false) : h.skips.length ≤ 40 := by
  simp only [bigH, Bool.or_eq_false_iff, Bool.not_eq_false'] at hb
  exact (few_spec (n := 40) (e := 100) hb.1.1.1.1.1.1).1
end Go.Proofs.YtlfdhkahiaammaaGreatDoor
namespace Go.Proofs.YtlfdhkahiaammaaGreatDoor
open Go Go.Sse
set_option linter.unusedVariables false
set_option linter.unusedSimpArgs false
set_option maxRecDepth 10000
end Go.Proofs.YtlfdhkahiaammaaGreatDoor
