/-
  Lemmas for the claim, part 3.
-/
import Derived.Test.YtmkicbphbegjbaaNetPlaysPb
namespace Go.Proofs.Ytmkicbphbegjbaa
open Go Go.Sse
set_option linter.unusedVariables false
set_option linter.unusedSimpArgs false
set_option maxRecDepth 10000
abbrev tNet : Nat := 102
abbrev tLt : Nat := 59
structure Lt where
  fr : List UInt8
  to_ : List UInt8
  tx : List UInt8
def lt0 : Lt := ⟨[], [], []⟩
def ltC (x : Lt) : List SV := [str x.fr, str x.to_, str x.tx]
abbrev ltU (x : Lt) : List Value := [sv x.fr, sv x.to_, sv x.tx]
abbrev ltV (x : Lt) : Value := .agg (ltU x).toArray
abbrev ltl (l : List Lt) : SV := .sl 3 l.length (elOf ltC lt0 l)
abbrev rowL (v : Value) (l : List Lt) : Own := .row v tLt 3 l.length (elOf ltC lt0 l)
structure Ar where
  k : Nat
  l : Lt
  tm : Int
abbrev arD (a : Ar) : List UInt8 × Int := (keyN a.k, a.tm)
structure NS where
  fates : List UInt8
  now : Int
  posted : Nat
  A : List Ar
structure NetOK (S : NS) (mp : List (List UInt8 × Value)) (n : Nat) : Prop where
  ks : S.A.Pairwise (fun a b => a.k < b.k)
  kl : ∀ a ∈ S.A, a.k < S.posted
  tms : ∀ a ∈ S.A, S.now < a.tm ∧ a.tm ≤ S.now + 16
  lks : ∀ a ∈ S.A, lk mp (keyN a.k) = some (ltV a.l)
  free : ∀ k, S.posted ≤ k → k < 65536 → lk mp (keyN k) = none
  n0 : 0 ≤ S.now
  n1 : S.now ≤ n
  p1 : S.posted ≤ n
  len : S.A.length ≤ S.posted
abbrev ntO (b : Nat) (S : NS) (tb M : Nat) : Own := .obj b tNet [str S.fates, int S.now, int (S.posted : Int), ptr tb, .val (.map (some M))]
def Nw (b : Nat) (S : NS) (n : Nat) (L : List Own) : Prop := ∃ (tb M : Nat) (mp : List (List UInt8 × Value)) (LT : List Own), L = ntO b S tb M :: mapD M mp :: LT ∧ Tm tb (S.A.map arD) n LT ∧ NetOK S mp n
abbrev ns0 (f : List UInt8) : NS := ⟨f, 0, 0, []⟩
theorem net0 (f : List UInt8) : NetOK (ns0 f) [] 0 := ⟨.nil, by simp, by simp, by simp, fun _ _ _ => rfl, Int.le_refl _, Int.le_refl _, Nat.le_refl _, Nat.le_refl _⟩
theorem NetOK.mono {S : NS} {mp : List (List UInt8 × Value)} {n m : Nat} (h : NetOK S mp n) (hm : n ≤ m) : NetOK S mp m := ⟨h.ks, h.kl, h.tms, h.lks, h.free, h.n0, by have := h.n1; omega, by have := h.p1; omega, h.len⟩
theorem Nw.mono {b : Nat} {S : NS} {n m : Nat} {L : List Own} (h : Nw b S n L) (hm : n ≤ m) : Nw b S m L := by
  obtain ⟨tb, M, mp, LT, h1, h2, h3⟩ := h
  exact ⟨tb, M, mp, LT, h1, h2.mono hm, h3.mono hm⟩
set_option maxHeartbeats 4000000 in
theorem nNew_ok (f : List UInt8) : FnC Try.prog 26 [str f] [] (fun r L => ∃ b, r = ptr b ∧ Nw b (ns0 f) 0 L) := by
  refine FnC.intro Try.func26 rfl Try.ntmps26 rfl fun Z w0 hG => ?_
  focus (
 (refine W.seq (W.region (Jx.assign rfl rfl (J.nil (N.seq (W.seq (W.region (Jx.move rfl rfl ?_))))))))
 (refine J.call tNew_ok rfl (evs_args rfl) rfl ?_; rintro _ L0 ⟨tb, rfl, h0⟩; rw [List.append_nil])
 (refine J.makeMap rfl ?_; intro M)
 (refine Jx.buildB rfl rfl rfl rfl rfl ?_)
 (refine J.boxAg rfl rfl ?_; intro b')
 (refine Jx.assign rfl rfl (J.nil (N.seq (W.ret ?_))))
 (refine id ?_; rotate_left))
  exact N.ret (rs := [.tmp 2]) rfl (.tmp rfl .nil) ⟨_, rfl, tb, M, [], L0, rfl, h0, net0 f⟩
theorem nNow_ok (b : Nat) (S : NS) (n : Nat) (L0 : List Own) (h : Nw b S n L0) : FnC Try.prog 34 [ptr b] L0 (fun r L => r = int S.now ∧ L = L0) := by
  obtain ⟨tb, M, mp, LT, rfl, hT, hN⟩ := h
  refine FnC.intro Try.func34 rfl Try.ntmps34 rfl fun Z w0 hG => ?_
  focus (
 (refine W.seq (W.region (Jx.assign rfl rfl (J.nil (N.seq (W.seq (W.region (Jx.move rfl rfl (Jx.nilCheck rfl rfl ?_)))))))))
 (refine Jx.fieldAddr rfl rfl ?_)
 (refine Jx.load rfl 0 rfl rfl rfl ?_)
 (refine Jx.assign rfl rfl (J.nil (N.seq (W.ret ?_))))
 (refine id ?_; rotate_left))
  exact N.ret (rs := [.tmp 2]) rfl (.tmp rfl .nil) ⟨rfl, rfl⟩
theorem nLeft_ok (b : Nat) (S : NS) (n : Nat) (L0 : List Own) (h : Nw b S n L0) : FnC Try.prog 31 [ptr b] L0 (fun r L => r = int (S.A.length : Int) ∧ L = L0) := by
  obtain ⟨tb, M, mp, LT, rfl, hT, hN⟩ := h
  have cl := tLen_ok tb _ n LT hT
  rw [List.length_map] at cl
  refine FnC.intro Try.func31 rfl Try.ntmps31 rfl fun Z w0 hG => ?_
  focus (
 (refine W.seq (W.region (Jx.assign rfl rfl (J.nil (N.seq (W.seq (W.region (Jx.move rfl rfl (Jx.nilCheck rfl rfl ?_)))))))))
 (refine Jx.fieldAddr rfl rfl ?_)
 (refine Jx.load rfl 0 rfl rfl rfl ?_)
 (refine J.perm (List.perm_append_comm (l₁ := [_, _]) (l₂ := LT)) ?_; refine J.call cl rfl (evs_args rfl) rfl ?_; rintro _ L9 ⟨rfl, h9⟩; rw [h9]; refine J.perm (List.perm_append_comm (l₁ := LT) (l₂ := [_, _])) ?_)
 (refine Jx.assign rfl rfl (J.nil (N.seq (W.ret ?_))))
 (refine id ?_; rotate_left))
  exact N.ret (rs := [.tmp 2]) rfl (.tmp rfl .nil) ⟨rfl, rfl⟩
def fateN (f : List UInt8) : Nat := (f.headD 0).toNat
abbrev popF (S : NS) : NS := ⟨S.fates.tail, S.now, S.posted, S.A⟩
theorem nFate_ok (b : Nat) (S : NS) (n : Nat) (L0 : List Own) (h : Nw b S n L0) : FnC Try.prog 44 [ptr b] L0 (fun r L => r = .val (.int .u8 (fateN S.fates : Int)) ∧ Nw b (popF S) n L) := by
  obtain ⟨tb, M, mp, LT, rfl, hT, hN⟩ := h
  obtain ⟨f, now, posted, A⟩ := S
  have hN' : NetOK (popF ⟨f, now, posted, A⟩) mp n := ⟨hN.ks, hN.kl, hN.tms, hN.lks, hN.free, hN.n0, hN.n1, hN.p1, hN.len⟩
  cases f with
  | nil =>
    refine FnC.intro Try.func44 rfl Try.ntmps44 rfl fun Z w0 hG => ?_
    focus (
 (refine W.seq (W.region (Jx.assign rfl rfl (J.nil (N.seq (W.seq (W.seq (W.region (Jx.move rfl rfl (Jx.nilCheck rfl rfl ?_))))))))))
 (refine Jx.fieldAddr rfl rfl ?_)
 (refine Jx.load rfl 0 rfl rfl rfl ?_)
 (refine Jx.eqlS rfl rfl rfl (J.nil (N.seq (W.cT rfl ?_))))
 (refine W.seq (W.region (Jx.assign rfl rfl (J.nil (N.seq (W.ret (N.noGotoRet ?_)))))))
 (refine id ?_; rotate_left))
    exact N.ret (rs := [.tmp 2]) rfl (.tmp rfl .nil) ⟨rfl, tb, M, mp, LT, rfl, hT, hN'⟩
  | cons x f =>
    have hne : ¬ (x :: f) = [] := by simp
    have h1 : (0 : Int) < ((x :: f).length : Int) := by simp only [List.length_cons]; omega
    have h2 : (1 : Int) ≤ ((x :: f).length : Int) := by simp only [List.length_cons]; omega
    refine FnC.intro Try.func44 rfl Try.ntmps44 rfl fun Z w0 hG => ?_
    focus (
 (refine W.seq (W.region (Jx.assign rfl rfl (J.nil (N.seq (W.seq (W.seq (W.region (Jx.move rfl rfl (Jx.nilCheck rfl rfl ?_))))))))))
 (refine Jx.fieldAddr rfl rfl ?_)
 (refine Jx.load rfl 0 rfl rfl rfl ?_)
 (refine Jx.eqlS rfl rfl rfl (J.nil (N.seq (W.cF rfl ?_))))
 (refine W.skip (N.seq (W.seq (W.region (Jx.move rfl rfl (Jx.nilCheck rfl rfl ?_))))))
 (refine Jx.fieldAddr rfl rfl ?_)
 (refine Jx.load rfl 0 rfl rfl rfl ?_)
 (refine Jx.indexS rfl rfl (by decide) h1 rfl ?_)
 (refine Jx.assign rfl rfl (J.nil (N.seq (W.seq (W.region (Jx.move rfl rfl (Jx.move rfl rfl (Jx.nilCheck rfl rfl ?_))))))))
 (refine Jx.fieldAddr rfl rfl ?_)
 (refine Jx.load rfl 0 rfl rfl rfl ?_)
 (refine Jx.sliceSl rfl rfl (by decide) h2 rfl ?_)
 (refine Jx.nilCheck rfl rfl ?_)
 (refine Jx.fieldAddr rfl rfl ?_)
 (refine J.st 0 rfl rfl rfl rfl rfl rfl ?_)
 (refine J.nil (N.seq (W.seq (W.region (Jx.move rfl rfl (Jx.assign rfl rfl (J.nil (N.seq (W.ret ?_)))))))))
 (refine id ?_; rotate_left))
    exact N.ret (rs := [.tmp 2]) rfl (.tmp rfl .nil) ⟨rfl, tb, M, mp, LT, rfl, hT, hN'⟩
abbrev arS (S : NS) (x : Lt) (d : Int) : NS := ⟨S.fates, S.now, S.posted + 1, S.A ++ [⟨S.posted, x, S.now + d⟩]⟩
theorem fresh_key {S : NS} {mp : List (List UInt8 × Value)} {n : Nat} (h : NetOK S mp n) (hn : n ≤ 50000) : keyN S.posted ∉ (S.A.map arD).map (·.1) := by
  intro hh
  obtain ⟨p, hp, e⟩ := List.mem_map.1 hh
  obtain ⟨a, ha, rfl⟩ := List.mem_map.1 hp
  have h1 := h.kl a ha
  have h2 := h.p1
  have := keyN_inj (n := a.k) (m := S.posted) (by omega) (by omega) e
  omega
theorem netArrive {S : NS} {mp : List (List UInt8 × Value)} {n : Nat} (h : NetOK S mp n) (hn : n ≤ 50000) (x : Lt) (d : Int) (hd : 1 ≤ d ∧ d ≤ 16) : NetOK (arS S x d) (mp ++ [(keyN S.posted, ltV x)]) (n + 1) := by
  have hp := h.p1
  refine ⟨?_, fun a ha => ?_, fun a ha => ?_, fun a ha => ?_, fun k hk hk2 => ?_, h.n0, ?_, ?_, ?_⟩
  · simp only [List.pairwise_append, List.pairwise_singleton, List.mem_singleton]
    exact ⟨h.ks, trivial, fun a ha b hb => by rw [hb]; exact h.kl a ha⟩
  · rcases List.mem_append.1 ha with ha | ha
    · have := h.kl a ha; show a.k < S.posted + 1; omega
    · rw [List.mem_singleton.1 ha]; show S.posted < S.posted + 1; omega
  · rcases List.mem_append.1 ha with ha | ha
    · exact h.tms a ha
    · rw [List.mem_singleton.1 ha]; show S.now < S.now + d ∧ S.now + d ≤ S.now + 16; omega
  · rw [lk_snoc]
    rcases List.mem_append.1 ha with ha | ha
    · rw [h.lks a ha]
    · rw [List.mem_singleton.1 ha]
      simp only
      rw [h.free S.posted (Nat.le_refl _) (by omega)]
      simp
  · simp only at hk
    rw [lk_snoc, h.free k (by omega) hk2]
    have : ¬ keyN S.posted = keyN k := fun e => by have := keyN_inj (n := S.posted) (m := k) (by omega) hk2 e; omega
    simp only [if_neg this]
  · have := h.n1; show S.now ≤ ((n + 1 : Nat) : Int); omega
  · show S.posted + 1 ≤ n + 1; omega
  · have := h.len; simp only [List.length_append, List.length_singleton]; omega
set_option maxHeartbeats 4000000 in
theorem nArrive_ok (b : Nat) (S : NS) (n : Nat) (L0 : List Own) (h : Nw b S n L0) (x : Lt) (d : Int) (hd : 1 ≤ d ∧ d ≤ 16) (hn : n ≤ 50000) (hA : S.A.length < 1024) : FnC Try.prog 45 [ptr b, .agg (ltC x), int d] L0 (fun r L => Nw b (arS S x d) (n + 1) L) := by
  obtain ⟨tb, M, mp, LT, rfl, hT, hN⟩ := h
  have hk := fresh_key hN hn
  have hN2 := netArrive hN hn x d hd
  have hp1 := hN.p1
  have hn0 := hN.n0
  have hn1 := hN.n1
  have hlk := hN.free S.posted (Nat.le_refl _) (by omega)
  have ck := key_ok S.posted (by omega)
  have cs := tSet_ok tb _ n LT hT (keyN S.posted) (S.now + d) (by omega) (by rw [List.length_map]; omega)
  rw [setD_in (by omega) (by omega) (by rw [List.length_map]; omega), newD_fresh hk] at cs
  dsimp only at cs
  have hmap : S.A.map arD ++ [(keyN S.posted, S.now + d)] = (S.A ++ [(⟨S.posted, x, S.now + d⟩ : Ar)]).map arD := by rw [List.map_append]; rfl
  rw [hmap] at cs
  have e1 : (S.posted : Int) + 1 = ((S.posted + 1 : Nat) : Int) := by omega
  refine FnC.intro Try.func45 rfl Try.ntmps45 rfl fun Z w0 hG => ?_
  focus (
 (refine W.seq (W.region ?_))
 (refine J.boxAg rfl rfl ?_; intro b')
 (refine J.nil (N.seq (W.seq (W.region (Jx.move rfl rfl (Jx.nilCheck rfl rfl ?_))))))
 (refine Jx.fieldAddr rfl rfl ?_)
 (refine Jx.load rfl 1 rfl rfl rfl ?_)
 (refine J.call (Lc := []) ck rfl (evs_args rfl) rfl ?_; rintro _ _ ⟨rfl, rfl⟩; rw [List.nil_append])
 (refine Jx.assign rfl rfl (J.nil (N.seq (W.seq (W.region (Jx.move rfl rfl (Jx.nilCheck rfl rfl ?_)))))))
 (refine Jx.fieldAddr rfl rfl ?_)
 (refine Jx.load rfl 1 rfl rfl rfl ?_)
 (refine Jx.add64 rfl rfl (by omega) rfl ?_; rw [e1])
 (refine Jx.nilCheck rfl rfl ?_)
 (refine Jx.fieldAddr rfl rfl ?_)
 (refine J.st 1 rfl rfl rfl rfl rfl rfl ?_)
 (refine J.nil (N.seq (W.seq ?_)))
 (refine W.draw follows ?_)
 (refine JD.till (l := [_, _, _, _, _, _, _, _, _, _, _, ⟨some 30, .call _, _, _, _, none⟩, _]) 11 (by decide +kernel) (by decide +kernel) rfl rfl ?_)
 (refine Cx.move rfl rfl ?_)
 (refine Cx.nilCheck rfl rfl ?_)
 (refine Cx.fieldAddr rfl rfl ?_)
 (refine Cx.load rfl 1 rfl rfl rfl ?_)
 (refine Cx.move rfl rfl ?_)
 (refine Cx.move rfl rfl ?_)
 (refine Cx.nilCheck rfl rfl ?_)
 (refine Cx.fieldAddr rfl rfl ?_)
 (refine Cx.load rfl 1 rfl rfl rfl ?_)
 (refine Cx.move rfl rfl ?_)
 (refine Cx.add64 rfl rfl (by omega) rfl ?_)
 (refine SegC.nil ?_)
 (refine J.perm (List.perm_append_comm (l₁ := [_, _, _]) (l₂ := LT)) ?_; refine J.call cs rfl (evs_args rfl) rfl ?_; rintro _ L2 ⟨rfl, hT2⟩; refine J.perm (List.perm_append_comm (l₁ := L2) (l₂ := [_, _, _])) ?_; simp only [List.cons_append, List.nil_append])
 (refine Jx.eqlI rfl rfl rfl (J.nil (N.seq (W.cT rfl ?_))))
 (refine W.draw follows ?_)
 (refine JD.till (l := [_, _, _, _, _, _, ⟨none, .mapUpdate _ _ _ _, _, _, _, none⟩]) 6 (by decide +kernel) (by decide +kernel) rfl rfl ?_)
 (refine Cx.move rfl rfl ?_)
 (refine Cx.nilCheck rfl rfl ?_)
 (refine Cx.fieldAddr rfl rfl ?_)
 (refine Cx.load rfl 1 rfl rfl rfl ?_)
 (refine Cx.move rfl rfl ?_)
 (refine Cx.loadAll rfl 0 rfl rfl rfl ?_)
 (refine SegC.nil ?_)
 (refine J.mapUpdG rfl rfl rfl rfl 2 rfl hlk rfl ?_)
 (refine J.nil ?_)
 (refine id ?_; rotate_left))
  refine N.drop (List.sublist_cons_self _ _) ?_
  exact N.fin (rs := []) rfl .nil ⟨tb, M, _, L2, rfl, hT2, hN2⟩
end Go.Proofs.Ytmkicbphbegjbaa
namespace Go.Proofs.Ytmkicbphbegjbaa
open Go Go.Sse Go.ChangeShapes Go.WideShapes Go.ChangeAt Go.RowKit
set_option linter.unusedVariables false
set_option linter.unusedSimpArgs false
set_option maxRecDepth 100000
structure Na where
  kind : Int
  lt : Lt
def na0 : Na := ⟨0, lt0⟩
def naC (a : Na) : List SV := int a.kind :: ltC a.lt
noncomputable def rdLt : Rd Try.prog 59 Lt :=
  rdIso (Rd.struct (tos := [(9, 0), (9, 1), (9, 2)]) (by kernel_rfl) (Fds.cons rdStr (Fds.cons rdStr (Fds.cons rdStr Fds.nil))) (by kernel_rfl)) (fun x => ⟨x.1, x.2.1, x.2.2.1⟩) (fun m => (m.fr, m.to_, m.tx, ())) (fun _ => rfl) ltC (fun _ => rfl) (fun _ => rfl)
noncomputable def rdNa : Rd Try.prog 71 Na :=
  rdIso (Rd.struct (tos := [(3, 0), (59, 1)]) (by kernel_rfl) (Fds.cons rdInt (Fds.cons rdLt Fds.nil)) (by kernel_rfl)) (fun x => ⟨x.1, x.2.1⟩) (fun m => (m.kind, m.lt, ())) (fun _ => rfl) naC (fun _ => rfl) (fun _ => rfl)
noncomputable def rdNas : Rd Try.prog 66 (List Na) := Rd.slice (by kernel_rfl) (by kernel_rfl) rdNa rfl
end Go.Proofs.Ytmkicbphbegjbaa
namespace Go.Proofs.Ytmkicbphbegjbaa
open Go Go.Sse
set_option linter.unusedVariables false
set_option linter.unusedSimpArgs false
set_option maxRecDepth 10000
abbrev dF (S : NS) : Nat := fateN S.fates / 4 % 8
def stepN (S : NS) (x : Lt) : NS :=
  if fateN S.fates % 4 = 1 then popF S
  else if fateN S.fates % 4 = 2 then arS (arS (popF S) x (1 + (dF S : Int))) x (2 + 2 * (dF S : Int))
  else if fateN S.fates % 4 = 3 then arS (popF S) x (1 + 2 * (dF S : Int))
  else arS (popF S) x (1 + (dF S : Int))
def okL (x : Lt) : Prop := okN x.fr = true ∧ okN x.to_ = true ∧ x.tx.length ≤ 65536
instance (x : Lt) : Decidable (okL x) := by unfold okL; exact inferInstance
def postN (S : NS) (x : Lt) : NS × Int := if okL x then (if 1022 < S.A.length then (S, 2) else (stepN S x, 0)) else (S, 1)
theorem postN_bad {S : NS} {x : Lt} (h : ¬ okL x) : postN S x = (S, 1) := if_neg h
theorem postN_full {S : NS} {x : Lt} (h : okL x) (k : 1022 < S.A.length) : postN S x = (S, 2) := (if_pos h).trans (if_pos k)
theorem postN_ok {S : NS} {x : Lt} (h : okL x) (k : ¬ 1022 < S.A.length) : postN S x = (stepN S x, 0) := (if_pos h).trans (if_neg k)
theorem fateN_lt (f : List UInt8) : fateN f < 256 := UInt8.toNat_lt _
theorem and7 : ∀ m : Fin 64, IntKind.u8.wrap ((BitVec.ofInt IntKind.u8.bits ((m.1 : Nat) : Int) &&& BitVec.ofInt IntKind.u8.bits 7).toNat) = ((m.1 % 8 : Nat) : Int) := by decide +kernel
theorem and3 : ∀ m : Fin 256, IntKind.u8.wrap ((BitVec.ofInt IntKind.u8.bits ((m.1 : Nat) : Int) &&& BitVec.ofInt IntKind.u8.bits 3).toNat) = ((m.1 % 4 : Nat) : Int) := by decide +kernel
theorem wrap8 : ∀ m : Fin 8, IntKind.i64.wrap ((m.1 : Nat) : Int) = ((m.1 : Nat) : Int) := by decide +kernel
set_option maxHeartbeats 8000000 in
theorem nPost_ok (b : Nat) (S : NS) (n : Nat) (L0 : List Own) (h : Nw b S n L0) (x : Lt) (hn : n ≤ 40000) : FnC Try.prog 27 [ptr b, .agg (ltC x)] L0 (fun r L => r = int (postN S x).2 ∧ Nw b (postN S x).1 (n + 2) L) := by
  have hup := h.mono (show n ≤ n + 2 by omega)
  have h' := h
  obtain ⟨tb, M, mp, LT, rfl, hT, hN⟩ := h
  have cn1 := name_ok x.fr
  have cn2 := name_ok x.to_
  by_cases g1 : okN x.fr = true
  case neg =>
    rw [postN_bad (fun hh => g1 hh.1)]
    have g1' : okN x.fr = false := by simpa using g1
    rw [g1'] at cn1
    refine FnC.intro Try.func27 rfl Try.ntmps27 rfl fun Z w0 hG => ?_
    focus (
 (refine W.seq (W.region ?_))
 (refine J.boxAg rfl rfl ?_; intro b')
 (refine Jx.assign rfl rfl (J.nil (N.seq (W.seq (W.seq (W.region (Jx.fieldAddr rfl rfl ?_)))))))
 (refine Jx.load rfl 0 rfl rfl rfl ?_)
 (refine J.call (Lc := []) cn1 rfl (evs_args rfl) rfl ?_; rintro _ _ ⟨rfl, rfl⟩; rw [List.nil_append])
 (refine Jx.not rfl rfl (Jx.move rfl rfl (J.gN rfl rfl rfl rfl ?_)))
 (refine J.gN rfl rfl rfl rfl ?_)
 (refine J.gN rfl rfl rfl rfl ?_)
 (refine J.gN rfl rfl rfl rfl ?_)
 (refine Jx.pT rfl rfl rfl ?_)
 (refine Jx.move rfl rfl (J.gN rfl rfl rfl rfl ?_))
 (refine J.gN rfl rfl rfl rfl ?_)
 (refine J.gN rfl rfl rfl rfl ?_)
 (refine J.gN rfl rfl rfl rfl ?_)
 (refine Jx.pT rfl rfl rfl ?_)
 (refine J.nil (N.seq (W.cT rfl ?_)))
 (refine W.seq (W.region (Jx.assign rfl rfl (J.nil (N.seq (W.ret (N.noGotoRet ?_)))))))
 (refine id ?_; rotate_left))
    exact N.retD (rs := [.tmp 4]) rfl (.tmp rfl .nil) (List.sublist_cons_self _ _) ⟨rfl, hup⟩
  rw [g1] at cn1
  by_cases g2 : okN x.to_ = true
  case neg =>
    rw [postN_bad (fun hh => g2 hh.2.1)]
    have g2' : okN x.to_ = false := by simpa using g2
    rw [g2'] at cn2
    refine FnC.intro Try.func27 rfl Try.ntmps27 rfl fun Z w0 hG => ?_
    focus (
 (refine W.seq (W.region ?_))
 (refine J.boxAg rfl rfl ?_; intro b')
 (refine Jx.assign rfl rfl (J.nil (N.seq (W.seq (W.seq (W.region (Jx.fieldAddr rfl rfl ?_)))))))
 (refine Jx.load rfl 0 rfl rfl rfl ?_)
 (refine J.call (Lc := []) cn1 rfl (evs_args rfl) rfl ?_; rintro _ _ ⟨rfl, rfl⟩; rw [List.nil_append])
 (refine Jx.not rfl rfl (Jx.move rfl rfl (J.gY rfl rfl rfl ?_)))
 (refine Jx.fieldAddr rfl rfl ?_)
 (refine J.gY rfl rfl rfl ?_)
 (refine Jx.load rfl 0 rfl rfl rfl ?_)
 (refine J.gY rfl rfl rfl ?_)
 (refine J.call (Lc := []) cn2 rfl (evs_args rfl) rfl ?_; rintro _ _ ⟨rfl, rfl⟩; rw [List.nil_append])
 (refine J.gY rfl rfl rfl ?_)
 (refine Jx.not rfl rfl (Jx.pF rfl rfl rfl ?_))
 (refine Jx.move rfl rfl (J.gN rfl rfl rfl rfl ?_))
 (refine J.gN rfl rfl rfl rfl ?_)
 (refine J.gN rfl rfl rfl rfl ?_)
 (refine J.gN rfl rfl rfl rfl ?_)
 (refine Jx.pT rfl rfl rfl ?_)
 (refine J.nil (N.seq (W.cT rfl ?_)))
 (refine W.seq (W.region (Jx.assign rfl rfl (J.nil (N.seq (W.ret (N.noGotoRet ?_)))))))
 (refine id ?_; rotate_left))
    exact N.retD (rs := [.tmp 4]) rfl (.tmp rfl .nil) (List.sublist_cons_self _ _) ⟨rfl, hup⟩
  rw [g2] at cn2
  by_cases g3 : x.tx.length ≤ 65536
  case neg =>
    rw [postN_bad (fun hh => g3 hh.2.2)]
    have g3' : (65536 : Int) < (x.tx.length : Int) := by omega
    refine FnC.intro Try.func27 rfl Try.ntmps27 rfl fun Z w0 hG => ?_
    focus (
 (refine W.seq (W.region ?_))
 (refine J.boxAg rfl rfl ?_; intro b')
 (refine Jx.assign rfl rfl (J.nil (N.seq (W.seq (W.seq (W.region (Jx.fieldAddr rfl rfl ?_)))))))
 (refine Jx.load rfl 0 rfl rfl rfl ?_)
 (refine J.call (Lc := []) cn1 rfl (evs_args rfl) rfl ?_; rintro _ _ ⟨rfl, rfl⟩; rw [List.nil_append])
 (refine Jx.not rfl rfl (Jx.move rfl rfl (J.gY rfl rfl rfl ?_)))
 (refine Jx.fieldAddr rfl rfl ?_)
 (refine J.gY rfl rfl rfl ?_)
 (refine Jx.load rfl 0 rfl rfl rfl ?_)
 (refine J.gY rfl rfl rfl ?_)
 (refine J.call (Lc := []) cn2 rfl (evs_args rfl) rfl ?_; rintro _ _ ⟨rfl, rfl⟩; rw [List.nil_append])
 (refine J.gY rfl rfl rfl ?_)
 (refine Jx.not rfl rfl (Jx.pF rfl rfl rfl ?_))
 (refine Jx.move rfl rfl (J.gY rfl rfl rfl ?_))
 (refine Jx.fieldAddr rfl rfl ?_)
 (refine J.gY rfl rfl rfl ?_)
 (refine Jx.load rfl 0 rfl rfl rfl ?_)
 (refine J.gY rfl rfl rfl ?_)
 (refine Jx.lenS rfl rfl ?_)
 (refine J.gY rfl rfl rfl ?_)
 (refine Jx.gtrI rfl rfl rfl (Jx.pF rfl rfl rfl ?_))
 (refine J.nil (N.seq (W.cT rfl ?_)))
 (refine W.seq (W.region (Jx.assign rfl rfl (J.nil (N.seq (W.ret (N.noGotoRet ?_)))))))
 (refine id ?_; rotate_left))
    exact N.retD (rs := [.tmp 4]) rfl (.tmp rfl .nil) (List.sublist_cons_self _ _) ⟨rfl, hup⟩
  have g3' : ¬ (65536 : Int) < (x.tx.length : Int) := by omega
  have cl := tLen_ok tb _ n LT hT
  rw [List.length_map] at cl
  by_cases g4 : 1022 < S.A.length
  case pos =>
    have g4' : (1022 : Int) < (S.A.length : Int) := by omega
    rw [postN_full ⟨g1, g2, g3⟩ g4]
    refine FnC.intro Try.func27 rfl Try.ntmps27 rfl fun Z w0 hG => ?_
    focus (
 (refine W.seq (W.region ?_))
 (refine J.boxAg rfl rfl ?_; intro b')
 (refine Jx.assign rfl rfl (J.nil (N.seq (W.seq (W.seq (W.region (Jx.fieldAddr rfl rfl ?_)))))))
 (refine Jx.load rfl 0 rfl rfl rfl ?_)
 (refine J.call (Lc := []) cn1 rfl (evs_args rfl) rfl ?_; rintro _ _ ⟨rfl, rfl⟩; rw [List.nil_append])
 (refine Jx.not rfl rfl (Jx.move rfl rfl (J.gY rfl rfl rfl ?_)))
 (refine Jx.fieldAddr rfl rfl ?_)
 (refine J.gY rfl rfl rfl ?_)
 (refine Jx.load rfl 0 rfl rfl rfl ?_)
 (refine J.gY rfl rfl rfl ?_)
 (refine J.call (Lc := []) cn2 rfl (evs_args rfl) rfl ?_; rintro _ _ ⟨rfl, rfl⟩; rw [List.nil_append])
 (refine J.gY rfl rfl rfl ?_)
 (refine Jx.not rfl rfl (Jx.pF rfl rfl rfl ?_))
 (refine Jx.move rfl rfl (J.gY rfl rfl rfl ?_))
 (refine Jx.fieldAddr rfl rfl ?_)
 (refine J.gY rfl rfl rfl ?_)
 (refine Jx.load rfl 0 rfl rfl rfl ?_)
 (refine J.gY rfl rfl rfl ?_)
 (refine Jx.lenS rfl rfl ?_)
 (refine J.gY rfl rfl rfl ?_)
 (refine Jx.gtrI rfl rfl rfl (Jx.pF rfl rfl rfl ?_))
 (refine J.nil (N.seq (W.cF rfl ?_)))
 (refine W.skip (N.seq (W.seq (W.seq (W.region (Jx.move rfl rfl (Jx.nilCheck rfl rfl ?_)))))))
 (refine Jx.fieldAddr rfl rfl ?_)
 (refine Jx.load rfl 1 rfl rfl rfl ?_)
 (refine J.perm (List.perm_append_comm (l₁ := [_, _, _]) (l₂ := LT)) ?_; refine J.call cl rfl (evs_args rfl) rfl ?_; rintro _ L9 ⟨rfl, h9⟩; rw [h9]; refine J.perm (List.perm_append_comm (l₁ := LT) (l₂ := [_, _, _])) ?_; simp only [List.cons_append, List.nil_append])
 (refine Jx.gtrI rfl rfl rfl (J.nil (N.seq (W.cT rfl ?_))))
 (refine W.seq (W.region (Jx.assign rfl rfl (J.nil (N.seq (W.ret (N.noGotoRet ?_)))))))
 (refine id ?_; rotate_left))
    exact N.retD (rs := [.tmp 4]) rfl (.tmp rfl .nil) (List.sublist_cons_self _ _) ⟨rfl, hup⟩
  have g4' : ¬ (1022 : Int) < (S.A.length : Int) := by omega
  rw [postN_ok ⟨g1, g2, g3⟩ g4]
  have cf := nFate_ok b S n _ h'
  have hf := fateN_lt S.fates
  have a7 := and7 ⟨fateN S.fates / 2 ^ 2, by omega⟩
  have a3 := and3 ⟨fateN S.fates, hf⟩
  have aw := wrap8 ⟨fateN S.fates / 2 ^ 2 % 8, Nat.mod_lt _ (by decide)⟩
  simp only at a7 a3 aw
  have hd8 : fateN S.fates / 2 ^ 2 % 8 < 8 := Nat.mod_lt _ (by decide)
  have hdF : dF S = fateN S.fates / 2 ^ 2 % 8 := rfl
  unfold stepN
  rw [hdF]
  have hm4 : fateN S.fates % 4 < 4 := Nat.mod_lt _ (by decide)
  have ca := fun L1 (h1 : Nw b (popF S) n L1) (d : Int) (hd : 1 ≤ d ∧ d ≤ 16) => nArrive_ok b (popF S) n L1 h1 x d hd (by omega) (by simp only; omega)
  have ca2 := fun L1 (d0 : Int) (h1 : Nw b (arS (popF S) x d0) (n + 1) L1) (d : Int) (hd : 1 ≤ d ∧ d ≤ 16) => nArrive_ok b (arS (popF S) x d0) (n + 1) L1 h1 x d hd (by omega) (by simp only [List.length_append, List.length_singleton]; omega)
  by_cases k1 : fateN S.fates % 4 = 1
  · rw [k1] at a3
    rw [if_pos k1]
    generalize fateN S.fates / 2 ^ 2 % 8 = d at *
    refine FnC.intro Try.func27 rfl Try.ntmps27 rfl fun Z w0 hG => ?_
    focus (
 (refine W.seq (W.region ?_))
 (refine J.boxAg rfl rfl ?_; intro b')
 (refine Jx.assign rfl rfl (J.nil (N.seq (W.seq (W.seq (W.region (Jx.fieldAddr rfl rfl ?_)))))))
 (refine Jx.load rfl 0 rfl rfl rfl ?_)
 (refine J.call (Lc := []) cn1 rfl (evs_args rfl) rfl ?_; rintro _ _ ⟨rfl, rfl⟩; rw [List.nil_append])
 (refine Jx.not rfl rfl (Jx.move rfl rfl (J.gY rfl rfl rfl ?_)))
 (refine Jx.fieldAddr rfl rfl ?_)
 (refine J.gY rfl rfl rfl ?_)
 (refine Jx.load rfl 0 rfl rfl rfl ?_)
 (refine J.gY rfl rfl rfl ?_)
 (refine J.call (Lc := []) cn2 rfl (evs_args rfl) rfl ?_; rintro _ _ ⟨rfl, rfl⟩; rw [List.nil_append])
 (refine J.gY rfl rfl rfl ?_)
 (refine Jx.not rfl rfl (Jx.pF rfl rfl rfl ?_))
 (refine Jx.move rfl rfl (J.gY rfl rfl rfl ?_))
 (refine Jx.fieldAddr rfl rfl ?_)
 (refine J.gY rfl rfl rfl ?_)
 (refine Jx.load rfl 0 rfl rfl rfl ?_)
 (refine J.gY rfl rfl rfl ?_)
 (refine Jx.lenS rfl rfl ?_)
 (refine J.gY rfl rfl rfl ?_)
 (refine Jx.gtrI rfl rfl rfl (Jx.pF rfl rfl rfl ?_))
 (refine J.nil (N.seq (W.cF rfl ?_)))
 (refine W.skip (N.seq (W.seq (W.seq (W.region (Jx.move rfl rfl (Jx.nilCheck rfl rfl ?_)))))))
 (refine Jx.fieldAddr rfl rfl ?_)
 (refine Jx.load rfl 1 rfl rfl rfl ?_)
 (refine J.perm (List.perm_append_comm (l₁ := [_, _, _]) (l₂ := LT)) ?_; refine J.call cl rfl (evs_args rfl) rfl ?_; rintro _ L9 ⟨rfl, h9⟩; rw [h9]; refine J.perm (List.perm_append_comm (l₁ := LT) (l₂ := [_, _, _])) ?_; simp only [List.cons_append, List.nil_append])
 (refine Jx.gtrI rfl rfl rfl (J.nil (N.seq (W.cF rfl ?_))))
 (refine W.skip (N.seq (W.seq (W.region (Jx.move rfl rfl ?_)))))
 (refine J.perm (List.perm_append_comm (l₁ := [_]) (l₂ := ntO b S tb M :: mapD M mp :: LT)) ?_; refine J.call cf rfl (evs_args rfl) rfl ?_; rintro _ L1 ⟨rfl, h1⟩; refine J.perm (List.perm_append_comm (l₁ := L1) (l₂ := [_])) ?_; simp only [List.cons_append, List.nil_append])
 (refine Jx.assign rfl rfl (J.nil (N.seq (W.seq (W.region (Jx.move rfl rfl (Jx.shrN (n := fateN S.fates) (s := 2) rfl rfl rfl (by decide) rfl ?_)))))))
 (refine Jx.band rfl rfl rfl ?_; rw [a7])
 (refine Jx.convI (by kernel_rfl) rfl rfl ?_; rw [aw])
 (refine Jx.assign rfl rfl (J.nil (N.seq (W.seq (W.seq (W.region (Jx.move rfl rfl ?_)))))))
 (refine Jx.band rfl rfl rfl ?_; rw [a3])
 (refine J.nil (N.seq (W.block (W.seq (W.region (Jx.eqlI rfl rfl rfl (Jx.assign rfl rfl (J.nil (N.seq (W.cT rfl ?_))))))))))
 (refine W.skip (N.seq (W.seq (W.region (Jx.assign rfl rfl (J.nil (N.seq (W.ret ?_))))))))
 (refine id ?_; rotate_left))
    exact N.retD (rs := [.tmp 4]) rfl (.tmp rfl .nil) (List.sublist_cons_self _ _) ⟨rfl, h1.mono (by omega)⟩
  by_cases k2 : fateN S.fates % 4 = 2
  · rw [k2] at a3
    rw [if_neg k1, if_pos k2]
    generalize fateN S.fates / 2 ^ 2 % 8 = d at *
    refine FnC.intro Try.func27 rfl Try.ntmps27 rfl fun Z w0 hG => ?_
    focus (
 (refine W.seq (W.region ?_))
 (refine J.boxAg rfl rfl ?_; intro b')
 (refine Jx.assign rfl rfl (J.nil (N.seq (W.seq (W.seq (W.region (Jx.fieldAddr rfl rfl ?_)))))))
 (refine Jx.load rfl 0 rfl rfl rfl ?_)
 (refine J.call (Lc := []) cn1 rfl (evs_args rfl) rfl ?_; rintro _ _ ⟨rfl, rfl⟩; rw [List.nil_append])
 (refine Jx.not rfl rfl (Jx.move rfl rfl (J.gY rfl rfl rfl ?_)))
 (refine Jx.fieldAddr rfl rfl ?_)
 (refine J.gY rfl rfl rfl ?_)
 (refine Jx.load rfl 0 rfl rfl rfl ?_)
 (refine J.gY rfl rfl rfl ?_)
 (refine J.call (Lc := []) cn2 rfl (evs_args rfl) rfl ?_; rintro _ _ ⟨rfl, rfl⟩; rw [List.nil_append])
 (refine J.gY rfl rfl rfl ?_)
 (refine Jx.not rfl rfl (Jx.pF rfl rfl rfl ?_))
 (refine Jx.move rfl rfl (J.gY rfl rfl rfl ?_))
 (refine Jx.fieldAddr rfl rfl ?_)
 (refine J.gY rfl rfl rfl ?_)
 (refine Jx.load rfl 0 rfl rfl rfl ?_)
 (refine J.gY rfl rfl rfl ?_)
 (refine Jx.lenS rfl rfl ?_)
 (refine J.gY rfl rfl rfl ?_)
 (refine Jx.gtrI rfl rfl rfl (Jx.pF rfl rfl rfl ?_))
 (refine J.nil (N.seq (W.cF rfl ?_)))
 (refine W.skip (N.seq (W.seq (W.seq (W.region (Jx.move rfl rfl (Jx.nilCheck rfl rfl ?_)))))))
 (refine Jx.fieldAddr rfl rfl ?_)
 (refine Jx.load rfl 1 rfl rfl rfl ?_)
 (refine J.perm (List.perm_append_comm (l₁ := [_, _, _]) (l₂ := LT)) ?_; refine J.call cl rfl (evs_args rfl) rfl ?_; rintro _ L9 ⟨rfl, h9⟩; rw [h9]; refine J.perm (List.perm_append_comm (l₁ := LT) (l₂ := [_, _, _])) ?_; simp only [List.cons_append, List.nil_append])
 (refine Jx.gtrI rfl rfl rfl (J.nil (N.seq (W.cF rfl ?_))))
 (refine W.skip (N.seq (W.seq (W.region (Jx.move rfl rfl ?_)))))
 (refine J.perm (List.perm_append_comm (l₁ := [_]) (l₂ := ntO b S tb M :: mapD M mp :: LT)) ?_; refine J.call cf rfl (evs_args rfl) rfl ?_; rintro _ L1 ⟨rfl, h1⟩; refine J.perm (List.perm_append_comm (l₁ := L1) (l₂ := [_])) ?_; simp only [List.cons_append, List.nil_append])
 (refine Jx.assign rfl rfl (J.nil (N.seq (W.seq (W.region (Jx.move rfl rfl (Jx.shrN (n := fateN S.fates) (s := 2) rfl rfl rfl (by decide) rfl ?_)))))))
 (refine Jx.band rfl rfl rfl ?_; rw [a7])
 (refine Jx.convI (by kernel_rfl) rfl rfl ?_; rw [aw])
 (refine Jx.assign rfl rfl (J.nil (N.seq (W.seq (W.seq (W.region (Jx.move rfl rfl ?_)))))))
 (refine Jx.band rfl rfl rfl ?_; rw [a3])
 (refine J.nil (N.seq (W.block (W.seq (W.region (Jx.eqlI rfl rfl rfl (Jx.assign rfl rfl (J.nil (N.seq (W.cF rfl ?_))))))))))
 (refine W.seq (W.region (Jx.eqlI rfl rfl rfl (Jx.assign rfl rfl (J.nil (N.seq (W.cT rfl ?_)))))))
 (refine W.seq (W.region (Jx.move rfl rfl (Jx.loadAll rfl 0 rfl rfl rfl ?_))))
 (refine Jx.move rfl rfl (Jx.add64 rfl rfl (by omega) rfl ?_))
 (refine J.perm (List.perm_append_comm (l₁ := [_]) (l₂ := L1)) ?_; refine J.call (ca L1 h1 (1 + (d : Int)) (by omega)) rfl (evs_args rfl) rfl ?_; rintro _ L2 h2; refine J.perm (List.perm_append_comm (l₁ := L2) (l₂ := [_])) ?_; simp only [List.cons_append, List.nil_append])
 (refine J.nil (N.seq (W.region (Jx.move rfl rfl (Jx.loadAll rfl 0 rfl rfl rfl ?_)))))
 (refine Jx.move rfl rfl (Jx.mul64 rfl rfl (by omega) rfl ?_))
 (refine Jx.add64 rfl rfl (by omega) rfl ?_)
 (refine J.perm (List.perm_append_comm (l₁ := [_]) (l₂ := L2)) ?_; refine J.call (ca2 L2 (1 + (d : Int)) h2 (2 + 2 * (d : Int)) (by omega)) rfl (evs_args rfl) rfl ?_; rintro _ L3 h3; refine J.perm (List.perm_append_comm (l₁ := L3) (l₂ := [_])) ?_; simp only [List.cons_append, List.nil_append])
 (refine J.nil (N.seq (W.seq (W.region (Jx.assign rfl rfl (J.nil (N.seq (W.ret ?_))))))))
 (refine id ?_; rotate_left))
    exact N.retD (rs := [.tmp 4]) rfl (.tmp rfl .nil) (List.sublist_cons_self _ _) ⟨rfl, h3⟩
  by_cases k3 : fateN S.fates % 4 = 3
  · rw [k3] at a3
    rw [if_neg k1, if_neg k2, if_pos k3]
    generalize fateN S.fates / 2 ^ 2 % 8 = d at *
    refine FnC.intro Try.func27 rfl Try.ntmps27 rfl fun Z w0 hG => ?_
    focus (
 (refine W.seq (W.region ?_))
 (refine J.boxAg rfl rfl ?_; intro b')
 (refine Jx.assign rfl rfl (J.nil (N.seq (W.seq (W.seq (W.region (Jx.fieldAddr rfl rfl ?_)))))))
 (refine Jx.load rfl 0 rfl rfl rfl ?_)
 (refine J.call (Lc := []) cn1 rfl (evs_args rfl) rfl ?_; rintro _ _ ⟨rfl, rfl⟩; rw [List.nil_append])
 (refine Jx.not rfl rfl (Jx.move rfl rfl (J.gY rfl rfl rfl ?_)))
 (refine Jx.fieldAddr rfl rfl ?_)
 (refine J.gY rfl rfl rfl ?_)
 (refine Jx.load rfl 0 rfl rfl rfl ?_)
 (refine J.gY rfl rfl rfl ?_)
 (refine J.call (Lc := []) cn2 rfl (evs_args rfl) rfl ?_; rintro _ _ ⟨rfl, rfl⟩; rw [List.nil_append])
 (refine J.gY rfl rfl rfl ?_)
 (refine Jx.not rfl rfl (Jx.pF rfl rfl rfl ?_))
 (refine Jx.move rfl rfl (J.gY rfl rfl rfl ?_))
 (refine Jx.fieldAddr rfl rfl ?_)
 (refine J.gY rfl rfl rfl ?_)
 (refine Jx.load rfl 0 rfl rfl rfl ?_)
 (refine J.gY rfl rfl rfl ?_)
 (refine Jx.lenS rfl rfl ?_)
 (refine J.gY rfl rfl rfl ?_)
 (refine Jx.gtrI rfl rfl rfl (Jx.pF rfl rfl rfl ?_))
 (refine J.nil (N.seq (W.cF rfl ?_)))
 (refine W.skip (N.seq (W.seq (W.seq (W.region (Jx.move rfl rfl (Jx.nilCheck rfl rfl ?_)))))))
 (refine Jx.fieldAddr rfl rfl ?_)
 (refine Jx.load rfl 1 rfl rfl rfl ?_)
 (refine J.perm (List.perm_append_comm (l₁ := [_, _, _]) (l₂ := LT)) ?_; refine J.call cl rfl (evs_args rfl) rfl ?_; rintro _ L9 ⟨rfl, h9⟩; rw [h9]; refine J.perm (List.perm_append_comm (l₁ := LT) (l₂ := [_, _, _])) ?_; simp only [List.cons_append, List.nil_append])
 (refine Jx.gtrI rfl rfl rfl (J.nil (N.seq (W.cF rfl ?_))))
 (refine W.skip (N.seq (W.seq (W.region (Jx.move rfl rfl ?_)))))
 (refine J.perm (List.perm_append_comm (l₁ := [_]) (l₂ := ntO b S tb M :: mapD M mp :: LT)) ?_; refine J.call cf rfl (evs_args rfl) rfl ?_; rintro _ L1 ⟨rfl, h1⟩; refine J.perm (List.perm_append_comm (l₁ := L1) (l₂ := [_])) ?_; simp only [List.cons_append, List.nil_append])
 (refine Jx.assign rfl rfl (J.nil (N.seq (W.seq (W.region (Jx.move rfl rfl (Jx.shrN (n := fateN S.fates) (s := 2) rfl rfl rfl (by decide) rfl ?_)))))))
 (refine Jx.band rfl rfl rfl ?_; rw [a7])
 (refine Jx.convI (by kernel_rfl) rfl rfl ?_; rw [aw])
 (refine Jx.assign rfl rfl (J.nil (N.seq (W.seq (W.seq (W.region (Jx.move rfl rfl ?_)))))))
 (refine Jx.band rfl rfl rfl ?_; rw [a3])
 (refine J.nil (N.seq (W.block (W.seq (W.region (Jx.eqlI rfl rfl rfl (Jx.assign rfl rfl (J.nil (N.seq (W.cF rfl ?_))))))))))
 (refine W.seq (W.region (Jx.eqlI rfl rfl rfl (Jx.assign rfl rfl (J.nil (N.seq (W.cF rfl ?_)))))))
 (refine W.seq (W.region (Jx.eqlI rfl rfl rfl (Jx.assign rfl rfl (J.nil (N.seq (W.cT rfl ?_)))))))
 (refine W.region (Jx.move rfl rfl (Jx.loadAll rfl 0 rfl rfl rfl ?_)))
 (refine Jx.move rfl rfl (Jx.mul64 rfl rfl (by omega) rfl ?_))
 (refine Jx.add64 rfl rfl (by omega) rfl ?_)
 (refine J.perm (List.perm_append_comm (l₁ := [_]) (l₂ := L1)) ?_; refine J.call (ca L1 h1 (1 + 2 * (d : Int)) (by omega)) rfl (evs_args rfl) rfl ?_; rintro _ L2 h2; refine J.perm (List.perm_append_comm (l₁ := L2) (l₂ := [_])) ?_; simp only [List.cons_append, List.nil_append])
 (refine J.nil (N.seq (W.seq (W.region (Jx.assign rfl rfl (J.nil (N.seq (W.ret ?_))))))))
 (refine id ?_; rotate_left))
    exact N.retD (rs := [.tmp 4]) rfl (.tmp rfl .nil) (List.sublist_cons_self _ _) ⟨rfl, h2.mono (by omega)⟩
  · have k0 : fateN S.fates % 4 = 0 := by omega
    rw [k0] at a3
    rw [if_neg k1, if_neg k2, if_neg k3]
    generalize fateN S.fates / 2 ^ 2 % 8 = d at *
    refine FnC.intro Try.func27 rfl Try.ntmps27 rfl fun Z w0 hG => ?_
    focus (
 (refine W.seq (W.region ?_))
 (refine J.boxAg rfl rfl ?_; intro b')
 (refine Jx.assign rfl rfl (J.nil (N.seq (W.seq (W.seq (W.region (Jx.fieldAddr rfl rfl ?_)))))))
 (refine Jx.load rfl 0 rfl rfl rfl ?_)
 (refine J.call (Lc := []) cn1 rfl (evs_args rfl) rfl ?_; rintro _ _ ⟨rfl, rfl⟩; rw [List.nil_append])
 (refine Jx.not rfl rfl (Jx.move rfl rfl (J.gY rfl rfl rfl ?_)))
 (refine Jx.fieldAddr rfl rfl ?_)
 (refine J.gY rfl rfl rfl ?_)
 (refine Jx.load rfl 0 rfl rfl rfl ?_)
 (refine J.gY rfl rfl rfl ?_)
 (refine J.call (Lc := []) cn2 rfl (evs_args rfl) rfl ?_; rintro _ _ ⟨rfl, rfl⟩; rw [List.nil_append])
 (refine J.gY rfl rfl rfl ?_)
 (refine Jx.not rfl rfl (Jx.pF rfl rfl rfl ?_))
 (refine Jx.move rfl rfl (J.gY rfl rfl rfl ?_))
 (refine Jx.fieldAddr rfl rfl ?_)
 (refine J.gY rfl rfl rfl ?_)
 (refine Jx.load rfl 0 rfl rfl rfl ?_)
 (refine J.gY rfl rfl rfl ?_)
 (refine Jx.lenS rfl rfl ?_)
 (refine J.gY rfl rfl rfl ?_)
 (refine Jx.gtrI rfl rfl rfl (Jx.pF rfl rfl rfl ?_))
 (refine J.nil (N.seq (W.cF rfl ?_)))
 (refine W.skip (N.seq (W.seq (W.seq (W.region (Jx.move rfl rfl (Jx.nilCheck rfl rfl ?_)))))))
 (refine Jx.fieldAddr rfl rfl ?_)
 (refine Jx.load rfl 1 rfl rfl rfl ?_)
 (refine J.perm (List.perm_append_comm (l₁ := [_, _, _]) (l₂ := LT)) ?_; refine J.call cl rfl (evs_args rfl) rfl ?_; rintro _ L9 ⟨rfl, h9⟩; rw [h9]; refine J.perm (List.perm_append_comm (l₁ := LT) (l₂ := [_, _, _])) ?_; simp only [List.cons_append, List.nil_append])
 (refine Jx.gtrI rfl rfl rfl (J.nil (N.seq (W.cF rfl ?_))))
 (refine W.skip (N.seq (W.seq (W.region (Jx.move rfl rfl ?_)))))
 (refine J.perm (List.perm_append_comm (l₁ := [_]) (l₂ := ntO b S tb M :: mapD M mp :: LT)) ?_; refine J.call cf rfl (evs_args rfl) rfl ?_; rintro _ L1 ⟨rfl, h1⟩; refine J.perm (List.perm_append_comm (l₁ := L1) (l₂ := [_])) ?_; simp only [List.cons_append, List.nil_append])
 (refine Jx.assign rfl rfl (J.nil (N.seq (W.seq (W.region (Jx.move rfl rfl (Jx.shrN (n := fateN S.fates) (s := 2) rfl rfl rfl (by decide) rfl ?_)))))))
 (refine Jx.band rfl rfl rfl ?_; rw [a7])
 (refine Jx.convI (by kernel_rfl) rfl rfl ?_; rw [aw])
 (refine Jx.assign rfl rfl (J.nil (N.seq (W.seq (W.seq (W.region (Jx.move rfl rfl ?_)))))))
 (refine Jx.band rfl rfl rfl ?_; rw [a3])
 (refine J.nil (N.seq (W.block (W.seq (W.region (Jx.eqlI rfl rfl rfl (Jx.assign rfl rfl (J.nil (N.seq (W.cF rfl ?_))))))))))
 (refine W.seq (W.region (Jx.eqlI rfl rfl rfl (Jx.assign rfl rfl (J.nil (N.seq (W.cF rfl ?_)))))))
 (refine W.seq (W.region (Jx.eqlI rfl rfl rfl (Jx.assign rfl rfl (J.nil (N.seq (W.cF rfl ?_)))))))
 (refine W.region (Jx.move rfl rfl (Jx.loadAll rfl 0 rfl rfl rfl ?_)))
 (refine Jx.move rfl rfl (Jx.add64 rfl rfl (by omega) rfl ?_))
 (refine J.perm (List.perm_append_comm (l₁ := [_]) (l₂ := L1)) ?_; refine J.call (ca L1 h1 (1 + (d : Int)) (by omega)) rfl (evs_args rfl) rfl ?_; rintro _ L2 h2; refine J.perm (List.perm_append_comm (l₁ := L2) (l₂ := [_])) ?_; simp only [List.cons_append, List.nil_append])
 (refine J.nil (N.seq (W.seq (W.region (Jx.assign rfl rfl (J.nil (N.seq (W.ret ?_))))))))
 (refine id ?_; rotate_left))
    exact N.retD (rs := [.tmp 4]) rfl (.tmp rfl .nil) (List.sublist_cons_self _ _) ⟨rfl, h2.mono (by omega)⟩
end Go.Proofs.Ytmkicbphbegjbaa
namespace Go.Proofs.Ytmkicbphbegjbaa
open Go Go.Sse
set_option linter.unusedVariables false
set_option linter.unusedSimpArgs false
set_option maxRecDepth 10000
theorem due_now (t : Int) : ∀ D : Dd, (∀ p ∈ D, t ≤ p.2) → due D t = ((D.filter (fun p => decide (p.2 ≤ t))).map (·.1), D.filter (fun p => decide (t < p.2))) := by
  refine due_ind _ t (fun D h hD => ?_) (fun D h ih hD => ?_)
  · have hr := due_rest t D
    rw [due_stop h] at hr ⊢
    simp only at hr
    rw [List.filter_eq_nil_iff.2 (fun p hp => by have := hr p hp; simp; omega), List.filter_eq_self.2 (fun p hp => by have := hr p hp; simp; omega)]
    rfl
  · have h0 := h.1
    have hl0 := firstD_lt h0
    have e0 := due_go h
    have h20 := h.2
    rw [atD_get hl0] at e0 h20
    obtain ⟨k, hl, hlt, h2, e1, ih⟩ : ∃ k, ∃ hl : k < D.length, (∀ j (hj : j < k), D[k].2 < (D[j]'(by omega)).2) ∧ D[k].2 ≤ t ∧ due D t = (D[k].1 :: (due (D.eraseIdx k) t).1, (due (D.eraseIdx k) t).2) ∧ ((∀ p ∈ D.eraseIdx k, t ≤ p.2) → due (D.eraseIdx k) t = (((D.eraseIdx k).filter (fun p => decide (p.2 ≤ t))).map (·.1), (D.eraseIdx k).filter (fun p => decide (t < p.2)))) := ⟨firstD D, hl0, firstD_lt_all _ rfl, h20, e0, ih⟩
    rw [e1]
    have hs : D = D.take k ++ D[k] :: D.drop (k + 1) := by rw [← List.drop_eq_getElem_cons hl, List.take_append_drop]
    have he : D.eraseIdx k = D.take k ++ D.drop (k + 1) := List.eraseIdx_eq_take_drop_succ _ _
    rw [ih (fun p hp => hD p ((List.eraseIdx_sublist _ _).subset hp)), he]
    have h1 := hD D[k] (List.getElem_mem hl)
    generalize D[k] = q at *
    have htk : ∀ p ∈ D.take k, t < p.2 := by
      intro p hp
      obtain ⟨j, hj, e⟩ := List.getElem_of_mem hp
      rw [List.length_take] at hj
      have := hlt j (by omega)
      rw [List.getElem_take] at e
      rw [e] at this
      omega
    have f1 : (D.take k).filter (fun p => decide (p.2 ≤ t)) = [] := List.filter_eq_nil_iff.2 fun p hp => by have := htk p hp; simp; omega
    rw [List.filter_append, List.filter_append, f1, List.nil_append]
    conv => rhs; rw [hs]
    rw [List.filter_append, List.filter_append, f1, List.nil_append, List.filter_cons_of_pos (by simp; exact h2), List.filter_cons_of_neg (by simp; omega)]
    rfl
abbrev dueA (S : NS) : List Ar := S.A.filter (fun a => decide (a.tm ≤ S.now + 1))
abbrev restA (S : NS) : List Ar := S.A.filter (fun a => decide (S.now + 1 < a.tm))
abbrev tickN (S : NS) : NS := ⟨S.fates, S.now + 1, S.posted, restA S⟩
theorem due_net {S : NS} {mp : List (List UInt8 × Value)} {n : Nat} (h : NetOK S mp n) : due (S.A.map arD) (S.now + 1) = ((dueA S).map (fun a => keyN a.k), (restA S).map arD) := by
  rw [due_now]
  · rw [List.filter_map, List.filter_map, List.map_map]; rfl
  · intro p hp
    obtain ⟨a, ha, rfl⟩ := List.mem_map.1 hp
    have := h.tms a ha
    show S.now + 1 ≤ a.tm
    omega
structure TkS where
  j : Nat
  v : Value
  out : List Lt
  mp : List (List UInt8 × Value)
set_option maxHeartbeats 8000000 in
theorem nTick_ok (b : Nat) (S : NS) (n : Nat) (L0 : List Own) (h : Nw b S n L0) (hn : n ≤ 40000) : FnC Try.prog 30 [ptr b] L0 (fun r L => ∃ v L1, v.oneCell' = true ∧ r = .val v ∧ L = rowL v ((dueA S).map Ar.l) :: L1 ∧ Nw b (tickN S) (n + 1) L1) := by
  obtain ⟨tb, M, mp, LT, rfl, hT, hN⟩ := h
  have hn0 := hN.n0
  have hn1 := hN.n1
  have hp1 := hN.p1
  have hlen := hN.len
  have cd := tDue_ok tb _ n LT hT (S.now + 1) (by rw [List.length_map]; omega)
  rw [due_net hN] at cd
  dsimp only at cd
  have hdl : (dueA S).length ≤ S.A.length := List.length_filter_le _ _
  have hdm : ∀ a ∈ dueA S, a ∈ S.A := fun a ha => (List.mem_filter.1 ha).1
  have hds : (dueA S).Pairwise (fun a b => a.k < b.k) := hN.ks.sublist List.filter_sublist
  have hrm : ∀ a ∈ restA S, a ∈ S.A ∧ ∀ d ∈ dueA S, a.k ≠ d.k := by
    intro a ha
    have h1 := List.mem_filter.1 ha
    refine ⟨h1.1, fun d hd e => ?_⟩
    have h2 := List.mem_filter.1 hd
    have h3 : a = d := by
      obtain ⟨i, hi, rfl⟩ := List.getElem_of_mem h1.1
      obtain ⟨j, hj, rfl⟩ := List.getElem_of_mem h2.1
      have hp := List.pairwise_iff_getElem.1 hN.ks
      rcases Nat.lt_trichotomy i j with q | q | q
      · have := hp i j hi hj q; omega
      · subst q; rfl
      · have := hp j i hj hi q; omega
    subst h3
    have q1 := h1.2
    have q2 := h2.2
    simp only [decide_eq_true_eq] at q1 q2
    omega
  have hkk : ∀ a ∈ S.A, ∀ d ∈ S.A, a.k ≠ d.k → keyN a.k ≠ keyN d.k := fun a ha d hd hne e => by
    have h1 := hN.kl a ha
    have h2 := hN.kl d hd
    exact hne (keyN_inj (by omega) (by omega) e)
  have hfr : ∀ k, S.posted ≤ k → k < 65536 → ∀ d ∈ S.A, keyN k ≠ keyN d.k := fun k h1 h2 d hd e => by
    have h3 := hN.kl d hd
    have := keyN_inj (n := k) (m := d.k) h2 (by omega) e
    omega
  have hlks := hN.lks
  have hfree := hN.free
  generalize hDue : dueA S = Q at *
  generalize hRest : restA S = R at *
  have hmN : (Q.map (fun a => keyN a.k)).length ≤ maxLen := by rw [List.length_map]; simp only [maxLen]; omega
  have hNl : (Q.map (fun a => keyN a.k)).length = Q.length := List.length_map _
  refine FnC.intro Try.func30 rfl Try.ntmps30 rfl fun Z w0 hG => ?_
  refine W.rowNil tLt 3 (elOf ltC lt0 []) ?_
  focus (
 (refine W.seq (W.region (Jx.assign rfl rfl (J.nil (N.seq (W.seq (W.region (Jx.move rfl rfl (Jx.nilCheck rfl rfl ?_)))))))))
 (refine Jx.fieldAddr rfl rfl ?_)
 (refine Jx.load rfl 1 rfl rfl rfl ?_)
 (refine Jx.add64 rfl rfl (by omega) rfl ?_)
 (refine Jx.nilCheck rfl rfl ?_)
 (refine Jx.fieldAddr rfl rfl ?_)
 (refine J.st 1 rfl rfl rfl rfl rfl rfl ?_)
 (refine J.nil (N.seq (W.seq (W.region (Jx.assign rfl rfl (J.nil (N.seq (W.seq (W.seq ?_)))))))))
 (refine W.draw follows ?_)
 (refine JD.begin 11 rfl ?_; refine JP.more [0, 1, 2, 3, 4, 5, 6, 7, 10] _ rfl (by decide +kernel) ?_)
 (refine Cx.move rfl rfl ?_)
 (refine Cx.nilCheck rfl rfl ?_)
 (refine Cx.fieldAddr rfl rfl ?_)
 (refine Cx.load rfl 1 rfl rfl rfl ?_)
 (refine Cx.move rfl rfl ?_)
 (refine Cx.nilCheck rfl rfl ?_)
 (refine Cx.fieldAddr rfl rfl ?_)
 (refine Cx.load rfl 1 rfl rfl rfl ?_)
 (refine Cx.move rfl rfl ?_)
 (refine SegC.nil ?_)
 (focus (refine JP.callP (idx := [0, 1, 2, 3, 4, 5, 6, 7, 10]) 8 [16, 20] [0, 1, 2, 3, 4, 5, 6, 7, 8] [10] cd (List.perm_append_comm (l₁ := [_, _, _]) (l₂ := LT)) (by decide +kernel) rfl ?_ (evs_args rfl) rfl ?_; rotate_left); rintro _ _ ⟨v2, L2, hv2, rfl, rfl, hT2⟩; rw [List.cons_append]; refine JP.freeze 21 rfl (by decide +kernel) hmN ?_; refine JP.perm (List.perm_append_comm (l₁ := L2) (l₂ := [_, _, _])) ?_; refine JP.more [9] _ rfl (by decide +kernel) ?_)
 (refine Cx.lenSl rfl rfl ?_)
 (refine SegC.nil ?_)
 (refine JP.tail (idx := [10, 9]) 11 (by decide +kernel) (by decide +kernel) rfl rfl ?_ ?_)
 (refine Cx.move rfl rfl ?_)
 (refine Cx.lenSl rfl rfl ?_)
 (refine SegC.nil ?_)
 (refine Ag.cons rfl ?_)
 (refine Ag.cons rfl ?_)
 (refine Ag.nil)
 (refine J.nil (N.seq (W.block ?_)))
 (refine id ?_; rotate_left)
 (refine Cx.move rfl rfl ?_)
 (refine Cx.nilCheck rfl rfl ?_)
 (refine Cx.fieldAddr rfl rfl ?_)
 (refine Cx.load rfl 1 rfl rfl rfl ?_)
 (refine Cx.move rfl rfl ?_)
 (refine Cx.nilCheck rfl rfl ?_)
 (refine Cx.fieldAddr rfl rfl ?_)
 (refine Cx.load rfl 1 rfl rfl rfl ?_)
 (refine Cx.move rfl rfl ?_)
 (refine SegC.nil ?_)
 (refine Ag.cons rfl ?_)
 (refine Ag.cons rfl ?_)
 (refine Ag.cons rfl ?_)
 (refine Ag.cons rfl ?_)
 (refine Ag.cons rfl ?_)
 (refine Ag.cons rfl ?_)
 (refine Ag.cons rfl ?_)
 (refine Ag.cons rfl ?_)
 (refine Ag.cons rfl ?_)
 (refine Ag.nil))
  refine W.loop (α := TkS) (fun x => [(23, int (x.j : Int)), (22, int ((Q.map (fun a => keyN a.k)).length : Int)), (21, ssl (Q.map (fun a => keyN a.k))), (3, .val x.v), (0, ptr b)]) (fun x => rowL x.v x.out :: .obj b tNet [str S.fates, int (S.now + 1), int (S.posted : Int), ptr tb, .val (.map (some M))] :: mapD M x.mp :: L2) (fun x => x.j ≤ Q.length ∧ x.out = (Q.take x.j).map Ar.l ∧ x.v.oneCell' = true ∧ (∀ a ∈ Q.drop x.j, lk x.mp (keyN a.k) = some (ltV a.l)) ∧ (∀ a ∈ R, lk x.mp (keyN a.k) = some (ltV a.l)) ∧ ∀ k, S.posted ≤ k → k < 65536 → lk x.mp (keyN k) = none) (fun x => Q.length - x.j) ⟨0, .slice none 0 0, [], mp⟩ ⟨Nat.zero_le _, rfl, rfl, fun a ha => hlks a (hdm a ha), fun a ha => hlks a (hrm a ha).1, hfree⟩ rfl ⟨ref0 rfl, ref0 rfl, ref0 rfl, ref0 rfl, ref0 rfl, trivial⟩ ?_
  rintro ⟨j, v, out, mp'⟩ ⟨hj, ho, hv, hq, hr, hz⟩
  simp only at hj ho hv hq hr hz ⊢
  by_cases h1 : j < Q.length
  · have hjn : j < (Q.map (fun a => keyN a.k)).length := by omega
    have hj' : (j : Int) < ((Q.map (fun a => keyN a.k)).length : Int) := by omega
    have e3 : (j : Int) + 1 = ((j + 1 : Nat) : Int) := by omega
    have hd : Q.drop j = Q[j] :: Q.drop (j + 1) := List.drop_eq_getElem_cons h1
    have htk : Q.take (j + 1) = Q.take j ++ [Q[j]] := by rw [List.take_add_one, List.getElem?_eq_getElem h1]; rfl
    have hqj := hdm Q[j] (List.getElem_mem h1)
    have hlk := hq Q[j] (by rw [hd]; exact List.mem_cons_self)
    have hnm : (Q.map (fun a => keyN a.k)).getD j [] = keyN Q[j].k := by rw [List.getD_eq_getElem?_getD, List.getElem?_map, List.getElem?_eq_getElem h1]; rfl
    have hlt : ∀ a ∈ Q.drop (j + 1), a ∈ S.A ∧ a.k ≠ Q[j].k := by
      intro a ha
      have hp := hds.sublist (List.drop_sublist j Q)
      rw [hd] at hp
      have := (List.pairwise_cons.1 hp).1 a ha
      exact ⟨hdm a ((List.drop_sublist _ _).subset ha), by omega⟩
    have hrj : ∀ a ∈ R, a.k ≠ Q[j].k := fun a ha => (hrm a ha).2 _ (List.getElem_mem h1)
    have hol : out.length ≤ Q.length := by rw [ho, List.length_map, List.length_take]; omega
    have ho2 : out ++ [Q[j].l] = (Q.take (j + 1)).map Ar.l := by rw [htk, List.map_append, ← ho]; rfl
    have hq2 : ∀ a ∈ Q.drop j, lk mp' (keyN a.k) = some (ltV a.l) := hq
    rw [hd] at hq2
    generalize Q[j] = q at *
    have hmx : out.length + [q.l].length ≤ maxLen ∧ (out.length + [q.l].length) * 48 ≤ 140737488355328 := by simp only [maxLen, List.length_cons, List.length_nil]; omega
    focus (
 (refine W.seq (W.region (Jx.lssI rfl rfl rfl (J.nil (N.seq (W.seq (W.cT rfl ?_)))))))
 (refine W.skip (N.seq (W.seq (W.block (W.seq (W.region ?_))))))
 (refine Jx.indexEl rfl rfl hjn rfl rfl ?_; rw [hnm])
 (refine Jx.loadPP rfl rfl ?_)
 (refine Jx.assign rfl rfl (J.nil (N.seq (W.seq (W.region (Jx.move rfl rfl (Jx.move rfl rfl (Jx.nilCheck rfl rfl ?_))))))))
 (refine Jx.fieldAddr rfl rfl ?_)
 (refine Jx.load rfl 1 rfl rfl rfl ?_)
 (refine Jx.move rfl rfl ?_)
 (refine Jx.lookupG rfl rfl 2 rfl (ltU q.l) hlk rfl rfl ?_)
 (refine J.qs (Qs.buildOne ltC lt0 q.l rfl rfl rfl rfl rfl rfl rfl) rfl ?_)
 (refine J.appendAt (enc := ltC) (l := out) (l2 := [q.l]) 0 rfl rfl (SrcOK.sl rfl) rfl rfl hmx rfl ?_; intro v' hv'; rw [List.set_cons_zero])
 (refine Jx.assign rfl rfl (J.nil (N.seq (W.region (Jx.move rfl rfl (Jx.nilCheck rfl rfl ?_))))))
 (refine Jx.fieldAddr rfl rfl ?_)
 (refine Jx.load rfl 1 rfl rfl rfl ?_)
 (refine Jx.move rfl rfl (J.deleteS rfl rfl 2 rfl rfl ?_))
 (refine J.nil (N.seq (W.region ?_)))
 (refine Jx.add64 rfl rfl (by omega) rfl ?_; rw [e3])
 (refine Jx.move rfl rfl (J.nil ?_))
 (refine id ?_; rotate_left))
    exact N.round ⟨j + 1, v', out ++ [q.l], unk mp' (keyN q.k)⟩ ⟨h1, ho2, hv', fun a ha => by rw [lk_unk (hkk a (hlt a ha).1 q hqj (hlt a ha).2)]; exact hq2 a (List.mem_cons_of_mem _ ha), fun a ha => by rw [lk_unk (hkk a (hrm a ha).1 q hqj (hrj a ha))]; exact hr a ha, fun k h3 h4 => by rw [lk_unk (hfr k h3 h4 q hqj)]; exact hz k h3 h4⟩ (by simp only; omega) rfl ⟨ref0 rfl, ref0 rfl, ref0 rfl, ref0 rfl, ref0 rfl, trivial⟩
  · have hj' : ¬ (j : Int) < ((Q.map (fun a => keyN a.k)).length : Int) := by omega
    rw [List.take_of_length_le (by omega)] at ho
    subst ho
    focus (
 (refine W.seq (W.region (Jx.lssI rfl rfl rfl (J.nil (N.seq (W.seq (W.cF rfl ?_)))))))
 (refine W.exit (N.seq (W.seq (W.region (Jx.move rfl rfl (Jx.assign rfl rfl (J.nil (N.seq (W.ret ?_)))))))))
 (refine id ?_; rotate_left))
    refine N.ret (rs := [.tmp 2]) rfl (.tmp rfl .nil) ⟨v, _, hv, rfl, rfl, tb, M, mp', L2, rfl, ?_, ?_⟩
    · rw [show (tickN S).A = R from hRest]
      exact hT2.mono (by omega)
    · have hA : (tickN S).A = R := hRest
      have hRl : R.length ≤ S.A.length := by rw [← hRest]; exact List.length_filter_le _ _
      refine ⟨by rw [hA, ← hRest]; exact hN.ks.sublist List.filter_sublist, by rw [hA]; exact fun a ha => hN.kl a (hrm a ha).1, ?_, by rw [hA]; exact hr, hz, ?_, ?_, ?_, ?_⟩
      · rw [hA]
        intro a ha
        have h2 := hN.tms a (hrm a ha).1
        have h3 : S.now + 1 < a.tm := by
          rw [← hRest] at ha
          have := (List.mem_filter.1 ha).2
          simpa using this
        exact ⟨h3, by show a.tm ≤ S.now + 1 + 16; omega⟩
      · show 0 ≤ S.now + 1; omega
      · show S.now + 1 ≤ ((n + 1 : Nat) : Int); omega
      · show S.posted ≤ n + 1; omega
      · rw [hA]; show R.length ≤ S.posted; omega
end Go.Proofs.Ytmkicbphbegjbaa
namespace Go.Proofs.Ytmkicbphbegjbaa
open Go Go.Sse
set_option linter.unusedVariables false
set_option linter.unusedSimpArgs false
set_option maxRecDepth 10000
abbrev ltA (s : List UInt8) : Lt := ⟨[97], [98], s⟩
theorem okA {s : List UInt8} (h : s.length ≤ 65536) : okL (ltA s) := ⟨rfl, rfl, h⟩
set_option maxHeartbeats 8000000 in
theorem nworks_ok : FnC Try.prog 25 [] [] (fun r L => r = Sse.bool true ∧ L = []) := by
  have c1 : ∀ b L, Nw b (ns0 [1, 6]) 0 L → FnC Try.prog 27 [ptr b, .agg (ltC (ltA [120]))] L (fun r L' => r = int 0 ∧ Nw b ⟨[6], 0, 0, []⟩ 2 L') := fun b L h => by
    have := nPost_ok b _ 0 L h (ltA [120]) (by decide)
    rw [postN_ok (okA (by decide)) (by simp)] at this
    exact this
  have c2 : ∀ b L, Nw b ⟨[6], 0, 0, []⟩ 2 L → FnC Try.prog 27 [ptr b, .agg (ltC (ltA [121]))] L (fun r L' => r = int 0 ∧ Nw b ⟨[], 0, 2, [⟨0, ltA [121], 2⟩, ⟨1, ltA [121], 4⟩]⟩ 4 L') := fun b L h => by
    have := nPost_ok b _ 2 L h (ltA [121]) (by decide)
    rw [postN_ok (okA (by decide)) (by simp)] at this
    exact this
  have c3 : ∀ b L, Nw b ⟨[], 0, 2, [⟨0, ltA [121], 2⟩, ⟨1, ltA [121], 4⟩]⟩ 4 L → FnC Try.prog 30 [ptr b] L (fun r L' => ∃ v L1, v.oneCell' = true ∧ r = .val v ∧ L' = rowL v [] :: L1 ∧ Nw b ⟨[], 1, 2, [⟨0, ltA [121], 2⟩, ⟨1, ltA [121], 4⟩]⟩ 5 L1) := fun b L h => nTick_ok b _ 4 L h (by decide)
  have c4 : ∀ b L, Nw b ⟨[], 1, 2, [⟨0, ltA [121], 2⟩, ⟨1, ltA [121], 4⟩]⟩ 5 L → FnC Try.prog 30 [ptr b] L (fun r L' => ∃ v L1, v.oneCell' = true ∧ r = .val v ∧ L' = rowL v [ltA [121]] :: L1 ∧ Nw b ⟨[], 2, 2, [⟨1, ltA [121], 4⟩]⟩ 6 L1) := fun b L h => nTick_ok b _ 5 L h (by decide)
  have c5 : ∀ b L, Nw b ⟨[], 2, 2, [⟨1, ltA [121], 4⟩]⟩ 6 L → FnC Try.prog 30 [ptr b] L (fun r L' => ∃ v L1, v.oneCell' = true ∧ r = .val v ∧ L' = rowL v [] :: L1 ∧ Nw b ⟨[], 3, 2, [⟨1, ltA [121], 4⟩]⟩ 7 L1) := fun b L h => nTick_ok b _ 6 L h (by decide)
  have c6 : ∀ b L, Nw b ⟨[], 3, 2, [⟨1, ltA [121], 4⟩]⟩ 7 L → FnC Try.prog 30 [ptr b] L (fun r L' => ∃ v L1, v.oneCell' = true ∧ r = .val v ∧ L' = rowL v [ltA [121]] :: L1 ∧ Nw b ⟨[], 4, 2, []⟩ 8 L1) := fun b L h => nTick_ok b _ 7 L h (by decide)
  have c7 : ∀ b L, Nw b ⟨[], 4, 2, []⟩ 8 L → FnC Try.prog 31 [ptr b] L (fun r L' => r = int 0 ∧ L' = L) := fun b L h => nLeft_ok b _ 8 L h
  have k0 : ∀ b : Nat, ¬ (Value.pointer (some ⟨b, 0, none⟩) = Value.pointer none) := fun b h => by cases h
  have hm0 : ([] : List Lt).length ≤ maxLen := by simp only [maxLen]; decide
  have hm1 : ([ltA [121]] : List Lt).length ≤ maxLen := by simp only [maxLen]; decide
  have i0 : 0 < ([ltA [121]] : List Lt).length := by decide
  have hn := nNew_ok [1, 6]
  refine FnC.intro Try.func25 rfl Try.ntmps25 rfl fun Z w0 hG => ?_
  focus (
 (refine W.seq (W.region (Jx.assign rfl rfl (J.nil (N.seq (W.seq (W.region ?_)))))))
 (refine J.call hn rfl (evs_args rfl) rfl ?_; rintro _ L0 ⟨b, rfl, h0⟩; rw [List.append_nil])
 (refine Jx.assign rfl rfl (J.nil (N.seq (W.seq (W.seq (W.region (Jx.move rfl rfl (Jx.eqlNil rfl rfl ?_))))))))
 (refine J.nil (N.seq (W.cF rfl ?_)))
 (refine W.skip (N.seq (W.seq (W.region (Jx.move rfl rfl (Jx.buildB rfl rfl rfl rfl rfl ?_))))))
 (refine J.call (c1 b L0 h0) (List.append_nil _).symm (evs_args rfl) rfl ?_; rintro _ L1 ⟨rfl, h1⟩; rw [List.append_nil])
 (refine Jx.move rfl rfl (Jx.buildB rfl rfl rfl rfl rfl ?_))
 (refine J.call (c2 b L1 h1) (List.append_nil _).symm (evs_args rfl) rfl ?_; rintro _ L2 ⟨rfl, h2⟩; rw [List.append_nil])
 (refine Jx.assign rfl rfl (Jx.assign rfl rfl (J.nil (N.seq (W.seq (W.region (Jx.move rfl rfl ?_)))))))
 (refine J.call (c3 b L2 h2) (List.append_nil _).symm (evs_args rfl) rfl ?_; rintro _ _ ⟨v3, L3, hv3, rfl, rfl, h3⟩; rw [List.append_nil]; refine J.freeze 18 rfl hm0 ?_)
 (refine Jx.move rfl rfl ?_)
 (refine J.call (c4 b L3 h3) (List.append_nil _).symm (evs_args rfl) rfl ?_; rintro _ _ ⟨v4, L4, hv4, rfl, rfl, h4⟩; rw [List.append_nil]; refine J.freeze 20 rfl hm1 ?_)
 (refine Jx.move rfl rfl ?_)
 (refine J.call (c5 b L4 h4) (List.append_nil _).symm (evs_args rfl) rfl ?_; rintro _ _ ⟨v5, L5, hv5, rfl, rfl, h5⟩; rw [List.append_nil]; refine J.freeze 22 rfl hm0 ?_)
 (refine Jx.move rfl rfl ?_)
 (refine J.call (c6 b L5 h5) (List.append_nil _).symm (evs_args rfl) rfl ?_; rintro _ _ ⟨v6, L6, hv6, rfl, rfl, h6⟩; rw [List.append_nil]; refine J.freeze 24 rfl hm1 ?_)
 (refine Jx.assign rfl rfl (Jx.assign rfl rfl (Jx.assign rfl rfl (Jx.assign rfl rfl (J.nil (N.seq (W.seq (W.region (Jx.move rfl rfl (Jx.eqlI rfl rfl rfl (Jx.move rfl rfl (J.gY rfl rfl rfl ?_))))))))))))
 (refine Jx.move rfl rfl (J.gY rfl rfl rfl ?_))
 (refine Jx.eqlI rfl rfl rfl (Jx.pT rfl rfl rfl ?_))
 (refine Jx.move rfl rfl (J.gY rfl rfl rfl ?_))
 (refine Jx.move rfl rfl (J.gY rfl rfl rfl ?_))
 (refine Jx.lenSl rfl rfl ?_)
 (refine J.gY rfl rfl rfl ?_)
 (refine Jx.eqlI rfl rfl rfl (Jx.pT rfl rfl rfl ?_))
 (refine Jx.move rfl rfl (J.gY rfl rfl rfl ?_))
 (refine Jx.move rfl rfl (J.gY rfl rfl rfl ?_))
 (refine Jx.lenSl rfl rfl ?_)
 (refine J.gY rfl rfl rfl ?_)
 (refine Jx.eqlI rfl rfl rfl (Jx.pT rfl rfl rfl ?_))
 (refine Jx.move rfl rfl (J.gY rfl rfl rfl ?_))
 (refine Jx.move rfl rfl (J.gY rfl rfl rfl ?_))
 (refine Jx.lenSl rfl rfl ?_)
 (refine J.gY rfl rfl rfl ?_)
 (refine Jx.eqlI rfl rfl rfl (Jx.pT rfl rfl rfl ?_))
 (refine Jx.move rfl rfl (J.gY rfl rfl rfl ?_))
 (refine Jx.move rfl rfl (J.gY rfl rfl rfl ?_))
 (refine Jx.lenSl rfl rfl ?_)
 (refine J.gY rfl rfl rfl ?_)
 (refine Jx.eqlI rfl rfl rfl (Jx.pT rfl rfl rfl ?_))
 (refine Jx.move rfl rfl (J.gY rfl rfl rfl ?_))
 (refine Jx.move rfl rfl (J.gY rfl rfl rfl ?_))
 (refine Jx.indexEl (j := 0) rfl rfl i0 rfl rfl ?_)
 (refine J.gY rfl rfl rfl ?_)
 (refine Jx.fieldEl rfl rfl rfl ?_)
 (refine J.gY rfl rfl rfl ?_)
 (refine Jx.loadPP rfl rfl ?_)
 (refine J.gY rfl rfl rfl ?_)
 (refine Jx.eqlS rfl rfl rfl (Jx.pT rfl rfl rfl ?_))
 (refine Jx.move rfl rfl (J.gY rfl rfl rfl ?_))
 (refine Jx.move rfl rfl (J.gY rfl rfl rfl ?_))
 (refine J.call (c7 b L6 h6) (List.append_nil _).symm (evs_args rfl) rfl ?_; rintro _ L7 ⟨rfl, h7⟩; rw [h7, List.append_nil])
 (refine J.gY rfl rfl rfl ?_)
 (refine Jx.eqlI rfl rfl rfl (Jx.pT rfl rfl rfl ?_))
 (refine Jx.assign rfl rfl (J.nil (N.seq (W.ret ?_))))
 (refine id ?_; rotate_left))
  exact N.retD (rs := [.tmp 0]) (L1 := []) rfl (.tmp rfl .nil) (List.nil_sublist _) ⟨rfl, rfl⟩
structure PnS where
  i : Nat
  S : NS
  L : List Own
end Go.Proofs.Ytmkicbphbegjbaa
namespace Go.Proofs.Ytmkicbphbegjbaa
open Go Go.Sse
set_option linter.unusedVariables false
set_option linter.unusedSimpArgs false
set_option maxRecDepth 10000
abbrev tRn : Nat := 69
abbrev tRl : Nat := 75
theorem agRn : TAg Try.prog tRn 3 := inferInstance
def ar0 : Ar := ⟨0, lt0, 0⟩
def rlC (a : Ar) : List SV := [str a.l.fr, str a.l.to_, str a.l.tx, int a.tm]
abbrev rll (A : List Ar) : SV := .sl 4 A.length (elOf rlC ar0 A)
abbrev rowR (v : Value) (A : List Ar) : Own := .row v tRl 4 A.length (elOf rlC ar0 A)
def rnC (S : NS) : List SV := [str S.fates, int S.now, rll S.A]
abbrev islR (l : List Int) : SV := .sl 1 l.length (elOf (fun n : Int => [int n]) 0 l)
def newA (p : Nat) (now : Int) (x : Lt) : List Int → List Ar
  | [] => []
  | d :: r => ⟨p, x, now + d⟩ :: newA (p + 1) now x r
theorem newA_snoc (now : Int) (x : Lt) (d : Int) : ∀ (l : List Int) (p : Nat), newA p now x (l ++ [d]) = newA p now x l ++ [⟨p + l.length, x, now + d⟩]
  | [], p => rfl
  | e :: l, p => by
    rw [List.cons_append, newA, newA_snoc now x d l (p + 1), newA, List.cons_append]
    simp only [List.length_cons]
    rw [show p + 1 + l.length = p + (l.length + 1) by omega]
theorem newA_len (now : Int) (x : Lt) : ∀ (l : List Int) (p : Nat), (newA p now x l).length = l.length
  | [], _ => rfl
  | _ :: l, p => by rw [newA, List.length_cons, newA_len now x l, List.length_cons]
def aft (S : NS) : List Int :=
  if fateN S.fates % 4 = 1 then [] else if fateN S.fates % 4 = 2 then [1 + (dF S : Int), 2 + 2 * (dF S : Int)] else if fateN S.fates % 4 = 3 then [1 + 2 * (dF S : Int)] else [1 + (dF S : Int)]
theorem stepN_eq (S : NS) (x : Lt) : rnC (stepN S x) = [str S.fates.tail, int S.now, rll (S.A ++ newA S.posted S.now x (aft S))] := by
  unfold stepN aft
  split
  · simp only [newA, List.append_nil]; rfl
  split
  · simp only [newA]; rw [rnC]; simp only [List.append_assoc]; rfl
  split
  · rfl
  · rfl
structure RpS where
  i : Nat
  v : Value
  out : List Ar
set_option maxHeartbeats 16000000 in
theorem rPost_ok (S : NS) (x : Lt) (z : Int) (hA : S.A.length ≤ 10000) (hw : 0 ≤ S.now ∧ S.now ≤ 1000000) : FnC Try.prog 32 [.agg (rnC S), .agg [str x.fr, str x.to_, str x.tx, int z]] [] (fun r L => r = .tup [.agg (rnC (postN S x).1), int (postN S x).2] ∧ L = []) := by
  have cn1 := rname_ok x.fr
  have cn2 := rname_ok x.to_
  by_cases g1 : okN x.fr = true
  case neg =>
    rw [postN_bad (fun hh => g1 hh.1)]
    have g1' : okN x.fr = false := by simpa using g1
    rw [g1'] at cn1
    refine FnC.intro Try.func32 rfl Try.ntmps32 rfl fun Z w0 hG => ?_
    focus (
 (refine W.seq (W.region ?_))
 (refine J.boxAg (d := 2) rfl rfl ?_; intro p2)
 (refine J.boxAg (d := 3) rfl rfl ?_; intro p3)
 (refine J.alloc (d := 4) (by simp only [List.map_cons, List.map_nil]; rfl) rfl rfl ?_; intro p4)
 (refine Jx.assign rfl rfl (J.nil (N.seq (W.seq (W.seq (W.region (Jx.fieldAddr rfl rfl ?_)))))))
 (refine Jx.load rfl 1 rfl rfl rfl ?_)
 (refine J.call (Lc := []) cn1 rfl (evs_args rfl) rfl ?_; rintro _ _ ⟨rfl, rfl⟩; rw [List.nil_append])
 (refine Jx.not rfl rfl (Jx.move rfl rfl (J.gN rfl rfl rfl rfl ?_)))
 (refine J.gN rfl rfl rfl rfl ?_)
 (refine J.gN rfl rfl rfl rfl ?_)
 (refine J.gN rfl rfl rfl rfl ?_)
 (refine Jx.pT rfl rfl rfl ?_)
 (refine Jx.move rfl rfl (J.gN rfl rfl rfl rfl ?_))
 (refine J.gN rfl rfl rfl rfl ?_)
 (refine J.gN rfl rfl rfl rfl ?_)
 (refine J.gN rfl rfl rfl rfl ?_)
 (refine Jx.pT rfl rfl rfl ?_)
 (refine J.nil (N.seq (W.cT rfl ?_)))
 (refine W.seq (W.region (Jx.loadAll rfl 2 rfl rfl rfl ?_)))
 (refine J.storeAll rfl rfl rfl 0 rfl rfl rfl ?_)
 (refine Jx.assign rfl rfl (J.nil (N.seq (W.ret (N.noGotoRet ?_)))))
 (refine id ?_; rotate_left))
    exact N.retD (rs := [.cell 4 tRn, .tmp 5]) (L1 := []) rfl (.cell rfl 0 rfl agRn (.tmp rfl .nil)) (List.nil_sublist _) ⟨rfl, rfl⟩
  rw [g1] at cn1
  by_cases g2 : okN x.to_ = true
  case neg =>
    rw [postN_bad (fun hh => g2 hh.2.1)]
    have g2' : okN x.to_ = false := by simpa using g2
    rw [g2'] at cn2
    refine FnC.intro Try.func32 rfl Try.ntmps32 rfl fun Z w0 hG => ?_
    focus (
 (refine W.seq (W.region ?_))
 (refine J.boxAg (d := 2) rfl rfl ?_; intro p2)
 (refine J.boxAg (d := 3) rfl rfl ?_; intro p3)
 (refine J.alloc (d := 4) (by simp only [List.map_cons, List.map_nil]; rfl) rfl rfl ?_; intro p4)
 (refine Jx.assign rfl rfl (J.nil (N.seq (W.seq (W.seq (W.region (Jx.fieldAddr rfl rfl ?_)))))))
 (refine Jx.load rfl 1 rfl rfl rfl ?_)
 (refine J.call (Lc := []) cn1 rfl (evs_args rfl) rfl ?_; rintro _ _ ⟨rfl, rfl⟩; rw [List.nil_append])
 (refine Jx.not rfl rfl (Jx.move rfl rfl (J.gY rfl rfl rfl ?_)))
 (refine Jx.fieldAddr rfl rfl ?_)
 (refine J.gY rfl rfl rfl ?_)
 (refine Jx.load rfl 1 rfl rfl rfl ?_)
 (refine J.gY rfl rfl rfl ?_)
 (refine J.call (Lc := []) cn2 rfl (evs_args rfl) rfl ?_; rintro _ _ ⟨rfl, rfl⟩; rw [List.nil_append])
 (refine J.gY rfl rfl rfl ?_)
 (refine Jx.not rfl rfl (Jx.pF rfl rfl rfl ?_))
 (refine Jx.move rfl rfl (J.gN rfl rfl rfl rfl ?_))
 (refine J.gN rfl rfl rfl rfl ?_)
 (refine J.gN rfl rfl rfl rfl ?_)
 (refine J.gN rfl rfl rfl rfl ?_)
 (refine Jx.pT rfl rfl rfl ?_)
 (refine J.nil (N.seq (W.cT rfl ?_)))
 (refine W.seq (W.region (Jx.loadAll rfl 2 rfl rfl rfl ?_)))
 (refine J.storeAll rfl rfl rfl 0 rfl rfl rfl ?_)
 (refine Jx.assign rfl rfl (J.nil (N.seq (W.ret (N.noGotoRet ?_)))))
 (refine id ?_; rotate_left))
    exact N.retD (rs := [.cell 4 tRn, .tmp 5]) (L1 := []) rfl (.cell rfl 0 rfl agRn (.tmp rfl .nil)) (List.nil_sublist _) ⟨rfl, rfl⟩
  rw [g2] at cn2
  by_cases g3 : x.tx.length ≤ 65536
  case neg =>
    rw [postN_bad (fun hh => g3 hh.2.2)]
    have g3' : (65536 : Int) < (x.tx.length : Int) := by omega
    refine FnC.intro Try.func32 rfl Try.ntmps32 rfl fun Z w0 hG => ?_
    focus (
 (refine W.seq (W.region ?_))
 (refine J.boxAg (d := 2) rfl rfl ?_; intro p2)
 (refine J.boxAg (d := 3) rfl rfl ?_; intro p3)
 (refine J.alloc (d := 4) (by simp only [List.map_cons, List.map_nil]; rfl) rfl rfl ?_; intro p4)
 (refine Jx.assign rfl rfl (J.nil (N.seq (W.seq (W.seq (W.region (Jx.fieldAddr rfl rfl ?_)))))))
 (refine Jx.load rfl 1 rfl rfl rfl ?_)
 (refine J.call (Lc := []) cn1 rfl (evs_args rfl) rfl ?_; rintro _ _ ⟨rfl, rfl⟩; rw [List.nil_append])
 (refine Jx.not rfl rfl (Jx.move rfl rfl (J.gY rfl rfl rfl ?_)))
 (refine Jx.fieldAddr rfl rfl ?_)
 (refine J.gY rfl rfl rfl ?_)
 (refine Jx.load rfl 1 rfl rfl rfl ?_)
 (refine J.gY rfl rfl rfl ?_)
 (refine J.call (Lc := []) cn2 rfl (evs_args rfl) rfl ?_; rintro _ _ ⟨rfl, rfl⟩; rw [List.nil_append])
 (refine J.gY rfl rfl rfl ?_)
 (refine Jx.not rfl rfl (Jx.pF rfl rfl rfl ?_))
 (refine Jx.move rfl rfl (J.gY rfl rfl rfl ?_))
 (refine Jx.fieldAddr rfl rfl ?_)
 (refine J.gY rfl rfl rfl ?_)
 (refine Jx.load rfl 1 rfl rfl rfl ?_)
 (refine J.gY rfl rfl rfl ?_)
 (refine Jx.lenS rfl rfl ?_)
 (refine J.gY rfl rfl rfl ?_)
 (refine Jx.gtrI rfl rfl rfl (Jx.pF rfl rfl rfl ?_))
 (refine J.nil (N.seq (W.cT rfl ?_)))
 (refine W.seq (W.region (Jx.loadAll rfl 2 rfl rfl rfl ?_)))
 (refine J.storeAll rfl rfl rfl 0 rfl rfl rfl ?_)
 (refine Jx.assign rfl rfl (J.nil (N.seq (W.ret (N.noGotoRet ?_)))))
 (refine id ?_; rotate_left))
    exact N.retD (rs := [.cell 4 tRn, .tmp 5]) (L1 := []) rfl (.cell rfl 0 rfl agRn (.tmp rfl .nil)) (List.nil_sublist _) ⟨rfl, rfl⟩
  have g3' : ¬ (65536 : Int) < (x.tx.length : Int) := by omega
  by_cases g4 : 1022 < S.A.length
  case pos =>
    have g4' : (1022 : Int) < (S.A.length : Int) := by omega
    rw [postN_full ⟨g1, g2, g3⟩ g4]
    refine FnC.intro Try.func32 rfl Try.ntmps32 rfl fun Z w0 hG => ?_
    focus (
 (refine W.seq (W.region ?_))
 (refine J.boxAg (d := 2) rfl rfl ?_; intro p2)
 (refine J.boxAg (d := 3) rfl rfl ?_; intro p3)
 (refine J.alloc (d := 4) (by simp only [List.map_cons, List.map_nil]; rfl) rfl rfl ?_; intro p4)
 (refine Jx.assign rfl rfl (J.nil (N.seq (W.seq (W.seq (W.region (Jx.fieldAddr rfl rfl ?_)))))))
 (refine Jx.load rfl 1 rfl rfl rfl ?_)
 (refine J.call (Lc := []) cn1 rfl (evs_args rfl) rfl ?_; rintro _ _ ⟨rfl, rfl⟩; rw [List.nil_append])
 (refine Jx.not rfl rfl (Jx.move rfl rfl (J.gY rfl rfl rfl ?_)))
 (refine Jx.fieldAddr rfl rfl ?_)
 (refine J.gY rfl rfl rfl ?_)
 (refine Jx.load rfl 1 rfl rfl rfl ?_)
 (refine J.gY rfl rfl rfl ?_)
 (refine J.call (Lc := []) cn2 rfl (evs_args rfl) rfl ?_; rintro _ _ ⟨rfl, rfl⟩; rw [List.nil_append])
 (refine J.gY rfl rfl rfl ?_)
 (refine Jx.not rfl rfl (Jx.pF rfl rfl rfl ?_))
 (refine Jx.move rfl rfl (J.gY rfl rfl rfl ?_))
 (refine Jx.fieldAddr rfl rfl ?_)
 (refine J.gY rfl rfl rfl ?_)
 (refine Jx.load rfl 1 rfl rfl rfl ?_)
 (refine J.gY rfl rfl rfl ?_)
 (refine Jx.lenS rfl rfl ?_)
 (refine J.gY rfl rfl rfl ?_)
 (refine Jx.gtrI rfl rfl rfl (Jx.pF rfl rfl rfl ?_))
 (refine J.nil (N.seq (W.cF rfl ?_)))
 (refine W.skip (N.seq (W.seq (W.seq (W.region (Jx.fieldAddr rfl rfl ?_))))))
 (refine Jx.load rfl 2 rfl rfl rfl ?_)
 (refine Jx.lenSl rfl rfl ?_)
 (refine Jx.gtrI rfl rfl rfl (J.nil (N.seq (W.cT rfl ?_))))
 (refine W.seq (W.region (Jx.loadAll rfl 2 rfl rfl rfl ?_)))
 (refine J.storeAll rfl rfl rfl 0 rfl rfl rfl ?_)
 (refine Jx.assign rfl rfl (J.nil (N.seq (W.ret (N.noGotoRet ?_)))))
 (refine id ?_; rotate_left))
    exact N.retD (rs := [.cell 4 tRn, .tmp 5]) (L1 := []) rfl (.cell rfl 0 rfl agRn (.tmp rfl .nil)) (List.nil_sublist _) ⟨rfl, rfl⟩
  have g4' : ¬ (1022 : Int) < (S.A.length : Int) := by omega
  rw [postN_ok ⟨g1, g2, g3⟩ g4]
  dsimp only
  rw [stepN_eq]
  obtain ⟨f, now, posted, A⟩ := S
  simp only at hA hw g4 g4' ⊢
  have hmA : ([] : List Ar).length + A.length ≤ maxLen ∧ (([] : List Ar).length + A.length) * 56 ≤ 140737488355328 := by simp only [maxLen, List.length_nil]; omega
  have hm0 : ([] : List Int).length ≤ maxLen := by simp only [maxLen]; decide
  cases f with
  | nil =>
    have hq8 : (0 : Int) / 4 % 8 = 0 := rfl
    have hq4 : (0 : Int) % 4 = 0 := rfl
    have haf : aft ⟨[], now, posted, A⟩ = [1 + 0] := by
      simp [aft, fateN]
    rw [haf]
    have hafl : ([1 + 0] : List Int).length ≤ 2 := by simp
    have hafe : ∀ e ∈ ([1 + 0] : List Int), 0 ≤ e ∧ e ≤ 100 := by
      intro e he
      simp only [List.mem_cons, List.not_mem_nil, or_false] at he
      omega
    obtain ⟨af, hafd⟩ : ∃ af : List Int, af = [1 + 0] := ⟨_, rfl⟩
    refine FnC.intro Try.func32 rfl Try.ntmps32 rfl fun Z w0 hG => ?_
    refine W.rowNil tRl 4 (elOf rlC ar0 []) ?_
    focus (
 (refine W.seq (W.region ?_))
 (refine J.boxAg (d := 2) rfl rfl ?_; intro p2)
 (refine J.boxAg (d := 3) rfl rfl ?_; intro p3)
 (refine J.alloc (d := 4) (by simp only [List.map_cons, List.map_nil]; rfl) rfl rfl ?_; intro p4)
 (refine Jx.assign rfl rfl (J.nil (N.seq (W.seq (W.seq (W.region (Jx.fieldAddr rfl rfl ?_)))))))
 (refine Jx.load rfl 1 rfl rfl rfl ?_)
 (refine J.call (Lc := []) cn1 rfl (evs_args rfl) rfl ?_; rintro _ _ ⟨rfl, rfl⟩; rw [List.nil_append])
 (refine Jx.not rfl rfl (Jx.move rfl rfl (J.gY rfl rfl rfl ?_)))
 (refine Jx.fieldAddr rfl rfl ?_)
 (refine J.gY rfl rfl rfl ?_)
 (refine Jx.load rfl 1 rfl rfl rfl ?_)
 (refine J.gY rfl rfl rfl ?_)
 (refine J.call (Lc := []) cn2 rfl (evs_args rfl) rfl ?_; rintro _ _ ⟨rfl, rfl⟩; rw [List.nil_append])
 (refine J.gY rfl rfl rfl ?_)
 (refine Jx.not rfl rfl (Jx.pF rfl rfl rfl ?_))
 (refine Jx.move rfl rfl (J.gY rfl rfl rfl ?_))
 (refine Jx.fieldAddr rfl rfl ?_)
 (refine J.gY rfl rfl rfl ?_)
 (refine Jx.load rfl 1 rfl rfl rfl ?_)
 (refine J.gY rfl rfl rfl ?_)
 (refine Jx.lenS rfl rfl ?_)
 (refine J.gY rfl rfl rfl ?_)
 (refine Jx.gtrI rfl rfl rfl (Jx.pF rfl rfl rfl ?_))
 (refine J.nil (N.seq (W.cF rfl ?_)))
 (refine W.skip (N.seq (W.seq (W.seq (W.region (Jx.fieldAddr rfl rfl ?_))))))
 (refine Jx.load rfl 2 rfl rfl rfl ?_)
 (refine Jx.lenSl rfl rfl ?_)
 (refine Jx.gtrI rfl rfl rfl (J.nil (N.seq (W.cF rfl ?_))))
 (refine W.skip (N.seq (W.seq (W.region (Jx.assign rfl rfl (J.nil (N.seq (W.seq (W.seq (W.region (Jx.fieldAddr rfl rfl ?_)))))))))))
 (refine Jx.load rfl 2 rfl rfl rfl ?_)
 (refine Jx.neqS rfl rfl rfl (J.nil (N.seq (W.cF rfl ?_))))
 (refine W.skip (N.seq (W.seq (W.region (Jx.move rfl rfl (Jx.quo64 rfl rfl (by omega) (by decide) rfl ?_))))))
 (refine Jx.rem64 rfl rfl (by omega) (by decide) rfl ?_; rw [hq8])
 (refine Jx.assign rfl rfl (J.nil (N.seq (W.seq (W.region (Jx.assign rfl rfl (J.nil (N.seq (W.seq (W.seq (W.region (Jx.move rfl rfl ?_))))))))))))
 (refine Jx.rem64 rfl rfl (by omega) (by decide) rfl ?_; rw [hq4])
 (refine J.nil (N.seq (W.block (W.seq (W.region (Jx.eqlI rfl rfl rfl (Jx.assign rfl rfl (J.nil (N.seq (W.cT rfl ?_))))))))))
 (refine W.region (Jx.move rfl rfl (Jx.add64 rfl rfl (by omega) rfl ?_)))
 (refine J.qs (Qs.buildL (fun n : Int => int n) 0 ([1 + 0]) (fun _ => .val rfl) rfl rfl rfl (by decide) (by decide) rfl) rfl ?_)
 (refine Jx.assign rfl rfl (J.nil (N.seq (W.seq (W.region (Jx.assign rfl rfl (J.nil (N.seq (W.seq (W.region (Jx.move rfl rfl (Jx.fieldAddr rfl rfl ?_))))))))))))
 (refine Jx.load rfl 2 rfl rfl rfl ?_)
 (refine J.appendAt (enc := rlC) (l := []) (l2 := A) 3 rfl rfl (SrcOK.sl rfl) rfl rfl hmA rfl ?_; intro v0 hv0)
 (refine Jx.assign rfl rfl (J.nil (N.seq (W.seq (W.seq (W.region (Jx.assign rfl rfl (J.nil (N.seq (W.block ?_))))))))))
 (refine id ?_; rotate_left))
    rw [← hafd] at hafl hafe
    rw [← hafd]
    refine W.loop (α := RpS) (fun s => [(10, int (s.i : Int)), (9, .val s.v), (8, islR af), (4, ptr p4), (3, ptr p3), (2, ptr p2)]) (fun s => [.obj p4 tRn [str [], int 0, .val (.slice none 0 0)], .obj p3 tRl [str x.fr, str x.to_, str x.tx, int z], .obj p2 tRn [str [], int now, rll A], rowR s.v s.out]) (fun s => s.i ≤ af.length ∧ s.out = A ++ newA posted now x (af.take s.i) ∧ s.v.oneCell' = true) (fun s => af.length - s.i) ⟨0, v0, A⟩ ⟨Nat.zero_le _, by simp [newA], hv0⟩ rfl ⟨ref0 rfl, ref0 rfl, ref0 rfl, ref0 rfl, ref0 rfl, ref0 rfl, trivial⟩ ?_
    rintro ⟨i, v, out⟩ ⟨hi, ho, hv⟩
    simp only at hi ho hv ⊢
    have hol : out.length ≤ 10002 := by rw [ho, List.length_append, newA_len, List.length_take]; omega
    by_cases h1 : i < af.length
    · have h1' : (i : Int) < (af.length : Int) := by omega
      have e1 : (i : Int) + 1 = ((i + 1 : Nat) : Int) := by omega
      have he : af.getD i 0 ∈ af := by rw [List.getD_eq_getElem?_getD, List.getElem?_eq_getElem h1]; exact List.getElem_mem _
      have hb := hafe _ he
      have htk : af.take (i + 1) = af.take i ++ [af.getD i 0] := by rw [List.take_add_one, List.getElem?_eq_getElem h1, List.getD_eq_getElem?_getD, List.getElem?_eq_getElem h1]; rfl
      have hlt : (af.take i).length = i := by rw [List.length_take]; omega
      have ho2 : out ++ [(⟨posted + i, x, now + af.getD i 0⟩ : Ar)] = A ++ newA posted now x (af.take (i + 1)) := by rw [htk, newA_snoc, hlt, ho, List.append_assoc]
      obtain ⟨e, hel⟩ : ∃ e, af.getD i 0 = e := ⟨_, rfl⟩
      rw [hel] at he hb htk ho2
      have hmx : out.length + [(⟨posted + i, x, now + e⟩ : Ar)].length ≤ maxLen ∧ (out.length + [(⟨posted + i, x, now + e⟩ : Ar)].length) * 56 ≤ 140737488355328 := by simp only [maxLen, List.length_cons, List.length_nil]; omega
      focus (
 (refine W.seq (W.seq (W.region (Jx.move rfl rfl (Jx.move rfl rfl (Jx.lenSl rfl rfl ?_))))))
 (refine Jx.lssI rfl rfl rfl (J.nil (N.seq (W.cT rfl ?_))))
 (refine W.skip (N.seq (W.seq (W.block ?_))))
 (refine W.draw follows ?_)
 (refine JD.till (l := [_, _, _, _, _, _, _, _, _, _, _, _, _, _, _, _, ⟨some 94, .call _, _, _, _, none⟩, _]) 16 (by decide +kernel) (by decide +kernel) rfl rfl ?_)
 (refine Cx.move rfl rfl ?_)
 (refine Cx.fieldAddr rfl rfl ?_)
 (refine Cx.load rfl 1 rfl rfl rfl ?_)
 (refine Cx.fieldAddr rfl rfl ?_)
 (refine Cx.load rfl 1 rfl rfl rfl ?_)
 (refine Cx.fieldAddr rfl rfl ?_)
 (refine Cx.load rfl 1 rfl rfl rfl ?_)
 (refine Cx.fieldAddr rfl rfl ?_)
 (refine Cx.load rfl 2 rfl rfl rfl ?_)
 (refine Cx.move rfl rfl ?_)
 (refine Cx.move rfl rfl ?_)
 (refine Cx.indexEl rfl rfl h1 rfl rfl ?_; rw [hel])
 (refine Cx.loadPP rfl rfl ?_)
 (refine Cx.add64 rfl rfl (by omega) rfl ?_)
 (refine Cx.buildB rfl rfl rfl rfl rfl ?_)
 (refine SegC.q (Qs.buildOne rlC ar0 (⟨posted + i, x, now + e⟩ : Ar) rfl rfl rfl rfl rfl rfl rfl) rfl ?_)
 (refine SegC.nil ?_)
 (refine J.appendAt (enc := rlC) (l := out) (l2 := [(⟨posted + i, x, now + e⟩ : Ar)]) 3 rfl rfl (SrcOK.sl rfl) rfl rfl hmx rfl ?_; intro v' hv')
 (refine Jx.assign rfl rfl (J.nil (N.seq (W.region (Jx.move rfl rfl ?_)))))
 (refine Jx.add64 rfl rfl (by omega) rfl ?_; rw [e1])
 (refine Jx.assign rfl rfl (J.nil ?_))
 (refine id ?_; rotate_left))
      exact N.round ⟨i + 1, v', out ++ [⟨posted + i, x, now + e⟩]⟩ ⟨h1, ho2, hv'⟩ (by simp only; omega) rfl ⟨ref0 rfl, ref0 rfl, ref0 rfl, ref0 rfl, ref0 rfl, ref0 rfl, trivial⟩
    · have h1' : ¬ (i : Int) < (af.length : Int) := by omega
      rw [List.take_of_length_le (by omega)] at ho
      subst ho
      refine W.freezeAt 3 9 rfl rfl (by simp only [maxLen]; omega) ?_
      focus (
 (refine W.seq (W.seq (W.region (Jx.move rfl rfl (Jx.move rfl rfl (Jx.lenSl rfl rfl ?_))))))
 (refine Jx.lssI rfl rfl rfl (J.nil (N.seq (W.cF rfl ?_))))
 (refine W.exit (N.seq (W.seq (W.region (Jx.fieldAddr rfl rfl ?_)))))
 (refine Jx.load rfl 2 rfl rfl rfl ?_)
 (refine Jx.fieldAddr rfl rfl ?_)
 (refine Jx.load rfl 2 rfl rfl rfl ?_)
 (refine Jx.move rfl rfl (Jx.buildB rfl rfl rfl rfl rfl ?_))
 (refine J.storeAll rfl rfl rfl 0 rfl rfl rfl ?_)
 (refine Jx.assign rfl rfl (J.nil (N.seq (W.ret ?_))))
 (refine id ?_; rotate_left))
      exact N.retD (rs := [.cell 4 tRn, .tmp 5]) (L1 := []) rfl (.cell rfl 0 rfl agRn (.tmp rfl .nil)) (List.nil_sublist _) ⟨rfl, rfl⟩
  | cons y f =>
    have hne : ¬ (y :: f) = [] := by simp
    have hpos : (0 : Int) < ((y :: f).length : Int) := by simp only [List.length_cons]; omega
    have hpos1 : (1 : Int) ≤ ((y :: f).length : Int) := by simp only [List.length_cons]; omega
    obtain ⟨F, hF⟩ : ∃ F, fateN (y :: f) = F := ⟨_, rfl⟩
    have hf : F < 256 := by rw [← hF]; exact fateN_lt _
    have hbn : ((((y :: f).getD (Int.toNat 0) 0).toNat : Nat) : Int) = (F : Int) := by rw [← hF]; rfl
    have hq8 : (F : Int) / 4 % 8 = ((F / 4 % 8 : Nat) : Int) := by omega
    have hd : F / 4 % 8 < 8 := Nat.mod_lt _ (by decide)
    have hshow : aft ⟨y :: f, now, posted, A⟩ = (if F % 4 = 1 then [] else if F % 4 = 2 then [1 + ((F / 4 % 8 : Nat) : Int), 2 + 2 * ((F / 4 % 8 : Nat) : Int)] else if F % 4 = 3 then [1 + 2 * ((F / 4 % 8 : Nat) : Int)] else [1 + ((F / 4 % 8 : Nat) : Int)]) := by rw [← hF]; rfl
    generalize F / 4 % 8 = d at *
    by_cases k1 : F % 4 = 1
    · have hq4 : (F : Int) % 4 = 1 := by omega
      have haf : aft ⟨y :: f, now, posted, A⟩ = [] := by
        rw [hshow, if_pos k1]
      rw [haf]
      have hafl : ([] : List Int).length ≤ 2 := by simp
      have hafe : ∀ e ∈ ([] : List Int), 0 ≤ e ∧ e ≤ 100 := by
        intro e he
        cases he
      obtain ⟨af, hafd⟩ : ∃ af : List Int, af = [] := ⟨_, rfl⟩
      refine FnC.intro Try.func32 rfl Try.ntmps32 rfl fun Z w0 hG => ?_
      refine W.rowNil tRl 4 (elOf rlC ar0 []) ?_
      focus (
 (refine W.seq (W.region ?_))
 (refine J.boxAg (d := 2) rfl rfl ?_; intro p2)
 (refine J.boxAg (d := 3) rfl rfl ?_; intro p3)
 (refine J.alloc (d := 4) (by simp only [List.map_cons, List.map_nil]; rfl) rfl rfl ?_; intro p4)
 (refine Jx.assign rfl rfl (J.nil (N.seq (W.seq (W.seq (W.region (Jx.fieldAddr rfl rfl ?_)))))))
 (refine Jx.load rfl 1 rfl rfl rfl ?_)
 (refine J.call (Lc := []) cn1 rfl (evs_args rfl) rfl ?_; rintro _ _ ⟨rfl, rfl⟩; rw [List.nil_append])
 (refine Jx.not rfl rfl (Jx.move rfl rfl (J.gY rfl rfl rfl ?_)))
 (refine Jx.fieldAddr rfl rfl ?_)
 (refine J.gY rfl rfl rfl ?_)
 (refine Jx.load rfl 1 rfl rfl rfl ?_)
 (refine J.gY rfl rfl rfl ?_)
 (refine J.call (Lc := []) cn2 rfl (evs_args rfl) rfl ?_; rintro _ _ ⟨rfl, rfl⟩; rw [List.nil_append])
 (refine J.gY rfl rfl rfl ?_)
 (refine Jx.not rfl rfl (Jx.pF rfl rfl rfl ?_))
 (refine Jx.move rfl rfl (J.gY rfl rfl rfl ?_))
 (refine Jx.fieldAddr rfl rfl ?_)
 (refine J.gY rfl rfl rfl ?_)
 (refine Jx.load rfl 1 rfl rfl rfl ?_)
 (refine J.gY rfl rfl rfl ?_)
 (refine Jx.lenS rfl rfl ?_)
 (refine J.gY rfl rfl rfl ?_)
 (refine Jx.gtrI rfl rfl rfl (Jx.pF rfl rfl rfl ?_))
 (refine J.nil (N.seq (W.cF rfl ?_)))
 (refine W.skip (N.seq (W.seq (W.seq (W.region (Jx.fieldAddr rfl rfl ?_))))))
 (refine Jx.load rfl 2 rfl rfl rfl ?_)
 (refine Jx.lenSl rfl rfl ?_)
 (refine Jx.gtrI rfl rfl rfl (J.nil (N.seq (W.cF rfl ?_))))
 (refine W.skip (N.seq (W.seq (W.region (Jx.assign rfl rfl (J.nil (N.seq (W.seq (W.seq (W.region (Jx.fieldAddr rfl rfl ?_)))))))))))
 (refine Jx.load rfl 2 rfl rfl rfl ?_)
 (refine Jx.neqS rfl rfl rfl (J.nil (N.seq (W.cT rfl ?_))))
 (refine W.seq (W.region (Jx.fieldAddr rfl rfl ?_)))
 (refine Jx.load rfl 2 rfl rfl rfl ?_)
 (refine Jx.indexS rfl rfl (by decide) hpos rfl ?_)
 (refine Jx.byteNum rfl rfl rfl ?_; rw [hbn])
 (refine Jx.assign rfl rfl (J.nil (N.seq (W.region (Jx.fieldAddr rfl rfl ?_)))))
 (refine Jx.load rfl 2 rfl rfl rfl ?_)
 (refine Jx.sliceSl rfl rfl (by decide) hpos1 rfl ?_)
 (refine Jx.fieldAddr rfl rfl ?_)
 (refine J.st 2 rfl rfl rfl rfl rfl rfl ?_)
 (refine J.nil (N.seq (W.seq (W.region (Jx.move rfl rfl (Jx.quo64 rfl rfl (by omega) (by decide) rfl ?_))))))
 (refine Jx.rem64 rfl rfl (by omega) (by decide) rfl ?_; rw [hq8])
 (refine Jx.assign rfl rfl (J.nil (N.seq (W.seq (W.region (Jx.assign rfl rfl (J.nil (N.seq (W.seq (W.seq (W.region (Jx.move rfl rfl ?_))))))))))))
 (refine Jx.rem64 rfl rfl (by omega) (by decide) rfl ?_; rw [hq4])
 (refine J.nil (N.seq (W.block (W.seq (W.region (Jx.eqlI rfl rfl rfl (Jx.assign rfl rfl (J.nil (N.seq (W.cF rfl ?_))))))))))
 (refine W.seq (W.region (Jx.eqlI rfl rfl rfl (Jx.assign rfl rfl (J.nil (N.seq (W.cF rfl ?_)))))))
 (refine W.seq (W.region (Jx.eqlI rfl rfl rfl (Jx.assign rfl rfl (J.nil (N.seq (W.cF rfl ?_)))))))
 (refine W.skip (N.seq (W.seq (W.region (Jx.assign rfl rfl (J.nil (N.seq (W.seq (W.region (Jx.move rfl rfl (Jx.fieldAddr rfl rfl ?_)))))))))))
 (refine Jx.load rfl 2 rfl rfl rfl ?_)
 (refine J.appendAt (enc := rlC) (l := []) (l2 := A) 3 rfl rfl (SrcOK.sl rfl) rfl rfl hmA rfl ?_; intro v0 hv0)
 (refine Jx.assign rfl rfl (J.nil (N.seq (W.seq (W.seq (W.region (Jx.assign rfl rfl (J.nil (N.seq (W.block ?_))))))))))
 (refine id ?_; rotate_left))
      refine W.rowNil 3 1 (elOf (fun n : Int => [int n]) 0 []) ?_
      refine W.freeze 8 rfl hm0 ?_
      rw [← hafd] at hafl hafe
      refine W.loop (α := RpS) (fun s => [(10, int (s.i : Int)), (9, .val s.v), (8, islR af), (4, ptr p4), (3, ptr p3), (2, ptr p2)]) (fun s => [.obj p4 tRn [str [], int 0, .val (.slice none 0 0)], .obj p3 tRl [str x.fr, str x.to_, str x.tx, int z], .obj p2 tRn [str f, int now, rll A], rowR s.v s.out]) (fun s => s.i ≤ af.length ∧ s.out = A ++ newA posted now x (af.take s.i) ∧ s.v.oneCell' = true) (fun s => af.length - s.i) ⟨0, v0, A⟩ ⟨Nat.zero_le _, by simp [newA], hv0⟩ rfl ⟨ref0 rfl, ref0 rfl, ⟨_, rfl, Sub.of_eq (by rw [hafd]; rfl)⟩, ref0 rfl, ref0 rfl, ref0 rfl, trivial⟩ ?_
      rintro ⟨i, v, out⟩ ⟨hi, ho, hv⟩
      simp only at hi ho hv ⊢
      have hol : out.length ≤ 10002 := by rw [ho, List.length_append, newA_len, List.length_take]; omega
      by_cases h1 : i < af.length
      · have h1' : (i : Int) < (af.length : Int) := by omega
        have e1 : (i : Int) + 1 = ((i + 1 : Nat) : Int) := by omega
        have he : af.getD i 0 ∈ af := by rw [List.getD_eq_getElem?_getD, List.getElem?_eq_getElem h1]; exact List.getElem_mem _
        have hb := hafe _ he
        have htk : af.take (i + 1) = af.take i ++ [af.getD i 0] := by rw [List.take_add_one, List.getElem?_eq_getElem h1, List.getD_eq_getElem?_getD, List.getElem?_eq_getElem h1]; rfl
        have hlt : (af.take i).length = i := by rw [List.length_take]; omega
        have ho2 : out ++ [(⟨posted + i, x, now + af.getD i 0⟩ : Ar)] = A ++ newA posted now x (af.take (i + 1)) := by rw [htk, newA_snoc, hlt, ho, List.append_assoc]
        obtain ⟨e, hel⟩ : ∃ e, af.getD i 0 = e := ⟨_, rfl⟩
        rw [hel] at he hb htk ho2
        have hmx : out.length + [(⟨posted + i, x, now + e⟩ : Ar)].length ≤ maxLen ∧ (out.length + [(⟨posted + i, x, now + e⟩ : Ar)].length) * 56 ≤ 140737488355328 := by simp only [maxLen, List.length_cons, List.length_nil]; omega
        focus (
 (refine W.seq (W.seq (W.region (Jx.move rfl rfl (Jx.move rfl rfl (Jx.lenSl rfl rfl ?_))))))
 (refine Jx.lssI rfl rfl rfl (J.nil (N.seq (W.cT rfl ?_))))
 (refine W.skip (N.seq (W.seq (W.block ?_))))
 (refine W.draw follows ?_)
 (refine JD.till (l := [_, _, _, _, _, _, _, _, _, _, _, _, _, _, _, _, ⟨some 94, .call _, _, _, _, none⟩, _]) 16 (by decide +kernel) (by decide +kernel) rfl rfl ?_)
 (refine Cx.move rfl rfl ?_)
 (refine Cx.fieldAddr rfl rfl ?_)
 (refine Cx.load rfl 1 rfl rfl rfl ?_)
 (refine Cx.fieldAddr rfl rfl ?_)
 (refine Cx.load rfl 1 rfl rfl rfl ?_)
 (refine Cx.fieldAddr rfl rfl ?_)
 (refine Cx.load rfl 1 rfl rfl rfl ?_)
 (refine Cx.fieldAddr rfl rfl ?_)
 (refine Cx.load rfl 2 rfl rfl rfl ?_)
 (refine Cx.move rfl rfl ?_)
 (refine Cx.move rfl rfl ?_)
 (refine Cx.indexEl rfl rfl h1 rfl rfl ?_; rw [hel])
 (refine Cx.loadPP rfl rfl ?_)
 (refine Cx.add64 rfl rfl (by omega) rfl ?_)
 (refine Cx.buildB rfl rfl rfl rfl rfl ?_)
 (refine SegC.q (Qs.buildOne rlC ar0 (⟨posted + i, x, now + e⟩ : Ar) rfl rfl rfl rfl rfl rfl rfl) rfl ?_)
 (refine SegC.nil ?_)
 (refine J.appendAt (enc := rlC) (l := out) (l2 := [(⟨posted + i, x, now + e⟩ : Ar)]) 3 rfl rfl (SrcOK.sl rfl) rfl rfl hmx rfl ?_; intro v' hv')
 (refine Jx.assign rfl rfl (J.nil (N.seq (W.region (Jx.move rfl rfl ?_)))))
 (refine Jx.add64 rfl rfl (by omega) rfl ?_; rw [e1])
 (refine Jx.assign rfl rfl (J.nil ?_))
 (refine id ?_; rotate_left))
        exact N.round ⟨i + 1, v', out ++ [⟨posted + i, x, now + e⟩]⟩ ⟨h1, ho2, hv'⟩ (by simp only; omega) rfl ⟨ref0 rfl, ref0 rfl, ref0 rfl, ref0 rfl, ref0 rfl, ref0 rfl, trivial⟩
      · have h1' : ¬ (i : Int) < (af.length : Int) := by omega
        rw [List.take_of_length_le (by omega)] at ho
        subst ho
        refine W.freezeAt 3 9 rfl rfl (by simp only [maxLen]; omega) ?_
        focus (
 (refine W.seq (W.seq (W.region (Jx.move rfl rfl (Jx.move rfl rfl (Jx.lenSl rfl rfl ?_))))))
 (refine Jx.lssI rfl rfl rfl (J.nil (N.seq (W.cF rfl ?_))))
 (refine W.exit (N.seq (W.seq (W.region (Jx.fieldAddr rfl rfl ?_)))))
 (refine Jx.load rfl 2 rfl rfl rfl ?_)
 (refine Jx.fieldAddr rfl rfl ?_)
 (refine Jx.load rfl 2 rfl rfl rfl ?_)
 (refine Jx.move rfl rfl (Jx.buildB rfl rfl rfl rfl rfl ?_))
 (refine J.storeAll rfl rfl rfl 0 rfl rfl rfl ?_)
 (refine Jx.assign rfl rfl (J.nil (N.seq (W.ret ?_))))
 (refine id ?_; rotate_left))
        exact N.retD (rs := [.cell 4 tRn, .tmp 5]) (L1 := []) rfl (.cell rfl 0 rfl agRn (.tmp rfl .nil)) (List.nil_sublist _) ⟨by rw [hafd]; rfl, rfl⟩
    by_cases k2 : F % 4 = 2
    · have hq4 : (F : Int) % 4 = 2 := by omega
      have haf : aft ⟨y :: f, now, posted, A⟩ = [1 + (d : Int), 2 + 2 * (d : Int)] := by
        rw [hshow, if_neg k1, if_pos k2]
      rw [haf]
      have hafl : ([1 + (d : Int), 2 + 2 * (d : Int)] : List Int).length ≤ 2 := by simp
      have hafe : ∀ e ∈ ([1 + (d : Int), 2 + 2 * (d : Int)] : List Int), 0 ≤ e ∧ e ≤ 100 := by
        intro e he
        simp only [List.mem_cons, List.not_mem_nil, or_false] at he
        omega
      obtain ⟨af, hafd⟩ : ∃ af : List Int, af = [1 + (d : Int), 2 + 2 * (d : Int)] := ⟨_, rfl⟩
      refine FnC.intro Try.func32 rfl Try.ntmps32 rfl fun Z w0 hG => ?_
      refine W.rowNil tRl 4 (elOf rlC ar0 []) ?_
      focus (
 (refine W.seq (W.region ?_))
 (refine J.boxAg (d := 2) rfl rfl ?_; intro p2)
 (refine J.boxAg (d := 3) rfl rfl ?_; intro p3)
 (refine J.alloc (d := 4) (by simp only [List.map_cons, List.map_nil]; rfl) rfl rfl ?_; intro p4)
 (refine Jx.assign rfl rfl (J.nil (N.seq (W.seq (W.seq (W.region (Jx.fieldAddr rfl rfl ?_)))))))
 (refine Jx.load rfl 1 rfl rfl rfl ?_)
 (refine J.call (Lc := []) cn1 rfl (evs_args rfl) rfl ?_; rintro _ _ ⟨rfl, rfl⟩; rw [List.nil_append])
 (refine Jx.not rfl rfl (Jx.move rfl rfl (J.gY rfl rfl rfl ?_)))
 (refine Jx.fieldAddr rfl rfl ?_)
 (refine J.gY rfl rfl rfl ?_)
 (refine Jx.load rfl 1 rfl rfl rfl ?_)
 (refine J.gY rfl rfl rfl ?_)
 (refine J.call (Lc := []) cn2 rfl (evs_args rfl) rfl ?_; rintro _ _ ⟨rfl, rfl⟩; rw [List.nil_append])
 (refine J.gY rfl rfl rfl ?_)
 (refine Jx.not rfl rfl (Jx.pF rfl rfl rfl ?_))
 (refine Jx.move rfl rfl (J.gY rfl rfl rfl ?_))
 (refine Jx.fieldAddr rfl rfl ?_)
 (refine J.gY rfl rfl rfl ?_)
 (refine Jx.load rfl 1 rfl rfl rfl ?_)
 (refine J.gY rfl rfl rfl ?_)
 (refine Jx.lenS rfl rfl ?_)
 (refine J.gY rfl rfl rfl ?_)
 (refine Jx.gtrI rfl rfl rfl (Jx.pF rfl rfl rfl ?_))
 (refine J.nil (N.seq (W.cF rfl ?_)))
 (refine W.skip (N.seq (W.seq (W.seq (W.region (Jx.fieldAddr rfl rfl ?_))))))
 (refine Jx.load rfl 2 rfl rfl rfl ?_)
 (refine Jx.lenSl rfl rfl ?_)
 (refine Jx.gtrI rfl rfl rfl (J.nil (N.seq (W.cF rfl ?_))))
 (refine W.skip (N.seq (W.seq (W.region (Jx.assign rfl rfl (J.nil (N.seq (W.seq (W.seq (W.region (Jx.fieldAddr rfl rfl ?_)))))))))))
 (refine Jx.load rfl 2 rfl rfl rfl ?_)
 (refine Jx.neqS rfl rfl rfl (J.nil (N.seq (W.cT rfl ?_))))
 (refine W.seq (W.region (Jx.fieldAddr rfl rfl ?_)))
 (refine Jx.load rfl 2 rfl rfl rfl ?_)
 (refine Jx.indexS rfl rfl (by decide) hpos rfl ?_)
 (refine Jx.byteNum rfl rfl rfl ?_; rw [hbn])
 (refine Jx.assign rfl rfl (J.nil (N.seq (W.region (Jx.fieldAddr rfl rfl ?_)))))
 (refine Jx.load rfl 2 rfl rfl rfl ?_)
 (refine Jx.sliceSl rfl rfl (by decide) hpos1 rfl ?_)
 (refine Jx.fieldAddr rfl rfl ?_)
 (refine J.st 2 rfl rfl rfl rfl rfl rfl ?_)
 (refine J.nil (N.seq (W.seq (W.region (Jx.move rfl rfl (Jx.quo64 rfl rfl (by omega) (by decide) rfl ?_))))))
 (refine Jx.rem64 rfl rfl (by omega) (by decide) rfl ?_; rw [hq8])
 (refine Jx.assign rfl rfl (J.nil (N.seq (W.seq (W.region (Jx.assign rfl rfl (J.nil (N.seq (W.seq (W.seq (W.region (Jx.move rfl rfl ?_))))))))))))
 (refine Jx.rem64 rfl rfl (by omega) (by decide) rfl ?_; rw [hq4])
 (refine J.nil (N.seq (W.block (W.seq (W.region (Jx.eqlI rfl rfl rfl (Jx.assign rfl rfl (J.nil (N.seq (W.cF rfl ?_))))))))))
 (refine W.seq (W.region (Jx.eqlI rfl rfl rfl (Jx.assign rfl rfl (J.nil (N.seq (W.cT rfl ?_)))))))
 (refine W.region (Jx.move rfl rfl (Jx.add64 rfl rfl (by omega) rfl ?_)))
 (refine Jx.move rfl rfl (Jx.mul64 rfl rfl (by omega) rfl ?_))
 (refine Jx.add64 rfl rfl (by omega) rfl ?_)
 (refine J.qs (Qs.buildL (fun n : Int => int n) 0 ([1 + (d : Int), 2 + 2 * (d : Int)]) (fun _ => .val rfl) rfl rfl rfl (by decide) (by decide) rfl) rfl ?_)
 (refine Jx.assign rfl rfl (J.nil (N.seq (W.seq (W.region (Jx.assign rfl rfl (J.nil (N.seq (W.seq (W.region (Jx.move rfl rfl (Jx.fieldAddr rfl rfl ?_))))))))))))
 (refine Jx.load rfl 2 rfl rfl rfl ?_)
 (refine J.appendAt (enc := rlC) (l := []) (l2 := A) 3 rfl rfl (SrcOK.sl rfl) rfl rfl hmA rfl ?_; intro v0 hv0)
 (refine Jx.assign rfl rfl (J.nil (N.seq (W.seq (W.seq (W.region (Jx.assign rfl rfl (J.nil (N.seq (W.block ?_))))))))))
 (refine id ?_; rotate_left))
      rw [← hafd] at hafl hafe
      rw [← hafd]
      refine W.loop (α := RpS) (fun s => [(10, int (s.i : Int)), (9, .val s.v), (8, islR af), (4, ptr p4), (3, ptr p3), (2, ptr p2)]) (fun s => [.obj p4 tRn [str [], int 0, .val (.slice none 0 0)], .obj p3 tRl [str x.fr, str x.to_, str x.tx, int z], .obj p2 tRn [str f, int now, rll A], rowR s.v s.out]) (fun s => s.i ≤ af.length ∧ s.out = A ++ newA posted now x (af.take s.i) ∧ s.v.oneCell' = true) (fun s => af.length - s.i) ⟨0, v0, A⟩ ⟨Nat.zero_le _, by simp [newA], hv0⟩ rfl ⟨ref0 rfl, ref0 rfl, ref0 rfl, ref0 rfl, ref0 rfl, ref0 rfl, trivial⟩ ?_
      rintro ⟨i, v, out⟩ ⟨hi, ho, hv⟩
      simp only at hi ho hv ⊢
      have hol : out.length ≤ 10002 := by rw [ho, List.length_append, newA_len, List.length_take]; omega
      by_cases h1 : i < af.length
      · have h1' : (i : Int) < (af.length : Int) := by omega
        have e1 : (i : Int) + 1 = ((i + 1 : Nat) : Int) := by omega
        have he : af.getD i 0 ∈ af := by rw [List.getD_eq_getElem?_getD, List.getElem?_eq_getElem h1]; exact List.getElem_mem _
        have hb := hafe _ he
        have htk : af.take (i + 1) = af.take i ++ [af.getD i 0] := by rw [List.take_add_one, List.getElem?_eq_getElem h1, List.getD_eq_getElem?_getD, List.getElem?_eq_getElem h1]; rfl
        have hlt : (af.take i).length = i := by rw [List.length_take]; omega
        have ho2 : out ++ [(⟨posted + i, x, now + af.getD i 0⟩ : Ar)] = A ++ newA posted now x (af.take (i + 1)) := by rw [htk, newA_snoc, hlt, ho, List.append_assoc]
        obtain ⟨e, hel⟩ : ∃ e, af.getD i 0 = e := ⟨_, rfl⟩
        rw [hel] at he hb htk ho2
        have hmx : out.length + [(⟨posted + i, x, now + e⟩ : Ar)].length ≤ maxLen ∧ (out.length + [(⟨posted + i, x, now + e⟩ : Ar)].length) * 56 ≤ 140737488355328 := by simp only [maxLen, List.length_cons, List.length_nil]; omega
        focus (
 (refine W.seq (W.seq (W.region (Jx.move rfl rfl (Jx.move rfl rfl (Jx.lenSl rfl rfl ?_))))))
 (refine Jx.lssI rfl rfl rfl (J.nil (N.seq (W.cT rfl ?_))))
 (refine W.skip (N.seq (W.seq (W.block ?_))))
 (refine W.draw follows ?_)
 (refine JD.till (l := [_, _, _, _, _, _, _, _, _, _, _, _, _, _, _, _, ⟨some 94, .call _, _, _, _, none⟩, _]) 16 (by decide +kernel) (by decide +kernel) rfl rfl ?_)
 (refine Cx.move rfl rfl ?_)
 (refine Cx.fieldAddr rfl rfl ?_)
 (refine Cx.load rfl 1 rfl rfl rfl ?_)
 (refine Cx.fieldAddr rfl rfl ?_)
 (refine Cx.load rfl 1 rfl rfl rfl ?_)
 (refine Cx.fieldAddr rfl rfl ?_)
 (refine Cx.load rfl 1 rfl rfl rfl ?_)
 (refine Cx.fieldAddr rfl rfl ?_)
 (refine Cx.load rfl 2 rfl rfl rfl ?_)
 (refine Cx.move rfl rfl ?_)
 (refine Cx.move rfl rfl ?_)
 (refine Cx.indexEl rfl rfl h1 rfl rfl ?_; rw [hel])
 (refine Cx.loadPP rfl rfl ?_)
 (refine Cx.add64 rfl rfl (by omega) rfl ?_)
 (refine Cx.buildB rfl rfl rfl rfl rfl ?_)
 (refine SegC.q (Qs.buildOne rlC ar0 (⟨posted + i, x, now + e⟩ : Ar) rfl rfl rfl rfl rfl rfl rfl) rfl ?_)
 (refine SegC.nil ?_)
 (refine J.appendAt (enc := rlC) (l := out) (l2 := [(⟨posted + i, x, now + e⟩ : Ar)]) 3 rfl rfl (SrcOK.sl rfl) rfl rfl hmx rfl ?_; intro v' hv')
 (refine Jx.assign rfl rfl (J.nil (N.seq (W.region (Jx.move rfl rfl ?_)))))
 (refine Jx.add64 rfl rfl (by omega) rfl ?_; rw [e1])
 (refine Jx.assign rfl rfl (J.nil ?_))
 (refine id ?_; rotate_left))
        exact N.round ⟨i + 1, v', out ++ [⟨posted + i, x, now + e⟩]⟩ ⟨h1, ho2, hv'⟩ (by simp only; omega) rfl ⟨ref0 rfl, ref0 rfl, ref0 rfl, ref0 rfl, ref0 rfl, ref0 rfl, trivial⟩
      · have h1' : ¬ (i : Int) < (af.length : Int) := by omega
        rw [List.take_of_length_le (by omega)] at ho
        subst ho
        refine W.freezeAt 3 9 rfl rfl (by simp only [maxLen]; omega) ?_
        focus (
 (refine W.seq (W.seq (W.region (Jx.move rfl rfl (Jx.move rfl rfl (Jx.lenSl rfl rfl ?_))))))
 (refine Jx.lssI rfl rfl rfl (J.nil (N.seq (W.cF rfl ?_))))
 (refine W.exit (N.seq (W.seq (W.region (Jx.fieldAddr rfl rfl ?_)))))
 (refine Jx.load rfl 2 rfl rfl rfl ?_)
 (refine Jx.fieldAddr rfl rfl ?_)
 (refine Jx.load rfl 2 rfl rfl rfl ?_)
 (refine Jx.move rfl rfl (Jx.buildB rfl rfl rfl rfl rfl ?_))
 (refine J.storeAll rfl rfl rfl 0 rfl rfl rfl ?_)
 (refine Jx.assign rfl rfl (J.nil (N.seq (W.ret ?_))))
 (refine id ?_; rotate_left))
        exact N.retD (rs := [.cell 4 tRn, .tmp 5]) (L1 := []) rfl (.cell rfl 0 rfl agRn (.tmp rfl .nil)) (List.nil_sublist _) ⟨rfl, rfl⟩
    by_cases k3 : F % 4 = 3
    · have hq4 : (F : Int) % 4 = 3 := by omega
      have haf : aft ⟨y :: f, now, posted, A⟩ = [1 + 2 * (d : Int)] := by
        rw [hshow, if_neg k1, if_neg k2, if_pos k3]
      rw [haf]
      have hafl : ([1 + 2 * (d : Int)] : List Int).length ≤ 2 := by simp
      have hafe : ∀ e ∈ ([1 + 2 * (d : Int)] : List Int), 0 ≤ e ∧ e ≤ 100 := by
        intro e he
        simp only [List.mem_cons, List.not_mem_nil, or_false] at he
        omega
      obtain ⟨af, hafd⟩ : ∃ af : List Int, af = [1 + 2 * (d : Int)] := ⟨_, rfl⟩
      refine FnC.intro Try.func32 rfl Try.ntmps32 rfl fun Z w0 hG => ?_
      refine W.rowNil tRl 4 (elOf rlC ar0 []) ?_
      focus (
 (refine W.seq (W.region ?_))
 (refine J.boxAg (d := 2) rfl rfl ?_; intro p2)
 (refine J.boxAg (d := 3) rfl rfl ?_; intro p3)
 (refine J.alloc (d := 4) (by simp only [List.map_cons, List.map_nil]; rfl) rfl rfl ?_; intro p4)
 (refine Jx.assign rfl rfl (J.nil (N.seq (W.seq (W.seq (W.region (Jx.fieldAddr rfl rfl ?_)))))))
 (refine Jx.load rfl 1 rfl rfl rfl ?_)
 (refine J.call (Lc := []) cn1 rfl (evs_args rfl) rfl ?_; rintro _ _ ⟨rfl, rfl⟩; rw [List.nil_append])
 (refine Jx.not rfl rfl (Jx.move rfl rfl (J.gY rfl rfl rfl ?_)))
 (refine Jx.fieldAddr rfl rfl ?_)
 (refine J.gY rfl rfl rfl ?_)
 (refine Jx.load rfl 1 rfl rfl rfl ?_)
 (refine J.gY rfl rfl rfl ?_)
 (refine J.call (Lc := []) cn2 rfl (evs_args rfl) rfl ?_; rintro _ _ ⟨rfl, rfl⟩; rw [List.nil_append])
 (refine J.gY rfl rfl rfl ?_)
 (refine Jx.not rfl rfl (Jx.pF rfl rfl rfl ?_))
 (refine Jx.move rfl rfl (J.gY rfl rfl rfl ?_))
 (refine Jx.fieldAddr rfl rfl ?_)
 (refine J.gY rfl rfl rfl ?_)
 (refine Jx.load rfl 1 rfl rfl rfl ?_)
 (refine J.gY rfl rfl rfl ?_)
 (refine Jx.lenS rfl rfl ?_)
 (refine J.gY rfl rfl rfl ?_)
 (refine Jx.gtrI rfl rfl rfl (Jx.pF rfl rfl rfl ?_))
 (refine J.nil (N.seq (W.cF rfl ?_)))
 (refine W.skip (N.seq (W.seq (W.seq (W.region (Jx.fieldAddr rfl rfl ?_))))))
 (refine Jx.load rfl 2 rfl rfl rfl ?_)
 (refine Jx.lenSl rfl rfl ?_)
 (refine Jx.gtrI rfl rfl rfl (J.nil (N.seq (W.cF rfl ?_))))
 (refine W.skip (N.seq (W.seq (W.region (Jx.assign rfl rfl (J.nil (N.seq (W.seq (W.seq (W.region (Jx.fieldAddr rfl rfl ?_)))))))))))
 (refine Jx.load rfl 2 rfl rfl rfl ?_)
 (refine Jx.neqS rfl rfl rfl (J.nil (N.seq (W.cT rfl ?_))))
 (refine W.seq (W.region (Jx.fieldAddr rfl rfl ?_)))
 (refine Jx.load rfl 2 rfl rfl rfl ?_)
 (refine Jx.indexS rfl rfl (by decide) hpos rfl ?_)
 (refine Jx.byteNum rfl rfl rfl ?_; rw [hbn])
 (refine Jx.assign rfl rfl (J.nil (N.seq (W.region (Jx.fieldAddr rfl rfl ?_)))))
 (refine Jx.load rfl 2 rfl rfl rfl ?_)
 (refine Jx.sliceSl rfl rfl (by decide) hpos1 rfl ?_)
 (refine Jx.fieldAddr rfl rfl ?_)
 (refine J.st 2 rfl rfl rfl rfl rfl rfl ?_)
 (refine J.nil (N.seq (W.seq (W.region (Jx.move rfl rfl (Jx.quo64 rfl rfl (by omega) (by decide) rfl ?_))))))
 (refine Jx.rem64 rfl rfl (by omega) (by decide) rfl ?_; rw [hq8])
 (refine Jx.assign rfl rfl (J.nil (N.seq (W.seq (W.region (Jx.assign rfl rfl (J.nil (N.seq (W.seq (W.seq (W.region (Jx.move rfl rfl ?_))))))))))))
 (refine Jx.rem64 rfl rfl (by omega) (by decide) rfl ?_; rw [hq4])
 (refine J.nil (N.seq (W.block (W.seq (W.region (Jx.eqlI rfl rfl rfl (Jx.assign rfl rfl (J.nil (N.seq (W.cF rfl ?_))))))))))
 (refine W.seq (W.region (Jx.eqlI rfl rfl rfl (Jx.assign rfl rfl (J.nil (N.seq (W.cF rfl ?_)))))))
 (refine W.seq (W.region (Jx.eqlI rfl rfl rfl (Jx.assign rfl rfl (J.nil (N.seq (W.cT rfl ?_)))))))
 (refine W.region (Jx.move rfl rfl (Jx.mul64 rfl rfl (by omega) rfl ?_)))
 (refine Jx.add64 rfl rfl (by omega) rfl ?_)
 (refine J.qs (Qs.buildL (fun n : Int => int n) 0 ([1 + 2 * (d : Int)]) (fun _ => .val rfl) rfl rfl rfl (by decide) (by decide) rfl) rfl ?_)
 (refine Jx.assign rfl rfl (J.nil (N.seq (W.seq (W.region (Jx.assign rfl rfl (J.nil (N.seq (W.seq (W.region (Jx.move rfl rfl (Jx.fieldAddr rfl rfl ?_))))))))))))
 (refine Jx.load rfl 2 rfl rfl rfl ?_)
 (refine J.appendAt (enc := rlC) (l := []) (l2 := A) 3 rfl rfl (SrcOK.sl rfl) rfl rfl hmA rfl ?_; intro v0 hv0)
 (refine Jx.assign rfl rfl (J.nil (N.seq (W.seq (W.seq (W.region (Jx.assign rfl rfl (J.nil (N.seq (W.block ?_))))))))))
 (refine id ?_; rotate_left))
      rw [← hafd] at hafl hafe
      rw [← hafd]
      refine W.loop (α := RpS) (fun s => [(10, int (s.i : Int)), (9, .val s.v), (8, islR af), (4, ptr p4), (3, ptr p3), (2, ptr p2)]) (fun s => [.obj p4 tRn [str [], int 0, .val (.slice none 0 0)], .obj p3 tRl [str x.fr, str x.to_, str x.tx, int z], .obj p2 tRn [str f, int now, rll A], rowR s.v s.out]) (fun s => s.i ≤ af.length ∧ s.out = A ++ newA posted now x (af.take s.i) ∧ s.v.oneCell' = true) (fun s => af.length - s.i) ⟨0, v0, A⟩ ⟨Nat.zero_le _, by simp [newA], hv0⟩ rfl ⟨ref0 rfl, ref0 rfl, ref0 rfl, ref0 rfl, ref0 rfl, ref0 rfl, trivial⟩ ?_
      rintro ⟨i, v, out⟩ ⟨hi, ho, hv⟩
      simp only at hi ho hv ⊢
      have hol : out.length ≤ 10002 := by rw [ho, List.length_append, newA_len, List.length_take]; omega
      by_cases h1 : i < af.length
      · have h1' : (i : Int) < (af.length : Int) := by omega
        have e1 : (i : Int) + 1 = ((i + 1 : Nat) : Int) := by omega
        have he : af.getD i 0 ∈ af := by rw [List.getD_eq_getElem?_getD, List.getElem?_eq_getElem h1]; exact List.getElem_mem _
        have hb := hafe _ he
        have htk : af.take (i + 1) = af.take i ++ [af.getD i 0] := by rw [List.take_add_one, List.getElem?_eq_getElem h1, List.getD_eq_getElem?_getD, List.getElem?_eq_getElem h1]; rfl
        have hlt : (af.take i).length = i := by rw [List.length_take]; omega
        have ho2 : out ++ [(⟨posted + i, x, now + af.getD i 0⟩ : Ar)] = A ++ newA posted now x (af.take (i + 1)) := by rw [htk, newA_snoc, hlt, ho, List.append_assoc]
        obtain ⟨e, hel⟩ : ∃ e, af.getD i 0 = e := ⟨_, rfl⟩
        rw [hel] at he hb htk ho2
        have hmx : out.length + [(⟨posted + i, x, now + e⟩ : Ar)].length ≤ maxLen ∧ (out.length + [(⟨posted + i, x, now + e⟩ : Ar)].length) * 56 ≤ 140737488355328 := by simp only [maxLen, List.length_cons, List.length_nil]; omega
        focus (
 (refine W.seq (W.seq (W.region (Jx.move rfl rfl (Jx.move rfl rfl (Jx.lenSl rfl rfl ?_))))))
 (refine Jx.lssI rfl rfl rfl (J.nil (N.seq (W.cT rfl ?_))))
 (refine W.skip (N.seq (W.seq (W.block ?_))))
 (refine W.draw follows ?_)
 (refine JD.till (l := [_, _, _, _, _, _, _, _, _, _, _, _, _, _, _, _, ⟨some 94, .call _, _, _, _, none⟩, _]) 16 (by decide +kernel) (by decide +kernel) rfl rfl ?_)
 (refine Cx.move rfl rfl ?_)
 (refine Cx.fieldAddr rfl rfl ?_)
 (refine Cx.load rfl 1 rfl rfl rfl ?_)
 (refine Cx.fieldAddr rfl rfl ?_)
 (refine Cx.load rfl 1 rfl rfl rfl ?_)
 (refine Cx.fieldAddr rfl rfl ?_)
 (refine Cx.load rfl 1 rfl rfl rfl ?_)
 (refine Cx.fieldAddr rfl rfl ?_)
 (refine Cx.load rfl 2 rfl rfl rfl ?_)
 (refine Cx.move rfl rfl ?_)
 (refine Cx.move rfl rfl ?_)
 (refine Cx.indexEl rfl rfl h1 rfl rfl ?_; rw [hel])
 (refine Cx.loadPP rfl rfl ?_)
 (refine Cx.add64 rfl rfl (by omega) rfl ?_)
 (refine Cx.buildB rfl rfl rfl rfl rfl ?_)
 (refine SegC.q (Qs.buildOne rlC ar0 (⟨posted + i, x, now + e⟩ : Ar) rfl rfl rfl rfl rfl rfl rfl) rfl ?_)
 (refine SegC.nil ?_)
 (refine J.appendAt (enc := rlC) (l := out) (l2 := [(⟨posted + i, x, now + e⟩ : Ar)]) 3 rfl rfl (SrcOK.sl rfl) rfl rfl hmx rfl ?_; intro v' hv')
 (refine Jx.assign rfl rfl (J.nil (N.seq (W.region (Jx.move rfl rfl ?_)))))
 (refine Jx.add64 rfl rfl (by omega) rfl ?_; rw [e1])
 (refine Jx.assign rfl rfl (J.nil ?_))
 (refine id ?_; rotate_left))
        exact N.round ⟨i + 1, v', out ++ [⟨posted + i, x, now + e⟩]⟩ ⟨h1, ho2, hv'⟩ (by simp only; omega) rfl ⟨ref0 rfl, ref0 rfl, ref0 rfl, ref0 rfl, ref0 rfl, ref0 rfl, trivial⟩
      · have h1' : ¬ (i : Int) < (af.length : Int) := by omega
        rw [List.take_of_length_le (by omega)] at ho
        subst ho
        refine W.freezeAt 3 9 rfl rfl (by simp only [maxLen]; omega) ?_
        focus (
 (refine W.seq (W.seq (W.region (Jx.move rfl rfl (Jx.move rfl rfl (Jx.lenSl rfl rfl ?_))))))
 (refine Jx.lssI rfl rfl rfl (J.nil (N.seq (W.cF rfl ?_))))
 (refine W.exit (N.seq (W.seq (W.region (Jx.fieldAddr rfl rfl ?_)))))
 (refine Jx.load rfl 2 rfl rfl rfl ?_)
 (refine Jx.fieldAddr rfl rfl ?_)
 (refine Jx.load rfl 2 rfl rfl rfl ?_)
 (refine Jx.move rfl rfl (Jx.buildB rfl rfl rfl rfl rfl ?_))
 (refine J.storeAll rfl rfl rfl 0 rfl rfl rfl ?_)
 (refine Jx.assign rfl rfl (J.nil (N.seq (W.ret ?_))))
 (refine id ?_; rotate_left))
        exact N.retD (rs := [.cell 4 tRn, .tmp 5]) (L1 := []) rfl (.cell rfl 0 rfl agRn (.tmp rfl .nil)) (List.nil_sublist _) ⟨rfl, rfl⟩
    · have hq4 : (F : Int) % 4 = 0 := by omega
      have haf : aft ⟨y :: f, now, posted, A⟩ = [1 + (d : Int)] := by
        rw [hshow, if_neg k1, if_neg k2, if_neg k3]
      rw [haf]
      have hafl : ([1 + (d : Int)] : List Int).length ≤ 2 := by simp
      have hafe : ∀ e ∈ ([1 + (d : Int)] : List Int), 0 ≤ e ∧ e ≤ 100 := by
        intro e he
        simp only [List.mem_cons, List.not_mem_nil, or_false] at he
        omega
      obtain ⟨af, hafd⟩ : ∃ af : List Int, af = [1 + (d : Int)] := ⟨_, rfl⟩
      refine FnC.intro Try.func32 rfl Try.ntmps32 rfl fun Z w0 hG => ?_
      refine W.rowNil tRl 4 (elOf rlC ar0 []) ?_
      focus (
 (refine W.seq (W.region ?_))
 (refine J.boxAg (d := 2) rfl rfl ?_; intro p2)
 (refine J.boxAg (d := 3) rfl rfl ?_; intro p3)
 (refine J.alloc (d := 4) (by simp only [List.map_cons, List.map_nil]; rfl) rfl rfl ?_; intro p4)
 (refine Jx.assign rfl rfl (J.nil (N.seq (W.seq (W.seq (W.region (Jx.fieldAddr rfl rfl ?_)))))))
 (refine Jx.load rfl 1 rfl rfl rfl ?_)
 (refine J.call (Lc := []) cn1 rfl (evs_args rfl) rfl ?_; rintro _ _ ⟨rfl, rfl⟩; rw [List.nil_append])
 (refine Jx.not rfl rfl (Jx.move rfl rfl (J.gY rfl rfl rfl ?_)))
 (refine Jx.fieldAddr rfl rfl ?_)
 (refine J.gY rfl rfl rfl ?_)
 (refine Jx.load rfl 1 rfl rfl rfl ?_)
 (refine J.gY rfl rfl rfl ?_)
 (refine J.call (Lc := []) cn2 rfl (evs_args rfl) rfl ?_; rintro _ _ ⟨rfl, rfl⟩; rw [List.nil_append])
 (refine J.gY rfl rfl rfl ?_)
 (refine Jx.not rfl rfl (Jx.pF rfl rfl rfl ?_))
 (refine Jx.move rfl rfl (J.gY rfl rfl rfl ?_))
 (refine Jx.fieldAddr rfl rfl ?_)
 (refine J.gY rfl rfl rfl ?_)
 (refine Jx.load rfl 1 rfl rfl rfl ?_)
 (refine J.gY rfl rfl rfl ?_)
 (refine Jx.lenS rfl rfl ?_)
 (refine J.gY rfl rfl rfl ?_)
 (refine Jx.gtrI rfl rfl rfl (Jx.pF rfl rfl rfl ?_))
 (refine J.nil (N.seq (W.cF rfl ?_)))
 (refine W.skip (N.seq (W.seq (W.seq (W.region (Jx.fieldAddr rfl rfl ?_))))))
 (refine Jx.load rfl 2 rfl rfl rfl ?_)
 (refine Jx.lenSl rfl rfl ?_)
 (refine Jx.gtrI rfl rfl rfl (J.nil (N.seq (W.cF rfl ?_))))
 (refine W.skip (N.seq (W.seq (W.region (Jx.assign rfl rfl (J.nil (N.seq (W.seq (W.seq (W.region (Jx.fieldAddr rfl rfl ?_)))))))))))
 (refine Jx.load rfl 2 rfl rfl rfl ?_)
 (refine Jx.neqS rfl rfl rfl (J.nil (N.seq (W.cT rfl ?_))))
 (refine W.seq (W.region (Jx.fieldAddr rfl rfl ?_)))
 (refine Jx.load rfl 2 rfl rfl rfl ?_)
 (refine Jx.indexS rfl rfl (by decide) hpos rfl ?_)
 (refine Jx.byteNum rfl rfl rfl ?_; rw [hbn])
 (refine Jx.assign rfl rfl (J.nil (N.seq (W.region (Jx.fieldAddr rfl rfl ?_)))))
 (refine Jx.load rfl 2 rfl rfl rfl ?_)
 (refine Jx.sliceSl rfl rfl (by decide) hpos1 rfl ?_)
 (refine Jx.fieldAddr rfl rfl ?_)
 (refine J.st 2 rfl rfl rfl rfl rfl rfl ?_)
 (refine J.nil (N.seq (W.seq (W.region (Jx.move rfl rfl (Jx.quo64 rfl rfl (by omega) (by decide) rfl ?_))))))
 (refine Jx.rem64 rfl rfl (by omega) (by decide) rfl ?_; rw [hq8])
 (refine Jx.assign rfl rfl (J.nil (N.seq (W.seq (W.region (Jx.assign rfl rfl (J.nil (N.seq (W.seq (W.seq (W.region (Jx.move rfl rfl ?_))))))))))))
 (refine Jx.rem64 rfl rfl (by omega) (by decide) rfl ?_; rw [hq4])
 (refine J.nil (N.seq (W.block (W.seq (W.region (Jx.eqlI rfl rfl rfl (Jx.assign rfl rfl (J.nil (N.seq (W.cT rfl ?_))))))))))
 (refine W.region (Jx.move rfl rfl (Jx.add64 rfl rfl (by omega) rfl ?_)))
 (refine J.qs (Qs.buildL (fun n : Int => int n) 0 ([1 + (d : Int)]) (fun _ => .val rfl) rfl rfl rfl (by decide) (by decide) rfl) rfl ?_)
 (refine Jx.assign rfl rfl (J.nil (N.seq (W.seq (W.region (Jx.assign rfl rfl (J.nil (N.seq (W.seq (W.region (Jx.move rfl rfl (Jx.fieldAddr rfl rfl ?_))))))))))))
 (refine Jx.load rfl 2 rfl rfl rfl ?_)
 (refine J.appendAt (enc := rlC) (l := []) (l2 := A) 3 rfl rfl (SrcOK.sl rfl) rfl rfl hmA rfl ?_; intro v0 hv0)
 (refine Jx.assign rfl rfl (J.nil (N.seq (W.seq (W.seq (W.region (Jx.assign rfl rfl (J.nil (N.seq (W.block ?_))))))))))
 (refine id ?_; rotate_left))
      rw [← hafd] at hafl hafe
      rw [← hafd]
      refine W.loop (α := RpS) (fun s => [(10, int (s.i : Int)), (9, .val s.v), (8, islR af), (4, ptr p4), (3, ptr p3), (2, ptr p2)]) (fun s => [.obj p4 tRn [str [], int 0, .val (.slice none 0 0)], .obj p3 tRl [str x.fr, str x.to_, str x.tx, int z], .obj p2 tRn [str f, int now, rll A], rowR s.v s.out]) (fun s => s.i ≤ af.length ∧ s.out = A ++ newA posted now x (af.take s.i) ∧ s.v.oneCell' = true) (fun s => af.length - s.i) ⟨0, v0, A⟩ ⟨Nat.zero_le _, by simp [newA], hv0⟩ rfl ⟨ref0 rfl, ref0 rfl, ref0 rfl, ref0 rfl, ref0 rfl, ref0 rfl, trivial⟩ ?_
      rintro ⟨i, v, out⟩ ⟨hi, ho, hv⟩
      simp only at hi ho hv ⊢
      have hol : out.length ≤ 10002 := by rw [ho, List.length_append, newA_len, List.length_take]; omega
      by_cases h1 : i < af.length
      · have h1' : (i : Int) < (af.length : Int) := by omega
        have e1 : (i : Int) + 1 = ((i + 1 : Nat) : Int) := by omega
        have he : af.getD i 0 ∈ af := by rw [List.getD_eq_getElem?_getD, List.getElem?_eq_getElem h1]; exact List.getElem_mem _
        have hb := hafe _ he
        have htk : af.take (i + 1) = af.take i ++ [af.getD i 0] := by rw [List.take_add_one, List.getElem?_eq_getElem h1, List.getD_eq_getElem?_getD, List.getElem?_eq_getElem h1]; rfl
        have hlt : (af.take i).length = i := by rw [List.length_take]; omega
        have ho2 : out ++ [(⟨posted + i, x, now + af.getD i 0⟩ : Ar)] = A ++ newA posted now x (af.take (i + 1)) := by rw [htk, newA_snoc, hlt, ho, List.append_assoc]
        obtain ⟨e, hel⟩ : ∃ e, af.getD i 0 = e := ⟨_, rfl⟩
        rw [hel] at he hb htk ho2
        have hmx : out.length + [(⟨posted + i, x, now + e⟩ : Ar)].length ≤ maxLen ∧ (out.length + [(⟨posted + i, x, now + e⟩ : Ar)].length) * 56 ≤ 140737488355328 := by simp only [maxLen, List.length_cons, List.length_nil]; omega
        focus (
 (refine W.seq (W.seq (W.region (Jx.move rfl rfl (Jx.move rfl rfl (Jx.lenSl rfl rfl ?_))))))
 (refine Jx.lssI rfl rfl rfl (J.nil (N.seq (W.cT rfl ?_))))
 (refine W.skip (N.seq (W.seq (W.block ?_))))
 (refine W.draw follows ?_)
 (refine JD.till (l := [_, _, _, _, _, _, _, _, _, _, _, _, _, _, _, _, ⟨some 94, .call _, _, _, _, none⟩, _]) 16 (by decide +kernel) (by decide +kernel) rfl rfl ?_)
 (refine Cx.move rfl rfl ?_)
 (refine Cx.fieldAddr rfl rfl ?_)
 (refine Cx.load rfl 1 rfl rfl rfl ?_)
 (refine Cx.fieldAddr rfl rfl ?_)
 (refine Cx.load rfl 1 rfl rfl rfl ?_)
 (refine Cx.fieldAddr rfl rfl ?_)
 (refine Cx.load rfl 1 rfl rfl rfl ?_)
 (refine Cx.fieldAddr rfl rfl ?_)
 (refine Cx.load rfl 2 rfl rfl rfl ?_)
 (refine Cx.move rfl rfl ?_)
 (refine Cx.move rfl rfl ?_)
 (refine Cx.indexEl rfl rfl h1 rfl rfl ?_; rw [hel])
 (refine Cx.loadPP rfl rfl ?_)
 (refine Cx.add64 rfl rfl (by omega) rfl ?_)
 (refine Cx.buildB rfl rfl rfl rfl rfl ?_)
 (refine SegC.q (Qs.buildOne rlC ar0 (⟨posted + i, x, now + e⟩ : Ar) rfl rfl rfl rfl rfl rfl rfl) rfl ?_)
 (refine SegC.nil ?_)
 (refine J.appendAt (enc := rlC) (l := out) (l2 := [(⟨posted + i, x, now + e⟩ : Ar)]) 3 rfl rfl (SrcOK.sl rfl) rfl rfl hmx rfl ?_; intro v' hv')
 (refine Jx.assign rfl rfl (J.nil (N.seq (W.region (Jx.move rfl rfl ?_)))))
 (refine Jx.add64 rfl rfl (by omega) rfl ?_; rw [e1])
 (refine Jx.assign rfl rfl (J.nil ?_))
 (refine id ?_; rotate_left))
        exact N.round ⟨i + 1, v', out ++ [⟨posted + i, x, now + e⟩]⟩ ⟨h1, ho2, hv'⟩ (by simp only; omega) rfl ⟨ref0 rfl, ref0 rfl, ref0 rfl, ref0 rfl, ref0 rfl, ref0 rfl, trivial⟩
      · have h1' : ¬ (i : Int) < (af.length : Int) := by omega
        rw [List.take_of_length_le (by omega)] at ho
        subst ho
        refine W.freezeAt 3 9 rfl rfl (by simp only [maxLen]; omega) ?_
        focus (
 (refine W.seq (W.seq (W.region (Jx.move rfl rfl (Jx.move rfl rfl (Jx.lenSl rfl rfl ?_))))))
 (refine Jx.lssI rfl rfl rfl (J.nil (N.seq (W.cF rfl ?_))))
 (refine W.exit (N.seq (W.seq (W.region (Jx.fieldAddr rfl rfl ?_)))))
 (refine Jx.load rfl 2 rfl rfl rfl ?_)
 (refine Jx.fieldAddr rfl rfl ?_)
 (refine Jx.load rfl 2 rfl rfl rfl ?_)
 (refine Jx.move rfl rfl (Jx.buildB rfl rfl rfl rfl rfl ?_))
 (refine J.storeAll rfl rfl rfl 0 rfl rfl rfl ?_)
 (refine Jx.assign rfl rfl (J.nil (N.seq (W.ret ?_))))
 (refine id ?_; rotate_left))
        exact N.retD (rs := [.cell 4 tRn, .tmp 5]) (L1 := []) rfl (.cell rfl 0 rfl agRn (.tmp rfl .nil)) (List.nil_sublist _) ⟨rfl, rfl⟩
end Go.Proofs.Ytmkicbphbegjbaa
namespace Go.Proofs.Ytmkicbphbegjbaa
open Go Go.Sse
set_option linter.unusedVariables false
set_option linter.unusedSimpArgs false
set_option maxRecDepth 10000
structure RtS where
  i : Nat
  vd : Value
  due : List Ar
  vr : Value
  rest : List Ar
set_option maxHeartbeats 8000000 in
theorem rTick_ok (S : NS) (hA : S.A.length ≤ 10000) (hw : 0 ≤ S.now ∧ S.now ≤ 1000000) : FnC Try.prog 33 [.agg (rnC S)] [] (fun r L => r = .tup [.agg (rnC (tickN S)), rll (dueA S)] ∧ L = []) := by
  obtain ⟨f, now, posted, A⟩ := S
  simp only at hA hw
  refine FnC.intro Try.func33 rfl Try.ntmps33 rfl fun Z w0 hG => ?_
  refine W.rowNil tRl 4 (elOf rlC ar0 []) ?_
  refine W.rowNil tRl 4 (elOf rlC ar0 []) ?_
  focus (
 (refine W.seq (W.region ?_))
 (refine J.boxAg (d := 1) rfl rfl ?_; intro p1)
 (refine J.alloc (d := 2) (by simp only [List.map_cons, List.map_nil]; rfl) rfl rfl ?_; intro p2)
 (refine Jx.assign rfl rfl (J.nil (N.seq (W.seq (W.region (Jx.fieldAddr rfl rfl ?_))))))
 (refine Jx.load rfl 1 rfl rfl rfl ?_)
 (refine Jx.add64 rfl rfl (by simp only; omega) rfl ?_)
 (refine Jx.assign rfl rfl (J.nil (N.seq (W.seq (W.region (Jx.assign rfl rfl (Jx.assign rfl rfl (J.nil (N.seq (W.seq (W.seq (W.region (Jx.assign rfl rfl (J.nil ?_))))))))))))))
 (refine N.seq (W.block ?_))
 (refine id ?_; rotate_left))
  refine W.loop (α := RtS) (fun s => [(7, int (s.i : Int)), (6, .val s.vr), (5, .val s.vd), (4, int (now + 1)), (2, ptr p2), (1, ptr p1)]) (fun s => [.obj p2 tRn [str [], int 0, .val (.slice none 0 0)], .obj p1 tRn [str f, int now, rll A], rowR s.vd s.due, rowR s.vr s.rest]) (fun s => s.i ≤ A.length ∧ s.due = (A.take s.i).filter (fun a => decide (a.tm ≤ now + 1)) ∧ s.rest = (A.take s.i).filter (fun a => decide (now + 1 < a.tm)) ∧ s.vd.oneCell' = true ∧ s.vr.oneCell' = true) (fun s => A.length - s.i) ⟨0, .slice none 0 0, [], .slice none 0 0, []⟩ ⟨Nat.zero_le _, rfl, rfl, rfl, rfl⟩ rfl ⟨ref0 rfl, ref0 rfl, ref0 rfl, ref0 rfl, ref0 rfl, ref0 rfl, trivial⟩ ?_
  rintro ⟨i, vd, due, vr, rest⟩ ⟨hi, hdu, hre, hvd, hvr⟩
  simp only at hi hdu hre hvd hvr ⊢
  have hdl : due.length ≤ i := by rw [hdu]; refine Nat.le_trans (List.length_filter_le _ _) ?_; rw [List.length_take]; omega
  have hrl : rest.length ≤ i := by rw [hre]; refine Nat.le_trans (List.length_filter_le _ _) ?_; rw [List.length_take]; omega
  by_cases h1 : i < A.length
  · have h1' : (i : Int) < (A.length : Int) := by omega
    have e1 : (i : Int) + 1 = ((i + 1 : Nat) : Int) := by omega
    have htk : A.take (i + 1) = A.take i ++ [A.getD i ar0] := by rw [List.take_add_one, List.getElem?_eq_getElem h1, List.getD_eq_getElem?_getD, List.getElem?_eq_getElem h1]; rfl
    obtain ⟨a, ha⟩ : ∃ a, A.getD i ar0 = a := ⟨_, rfl⟩
    rw [ha] at htk
    have hd2 : (A.take (i + 1)).filter (fun a => decide (a.tm ≤ now + 1)) = due ++ [a].filter (fun a => decide (a.tm ≤ now + 1)) := by rw [htk, List.filter_append, ← hdu]
    have hr2 : (A.take (i + 1)).filter (fun a => decide (now + 1 < a.tm)) = rest ++ [a].filter (fun a => decide (now + 1 < a.tm)) := by rw [htk, List.filter_append, ← hre]
    by_cases h2 : a.tm ≤ now + 1
    · have h2n : ¬ now + 1 < a.tm := by omega
      rw [List.filter_cons_of_pos (by simpa using h2), List.filter_nil] at hd2
      rw [List.filter_cons_of_neg (by simpa using h2n), List.filter_nil, List.append_nil] at hr2
      have hmx : due.length + [a].length ≤ maxLen ∧ (due.length + [a].length) * 56 ≤ 140737488355328 := by simp only [maxLen, List.length_cons, List.length_nil]; omega
      focus (
 (refine W.seq (W.seq (W.region (Jx.move rfl rfl (Jx.fieldAddr rfl rfl ?_)))))
 (refine Jx.load rfl 1 rfl rfl rfl ?_)
 (refine Jx.lenSl rfl rfl ?_)
 (refine Jx.lssI rfl rfl rfl (J.nil (N.seq (W.cT rfl ?_))))
 (refine W.skip (N.seq (W.seq (W.block (W.seq (W.region (Jx.fieldAddr rfl rfl ?_)))))))
 (refine Jx.load rfl 1 rfl rfl rfl ?_)
 (refine Jx.move rfl rfl ?_)
 (refine Jx.indexEl rfl rfl h1 rfl rfl ?_; rw [ha])
 (refine Jx.fieldEl rfl rfl rfl ?_)
 (refine Jx.loadPP rfl rfl ?_)
 (refine Jx.move rfl rfl (Jx.leqI rfl rfl rfl (J.nil (N.seq (W.cT rfl ?_)))))
 (refine W.region (Jx.move rfl rfl (Jx.fieldAddr rfl rfl ?_)))
 (refine Jx.load rfl 1 rfl rfl rfl ?_)
 (refine Jx.move rfl rfl ?_)
 (refine Jx.indexEl rfl rfl h1 rfl rfl ?_; rw [ha])
 (refine Jx.loadPPall rfl rfl rfl ?_)
 (refine J.qs (Qs.buildOne rlC ar0 a rfl rfl rfl rfl rfl rfl rfl) rfl ?_)
 (refine J.appendAt (enc := rlC) (l := due) (l2 := [a]) 2 rfl rfl (SrcOK.sl rfl) rfl rfl hmx rfl ?_; intro v' hv')
 (refine Jx.assign rfl rfl (J.nil (N.seq (W.region (Jx.move rfl rfl ?_)))))
 (refine Jx.add64 rfl rfl (by omega) rfl ?_; rw [e1])
 (refine Jx.assign rfl rfl (J.nil ?_))
 (refine id ?_; rotate_left))
      exact N.round ⟨i + 1, v', due ++ [a], vr, rest⟩ ⟨h1, hd2.symm, hr2.symm, hv', hvr⟩ (by simp only; omega) rfl ⟨ref0 rfl, ref0 rfl, ref0 rfl, ref0 rfl, ref0 rfl, ref0 rfl, trivial⟩
    · have h2n : now + 1 < a.tm := by omega
      rw [List.filter_cons_of_neg (by simpa using h2), List.filter_nil, List.append_nil] at hd2
      rw [List.filter_cons_of_pos (by simpa using h2n), List.filter_nil] at hr2
      have hmx : rest.length + [a].length ≤ maxLen ∧ (rest.length + [a].length) * 56 ≤ 140737488355328 := by simp only [maxLen, List.length_cons, List.length_nil]; omega
      focus (
 (refine W.seq (W.seq (W.region (Jx.move rfl rfl (Jx.fieldAddr rfl rfl ?_)))))
 (refine Jx.load rfl 1 rfl rfl rfl ?_)
 (refine Jx.lenSl rfl rfl ?_)
 (refine Jx.lssI rfl rfl rfl (J.nil (N.seq (W.cT rfl ?_))))
 (refine W.skip (N.seq (W.seq (W.block (W.seq (W.region (Jx.fieldAddr rfl rfl ?_)))))))
 (refine Jx.load rfl 1 rfl rfl rfl ?_)
 (refine Jx.move rfl rfl ?_)
 (refine Jx.indexEl rfl rfl h1 rfl rfl ?_; rw [ha])
 (refine Jx.fieldEl rfl rfl rfl ?_)
 (refine Jx.loadPP rfl rfl ?_)
 (refine Jx.move rfl rfl (Jx.leqI rfl rfl rfl (J.nil (N.seq (W.cF rfl ?_)))))
 (refine W.region (Jx.move rfl rfl (Jx.fieldAddr rfl rfl ?_)))
 (refine Jx.load rfl 1 rfl rfl rfl ?_)
 (refine Jx.move rfl rfl ?_)
 (refine Jx.indexEl rfl rfl h1 rfl rfl ?_; rw [ha])
 (refine Jx.loadPPall rfl rfl rfl ?_)
 (refine J.qs (Qs.buildOne rlC ar0 a rfl rfl rfl rfl rfl rfl rfl) rfl ?_)
 (refine J.appendAt (enc := rlC) (l := rest) (l2 := [a]) 3 rfl rfl (SrcOK.sl rfl) rfl rfl hmx rfl ?_; intro v' hv')
 (refine Jx.assign rfl rfl (J.nil (N.seq (W.region (Jx.move rfl rfl ?_)))))
 (refine Jx.add64 rfl rfl (by omega) rfl ?_; rw [e1])
 (refine Jx.assign rfl rfl (J.nil ?_))
 (refine id ?_; rotate_left))
      exact N.round ⟨i + 1, vd, due, v', rest ++ [a]⟩ ⟨h1, hd2.symm, hr2.symm, hvd, hv'⟩ (by simp only; omega) rfl ⟨ref0 rfl, ref0 rfl, ref0 rfl, ref0 rfl, ref0 rfl, ref0 rfl, trivial⟩
  · have h1' : ¬ (i : Int) < (A.length : Int) := by omega
    rw [List.take_of_length_le (by omega)] at hdu hre
    subst hdu hre
    refine W.freezeAt 2 5 rfl rfl (by simp only [maxLen]; omega) ?_
    refine W.freezeAt 2 6 rfl rfl (by simp only [maxLen]; omega) ?_
    focus (
 (refine W.seq (W.seq (W.region (Jx.move rfl rfl (Jx.fieldAddr rfl rfl ?_)))))
 (refine Jx.load rfl 1 rfl rfl rfl ?_)
 (refine Jx.lenSl rfl rfl ?_)
 (refine Jx.lssI rfl rfl rfl (J.nil (N.seq (W.cF rfl ?_))))
 (refine W.exit (N.seq (W.seq (W.region (Jx.fieldAddr rfl rfl ?_)))))
 (refine Jx.load rfl 1 rfl rfl rfl ?_)
 (refine Jx.move rfl rfl (Jx.move rfl rfl (Jx.buildB rfl rfl rfl rfl rfl ?_)))
 (refine Jx.move rfl rfl (J.storeAll rfl rfl rfl 0 rfl rfl rfl ?_))
 (refine Jx.assign rfl rfl (J.nil (N.seq (W.ret ?_))))
 (refine id ?_; rotate_left))
    exact N.retD (rs := [.cell 2 tRn, .tmp 3]) (L1 := []) rfl (.cell rfl 0 rfl agRn (.tmp rfl .nil)) (List.nil_sublist _) ⟨rfl, rfl⟩
end Go.Proofs.Ytmkicbphbegjbaa
namespace Go.Proofs.Ytmkicbphbegjbaa
open Go Go.Sse
set_option linter.unusedVariables false
set_option linter.unusedSimpArgs false
set_option maxRecDepth 10000
abbrev nasl (l : List Na) : SV := .sl 4 l.length (elOf naC na0 l)
structure NpS where
  i : Nat
  S : NS
  L : List Own
theorem nw_len {b : Nat} {S : NS} {n : Nat} {L : List Own} (h : Nw b S n L) : S.A.length ≤ n ∧ 0 ≤ S.now ∧ S.now ≤ n := by
  obtain ⟨tb, M, mp, LT, _, _, hK⟩ := h
  exact ⟨Nat.le_trans hK.len hK.p1, hK.n0, hK.n1⟩
set_option maxHeartbeats 16000000 in
theorem netPlays_ok (f : List UInt8) (l : List Na) : FnC Try.prog 8 [str f, nasl l] [] (fun r L => r = Sse.bool true ∧ L = []) := by
  by_cases g1 : 1000 < f.length
  · have g1' : (1000 : Int) < (f.length : Int) := by omega
    refine FnC.intro Try.func8 rfl Try.ntmps8 rfl fun Z w0 hG => ?_
    focus (
 (refine W.seq (W.region (Jx.assign rfl rfl (J.nil (N.seq (W.seq (W.seq (W.region (Jx.move rfl rfl (Jx.lenS rfl rfl ?_))))))))))
 (refine Jx.gtrI rfl rfl rfl (J.nil (N.seq (W.cT rfl ?_))))
 (refine W.seq (W.region ?_))
 (refine J.call nworks_ok rfl (evs_args rfl) rfl ?_; rintro _ _ ⟨rfl, rfl⟩)
 (refine Jx.assign rfl rfl (J.nil (N.seq (W.ret (N.noGotoRet ?_)))))
 (refine id ?_; rotate_left))
    exact N.ret (rs := [.tmp 4]) rfl (.tmp rfl .nil) ⟨rfl, rfl⟩
  have g1' : ¬ (1000 : Int) < (f.length : Int) := by omega
  have hn := nNew_ok f
  refine FnC.intro Try.func8 rfl Try.ntmps8 rfl fun Z w0 hG => ?_
  focus (
 (refine W.seq (W.region (Jx.assign rfl rfl (J.nil (N.seq (W.seq (W.seq (W.region (Jx.move rfl rfl (Jx.lenS rfl rfl ?_))))))))))
 (refine Jx.gtrI rfl rfl rfl (J.nil (N.seq (W.cF rfl ?_))))
 (refine W.skip (N.seq (W.seq (W.region (Jx.move rfl rfl ?_)))))
 (refine J.call hn rfl (evs_args rfl) rfl ?_; rintro _ L0 ⟨b, rfl, h0⟩; rw [List.append_nil])
 (refine Jx.move rfl rfl (Jx.buildB rfl rfl rfl rfl rfl ?_))
 (refine J.alloc (d := 6) (by simp only [List.map_cons, List.map_nil]; rfl) rfl rfl ?_; intro p6)
 (refine Jx.assign rfl rfl (J.storeAll rfl rfl rfl 0 rfl rfl rfl ?_))
 (refine J.nil (N.seq (W.seq (W.seq (W.region (Jx.move rfl rfl (Jx.eqlNil rfl rfl ?_)))))))
 (refine J.nil (N.seq (W.cF rfl ?_)))
 (refine W.skip (N.seq (W.seq (W.seq (W.region (Jx.assign rfl rfl (J.nil (N.seq (W.block ?_)))))))))
 (refine id ?_; rotate_left))
  refine W.rowNil tRl 4 (elOf rlC ar0 []) ?_
  refine W.freezeCell 0 0 2 rfl rfl rfl (by simp only [maxLen]; decide) rfl ?_
  refine W.loop (α := NpS) (fun x => [(7, int (x.i : Int)), (6, ptr p6), (5, ptr b), (1, nasl l)]) (fun x => .obj p6 tRn (rnC x.S) :: x.L) (fun x => x.i ≤ min l.length 80 ∧ Nw b x.S (2 * x.i) x.L) (fun x => l.length - x.i) ⟨0, ns0 f, L0⟩ ⟨Nat.zero_le _, h0⟩ rfl ⟨ref0 rfl, ref0 rfl, ref0 rfl, ref0 rfl, trivial⟩ ?_
  rintro ⟨i, S, L1⟩ ⟨hi, hN⟩
  simp only at hi hN ⊢
  have hi1 : i ≤ l.length := Nat.le_trans hi (Nat.min_le_left _ _)
  have hi2 : i ≤ 80 := Nat.le_trans hi (Nat.min_le_right _ _)
  have e1 : (i : Int) + 1 = ((i + 1 : Nat) : Int) := by omega
  obtain ⟨hAl, hw0, hw1⟩ := nw_len hN
  by_cases hc : i < l.length ∧ i < 80
  · obtain ⟨h1, h2⟩ := hc
    have h1' : (i : Int) < (l.length : Int) := by omega
    have h2' : (i : Int) < 80 := by omega
    have hle : i + 1 ≤ min l.length 80 := Nat.le_min.2 ⟨h1, h2⟩
    obtain ⟨⟨kd, x⟩, hx⟩ : ∃ y, l.getD i na0 = y := ⟨_, rfl⟩
    by_cases g2 : 100 < x.fr.length
    · have g2' : (100 : Int) < (x.fr.length : Int) := by omega
      focus (
 (refine W.seq (W.seq (W.region (Jx.move rfl rfl (Jx.move rfl rfl (Jx.lenSl rfl rfl ?_))))))
 (refine Jx.lssI rfl rfl rfl (Jx.move rfl rfl (J.gY rfl rfl rfl ?_)))
 (refine Jx.move rfl rfl (J.gY rfl rfl rfl ?_))
 (refine Jx.lssI rfl rfl rfl (Jx.pT rfl rfl rfl ?_))
 (refine J.nil (N.seq (W.cT rfl ?_)))
 (refine W.skip (N.seq (W.seq (W.block (W.seq (W.region (Jx.move rfl rfl (Jx.move rfl rfl ?_))))))))
 (refine Jx.indexEl rfl rfl h1 rfl rfl ?_; rw [hx])
 (refine Jx.fieldEl rfl rfl rfl ?_)
 (refine Jx.loadPPall rfl rfl rfl ?_)
 (refine J.alloc (d := 8) (by simp only [List.map_cons, List.map_nil]; rfl) rfl rfl ?_; intro p8)
 (refine J.storeAll rfl rfl rfl 0 rfl rfl rfl ?_)
 (refine J.nil (N.seq (W.seq (W.seq (W.region (Jx.fieldAddr rfl rfl ?_))))))
 (refine Jx.load rfl 0 rfl rfl rfl ?_)
 (refine Jx.lenS rfl rfl ?_)
 (refine Jx.gtrI rfl rfl rfl (Jx.move rfl rfl (J.gN rfl rfl rfl rfl ?_)))
 (refine J.gN rfl rfl rfl rfl ?_)
 (refine J.gN rfl rfl rfl rfl ?_)
 (refine J.gN rfl rfl rfl rfl ?_)
 (refine Jx.pT rfl rfl rfl ?_)
 (refine Jx.move rfl rfl (J.gN rfl rfl rfl rfl ?_))
 (refine J.gN rfl rfl rfl rfl ?_)
 (refine J.gN rfl rfl rfl rfl ?_)
 (refine J.gN rfl rfl rfl rfl ?_)
 (refine Jx.pT rfl rfl rfl ?_)
 (refine J.nil (N.seq (W.cT rfl ?_)))
 (refine W.exit (N.seq (W.region (Jx.move rfl rfl ?_))))
 (refine Jx.add64 rfl rfl (by omega) rfl ?_; rw [e1])
 (refine Jx.assign rfl rfl (J.nil ?_))
 (refine id ?_; rotate_left))
      refine N.drop (List.sublist_cons_self _ _) ?_
      exact N.round ⟨i + 1, S, L1⟩ ⟨hle, hN.mono (by simp only; omega)⟩ (by simp only; omega) rfl ⟨ref0 rfl, ref0 rfl, ref0 rfl, ref0 rfl, trivial⟩
    have g2' : ¬ (100 : Int) < (x.fr.length : Int) := by omega
    by_cases g3 : 100 < x.to_.length
    · have g3' : (100 : Int) < (x.to_.length : Int) := by omega
      focus (
 (refine W.seq (W.seq (W.region (Jx.move rfl rfl (Jx.move rfl rfl (Jx.lenSl rfl rfl ?_))))))
 (refine Jx.lssI rfl rfl rfl (Jx.move rfl rfl (J.gY rfl rfl rfl ?_)))
 (refine Jx.move rfl rfl (J.gY rfl rfl rfl ?_))
 (refine Jx.lssI rfl rfl rfl (Jx.pT rfl rfl rfl ?_))
 (refine J.nil (N.seq (W.cT rfl ?_)))
 (refine W.skip (N.seq (W.seq (W.block (W.seq (W.region (Jx.move rfl rfl (Jx.move rfl rfl ?_))))))))
 (refine Jx.indexEl rfl rfl h1 rfl rfl ?_; rw [hx])
 (refine Jx.fieldEl rfl rfl rfl ?_)
 (refine Jx.loadPPall rfl rfl rfl ?_)
 (refine J.alloc (d := 8) (by simp only [List.map_cons, List.map_nil]; rfl) rfl rfl ?_; intro p8)
 (refine J.storeAll rfl rfl rfl 0 rfl rfl rfl ?_)
 (refine J.nil (N.seq (W.seq (W.seq (W.region (Jx.fieldAddr rfl rfl ?_))))))
 (refine Jx.load rfl 0 rfl rfl rfl ?_)
 (refine Jx.lenS rfl rfl ?_)
 (refine Jx.gtrI rfl rfl rfl (Jx.move rfl rfl (J.gY rfl rfl rfl ?_)))
 (refine Jx.fieldAddr rfl rfl ?_)
 (refine J.gY rfl rfl rfl ?_)
 (refine Jx.load rfl 0 rfl rfl rfl ?_)
 (refine J.gY rfl rfl rfl ?_)
 (refine Jx.lenS rfl rfl ?_)
 (refine J.gY rfl rfl rfl ?_)
 (refine Jx.gtrI rfl rfl rfl (Jx.pF rfl rfl rfl ?_))
 (refine Jx.move rfl rfl (J.gN rfl rfl rfl rfl ?_))
 (refine J.gN rfl rfl rfl rfl ?_)
 (refine J.gN rfl rfl rfl rfl ?_)
 (refine J.gN rfl rfl rfl rfl ?_)
 (refine Jx.pT rfl rfl rfl ?_)
 (refine J.nil (N.seq (W.cT rfl ?_)))
 (refine W.exit (N.seq (W.region (Jx.move rfl rfl ?_))))
 (refine Jx.add64 rfl rfl (by omega) rfl ?_; rw [e1])
 (refine Jx.assign rfl rfl (J.nil ?_))
 (refine id ?_; rotate_left))
      refine N.drop (List.sublist_cons_self _ _) ?_
      exact N.round ⟨i + 1, S, L1⟩ ⟨hle, hN.mono (by simp only; omega)⟩ (by simp only; omega) rfl ⟨ref0 rfl, ref0 rfl, ref0 rfl, ref0 rfl, trivial⟩
    have g3' : ¬ (100 : Int) < (x.to_.length : Int) := by omega
    by_cases g4 : 1000 < x.tx.length
    · have g4' : (1000 : Int) < (x.tx.length : Int) := by omega
      focus (
 (refine W.seq (W.seq (W.region (Jx.move rfl rfl (Jx.move rfl rfl (Jx.lenSl rfl rfl ?_))))))
 (refine Jx.lssI rfl rfl rfl (Jx.move rfl rfl (J.gY rfl rfl rfl ?_)))
 (refine Jx.move rfl rfl (J.gY rfl rfl rfl ?_))
 (refine Jx.lssI rfl rfl rfl (Jx.pT rfl rfl rfl ?_))
 (refine J.nil (N.seq (W.cT rfl ?_)))
 (refine W.skip (N.seq (W.seq (W.block (W.seq (W.region (Jx.move rfl rfl (Jx.move rfl rfl ?_))))))))
 (refine Jx.indexEl rfl rfl h1 rfl rfl ?_; rw [hx])
 (refine Jx.fieldEl rfl rfl rfl ?_)
 (refine Jx.loadPPall rfl rfl rfl ?_)
 (refine J.alloc (d := 8) (by simp only [List.map_cons, List.map_nil]; rfl) rfl rfl ?_; intro p8)
 (refine J.storeAll rfl rfl rfl 0 rfl rfl rfl ?_)
 (refine J.nil (N.seq (W.seq (W.seq (W.region (Jx.fieldAddr rfl rfl ?_))))))
 (refine Jx.load rfl 0 rfl rfl rfl ?_)
 (refine Jx.lenS rfl rfl ?_)
 (refine Jx.gtrI rfl rfl rfl (Jx.move rfl rfl (J.gY rfl rfl rfl ?_)))
 (refine Jx.fieldAddr rfl rfl ?_)
 (refine J.gY rfl rfl rfl ?_)
 (refine Jx.load rfl 0 rfl rfl rfl ?_)
 (refine J.gY rfl rfl rfl ?_)
 (refine Jx.lenS rfl rfl ?_)
 (refine J.gY rfl rfl rfl ?_)
 (refine Jx.gtrI rfl rfl rfl (Jx.pF rfl rfl rfl ?_))
 (refine Jx.move rfl rfl (J.gY rfl rfl rfl ?_))
 (refine Jx.fieldAddr rfl rfl ?_)
 (refine J.gY rfl rfl rfl ?_)
 (refine Jx.load rfl 0 rfl rfl rfl ?_)
 (refine J.gY rfl rfl rfl ?_)
 (refine Jx.lenS rfl rfl ?_)
 (refine J.gY rfl rfl rfl ?_)
 (refine Jx.gtrI rfl rfl rfl (Jx.pF rfl rfl rfl ?_))
 (refine J.nil (N.seq (W.cT rfl ?_)))
 (refine W.exit (N.seq (W.region (Jx.move rfl rfl ?_))))
 (refine Jx.add64 rfl rfl (by omega) rfl ?_; rw [e1])
 (refine Jx.assign rfl rfl (J.nil ?_))
 (refine id ?_; rotate_left))
      refine N.drop (List.sublist_cons_self _ _) ?_
      exact N.round ⟨i + 1, S, L1⟩ ⟨hle, hN.mono (by simp only; omega)⟩ (by simp only; omega) rfl ⟨ref0 rfl, ref0 rfl, ref0 rfl, ref0 rfl, trivial⟩
    have g4' : ¬ (1000 : Int) < (x.tx.length : Int) := by omega
    by_cases k0 : kd = 0
    · have cr := rPost_ok S x 0 (by omega) (by omega)
      have cp := nPost_ok b S (2 * i) L1 hN x (by omega)
      generalize postN S x = P at *
      obtain ⟨T, c⟩ := P
      simp only at cr cp
      have cn := fun L2 (h2 : Nw b T (2 * i + 2) L2) => nNow_ok b T _ L2 h2
      have cl := fun L2 (h2 : Nw b T (2 * i + 2) L2) => nLeft_ok b T _ L2 h2
      focus (
 (refine W.seq (W.seq (W.region (Jx.move rfl rfl (Jx.move rfl rfl (Jx.lenSl rfl rfl ?_))))))
 (refine Jx.lssI rfl rfl rfl (Jx.move rfl rfl (J.gY rfl rfl rfl ?_)))
 (refine Jx.move rfl rfl (J.gY rfl rfl rfl ?_))
 (refine Jx.lssI rfl rfl rfl (Jx.pT rfl rfl rfl ?_))
 (refine J.nil (N.seq (W.cT rfl ?_)))
 (refine W.skip (N.seq (W.seq (W.block (W.seq (W.region (Jx.move rfl rfl (Jx.move rfl rfl ?_))))))))
 (refine Jx.indexEl rfl rfl h1 rfl rfl ?_; rw [hx])
 (refine Jx.fieldEl rfl rfl rfl ?_)
 (refine Jx.loadPPall rfl rfl rfl ?_)
 (refine J.alloc (d := 8) (by simp only [List.map_cons, List.map_nil]; rfl) rfl rfl ?_; intro p8)
 (refine J.storeAll rfl rfl rfl 0 rfl rfl rfl ?_)
 (refine J.nil (N.seq (W.seq (W.seq (W.region (Jx.fieldAddr rfl rfl ?_))))))
 (refine Jx.load rfl 0 rfl rfl rfl ?_)
 (refine Jx.lenS rfl rfl ?_)
 (refine Jx.gtrI rfl rfl rfl (Jx.move rfl rfl (J.gY rfl rfl rfl ?_)))
 (refine Jx.fieldAddr rfl rfl ?_)
 (refine J.gY rfl rfl rfl ?_)
 (refine Jx.load rfl 0 rfl rfl rfl ?_)
 (refine J.gY rfl rfl rfl ?_)
 (refine Jx.lenS rfl rfl ?_)
 (refine J.gY rfl rfl rfl ?_)
 (refine Jx.gtrI rfl rfl rfl (Jx.pF rfl rfl rfl ?_))
 (refine Jx.move rfl rfl (J.gY rfl rfl rfl ?_))
 (refine Jx.fieldAddr rfl rfl ?_)
 (refine J.gY rfl rfl rfl ?_)
 (refine Jx.load rfl 0 rfl rfl rfl ?_)
 (refine J.gY rfl rfl rfl ?_)
 (refine Jx.lenS rfl rfl ?_)
 (refine J.gY rfl rfl rfl ?_)
 (refine Jx.gtrI rfl rfl rfl (Jx.pF rfl rfl rfl ?_))
 (refine J.nil (N.seq (W.cF rfl ?_)))
 (refine W.skip (N.seq (W.seq (W.seq (W.region (Jx.move rfl rfl (Jx.move rfl rfl ?_)))))))
 (refine Jx.indexEl rfl rfl h1 rfl rfl ?_; rw [hx])
 (refine Jx.fieldEl rfl rfl rfl ?_)
 (refine Jx.loadPP rfl rfl ?_)
 (refine J.nil (N.seq (W.block (W.seq (W.region (Jx.eqlI rfl rfl rfl (Jx.assign rfl rfl (J.nil (N.seq (W.cT rfl ?_))))))))))
 (refine W.seq (W.region (Jx.loadAll rfl 1 rfl rfl rfl ?_)))
 (refine Jx.fieldAddr rfl rfl ?_)
 (refine Jx.load rfl 0 rfl rfl rfl ?_)
 (refine Jx.fieldAddr rfl rfl ?_)
 (refine Jx.load rfl 0 rfl rfl rfl ?_)
 (refine Jx.fieldAddr rfl rfl ?_)
 (refine Jx.load rfl 0 rfl rfl rfl ?_)
 (refine Jx.buildB rfl rfl rfl rfl rfl ?_)
 (refine J.call (Lc := []) cr rfl (evs_args rfl) rfl ?_; rintro _ _ ⟨rfl, rfl⟩; rw [List.nil_append])
 (refine Jx.move rfl rfl (Jx.extract rfl rfl rfl ?_))
 (refine Jx.extract rfl rfl rfl ?_)
 (refine J.alloc (d := 9) (by simp only [List.map_cons, List.map_nil]; rfl) rfl rfl ?_; intro p9)
 (refine J.storeAll rfl rfl rfl 0 rfl rfl rfl ?_)
 (refine Jx.assign rfl rfl (J.nil (N.seq (W.seq (W.region (Jx.loadAll rfl 0 rfl rfl rfl ?_))))))
 (refine J.storeAll rfl rfl rfl 2 rfl rfl rfl ?_)
 (refine J.nil (N.seq (W.seq (W.region (Jx.move rfl rfl (Jx.loadAll rfl 1 rfl rfl rfl ?_))))))
 (refine J.perm (List.perm_append_comm (l₁ := [_, _, _]) (l₂ := L1)) ?_; refine J.call cp rfl (evs_args rfl) rfl ?_; rintro _ L2 ⟨rfl, hT2⟩; refine J.perm (List.perm_append_comm (l₁ := L2) (l₂ := [_, _, _])) ?_; simp only [List.cons_append, List.nil_append])
 (refine Jx.move rfl rfl (Jx.neqI rfl rfl rfl (J.nil (N.seq (W.cF rfl ?_)))))
 (refine W.skip (N.seq (W.seq ?_)))
 (refine W.draw follows ?_)
 (refine JD.calm rfl (by decide +kernel) ?_)
 (refine Cx.move rfl rfl ?_)
 (refine SegC.q (Qs.call (Lc := L2) (cn L2 hT2) (fun s L' h => h) (List.perm_append_comm (l₁ := [_, _, _]) (l₂ := L2)) (evs_args rfl)) rfl ?_)
 (refine Cx.fieldAddr rfl rfl ?_)
 (refine Cx.load rfl 2 rfl rfl rfl ?_)
 (refine Cx.neqI rfl rfl rfl ?_)
 (refine Cx.move rfl rfl ?_)
 (refine SegC.gY rfl rfl rfl ?_)
 (refine Cx.move rfl rfl ?_)
 (refine SegC.gY rfl rfl rfl ?_)
 (refine SegC.q (Qs.call (Lc := L2) (cl L2 hT2) (fun s L' h => h) (List.perm_append_comm (l₁ := [_, _, _]) (l₂ := L2)) (evs_args rfl)) rfl ?_)
 (refine SegC.gY rfl rfl rfl ?_)
 (refine Cx.fieldAddr rfl rfl ?_)
 (refine SegC.gY rfl rfl rfl ?_)
 (refine Cx.load rfl 2 rfl rfl rfl ?_)
 (refine SegC.gY rfl rfl rfl ?_)
 (refine Cx.lenSl rfl rfl ?_)
 (refine SegC.gY rfl rfl rfl ?_)
 (refine Cx.neqI rfl rfl rfl ?_)
 (refine Cx.pickF rfl (by first | rfl | assumption | (exact decide_eq_true (by first | assumption | omega | rfl)) | (exact decide_eq_false (by first | assumption | omega | rfl)) | (simp; done) | (simp; omega)) rfl rfl ?_)
 (refine SegC.nil ?_)
 (refine N.seq (W.cF rfl ?_))
 (refine W.skip (N.seq (W.region (Jx.move rfl rfl ?_))))
 (refine Jx.add64 rfl rfl (by omega) rfl ?_; rw [e1])
 (refine Jx.assign rfl rfl (J.nil ?_))
 (refine id ?_; rotate_left))
      refine N.drop (.cons _ (.cons _ (List.Sublist.refl _))) ?_
      exact N.round ⟨i + 1, T, L2⟩ ⟨hle, hT2.mono (by simp only; omega)⟩ (by simp only; omega) rfl ⟨ref0 rfl, ref0 rfl, ref0 rfl, ref0 rfl, trivial⟩
    by_cases k1 : kd = 1
    · have cr := rTick_ok S (by omega) (by omega)
      have ct := nTick_ok b S (2 * i) L1 hN (by omega)
      have hQl : (dueA S).length ≤ S.A.length := List.length_filter_le _ _
      obtain ⟨T, hT⟩ : ∃ T, tickN S = T := ⟨_, rfl⟩
      obtain ⟨Q, hQ⟩ : ∃ Q, dueA S = Q := ⟨_, rfl⟩
      rw [hT, hQ] at cr ct
      rw [hQ] at hQl
      have cn := fun L2 (h2 : Nw b T (2 * i + 1) L2) => nNow_ok b T _ L2 h2
      have cl := fun L2 (h2 : Nw b T (2 * i + 1) L2) => nLeft_ok b T _ L2 h2
      have hml : (Q.map Ar.l).length = Q.length := List.length_map _
      have hmx : (Q.map Ar.l).length ≤ maxLen := by rw [hml]; simp only [maxLen]; omega
      focus (
 (refine W.seq (W.seq (W.region (Jx.move rfl rfl (Jx.move rfl rfl (Jx.lenSl rfl rfl ?_))))))
 (refine Jx.lssI rfl rfl rfl (Jx.move rfl rfl (J.gY rfl rfl rfl ?_)))
 (refine Jx.move rfl rfl (J.gY rfl rfl rfl ?_))
 (refine Jx.lssI rfl rfl rfl (Jx.pT rfl rfl rfl ?_))
 (refine J.nil (N.seq (W.cT rfl ?_)))
 (refine W.skip (N.seq (W.seq (W.block (W.seq (W.region (Jx.move rfl rfl (Jx.move rfl rfl ?_))))))))
 (refine Jx.indexEl rfl rfl h1 rfl rfl ?_; rw [hx])
 (refine Jx.fieldEl rfl rfl rfl ?_)
 (refine Jx.loadPPall rfl rfl rfl ?_)
 (refine J.alloc (d := 8) (by simp only [List.map_cons, List.map_nil]; rfl) rfl rfl ?_; intro p8)
 (refine J.storeAll rfl rfl rfl 0 rfl rfl rfl ?_)
 (refine J.nil (N.seq (W.seq (W.seq (W.region (Jx.fieldAddr rfl rfl ?_))))))
 (refine Jx.load rfl 0 rfl rfl rfl ?_)
 (refine Jx.lenS rfl rfl ?_)
 (refine Jx.gtrI rfl rfl rfl (Jx.move rfl rfl (J.gY rfl rfl rfl ?_)))
 (refine Jx.fieldAddr rfl rfl ?_)
 (refine J.gY rfl rfl rfl ?_)
 (refine Jx.load rfl 0 rfl rfl rfl ?_)
 (refine J.gY rfl rfl rfl ?_)
 (refine Jx.lenS rfl rfl ?_)
 (refine J.gY rfl rfl rfl ?_)
 (refine Jx.gtrI rfl rfl rfl (Jx.pF rfl rfl rfl ?_))
 (refine Jx.move rfl rfl (J.gY rfl rfl rfl ?_))
 (refine Jx.fieldAddr rfl rfl ?_)
 (refine J.gY rfl rfl rfl ?_)
 (refine Jx.load rfl 0 rfl rfl rfl ?_)
 (refine J.gY rfl rfl rfl ?_)
 (refine Jx.lenS rfl rfl ?_)
 (refine J.gY rfl rfl rfl ?_)
 (refine Jx.gtrI rfl rfl rfl (Jx.pF rfl rfl rfl ?_))
 (refine J.nil (N.seq (W.cF rfl ?_)))
 (refine W.skip (N.seq (W.seq (W.seq (W.region (Jx.move rfl rfl (Jx.move rfl rfl ?_)))))))
 (refine Jx.indexEl rfl rfl h1 rfl rfl ?_; rw [hx])
 (refine Jx.fieldEl rfl rfl rfl ?_)
 (refine Jx.loadPP rfl rfl ?_)
 (refine J.nil (N.seq (W.block (W.seq (W.region (Jx.eqlI rfl rfl rfl (Jx.assign rfl rfl (J.nil (N.seq (W.cF rfl ?_))))))))))
 (refine W.seq (W.region (Jx.eqlI rfl rfl rfl (Jx.assign rfl rfl (J.nil (N.seq (W.cT rfl ?_)))))))
 (refine W.seq (W.region (Jx.loadAll rfl 1 rfl rfl rfl ?_)))
 (refine J.call (Lc := []) cr rfl (evs_args rfl) rfl ?_; rintro _ _ ⟨rfl, rfl⟩; rw [List.nil_append])
 (refine Jx.move rfl rfl (Jx.extract rfl rfl rfl ?_))
 (refine Jx.extract rfl rfl rfl ?_)
 (refine J.alloc (d := 11) (by simp only [List.map_cons, List.map_nil]; rfl) rfl rfl ?_; intro p11)
 (refine J.storeAll rfl rfl rfl 0 rfl rfl rfl ?_)
 (refine Jx.assign rfl rfl (J.nil (N.seq (W.seq (W.region (Jx.loadAll rfl 0 rfl rfl rfl ?_))))))
 (refine J.storeAll rfl rfl rfl 2 rfl rfl rfl ?_)
 (refine J.nil (N.seq (W.seq (W.region (Jx.move rfl rfl ?_)))))
 (refine J.perm (List.perm_append_comm (l₁ := [_, _, _]) (l₂ := L1)) ?_; refine J.call ct rfl (evs_args rfl) rfl ?_; rintro _ _ ⟨v2, L2, hv2, rfl, rfl, hT2⟩; rw [List.cons_append]; refine J.freeze 90 rfl hmx ?_; refine J.perm (List.perm_append_comm (l₁ := L2) (l₂ := [_, _, _])) ?_; simp only [List.cons_append, List.nil_append])
 (refine Jx.assign rfl rfl (J.nil (N.seq (W.seq (W.seq (W.region (Jx.move rfl rfl (Jx.lenSl rfl rfl ?_))))))))
 (refine Jx.move rfl rfl (Jx.lenSl rfl rfl ?_))
 (refine Jx.neqI rfl rfl rfl (J.nil (N.seq (W.cF rfl ?_))))
 (refine W.skip (N.seq (W.seq (W.region (Jx.assign rfl rfl (J.nil (N.seq (W.block ?_))))))))
 (refine id ?_; rotate_left))
      refine W.loop (α := Nat) (fun k => [(14, int (k : Int)), (13, ltl (Q.map Ar.l)), (12, rll Q), (7, int (i : Int)), (6, ptr p6), (5, ptr b), (1, nasl l)]) (fun k => .obj p11 tRn (rnC T) :: .obj p8 tLt (ltC x) :: .obj p6 tRn (rnC T) :: L2) (fun k => k ≤ Q.length) (fun k => Q.length - k) 0 (Nat.zero_le _) rfl ⟨ref0 rfl, ref0 rfl, ref0 rfl, ref0 rfl, ref0 rfl, ref0 rfl, ref0 rfl, trivial⟩ ?_
      intro k hk
      by_cases h3 : k < Q.length
      · have h3' : (k : Int) < (Q.length : Int) := by omega
        have e3 : (k : Int) + 1 = ((k + 1 : Nat) : Int) := by omega
        have hk1 : k < (Q.map Ar.l).length := by omega
        obtain ⟨q, hq⟩ : ∃ q, Q.getD k ar0 = q := ⟨_, rfl⟩
        have hel : (Q.map Ar.l).getD k lt0 = q.l := by rw [← hq, List.getD_eq_getElem?_getD, List.getElem?_map, List.getD_eq_getElem?_getD, List.getElem?_eq_getElem h3]; rfl
        focus (
 (refine W.seq (W.seq (W.region (Jx.move rfl rfl (Jx.move rfl rfl (Jx.lenSl rfl rfl ?_))))))
 (refine Jx.lssI rfl rfl rfl (J.nil (N.seq (W.cT rfl ?_))))
 (refine W.skip (N.seq (W.seq (W.block (W.seq ?_)))))
 (refine W.draw follows ?_)
 (refine JD.calm rfl (by decide +kernel) ?_)
 (refine Cx.move rfl rfl ?_)
 (refine Cx.move rfl rfl ?_)
 (refine Cx.indexEl rfl rfl hk1 rfl rfl ?_; rw [hel])
 (refine Cx.fieldEl rfl rfl rfl ?_)
 (refine Cx.loadPP rfl rfl ?_)
 (refine Cx.move rfl rfl ?_)
 (refine Cx.move rfl rfl ?_)
 (refine Cx.indexEl rfl rfl h3 rfl rfl ?_; rw [hq])
 (refine Cx.fieldEl rfl rfl rfl ?_)
 (refine Cx.loadPP rfl rfl ?_)
 (refine Cx.neqS rfl rfl rfl ?_)
 (refine Cx.move rfl rfl ?_)
 (refine SegC.gY rfl rfl rfl ?_)
 (refine Cx.move rfl rfl ?_)
 (refine SegC.gY rfl rfl rfl ?_)
 (refine Cx.move rfl rfl ?_)
 (refine SegC.gY rfl rfl rfl ?_)
 (refine Cx.indexEl rfl rfl hk1 rfl rfl ?_; rw [hel])
 (refine SegC.gY rfl rfl rfl ?_)
 (refine Cx.fieldEl rfl rfl rfl ?_)
 (refine SegC.gY rfl rfl rfl ?_)
 (refine Cx.loadPP rfl rfl ?_)
 (refine SegC.gY rfl rfl rfl ?_)
 (refine Cx.move rfl rfl ?_)
 (refine SegC.gY rfl rfl rfl ?_)
 (refine Cx.move rfl rfl ?_)
 (refine SegC.gY rfl rfl rfl ?_)
 (refine Cx.indexEl rfl rfl h3 rfl rfl ?_; rw [hq])
 (refine SegC.gY rfl rfl rfl ?_)
 (refine Cx.fieldEl rfl rfl rfl ?_)
 (refine SegC.gY rfl rfl rfl ?_)
 (refine Cx.loadPP rfl rfl ?_)
 (refine SegC.gY rfl rfl rfl ?_)
 (refine Cx.neqS rfl rfl rfl ?_)
 (refine Cx.pickF rfl (by first | rfl | assumption | (exact decide_eq_true (by first | assumption | omega | rfl)) | (exact decide_eq_false (by first | assumption | omega | rfl)) | (simp; done) | (simp; omega)) rfl rfl ?_)
 (refine Cx.move rfl rfl ?_)
 (refine SegC.gY rfl rfl rfl ?_)
 (refine Cx.move rfl rfl ?_)
 (refine SegC.gY rfl rfl rfl ?_)
 (refine Cx.move rfl rfl ?_)
 (refine SegC.gY rfl rfl rfl ?_)
 (refine Cx.indexEl rfl rfl hk1 rfl rfl ?_; rw [hel])
 (refine SegC.gY rfl rfl rfl ?_)
 (refine Cx.fieldEl rfl rfl rfl ?_)
 (refine SegC.gY rfl rfl rfl ?_)
 (refine Cx.loadPP rfl rfl ?_)
 (refine SegC.gY rfl rfl rfl ?_)
 (refine Cx.move rfl rfl ?_)
 (refine SegC.gY rfl rfl rfl ?_)
 (refine Cx.move rfl rfl ?_)
 (refine SegC.gY rfl rfl rfl ?_)
 (refine Cx.indexEl rfl rfl h3 rfl rfl ?_; rw [hq])
 (refine SegC.gY rfl rfl rfl ?_)
 (refine Cx.fieldEl rfl rfl rfl ?_)
 (refine SegC.gY rfl rfl rfl ?_)
 (refine Cx.loadPP rfl rfl ?_)
 (refine SegC.gY rfl rfl rfl ?_)
 (refine Cx.neqS rfl rfl rfl ?_)
 (refine Cx.pickF rfl (by first | rfl | assumption | (exact decide_eq_true (by first | assumption | omega | rfl)) | (exact decide_eq_false (by first | assumption | omega | rfl)) | (simp; done) | (simp; omega)) rfl rfl ?_)
 (refine SegC.nil ?_)
 (refine N.seq (W.cF rfl ?_))
 (refine W.skip (N.seq (W.region (Jx.move rfl rfl ?_))))
 (refine Jx.add64 rfl rfl (by omega) rfl ?_; rw [e3])
 (refine Jx.assign rfl rfl (J.nil ?_))
 (refine id ?_; rotate_left))
        exact N.round (k + 1) h3 (by omega) rfl ⟨ref0 rfl, ref0 rfl, ref0 rfl, ref0 rfl, ref0 rfl, ref0 rfl, ref0 rfl, trivial⟩
      · have h3' : ¬ (k : Int) < (Q.length : Int) := by omega
        focus (
 (refine W.seq (W.seq (W.region (Jx.move rfl rfl (Jx.move rfl rfl (Jx.lenSl rfl rfl ?_))))))
 (refine Jx.lssI rfl rfl rfl (J.nil (N.seq (W.cF rfl ?_))))
 (refine W.exit (N.seq (W.seq ?_)))
 (refine W.draw follows ?_)
 (refine JD.calm rfl (by decide +kernel) ?_)
 (refine Cx.move rfl rfl ?_)
 (refine SegC.q (Qs.call (Lc := L2) (cn L2 hT2) (fun s L' h => h) (List.perm_append_comm (l₁ := [_, _, _]) (l₂ := L2)) (evs_args rfl)) rfl ?_)
 (refine Cx.fieldAddr rfl rfl ?_)
 (refine Cx.load rfl 2 rfl rfl rfl ?_)
 (refine Cx.neqI rfl rfl rfl ?_)
 (refine Cx.move rfl rfl ?_)
 (refine SegC.gY rfl rfl rfl ?_)
 (refine Cx.move rfl rfl ?_)
 (refine SegC.gY rfl rfl rfl ?_)
 (refine SegC.q (Qs.call (Lc := L2) (cl L2 hT2) (fun s L' h => h) (List.perm_append_comm (l₁ := [_, _, _]) (l₂ := L2)) (evs_args rfl)) rfl ?_)
 (refine SegC.gY rfl rfl rfl ?_)
 (refine Cx.fieldAddr rfl rfl ?_)
 (refine SegC.gY rfl rfl rfl ?_)
 (refine Cx.load rfl 2 rfl rfl rfl ?_)
 (refine SegC.gY rfl rfl rfl ?_)
 (refine Cx.lenSl rfl rfl ?_)
 (refine SegC.gY rfl rfl rfl ?_)
 (refine Cx.neqI rfl rfl rfl ?_)
 (refine Cx.pickF rfl (by first | rfl | assumption | (exact decide_eq_true (by first | assumption | omega | rfl)) | (exact decide_eq_false (by first | assumption | omega | rfl)) | (simp; done) | (simp; omega)) rfl rfl ?_)
 (refine SegC.nil ?_)
 (refine N.seq (W.cF rfl ?_))
 (refine W.skip (N.seq (W.region (Jx.move rfl rfl ?_))))
 (refine Jx.add64 rfl rfl (by omega) rfl ?_; rw [e1])
 (refine Jx.assign rfl rfl (J.nil ?_))
 (refine id ?_; rotate_left))
        refine N.drop (.cons _ (.cons _ (List.Sublist.refl _))) ?_
        exact N.round ⟨i + 1, T, L2⟩ ⟨hle, hT2.mono (by simp only; omega)⟩ (by simp only; omega) rfl ⟨ref0 rfl, ref0 rfl, ref0 rfl, ref0 rfl, trivial⟩
    · have cn := fun L2 (h2 : Nw b S (2 * i) L2) => nNow_ok b S _ L2 h2
      have cl := fun L2 (h2 : Nw b S (2 * i) L2) => nLeft_ok b S _ L2 h2
      focus (
 (refine W.seq (W.seq (W.region (Jx.move rfl rfl (Jx.move rfl rfl (Jx.lenSl rfl rfl ?_))))))
 (refine Jx.lssI rfl rfl rfl (Jx.move rfl rfl (J.gY rfl rfl rfl ?_)))
 (refine Jx.move rfl rfl (J.gY rfl rfl rfl ?_))
 (refine Jx.lssI rfl rfl rfl (Jx.pT rfl rfl rfl ?_))
 (refine J.nil (N.seq (W.cT rfl ?_)))
 (refine W.skip (N.seq (W.seq (W.block (W.seq (W.region (Jx.move rfl rfl (Jx.move rfl rfl ?_))))))))
 (refine Jx.indexEl rfl rfl h1 rfl rfl ?_; rw [hx])
 (refine Jx.fieldEl rfl rfl rfl ?_)
 (refine Jx.loadPPall rfl rfl rfl ?_)
 (refine J.alloc (d := 8) (by simp only [List.map_cons, List.map_nil]; rfl) rfl rfl ?_; intro p8)
 (refine J.storeAll rfl rfl rfl 0 rfl rfl rfl ?_)
 (refine J.nil (N.seq (W.seq (W.seq (W.region (Jx.fieldAddr rfl rfl ?_))))))
 (refine Jx.load rfl 0 rfl rfl rfl ?_)
 (refine Jx.lenS rfl rfl ?_)
 (refine Jx.gtrI rfl rfl rfl (Jx.move rfl rfl (J.gY rfl rfl rfl ?_)))
 (refine Jx.fieldAddr rfl rfl ?_)
 (refine J.gY rfl rfl rfl ?_)
 (refine Jx.load rfl 0 rfl rfl rfl ?_)
 (refine J.gY rfl rfl rfl ?_)
 (refine Jx.lenS rfl rfl ?_)
 (refine J.gY rfl rfl rfl ?_)
 (refine Jx.gtrI rfl rfl rfl (Jx.pF rfl rfl rfl ?_))
 (refine Jx.move rfl rfl (J.gY rfl rfl rfl ?_))
 (refine Jx.fieldAddr rfl rfl ?_)
 (refine J.gY rfl rfl rfl ?_)
 (refine Jx.load rfl 0 rfl rfl rfl ?_)
 (refine J.gY rfl rfl rfl ?_)
 (refine Jx.lenS rfl rfl ?_)
 (refine J.gY rfl rfl rfl ?_)
 (refine Jx.gtrI rfl rfl rfl (Jx.pF rfl rfl rfl ?_))
 (refine J.nil (N.seq (W.cF rfl ?_)))
 (refine W.skip (N.seq (W.seq (W.seq (W.region (Jx.move rfl rfl (Jx.move rfl rfl ?_)))))))
 (refine Jx.indexEl rfl rfl h1 rfl rfl ?_; rw [hx])
 (refine Jx.fieldEl rfl rfl rfl ?_)
 (refine Jx.loadPP rfl rfl ?_)
 (refine J.nil (N.seq (W.block (W.seq (W.region (Jx.eqlI rfl rfl rfl (Jx.assign rfl rfl (J.nil (N.seq (W.cF rfl ?_))))))))))
 (refine W.seq (W.region (Jx.eqlI rfl rfl rfl (Jx.assign rfl rfl (J.nil (N.seq (W.cF rfl ?_)))))))
 (refine W.skip (N.seq (W.seq ?_)))
 (refine W.draw follows ?_)
 (refine JD.calm rfl (by decide +kernel) ?_)
 (refine Cx.move rfl rfl ?_)
 (refine SegC.q (Qs.call (Lc := L1) (cn L1 hN) (fun s L' h => h) (List.perm_append_comm (l₁ := [_, _]) (l₂ := L1)) (evs_args rfl)) rfl ?_)
 (refine Cx.fieldAddr rfl rfl ?_)
 (refine Cx.load rfl 1 rfl rfl rfl ?_)
 (refine Cx.neqI rfl rfl rfl ?_)
 (refine Cx.move rfl rfl ?_)
 (refine SegC.gY rfl rfl rfl ?_)
 (refine Cx.move rfl rfl ?_)
 (refine SegC.gY rfl rfl rfl ?_)
 (refine SegC.q (Qs.call (Lc := L1) (cl L1 hN) (fun s L' h => h) (List.perm_append_comm (l₁ := [_, _]) (l₂ := L1)) (evs_args rfl)) rfl ?_)
 (refine SegC.gY rfl rfl rfl ?_)
 (refine Cx.fieldAddr rfl rfl ?_)
 (refine SegC.gY rfl rfl rfl ?_)
 (refine Cx.load rfl 1 rfl rfl rfl ?_)
 (refine SegC.gY rfl rfl rfl ?_)
 (refine Cx.lenSl rfl rfl ?_)
 (refine SegC.gY rfl rfl rfl ?_)
 (refine Cx.neqI rfl rfl rfl ?_)
 (refine Cx.pickF rfl (by first | rfl | assumption | (exact decide_eq_true (by first | assumption | omega | rfl)) | (exact decide_eq_false (by first | assumption | omega | rfl)) | (simp; done) | (simp; omega)) rfl rfl ?_)
 (refine SegC.nil ?_)
 (refine N.seq (W.cF rfl ?_))
 (refine W.skip (N.seq (W.region (Jx.move rfl rfl ?_))))
 (refine Jx.add64 rfl rfl (by omega) rfl ?_; rw [e1])
 (refine Jx.assign rfl rfl (J.nil ?_))
 (refine id ?_; rotate_left))
      refine N.drop (List.sublist_cons_self _ _) ?_
      exact N.round ⟨i + 1, S, L1⟩ ⟨hle, hN.mono (by simp only; omega)⟩ (by simp only; omega) rfl ⟨ref0 rfl, ref0 rfl, ref0 rfl, ref0 rfl, trivial⟩
  · have himin : i = min l.length 80 := by omega
    focus (
 (refine W.seq (W.seq (W.region (Jx.move rfl rfl (Jx.move rfl rfl (Jx.lenSl rfl rfl ?_))))))
 (refine Jx.lssI rfl rfl rfl (Jx.move rfl rfl ?_))
 (refine' J.guardAnd rfl rfl rfl rfl rfl rfl rfl rfl (fun _ => ?_) ?_; rotate_left)
 (refine J.gY rfl rfl rfl ?_)
 (refine Jx.move rfl rfl (J.gY rfl rfl rfl ?_))
 (refine Jx.lssI rfl rfl rfl (J.nil ?_))
 (refine N.joinedN rfl rfl rfl)
 (refine J.nil (N.seq (W.cF rfl ?_)))
 (refine W.exit (N.seq (W.seq (W.region ?_))))
 (refine J.drop (List.nil_sublist _) ?_; refine J.call nworks_ok rfl (evs_args rfl) rfl ?_; rintro _ _ ⟨rfl, rfl⟩)
 (refine Jx.assign rfl rfl (J.nil (N.seq (W.ret ?_))))
 (refine id ?_; rotate_left))
    exact N.ret (rs := [.tmp 4]) rfl (.tmp rfl .nil) ⟨rfl, rfl⟩
end Go.Proofs.Ytmkicbphbegjbaa
