/-
  Lemmas for the claim, part 3.
-/
import Derived.Test.YtafefapbiekmbaaDoorDigestOwnPb
namespace Go.Proofs.YtafefapbiekmbaaDoor
open Go Go.Sse
set_option linter.unusedVariables false
set_option linter.unusedSimpArgs false
set_option maxRecDepth 10000
theorem agNt : TAg Tryd.prog 28 3 := inferInstance
theorem find_none (b : Nat) (v : Value) (mt mf : Nat) (all : List Nt) (M : List (Nt × Value)) (K : List (List UInt8 × Value)) (s : List UInt8) (hI : LogInv all M K) (h : findD all s = none) :
    FnC Tryd.prog 14 [ptr b, str s] (logO b v mt mf all M K) (fun r L => r = .tup [.agg (ntC nt0), bool false] ∧ L = logO b v mt mf all M K) := by
  have hlk := hI.first s
  rw [h] at hlk
  refine FnC.intro Tryd.func14 rfl Tryd.ntmps14 rfl fun Z w0 hG => ?_
  focus (
 (refine W.seq (W.region ?_))
 (refine J.alloc (by simp only [List.map_cons, List.map_nil]; rfl) rfl rfl ?_; intro b')
 (refine Jx.assign rfl rfl (J.nil (N.seq (W.seq (W.region (Jx.move rfl rfl (Jx.nilCheck rfl rfl ?_)))))))
 (refine Jx.fieldAddr rfl rfl ?_)
 (refine Jx.load rfl 2 rfl rfl rfl ?_)
 (refine Jx.move rfl rfl ?_)
 (refine Jx.lookupS rfl rfl 4 rfl rfl ?_; rw [hlk])
 (refine Jx.move rfl rfl (Jx.extract rfl rfl rfl ?_))
 (refine Jx.extract rfl rfl rfl ?_)
 (refine Jx.assign rfl rfl (Jx.assign rfl rfl (J.nil (N.seq (W.seq (W.seq (W.region (Jx.move rfl rfl (Jx.not rfl rfl (J.nil (N.seq (W.cT rfl ?_))))))))))))
 (refine W.seq (W.region (Jx.buildB rfl rfl rfl rfl rfl ?_)))
 (refine J.storeAll rfl rfl rfl 0 rfl rfl rfl ?_)
 (refine Jx.assign rfl rfl (J.nil (N.seq (W.ret (N.noGotoRet ?_)))))
 (refine id ?_; rotate_left))
  exact N.retD (rs := [.cell 4 28, .tmp 5]) rfl (.cell rfl 0 rfl agNt (.tmp rfl .nil)) (List.sublist_cons_self _ _) ⟨rfl, rfl⟩
theorem find_some (b : Nat) (v : Value) (mt mf : Nat) (all : List Nt) (M : List (Nt × Value)) (K : List (List UInt8 × Value)) (s : List UInt8) (hI : LogInv all M K) (j : Nat) (h : findD all s = some j) :
    FnC Tryd.prog 14 [ptr b, str s] (logO b v mt mf all M K) (fun r L => r = .tup [.agg (ntC (all.getD j nt0)), bool true] ∧ L = logO b v mt mf all M K) := by
  have hlk := hI.first s
  rw [h] at hlk
  have hlt := (findP_some nt0 h).1
  refine FnC.intro Tryd.func14 rfl Tryd.ntmps14 rfl fun Z w0 hG => ?_
  refine W.rowView 0 rfl (by omega) ?_
  rintro r cap rfl hc1 hc2
  focus (
 (refine W.seq (W.region ?_))
 (refine J.alloc (by simp only [List.map_cons, List.map_nil]; rfl) rfl rfl ?_; intro b')
 (refine Jx.assign rfl rfl (J.nil (N.seq (W.seq (W.region (Jx.move rfl rfl (Jx.nilCheck rfl rfl ?_)))))))
 (refine Jx.fieldAddr rfl rfl ?_)
 (refine Jx.load rfl 2 rfl rfl rfl ?_)
 (refine Jx.move rfl rfl ?_)
 (refine Jx.lookupS rfl rfl 4 rfl rfl ?_; rw [hlk])
 (refine Jx.move rfl rfl (Jx.extract rfl rfl rfl ?_))
 (refine Jx.extract rfl rfl rfl ?_)
 (refine Jx.assign rfl rfl (Jx.assign rfl rfl (J.nil (N.seq (W.seq (W.seq (W.region (Jx.move rfl rfl (Jx.not rfl rfl (J.nil (N.seq (W.cF rfl ?_))))))))))))
 (refine W.skip (N.seq (W.seq (W.region (Jx.move rfl rfl (Jx.nilCheck rfl rfl ?_))))))
 (refine Jx.fieldAddr rfl rfl ?_)
 (refine Jx.load rfl 2 rfl rfl rfl ?_)
 (refine Jx.move rfl rfl ?_)
 (refine Jx.indexRow j rfl rfl rfl hlt rfl ?_)
 (refine Jx.loadRowAg rfl 1 rfl j rfl hlt (ds := ntC (all.getD j nt0)) rfl rfl ?_)
 (refine J.storeAll rfl rfl rfl 0 rfl rfl rfl ?_)
 (refine Jx.assign rfl rfl (J.nil (N.seq (W.ret ?_))))
 (refine id ?_; rotate_left))
  exact N.retD (rs := [.cell 4 28, .tmp 5]) rfl (.cell rfl 0 rfl agNt (.tmp rfl .nil)) (List.sublist_cons_self _ _) ⟨rfl, rfl⟩
def findR (all : List Nt) (s : List UInt8) : Nt × Bool := match findD all s with | some j => (all.getD j nt0, true) | none => (nt0, false)
theorem find_ok (b : Nat) (v : Value) (mt mf : Nat) (all : List Nt) (M : List (Nt × Value)) (K : List (List UInt8 × Value)) (s : List UInt8) (hI : LogInv all M K) :
    FnC Tryd.prog 14 [ptr b, str s] (logO b v mt mf all M K) (fun r L => r = .tup [.agg (ntC (findR all s).1), bool (findR all s).2] ∧ L = logO b v mt mf all M K) := by
  cases h : findD all s with
  | none => rw [show findR all s = (nt0, false) by simp [findR, h]]; exact find_none b v mt mf all M K s hI h
  | some j => rw [show findR all s = (all.getD j nt0, true) by simp only [findR, h]]; exact find_some b v mt mf all M K s hI j h
def clashR (all : List Nt) : Nt × Nt × Bool := match clashA all with
  | none => (nt0, nt0, false)
  | some i => ((findR all (all.getD i nt0).digest).1, all.getD i nt0, true)
theorem clash_ok (b : Nat) (v : Value) (mt mf : Nat) (all : List Nt) (M : List (Nt × Value)) (K : List (List UInt8 × Value)) (hI : LogInv all M K) :
    FnC Tryd.prog 10 [ptr b] (logO b v mt mf all M K) (fun r L => r = .tup [.agg (ntC (clashR all).1), .agg (ntC (clashR all).2.1), bool (clashR all).2.2] ∧ L = logO b v mt mf all M K) := by
  cases hc : clashA all with
  | none =>
    have htw0 : twI all = -1 := by simp [twI, hc]
    rw [show clashR all = (nt0, nt0, false) by simp [clashR, hc]]
    simp only [logO]
    rw [htw0]
    refine FnC.intro Tryd.func10 rfl Tryd.ntmps10 rfl fun Z w0 hG => ?_
    focus (
 (refine W.seq (W.region ?_))
 (refine J.alloc (by simp only [List.map_cons, List.map_nil]; rfl) rfl rfl ?_; intro b')
 (refine J.alloc (by simp only [List.map_cons, List.map_nil]; rfl) rfl rfl ?_; intro b')
 (refine Jx.assign rfl rfl (J.nil (N.seq (W.seq (W.seq (W.region (Jx.move rfl rfl (Jx.nilCheck rfl rfl ?_))))))))
 (refine Jx.fieldAddr rfl rfl ?_)
 (refine Jx.load rfl 3 rfl rfl rfl ?_)
 (refine Jx.lssI rfl rfl rfl (J.nil (N.seq (W.cT rfl ?_))))
 (refine W.seq (W.region (Jx.buildB rfl rfl rfl rfl rfl ?_)))
 (refine Jx.buildB rfl rfl rfl rfl rfl ?_)
 (refine J.storeAll rfl rfl rfl 1 rfl rfl rfl ?_)
 (refine J.storeAll rfl rfl rfl 0 rfl rfl rfl ?_)
 (refine Jx.assign rfl rfl (J.nil (N.seq (W.ret (N.noGotoRet ?_)))))
 (refine id ?_; rotate_left))
    exact N.retD (rs := [.cell 2 28, .cell 3 28, .tmp 4]) rfl (.cell rfl 1 rfl agNt (.cell rfl 0 rfl agNt (.tmp rfl .nil))) ((List.sublist_cons_self _ _).cons _) ⟨rfl, rfl⟩
  | some i =>
    obtain ⟨hlt, _⟩ := clashA_some hc
    have htw0 : twI all = (i : Int) := by simp [twI, hc]
    have hi0 : ¬ (i : Int) < 0 := by omega
    have cf := fun v => find_ok b v mt mf all M K (all.getD i nt0).digest hI
    rw [show clashR all = ((findR all (all.getD i nt0).digest).1, all.getD i nt0, true) by simp only [clashR, hc]]
    simp only [logO] at cf ⊢
    rw [htw0] at cf ⊢
    refine FnC.intro Tryd.func10 rfl Tryd.ntmps10 rfl fun Z w0 hG => ?_
    refine W.rowView 0 rfl (by omega) ?_
    rintro r cap rfl hc1 hc2
    generalize findR all (all.getD i nt0).digest = fr at *
    focus (
 (refine W.seq (W.region ?_))
 (refine J.alloc (by simp only [List.map_cons, List.map_nil]; rfl) rfl rfl ?_; intro b')
 (refine J.alloc (by simp only [List.map_cons, List.map_nil]; rfl) rfl rfl ?_; intro b')
 (refine Jx.assign rfl rfl (J.nil (N.seq (W.seq (W.seq (W.region (Jx.move rfl rfl (Jx.nilCheck rfl rfl ?_))))))))
 (refine Jx.fieldAddr rfl rfl ?_)
 (refine Jx.load rfl 3 rfl rfl rfl ?_)
 (refine Jx.lssI rfl rfl rfl (J.nil (N.seq (W.cF rfl ?_))))
 (refine W.skip (N.seq (W.seq ?_)))
 (refine W.draw follows ?_)
 (refine JD.upto (n := 10) rfl (by decide +kernel) (by decide +kernel) rfl rfl ?_)
 (refine Cx.move rfl rfl ?_)
 (refine Cx.nilCheck rfl rfl ?_)
 (refine Cx.fieldAddr rfl rfl ?_)
 (refine Cx.load rfl 3 rfl rfl rfl ?_)
 (refine Cx.move rfl rfl ?_)
 (refine Cx.nilCheck rfl rfl ?_)
 (refine Cx.fieldAddr rfl rfl ?_)
 (refine Cx.load rfl 3 rfl rfl rfl ?_)
 (refine Cx.indexRow i rfl rfl rfl hlt rfl ?_)
 (refine Cx.loadRowAg rfl 2 rfl i rfl hlt (ds := ntC (all.getD i nt0)) rfl rfl ?_)
 (refine SegC.nil ?_)
 (refine J.storeAll rfl rfl rfl 0 rfl rfl rfl ?_)
 (refine J.nil (N.seq (W.seq (W.region (Jx.move rfl rfl (Jx.fieldAddr rfl rfl ?_))))))
 (refine Jx.load rfl 0 rfl rfl rfl ?_)
 (refine J.perm (List.perm_append_comm (l₁ := [_, _]) (l₂ := [_, _, _, _])) ?_; refine J.call (cf _) rfl (evs_args rfl) rfl ?_; rintro _ _ ⟨rfl, rfl⟩; simp only [List.cons_append, List.nil_append])
 (refine Jx.move rfl rfl (Jx.extract rfl rfl rfl ?_))
 (refine Jx.extract rfl rfl rfl ?_)
 (refine J.storeAll rfl rfl rfl 5 rfl rfl rfl ?_)
 (refine J.nil (N.seq (W.seq ?_)))
 (refine W.draw follows ?_)
 (refine JD.begin 5 rfl ?_; refine JP.more [0, 1] _ rfl (by decide +kernel) ?_)
 (refine Cx.loadAll rfl 5 rfl rfl rfl ?_)
 (refine Cx.loadAll rfl 4 rfl rfl rfl ?_)
 (refine SegC.nil ?_)
 (refine JP.storeAll (idx := [0, 1]) 2 [2, 29] [0, 2] [1] (by decide +kernel) rfl ?_ rfl rfl rfl 5 rfl rfl rfl ?_)
 (refine Cx.loadAll rfl 5 rfl rfl rfl ?_)
 (refine Cx.loadAll rfl 4 rfl rfl rfl ?_)
 (refine SegC.nil ?_)
 (refine Ag.cons rfl ?_)
 (refine Ag.cons rfl ?_)
 (refine Ag.nil)
 (refine JP.storeAll (idx := [1]) 3 [3, 30] [0, 1, 2, 3] [] (by decide +kernel) rfl ?_ rfl rfl rfl 4 rfl rfl rfl ?_)
 (refine Cx.loadAll rfl 4 rfl rfl rfl ?_)
 (refine SegC.nil ?_)
 (refine Ag.cons rfl ?_)
 (refine Ag.nil)
 (refine JP.tail (idx := []) 4 (by decide +kernel) (by decide +kernel) rfl rfl ?_ ?_)
 (refine SegC.nil ?_)
 (refine Ag.nil)
 (refine Jx.assign rfl rfl (J.nil (N.seq (W.ret ?_))))
 (refine id ?_; rotate_left))
    exact N.retD (rs := [.cell 2 28, .cell 3 28, .tmp 4]) rfl (.cell rfl 5 rfl agNt (.cell rfl 4 rfl agNt (.tmp rfl .nil))) (List.sublist_append_left [_, _, _, _] _) ⟨rfl, rfl⟩
def dsumR (tag : Int) (s : List UInt8) : List UInt8 × Int := if tag < 1 then ([], 1) else if 255 < tag then ([], 1) else (sumD tag.toNat s, 0)
theorem dsumR_ok (tag : Int) (s : List UInt8) (hs : s.length ≤ 1073741824) : FnC Tryd.prog 17 [int tag, str s] [] (fun v L => v = .tup [str (dsumR tag s).1, int (dsumR tag s).2] ∧ L = []) := by
  by_cases h1 : tag < 1
  · rw [show dsumR tag s = ([], 1) by simp [dsumR, h1]]
    refine FnC.intro Tryd.func17 rfl Tryd.ntmps17 rfl fun Z w0 hG => ?_
    focus (
 (refine W.seq (W.region (Jx.assign rfl rfl (Jx.assign rfl rfl (J.nil (N.seq (W.seq (W.seq (W.region (Jx.move rfl rfl (Jx.lssI rfl rfl rfl (Jx.move rfl rfl (J.gN rfl rfl rfl rfl ?_)))))))))))))
 (refine J.gN rfl rfl rfl rfl ?_)
 (refine Jx.pT rfl rfl rfl ?_)
 (refine J.nil (N.seq (W.cT rfl ?_)))
 (refine W.seq (W.region (Jx.assign rfl rfl (Jx.assign rfl rfl (J.nil (N.seq (W.ret (N.noGotoRet ?_))))))))
 (refine id ?_; rotate_left))
    exact N.ret (rs := [.tmp 4, .tmp 5]) rfl (.tmp rfl (.tmp rfl .nil)) ⟨rfl, rfl⟩
  by_cases h2 : 255 < tag
  · rw [show dsumR tag s = ([], 1) by simp [dsumR, h1, h2]]
    refine FnC.intro Tryd.func17 rfl Tryd.ntmps17 rfl fun Z w0 hG => ?_
    focus (
 (refine W.seq (W.region (Jx.assign rfl rfl (Jx.assign rfl rfl (J.nil (N.seq (W.seq (W.seq (W.region (Jx.move rfl rfl (Jx.lssI rfl rfl rfl (Jx.move rfl rfl (J.gY rfl rfl rfl ?_)))))))))))))
 (refine Jx.move rfl rfl (J.gY rfl rfl rfl ?_))
 (refine Jx.gtrI rfl rfl rfl (Jx.pF rfl rfl rfl ?_))
 (refine J.nil (N.seq (W.cT rfl ?_)))
 (refine W.seq (W.region (Jx.assign rfl rfl (Jx.assign rfl rfl (J.nil (N.seq (W.ret (N.noGotoRet ?_))))))))
 (refine id ?_; rotate_left))
    exact N.ret (rs := [.tmp 4, .tmp 5]) rfl (.tmp rfl (.tmp rfl .nil)) ⟨rfl, rfl⟩
  · obtain ⟨m, rfl⟩ : ∃ m : Nat, tag = m := ⟨tag.toNat, by omega⟩
    rw [show dsumR m s = (sumD m s, 0) by simp only [dsumR, h1, h2, if_false]; rfl]
    exact dsum_ok m s (by omega) (by omega) hs
end Go.Proofs.YtafefapbiekmbaaDoor
namespace Go.Proofs.YtafefapbiekmbaaDoor
open Go Go.Sse
set_option linter.unusedVariables false
set_option linter.unusedSimpArgs false
set_option maxRecDepth 10000
theorem putR_yes {all : List Nt} {n : Nt} (h : (putR all n).1 = 0) : (1 ≤ n.tag ∧ n.tag ≤ 255 ∧ n.digest.length = 32) ∧ (putR all n).2 = if n ∈ all then all else all ++ [n] := by
  unfold putR at h ⊢
  by_cases h1 : n.tag < 1
  · simp [h1] at h
  by_cases h2 : 255 < n.tag
  · simp [h1, h2] at h
  by_cases h3 : n.digest.length = 32
  · refine ⟨⟨by omega, by omega, h3⟩, ?_⟩
    by_cases h4 : n ∈ all <;> simp [h1, h2, h3, h4]
  · simp [h1, h2, h3] at h
theorem putR_no {all : List Nt} {n : Nt} (h : (putR all n).1 ≠ 0) : (putR all n).2 = all := by
  unfold putR at h ⊢
  by_cases h1 : n.tag < 1
  · simp [h1]
  by_cases h2 : 255 < n.tag
  · simp [h1, h2]
  by_cases h3 : n.digest.length = 32
  · by_cases h4 : n ∈ all <;> simp [h1, h2, h3, h4] at h
  · simp [h1, h2, h3]
def stepF (s : List Nt × List Nt) (n : Nt) : List Nt × List Nt := ((putR s.1 n).2, if (putR s.1 n).1 = 0 then s.2 ++ [n] else s.2)
def fillA (l : List Nt) (i : Nat) : List Nt × List Nt := (l.take i).foldl stepF ([], [])
theorem fillA_succ {l : List Nt} {i : Nat} (h : i < l.length) : fillA l (i + 1) = stepF (fillA l i) (l.getD i nt0) := by
  rw [fillA, List.take_add_one, List.getElem?_eq_getElem h, List.foldl_append, List.getD_eq_getElem?_getD, List.getElem?_eq_getElem h]
  rfl
structure Filled (all inn : List Nt) (i : Nat) : Prop where
  le : all.length ≤ inn.length
  top : inn.length ≤ i
  mem : ∀ x, x ∈ all ↔ x ∈ inn
  fine : ∀ x, x ∈ all → 1 ≤ x.tag ∧ x.tag ≤ 255 ∧ x.digest.length = 32
theorem filled (l : List Nt) : ∀ i, i ≤ l.length → Filled (fillA l i).1 (fillA l i).2 i
  | 0, _ => ⟨Nat.le_refl _, Nat.le_refl _, fun x => Iff.rfl, fun x hx => by simp [fillA] at hx⟩
  | i + 1, h => by
    have ih := filled l i (by omega)
    rw [fillA_succ (by omega)]
    generalize fillA l i = s at *
    obtain ⟨all, inn⟩ := s
    generalize l.getD i nt0 = n
    obtain ⟨h1, h2, h3, h4⟩ := ih
    simp only at h1 h2 h3 h4
    simp only [stepF]
    by_cases hp : (putR all n).1 = 0
    · obtain ⟨hf, he⟩ := putR_yes hp
      rw [he, if_pos hp]
      by_cases hm : n ∈ all
      · rw [if_pos hm]
        refine ⟨by simp; omega, by simp; omega, fun x => ?_, h4⟩
        rw [List.mem_append, ← h3, List.mem_singleton]
        exact ⟨.inl, fun h => h.elim id fun e => e ▸ hm⟩
      · rw [if_neg hm]
        refine ⟨by simp; omega, by simp; omega, fun x => ?_, fun x hx => ?_⟩
        · rw [List.mem_append, List.mem_append, h3]
        · rcases List.mem_append.1 hx with hx | hx
          · exact h4 x hx
          · rw [List.mem_singleton.1 hx]; exact hf
    · rw [putR_no hp, if_neg hp]
      exact ⟨h1, by omega, h3, h4⟩
def fillR (l : List Nt) : List Nt × List Nt := fillA l (min l.length 40)
theorem fillR_filled (l : List Nt) : Filled (fillR l).1 (fillR l).2 40 := by
  have := filled l (min l.length 40) (by omega)
  exact ⟨this.le, by have := this.top; show (fillA l (min l.length 40)).2.length ≤ 40; omega, this.mem, this.fine⟩
theorem fillA_top {l : List Nt} {i : Nat} (hi : i ≤ l.length) (h40 : i ≤ 40) (h : ¬ (i < l.length ∧ i < 40)) : fillA l i = fillR l := by
  rw [fillR, show min l.length 40 = i by omega]
end Go.Proofs.YtafefapbiekmbaaDoor
namespace Go.Proofs.YtafefapbiekmbaaDoor
open Go Go.Sse
set_option linter.unusedVariables false
set_option linter.unusedSimpArgs false
set_option maxRecDepth 10000
set_option maxHeartbeats 2000000 in
theorem dworks_ok : FnC Tryd.prog 8 [] [] (fun r L => r = bool true ∧ L = []) := by
  have hl := sumD_len 1 [97, 98]
  have c1 := dsumR_ok 1 [97, 98] (by decide)
  rw [show dsumR 1 [97, 98] = (sumD 1 [97, 98], 0) by simp [dsumR]] at c1
  have c2 := dsumR_ok 0 [97, 98] (by decide)
  rw [show dsumR 0 [97, 98] = ([], 1) by simp [dsumR]] at c2
  have c3 := Sha.hsum_ok [97, 110, 121] (by decide)
  have c4 := Sha.hsum_ok [1, 97, 98] (by decide)
  rw [show Sha.shaS [1, 97, 98] = sumD 1 [97, 98] from congrArg Sha.shaS (show ([1, 97, 98] : List UInt8) = [UInt8.ofNat 1] ++ [97, 98] from rfl)] at c4
  have hs := Sha.shaS_len [97, 110, 121]
  generalize Sha.shaS [97, 110, 121] = sm at *
  generalize sumD 1 [97, 98] = s1 at *
  have hlz : (s1.length : Int) = 32 := by omega
  have e1 : putR [] ⟨1, [120], sm⟩ = (0, [⟨1, [120], sm⟩]) := by simp [putR, hs]
  have e2 : putR [⟨1, [120], sm⟩] ⟨2, [120], sm⟩ = (0, [⟨1, [120], sm⟩, ⟨2, [120], sm⟩]) := by simp [putR, hs]
  have p1 := fun b v mt mf M K h => put_ok b v mt mf [] M K ⟨1, [120], sm⟩ h (by decide)
  rw [e1] at p1
  have p2 := fun b v mt mf M K h => put_ok b v mt mf [⟨1, [120], sm⟩] M K ⟨2, [120], sm⟩ h (by simp)
  rw [e2] at p2
  have e3 : clashR [⟨1, [120], sm⟩, ⟨2, [120], sm⟩] = (⟨1, [120], sm⟩, ⟨2, [120], sm⟩, true) := by simp [clashR, clashA, clashI, findR, findD, findP]
  have p3 := fun b v mt mf M K h => clash_ok b v mt mf [⟨1, [120], sm⟩, ⟨2, [120], sm⟩] M K h
  rw [e3] at p3
  refine FnC.intro Tryd.func8 rfl Tryd.ntmps8 rfl fun Z w0 hG => ?_
  focus (
 (refine W.seq (W.region (Jx.assign rfl rfl (J.nil (N.seq (W.seq (W.region ?_)))))))
 (refine J.call (c1) rfl (evs_args rfl) rfl ?_; rintro _ _ ⟨rfl, rfl⟩; simp only [la1, la2, la3])
 (refine Jx.move rfl rfl (Jx.extract rfl rfl rfl ?_))
 (refine Jx.extract rfl rfl rfl ?_)
 (refine Jx.assign rfl rfl (Jx.assign rfl rfl (J.nil (N.seq (W.seq (W.region ?_))))))
 (refine J.call (c2) rfl (evs_args rfl) rfl ?_; rintro _ _ ⟨rfl, rfl⟩; simp only [la1, la2, la3])
 (refine Jx.move rfl rfl (Jx.extract rfl rfl rfl ?_))
 (refine Jx.extract rfl rfl rfl ?_)
 (refine Jx.assign rfl rfl (Jx.assign rfl rfl (J.nil (N.seq (W.seq (W.region ?_))))))
 (refine J.call (newLog_ok) rfl (evs_args rfl) rfl ?_; rintro _ _ ⟨b, mt, mf, rfl, rfl⟩; simp only [la1, la2, la3])
 (refine Jx.assign rfl rfl (J.nil (N.seq (W.seq (W.seq (W.region (Jx.move rfl rfl (Jx.eqlNil rfl rfl ?_))))))))
 (refine J.nil (N.seq (W.cF rfl ?_)))
 (refine W.skip (N.seq (W.seq (W.region ?_))))
 (refine J.call (c3) rfl (evs_args rfl) rfl ?_; rintro _ _ ⟨rfl, rfl⟩; simp only [la1, la2, la3])
 (refine Jx.assign rfl rfl (J.nil (N.seq (W.seq (W.region (Jx.move rfl rfl (Jx.move rfl rfl (Jx.buildB rfl rfl rfl rfl rfl ?_))))))))
 (refine J.call ((p1 b (.slice none 0 0) mt mf [] [] inv_nil)) rfl (evs_args rfl) rfl ?_; rintro _ _ ⟨v1, M1, K1, rfl, rfl, hI1, _⟩; simp only [la1, la2, la3])
 (refine Jx.assign rfl rfl (J.nil (N.seq (W.seq (W.region (Jx.move rfl rfl (Jx.move rfl rfl (Jx.buildB rfl rfl rfl rfl rfl ?_))))))))
 (refine J.call ((p2 b v1 mt mf M1 K1 hI1)) rfl (evs_args rfl) rfl ?_; rintro _ _ ⟨v2, M2, K2, rfl, rfl, hI2, _⟩; simp only [la1, la2, la3])
 (refine Jx.assign rfl rfl (J.nil (N.seq (W.seq (W.region (Jx.move rfl rfl ?_))))))
 (refine J.call ((p3 b v2 mt mf M2 K2 hI2)) rfl (evs_args rfl) rfl ?_; rintro _ _ ⟨rfl, rfl⟩; simp only [la1, la2, la3])
 (refine Jx.move rfl rfl (Jx.extract rfl rfl rfl ?_))
 (refine Jx.extract rfl rfl rfl ?_)
 (refine Jx.extract rfl rfl rfl ?_)
 (refine J.alloc (by simp only [List.map_cons, List.map_nil]; rfl) rfl rfl ?_; intro b')
 (refine J.alloc (by simp only [List.map_cons, List.map_nil]; rfl) rfl rfl ?_; intro b')
 (refine J.storeAll rfl rfl rfl 1 rfl rfl rfl ?_)
 (refine J.storeAll rfl rfl rfl 0 rfl rfl rfl ?_)
 (refine Jx.assign rfl rfl (J.nil (N.seq (W.seq (W.region (Jx.move rfl rfl ?_))))))
 (refine J.call (c4) rfl (evs_args rfl) rfl ?_; rintro _ _ ⟨rfl, rfl⟩; simp only [la1, la2, la3])
 (refine Jx.eqlS rfl rfl rfl (Jx.move rfl rfl (J.gY rfl rfl rfl ?_)))
 (refine Jx.move rfl rfl (J.gY rfl rfl rfl ?_))
 (refine Jx.lenS rfl rfl ?_)
 (refine J.gY rfl rfl rfl ?_)
 (refine Jx.eqlI rfl rfl rfl (Jx.pT rfl rfl rfl ?_))
 (refine Jx.move rfl rfl (J.gY rfl rfl rfl ?_))
 (refine Jx.move rfl rfl (J.gY rfl rfl rfl ?_))
 (refine Jx.eqlI rfl rfl rfl (Jx.pT rfl rfl rfl ?_))
 (refine Jx.move rfl rfl (J.gY rfl rfl rfl ?_))
 (refine Jx.move rfl rfl (J.gY rfl rfl rfl ?_))
 (refine Jx.eqlI rfl rfl rfl (Jx.pT rfl rfl rfl ?_))
 (refine Jx.move rfl rfl (J.gY rfl rfl rfl ?_))
 (refine Jx.move rfl rfl (J.gY rfl rfl rfl ?_))
 (refine Jx.eqlI rfl rfl rfl (Jx.pT rfl rfl rfl ?_))
 (refine Jx.move rfl rfl (J.gY rfl rfl rfl ?_))
 (refine Jx.move rfl rfl (J.gY rfl rfl rfl ?_))
 (refine Jx.eqlI rfl rfl rfl (Jx.pT rfl rfl rfl ?_))
 (refine Jx.move rfl rfl (J.gY rfl rfl rfl ?_))
 (refine Jx.move rfl rfl (Jx.pT rfl rfl rfl ?_))
 (refine Jx.move rfl rfl (J.gY rfl rfl rfl ?_))
 (refine Jx.fieldAddr rfl rfl ?_)
 (refine J.gY rfl rfl rfl ?_)
 (refine Jx.load rfl 1 rfl rfl rfl ?_)
 (refine J.gY rfl rfl rfl ?_)
 (refine Jx.eqlI rfl rfl rfl (Jx.pT rfl rfl rfl ?_))
 (refine Jx.move rfl rfl (J.gY rfl rfl rfl ?_))
 (refine Jx.fieldAddr rfl rfl ?_)
 (refine J.gY rfl rfl rfl ?_)
 (refine Jx.load rfl 0 rfl rfl rfl ?_)
 (refine J.gY rfl rfl rfl ?_)
 (refine Jx.eqlI rfl rfl rfl (Jx.pT rfl rfl rfl ?_))
 (refine Jx.assign rfl rfl (J.nil (N.seq (W.ret ?_))))
 (refine id ?_; rotate_left))
  exact N.retD (rs := [.tmp 0]) (L1 := []) rfl (.tmp rfl .nil) (List.nil_sublist _) ⟨rfl, rfl⟩
end Go.Proofs.YtafefapbiekmbaaDoor
namespace Go.Proofs.YtafefapbiekmbaaDoor
open Go Go.Sse
set_option linter.unusedVariables false
set_option linter.unusedSimpArgs false
set_option maxRecDepth 10000
abbrev ntL (l : List Nt) : SV := .sl 3 l.length (elOf ntC nt0 l)
set_option maxHeartbeats 2000000 in
theorem fill_ok (l : List Nt) : FnC Tryd.prog 9 [ntL l] [] (fun r L => ∃ b v mt mf M K, r = .tup [ptr b, ntL (fillR l).2] ∧ L = logO b v mt mf (fillR l).1 M K ∧ LogInv (fillR l).1 M K ∧ Nil0 v (fillR l).1) := by
  refine FnC.intro Tryd.func9 rfl Tryd.ntmps9 rfl fun Z w0 hG => ?_
  focus (
 (refine W.seq (W.region (Jx.assign rfl rfl (Jx.assign rfl rfl (J.nil (N.seq (W.seq (W.region ?_))))))))
 (refine J.call (newLog_ok) rfl (evs_args rfl) rfl ?_; rintro _ _ ⟨b, mt, mf, rfl, rfl⟩; simp only [la1, la2, la3])
 (refine Jx.assign rfl rfl (J.nil (N.seq (W.seq (W.region (Jx.assign rfl rfl (J.nil (N.seq (W.seq (W.seq (W.region (Jx.assign rfl rfl (J.nil (N.seq ?_))))))))))))))
 (refine W.block ?_)
 (refine id ?_; rotate_left))
  refine W.rowNil tNt 3 (elOf ntC nt0 []) ?_
  refine W.perm (List.perm_append_comm (l₁ := [_]) (l₂ := [_, _, _, _])) ?_
  refine W.loop (α := Nat × Value × Value × List (Nt × Value) × List (List UInt8 × Value)) (fun x => [(6, int x.1), (5, .val x.2.1), (4, ptr b), (0, ntL l)]) (fun x => logO b x.2.2.1 mt mf (fillA l x.1).1 x.2.2.2.1 x.2.2.2.2 ++ [.row x.2.1 tNt 3 (fillA l x.1).2.length (elOf ntC nt0 (fillA l x.1).2)])
    (fun x => x.1 ≤ l.length ∧ x.1 ≤ 40 ∧ LogInv (fillA l x.1).1 x.2.2.2.1 x.2.2.2.2 ∧ Nil0 x.2.2.1 (fillA l x.1).1) (fun x => 40 - x.1) (0, .slice none 0 0, .slice none 0 0, [], []) ⟨by simp, by simp, inv_nil, fun _ => rfl⟩ rfl ⟨ref0 rfl, ref0 rfl, ref0 rfl, ref0 rfl, trivial⟩ ?_
  rintro ⟨i, u, v, M, K⟩ ⟨hi, h40, hI, hN⟩
  simp only at hi h40 hI hN ⊢
  have hfl := filled l i hi
  by_cases h1 : i < l.length
  · have h1' : (i : Int) < (l.length : Int) := by omega
    by_cases h2 : i < 40
    · have h2' : (i : Int) < 40 := by omega
      have hs := fillA_succ h1
      have cp := put_ok b v mt mf (fillA l i).1 M K (l.getD i nt0) hI (by have := hfl.le; have := hfl.top; omega)
      have hlen : (fillA l i).2.length ≤ 40 := by have := hfl.top; omega
      generalize fillA l i = s at *
      obtain ⟨all, inn⟩ := s
      simp only at cp hs hlen hI hN ⊢
      have hmx : inn.length + [l.getD i nt0].length ≤ maxLen ∧ (inn.length + [l.getD i nt0].length) * 40 ≤ 140737488355328 := by simp only [maxLen, List.length_cons, List.length_nil]; omega
      by_cases hp : (putR all (l.getD i nt0)).1 = 0
      · rw [hp] at cp
        simp only [stepF, hp, if_true] at hs
        generalize putR all (l.getD i nt0) = pr at *
        focus (
 (refine W.seq (W.seq (W.region (Jx.move rfl rfl (Jx.move rfl rfl (Jx.lenSl rfl rfl ?_))))))
 (refine Jx.lssI rfl rfl rfl (Jx.move rfl rfl (J.gY rfl rfl rfl ?_)))
 (refine Jx.move rfl rfl (J.gY rfl rfl rfl ?_))
 (refine Jx.lssI rfl rfl rfl (Jx.pT rfl rfl rfl ?_))
 (refine J.nil (N.seq (W.cT rfl ?_)))
 (refine W.skip (N.seq (W.seq (W.block (W.seq (W.region (Jx.move rfl rfl (Jx.move rfl rfl (Jx.move rfl rfl (Jx.indexEl rfl rfl (by assumption) rfl rfl ?_))))))))))
 (refine Jx.loadPPall rfl rfl rfl ?_)
 (refine J.call (cp) rfl (evs_args rfl) rfl ?_; rintro _ _ ⟨v1, M1, K1, rfl, rfl, hI1, hN1⟩; simp only [la1, la2, la3])
 (refine Jx.eqlI rfl rfl rfl (J.nil (N.seq (W.cT rfl ?_))))
 (refine W.region (Jx.move rfl rfl (Jx.move rfl rfl (Jx.move rfl rfl (Jx.indexEl rfl rfl (by assumption) rfl rfl ?_)))))
 (refine Jx.loadPPall rfl rfl rfl ?_)
 (refine J.qs (Qs.buildOne ntC nt0 (l.getD i nt0) rfl rfl rfl rfl rfl rfl rfl) rfl ?_)
 (refine J.appendAt (l := inn) (l2 := [l.getD i nt0]) 4 rfl rfl (SrcOK.sl rfl) rfl rfl hmx rfl ?_; intro u2 hu2)
 (refine Jx.assign rfl rfl (J.nil (N.seq (W.region (Jx.move rfl rfl (Jx.add64 rfl rfl (by omega) rfl ?_))))))
 (refine Jx.assign rfl rfl (J.nil ?_))
 (refine id ?_; rotate_left))
        exact N.round (i + 1, u2, v1, M1, K1) ⟨by simp only; omega, by simp only; omega, by simp only; rw [hs]; exact hI1, by simp only; rw [hs]; exact hN1 hN⟩ (by simp only; omega) (by first | (simp only [hs]; done) | (simp only [hs]; rfl)) ⟨ref0 rfl, ref0 rfl, ref0 rfl, ref0 rfl, trivial⟩
      · have hpn : ¬ ((putR all (l.getD i nt0)).1 : Int) = 0 := hp
        simp only [stepF, hp, if_false] at hs
        generalize putR all (l.getD i nt0) = pr at *
        focus (
 (refine W.seq (W.seq (W.region (Jx.move rfl rfl (Jx.move rfl rfl (Jx.lenSl rfl rfl ?_))))))
 (refine Jx.lssI rfl rfl rfl (Jx.move rfl rfl (J.gY rfl rfl rfl ?_)))
 (refine Jx.move rfl rfl (J.gY rfl rfl rfl ?_))
 (refine Jx.lssI rfl rfl rfl (Jx.pT rfl rfl rfl ?_))
 (refine J.nil (N.seq (W.cT rfl ?_)))
 (refine W.skip (N.seq (W.seq (W.block (W.seq (W.region (Jx.move rfl rfl (Jx.move rfl rfl (Jx.move rfl rfl (Jx.indexEl rfl rfl (by assumption) rfl rfl ?_))))))))))
 (refine Jx.loadPPall rfl rfl rfl ?_)
 (refine J.call (cp) rfl (evs_args rfl) rfl ?_; rintro _ _ ⟨v1, M1, K1, rfl, rfl, hI1, hN1⟩; simp only [la1, la2, la3])
 (refine Jx.eqlI rfl rfl rfl (J.nil (N.seq (W.cF rfl ?_))))
 (refine W.skip (N.seq (W.region (Jx.move rfl rfl (Jx.add64 rfl rfl (by omega) rfl ?_)))))
 (refine Jx.assign rfl rfl (J.nil ?_))
 (refine id ?_; rotate_left))
        exact N.round (i + 1, u, v1, M1, K1) ⟨by simp only; omega, by simp only; omega, by simp only; rw [hs]; exact hI1, by simp only; rw [hs]; exact hN1 hN⟩ (by simp only; omega) (by first | (simp only [hs]; done) | (simp only [hs]; rfl)) ⟨ref0 rfl, ref0 rfl, ref0 rfl, ref0 rfl, trivial⟩
    · have h2' : ¬ (i : Int) < 40 := by omega
      rw [fillA_top hi h40 (fun h => h2 h.2)] at hI hfl hN ⊢
      have hlen : (fillR l).2.length ≤ maxLen := by have := hfl.top; simp only [maxLen]; omega
      generalize fillR l = s at *
      focus (
 (refine W.seq (W.seq (W.region (Jx.move rfl rfl (Jx.move rfl rfl (Jx.lenSl rfl rfl ?_))))))
 (refine Jx.lssI rfl rfl rfl (Jx.move rfl rfl (J.gY rfl rfl rfl ?_)))
 (refine Jx.move rfl rfl (J.gY rfl rfl rfl ?_))
 (refine Jx.lssI rfl rfl rfl (Jx.pT rfl rfl rfl ?_))
 (refine J.nil (N.seq (W.cF rfl ?_)))
 (refine W.exit (N.seq (W.seq (W.region (Jx.move rfl rfl (Jx.move rfl rfl (Jx.assign rfl rfl (Jx.assign rfl rfl (J.nil (N.seq (W.ret ?_)))))))))))
 (refine id ?_; rotate_left))
      refine N.perm (List.perm_append_comm (l₁ := [_, _, _, _]) (l₂ := [_])) ?_
      refine N.freeze 3 rfl hlen ?_
      exact N.ret (rs := [.tmp 2, .tmp 3]) rfl (.tmp rfl (.tmp rfl .nil)) ⟨_, _, _, _, _, _, rfl, rfl, hI, hN⟩
  · have h1' : ¬ (i : Int) < (l.length : Int) := by omega
    rw [fillA_top hi h40 (fun h => h1 h.1)] at hI hfl hN ⊢
    have hlen : (fillR l).2.length ≤ maxLen := by have := hfl.top; simp only [maxLen]; omega
    generalize fillR l = s at *
    focus (
 (refine W.seq (W.seq (W.region (Jx.move rfl rfl (Jx.move rfl rfl (Jx.lenSl rfl rfl ?_))))))
 (refine Jx.lssI rfl rfl rfl (Jx.move rfl rfl (J.gN rfl rfl rfl rfl ?_)))
 (refine J.gN rfl rfl rfl rfl ?_)
 (refine Jx.pF rfl rfl rfl ?_)
 (refine J.nil (N.seq (W.cF rfl ?_)))
 (refine W.exit (N.seq (W.seq (W.region (Jx.move rfl rfl (Jx.move rfl rfl (Jx.assign rfl rfl (Jx.assign rfl rfl (J.nil (N.seq (W.ret ?_)))))))))))
 (refine id ?_; rotate_left))
    refine N.perm (List.perm_append_comm (l₁ := [_, _, _, _]) (l₂ := [_])) ?_
    refine N.freeze 3 rfl hlen ?_
    exact N.ret (rs := [.tmp 2, .tmp 3]) rfl (.tmp rfl (.tmp rfl .nil)) ⟨_, _, _, _, _, _, rfl, rfl, hI, hN⟩
end Go.Proofs.YtafefapbiekmbaaDoor
namespace Go.Proofs.YtafefapbiekmbaaDoor
open Go Go.Sse Go.ChangeShapes Go.WideShapes Go.ChangeAt Go.RowKit
set_option linter.unusedVariables false
set_option linter.unusedSimpArgs false
set_option maxRecDepth 100000
noncomputable def rdNt : Rd Tryd.prog 28 Nt :=
  rdIso (Rd.struct (tos := [(3, 0), (9, 1), (9, 2)]) (by kernel_rfl) (Fds.cons rdInt (Fds.cons rdStr (Fds.cons rdStr Fds.nil))) (by kernel_rfl)) (fun x => ⟨x.1, x.2.1, x.2.2.1⟩) (fun m => (m.tag, m.text, m.digest, ())) (fun _ => rfl) ntC (fun _ => rfl) (fun _ => rfl)
noncomputable def rdNts : Rd Tryd.prog 22 (List Nt) := Rd.slice (by kernel_rfl) (by kernel_rfl) rdNt rfl
noncomputable def rdByte : Rd Tryd.prog 5 Int := Rd.int (k := .u8) (by kernel_rfl) (by kernel_rfl)
theorem byte_of {n : Int} (h : (Lit.int .u8 n).wf = true) : SV.val (.int .u8 n) = byte (UInt8.ofNat n.toNat) := by
  have h2 : 0 ≤ n ∧ n ≤ 255 := by simpa [Lit.wf, IntKind.min, IntKind.max, IntKind.signed, IntKind.bits] using h
  have : ((UInt8.ofNat n.toNat).toNat : Int) = n := by
    rw [UInt8.toNat_ofNat']
    omega
  rw [byte, this]
end Go.Proofs.YtafefapbiekmbaaDoor
namespace Go.Proofs.YtafefapbiekmbaaDoor
open Go Go.Sse
set_option linter.unusedVariables false
set_option linter.unusedSimpArgs false
set_option maxRecDepth 10000
theorem putR_own (all : List Nt) (m : Nat) (s : List UInt8) (h1 : 1 ≤ m) (h2 : m ≤ 255) : (putR all ⟨m, s, sumD m s⟩).1 = 0 := by
  have h3 := sumD_len m s
  by_cases h : (⟨m, s, sumD m s⟩ : Nt) ∈ all <;> simp [putR, h3, h, show ¬ (m : Int) < 1 by omega, show ¬ (255 : Int) < (m : Int) by omega]
theorem note_ok (b : Nat) (v : Value) (mt mf : Nat) (all : List Nt) (M : List (Nt × Value)) (K : List (List UInt8 × Value)) (hI : LogInv all M K) (hl : all.length < 1024) (m : Nat) (s : List UInt8) (h1 : 1 ≤ m) (h2 : m ≤ 255) (hs : s.length ≤ 1073741824) :
    FnC Tryd.prog 15 [ptr b, int (m : Int), str s] (logO b v mt mf all M K) (fun r L => ∃ v' M' K', r = .tup [str (sumD m s), int 0] ∧ L = logO b v' mt mf (putR all ⟨m, s, sumD m s⟩).2 M' K' ∧ LogInv (putR all ⟨m, s, sumD m s⟩).2 M' K' ∧ (Nil0 v all → Nil0 v' (putR all ⟨m, s, sumD m s⟩).2)) := by
  have c1 := dsum_ok m s h1 h2 hs
  have c2 := put_ok b v mt mf all M K ⟨m, s, sumD m s⟩ hI hl
  rw [putR_own all m s h1 h2] at c2
  generalize (putR all ⟨m, s, sumD m s⟩).2 = all2 at *
  generalize sumD m s = w at *
  refine FnC.intro Tryd.func15 rfl Tryd.ntmps15 rfl fun Z w0 hG => ?_
  focus (
 (refine W.seq (W.region (Jx.assign rfl rfl (Jx.assign rfl rfl (J.nil (N.seq (W.seq (W.region (Jx.move rfl rfl (Jx.move rfl rfl ?_))))))))))
 (refine J.call (c1) rfl (evs_args rfl) rfl ?_; rintro _ _ ⟨rfl, rfl⟩; simp only [la1, la2, la3])
 (refine Jx.move rfl rfl (Jx.extract rfl rfl rfl ?_))
 (refine Jx.extract rfl rfl rfl ?_)
 (refine Jx.assign rfl rfl (Jx.assign rfl rfl (J.nil (N.seq (W.seq (W.seq (W.region (Jx.move rfl rfl (Jx.eqlI rfl rfl rfl (J.nil (N.seq (W.cT rfl ?_))))))))))))
 (refine W.region (Jx.move rfl rfl (Jx.move rfl rfl (Jx.move rfl rfl (Jx.move rfl rfl (Jx.buildB rfl rfl rfl rfl rfl ?_))))))
 (refine J.call (c2) rfl (evs_args rfl) rfl ?_; rintro _ _ ⟨v', M', K', rfl, rfl, hI', hN'⟩; simp only [la1, la2, la3])
 (refine Jx.assign rfl rfl (J.nil (N.seq (W.seq (W.seq (W.region (Jx.move rfl rfl (Jx.neqI rfl rfl rfl (J.nil (N.seq (W.cF rfl ?_)))))))))))
 (refine W.skip (N.seq (W.seq (W.region (Jx.move rfl rfl (Jx.assign rfl rfl (Jx.assign rfl rfl (J.nil (N.seq (W.ret ?_))))))))))
 (refine id ?_; rotate_left))
  exact N.ret (rs := [.tmp 6, .tmp 7]) rfl (.tmp rfl (.tmp rfl .nil)) ⟨_, _, _, rfl, rfl, hI', hN'⟩
theorem own_law (all : List Nt) (n : Nt) (h : (putR all n).1 = 0) : findR (putR all n).2 n.digest = if (findR all n.digest).2 then findR all n.digest else (n, true) := by
  obtain ⟨_, he⟩ := putR_yes h
  rw [he]
  cases hd : findD all n.digest with
  | some j =>
    have hj := (findP_some nt0 hd).1
    have e : findR all n.digest = (all.getD j nt0, true) := by simp only [findR, hd]
    rw [e]
    by_cases hm : n ∈ all
    · rw [if_pos hm, e]; rfl
    · rw [if_neg hm]
      have : findD (all ++ [n]) n.digest = some j := by rw [findD_snoc, hd]; rfl
      simp only [findR, this, getD_left hj, if_true]
  | none =>
    have e : findR all n.digest = (nt0, false) := by simp only [findR, hd]
    have hm : n ∉ all := fun hm => by
      have := findP_none hd n hm
      simp at this
    rw [if_neg hm, e]
    have : findD (all ++ [n]) n.digest = some all.length := by rw [findD_snoc, hd]; simp
    simp only [findR, this, Bool.false_eq_true, if_false]
    rw [getD_mid]
set_option maxHeartbeats 4000000 in
theorem digestOwn_ok (l : List Nt) (tg : UInt8) (s : List UInt8) : FnC Tryd.prog 5 [ntL l, byte tg, str s] [] (fun r L => r = bool true ∧ L = []) := by
  have cw := dworks_ok
  by_cases h1 : 200 < s.length
  · have h1' : (200 : Int) < (s.length : Int) := by omega
    refine FnC.intro Tryd.func5 rfl Tryd.ntmps5 rfl fun Z w0 hG => ?_
    focus (
 (refine W.seq (W.region (Jx.assign rfl rfl (J.nil (N.seq (W.seq (W.seq (W.region ?_))))))))
 (refine J.call (cw) rfl (evs_args rfl) rfl ?_; rintro _ _ ⟨rfl, rfl⟩; simp only [la1, la2, la3])
 (refine Jx.not rfl rfl (J.nil (N.seq (W.cF rfl ?_))))
 (refine W.skip (N.seq (W.seq (W.seq (W.region (Jx.move rfl rfl (Jx.lenS rfl rfl ?_)))))))
 (refine Jx.gtrI rfl rfl rfl (Jx.move rfl rfl (J.gN rfl rfl rfl rfl ?_)))
 (refine J.gN rfl rfl rfl rfl ?_)
 (refine Jx.pT rfl rfl rfl ?_)
 (refine J.nil (N.seq (W.cT rfl ?_)))
 (refine W.seq (W.region (Jx.assign rfl rfl (J.nil (N.seq (W.ret (N.noGotoRet ?_)))))))
 (refine id ?_; rotate_left))
    exact N.ret (rs := [.tmp 6]) rfl (.tmp rfl .nil) ⟨rfl, rfl⟩
  have h1' : ¬ (200 : Int) < (s.length : Int) := by omega
  by_cases h2 : tg.toNat = 0
  · have h2' : (tg.toNat : Int) = 0 := by omega
    refine FnC.intro Tryd.func5 rfl Tryd.ntmps5 rfl fun Z w0 hG => ?_
    focus (
 (refine W.seq (W.region (Jx.assign rfl rfl (J.nil (N.seq (W.seq (W.seq (W.region ?_))))))))
 (refine J.call (cw) rfl (evs_args rfl) rfl ?_; rintro _ _ ⟨rfl, rfl⟩; simp only [la1, la2, la3])
 (refine Jx.not rfl rfl (J.nil (N.seq (W.cF rfl ?_))))
 (refine W.skip (N.seq (W.seq (W.seq (W.region (Jx.move rfl rfl (Jx.lenS rfl rfl ?_)))))))
 (refine Jx.gtrI rfl rfl rfl (Jx.move rfl rfl (J.gY rfl rfl rfl ?_)))
 (refine Jx.move rfl rfl (J.gY rfl rfl rfl ?_))
 (refine Jx.eqlI rfl rfl rfl (Jx.pF rfl rfl rfl ?_))
 (refine J.nil (N.seq (W.cT rfl ?_)))
 (refine W.seq (W.region (Jx.assign rfl rfl (J.nil (N.seq (W.ret (N.noGotoRet ?_)))))))
 (refine id ?_; rotate_left))
    exact N.ret (rs := [.tmp 6]) rfl (.tmp rfl .nil) ⟨rfl, rfl⟩
  have h2' : ¬ (tg.toNat : Int) = 0 := by omega
  have h255 := tg.toNat_lt
  have cf := fill_ok l
  have hfl := fillR_filled l
  generalize fillR l = st at *
  obtain ⟨all, inn⟩ := st
  simp only at cf hfl
  have hlen : all.length < 1024 := by have := hfl.le; have := hfl.top; omega
  have c1 := Sha.hsum_ok ([tg] ++ s) (by simp only [List.length_append, List.length_cons, List.length_nil]; omega)
  have hw : Sha.shaS ([tg] ++ s) = sumD tg.toNat s := by unfold sumD; rw [UInt8.ofNat_toNat]
  rw [hw] at c1
  have cn := fun b v mt mf M K h => note_ok b v mt mf all M K h hlen tg.toNat s (by omega) (by omega) (by omega)
  have hlaw := own_law all ⟨tg.toNat, s, sumD tg.toNat s⟩ (putR_own all tg.toNat s (by omega) (by omega))
  simp only at hlaw
  have cf1 := fun b v mt mf M K h => find_ok b v mt mf all M K (sumD tg.toNat s) h
  have cf2 := fun b v mt mf M K h => find_ok b v mt mf (putR all ⟨tg.toNat, s, sumD tg.toNat s⟩).2 M K (sumD tg.toNat s) h
  rw [hlaw] at cf2
  generalize (putR all ⟨tg.toNat, s, sumD tg.toNat s⟩).2 = all2 at *
  generalize sumD tg.toNat s = w at *
  generalize findR all w = f1 at *
  obtain ⟨x, ok⟩ := f1
  simp only at cf1 cf2
  have hc : [tg].length + s.length ≤ 9223372036854775807 := by simp only [List.length_cons, List.length_nil]; omega
  cases ok with
  | true =>
    simp only [if_true] at cf2
    refine FnC.intro Tryd.func5 rfl Tryd.ntmps5 rfl fun Z w0 hG => ?_
    focus (
 (refine W.seq (W.region (Jx.assign rfl rfl (J.nil (N.seq (W.seq (W.seq (W.region ?_))))))))
 (refine J.call (cw) rfl (evs_args rfl) rfl ?_; rintro _ _ ⟨rfl, rfl⟩; simp only [la1, la2, la3])
 (refine Jx.not rfl rfl (J.nil (N.seq (W.cF rfl ?_))))
 (refine W.skip (N.seq (W.seq (W.seq (W.region (Jx.move rfl rfl (Jx.lenS rfl rfl ?_)))))))
 (refine Jx.gtrI rfl rfl rfl (Jx.move rfl rfl (J.gY rfl rfl rfl ?_)))
 (refine Jx.move rfl rfl (J.gY rfl rfl rfl ?_))
 (refine Jx.eqlI rfl rfl rfl (Jx.pF rfl rfl rfl ?_))
 (refine J.nil (N.seq (W.cF rfl ?_)))
 (refine W.skip (N.seq (W.seq (W.region (Jx.move rfl rfl ?_)))))
 (refine J.call (cf) rfl (evs_args rfl) rfl ?_; rintro _ _ ⟨b, v, mt, mf, M, K, rfl, rfl, hI, hN⟩; simp only [la1, la2, la3])
 (refine Jx.move rfl rfl (Jx.extract rfl rfl rfl ?_))
 (refine Jx.extract rfl rfl rfl ?_)
 (refine Jx.assign rfl rfl (Jx.assign rfl rfl (J.nil (N.seq (W.seq (W.region (Jx.move rfl rfl ?_)))))))
 (refine J.qs (Qs.buildBytes [tg] rfl rfl rfl (by decide) (by decide)) rfl ?_)
 (refine Jx.bytesStr rfl rfl ?_)
 (refine Jx.move rfl rfl ?_)
 (refine Jx.cat rfl rfl hc rfl ?_)
 (refine J.call (c1) rfl (evs_args rfl) rfl ?_; rintro _ _ ⟨rfl, rfl⟩; simp only [la1, la2, la3])
 (refine Jx.assign rfl rfl (J.nil (N.seq (W.seq (W.region (Jx.move rfl rfl (Jx.move rfl rfl ?_)))))))
 (refine J.call ((cf1 b v mt mf M K hI)) rfl (evs_args rfl) rfl ?_; rintro _ _ ⟨rfl, rfl⟩; simp only [la1, la2, la3])
 (refine Jx.move rfl rfl (Jx.extract rfl rfl rfl ?_))
 (refine Jx.extract rfl rfl rfl ?_)
 (refine J.alloc (by simp only [List.map_cons, List.map_nil]; rfl) rfl rfl ?_; intro b')
 (refine J.storeAll rfl rfl rfl 0 rfl rfl rfl ?_)
 (refine Jx.assign rfl rfl (J.nil (N.seq (W.seq (W.region (Jx.move rfl rfl (Jx.move rfl rfl (Jx.byteNum rfl rfl rfl ?_))))))))
 (refine Jx.move rfl rfl ?_)
 (refine J.perm (List.perm_append_comm (l₁ := [_]) (l₂ := [_, _, _, _])) ?_; refine J.call (cn b v mt mf M K hI) rfl (evs_args rfl) rfl ?_; rintro _ _ ⟨v', M', K', rfl, rfl, hI', hN'⟩; simp only [List.cons_append, List.nil_append])
 (refine Jx.move rfl rfl (Jx.extract rfl rfl rfl ?_))
 (refine Jx.extract rfl rfl rfl ?_)
 (refine Jx.assign rfl rfl (Jx.assign rfl rfl (J.nil (N.seq (W.seq (W.region (Jx.move rfl rfl (Jx.move rfl rfl ?_))))))))
 (refine J.call ((cf2 b v' mt mf M' K' hI')) rfl (evs_args rfl) rfl ?_; rintro _ _ ⟨rfl, rfl⟩; simp only [la1, la2, la3])
 (refine Jx.move rfl rfl (Jx.extract rfl rfl rfl ?_))
 (refine Jx.extract rfl rfl rfl ?_)
 (refine J.alloc (by simp only [List.map_cons, List.map_nil]; rfl) rfl rfl ?_; intro b')
 (refine J.storeAll rfl rfl rfl 0 rfl rfl rfl ?_)
 (refine Jx.assign rfl rfl (J.nil (N.seq (W.seq (W.seq (W.region (Jx.move rfl rfl (Jx.neqI rfl rfl rfl (Jx.move rfl rfl (J.gY rfl rfl rfl ?_))))))))))
 (refine Jx.move rfl rfl (J.gY rfl rfl rfl ?_))
 (refine Jx.move rfl rfl (J.gY rfl rfl rfl ?_))
 (refine Jx.neqS rfl rfl rfl (Jx.pF rfl rfl rfl ?_))
 (refine Jx.move rfl rfl (J.gY rfl rfl rfl ?_))
 (refine Jx.move rfl rfl (J.gY rfl rfl rfl ?_))
 (refine Jx.not rfl rfl (Jx.pF rfl rfl rfl ?_))
 (refine J.nil (N.seq (W.cF rfl ?_)))
 (refine W.skip (N.seq (W.seq (W.region (Jx.move rfl rfl (Jx.move rfl rfl (J.gY rfl rfl rfl ?_)))))))
 (refine Jx.loadAll rfl 0 rfl rfl rfl ?_)
 (refine J.gY rfl rfl rfl ?_)
 (refine Jx.loadAll rfl 5 rfl rfl rfl ?_)
 (refine J.gY rfl rfl rfl ?_)
 (refine Jx.eqlAg true rfl rfl rfl rfl rfl rfl ⟨fun _ => rfl, fun _ => rfl⟩ rfl ?_)
 (refine Jx.pT rfl rfl rfl ?_)
 (refine Jx.move rfl rfl (J.gN rfl rfl rfl rfl ?_))
 (refine J.gN rfl rfl rfl rfl ?_)
 (refine J.gN rfl rfl rfl rfl ?_)
 (refine J.guardSkip rfl rfl rfl rfl ?_)
 (refine J.guardSkip rfl rfl rfl rfl ?_)
 (refine J.guardSkip rfl rfl rfl rfl ?_)
 (refine J.guardSkip rfl rfl rfl rfl ?_)
 (refine J.guardSkip rfl rfl rfl rfl ?_)
 (refine J.guardSkip rfl rfl rfl rfl ?_)
 (refine J.guardSkip rfl rfl rfl rfl ?_)
 (refine J.gN rfl rfl rfl rfl ?_)
 (refine Jx.pT rfl rfl rfl ?_)
 (refine Jx.assign rfl rfl (J.nil (N.seq (W.ret ?_))))
 (refine id ?_; rotate_left))
    exact N.retD (rs := [.tmp 6]) (L1 := []) rfl (.tmp rfl .nil) (List.nil_sublist _) ⟨rfl, rfl⟩
  | false =>
    simp only [Bool.false_eq_true, if_false] at cf2
    refine FnC.intro Tryd.func5 rfl Tryd.ntmps5 rfl fun Z w0 hG => ?_
    focus (
 (refine W.seq (W.region (Jx.assign rfl rfl (J.nil (N.seq (W.seq (W.seq (W.region ?_))))))))
 (refine J.call (cw) rfl (evs_args rfl) rfl ?_; rintro _ _ ⟨rfl, rfl⟩; simp only [la1, la2, la3])
 (refine Jx.not rfl rfl (J.nil (N.seq (W.cF rfl ?_))))
 (refine W.skip (N.seq (W.seq (W.seq (W.region (Jx.move rfl rfl (Jx.lenS rfl rfl ?_)))))))
 (refine Jx.gtrI rfl rfl rfl (Jx.move rfl rfl (J.gY rfl rfl rfl ?_)))
 (refine Jx.move rfl rfl (J.gY rfl rfl rfl ?_))
 (refine Jx.eqlI rfl rfl rfl (Jx.pF rfl rfl rfl ?_))
 (refine J.nil (N.seq (W.cF rfl ?_)))
 (refine W.skip (N.seq (W.seq (W.region (Jx.move rfl rfl ?_)))))
 (refine J.call (cf) rfl (evs_args rfl) rfl ?_; rintro _ _ ⟨b, v, mt, mf, M, K, rfl, rfl, hI, hN⟩; simp only [la1, la2, la3])
 (refine Jx.move rfl rfl (Jx.extract rfl rfl rfl ?_))
 (refine Jx.extract rfl rfl rfl ?_)
 (refine Jx.assign rfl rfl (Jx.assign rfl rfl (J.nil (N.seq (W.seq (W.region (Jx.move rfl rfl ?_)))))))
 (refine J.qs (Qs.buildBytes [tg] rfl rfl rfl (by decide) (by decide)) rfl ?_)
 (refine Jx.bytesStr rfl rfl ?_)
 (refine Jx.move rfl rfl ?_)
 (refine Jx.cat rfl rfl hc rfl ?_)
 (refine J.call (c1) rfl (evs_args rfl) rfl ?_; rintro _ _ ⟨rfl, rfl⟩; simp only [la1, la2, la3])
 (refine Jx.assign rfl rfl (J.nil (N.seq (W.seq (W.region (Jx.move rfl rfl (Jx.move rfl rfl ?_)))))))
 (refine J.call ((cf1 b v mt mf M K hI)) rfl (evs_args rfl) rfl ?_; rintro _ _ ⟨rfl, rfl⟩; simp only [la1, la2, la3])
 (refine Jx.move rfl rfl (Jx.extract rfl rfl rfl ?_))
 (refine Jx.extract rfl rfl rfl ?_)
 (refine J.alloc (by simp only [List.map_cons, List.map_nil]; rfl) rfl rfl ?_; intro b')
 (refine J.storeAll rfl rfl rfl 0 rfl rfl rfl ?_)
 (refine Jx.assign rfl rfl (J.nil (N.seq (W.seq (W.region (Jx.move rfl rfl (Jx.move rfl rfl (Jx.byteNum rfl rfl rfl ?_))))))))
 (refine Jx.move rfl rfl ?_)
 (refine J.perm (List.perm_append_comm (l₁ := [_]) (l₂ := [_, _, _, _])) ?_; refine J.call (cn b v mt mf M K hI) rfl (evs_args rfl) rfl ?_; rintro _ _ ⟨v', M', K', rfl, rfl, hI', hN'⟩; simp only [List.cons_append, List.nil_append])
 (refine Jx.move rfl rfl (Jx.extract rfl rfl rfl ?_))
 (refine Jx.extract rfl rfl rfl ?_)
 (refine Jx.assign rfl rfl (Jx.assign rfl rfl (J.nil (N.seq (W.seq (W.region (Jx.move rfl rfl (Jx.move rfl rfl ?_))))))))
 (refine J.call ((cf2 b v' mt mf M' K' hI')) rfl (evs_args rfl) rfl ?_; rintro _ _ ⟨rfl, rfl⟩; simp only [la1, la2, la3])
 (refine Jx.move rfl rfl (Jx.extract rfl rfl rfl ?_))
 (refine Jx.extract rfl rfl rfl ?_)
 (refine J.alloc (by simp only [List.map_cons, List.map_nil]; rfl) rfl rfl ?_; intro b')
 (refine J.storeAll rfl rfl rfl 0 rfl rfl rfl ?_)
 (refine Jx.assign rfl rfl (J.nil (N.seq (W.seq (W.seq (W.region (Jx.move rfl rfl (Jx.neqI rfl rfl rfl (Jx.move rfl rfl (J.gY rfl rfl rfl ?_))))))))))
 (refine Jx.move rfl rfl (J.gY rfl rfl rfl ?_))
 (refine Jx.move rfl rfl (J.gY rfl rfl rfl ?_))
 (refine Jx.neqS rfl rfl rfl (Jx.pF rfl rfl rfl ?_))
 (refine Jx.move rfl rfl (J.gY rfl rfl rfl ?_))
 (refine Jx.move rfl rfl (J.gY rfl rfl rfl ?_))
 (refine Jx.not rfl rfl (Jx.pF rfl rfl rfl ?_))
 (refine J.nil (N.seq (W.cF rfl ?_)))
 (refine W.skip (N.seq (W.seq (W.region (Jx.move rfl rfl (Jx.move rfl rfl (J.gN rfl rfl rfl rfl ?_)))))))
 (refine J.gN rfl rfl rfl rfl ?_)
 (refine J.gN rfl rfl rfl rfl ?_)
 (refine Jx.pF rfl rfl rfl ?_)
 (refine Jx.move rfl rfl (J.gY rfl rfl rfl ?_))
 (refine Jx.move rfl rfl (J.gY rfl rfl rfl ?_))
 (refine Jx.not rfl rfl (J.gY rfl rfl rfl ?_))
 (refine Jx.move rfl rfl (J.gY rfl rfl rfl ?_))
 (refine Jx.loadAll rfl 0 rfl rfl rfl ?_)
 (refine J.gY rfl rfl rfl ?_)
 (refine Jx.move rfl rfl (J.gY rfl rfl rfl ?_))
 (refine Jx.byteNum rfl rfl rfl ?_)
 (refine J.gY rfl rfl rfl ?_)
 (refine Jx.move rfl rfl (J.gY rfl rfl rfl ?_))
 (refine Jx.move rfl rfl (J.gY rfl rfl rfl ?_))
 (refine Jx.buildB rfl rfl rfl rfl rfl ?_)
 (refine J.gY rfl rfl rfl ?_)
 (refine Jx.eqlAg true rfl rfl rfl rfl rfl rfl ⟨fun _ => rfl, fun _ => rfl⟩ rfl ?_)
 (refine J.gY rfl rfl rfl ?_)
 (refine Jx.pT rfl rfl rfl ?_)
 (refine Jx.pF rfl rfl rfl ?_)
 (refine Jx.assign rfl rfl (J.nil (N.seq (W.ret ?_))))
 (refine id ?_; rotate_left))
    exact N.retD (rs := [.tmp 6]) (L1 := []) rfl (.tmp rfl .nil) (List.nil_sublist _) ⟨rfl, rfl⟩
end Go.Proofs.YtafefapbiekmbaaDoor
