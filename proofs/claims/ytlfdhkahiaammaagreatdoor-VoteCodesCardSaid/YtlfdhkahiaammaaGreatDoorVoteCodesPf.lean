/-
  Lemmas for the claim, part 6.
-/
import Derived.Test.YtlfdhkahiaammaaGreatDoorVoteCodesPe
namespace Go.Proofs.YtlfdhkahiaammaaGreatDoor
open Go Go.Sse
set_option linter.unusedVariables false
set_option linter.unusedSimpArgs false
set_option maxRecDepth 10000
def bigT (x : Tx) : Bool := (((decide (100 < (x.from_.length : Int)) || decide (100 < (x.to_.length : Int))) || decide (100 < (x.key.length : Int))) || decide (100 < (x.value.length : Int))) || decide (100 < (x.members.length : Int))
theorem bigT_no {x : Tx} (h : bigT x = false) : x.from_.length ≤ 100 ∧ x.to_.length ≤ 100 ∧ x.key.length ≤ 100 ∧ x.value.length ≤ 100 ∧ x.members.length ≤ 100 := by
  simp only [bigT, Bool.or_eq_false_iff, decide_eq_false_iff_not] at h
  omega
end Go.Proofs.YtlfdhkahiaammaaGreatDoor
namespace Go.Proofs.YtlfdhkahiaammaaGreatDoor
open Go Go.Sse
set_option linter.unusedVariables false
set_option linter.unusedSimpArgs false
set_option maxRecDepth 10000
def bigBk (b : Bk) : Bool := bigH b.head || (b.txs.any bigT || ((decide (20 < (b.txs.length : Int)) || !fewB b.just.signers 50 100) || decide (100 < (b.just.digest.length : Int))))
theorem bigBk_no {b : Bk} (h : bigBk b = false) : b.head.skips.length ≤ 40 ∧ b.txs.length ≤ 20 ∧ (∀ x ∈ b.txs, x.members.length ≤ 100) ∧ b.just.signers.length ≤ 50 := by
  simp only [bigBk, Bool.or_eq_false_iff, Bool.not_eq_false', decide_eq_false_iff_not] at h
  obtain ⟨h1, h2, ⟨h3, h4⟩, h5⟩ := h
  refine ⟨bigH_no h1, by omega, fun x hx => ?_, (few_spec (n := 50) (e := 100) h4).1⟩
  exact (bigT_no (by simpa using List.any_eq_false.1 h2 x hx)).2.2.2.2
end Go.Proofs.YtlfdhkahiaammaaGreatDoor
namespace Go.Proofs.YtlfdhkahiaammaaGreatDoor
open Go Go.Sse
set_option linter.unusedVariables false
set_option linter.unusedSimpArgs false
set_option maxRecDepth 10000
def bigM (m : Ms) : Bool := ((decide (100 < (m.who.length : Int)) || decide (100 < (m.digest.length : Int))) || decide (100 < (m.cert.digest.length : Int))) || !fewB m.cert.signers 50 100
def bigMs (m : Ms) : Bool := bigBk m.block || bigM m
theorem bigMs_no {m : Ms} (h : bigMs m = false) : (m.block.head.skips.length ≤ 40 ∧ m.block.txs.length ≤ 20 ∧ (∀ x ∈ m.block.txs, x.members.length ≤ 100) ∧ m.block.just.signers.length ≤ 50) ∧ m.cert.signers.length ≤ 50 := by
  simp only [bigMs, bigM, Bool.or_eq_false_iff, Bool.not_eq_false'] at h
  exact ⟨bigBk_no h.1, (few_spec (n := 50) (e := 100) h.2.2).1⟩
set_option maxHeartbeats 4000000 in
theorem vbig_ok (m : Ms) (hl : m.block.txs.length ≤ 9223372036854775807) : FnC Tryz.prog 16 [.agg (msC m)] [] (fun v L => v = bool (bigMs m) ∧ L = []) := by
  have c := few_ok m.block.head.skips 40 100 (by decide)
  have c2 := few_ok m.block.just.signers 50 100 (by decide)
  have c3 := few_ok m.cert.signers 50 100 (by decide)
  have he : bigMs m = (bigBk m.block || bigM m) := rfl
  refine FnC.intro Tryz.func16 rfl Tryz.ntmps16 rfl fun Z w0 hG => ?_
  rw [he]
  obtain ⟨b, hb⟩ : ∃ b, b = m.block := ⟨_, rfl⟩
  focus (
 (refine W.seq (W.region ?_))
 (refine J.boxAg rfl rfl ?_; intro b')
 (refine Jx.assign rfl rfl (J.nil (N.seq (W.seq (W.region (Jx.fieldAddr rfl rfl ?_))))))
 (refine Jx.loadAg rfl 0 rfl rfl rfl rfl ?_)
 (refine J.alloc (by simp only [List.map_cons, List.map_nil]; rfl) rfl rfl ?_; intro b')
 (refine J.storeAll rfl rfl rfl 0 rfl rfl rfl ?_)
 (refine J.nil (N.seq (W.seq (W.region (Jx.fieldAddr rfl rfl ?_)))))
 (refine Jx.loadAg rfl 0 rfl rfl rfl rfl ?_)
 (refine J.alloc (by simp only [List.map_cons, List.map_nil]; rfl) rfl rfl ?_; intro b')
 (refine J.storeAll rfl rfl rfl 0 rfl rfl rfl ?_)
 (refine J.nil (N.seq (W.seq (W.seq (W.region (Jx.fieldAddr rfl rfl ?_))))))
 (refine Jx.load rfl 0 rfl rfl rfl ?_)
 (refine J.call (c) rfl (evs_args rfl) rfl ?_; rintro _ _ ⟨rfl, rfl⟩; simp only [la1, la2, la3])
 (refine Jx.not rfl rfl (Jx.move rfl rfl ?_))
 (refine' J.guardOr rfl rfl rfl rfl rfl rfl rfl rfl (fun _ => ?_) ?_; rotate_left)
 (refine J.gY rfl rfl rfl ?_)
 (refine Jx.fieldAddr rfl rfl ?_)
 (refine J.gY rfl rfl rfl ?_)
 (refine Jx.load rfl 0 rfl rfl rfl ?_)
 (refine J.gY rfl rfl rfl ?_)
 (refine Jx.lenS rfl rfl ?_)
 (refine J.gY rfl rfl rfl ?_)
 (refine Jx.gtrI rfl rfl rfl (J.nil ?_))
 (refine N.joinedN rfl rfl rfl)
 (refine Jx.move rfl rfl ?_)
 (refine' J.guardOr rfl rfl rfl rfl rfl rfl rfl rfl (fun _ => ?_) ?_; rotate_left)
 (refine J.gY rfl rfl rfl ?_)
 (refine Jx.fieldAddr rfl rfl ?_)
 (refine J.gY rfl rfl rfl ?_)
 (refine Jx.load rfl 0 rfl rfl rfl ?_)
 (refine J.gY rfl rfl rfl ?_)
 (refine Jx.lenS rfl rfl ?_)
 (refine J.gY rfl rfl rfl ?_)
 (refine Jx.gtrI rfl rfl rfl (J.nil ?_))
 (refine N.joinedN rfl rfl rfl)
 (refine Jx.move rfl rfl ?_)
 (refine' J.guardOr rfl rfl rfl rfl rfl rfl rfl rfl (fun _ => ?_) ?_; rotate_left)
 (refine J.gY rfl rfl rfl ?_)
 (refine Jx.fieldAddr rfl rfl ?_)
 (refine J.gY rfl rfl rfl ?_)
 (refine Jx.load rfl 0 rfl rfl rfl ?_)
 (refine J.gY rfl rfl rfl ?_)
 (refine Jx.lenS rfl rfl ?_)
 (refine J.gY rfl rfl rfl ?_)
 (refine Jx.gtrI rfl rfl rfl (J.nil ?_))
 (refine N.joinedN rfl rfl rfl)
 (refine Jx.move rfl rfl ?_)
 (refine' J.guardOr rfl rfl rfl rfl rfl rfl rfl rfl (fun _ => ?_) ?_; rotate_left)
 (refine J.gY rfl rfl rfl ?_)
 (refine Jx.fieldAddr rfl rfl ?_)
 (refine J.gY rfl rfl rfl ?_)
 (refine Jx.load rfl 0 rfl rfl rfl ?_)
 (refine J.gY rfl rfl rfl ?_)
 (refine Jx.lenS rfl rfl ?_)
 (refine J.gY rfl rfl rfl ?_)
 (refine Jx.gtrI rfl rfl rfl (J.nil ?_))
 (refine N.joinedN rfl rfl rfl)
 (refine Jx.move rfl rfl ?_)
 (refine' J.guardOr rfl rfl rfl rfl rfl rfl rfl rfl (fun _ => ?_) ?_; rotate_left)
 (refine J.gY rfl rfl rfl ?_)
 (refine Jx.fieldAddr rfl rfl ?_)
 (refine J.gY rfl rfl rfl ?_)
 (refine Jx.load rfl 0 rfl rfl rfl ?_)
 (refine J.gY rfl rfl rfl ?_)
 (refine Jx.lenS rfl rfl ?_)
 (refine J.gY rfl rfl rfl ?_)
 (refine Jx.gtrI rfl rfl rfl (J.nil ?_))
 (refine N.joinedN rfl rfl rfl)
 (refine Jx.move rfl rfl ?_)
 (refine' J.guardOr rfl rfl rfl rfl rfl rfl rfl rfl (fun _ => ?_) ?_; rotate_left)
 (refine J.gY rfl rfl rfl ?_)
 (refine Jx.fieldAddr rfl rfl ?_)
 (refine J.gY rfl rfl rfl ?_)
 (refine Jx.load rfl 0 rfl rfl rfl ?_)
 (refine J.gY rfl rfl rfl ?_)
 (refine Jx.lenS rfl rfl ?_)
 (refine J.gY rfl rfl rfl ?_)
 (refine Jx.gtrI rfl rfl rfl (J.nil ?_))
 (refine N.joinedN rfl rfl rfl)
 (refine J.nil (N.seq ?_))
 (refine id ?_; rotate_left))
  rename_i p1 p2
  refine W.cond rfl (fun hb => ?_) (fun hb => ?_)
  · have hb : bigH m.block.head = true := hb
    rw [bigBk, hb]
    focus (
 (refine W.seq (W.region (Jx.assign rfl rfl (J.nil (N.seq (W.ret (N.noGotoRet ?_)))))))
 (refine id ?_; rotate_left))
    exact N.retD (rs := [.tmp 2]) (L1 := []) rfl (.tmp rfl .nil) (List.nil_sublist _) ⟨rfl, rfl⟩
  · have hb : bigH m.block.head = false := hb
    rw [bigBk, hb]
    focus (
 (refine W.skip (N.seq (W.seq (W.seq (W.region (Jx.assign rfl rfl (J.nil (N.seq (W.block ?_)))))))))
 (refine id ?_; rotate_left))
    refine W.loop (α := Nat) (fun i => [(5, int (i : Int)), (3, ptr p2), (1, ptr p1)]) (fun _ => [.obj b' tHd (hdC m.block.head), .obj p2 tBk (bkC m.block), .obj p1 tMs (msC m)]) (fun i => i ≤ m.block.txs.length ∧ (m.block.txs.take i).any bigT = false) (fun i => m.block.txs.length - i) 0 (by simp) rfl ⟨ref0 rfl, ref0 rfl, ref0 rfl, trivial⟩ ?_
    rintro i ⟨hi, hn⟩
    by_cases h1 : i < m.block.txs.length
    · focus (
 (refine W.seq (W.seq (W.region (Jx.move rfl rfl (Jx.fieldAddr rfl rfl ?_)))))
 (refine Jx.load rfl 1 rfl rfl rfl ?_)
 (refine Jx.lenSl rfl rfl ?_)
 (refine Jx.lssI rfl rfl rfl (J.nil (N.seq (W.cT rfl ?_))))
 (refine W.skip (N.seq (W.seq (W.block (W.seq (W.region (Jx.fieldAddr rfl rfl ?_)))))))
 (refine Jx.load rfl 1 rfl rfl rfl ?_)
 (refine Jx.move rfl rfl (Jx.indexEl rfl rfl (by assumption) rfl rfl ?_))
 (refine Jx.loadPPall rfl rfl rfl ?_)
 (refine J.alloc (by simp only [List.map_cons, List.map_nil]; rfl) rfl rfl ?_; intro b')
 (refine J.storeAll rfl rfl rfl 0 rfl rfl rfl ?_)
 (refine J.nil (N.seq (W.seq (W.region (Jx.fieldAddr rfl rfl ?_)))))
 (refine Jx.load rfl 0 rfl rfl rfl ?_)
 (refine Jx.lenS rfl rfl ?_)
 (refine Jx.gtrI rfl rfl rfl (Jx.move rfl rfl ?_))
 (refine' J.guardOr rfl rfl rfl rfl rfl rfl rfl rfl (fun _ => ?_) ?_; rotate_left)
 (refine J.gY rfl rfl rfl ?_)
 (refine Jx.fieldAddr rfl rfl ?_)
 (refine J.gY rfl rfl rfl ?_)
 (refine Jx.load rfl 0 rfl rfl rfl ?_)
 (refine J.gY rfl rfl rfl ?_)
 (refine Jx.lenS rfl rfl ?_)
 (refine J.gY rfl rfl rfl ?_)
 (refine Jx.gtrI rfl rfl rfl (J.nil ?_))
 (refine N.joinedN rfl rfl rfl)
 (refine Jx.move rfl rfl ?_)
 (refine' J.guardOr rfl rfl rfl rfl rfl rfl rfl rfl (fun _ => ?_) ?_; rotate_left)
 (refine J.gY rfl rfl rfl ?_)
 (refine Jx.fieldAddr rfl rfl ?_)
 (refine J.gY rfl rfl rfl ?_)
 (refine Jx.load rfl 0 rfl rfl rfl ?_)
 (refine J.gY rfl rfl rfl ?_)
 (refine Jx.lenS rfl rfl ?_)
 (refine J.gY rfl rfl rfl ?_)
 (refine Jx.gtrI rfl rfl rfl (J.nil ?_))
 (refine N.joinedN rfl rfl rfl)
 (refine Jx.move rfl rfl ?_)
 (refine' J.guardOr rfl rfl rfl rfl rfl rfl rfl rfl (fun _ => ?_) ?_; rotate_left)
 (refine J.gY rfl rfl rfl ?_)
 (refine Jx.fieldAddr rfl rfl ?_)
 (refine J.gY rfl rfl rfl ?_)
 (refine Jx.load rfl 0 rfl rfl rfl ?_)
 (refine J.gY rfl rfl rfl ?_)
 (refine Jx.lenS rfl rfl ?_)
 (refine J.gY rfl rfl rfl ?_)
 (refine Jx.gtrI rfl rfl rfl (J.nil ?_))
 (refine N.joinedN rfl rfl rfl)
 (refine Jx.move rfl rfl ?_)
 (refine' J.guardOr rfl rfl rfl rfl rfl rfl rfl rfl (fun _ => ?_) ?_; rotate_left)
 (refine J.gY rfl rfl rfl ?_)
 (refine Jx.fieldAddr rfl rfl ?_)
 (refine J.gY rfl rfl rfl ?_)
 (refine Jx.load rfl 0 rfl rfl rfl ?_)
 (refine J.gY rfl rfl rfl ?_)
 (refine Jx.lenSl rfl rfl ?_)
 (refine J.gY rfl rfl rfl ?_)
 (refine Jx.gtrI rfl rfl rfl (J.nil ?_))
 (refine N.joinedN rfl rfl rfl)
 (refine J.nil (N.seq ?_))
 (refine id ?_; rotate_left))
      refine W.cond rfl (fun hq => ?_) (fun hq => ?_)
      · have hq : bigT (m.block.txs.getD i tx0) = true := hq
        have : m.block.txs.any bigT = true := List.any_eq_true.2 ⟨_, getD_mem h1, hq⟩
        rw [this]
        focus (
 (refine W.seq (W.region (Jx.assign rfl rfl (J.nil (N.seq (W.ret (N.noGotoRet (N.noGotoRet (N.noGotoRet (N.noGotoRet (N.noGotoRet ?_)))))))))))
 (refine id ?_; rotate_left))
        exact N.retD (rs := [.tmp 2]) (L1 := []) rfl (.tmp rfl .nil) (List.nil_sublist _) ⟨rfl, rfl⟩
      · have hq : bigT (m.block.txs.getD i tx0) = false := hq
        focus (
 (refine W.skip (N.seq (W.region (Jx.move rfl rfl (Jx.add64 rfl rfl (by omega) rfl ?_)))))
 (refine Jx.assign rfl rfl (J.nil ?_))
 (refine id ?_; rotate_left))
        refine N.drop (List.sublist_cons_self _ _) ?_
        exact N.round (i + 1) ⟨h1, by rw [take_snoc (d := tx0) h1, List.any_append, hn, List.any_cons, hq]; rfl⟩ (by omega) rfl ⟨ref0 rfl, ref0 rfl, ref0 rfl, trivial⟩
    · rw [List.take_of_length_le (by omega)] at hn
      rw [hn]
      focus (
 (refine W.seq (W.seq (W.region (Jx.move rfl rfl (Jx.fieldAddr rfl rfl ?_)))))
 (refine Jx.load rfl 1 rfl rfl rfl ?_)
 (refine Jx.lenSl rfl rfl ?_)
 (refine Jx.lssI rfl rfl rfl (J.nil (N.seq (W.cF rfl ?_))))
 (refine W.exit (N.seq (W.seq (W.seq (W.region (Jx.fieldAddr rfl rfl ?_))))))
 (refine Jx.load rfl 1 rfl rfl rfl ?_)
 (refine Jx.lenSl rfl rfl ?_)
 (refine Jx.gtrI rfl rfl rfl (Jx.move rfl rfl ?_))
 (refine' J.guardOr rfl rfl rfl rfl rfl rfl rfl rfl (fun _ => ?_) ?_; rotate_left)
 (refine J.gY rfl rfl rfl ?_)
 (refine Jx.fieldAddr rfl rfl ?_)
 (refine J.gY rfl rfl rfl ?_)
 (refine Jx.fieldAddr rfl rfl ?_)
 (refine J.gY rfl rfl rfl ?_)
 (refine Jx.load rfl 1 rfl rfl rfl ?_)
 (refine J.gY rfl rfl rfl ?_)
 (refine J.call (c2) rfl (evs_args rfl) rfl ?_; rintro _ _ ⟨rfl, rfl⟩; simp only [la1, la2, la3])
 (refine J.gY rfl rfl rfl ?_)
 (refine Jx.not rfl rfl (J.nil ?_))
 (refine N.joinedN rfl rfl rfl)
 (refine Jx.move rfl rfl ?_)
 (refine' J.guardOr rfl rfl rfl rfl rfl rfl rfl rfl (fun _ => ?_) ?_; rotate_left)
 (refine J.gY rfl rfl rfl ?_)
 (refine Jx.fieldAddr rfl rfl ?_)
 (refine J.gY rfl rfl rfl ?_)
 (refine Jx.fieldAddr rfl rfl ?_)
 (refine J.gY rfl rfl rfl ?_)
 (refine Jx.load rfl 1 rfl rfl rfl ?_)
 (refine J.gY rfl rfl rfl ?_)
 (refine Jx.lenS rfl rfl ?_)
 (refine J.gY rfl rfl rfl ?_)
 (refine Jx.gtrI rfl rfl rfl (J.nil ?_))
 (refine N.joinedN rfl rfl rfl)
 (refine J.nil (N.seq ?_))
 (refine id ?_; rotate_left))
      refine W.cond rfl (fun hq => ?_) (fun hq => ?_)
      · have hq : ((decide (20 < (m.block.txs.length : Int)) || !fewB m.block.just.signers 50 100) || decide (100 < (m.block.just.digest.length : Int))) = true := hq
        rw [hq]
        focus (
 (refine W.seq (W.region (Jx.assign rfl rfl (J.nil (N.seq (W.ret (N.noGotoRet ?_)))))))
 (refine id ?_; rotate_left))
        exact N.retD (rs := [.tmp 2]) (L1 := []) rfl (.tmp rfl .nil) (List.nil_sublist _) ⟨rfl, rfl⟩
      · have hq : ((decide (20 < (m.block.txs.length : Int)) || !fewB m.block.just.signers 50 100) || decide (100 < (m.block.just.digest.length : Int))) = false := hq
        rw [hq]
        focus (
 (refine W.skip (N.seq (W.seq (W.region (Jx.fieldAddr rfl rfl ?_)))))
 (refine Jx.load rfl 2 rfl rfl rfl ?_)
 (refine Jx.lenS rfl rfl ?_)
 (refine Jx.gtrI rfl rfl rfl (Jx.move rfl rfl ?_))
 (refine' J.guardOr rfl rfl rfl rfl rfl rfl rfl rfl (fun _ => ?_) ?_; rotate_left)
 (refine J.gY rfl rfl rfl ?_)
 (refine Jx.fieldAddr rfl rfl ?_)
 (refine J.gY rfl rfl rfl ?_)
 (refine Jx.load rfl 2 rfl rfl rfl ?_)
 (refine J.gY rfl rfl rfl ?_)
 (refine Jx.lenS rfl rfl ?_)
 (refine J.gY rfl rfl rfl ?_)
 (refine Jx.gtrI rfl rfl rfl (J.nil ?_))
 (refine N.joinedN rfl rfl rfl)
 (refine Jx.move rfl rfl ?_)
 (refine' J.guardOr rfl rfl rfl rfl rfl rfl rfl rfl (fun _ => ?_) ?_; rotate_left)
 (refine J.gY rfl rfl rfl ?_)
 (refine Jx.fieldAddr rfl rfl ?_)
 (refine J.gY rfl rfl rfl ?_)
 (refine Jx.fieldAddr rfl rfl ?_)
 (refine J.gY rfl rfl rfl ?_)
 (refine Jx.load rfl 2 rfl rfl rfl ?_)
 (refine J.gY rfl rfl rfl ?_)
 (refine Jx.lenS rfl rfl ?_)
 (refine J.gY rfl rfl rfl ?_)
 (refine Jx.gtrI rfl rfl rfl (J.nil ?_))
 (refine N.joinedN rfl rfl rfl)
 (refine Jx.move rfl rfl ?_)
 (refine' J.guardOr rfl rfl rfl rfl rfl rfl rfl rfl (fun _ => ?_) ?_; rotate_left)
 (refine J.gY rfl rfl rfl ?_)
 (refine Jx.fieldAddr rfl rfl ?_)
 (refine J.gY rfl rfl rfl ?_)
 (refine Jx.fieldAddr rfl rfl ?_)
 (refine J.gY rfl rfl rfl ?_)
 (refine Jx.load rfl 2 rfl rfl rfl ?_)
 (refine J.gY rfl rfl rfl ?_)
 (refine J.call (c3) rfl (evs_args rfl) rfl ?_; rintro _ _ ⟨rfl, rfl⟩; simp only [la1, la2, la3])
 (refine J.gY rfl rfl rfl ?_)
 (refine Jx.not rfl rfl (J.nil ?_))
 (refine N.joinedN rfl rfl rfl)
 (refine Jx.assign rfl rfl (J.nil (N.seq (W.ret ?_))))
 (refine id ?_; rotate_left))
        exact N.retD (rs := [.tmp 2]) (L1 := []) rfl (.tmp rfl .nil) (List.nil_sublist _) ⟨rfl, rfl⟩
def exM (d : List UInt8) : Ms := ⟨4, [97], 0, 0, d, bk0, ct0⟩
theorem exM_fine {d : List UInt8} (h : d.length = 32) : fineMs (exM d) = true := by
  simp [fineMs, exM, nameB, numsM, fitsM, h, bareCt, ct0]
theorem exM_enc (d : List UInt8) : encMs (exM d) = [4, 1, 1, 97, 0, 0] ++ d := by
  have h1 : textB [97] = [1, 1, 97] := by decide +kernel
  have h2 : numB 0 = [0] := by decide +kernel
  have h3 : encMs (exM d) = [4] ++ textB [97] ++ numB 0 ++ numB 0 ++ d := rfl
  rw [h3, h1, h2]; rfl
theorem ms0_no : fineMs ms0 = false := by decide
theorem vdec_enc {x : Ms} (h : fineMs x = true) : FnC Tryz.prog 20 [str (encMs x)] [] (fun v L => v = .tup [.agg (msC x), int 0] ∧ L = []) := by
  refine (vdecode_ok (encMs x) (by have := encMs_len (fineMs_spec h); omega)).mono ?_
  rintro v L ⟨⟨o, ho, rfl⟩, rfl⟩
  rw [apMs.some' ho h rfl]
  exact ⟨rfl, rfl⟩
set_option maxHeartbeats 4000000 in
theorem vworks_ok : FnC Tryz.prog 17 [] [] (fun s L => s = bool true ∧ L = []) := by
  have ca : FnC Tryz.prog 54 [str [100], int 32] [] (fun v L => v = str (List.replicate 32 100) ∧ L = []) := rep_ok 100 32 (by decide)
  have hd : (List.replicate 32 (100 : UInt8)).length = 32 := by simp
  generalize List.replicate 32 (100 : UInt8) = d at *
  have hf := exM_fine hd
  have c1 := vencode_ok (exM d) (by simp [exM, bk0, hd0])
  have hen := exM_enc d
  rw [encO, hf, if_pos rfl, hen] at c1
  have c2 := vdec_enc hf
  rw [hen] at c2
  have c3 := vcheck_ok ms0 (by decide)
  rw [ms0_no] at c3
  refine FnC.intro Tryz.func17 rfl Tryz.ntmps17 rfl fun Z w0 hG => ?_
  focus (
 (refine W.seq (W.region (Jx.assign rfl rfl (J.nil (N.seq (W.seq (W.region ?_)))))))
 (refine J.call (ca) rfl (evs_args rfl) rfl ?_; rintro _ _ ⟨rfl, rfl⟩; simp only [la1, la2, la3])
 (refine Jx.assign rfl rfl (J.nil (N.seq (W.seq (W.region (Jx.move rfl rfl (Jx.buildB rfl rfl rfl rfl rfl ?_)))))))
 (refine J.call c1 rfl (Args.sub rfl (Sub.agg (msJ_sub 4 [97] 0 0 d)) Args.nil) rfl ?_; rintro _ _ ⟨rfl, rfl⟩; simp only [la1, la2, la3])
 (refine Jx.move rfl rfl (Jx.extract rfl rfl rfl ?_))
 (refine Jx.extract rfl rfl rfl ?_)
 (refine Jx.assign rfl rfl (Jx.assign rfl rfl (J.nil (N.seq (W.seq (W.region (Jx.move rfl rfl ?_)))))))
 (refine J.call (c2) rfl (evs_args rfl) rfl ?_; rintro _ _ ⟨rfl, rfl⟩; simp only [la1, la2, la3])
 (refine Jx.move rfl rfl (Jx.extract rfl rfl rfl ?_))
 (refine Jx.extract rfl rfl rfl ?_)
 (refine J.alloc (by simp only [List.map_cons, List.map_nil]; rfl) rfl rfl ?_; intro b')
 (refine J.storeAll rfl rfl rfl 0 rfl rfl rfl ?_)
 (refine Jx.assign rfl rfl (J.nil (N.seq (W.seq (W.region (Jx.move rfl rfl (Jx.move rfl rfl (Jx.cat (m := [4, 1, 1, 97, 0, 0]) (n := d) rfl rfl (by simp only [List.length_cons, List.length_nil]; omega) rfl ?_))))))))
 (refine Jx.eqlS rfl rfl rfl (Jx.move rfl rfl (J.gY rfl rfl rfl ?_)))
 (refine Jx.move rfl rfl (J.gY rfl rfl rfl ?_))
 (refine Jx.eqlI rfl rfl rfl (Jx.pT rfl rfl rfl ?_))
 (refine Jx.move rfl rfl (J.gY rfl rfl rfl ?_))
 (refine Jx.fieldAddr rfl rfl ?_)
 (refine J.gY rfl rfl rfl ?_)
 (refine Jx.load rfl 0 rfl rfl rfl ?_)
 (refine J.gY rfl rfl rfl ?_)
 (refine Jx.eqlI rfl rfl rfl (Jx.pT rfl rfl rfl ?_))
 (refine Jx.move rfl rfl (J.gY rfl rfl rfl ?_))
 (refine Jx.fieldAddr rfl rfl ?_)
 (refine J.gY rfl rfl rfl ?_)
 (refine Jx.load rfl 0 rfl rfl rfl ?_)
 (refine J.gY rfl rfl rfl ?_)
 (refine Jx.move rfl rfl (J.gY rfl rfl rfl ?_))
 (refine Jx.eqlS rfl rfl rfl (Jx.pT rfl rfl rfl ?_))
 (refine Jx.move rfl rfl (J.gY rfl rfl rfl ?_))
 (refine Jx.move rfl rfl (J.gY rfl rfl rfl ?_))
 (refine Jx.eqlI rfl rfl rfl (Jx.pT rfl rfl rfl ?_))
 (refine Jx.move rfl rfl (J.gY rfl rfl rfl ?_))
 (refine Jx.buildB rfl rfl rfl rfl rfl ?_)
 (refine J.gY rfl rfl rfl ?_)
 (refine J.call c3 rfl (Args.sub rfl (Sub.agg msz_sub) Args.nil) rfl ?_; rintro _ _ ⟨rfl, rfl⟩; simp only [la1, la2, la3])
 (refine J.gY rfl rfl rfl ?_)
 (refine Jx.eqlI rfl rfl rfl (Jx.pT rfl rfl rfl ?_))
 (refine Jx.assign rfl rfl (J.nil (N.seq (W.ret ?_))))
 (refine id ?_; rotate_left))
  exact N.retD (rs := [.tmp 0]) (L1 := []) rfl (.tmp rfl .nil) (List.nil_sublist _) ⟨by first | rfl | (simp [oneOr, exM]; done), rfl⟩
end Go.Proofs.YtlfdhkahiaammaaGreatDoor
namespace Go.Sse
open Go Go.Sse
set_option linter.unusedVariables false
set_option linter.unusedSimpArgs false
section
variable {P : Program} {Γ : Ctx} {F : List (Nat × SV)} {L : List Own} {dst : Option Tmp} {ty : TypeId} {pos : String} {aft : Array Edge} {g : Option (Nat × Bool)}
end
end Go.Sse
namespace Go.Proofs.YtlfdhkahiaammaaGreatDoor
open Go Go.Sse
set_option linter.unusedVariables false
set_option linter.unusedSimpArgs false
set_option maxRecDepth 10000
end Go.Proofs.YtlfdhkahiaammaaGreatDoor
namespace Go.Proofs.YtlfdhkahiaammaaGreatDoor
open Go Go.Sse
set_option linter.unusedVariables false
set_option linter.unusedSimpArgs false
set_option maxRecDepth 10000
set_option maxHeartbeats 8000000 in
theorem rhdecode_ok (s : List UInt8) (hs : s.length ≤ 1099511627776) : FnC Tryz.prog 44 [str s] [] (fun v L => (∃ o, DecR fineHd encHd s o ∧ v = .tup [.agg (hdC (o.getD hd0)), int (codeO o 190)]) ∧ L = []) := by
  refine FnC.intro Tryz.func44 rfl Tryz.ntmps44 rfl fun Z w0 hG => ?_
  focus (
 (refine W.seq (W.region ?_))
 (refine J.alloc (by simp only [List.map_cons, List.map_nil]; rfl) rfl rfl ?_; intro b')
 (refine Jx.assign rfl rfl (J.nil (N.seq (W.seq (W.region (Jx.move rfl rfl (Jx.buildB rfl rfl rfl rfl rfl ?_)))))))
 (refine J.boxAg rfl rfl ?_; intro b')
 (refine Jx.assign rfl rfl (J.nil (N.seq (W.seq (W.region ?_)))))
 (refine J.alloc (by simp only [List.map_cons, List.map_nil]; rfl) rfl rfl ?_; intro b')
 (refine J.nil (N.seq (W.seq (W.region (Jx.move rfl rfl ?_)))))
 (refine J.call1 1 ((r_Num _ s 0 hs)) rfl (evs_args rfl) rfl (by rintro _ _ ⟨n1, a1, c1, rfl, rfl, ha1, e1⟩; exact ⟨_, rfl⟩) ?_; rintro _ _ ⟨n1, a1, c1, rfl, ⟨⟩, ha1, e1⟩; simp only [la4, la5])
 (refine Jx.fieldAddr rfl rfl ?_)
 (refine J.st 0 rfl rfl rfl rfl rfl rfl ?_)
 (refine J.nil (N.seq (W.seq (W.region (Jx.move rfl rfl ?_)))))
 (refine J.call1 1 ((r_Num _ a1 c1 (by omega))) rfl (evs_args rfl) rfl (by rintro _ _ ⟨n2, a2, c2, rfl, rfl, ha2, e2⟩; exact ⟨_, rfl⟩) ?_; rintro _ _ ⟨n2, a2, c2, rfl, ⟨⟩, ha2, e2⟩; simp only [la4, la5])
 (refine Jx.fieldAddr rfl rfl ?_)
 (refine J.st 0 rfl rfl rfl rfl rfl rfl ?_)
 (refine J.nil (N.seq (W.seq (W.region (Jx.move rfl rfl ?_)))))
 (refine J.call1 1 ((r_Num _ a2 c2 (by omega))) rfl (evs_args rfl) rfl (by rintro _ _ ⟨n3, a3, c3, rfl, rfl, ha3, e3⟩; exact ⟨_, rfl⟩) ?_; rintro _ _ ⟨n3, a3, c3, rfl, ⟨⟩, ha3, e3⟩; simp only [la4, la5])
 (refine Jx.fieldAddr rfl rfl ?_)
 (refine J.st 0 rfl rfl rfl rfl rfl rfl ?_)
 (refine J.nil (N.seq (W.seq (W.region (Jx.move rfl rfl ?_)))))
 (refine J.call1 1 ((r_Flag _ a3 c3 (by omega))) rfl (evs_args rfl) rfl (by rintro _ _ ⟨lf', a4, c4, rfl, rfl, ha4, e4⟩; exact ⟨_, rfl⟩) ?_; rintro _ _ ⟨lf', a4, c4, rfl, ⟨⟩, ha4, e4⟩; simp only [la4, la5])
 (refine Jx.fieldAddr rfl rfl ?_)
 (refine J.st 0 rfl rfl rfl rfl rfl rfl ?_)
 (refine J.nil (N.seq (W.seq (W.region (Jx.move rfl rfl ?_)))))
 (refine J.call1 1 ((r_Text _ a4 c4 32 (by omega))) rfl (evs_args rfl) rfl (by rintro _ _ ⟨t5, a5, c5, rfl, rfl, ha5, e5⟩; exact ⟨_, rfl⟩) ?_; rintro _ _ ⟨t5, a5, c5, rfl, ⟨⟩, ha5, e5⟩; simp only [la4, la5])
 (refine Jx.fieldAddr rfl rfl ?_)
 (refine J.st 0 rfl rfl rfl rfl rfl rfl ?_)
 (refine J.nil (N.seq (W.seq (W.region (Jx.move rfl rfl ?_)))))
 (refine J.call1 1 ((r_Text _ a5 c5 32 (by omega))) rfl (evs_args rfl) rfl (by rintro _ _ ⟨t6, a6, c6, rfl, rfl, ha6, e6⟩; exact ⟨_, rfl⟩) ?_; rintro _ _ ⟨t6, a6, c6, rfl, ⟨⟩, ha6, e6⟩; simp only [la4, la5])
 (refine Jx.fieldAddr rfl rfl ?_)
 (refine J.st 0 rfl rfl rfl rfl rfl rfl ?_)
 (refine J.nil (N.seq (W.seq (W.region (Jx.move rfl rfl ?_)))))
 (refine J.call1 1 ((r_Text _ a6 c6 32 (by omega))) rfl (evs_args rfl) rfl (by rintro _ _ ⟨t7, a7, c7, rfl, rfl, ha7, e7⟩; exact ⟨_, rfl⟩) ?_; rintro _ _ ⟨t7, a7, c7, rfl, ⟨⟩, ha7, e7⟩; simp only [la4, la5])
 (refine Jx.fieldAddr rfl rfl ?_)
 (refine J.st 0 rfl rfl rfl rfl rfl rfl ?_)
 (refine J.nil (N.seq (W.seq (W.region (Jx.move rfl rfl ?_)))))
 (refine J.call1 1 ((r_Bytes _ a7 c7 32 (by omega))) rfl (evs_args rfl) rfl (by rintro _ _ ⟨t8, a8, c8, rfl, rfl, ha8, e8⟩; exact ⟨_, rfl⟩) ?_; rintro _ _ ⟨t8, a8, c8, rfl, ⟨⟩, ha8, e8⟩; simp only [la4, la5])
 (refine Jx.fieldAddr rfl rfl ?_)
 (refine J.st 0 rfl rfl rfl rfl rfl rfl ?_)
 (refine J.nil (N.seq (W.seq (W.region (Jx.move rfl rfl ?_)))))
 (refine J.call1 1 ((r_Bytes _ a8 c8 32 (by omega))) rfl (evs_args rfl) rfl (by rintro _ _ ⟨t9, a9, c9, rfl, rfl, ha9, e9⟩; exact ⟨_, rfl⟩) ?_; rintro _ _ ⟨t9, a9, c9, rfl, ⟨⟩, ha9, e9⟩; simp only [la4, la5])
 (refine Jx.fieldAddr rfl rfl ?_)
 (refine J.st 0 rfl rfl rfl rfl rfl rfl ?_)
 (refine J.nil (N.seq (W.seq (W.region (Jx.move rfl rfl ?_)))))
 (refine J.call1 1 ((r_Bytes _ a9 c9 32 (by omega))) rfl (evs_args rfl) rfl (by rintro _ _ ⟨t10, a10, c10, rfl, rfl, ha10, e10⟩; exact ⟨_, rfl⟩) ?_; rintro _ _ ⟨t10, a10, c10, rfl, ⟨⟩, ha10, e10⟩; simp only [la4, la5])
 (refine Jx.fieldAddr rfl rfl ?_)
 (refine J.st 0 rfl rfl rfl rfl rfl rfl ?_)
 (refine J.nil (N.seq (W.seq (W.region (Jx.fieldAddr rfl rfl ?_)))))
 (refine Jx.load rfl 0 rfl rfl rfl ?_)
 (refine J.call ((rlinks_ok (n1 : Int))) rfl (evs_args rfl) rfl ?_; rintro _ _ ⟨rfl, rfl⟩; simp only [la1, la2, la3])
 (refine Jx.lenSl rfl rfl ?_)
 (refine Jx.assign rfl rfl (J.nil (N.seq (W.seq (W.seq (W.region (Jx.assign rfl rfl (J.nil (N.seq (W.block ?_))))))))))
 (refine id ?_; rotate_left))
  rename_i p2 b
  have hln := linksI_len (n1 : Int)
  refine W.rowNil 9 1 (elOf (fun a => [str a]) [] []) ?_
  refine W.perm (List.Perm.trans (List.Perm.cons _ (List.Perm.swap _ _ _)) (List.Perm.swap _ _ _)) ?_
  refine W.loop (α := Value × List (List UInt8) × List UInt8 × Int) (fun x => [(7, int (x.2.1.length : Int)), (6, int ((linksI (n1 : Int)).length : Int)), (5, ptr b'), (4, ptr b), (2, ptr p2), (0, str s)])
    (fun x => [rrO b x.2.2.1 x.2.2.2, .row x.1 9 1 x.2.1.length (elOf (fun a => [str a]) [] x.2.1), .obj b' tHd [int (n1 : Int), int (n2 : Int), int (n3 : Int), bool lf', str t5, str t6, str t7, str t8, str t9, str t10, .val x.1], .obj p2 tHd hdz])
    (fun x => x.2.2.1.length ≤ s.length ∧ x.2.1.length ≤ (linksI (n1 : Int)).length ∧ reps (linksI (n1 : Int)).length (rf a10 c10) = (x.2.1 ++ (reps ((linksI (n1 : Int)).length - x.2.1.length) (rf x.2.2.1 x.2.2.2)).1, (reps ((linksI (n1 : Int)).length - x.2.1.length) (rf x.2.2.1 x.2.2.2)).2)) (fun x => (linksI (n1 : Int)).length - x.2.1.length) (.slice none 0 0, [], a10, c10) ⟨by simp only; omega, by simp, by simp⟩ rfl ⟨ref0 rfl, ref0 rfl, ref0 rfl, ref0 rfl, ref0 rfl, ref0 rfl, trivial⟩ ?_
  rintro ⟨u, acc, a, c⟩ ⟨ha, hi, hr⟩
  simp only at ha hi hr ⊢
  have rdh : ∀ (sk : List (List UInt8)) (st : PSt), reps (linksI (n1 : Int)).length (rf a10 c10) = (sk, st) → ReadH s ⟨n1, n2, n3, lf', t5, t6, t7, t8, t9, t10, sk⟩ st := fun sk st h =>
    ⟨n1, n2, n3, _, _, _, _, _, _, _, _, _, _, e1, rfl, e2, rfl, e3, rfl, e4, e5, e6, e7, e8, e9, e10, h⟩
  by_cases h1 : acc.length < (linksI (n1 : Int)).length
  · have cb := r_Bytes b a c 32 (by omega)
    have hmx : ∀ t : List UInt8, acc.length + [t].length ≤ maxLen ∧ (acc.length + [t].length) * 16 ≤ 140737488355328 := fun t => by simp only [maxLen, List.length_cons, List.length_nil]; omega
    have hsucc : (linksI (n1 : Int)).length - acc.length = ((linksI (n1 : Int)).length - (acc.length + 1)) + 1 := by omega
    focus (
 (refine W.seq (W.seq (W.region (Jx.move rfl rfl (Jx.move rfl rfl (Jx.lssI rfl rfl rfl (J.nil (N.seq (W.cT rfl ?_)))))))))
 (refine W.skip (N.seq (W.seq (W.block ?_))))
 (refine W.draw follows ?_)
 (refine JD.begin 8 rfl ?_; refine JP.more [0, 1, 2] _ rfl (by decide +kernel) ?_)
 (refine Cx.fieldAddr rfl rfl ?_)
 (refine Cx.load rfl 2 rfl rfl rfl ?_)
 (refine Cx.move rfl rfl ?_)
 (refine SegC.nil ?_)
 (refine JP.call (idx := [0, 1, 2]) (Lc := [rrO b a c]) 3 [52] [2, 3] [0, 1] cb rfl (by decide +kernel) rfl ?_ (evs_args rfl) rfl ?_; rotate_left; rintro _ _ ⟨t, a', c', rfl, rfl, ha', hb'⟩; simp only [List.cons_append, List.nil_append]; refine JP.more [4] _ rfl (by decide +kernel) ?_; rotate_left)
 (refine Cx.fieldAddr rfl rfl ?_)
 (refine Cx.load rfl 2 rfl rfl rfl ?_)
 (refine Cx.move rfl rfl ?_)
 (refine SegC.nil ?_)
 (refine Ag.cons rfl ?_)
 (refine Ag.cons rfl ?_)
 (refine Ag.cons rfl ?_)
 (refine Ag.nil)
 (refine SegC.q (Qs.buildTexts [t] rfl rfl rfl (by decide) (by decide)) rfl ?_)
 (refine SegC.nil ?_)
 (refine JP.perm (List.Perm.swap _ _ _) ?_; refine JP.append (idx := [0, 1, 4]) (m := acc) (m2 := [t]) 5 [51, 54] [0, 1, 2, 3, 4, 5] [] (by decide +kernel) rfl ?_ rfl (SrcOK.sl rfl) rfl rfl (hmx t) rfl ?_; rotate_left; intro v' hv'; rotate_left)
 (refine Cx.fieldAddr rfl rfl ?_)
 (refine Cx.load rfl 2 rfl rfl rfl ?_)
 (refine SegC.q (Qs.buildTexts [t] rfl rfl rfl (by decide) (by decide)) rfl ?_)
 (refine SegC.nil ?_)
 (refine Ag.cons rfl ?_)
 (refine Ag.cons rfl ?_)
 (refine Ag.cons rfl ?_)
 (refine Ag.nil)
 (refine JP.tail (idx := []) 6 (by decide +kernel) (by decide +kernel) rfl rfl ?_ ?_)
 (refine SegC.nil ?_)
 (refine Ag.nil)
 (refine Jx.fieldAddr rfl rfl ?_)
 (refine J.store rfl rfl (One.val hv') 2 rfl rfl rfl rfl ?_)
 (refine J.nil (N.seq (W.region (Jx.move rfl rfl (Jx.add64 rfl rfl (by omega) rfl ?_)))))
 (refine Jx.assign rfl rfl (J.nil ?_))
 (refine id ?_; rotate_left))
    refine N.perm (List.Perm.swap _ _ _) ?_
    refine N.round (v', acc ++ [t], a', c') ⟨by simp only; omega, by simp only [List.length_append, List.length_cons, List.length_nil]; omega, ?_⟩ (by simp only [List.length_append, List.length_cons, List.length_nil]; omega) rfl ⟨⟨_, rfl, Sub.of_eq (by simp)⟩, ref0 rfl, ref0 rfl, ref0 rfl, ref0 rfl, ref0 rfl, trivial⟩
    rw [hsucc] at hr
    have := reps_step hr hb'
    simpa only [List.length_append, List.length_cons, List.length_nil, Nat.zero_add] using this
  · have hlen : acc.length = (linksI (n1 : Int)).length := by omega
    rw [hlen, Nat.sub_self] at hr
    simp only [reps, List.append_nil] at hr
    have hrd := rdh _ _ hr
    refine W.freezeCell 1 1 10 rfl rfl rfl (by simp only [maxLen]; omega) rfl ?_
    have ck := rhfine_ok ⟨n1, n2, n3, lf', t5, t6, t7, t8, t9, t10, acc⟩ (by simp only; omega)
    generalize hx : (⟨n1, n2, n3, lf', t5, t6, t7, t8, t9, t10, acc⟩ : Hd) = x at *
    rw [show [int (n1 : Int), int (n2 : Int), int (n3 : Int), bool lf', str t5, str t6, str t7, str t8, str t9, str t10, SV.val u].set 10 (SV.sl 1 acc.length (elOf (fun a => [str a]) [] acc)) = hdC x by rw [← hx]; rfl]
    cases hf : fineHd x with
    | false =>
      rw [hf] at ck
      focus (
 (refine W.seq (W.seq (W.region (Jx.move rfl rfl (Jx.move rfl rfl (Jx.lssI rfl rfl rfl (J.nil (N.seq (W.cF rfl ?_)))))))))
 (refine W.exit (N.seq (W.seq (W.seq (W.region (Jx.move rfl rfl (Jx.nilCheck rfl rfl ?_)))))))
 (refine Jx.fieldAddr rfl rfl ?_)
 (refine Jx.load rfl 0 rfl rfl rfl ?_)
 (refine Jx.neqI rfl rfl rfl (Jx.move rfl rfl ?_))
 (refine' J.guardOr rfl rfl rfl rfl rfl rfl rfl rfl (fun _ => ?_) ?_; rotate_left)
 (refine J.gY rfl rfl rfl ?_)
 (refine Jx.loadAll rfl 1 rfl rfl rfl ?_)
 (refine J.gY rfl rfl rfl ?_)
 (refine J.cP ck (evs_args rfl) rfl ?_; try simp only)
 (refine J.gY rfl rfl rfl ?_)
 (refine Jx.not rfl rfl (J.nil ?_))
 (refine N.joinedN rfl rfl rfl)
 (refine Jx.move rfl rfl (J.gN rfl rfl rfl rfl ?_))
 (refine J.gN rfl rfl rfl rfl ?_)
 (refine J.gN rfl rfl rfl rfl ?_)
 (refine J.gN rfl rfl rfl rfl ?_)
 (refine Jx.pT rfl rfl rfl ?_)
 (refine J.nil (N.seq (W.cT rfl ?_)))
 (refine W.seq (W.region (Jx.buildB rfl rfl rfl rfl rfl ?_)))
 (refine J.storeAll rfl rfl rfl 2 rfl rfl rfl ?_)
 (refine Jx.assign rfl rfl (J.nil (N.seq (W.ret (N.noGotoRet ?_)))))
 (refine id ?_; rotate_left))
      refine N.objSub 2 (hdC hd0) rfl hdz_sub rfl ?_
      refine N.retD (rs := [.cell 2 tHd, .tmp 3]) (L1 := []) rfl (.cell rfl 2 rfl agHd (.tmp rfl .nil)) (List.nil_sublist _) ⟨⟨none, fun y hy hz => ?_, rfl⟩, rfl⟩
      obtain ⟨rfl, h2⟩ := hrd.whole ((fineHd_iff y).1 hy) hz
      rw [hf] at hy; cases hy
    | true =>
      rw [hf] at ck
      have cw := rhwritten_ok x hf
      focus (
 (refine W.seq (W.seq (W.region (Jx.move rfl rfl (Jx.move rfl rfl (Jx.lssI rfl rfl rfl (J.nil (N.seq (W.cF rfl ?_)))))))))
 (refine W.exit (N.seq (W.seq (W.seq (W.region (Jx.move rfl rfl (Jx.nilCheck rfl rfl ?_)))))))
 (refine Jx.fieldAddr rfl rfl ?_)
 (refine Jx.load rfl 0 rfl rfl rfl ?_)
 (refine Jx.neqI rfl rfl rfl (Jx.move rfl rfl ?_))
 (refine' J.guardOr rfl rfl rfl rfl rfl rfl rfl rfl (fun _ => ?_) ?_; rotate_left)
 (refine J.gY rfl rfl rfl ?_)
 (refine Jx.loadAll rfl 1 rfl rfl rfl ?_)
 (refine J.gY rfl rfl rfl ?_)
 (refine J.cP ck (evs_args rfl) rfl ?_; try simp only)
 (refine J.gY rfl rfl rfl ?_)
 (refine Jx.not rfl rfl (J.nil ?_))
 (refine N.joinedN rfl rfl rfl)
 (refine Jx.move rfl rfl ?_)
 (refine' J.guardOr rfl rfl rfl rfl rfl rfl rfl rfl (fun _ => ?_) ?_; rotate_left)
 (refine J.gY rfl rfl rfl ?_)
 (refine Jx.loadAll rfl 1 rfl rfl rfl ?_)
 (refine J.gY rfl rfl rfl ?_)
 (refine J.cP cw (evs_args rfl) rfl ?_; try simp only)
 (refine J.gY rfl rfl rfl ?_)
 (refine Jx.move rfl rfl (J.gY rfl rfl rfl ?_))
 (refine Jx.neqS rfl rfl rfl (J.nil ?_))
 (refine N.joinedN rfl rfl rfl)
 (refine J.nil (N.seq ?_))
 (refine id ?_; rotate_left))
      refine W.cond rfl (fun hb => ?_) (fun hb => ?_)
      · focus (
 (refine W.seq (W.region (Jx.buildB rfl rfl rfl rfl rfl ?_)))
 (refine J.storeAll rfl rfl rfl 2 rfl rfl rfl ?_)
 (refine Jx.assign rfl rfl (J.nil (N.seq (W.ret (N.noGotoRet ?_)))))
 (refine id ?_; rotate_left))
        refine N.objSub 2 (hdC hd0) rfl hdz_sub rfl ?_
        refine N.retD (rs := [.cell 2 tHd, .tmp 3]) (L1 := []) rfl (.cell rfl 2 rfl agHd (.tmp rfl .nil)) (List.nil_sublist _) ⟨⟨none, fun y hy hz => ?_, rfl⟩, rfl⟩
        obtain ⟨rfl, h2⟩ := hrd.whole ((fineHd_iff y).1 hy) hz
        have hc0 : c = 0 := Classical.byContradiction fun h => by rw [rf_no h] at h2; cases h2
        rw [hc0, hz] at hb
        simp at hb
      · focus (
 (refine W.skip (N.seq (W.seq (W.region (Jx.loadAll rfl 1 rfl rfl rfl ?_)))))
 (refine J.storeAll rfl rfl rfl 2 rfl rfl rfl ?_)
 (refine Jx.assign rfl rfl (J.nil (N.seq (W.ret ?_))))
 (refine id ?_; rotate_left))
        refine N.retD (rs := [.cell 2 tHd, .tmp 3]) (L1 := []) rfl (.cell rfl 2 rfl agHd (.tmp rfl .nil)) (List.nil_sublist _) ⟨⟨some x, ⟨hf, ?_⟩, rfl⟩, rfl⟩
        simp only [Bool.or_eq_false_iff, decide_eq_false_iff_not, Classical.not_not] at hb
        exact hb.2
end Go.Proofs.YtlfdhkahiaammaaGreatDoor
namespace Go.Proofs.YtlfdhkahiaammaaGreatDoor
open Go Go.Sse
set_option linter.unusedVariables false
set_option linter.unusedSimpArgs false
set_option maxRecDepth 10000
theorem bkJ_sub (h : Hd) (l : List Tx) : SubL ((bkC ⟨h, l, ct0⟩).set 13 (.val (.slice none 0 0))) (bkC ⟨h, l, ct0⟩) := .cons (.refl _) (.cons (.refl _) (.cons (.refl _) (.cons (.refl _) (.cons (.refl _) (.cons (.refl _) (.cons (.refl _) (.cons (.refl _) (.cons (.refl _) (.cons (.refl _) (.cons (.refl _) (.cons (.refl _) (.cons (.refl _) (.cons (Sub.nil 1 _) .nil)))))))))))))
set_option maxHeartbeats 8000000 in
theorem rbdecode_ok (s : List UInt8) (hs : s.length ≤ 1099511627776) : FnC Tryz.prog 10 [str s] [] (fun v L => (∃ o, DecR fineBk encBk s o ∧ v = .tup [.agg (bkC (o.getD bk0)), int (codeO o 210)]) ∧ L = []) := by
  have ct := fun b => r_Text b s 0 100000 hs
  refine FnC.intro Tryz.func10 rfl Tryz.ntmps10 rfl fun Z w0 hG => ?_
  focus (
 (refine W.seq (W.region ?_))
 (refine J.alloc (by simp only [List.map_cons, List.map_nil]; rfl) rfl rfl ?_; intro b')
 (refine Jx.assign rfl rfl (J.nil (N.seq (W.seq (W.region (Jx.move rfl rfl (Jx.buildB rfl rfl rfl rfl rfl ?_)))))))
 (refine J.boxAg rfl rfl ?_; intro b')
 (refine Jx.assign rfl rfl (J.nil (N.seq (W.seq (W.region (Jx.move rfl rfl ?_))))))
 (refine J.call1 0 ((ct _)) rfl (evs_args rfl) rfl (by rintro _ _ ⟨t1, s1, c1, rfl, rfl, hs1, e1⟩; exact ⟨_, rfl⟩) ?_; rintro _ _ ⟨t1, s1, c1, rfl, ⟨⟩, hs1, e1⟩; simp only [la4, la5])
 (refine J.call (Lc := []) (rhdecode_ok t1 (by have := rf_len e1; omega)) rfl (evs_args rfl) rfl ?_; rintro _ _ ⟨⟨o1, d1, rfl⟩, rfl⟩; simp only [la1, la2, la3])
 (refine Jx.move rfl rfl (Jx.extract rfl rfl rfl ?_))
 (refine Jx.extract rfl rfl rfl ?_)
 (refine J.alloc (by simp only [List.map_cons, List.map_nil]; rfl) rfl rfl ?_; intro b')
 (refine J.storeAll rfl rfl rfl 0 rfl rfl rfl ?_)
 (refine Jx.assign rfl rfl (J.nil (N.seq (W.seq (W.region (Jx.move rfl rfl ?_))))))
 (refine J.call1 1 ((r_Text _ s1 c1 100000 (by omega))) rfl (evs_args rfl) rfl (by rintro _ _ ⟨t2, s2, c2, rfl, rfl, hs2, e2⟩; exact ⟨_, rfl⟩) ?_; rintro _ _ ⟨t2, s2, c2, rfl, ⟨⟩, hs2, e2⟩; simp only [la4, la5])
 (refine J.call (Lc := []) (rtdecAll_ok t2 (by have := rf_len e2; omega)) rfl (evs_args rfl) rfl ?_; rintro _ _ ⟨⟨o2, d2, rfl⟩, rfl⟩; simp only [la1, la2, la3])
 (refine Jx.move rfl rfl (Jx.extract rfl rfl rfl ?_))
 (refine Jx.extract rfl rfl rfl ?_)
 (refine Jx.assign rfl rfl (Jx.assign rfl rfl (J.nil (N.seq (W.seq (W.region (Jx.loadAll rfl 0 rfl rfl rfl ?_)))))))
 (refine Jx.move rfl rfl (Jx.buildB rfl rfl rfl rfl rfl ?_))
 (refine J.alloc (by simp only [List.map_cons, List.map_nil]; rfl) rfl rfl ?_; intro b')
 (refine J.storeAll rfl rfl rfl 0 rfl rfl rfl ?_)
 (refine J.nil (N.seq (W.seq (W.region (Jx.assign rfl rfl (J.nil (N.seq (W.seq (W.seq (W.region (Jx.move rfl rfl ?_)))))))))))
 (refine J.call1 2 ((r_Flag _ s2 c2 (by omega))) rfl (evs_args rfl) rfl (by rintro _ _ ⟨f, s3, c3, rfl, rfl, hs3, e3⟩; exact ⟨_, rfl⟩) ?_; rintro _ _ ⟨f, s3, c3, rfl, ⟨⟩, hs3, e3⟩; simp only [la4, la5])
 (refine J.nil (N.seq ?_))
 (refine id ?_; rotate_left))
  rename_i p2 p4 p5
  refine W.objSub 0 (bkC ⟨o1.getD hd0, o2.getD [], ct0⟩) rfl (bkJ_sub _ _) rfl ?_
  refine W.joinE (α := Ct × Bool × List UInt8 × Int) (fun y => [(10, int (if y.2.1 then 0 else 3)), (9, ptr b'), (8, int (codeO o2 150)), (6, int (codeO o1 190)), (4, ptr p4), (2, ptr p2), (0, str s)]) (fun y => [.obj b' tBk (bkC ⟨o1.getD hd0, o2.getD [], y.1⟩), .obj p5 tHd (hdC (o1.getD hd0)), rrO p4 y.2.2.1 y.2.2.2, .obj p2 tBk bkz]) (fun y => JustR 100000 (rf s2 c2) y.1 y.2.1 (rf y.2.2.1 y.2.2.2)) ?_ ?_
  · cases f with
    | false =>
      focus (
 (refine W.cF rfl ?_)
 (refine W.skip ?_)
 (refine id ?_; rotate_left))
      exact N.joinE (ct0, true, s3, c3) ⟨_, _, e3, fun _ => ⟨rfl, rfl, rfl⟩, fun h => by cases h⟩ rfl ⟨ref0 rfl, ref0 rfl, ref0 rfl, ref0 rfl, ref0 rfl, ref0 rfl, ref0 rfl, trivial⟩
    | true =>
      focus (
 (refine W.cT rfl ?_)
 (refine W.region (Jx.move rfl rfl ?_))
 (refine J.call1 2 ((r_Text _ s3 c3 100000 (by omega))) rfl (evs_args rfl) rfl (by rintro _ _ ⟨t3, s4, c4, rfl, rfl, hs4, e4⟩; exact ⟨_, rfl⟩) ?_; rintro _ _ ⟨t3, s4, c4, rfl, ⟨⟩, hs4, e4⟩; simp only [la4, la5])
 (refine J.call (Lc := []) (rcdecode_ok t3 (by have := rf_len e4; omega)) rfl (evs_args rfl) rfl ?_; rintro _ _ ⟨⟨o3, d3, rfl⟩, rfl⟩; simp only [la1, la2, la3])
 (refine Jx.move rfl rfl (Jx.extract rfl rfl rfl ?_))
 (refine Jx.extract rfl rfl rfl ?_)
 (refine Jx.fieldAddr rfl rfl ?_)
 (refine J.storeAg rfl rfl rfl 0 rfl rfl rfl rfl ?_)
 (refine Jx.assign rfl rfl (J.nil ?_))
 (refine id ?_; rotate_left))
      exact N.joinE (o3.getD ct0, o3.isSome, s4, c4) ⟨_, _, e3, (fun h => by cases h), fun _ => ⟨t3, o3, e4, d3, rfl, rfl⟩⟩ rfl ⟨ref0 rfl, ref0 rfl, ref0 rfl, ref0 rfl, ref0 rfl, ref0 rfl, ref0 rfl, trivial⟩
  · rintro ⟨c5, k3, s5, cc5⟩ hj
    simp only at hj ⊢
    have hrd : ReadB 100000 s ⟨o1.getD hd0, o2.getD [], c5⟩ o1.isSome o2.isSome k3 (rf s5 cc5) := ⟨t1, _, t2, _, o1, o2, e1, d1, rfl, rfl, e2, d2, rfl, rfl, hj⟩
    have ce := r_End p4 s5 cc5
    have hsk : (o1.getD hd0).skips.length ≤ 1048576 := dec_skips d1
    have cf := rbfine_ok ⟨o1.getD hd0, o2.getD [], c5⟩ hsk
    have k1 : decide (codeO o1 190 ≠ 0) = !o1.isSome := by cases o1 <;> rfl
    have k2 : decide (codeO o2 150 ≠ 0) = !o2.isSome := by cases o2 <;> rfl
    have k4 : decide ((if k3 = true then (0 : Int) else 3) ≠ 0) = !k3 := by cases k3 <;> rfl
    cases hf : fineBk ⟨o1.getD hd0, o2.getD [], c5⟩ with
    | false =>
      rw [hf] at cf
      focus (
 (refine N.seq (W.seq (W.seq (W.region (Jx.move rfl rfl ?_)))))
 (refine J.call1 2 (ce) rfl (evs_args rfl) rfl (by rintro _ _ ⟨e, s6, c6, rfl, rfl, he⟩; exact ⟨_, rfl⟩) ?_; rintro _ _ ⟨e, s6, c6, rfl, ⟨⟩, he⟩; simp only [la4, la5])
 (refine Jx.neqI rfl rfl rfl (Jx.move rfl rfl ?_))
 (refine' J.guardOr rfl rfl rfl rfl rfl rfl rfl rfl (fun _ => ?_) ?_; rotate_left)
 (refine J.gY rfl rfl rfl ?_)
 (refine Jx.move rfl rfl (J.gY rfl rfl rfl ?_))
 (refine Jx.neqI rfl rfl rfl (J.nil ?_))
 (refine N.joinedN rfl rfl rfl)
 (refine Jx.move rfl rfl ?_)
 (refine' J.guardOr rfl rfl rfl rfl rfl rfl rfl rfl (fun _ => ?_) ?_; rotate_left)
 (refine J.gY rfl rfl rfl ?_)
 (refine Jx.move rfl rfl (J.gY rfl rfl rfl ?_))
 (refine Jx.neqI rfl rfl rfl (J.nil ?_))
 (refine N.joinedN rfl rfl rfl)
 (refine Jx.move rfl rfl ?_)
 (refine' J.guardOr rfl rfl rfl rfl rfl rfl rfl rfl (fun _ => ?_) ?_; rotate_left)
 (refine J.gY rfl rfl rfl ?_)
 (refine Jx.move rfl rfl (J.gY rfl rfl rfl ?_))
 (refine Jx.neqI rfl rfl rfl (J.nil ?_))
 (refine N.joinedN rfl rfl rfl)
 (refine Jx.move rfl rfl ?_)
 (refine' J.guardOr rfl rfl rfl rfl rfl rfl rfl rfl (fun _ => ?_) ?_; rotate_left)
 (refine J.gY rfl rfl rfl ?_)
 (refine Jx.loadAll rfl 0 rfl rfl rfl ?_)
 (refine J.gY rfl rfl rfl ?_)
 (refine J.cP cf (evs_args rfl) rfl ?_; try simp only)
 (refine J.gY rfl rfl rfl ?_)
 (refine Jx.not rfl rfl (J.nil ?_))
 (refine N.joinedN rfl rfl rfl)
 (refine Jx.move rfl rfl (J.gN rfl rfl rfl rfl ?_))
 (refine J.gN rfl rfl rfl rfl ?_)
 (refine J.gN rfl rfl rfl rfl ?_)
 (refine J.gN rfl rfl rfl rfl ?_)
 (refine Jx.pT rfl rfl rfl ?_)
 (refine J.nil (N.seq (W.cT rfl ?_)))
 (refine W.seq (W.region (Jx.buildB rfl rfl rfl rfl rfl ?_)))
 (refine J.storeAll rfl rfl rfl 3 rfl rfl rfl ?_)
 (refine Jx.assign rfl rfl (J.nil (N.seq (W.ret (N.noGotoRet ?_)))))
 (refine id ?_; rotate_left))
      refine N.objSub 3 (bkC bk0) rfl bkz_sub rfl ?_
      refine N.retD (rs := [.cell 2 tBk, .tmp 3]) (L1 := []) rfl (.cell rfl 3 rfl agBk (.tmp rfl .nil)) (List.nil_sublist _) ⟨⟨none, fun y hy hz => ?_, rfl⟩, rfl⟩
      obtain ⟨rfl, _⟩ := hrd.whole (by decide) ((fineBk_iff y).1 hy) (r := []) (by rw [List.append_nil, hz])
      rw [hf] at hy; cases hy
    | true =>
      rw [hf] at cf
      have cw := rbwritten_ok _ hf
      focus (
 (refine N.seq (W.seq (W.seq (W.region (Jx.move rfl rfl ?_)))))
 (refine J.call1 2 (ce) rfl (evs_args rfl) rfl (by rintro _ _ ⟨e, s6, c6, rfl, rfl, he⟩; exact ⟨_, rfl⟩) ?_; rintro _ _ ⟨e, s6, c6, rfl, ⟨⟩, he⟩; simp only [la4, la5])
 (refine Jx.neqI rfl rfl rfl (Jx.move rfl rfl ?_))
 (refine' J.guardOr rfl rfl rfl rfl rfl rfl rfl rfl (fun _ => ?_) ?_; rotate_left)
 (refine J.gY rfl rfl rfl ?_)
 (refine Jx.move rfl rfl (J.gY rfl rfl rfl ?_))
 (refine Jx.neqI rfl rfl rfl (J.nil ?_))
 (refine N.joinedN rfl rfl rfl)
 (refine Jx.move rfl rfl ?_)
 (refine' J.guardOr rfl rfl rfl rfl rfl rfl rfl rfl (fun _ => ?_) ?_; rotate_left)
 (refine J.gY rfl rfl rfl ?_)
 (refine Jx.move rfl rfl (J.gY rfl rfl rfl ?_))
 (refine Jx.neqI rfl rfl rfl (J.nil ?_))
 (refine N.joinedN rfl rfl rfl)
 (refine Jx.move rfl rfl ?_)
 (refine' J.guardOr rfl rfl rfl rfl rfl rfl rfl rfl (fun _ => ?_) ?_; rotate_left)
 (refine J.gY rfl rfl rfl ?_)
 (refine Jx.move rfl rfl (J.gY rfl rfl rfl ?_))
 (refine Jx.neqI rfl rfl rfl (J.nil ?_))
 (refine N.joinedN rfl rfl rfl)
 (refine Jx.move rfl rfl ?_)
 (refine' J.guardOr rfl rfl rfl rfl rfl rfl rfl rfl (fun _ => ?_) ?_; rotate_left)
 (refine J.gY rfl rfl rfl ?_)
 (refine Jx.loadAll rfl 0 rfl rfl rfl ?_)
 (refine J.gY rfl rfl rfl ?_)
 (refine J.cP cf (evs_args rfl) rfl ?_; try simp only)
 (refine J.gY rfl rfl rfl ?_)
 (refine Jx.not rfl rfl (J.nil ?_))
 (refine N.joinedN rfl rfl rfl)
 (refine Jx.move rfl rfl ?_)
 (refine' J.guardOr rfl rfl rfl rfl rfl rfl rfl rfl (fun _ => ?_) ?_; rotate_left)
 (refine J.gY rfl rfl rfl ?_)
 (refine Jx.loadAll rfl 0 rfl rfl rfl ?_)
 (refine J.gY rfl rfl rfl ?_)
 (refine J.cP cw (evs_args rfl) rfl ?_; try simp only)
 (refine J.gY rfl rfl rfl ?_)
 (refine Jx.move rfl rfl (J.gY rfl rfl rfl ?_))
 (refine Jx.neqS rfl rfl rfl (J.nil ?_))
 (refine N.joinedN rfl rfl rfl)
 (refine J.nil (N.seq ?_))
 (refine id ?_; rotate_left))
      refine W.cond rfl (fun hb => ?_) (fun hb => ?_)
      · focus (
 (refine W.seq (W.region (Jx.buildB rfl rfl rfl rfl rfl ?_)))
 (refine J.storeAll rfl rfl rfl 3 rfl rfl rfl ?_)
 (refine Jx.assign rfl rfl (J.nil (N.seq (W.ret (N.noGotoRet ?_)))))
 (refine id ?_; rotate_left))
        refine N.objSub 3 (bkC bk0) rfl bkz_sub rfl ?_
        refine N.retD (rs := [.cell 2 tBk, .tmp 3]) (L1 := []) rfl (.cell rfl 3 rfl agBk (.tmp rfl .nil)) (List.nil_sublist _) ⟨⟨none, fun y hy hz => ?_, rfl⟩, rfl⟩
        obtain ⟨rfl, h1, h2, h3, h4⟩ := hrd.whole (by decide) ((fineBk_iff y).1 hy) (r := []) (by rw [List.append_nil, hz])
        rw [k1, k2, k4, h1, h2, h3, hz, he.2 h4] at hb
        simp at hb
      · focus (
 (refine W.skip (N.seq (W.seq (W.region (Jx.loadAll rfl 0 rfl rfl rfl ?_)))))
 (refine J.storeAll rfl rfl rfl 3 rfl rfl rfl ?_)
 (refine Jx.assign rfl rfl (J.nil (N.seq (W.ret ?_))))
 (refine id ?_; rotate_left))
        refine N.retD (rs := [.cell 2 tBk, .tmp 3]) (L1 := []) rfl (.cell rfl 3 rfl agBk (.tmp rfl .nil)) (List.nil_sublist _) ⟨⟨some ⟨o1.getD hd0, o2.getD [], c5⟩, ⟨hf, ?_⟩, rfl⟩, rfl⟩
        simp only [Bool.or_eq_false_iff, decide_eq_false_iff_not, Classical.not_not] at hb
        exact hb.2
end Go.Proofs.YtlfdhkahiaammaaGreatDoor
namespace Go.Proofs.YtlfdhkahiaammaaGreatDoor
open Go Go.Sse
set_option linter.unusedVariables false
set_option linter.unusedSimpArgs false
set_option maxRecDepth 10000
theorem fineT_members {x : Tx} (h : fineTx x = true) : x.members.length ≤ 7 := by
  have f := (fineTx_iff x).1 h
  have hk := f.kind
  by_cases e1 : x.kind = 1
  · rw [(f.k1 e1).2.2.2]; simp
  · by_cases e2 : x.kind = 2
    · rw [(f.k2 e2).2.2.2]; simp
    · by_cases e3 : x.kind = 3
      · rw [(f.k3 e3).2.2.2.2]; simp
      · exact (fineSet_spec (f.k4 (by omega)).1).2.1
theorem fineBk_small {y : Bk} (h : fineBk y = true) : y.head.skips.length ≤ 20 ∧ y.txs.length ≤ 8 ∧ (∀ t ∈ y.txs, t.members.length ≤ 7) ∧ y.just.signers.length ≤ 7 := by
  have F := (fineBk_iff y).1 h
  obtain ⟨g1, g2⟩ := fineAll_spec F.txs
  refine ⟨((fineHd_iff _).1 F.head).skips20, g1, fun t ht => fineT_members (g2 t ht), ?_⟩
  rcases F.just with hj | hj
  · rw [bare_eq hj]; decide
  · exact (fineCt_spec hj.1).2.1
end Go.Proofs.YtlfdhkahiaammaaGreatDoor
namespace Go.Proofs.YtlfdhkahiaammaaGreatDoor
open Go Go.Sse
set_option linter.unusedVariables false
set_option linter.unusedSimpArgs false
set_option maxRecDepth 10000
def ShortB (b : Bk) : Prop := b.head.skips.length ≤ 1048576 ∧ b.head.parent.length ≤ 1048576 ∧ b.head.state.length ≤ 1048576 ∧ b.head.receipts.length ≤ 1048576 ∧ b.head.txs.length ≤ 1048576 ∧ b.head.members.length ≤ 1048576 ∧ b.head.next.length ≤ 1048576
theorem bk0_short : ShortB bk0 := by simp [ShortB, bk0, hd0]
theorem fineBk_short {y : Bk} (h : fineBk y = true) : ShortB y := by
  have F := (fineHd_iff _).1 ((fineBk_iff y).1 h).head
  have h1 := F.skips20; have h2 := F.parent32; have h3 := F.state32; have h4 := F.receipts32; have h5 := F.txs; have h6 := F.members; have h7 := F.next
  exact ⟨by omega, by omega, by omega, by omega, by omega, by omega, by omega⟩
theorem decB_short {s : List UInt8} {o : Option Bk} (h : DecR fineBk encBk s o) : ShortB (o.getD bk0) := by
  cases o with
  | none => exact bk0_short
  | some y => exact fineBk_short h.1
set_option maxHeartbeats 4000000 in
theorem rvempty_ok (b : Bk) (hb : ShortB b) : FnC Tryz.prog 100 [.agg (bkC b)] [] (fun v L => v = bool (decide (b = bk0)) ∧ L = []) := by
  have c := rbare_ok b.just
  obtain ⟨_, p1, p2, p3, p4, p5, p6⟩ := hb
  refine FnC.intro Tryz.func100 rfl Tryz.ntmps100 rfl fun Z w0 hG => ?_
  focus (
 (refine W.seq (W.region ?_))
 (refine J.boxAg rfl rfl ?_; intro b')
 (refine Jx.assign rfl rfl (J.nil (N.seq (W.seq (W.region (Jx.fieldAddr rfl rfl ?_))))))
 (refine Jx.loadAg rfl 0 rfl rfl rfl rfl ?_)
 (refine J.alloc (by simp only [List.map_cons, List.map_nil]; rfl) rfl rfl ?_; intro b')
 (refine J.storeAll rfl rfl rfl 0 rfl rfl rfl ?_)
 (refine J.nil (N.seq (W.seq (W.seq (W.region (Jx.fieldAddr rfl rfl ?_))))))
 (refine Jx.load rfl 0 rfl rfl rfl ?_)
 (refine Jx.neqI rfl rfl rfl (Jx.move rfl rfl ?_))
 (refine' J.guardOr rfl rfl rfl rfl rfl rfl rfl rfl (fun _ => ?_) ?_; rotate_left)
 (refine J.gY rfl rfl rfl ?_)
 (refine Jx.fieldAddr rfl rfl ?_)
 (refine J.gY rfl rfl rfl ?_)
 (refine Jx.load rfl 0 rfl rfl rfl ?_)
 (refine J.gY rfl rfl rfl ?_)
 (refine Jx.neqI rfl rfl rfl (J.nil ?_))
 (refine N.joinedN rfl rfl rfl)
 (refine Jx.move rfl rfl ?_)
 (refine' J.guardOr rfl rfl rfl rfl rfl rfl rfl rfl (fun _ => ?_) ?_; rotate_left)
 (refine J.gY rfl rfl rfl ?_)
 (refine Jx.fieldAddr rfl rfl ?_)
 (refine J.gY rfl rfl rfl ?_)
 (refine Jx.load rfl 0 rfl rfl rfl ?_)
 (refine J.gY rfl rfl rfl ?_)
 (refine Jx.neqI rfl rfl rfl (J.nil ?_))
 (refine N.joinedN rfl rfl rfl)
 (refine Jx.move rfl rfl ?_)
 (refine' J.guardOr rfl rfl rfl rfl rfl rfl rfl rfl (fun _ => ?_) ?_; rotate_left)
 (refine J.gY rfl rfl rfl ?_)
 (refine Jx.fieldAddr rfl rfl ?_)
 (refine J.gY rfl rfl rfl ?_)
 (refine Jx.load rfl 0 rfl rfl rfl ?_)
 (refine J.nil ?_)
 (refine N.joinedN rfl rfl rfl)
 (refine Jx.move rfl rfl ?_)
 (refine' J.guardOr rfl rfl rfl rfl rfl rfl rfl rfl (fun _ => ?_) ?_; rotate_left)
 (refine J.gY rfl rfl rfl ?_)
 (refine Jx.fieldAddr rfl rfl ?_)
 (refine J.gY rfl rfl rfl ?_)
 (refine Jx.load rfl 0 rfl rfl rfl ?_)
 (refine J.gY rfl rfl rfl ?_)
 (refine Jx.lenSl rfl rfl ?_)
 (refine J.gY rfl rfl rfl ?_)
 (refine Jx.gtrI rfl rfl rfl (J.nil ?_))
 (refine N.joinedN rfl rfl rfl)
 (refine Jx.move rfl rfl ?_)
 (refine' J.guardOr rfl rfl rfl rfl rfl rfl rfl rfl (fun _ => ?_) ?_; rotate_left)
 (refine J.gY rfl rfl rfl ?_)
 (refine Jx.fieldAddr rfl rfl ?_)
 (refine J.gY rfl rfl rfl ?_)
 (refine Jx.load rfl 1 rfl rfl rfl ?_)
 (refine J.gY rfl rfl rfl ?_)
 (refine Jx.lenSl rfl rfl ?_)
 (refine J.gY rfl rfl rfl ?_)
 (refine Jx.gtrI rfl rfl rfl (J.nil ?_))
 (refine N.joinedN rfl rfl rfl)
 (refine J.nil (N.seq ?_))
 (refine id ?_; rotate_left))
  refine W.cond rfl (fun hq => ?_) (fun hq => ?_)
  · have hne : ¬ b = bk0 := by
      rw [bk0_iff]
      rintro ⟨⟨a1, a2, a3, a4, a5, a6, a7, a8, a9, a10, a11⟩, a12, a13⟩
      simp [a1, a2, a3, a4] at hq
      omega
    rw [decide_eq_false hne]
    focus (
 (refine W.seq (W.region (Jx.assign rfl rfl (J.nil (N.seq (W.ret (N.noGotoRet ?_)))))))
 (refine id ?_; rotate_left))
    exact N.retD (rs := [.tmp 2]) (L1 := []) rfl (.tmp rfl .nil) (List.nil_sublist _) ⟨rfl, rfl⟩
  · focus (
 (refine W.skip (N.seq (W.seq (W.region (Jx.fieldAddr rfl rfl ?_)))))
 (refine Jx.load rfl 0 rfl rfl rfl ?_)
 (refine Jx.fieldAddr rfl rfl ?_)
 (refine Jx.load rfl 0 rfl rfl rfl ?_)
 (refine Jx.cat rfl rfl (by first | omega | (simp only [List.length_append, List.length_cons, List.length_nil]; omega)) rfl ?_)
 (refine Jx.fieldAddr rfl rfl ?_)
 (refine Jx.load rfl 0 rfl rfl rfl ?_)
 (refine Jx.cat rfl rfl (by first | omega | (simp only [List.length_append, List.length_cons, List.length_nil]; omega)) rfl ?_)
 (refine Jx.fieldAddr rfl rfl ?_)
 (refine Jx.load rfl 0 rfl rfl rfl ?_)
 (refine Jx.cat rfl rfl (by first | omega | (simp only [List.length_append, List.length_cons, List.length_nil]; omega)) rfl ?_)
 (refine Jx.fieldAddr rfl rfl ?_)
 (refine Jx.load rfl 0 rfl rfl rfl ?_)
 (refine Jx.cat rfl rfl (by first | omega | (simp only [List.length_append, List.length_cons, List.length_nil]; omega)) rfl ?_)
 (refine Jx.fieldAddr rfl rfl ?_)
 (refine Jx.load rfl 0 rfl rfl rfl ?_)
 (refine Jx.cat rfl rfl (by first | omega | (simp only [List.length_append, List.length_cons, List.length_nil]; omega)) rfl ?_)
 (refine Jx.eqlS rfl rfl rfl (Jx.move rfl rfl ?_))
 (refine' J.guardAnd rfl rfl rfl rfl rfl rfl rfl rfl (fun _ => ?_) ?_; rotate_left)
 (refine J.gY rfl rfl rfl ?_)
 (refine Jx.fieldAddr rfl rfl ?_)
 (refine J.gY rfl rfl rfl ?_)
 (refine Jx.loadAg rfl 1 rfl rfl rfl rfl ?_)
 (refine J.gY rfl rfl rfl ?_)
 (refine J.call (c) rfl (evs_args rfl) rfl ?_; rintro _ _ ⟨rfl, rfl⟩; simp only [la1, la2, la3])
 (refine J.nil ?_)
 (refine N.joinedN rfl rfl rfl)
 (refine Jx.assign rfl rfl (J.nil (N.seq (W.ret ?_))))
 (refine id ?_; rotate_left))
    refine N.retD (rs := [.tmp 2]) (L1 := []) rfl (.tmp rfl .nil) (List.nil_sublist _) ⟨congrArg Sse.bool ?_, rfl⟩
    rw [Bool.eq_iff_iff, decide_eq_true_iff, bk0_iff]
    simp only [Bool.or_eq_false_iff, decide_eq_false_iff_not, Classical.not_not] at hq
    obtain ⟨⟨⟨⟨⟨a1, a2⟩, a3⟩, a4⟩, a5⟩, a6⟩ := hq
    simp only [Bool.and_eq_true, decide_eq_true_eq, List.append_eq_nil_iff]
    constructor
    · rintro ⟨⟨⟨⟨⟨⟨b1, b2⟩, b3⟩, b4⟩, b5⟩, b6⟩, b7⟩
      exact ⟨⟨a1, a2, a3, a4, b1, b2, b3, b4, b5, b6, by omega⟩, by omega, b7⟩
    · rintro ⟨⟨_, _, _, _, b1, b2, b3, b4, b5, b6, _⟩, _, b7⟩
      exact ⟨⟨⟨⟨⟨⟨b1, b2⟩, b3⟩, b4⟩, b5⟩, b6⟩, b7⟩
set_option maxHeartbeats 8000000 in
theorem rvfine_ok (m : Ms) (hb : ShortB m.block) : FnC Tryz.prog 58 [.agg (msC m)] [] (fun v L => v = bool (fineMs m) ∧ L = []) := by
  have c1 := rname_ok m.who
  have c2 := rvempty_ok m.block hb
  have c3 := rbare_ok m.cert
  have c4 := rbfine_ok m.block hb.1
  have c5 := rmay_ok m.cert
  have e32 : decide ((m.digest.length : Int) = 32) = decide (m.digest.length = 32) := decide_eq_decide.2 (by omega)
  have hf : fineMs m = ((nameB m.who && numsM m) && fitsM m) := rfl
  refine FnC.intro Tryz.func58 rfl Tryz.ntmps58 rfl fun Z w0 hG => ?_
  focus (
 (refine W.seq (W.region ?_))
 (refine J.boxAg rfl rfl ?_; intro b')
 (refine Jx.assign rfl rfl (J.nil (N.seq (W.seq (W.seq (W.region (Jx.fieldAddr rfl rfl ?_)))))))
 (refine Jx.load rfl 0 rfl rfl rfl ?_)
 (refine J.call (c1) rfl (evs_args rfl) rfl ?_; rintro _ _ ⟨rfl, rfl⟩; simp only [la1, la2, la3])
 (refine Jx.not rfl rfl (Jx.move rfl rfl ?_))
 (refine' J.guardOr rfl rfl rfl rfl rfl rfl rfl rfl (fun _ => ?_) ?_; rotate_left)
 (refine J.gY rfl rfl rfl ?_)
 (refine Jx.fieldAddr rfl rfl ?_)
 (refine J.gY rfl rfl rfl ?_)
 (refine Jx.load rfl 0 rfl rfl rfl ?_)
 (refine J.gY rfl rfl rfl ?_)
 (refine Jx.lssI rfl rfl rfl (J.nil ?_))
 (refine N.joinedN rfl rfl rfl)
 (refine Jx.move rfl rfl ?_)
 (refine' J.guardOr rfl rfl rfl rfl rfl rfl rfl rfl (fun _ => ?_) ?_; rotate_left)
 (refine J.gY rfl rfl rfl ?_)
 (refine Jx.fieldAddr rfl rfl ?_)
 (refine J.gY rfl rfl rfl ?_)
 (refine Jx.load rfl 0 rfl rfl rfl ?_)
 (refine J.gY rfl rfl rfl ?_)
 (refine Jx.gtrI rfl rfl rfl (J.nil ?_))
 (refine N.joinedN rfl rfl rfl)
 (refine Jx.move rfl rfl ?_)
 (refine' J.guardOr rfl rfl rfl rfl rfl rfl rfl rfl (fun _ => ?_) ?_; rotate_left)
 (refine J.gY rfl rfl rfl ?_)
 (refine Jx.fieldAddr rfl rfl ?_)
 (refine J.gY rfl rfl rfl ?_)
 (refine Jx.load rfl 0 rfl rfl rfl ?_)
 (refine J.gY rfl rfl rfl ?_)
 (refine Jx.lssI rfl rfl rfl (J.nil ?_))
 (refine N.joinedN rfl rfl rfl)
 (refine Jx.move rfl rfl ?_)
 (refine' J.guardOr rfl rfl rfl rfl rfl rfl rfl rfl (fun _ => ?_) ?_; rotate_left)
 (refine J.gY rfl rfl rfl ?_)
 (refine Jx.fieldAddr rfl rfl ?_)
 (refine J.gY rfl rfl rfl ?_)
 (refine Jx.load rfl 0 rfl rfl rfl ?_)
 (refine J.gY rfl rfl rfl ?_)
 (refine Jx.gtrI rfl rfl rfl (J.nil ?_))
 (refine N.joinedN rfl rfl rfl)
 (refine J.nil (N.seq ?_))
 (refine id ?_; rotate_left))
  refine W.cond rfl (fun hq => ?_) (fun hq => ?_)
  · have : fineMs m = false := by
      rw [hf]
      simp only [Bool.or_eq_true, Bool.not_eq_true', decide_eq_true_eq] at hq
      cases hn : nameB m.who with
      | false => rfl
      | true =>
        have : numsM m = false := by
          rw [hn] at hq
          simp only [numsM, Bool.and_eq_false_iff, decide_eq_false_iff_not]
          simp at hq
          omega
        rw [this]; rfl
    rw [this]
    focus (
 (refine W.seq (W.region (Jx.assign rfl rfl (J.nil (N.seq (W.ret (N.noGotoRet ?_)))))))
 (refine id ?_; rotate_left))
    exact N.retD (rs := [.tmp 2]) (L1 := []) rfl (.tmp rfl .nil) (List.nil_sublist _) ⟨rfl, rfl⟩
  · have hf2 : fineMs m = fitsM m := by
      simp only [Bool.or_eq_false_iff, Bool.not_eq_false', decide_eq_false_iff_not] at hq
      have : numsM m = true := by simp only [numsM, Bool.and_eq_true, decide_eq_true_eq]; omega
      rw [hf, hq.1.1.1.1, this]; rfl
    rw [hf2]
    clear hf hf2 hq
    unfold fitsM
    by_cases e1 : m.kind = 1
    · rw [if_pos e1]
      focus (
 (refine W.skip (N.seq (W.seq ?_)))
 (refine W.draw follows ?_)
 (refine JD.calm rfl (by decide +kernel) ?_)
 (refine Cx.fieldAddr rfl rfl ?_)
 (refine Cx.loadAg rfl 0 rfl rfl rfl rfl ?_)
 (refine SegC.q (Qs.call (Lc := []) (c2) (fun s L' h => h) (List.Perm.refl _) (evs_args rfl)) rfl ?_)
 (refine Cx.fieldAddr rfl rfl ?_)
 (refine Cx.loadAg rfl 0 rfl rfl rfl rfl ?_)
 (refine SegC.q (Qs.call (Lc := []) (c3) (fun s L' h => h) (List.Perm.refl _) (evs_args rfl)) rfl ?_)
 (refine Cx.fieldAddr rfl rfl ?_)
 (refine Cx.load rfl 0 rfl rfl rfl ?_)
 (refine Cx.eqlS rfl rfl rfl ?_)
 (refine Cx.assign rfl rfl ?_)
 (refine Cx.assign rfl rfl ?_)
 (refine Cx.assign rfl rfl ?_)
 (refine SegC.nil ?_)
 (refine N.seq (W.seq (W.region (Jx.fieldAddr rfl rfl ?_))))
 (refine Jx.load rfl 0 rfl rfl rfl ?_)
 (refine J.nil (N.seq (W.block (W.seq (W.region (Jx.eqlI rfl rfl rfl (Jx.assign rfl rfl (J.nil (N.seq (W.cT rfl ?_))))))))))
 (refine W.seq (W.region (Jx.move rfl rfl (Jx.move rfl rfl ?_))))
 (refine' J.guardAnd rfl rfl rfl rfl rfl rfl rfl rfl (fun _ => ?_) ?_; rotate_left)
 (refine J.gY rfl rfl rfl ?_)
 (refine Jx.move rfl rfl (J.nil ?_))
 (refine N.joinedN rfl rfl rfl)
 (refine Jx.move rfl rfl ?_)
 (refine' J.guardAnd rfl rfl rfl rfl rfl rfl rfl rfl (fun _ => ?_) ?_; rotate_left)
 (refine J.gY rfl rfl rfl ?_)
 (refine Jx.fieldAddr rfl rfl ?_)
 (refine J.gY rfl rfl rfl ?_)
 (refine Jx.loadAg rfl 0 rfl rfl rfl rfl ?_)
 (refine J.gY rfl rfl rfl ?_)
 (refine J.call (c4) rfl (evs_args rfl) rfl ?_; rintro _ _ ⟨rfl, rfl⟩; simp only [la1, la2, la3])
 (refine J.nil ?_)
 (refine N.joinedN rfl rfl rfl)
 (refine Jx.move rfl rfl ?_)
 (refine' J.guardAnd rfl rfl rfl rfl rfl rfl rfl rfl (fun _ => ?_) ?_; rotate_left)
 (refine J.gY rfl rfl rfl ?_)
 (refine Jx.fieldAddr rfl rfl ?_)
 (refine J.gY rfl rfl rfl ?_)
 (refine Jx.load rfl 0 rfl rfl rfl ?_)
 (refine J.gY rfl rfl rfl ?_)
 (refine Jx.fieldAddr rfl rfl ?_)
 (refine J.gY rfl rfl rfl ?_)
 (refine Jx.fieldAddr rfl rfl ?_)
 (refine J.gY rfl rfl rfl ?_)
 (refine Jx.fieldAddr rfl rfl ?_)
 (refine J.gY rfl rfl rfl ?_)
 (refine Jx.load rfl 0 rfl rfl rfl ?_)
 (refine J.gY rfl rfl rfl ?_)
 (refine Jx.eqlI rfl rfl rfl (J.nil ?_))
 (refine N.joinedN rfl rfl rfl)
 (refine Jx.move rfl rfl ?_)
 (refine' J.guardAnd rfl rfl rfl rfl rfl rfl rfl rfl (fun _ => ?_) ?_; rotate_left)
 (refine J.gY rfl rfl rfl ?_)
 (refine Jx.fieldAddr rfl rfl ?_)
 (refine J.gY rfl rfl rfl ?_)
 (refine Jx.load rfl 0 rfl rfl rfl ?_)
 (refine J.gY rfl rfl rfl ?_)
 (refine Jx.fieldAddr rfl rfl ?_)
 (refine J.gY rfl rfl rfl ?_)
 (refine Jx.fieldAddr rfl rfl ?_)
 (refine J.gY rfl rfl rfl ?_)
 (refine Jx.fieldAddr rfl rfl ?_)
 (refine J.gY rfl rfl rfl ?_)
 (refine Jx.load rfl 0 rfl rfl rfl ?_)
 (refine J.gY rfl rfl rfl ?_)
 (refine Jx.eqlI rfl rfl rfl (J.nil ?_))
 (refine N.joinedN rfl rfl rfl)
 (refine Jx.assign rfl rfl (J.nil (N.seq (W.ret (N.noGotoRet ?_)))))
 (refine id ?_; rotate_left))
      refine N.retD (rs := [.tmp 2]) (L1 := []) rfl (.tmp rfl .nil) (List.nil_sublist _) ⟨congrArg Sse.bool ?_, rfl⟩
      rw [Bool.and_comm (decide (m.digest = []))]
    · rw [if_neg e1]
      by_cases e2 : m.kind = 2
      · rw [if_pos e2]
        focus (
 (refine W.skip (N.seq (W.seq ?_)))
 (refine W.draw follows ?_)
 (refine JD.calm rfl (by decide +kernel) ?_)
 (refine Cx.fieldAddr rfl rfl ?_)
 (refine Cx.loadAg rfl 0 rfl rfl rfl rfl ?_)
 (refine SegC.q (Qs.call (Lc := []) (c2) (fun s L' h => h) (List.Perm.refl _) (evs_args rfl)) rfl ?_)
 (refine Cx.fieldAddr rfl rfl ?_)
 (refine Cx.loadAg rfl 0 rfl rfl rfl rfl ?_)
 (refine SegC.q (Qs.call (Lc := []) (c3) (fun s L' h => h) (List.Perm.refl _) (evs_args rfl)) rfl ?_)
 (refine Cx.fieldAddr rfl rfl ?_)
 (refine Cx.load rfl 0 rfl rfl rfl ?_)
 (refine Cx.eqlS rfl rfl rfl ?_)
 (refine Cx.assign rfl rfl ?_)
 (refine Cx.assign rfl rfl ?_)
 (refine Cx.assign rfl rfl ?_)
 (refine SegC.nil ?_)
 (refine N.seq (W.seq (W.region (Jx.fieldAddr rfl rfl ?_))))
 (refine Jx.load rfl 0 rfl rfl rfl ?_)
 (refine J.nil (N.seq (W.block (W.seq (W.region (Jx.eqlI rfl rfl rfl (Jx.assign rfl rfl (J.nil (N.seq (W.cF rfl ?_))))))))))
 (refine W.seq (W.region (Jx.eqlI rfl rfl rfl (Jx.assign rfl rfl (J.nil (N.seq (W.cT rfl ?_)))))))
 (refine W.seq (W.region (Jx.move rfl rfl (Jx.move rfl rfl ?_))))
 (refine' J.guardAnd rfl rfl rfl rfl rfl rfl rfl rfl (fun _ => ?_) ?_; rotate_left)
 (refine J.gY rfl rfl rfl ?_)
 (refine Jx.move rfl rfl (J.nil ?_))
 (refine N.joinedN rfl rfl rfl)
 (refine Jx.move rfl rfl ?_)
 (refine' J.guardAnd rfl rfl rfl rfl rfl rfl rfl rfl (fun _ => ?_) ?_; rotate_left)
 (refine J.gY rfl rfl rfl ?_)
 (refine Jx.fieldAddr rfl rfl ?_)
 (refine J.gY rfl rfl rfl ?_)
 (refine Jx.load rfl 0 rfl rfl rfl ?_)
 (refine J.gY rfl rfl rfl ?_)
 (refine Jx.lenS rfl rfl ?_)
 (refine J.gY rfl rfl rfl ?_)
 (refine Jx.eqlI rfl rfl rfl (J.nil ?_))
 (refine N.joinedN rfl rfl rfl)
 (refine Jx.assign rfl rfl (J.nil (N.seq (W.ret (N.noGotoRet ?_)))))
 (refine id ?_; rotate_left))
        refine N.retD (rs := [.tmp 2]) (L1 := []) rfl (.tmp rfl .nil) (List.nil_sublist _) ⟨congrArg Sse.bool ?_, rfl⟩
        rw [← e32, Bool.eq_iff_iff]
        simp only [Bool.and_eq_true]
        grind
      · rw [if_neg e2]
        by_cases e3 : m.kind = 3
        · rw [if_pos e3]
          by_cases hk : m.block = bk0
          · rw [decide_eq_true hk] at c2 ⊢
            by_cases hd : m.digest = []
            · rw [decide_eq_true hd]
              cases hbare : bareCt m.cert with
              | true =>
                rw [hbare] at c3
                focus (
 (refine W.skip (N.seq (W.seq ?_)))
 (refine W.draw follows ?_)
 (refine JD.calm rfl (by decide +kernel) ?_)
 (refine Cx.fieldAddr rfl rfl ?_)
 (refine Cx.loadAg rfl 0 rfl rfl rfl rfl ?_)
 (refine SegC.q (Qs.call (Lc := []) (c2) (fun s L' h => h) (List.Perm.refl _) (evs_args rfl)) rfl ?_)
 (refine Cx.fieldAddr rfl rfl ?_)
 (refine Cx.loadAg rfl 0 rfl rfl rfl rfl ?_)
 (refine SegC.q (Qs.call (Lc := []) (c3) (fun s L' h => h) (List.Perm.refl _) (evs_args rfl)) rfl ?_)
 (refine Cx.fieldAddr rfl rfl ?_)
 (refine Cx.load rfl 0 rfl rfl rfl ?_)
 (refine Cx.eqlS rfl rfl rfl ?_)
 (refine Cx.assign rfl rfl ?_)
 (refine Cx.assign rfl rfl ?_)
 (refine Cx.assign rfl rfl ?_)
 (refine SegC.nil ?_)
 (refine N.seq (W.seq (W.region (Jx.fieldAddr rfl rfl ?_))))
 (refine Jx.load rfl 0 rfl rfl rfl ?_)
 (refine J.nil (N.seq (W.block (W.seq (W.region (Jx.eqlI rfl rfl rfl (Jx.assign rfl rfl (J.nil (N.seq (W.cF rfl ?_))))))))))
 (refine W.seq (W.region (Jx.eqlI rfl rfl rfl (Jx.assign rfl rfl (J.nil (N.seq (W.cF rfl ?_)))))))
 (refine W.seq (W.region (Jx.eqlI rfl rfl rfl (Jx.assign rfl rfl (J.nil (N.seq (W.cT rfl ?_)))))))
 (refine W.seq (W.region (Jx.move rfl rfl (Jx.move rfl rfl (J.gY rfl rfl rfl ?_)))))
 (refine Jx.move rfl rfl (Jx.pT rfl rfl rfl ?_))
 (refine Jx.move rfl rfl (J.gY rfl rfl rfl ?_))
 (refine Jx.move rfl rfl (J.gY rfl rfl rfl ?_))
 (refine Jx.move rfl rfl (J.gN rfl rfl rfl rfl ?_))
 (refine J.gN rfl rfl rfl rfl ?_)
 (refine J.gN rfl rfl rfl rfl ?_)
 (refine J.gY rfl rfl rfl ?_)
 (refine Jx.pT rfl rfl rfl ?_)
 (refine Jx.pT rfl rfl rfl ?_)
 (refine Jx.assign rfl rfl (J.nil (N.seq (W.ret (N.noGotoRet ?_)))))
 (refine id ?_; rotate_left))
                exact N.retD (rs := [.tmp 2]) (L1 := []) rfl (.tmp rfl .nil) (List.nil_sublist _) ⟨by simp [oneOr], rfl⟩
              | false =>
                rw [hbare] at c3
                focus (
 (refine W.skip (N.seq (W.seq ?_)))
 (refine W.draw follows ?_)
 (refine JD.calm rfl (by decide +kernel) ?_)
 (refine Cx.fieldAddr rfl rfl ?_)
 (refine Cx.loadAg rfl 0 rfl rfl rfl rfl ?_)
 (refine SegC.q (Qs.call (Lc := []) (c2) (fun s L' h => h) (List.Perm.refl _) (evs_args rfl)) rfl ?_)
 (refine Cx.fieldAddr rfl rfl ?_)
 (refine Cx.loadAg rfl 0 rfl rfl rfl rfl ?_)
 (refine SegC.q (Qs.call (Lc := []) (c3) (fun s L' h => h) (List.Perm.refl _) (evs_args rfl)) rfl ?_)
 (refine Cx.fieldAddr rfl rfl ?_)
 (refine Cx.load rfl 0 rfl rfl rfl ?_)
 (refine Cx.eqlS rfl rfl rfl ?_)
 (refine Cx.assign rfl rfl ?_)
 (refine Cx.assign rfl rfl ?_)
 (refine Cx.assign rfl rfl ?_)
 (refine SegC.nil ?_)
 (refine N.seq (W.seq (W.region (Jx.fieldAddr rfl rfl ?_))))
 (refine Jx.load rfl 0 rfl rfl rfl ?_)
 (refine J.nil (N.seq (W.block (W.seq (W.region (Jx.eqlI rfl rfl rfl (Jx.assign rfl rfl (J.nil (N.seq (W.cF rfl ?_))))))))))
 (refine W.seq (W.region (Jx.eqlI rfl rfl rfl (Jx.assign rfl rfl (J.nil (N.seq (W.cF rfl ?_)))))))
 (refine W.seq (W.region (Jx.eqlI rfl rfl rfl (Jx.assign rfl rfl (J.nil (N.seq (W.cT rfl ?_)))))))
 (refine W.seq (W.region (Jx.move rfl rfl (Jx.move rfl rfl (J.gY rfl rfl rfl ?_)))))
 (refine Jx.move rfl rfl (Jx.pT rfl rfl rfl ?_))
 (refine Jx.move rfl rfl (J.gY rfl rfl rfl ?_))
 (refine Jx.move rfl rfl (J.gY rfl rfl rfl ?_))
 (refine Jx.move rfl rfl (J.gY rfl rfl rfl ?_))
 (refine Jx.fieldAddr rfl rfl ?_)
 (refine J.gY rfl rfl rfl ?_)
 (refine Jx.loadAg rfl 0 rfl rfl rfl rfl ?_)
 (refine J.gY rfl rfl rfl ?_)
 (refine J.call (c5) rfl (evs_args rfl) rfl ?_; rintro _ _ ⟨rfl, rfl⟩; simp only [la1, la2, la3])
 (refine J.gY rfl rfl rfl ?_)
 (refine Jx.pF rfl rfl rfl ?_)
 (refine Jx.pT rfl rfl rfl ?_)
 (refine Jx.assign rfl rfl (J.nil (N.seq (W.ret (N.noGotoRet ?_)))))
 (refine id ?_; rotate_left))
                exact N.retD (rs := [.tmp 2]) (L1 := []) rfl (.tmp rfl .nil) (List.nil_sublist _) ⟨by simp [oneOr], rfl⟩
            · rw [decide_eq_false hd]
              focus (
 (refine W.skip (N.seq (W.seq ?_)))
 (refine W.draw follows ?_)
 (refine JD.calm rfl (by decide +kernel) ?_)
 (refine Cx.fieldAddr rfl rfl ?_)
 (refine Cx.loadAg rfl 0 rfl rfl rfl rfl ?_)
 (refine SegC.q (Qs.call (Lc := []) (c2) (fun s L' h => h) (List.Perm.refl _) (evs_args rfl)) rfl ?_)
 (refine Cx.fieldAddr rfl rfl ?_)
 (refine Cx.loadAg rfl 0 rfl rfl rfl rfl ?_)
 (refine SegC.q (Qs.call (Lc := []) (c3) (fun s L' h => h) (List.Perm.refl _) (evs_args rfl)) rfl ?_)
 (refine Cx.fieldAddr rfl rfl ?_)
 (refine Cx.load rfl 0 rfl rfl rfl ?_)
 (refine Cx.eqlS rfl rfl rfl ?_)
 (refine Cx.assign rfl rfl ?_)
 (refine Cx.assign rfl rfl ?_)
 (refine Cx.assign rfl rfl ?_)
 (refine SegC.nil ?_)
 (refine N.seq (W.seq (W.region (Jx.fieldAddr rfl rfl ?_))))
 (refine Jx.load rfl 0 rfl rfl rfl ?_)
 (refine J.nil (N.seq (W.block (W.seq (W.region (Jx.eqlI rfl rfl rfl (Jx.assign rfl rfl (J.nil (N.seq (W.cF rfl ?_))))))))))
 (refine W.seq (W.region (Jx.eqlI rfl rfl rfl (Jx.assign rfl rfl (J.nil (N.seq (W.cF rfl ?_)))))))
 (refine W.seq (W.region (Jx.eqlI rfl rfl rfl (Jx.assign rfl rfl (J.nil (N.seq (W.cT rfl ?_)))))))
 (refine W.seq (W.region (Jx.move rfl rfl (Jx.move rfl rfl (J.gY rfl rfl rfl ?_)))))
 (refine Jx.move rfl rfl (Jx.pT rfl rfl rfl ?_))
 (refine Jx.move rfl rfl (J.gN rfl rfl rfl rfl ?_))
 (refine J.gN rfl rfl rfl rfl ?_)
 (refine J.guardSkip rfl rfl rfl rfl ?_)
 (refine J.guardSkip rfl rfl rfl rfl ?_)
 (refine J.guardSkip rfl rfl rfl rfl ?_)
 (refine J.gN rfl rfl rfl rfl ?_)
 (refine Jx.pF rfl rfl rfl ?_)
 (refine Jx.assign rfl rfl (J.nil (N.seq (W.ret (N.noGotoRet ?_)))))
 (refine id ?_; rotate_left))
              exact N.retD (rs := [.tmp 2]) (L1 := []) rfl (.tmp rfl .nil) (List.nil_sublist _) ⟨by simp [oneOr], rfl⟩
          · rw [decide_eq_false hk] at c2 ⊢
            focus (
 (refine W.skip (N.seq (W.seq ?_)))
 (refine W.draw follows ?_)
 (refine JD.calm rfl (by decide +kernel) ?_)
 (refine Cx.fieldAddr rfl rfl ?_)
 (refine Cx.loadAg rfl 0 rfl rfl rfl rfl ?_)
 (refine SegC.q (Qs.call (Lc := []) (c2) (fun s L' h => h) (List.Perm.refl _) (evs_args rfl)) rfl ?_)
 (refine Cx.fieldAddr rfl rfl ?_)
 (refine Cx.loadAg rfl 0 rfl rfl rfl rfl ?_)
 (refine SegC.q (Qs.call (Lc := []) (c3) (fun s L' h => h) (List.Perm.refl _) (evs_args rfl)) rfl ?_)
 (refine Cx.fieldAddr rfl rfl ?_)
 (refine Cx.load rfl 0 rfl rfl rfl ?_)
 (refine Cx.eqlS rfl rfl rfl ?_)
 (refine Cx.assign rfl rfl ?_)
 (refine Cx.assign rfl rfl ?_)
 (refine Cx.assign rfl rfl ?_)
 (refine SegC.nil ?_)
 (refine N.seq (W.seq (W.region (Jx.fieldAddr rfl rfl ?_))))
 (refine Jx.load rfl 0 rfl rfl rfl ?_)
 (refine J.nil (N.seq (W.block (W.seq (W.region (Jx.eqlI rfl rfl rfl (Jx.assign rfl rfl (J.nil (N.seq (W.cF rfl ?_))))))))))
 (refine W.seq (W.region (Jx.eqlI rfl rfl rfl (Jx.assign rfl rfl (J.nil (N.seq (W.cF rfl ?_)))))))
 (refine W.seq (W.region (Jx.eqlI rfl rfl rfl (Jx.assign rfl rfl (J.nil (N.seq (W.cT rfl ?_)))))))
 (refine W.seq (W.region (Jx.move rfl rfl (Jx.move rfl rfl (J.gN rfl rfl rfl rfl ?_)))))
 (refine Jx.pF rfl rfl rfl ?_)
 (refine Jx.move rfl rfl (J.gN rfl rfl rfl rfl ?_))
 (refine J.gN rfl rfl rfl rfl ?_)
 (refine J.guardSkip rfl rfl rfl rfl ?_)
 (refine J.guardSkip rfl rfl rfl rfl ?_)
 (refine J.guardSkip rfl rfl rfl rfl ?_)
 (refine J.gN rfl rfl rfl rfl ?_)
 (refine Jx.pF rfl rfl rfl ?_)
 (refine Jx.assign rfl rfl (J.nil (N.seq (W.ret (N.noGotoRet ?_)))))
 (refine id ?_; rotate_left))
            exact N.retD (rs := [.tmp 2]) (L1 := []) rfl (.tmp rfl .nil) (List.nil_sublist _) ⟨by simp [oneOr], rfl⟩
        · rw [if_neg e3]
          by_cases e4 : m.kind = 4
          · rw [if_pos e4]
            focus (
 (refine W.skip (N.seq (W.seq ?_)))
 (refine W.draw follows ?_)
 (refine JD.calm rfl (by decide +kernel) ?_)
 (refine Cx.fieldAddr rfl rfl ?_)
 (refine Cx.loadAg rfl 0 rfl rfl rfl rfl ?_)
 (refine SegC.q (Qs.call (Lc := []) (c2) (fun s L' h => h) (List.Perm.refl _) (evs_args rfl)) rfl ?_)
 (refine Cx.fieldAddr rfl rfl ?_)
 (refine Cx.loadAg rfl 0 rfl rfl rfl rfl ?_)
 (refine SegC.q (Qs.call (Lc := []) (c3) (fun s L' h => h) (List.Perm.refl _) (evs_args rfl)) rfl ?_)
 (refine Cx.fieldAddr rfl rfl ?_)
 (refine Cx.load rfl 0 rfl rfl rfl ?_)
 (refine Cx.eqlS rfl rfl rfl ?_)
 (refine Cx.assign rfl rfl ?_)
 (refine Cx.assign rfl rfl ?_)
 (refine Cx.assign rfl rfl ?_)
 (refine SegC.nil ?_)
 (refine N.seq (W.seq (W.region (Jx.fieldAddr rfl rfl ?_))))
 (refine Jx.load rfl 0 rfl rfl rfl ?_)
 (refine J.nil (N.seq (W.block (W.seq (W.region (Jx.eqlI rfl rfl rfl (Jx.assign rfl rfl (J.nil (N.seq (W.cF rfl ?_))))))))))
 (refine W.seq (W.region (Jx.eqlI rfl rfl rfl (Jx.assign rfl rfl (J.nil (N.seq (W.cF rfl ?_)))))))
 (refine W.seq (W.region (Jx.eqlI rfl rfl rfl (Jx.assign rfl rfl (J.nil (N.seq (W.cF rfl ?_)))))))
 (refine W.seq (W.region (Jx.eqlI rfl rfl rfl (Jx.assign rfl rfl (J.nil (N.seq (W.cT rfl ?_)))))))
 (refine W.seq (W.region (Jx.move rfl rfl (Jx.move rfl rfl ?_))))
 (refine' J.guardAnd rfl rfl rfl rfl rfl rfl rfl rfl (fun _ => ?_) ?_; rotate_left)
 (refine J.gY rfl rfl rfl ?_)
 (refine Jx.move rfl rfl (J.nil ?_))
 (refine N.joinedN rfl rfl rfl)
 (refine Jx.move rfl rfl ?_)
 (refine' J.guardAnd rfl rfl rfl rfl rfl rfl rfl rfl (fun _ => ?_) ?_; rotate_left)
 (refine J.gY rfl rfl rfl ?_)
 (refine Jx.fieldAddr rfl rfl ?_)
 (refine J.gY rfl rfl rfl ?_)
 (refine Jx.load rfl 0 rfl rfl rfl ?_)
 (refine J.gY rfl rfl rfl ?_)
 (refine Jx.lenS rfl rfl ?_)
 (refine J.gY rfl rfl rfl ?_)
 (refine Jx.eqlI rfl rfl rfl (J.nil ?_))
 (refine N.joinedN rfl rfl rfl)
 (refine Jx.move rfl rfl ?_)
 (refine' J.guardAnd rfl rfl rfl rfl rfl rfl rfl rfl (fun _ => ?_) ?_; rotate_left)
 (refine J.gY rfl rfl rfl ?_)
 (refine Jx.fieldAddr rfl rfl ?_)
 (refine J.gY rfl rfl rfl ?_)
 (refine Jx.load rfl 0 rfl rfl rfl ?_)
 (refine J.gY rfl rfl rfl ?_)
 (refine Jx.eqlI rfl rfl rfl (J.nil ?_))
 (refine N.joinedN rfl rfl rfl)
 (refine Jx.move rfl rfl ?_)
 (refine' J.guardAnd rfl rfl rfl rfl rfl rfl rfl rfl (fun _ => ?_) ?_; rotate_left)
 (refine J.gY rfl rfl rfl ?_)
 (refine Jx.fieldAddr rfl rfl ?_)
 (refine J.gY rfl rfl rfl ?_)
 (refine Jx.load rfl 0 rfl rfl rfl ?_)
 (refine J.gY rfl rfl rfl ?_)
 (refine Jx.eqlI rfl rfl rfl (J.nil ?_))
 (refine N.joinedN rfl rfl rfl)
 (refine Jx.assign rfl rfl (J.nil (N.seq (W.ret (N.noGotoRet ?_)))))
 (refine id ?_; rotate_left))
            refine N.retD (rs := [.tmp 2]) (L1 := []) rfl (.tmp rfl .nil) (List.nil_sublist _) ⟨congrArg Sse.bool ?_, rfl⟩
            rw [← e32, Bool.eq_iff_iff]
            simp only [Bool.and_eq_true]
            grind
          · rw [if_neg e4]
            focus (
 (refine W.skip (N.seq (W.seq ?_)))
 (refine W.draw follows ?_)
 (refine JD.calm rfl (by decide +kernel) ?_)
 (refine Cx.fieldAddr rfl rfl ?_)
 (refine Cx.loadAg rfl 0 rfl rfl rfl rfl ?_)
 (refine SegC.q (Qs.call (Lc := []) (c2) (fun s L' h => h) (List.Perm.refl _) (evs_args rfl)) rfl ?_)
 (refine Cx.fieldAddr rfl rfl ?_)
 (refine Cx.loadAg rfl 0 rfl rfl rfl rfl ?_)
 (refine SegC.q (Qs.call (Lc := []) (c3) (fun s L' h => h) (List.Perm.refl _) (evs_args rfl)) rfl ?_)
 (refine Cx.fieldAddr rfl rfl ?_)
 (refine Cx.load rfl 0 rfl rfl rfl ?_)
 (refine Cx.eqlS rfl rfl rfl ?_)
 (refine Cx.assign rfl rfl ?_)
 (refine Cx.assign rfl rfl ?_)
 (refine Cx.assign rfl rfl ?_)
 (refine SegC.nil ?_)
 (refine N.seq (W.seq (W.region (Jx.fieldAddr rfl rfl ?_))))
 (refine Jx.load rfl 0 rfl rfl rfl ?_)
 (refine J.nil (N.seq (W.block (W.seq (W.region (Jx.eqlI rfl rfl rfl (Jx.assign rfl rfl (J.nil (N.seq (W.cF rfl ?_))))))))))
 (refine W.seq (W.region (Jx.eqlI rfl rfl rfl (Jx.assign rfl rfl (J.nil (N.seq (W.cF rfl ?_)))))))
 (refine W.seq (W.region (Jx.eqlI rfl rfl rfl (Jx.assign rfl rfl (J.nil (N.seq (W.cF rfl ?_)))))))
 (refine W.seq (W.region (Jx.eqlI rfl rfl rfl (Jx.assign rfl rfl (J.nil (N.seq (W.cF rfl ?_)))))))
 (refine W.seq (W.region (Jx.assign rfl rfl (J.nil (N.seq (W.ret (N.noGotoRet ?_)))))))
 (refine id ?_; rotate_left))
            exact N.retD (rs := [.tmp 2]) (L1 := []) rfl (.tmp rfl .nil) (List.nil_sublist _) ⟨rfl, rfl⟩
end Go.Proofs.YtlfdhkahiaammaaGreatDoor
namespace Go.Proofs.YtlfdhkahiaammaaGreatDoor
open Go Go.Sse
set_option linter.unusedVariables false
set_option linter.unusedSimpArgs false
set_option maxRecDepth 10000
set_option maxHeartbeats 4000000 in
theorem rvwritten_ok (m : Ms) (hf : fineMs m = true) : FnC Tryz.prog 59 [.agg (msC m)] [] (fun v L => v = str (encMs m) ∧ L = []) := by
  have f := fineMs_spec hf
  have f1 := f.who; have f2 := f.epoch; have f3 := f.view; have fk := f.kind
  have c1 := rtext_ok m.who (by omega)
  have c2 := number_ok m.epoch.toNat (by omega)
  have c3 := number_ok m.view.toNat (by omega)
  rw [Int.toNat_of_nonneg f2.1] at c2
  rw [Int.toNat_of_nonneg f3.1] at c3
  have k1 := textB_len f1.2 (by omega)
  have k2 := numB9 (n := m.epoch) (by omega)
  have k3 := numB9 (n := m.view) (by omega)
  have hkn : m.kind = ((m.kind.toNat : Nat) : Int) := by omega
  have he : encMs m = [UInt8.ofNat m.kind.toNat] ++ textB m.who ++ numB m.epoch.toNat ++ numB m.view.toNat ++ tailM m := rfl
  have ht := tailM_len f
  rw [he]
  generalize textB m.who = tw at *
  generalize numB m.epoch.toNat = te at *
  generalize numB m.view.toNat = tv at *
  refine FnC.intro Tryz.func59 rfl Tryz.ntmps59 rfl fun Z w0 hG => ?_
  by_cases e1 : m.kind = 1
  · have g := f.k1 e1
    have cb := rbwritten_ok m.block g.2.2
    have lb := encBk_len ((fineBk_iff _).1 g.2.2)
    have c4 := rtext_ok (encBk m.block) (by omega)
    have htl : tailM m = textB (encBk m.block) := by rw [tailM, if_pos e1]
    rw [htl] at ht ⊢
    clear he htl
    generalize textB (encBk m.block) = tl at *
    generalize encBk m.block = eb at *
    focus (
 (refine W.seq (W.region ?_))
 (refine J.boxAg rfl rfl ?_; intro b')
 (refine Jx.assign rfl rfl (J.nil (N.seq (W.seq ?_))))
 (refine W.draw follows ?_)
 (refine JD.calm rfl (by decide +kernel) ?_)
 (refine Cx.fieldAddr rfl rfl ?_)
 (refine Cx.load rfl 0 rfl rfl rfl ?_)
 (refine Cx.numByte m.kind.toNat rfl rfl hkn rfl ?_)
 (refine SegC.q (Qs.buildBytes [UInt8.ofNat m.kind.toNat] rfl rfl rfl (by decide) (by decide)) rfl ?_)
 (refine Cx.bytesStr rfl rfl ?_)
 (refine Cx.fieldAddr rfl rfl ?_)
 (refine Cx.load rfl 0 rfl rfl rfl ?_)
 (refine SegC.q (Qs.call (Lc := []) (c1) (fun s L' h => h) (List.Perm.refl _) (evs_args rfl)) rfl ?_)
 (refine Cx.cat rfl rfl (by first | omega | (simp only [List.length_append, List.length_cons, List.length_nil]; omega)) rfl ?_)
 (refine Cx.fieldAddr rfl rfl ?_)
 (refine Cx.load rfl 0 rfl rfl rfl ?_)
 (refine SegC.q (Qs.call (Lc := []) (c2) (fun s L' h => h) (List.Perm.refl _) (evs_args rfl)) rfl ?_)
 (refine Cx.cat rfl rfl (by first | omega | (simp only [List.length_append, List.length_cons, List.length_nil]; omega)) rfl ?_)
 (refine Cx.fieldAddr rfl rfl ?_)
 (refine Cx.load rfl 0 rfl rfl rfl ?_)
 (refine SegC.q (Qs.call (Lc := []) (c3) (fun s L' h => h) (List.Perm.refl _) (evs_args rfl)) rfl ?_)
 (refine Cx.cat rfl rfl (by first | omega | (simp only [List.length_append, List.length_cons, List.length_nil]; omega)) rfl ?_)
 (refine Cx.assign rfl rfl ?_)
 (refine SegC.nil ?_)
 (refine N.seq (W.seq (W.seq (W.region (Jx.fieldAddr rfl rfl ?_)))))
 (refine Jx.load rfl 0 rfl rfl rfl ?_)
 (refine Jx.eqlI rfl rfl rfl (J.nil (N.seq (W.cT rfl ?_))))
 (refine W.seq (W.region (Jx.move rfl rfl (Jx.fieldAddr rfl rfl ?_))))
 (refine Jx.loadAg rfl 0 rfl rfl rfl rfl ?_)
 (refine J.call (cb) rfl (evs_args rfl) rfl ?_; rintro _ _ ⟨rfl, rfl⟩; simp only [la1, la2, la3])
 (refine J.call (c4) rfl (evs_args rfl) rfl ?_; rintro _ _ ⟨rfl, rfl⟩; simp only [la1, la2, la3])
 (refine Jx.cat rfl rfl (by first | omega | (simp only [List.length_append, List.length_cons, List.length_nil]; omega)) rfl ?_)
 (refine Jx.assign rfl rfl (J.nil (N.seq (W.ret (N.noGotoRet ?_)))))
 (refine id ?_; rotate_left))
    exact N.retD (rs := [.tmp 2]) (L1 := []) rfl (.tmp rfl .nil) (List.nil_sublist _) ⟨by simp [oneOr], rfl⟩
  · by_cases e3 : m.kind = 3
    · have e3n : ¬ m.kind ≠ 3 := fun h => h e3
      have g := f.k3 e3
      have cv := rbare_ok m.cert
      have cc := rcencode_ok m.cert
      have htl : tailM m = justE m.cert := by rw [tailM, if_neg e1, if_pos e3]
      have kf1 := flag_len true; have kf0 := flag_len false
      rw [htl]
      clear he htl
      cases hb : bareCt m.cert with
      | true =>
        rw [hb] at cv
        have hj : justE m.cert = flagB false := by rw [justE, if_pos hb]
        rw [hj]
        clear hj
        have c5 := rflag_ok false
        generalize flagB false = fb at *
        focus (
 (refine W.seq (W.region ?_))
 (refine J.boxAg rfl rfl ?_; intro b')
 (refine Jx.assign rfl rfl (J.nil (N.seq (W.seq ?_))))
 (refine W.draw follows ?_)
 (refine JD.calm rfl (by decide +kernel) ?_)
 (refine Cx.fieldAddr rfl rfl ?_)
 (refine Cx.load rfl 0 rfl rfl rfl ?_)
 (refine Cx.numByte m.kind.toNat rfl rfl hkn rfl ?_)
 (refine SegC.q (Qs.buildBytes [UInt8.ofNat m.kind.toNat] rfl rfl rfl (by decide) (by decide)) rfl ?_)
 (refine Cx.bytesStr rfl rfl ?_)
 (refine Cx.fieldAddr rfl rfl ?_)
 (refine Cx.load rfl 0 rfl rfl rfl ?_)
 (refine SegC.q (Qs.call (Lc := []) (c1) (fun s L' h => h) (List.Perm.refl _) (evs_args rfl)) rfl ?_)
 (refine Cx.cat rfl rfl (by first | omega | (simp only [List.length_append, List.length_cons, List.length_nil]; omega)) rfl ?_)
 (refine Cx.fieldAddr rfl rfl ?_)
 (refine Cx.load rfl 0 rfl rfl rfl ?_)
 (refine SegC.q (Qs.call (Lc := []) (c2) (fun s L' h => h) (List.Perm.refl _) (evs_args rfl)) rfl ?_)
 (refine Cx.cat rfl rfl (by first | omega | (simp only [List.length_append, List.length_cons, List.length_nil]; omega)) rfl ?_)
 (refine Cx.fieldAddr rfl rfl ?_)
 (refine Cx.load rfl 0 rfl rfl rfl ?_)
 (refine SegC.q (Qs.call (Lc := []) (c3) (fun s L' h => h) (List.Perm.refl _) (evs_args rfl)) rfl ?_)
 (refine Cx.cat rfl rfl (by first | omega | (simp only [List.length_append, List.length_cons, List.length_nil]; omega)) rfl ?_)
 (refine Cx.assign rfl rfl ?_)
 (refine SegC.nil ?_)
 (refine N.seq (W.seq (W.seq (W.region (Jx.fieldAddr rfl rfl ?_)))))
 (refine Jx.load rfl 0 rfl rfl rfl ?_)
 (refine Jx.eqlI rfl rfl rfl (J.nil (N.seq (W.cF rfl ?_))))
 (refine W.skip (N.seq (W.seq (W.seq (W.region (Jx.fieldAddr rfl rfl ?_))))))
 (refine Jx.load rfl 0 rfl rfl rfl ?_)
 (refine Jx.neqI rfl rfl rfl (J.nil (N.seq (W.cF rfl ?_))))
 (refine W.skip (N.seq (W.seq (W.seq (W.region (Jx.fieldAddr rfl rfl ?_))))))
 (refine Jx.loadAg rfl 0 rfl rfl rfl rfl ?_)
 (refine J.call (cv) rfl (evs_args rfl) rfl ?_; rintro _ _ ⟨rfl, rfl⟩; simp only [la1, la2, la3])
 (refine J.nil (N.seq (W.cT rfl ?_)))
 (refine W.seq (W.region (Jx.move rfl rfl ?_)))
 (refine J.call (c5) rfl (evs_args rfl) rfl ?_; rintro _ _ ⟨rfl, rfl⟩; simp only [la1, la2, la3])
 (refine Jx.cat rfl rfl (by first | omega | (simp only [List.length_append, List.length_cons, List.length_nil]; omega)) rfl ?_)
 (refine Jx.assign rfl rfl (J.nil (N.seq (W.ret (N.noGotoRet ?_)))))
 (refine id ?_; rotate_left))
        exact N.retD (rs := [.tmp 2]) (L1 := []) rfl (.tmp rfl .nil) (List.nil_sublist _) ⟨by simp [oneOr], rfl⟩
      | false =>
        rw [hb] at cv
        have hfc : fineCt m.cert = true := by rcases g.2.1 with h | h; (rw [hb] at h; cases h); exact h
        have lc := encCt_len hfc
        rw [encO, hfc, if_pos rfl] at cc
        have hj : justE m.cert = flagB true ++ textB (encCt m.cert) := by rw [justE, if_neg (by rw [hb]; simp)]
        have lt := textB_len lc (by omega)
        rw [hj]
        clear hj
        have c5 := rflag_ok true
        have c6 := rtext_ok (encCt m.cert) (by omega)
        generalize flagB true = fb at *
        generalize textB (encCt m.cert) = tc at *
        generalize encCt m.cert = ec at *
        focus (
 (refine W.seq (W.region ?_))
 (refine J.boxAg rfl rfl ?_; intro b')
 (refine Jx.assign rfl rfl (J.nil (N.seq (W.seq ?_))))
 (refine W.draw follows ?_)
 (refine JD.calm rfl (by decide +kernel) ?_)
 (refine Cx.fieldAddr rfl rfl ?_)
 (refine Cx.load rfl 0 rfl rfl rfl ?_)
 (refine Cx.numByte m.kind.toNat rfl rfl hkn rfl ?_)
 (refine SegC.q (Qs.buildBytes [UInt8.ofNat m.kind.toNat] rfl rfl rfl (by decide) (by decide)) rfl ?_)
 (refine Cx.bytesStr rfl rfl ?_)
 (refine Cx.fieldAddr rfl rfl ?_)
 (refine Cx.load rfl 0 rfl rfl rfl ?_)
 (refine SegC.q (Qs.call (Lc := []) (c1) (fun s L' h => h) (List.Perm.refl _) (evs_args rfl)) rfl ?_)
 (refine Cx.cat rfl rfl (by first | omega | (simp only [List.length_append, List.length_cons, List.length_nil]; omega)) rfl ?_)
 (refine Cx.fieldAddr rfl rfl ?_)
 (refine Cx.load rfl 0 rfl rfl rfl ?_)
 (refine SegC.q (Qs.call (Lc := []) (c2) (fun s L' h => h) (List.Perm.refl _) (evs_args rfl)) rfl ?_)
 (refine Cx.cat rfl rfl (by first | omega | (simp only [List.length_append, List.length_cons, List.length_nil]; omega)) rfl ?_)
 (refine Cx.fieldAddr rfl rfl ?_)
 (refine Cx.load rfl 0 rfl rfl rfl ?_)
 (refine SegC.q (Qs.call (Lc := []) (c3) (fun s L' h => h) (List.Perm.refl _) (evs_args rfl)) rfl ?_)
 (refine Cx.cat rfl rfl (by first | omega | (simp only [List.length_append, List.length_cons, List.length_nil]; omega)) rfl ?_)
 (refine Cx.assign rfl rfl ?_)
 (refine SegC.nil ?_)
 (refine N.seq (W.seq (W.seq (W.region (Jx.fieldAddr rfl rfl ?_)))))
 (refine Jx.load rfl 0 rfl rfl rfl ?_)
 (refine Jx.eqlI rfl rfl rfl (J.nil (N.seq (W.cF rfl ?_))))
 (refine W.skip (N.seq (W.seq (W.seq (W.region (Jx.fieldAddr rfl rfl ?_))))))
 (refine Jx.load rfl 0 rfl rfl rfl ?_)
 (refine Jx.neqI rfl rfl rfl (J.nil (N.seq (W.cF rfl ?_))))
 (refine W.skip (N.seq (W.seq (W.seq (W.region (Jx.fieldAddr rfl rfl ?_))))))
 (refine Jx.loadAg rfl 0 rfl rfl rfl rfl ?_)
 (refine J.call (cv) rfl (evs_args rfl) rfl ?_; rintro _ _ ⟨rfl, rfl⟩; simp only [la1, la2, la3])
 (refine J.nil (N.seq (W.cF rfl ?_)))
 (refine W.skip (N.seq (W.seq (W.region (Jx.fieldAddr rfl rfl ?_)))))
 (refine Jx.loadAg rfl 0 rfl rfl rfl rfl ?_)
 (refine J.call (cc) rfl (evs_args rfl) rfl ?_; rintro _ _ ⟨rfl, rfl⟩; simp only [la1, la2, la3])
 (refine Jx.move rfl rfl (Jx.extract rfl rfl rfl ?_))
 (refine Jx.extract rfl rfl rfl ?_)
 (refine Jx.assign rfl rfl (Jx.assign rfl rfl (J.nil (N.seq (W.seq (W.region (Jx.move rfl rfl ?_)))))))
 (refine J.call (c5) rfl (evs_args rfl) rfl ?_; rintro _ _ ⟨rfl, rfl⟩; simp only [la1, la2, la3])
 (refine Jx.cat rfl rfl (by first | omega | (simp only [List.length_append, List.length_cons, List.length_nil]; omega)) rfl ?_)
 (refine Jx.move rfl rfl ?_)
 (refine J.call (c6) rfl (evs_args rfl) rfl ?_; rintro _ _ ⟨rfl, rfl⟩; simp only [la1, la2, la3])
 (refine Jx.cat rfl rfl (by first | omega | (simp only [List.length_append, List.length_cons, List.length_nil]; omega)) rfl ?_)
 (refine Jx.assign rfl rfl (J.nil (N.seq (W.ret ?_))))
 (refine id ?_; rotate_left))
        exact N.retD (rs := [.tmp 2]) (L1 := []) rfl (.tmp rfl .nil) (List.nil_sublist _) ⟨by simp [oneOr], rfl⟩
    · have g := f.k2 (by omega)
      have htl : tailM m = m.digest := by rw [tailM, if_neg e1, if_neg e3]
      rw [htl] at ht ⊢
      clear he htl
      focus (
 (refine W.seq (W.region ?_))
 (refine J.boxAg rfl rfl ?_; intro b')
 (refine Jx.assign rfl rfl (J.nil (N.seq (W.seq ?_))))
 (refine W.draw follows ?_)
 (refine JD.calm rfl (by decide +kernel) ?_)
 (refine Cx.fieldAddr rfl rfl ?_)
 (refine Cx.load rfl 0 rfl rfl rfl ?_)
 (refine Cx.numByte m.kind.toNat rfl rfl hkn rfl ?_)
 (refine SegC.q (Qs.buildBytes [UInt8.ofNat m.kind.toNat] rfl rfl rfl (by decide) (by decide)) rfl ?_)
 (refine Cx.bytesStr rfl rfl ?_)
 (refine Cx.fieldAddr rfl rfl ?_)
 (refine Cx.load rfl 0 rfl rfl rfl ?_)
 (refine SegC.q (Qs.call (Lc := []) (c1) (fun s L' h => h) (List.Perm.refl _) (evs_args rfl)) rfl ?_)
 (refine Cx.cat rfl rfl (by first | omega | (simp only [List.length_append, List.length_cons, List.length_nil]; omega)) rfl ?_)
 (refine Cx.fieldAddr rfl rfl ?_)
 (refine Cx.load rfl 0 rfl rfl rfl ?_)
 (refine SegC.q (Qs.call (Lc := []) (c2) (fun s L' h => h) (List.Perm.refl _) (evs_args rfl)) rfl ?_)
 (refine Cx.cat rfl rfl (by first | omega | (simp only [List.length_append, List.length_cons, List.length_nil]; omega)) rfl ?_)
 (refine Cx.fieldAddr rfl rfl ?_)
 (refine Cx.load rfl 0 rfl rfl rfl ?_)
 (refine SegC.q (Qs.call (Lc := []) (c3) (fun s L' h => h) (List.Perm.refl _) (evs_args rfl)) rfl ?_)
 (refine Cx.cat rfl rfl (by first | omega | (simp only [List.length_append, List.length_cons, List.length_nil]; omega)) rfl ?_)
 (refine Cx.assign rfl rfl ?_)
 (refine SegC.nil ?_)
 (refine N.seq (W.seq (W.seq (W.region (Jx.fieldAddr rfl rfl ?_)))))
 (refine Jx.load rfl 0 rfl rfl rfl ?_)
 (refine Jx.eqlI rfl rfl rfl (J.nil (N.seq (W.cF rfl ?_))))
 (refine W.skip (N.seq (W.seq (W.seq (W.region (Jx.fieldAddr rfl rfl ?_))))))
 (refine Jx.load rfl 0 rfl rfl rfl ?_)
 (refine Jx.neqI rfl rfl rfl (J.nil (N.seq (W.cT rfl ?_))))
 (refine W.seq (W.region (Jx.move rfl rfl (Jx.fieldAddr rfl rfl ?_))))
 (refine Jx.load rfl 0 rfl rfl rfl ?_)
 (refine Jx.cat rfl rfl (by first | omega | (simp only [List.length_append, List.length_cons, List.length_nil]; omega)) rfl ?_)
 (refine Jx.assign rfl rfl (J.nil (N.seq (W.ret (N.noGotoRet ?_)))))
 (refine id ?_; rotate_left))
      exact N.retD (rs := [.tmp 2]) (L1 := []) rfl (.tmp rfl .nil) (List.nil_sublist _) ⟨by simp [oneOr], rfl⟩
theorem rvcheck_ok (m : Ms) (hb : ShortB m.block) : FnC Tryz.prog 24 [.agg (msC m)] [] (fun v L => v = int (codeB (fineMs m) 220) ∧ L = []) := by
  have c := rvfine_ok m hb
  refine FnC.intro Tryz.func24 rfl Tryz.ntmps24 rfl fun Z w0 hG => ?_
  cases hf : fineMs m <;> rw [hf] at c
  · focus (
 (refine W.seq (W.region ?_))
 (refine J.boxAg rfl rfl ?_; intro b')
 (refine Jx.assign rfl rfl (J.nil (N.seq (W.seq (W.seq (W.region (Jx.loadAll rfl 0 rfl rfl rfl ?_)))))))
 (refine J.call (c) rfl (evs_args rfl) rfl ?_; rintro _ _ ⟨rfl, rfl⟩; simp only [la1, la2, la3])
 (refine Jx.not rfl rfl (J.nil (N.seq (W.cT rfl ?_))))
 (refine W.seq (W.region (Jx.assign rfl rfl (J.nil (N.seq (W.ret (N.noGotoRet ?_)))))))
 (refine id ?_; rotate_left))
    exact N.retD (rs := [.tmp 2]) (L1 := []) rfl (.tmp rfl .nil) (List.nil_sublist _) ⟨rfl, rfl⟩
  · focus (
 (refine W.seq (W.region ?_))
 (refine J.boxAg rfl rfl ?_; intro b')
 (refine Jx.assign rfl rfl (J.nil (N.seq (W.seq (W.seq (W.region (Jx.loadAll rfl 0 rfl rfl rfl ?_)))))))
 (refine J.call (c) rfl (evs_args rfl) rfl ?_; rintro _ _ ⟨rfl, rfl⟩; simp only [la1, la2, la3])
 (refine Jx.not rfl rfl (J.nil (N.seq (W.cF rfl ?_))))
 (refine W.skip (N.seq (W.seq (W.region (Jx.assign rfl rfl (J.nil (N.seq (W.ret ?_))))))))
 (refine id ?_; rotate_left))
    exact N.retD (rs := [.tmp 2]) (L1 := []) rfl (.tmp rfl .nil) (List.nil_sublist _) ⟨rfl, rfl⟩
theorem rvencode_ok (m : Ms) (hb : ShortB m.block) : FnC Tryz.prog 19 [.agg (msC m)] [] (fun v L => v = .tup [str (encO fineMs encMs m), int (codeB (fineMs m) 220)] ∧ L = []) := by
  have c := rvfine_ok m hb
  refine FnC.intro Tryz.func19 rfl Tryz.ntmps19 rfl fun Z w0 hG => ?_
  unfold encO
  cases hf : fineMs m with
  | false =>
    rw [hf] at c
    focus (
 (refine W.seq (W.region ?_))
 (refine J.boxAg rfl rfl ?_; intro b')
 (refine Jx.assign rfl rfl (Jx.assign rfl rfl (J.nil (N.seq (W.seq (W.seq (W.region (Jx.loadAll rfl 0 rfl rfl rfl ?_))))))))
 (refine J.call (c) rfl (evs_args rfl) rfl ?_; rintro _ _ ⟨rfl, rfl⟩; simp only [la1, la2, la3])
 (refine Jx.not rfl rfl (J.nil (N.seq (W.cT rfl ?_))))
 (refine W.seq (W.region (Jx.assign rfl rfl (Jx.assign rfl rfl (J.nil (N.seq (W.ret (N.noGotoRet ?_))))))))
 (refine id ?_; rotate_left))
    exact N.retD (rs := [.tmp 2, .tmp 3]) (L1 := []) rfl (.tmp rfl (.tmp rfl .nil)) (List.nil_sublist _) ⟨rfl, rfl⟩
  | true =>
    rw [hf] at c
    have c2 := rvwritten_ok m hf
    focus (
 (refine W.seq (W.region ?_))
 (refine J.boxAg rfl rfl ?_; intro b')
 (refine Jx.assign rfl rfl (Jx.assign rfl rfl (J.nil (N.seq (W.seq (W.seq (W.region (Jx.loadAll rfl 0 rfl rfl rfl ?_))))))))
 (refine J.call (c) rfl (evs_args rfl) rfl ?_; rintro _ _ ⟨rfl, rfl⟩; simp only [la1, la2, la3])
 (refine Jx.not rfl rfl (J.nil (N.seq (W.cF rfl ?_))))
 (refine W.skip (N.seq (W.seq (W.region (Jx.loadAll rfl 0 rfl rfl rfl ?_)))))
 (refine J.call (c2) rfl (evs_args rfl) rfl ?_; rintro _ _ ⟨rfl, rfl⟩; simp only [la1, la2, la3])
 (refine Jx.assign rfl rfl (Jx.assign rfl rfl (J.nil (N.seq (W.ret ?_)))))
 (refine id ?_; rotate_left))
    exact N.retD (rs := [.tmp 2, .tmp 3]) (L1 := []) rfl (.tmp rfl (.tmp rfl .nil)) (List.nil_sublist _) ⟨rfl, rfl⟩
set_option maxHeartbeats 8000000 in
theorem rvdecode_ok (s : List UInt8) (hs : s.length ≤ 1099511627776) : FnC Tryz.prog 21 [str s] [] (fun v L => (∃ o, DecR fineMs encMs s o ∧ v = .tup [.agg (msC (o.getD ms0)), int (codeO o 220)]) ∧ L = []) := by
  refine FnC.intro Tryz.func21 rfl Tryz.ntmps21 rfl fun Z w0 hG => ?_
  match s, hs with
  | [], _ =>
    focus (
 (refine W.seq (W.region ?_))
 (refine J.alloc (by simp only [List.map_cons, List.map_nil]; rfl) rfl rfl ?_; intro b')
 (refine Jx.assign rfl rfl (J.nil (N.seq (W.seq (W.seq (W.region (Jx.move rfl rfl (Jx.eqlS rfl rfl rfl (J.nil (N.seq (W.cT rfl ?_)))))))))))
 (refine W.seq (W.region (Jx.buildB rfl rfl rfl rfl rfl ?_)))
 (refine J.storeAll rfl rfl rfl 0 rfl rfl rfl ?_)
 (refine Jx.assign rfl rfl (J.nil (N.seq (W.ret (N.noGotoRet ?_)))))
 (refine id ?_; rotate_left))
    refine N.objSub 0 (msC ms0) rfl msz_sub rfl ?_
    refine N.retD (rs := [.cell 2 tMs, .tmp 3]) (L1 := []) rfl (.cell rfl 0 rfl agMs (.tmp rfl .nil)) (List.nil_sublist _) ⟨⟨none, fun y hy hz => ?_, rfl⟩, rfl⟩
    have := encMs_pos y
    rw [hz] at this; simp at this
  | k0 :: s1, hs =>
    have hl0 : (0 : Int) < ((k0 :: s1).length : Int) := by simp only [List.length_cons]; omega
    have hl1 : (1 : Int) ≤ ((k0 :: s1).length : Int) := by simp only [List.length_cons]; omega
    have hg0 : (k0 :: s1).getD (Int.toNat 0) 0 = k0 := rfl
    have hne : ¬ (k0 :: s1) = [] := by simp
    have hd : (k0 :: s1).drop (Int.toNat 1) = s1 := rfl
    have hk : bytesP 1 (some (k0 :: s1)) = ([k0], rf s1 0) := by simp [bytesP, rf]
    have hs1 : s1.length ≤ 1099511627776 := by simp only [List.length_cons] at hs; omega
    generalize hst : k0 :: s1 = st at *
    clear hst
    generalize hkd : ((k0.toNat : Nat) : Int) = kd at *
    have c2 := fun b => r_Text b s1 0 100 hs1
    focus (
 (refine W.seq (W.region ?_))
 (refine J.alloc (by simp only [List.map_cons, List.map_nil]; rfl) rfl rfl ?_; intro b')
 (refine Jx.assign rfl rfl (J.nil (N.seq (W.seq (W.seq (W.region (Jx.move rfl rfl (Jx.eqlS rfl rfl rfl (J.nil (N.seq (W.cF rfl ?_)))))))))))
 (refine W.skip (N.seq (W.seq (W.region (Jx.move rfl rfl ?_)))))
 (refine Jx.sliceSl rfl rfl (by decide) hl1 rfl ?_; rw [hd])
 (refine Jx.buildB rfl rfl rfl rfl rfl ?_)
 (refine J.boxAg rfl rfl ?_; intro b')
 (refine Jx.assign rfl rfl (J.nil (N.seq (W.seq (W.region (Jx.move rfl rfl ?_))))))
 (refine Jx.indexS (m := 0) rfl rfl (by decide) hl0 rfl ?_; rw [hg0])
 (refine Jx.byteNum rfl rfl rfl ?_; rw [hkd])
 (refine Jx.buildB rfl rfl rfl rfl rfl ?_)
 (refine J.alloc (by simp only [List.map_cons, List.map_nil]; rfl) rfl rfl ?_; intro b')
 (refine J.storeAll rfl rfl rfl 0 rfl rfl rfl ?_)
 (refine J.nil (N.seq (W.seq (W.region (Jx.move rfl rfl ?_)))))
 (refine J.call1 1 ((c2 _)) rfl (evs_args rfl) rfl (by rintro _ _ ⟨f, s2, e2, rfl, rfl, hs2, hf⟩; exact ⟨_, rfl⟩) ?_; rintro _ _ ⟨f, s2, e2, rfl, ⟨⟩, hs2, hf⟩; simp only [la4, la5])
 (refine Jx.fieldAddr rfl rfl ?_)
 (refine J.st 0 rfl rfl rfl rfl rfl rfl ?_)
 (refine J.nil (N.seq (W.seq (W.region (Jx.move rfl rfl ?_)))))
 (refine J.call1 1 ((r_Num _ s2 e2 (by omega))) rfl (evs_args rfl) rfl (by rintro _ _ ⟨q, s3, e3, rfl, rfl, hs3, hq⟩; exact ⟨_, rfl⟩) ?_; rintro _ _ ⟨q, s3, e3, rfl, ⟨⟩, hs3, hq⟩; simp only [la4, la5])
 (refine Jx.fieldAddr rfl rfl ?_)
 (refine J.st 0 rfl rfl rfl rfl rfl rfl ?_)
 (refine J.nil (N.seq (W.seq (W.region (Jx.move rfl rfl ?_)))))
 (refine J.call1 1 ((r_Num _ s3 e3 (by omega))) rfl (evs_args rfl) rfl (by rintro _ _ ⟨v, s4, e4, rfl, rfl, hs4, hv⟩; exact ⟨_, rfl⟩) ?_; rintro _ _ ⟨v, s4, e4, rfl, ⟨⟩, hs4, hv⟩; simp only [la4, la5])
 (refine Jx.fieldAddr rfl rfl ?_)
 (refine J.st 0 rfl rfl rfl rfl rfl rfl ?_)
 (refine J.nil (N.seq (W.seq (W.region (Jx.assign rfl rfl (J.nil (N.seq (W.seq (W.seq (W.region (Jx.fieldAddr rfl rfl ?_)))))))))))
 (refine Jx.load rfl 0 rfl rfl rfl ?_)
 (refine J.nil (N.seq ?_))
 (refine id ?_; rotate_left))
    rename_i p2 p4
    have mk : ∀ (x : Ms) ok st', x.kind = kd → x.who = f → x.epoch = (q : Int) → x.view = (v : Int) → TailM 100000 x ok (rf s4 e4) st' → ReadM 100 100000 st x ok st' := fun x ok st' h1 h2 h3 h4 h5 =>
      ⟨[k0], _, _, q, _, v, _, hk, by rw [h1, ← hkd]; rfl, by rw [h2]; exact hf, hq, h3, hv, h4, h5⟩
    refine W.joinE (α := Ms × Bool × List UInt8 × Int × Int) (fun x => [(6, int x.2.2.2.2), (0, str st), (4, ptr p4), (5, ptr b'), (2, ptr p2)]) (fun x => [.obj b' tMs (msC x.1), rrO p4 x.2.2.1 x.2.2.2.1, .obj p2 tMs msz]) (fun x => ShortB x.1.block ∧ (x.2.2.2.2 = 0 ↔ x.2.1 = true) ∧ ReadM 100 100000 st x.1 x.2.1 (rf x.2.2.1 x.2.2.2.1)) ?_ ?_
    · by_cases e1 : kd = 1
      · focus (
 (refine W.block (W.seq (W.region (Jx.eqlI rfl rfl rfl (Jx.assign rfl rfl (J.nil (N.seq (W.cT rfl ?_))))))))
 (refine W.region (Jx.move rfl rfl ?_))
 (refine J.call1 1 ((r_Text _ s4 e4 100000 (by omega))) rfl (evs_args rfl) rfl (by rintro _ _ ⟨t, s5, e5, rfl, rfl, hs5, ht⟩; exact ⟨_, rfl⟩) ?_; rintro _ _ ⟨t, s5, e5, rfl, ⟨⟩, hs5, ht⟩; simp only [la4, la5])
 (refine J.call (Lc := []) (rbdecode_ok t (by have := rf_len ht; omega)) rfl (evs_args rfl) rfl ?_; rintro _ _ ⟨⟨o, ho, rfl⟩, rfl⟩; simp only [la1, la2, la3])
 (refine Jx.move rfl rfl (Jx.extract rfl rfl rfl ?_))
 (refine Jx.extract rfl rfl rfl ?_)
 (refine Jx.fieldAddr rfl rfl ?_)
 (refine J.storeAg rfl rfl rfl 0 rfl rfl rfl rfl ?_)
 (refine Jx.assign rfl rfl (J.nil (N.noGotoNormal ?_)))
 (refine id ?_; rotate_left))
        refine N.objSub 0 (msC ⟨kd, f, q, v, [], o.getD bk0, ct0⟩) rfl (msB_sub _ _ _ _ _ _) rfl ?_
        exact N.joinE (⟨kd, f, q, v, [], o.getD bk0, ct0⟩, o.isSome, s5, e5, codeO o 210) ⟨decB_short ho, codeO_zero (by decide), mk _ _ _ rfl rfl rfl rfl ⟨fun _ => ⟨t, o, ht, ho, rfl, rfl, rfl, rfl⟩, fun h => by simp only at h; omega, fun h => absurd e1 h⟩⟩ rfl ⟨ref0 rfl, ref0 rfl, ref0 rfl, ref0 rfl, ref0 rfl, trivial⟩
      · by_cases e3' : kd = 3
        · focus (
 (refine W.block (W.seq (W.region (Jx.eqlI rfl rfl rfl (Jx.assign rfl rfl (J.nil (N.seq (W.cF rfl ?_))))))))
 (refine W.seq (W.region (Jx.eqlI rfl rfl rfl (Jx.assign rfl rfl (J.nil (N.seq (W.cT rfl ?_)))))))
 (refine W.seq (W.region (Jx.move rfl rfl ?_)))
 (refine J.call1 1 ((r_Flag _ s4 e4 (by omega))) rfl (evs_args rfl) rfl (by rintro _ _ ⟨fl, s5, e5, rfl, rfl, hs5, hfl⟩; exact ⟨_, rfl⟩) ?_; rintro _ _ ⟨fl, s5, e5, rfl, ⟨⟩, hs5, hfl⟩; simp only [la4, la5])
 (refine J.nil (N.seq ?_))
 (refine id ?_; rotate_left))
          cases fl with
          | false =>
            focus (
 (refine W.cF rfl ?_)
 (refine W.skip (N.noGotoNormal ?_))
 (refine id ?_; rotate_left))
            refine N.objSub 0 (msC ⟨kd, f, q, v, [], bk0, ct0⟩) rfl (msJ_sub _ _ _ _ _) rfl ?_
            exact N.joinE (⟨kd, f, q, v, [], bk0, ct0⟩, true, s5, e5, 0) ⟨bk0_short, by simp, mk _ _ _ rfl rfl rfl rfl ⟨fun h => absurd h e1, fun _ => ⟨⟨false, _, hfl, fun _ => ⟨rfl, rfl, rfl⟩, fun h => by cases h⟩, rfl, rfl⟩, fun _ h => absurd e3' h⟩⟩ rfl ⟨ref0 rfl, ref0 rfl, ref0 rfl, ref0 rfl, ref0 rfl, trivial⟩
          | true =>
            focus (
 (refine W.cT rfl ?_)
 (refine W.region (Jx.move rfl rfl ?_))
 (refine J.call1 1 ((r_Text _ s5 e5 100000 (by omega))) rfl (evs_args rfl) rfl (by rintro _ _ ⟨t, s6, e6, rfl, rfl, hs6, ht⟩; exact ⟨_, rfl⟩) ?_; rintro _ _ ⟨t, s6, e6, rfl, ⟨⟩, hs6, ht⟩; simp only [la4, la5])
 (refine J.call (Lc := []) (rcdecode_ok t (by have := rf_len ht; omega)) rfl (evs_args rfl) rfl ?_; rintro _ _ ⟨⟨o, ho, rfl⟩, rfl⟩; simp only [la1, la2, la3])
 (refine Jx.move rfl rfl (Jx.extract rfl rfl rfl ?_))
 (refine Jx.extract rfl rfl rfl ?_)
 (refine Jx.fieldAddr rfl rfl ?_)
 (refine J.storeAg rfl rfl rfl 0 rfl rfl rfl rfl ?_)
 (refine Jx.assign rfl rfl (J.nil (N.noGotoNormal ?_)))
 (refine id ?_; rotate_left))
            refine N.objSub 0 (msC ⟨kd, f, q, v, [], bk0, o.getD ct0⟩) rfl (msK_sub _ _ _ _ _ _) rfl ?_
            exact N.joinE (⟨kd, f, q, v, [], bk0, o.getD ct0⟩, o.isSome, s6, e6, codeO o 3) ⟨bk0_short, codeO_zero (by decide), mk _ _ _ rfl rfl rfl rfl ⟨fun h => absurd h e1, fun _ => ⟨⟨true, _, hfl, (fun h => by cases h), fun _ => ⟨t, o, ht, ho, rfl, rfl⟩⟩, rfl, rfl⟩, fun _ h => absurd e3' h⟩⟩ rfl ⟨ref0 rfl, ref0 rfl, ref0 rfl, ref0 rfl, ref0 rfl, trivial⟩
        · focus (
 (refine W.block (W.seq (W.region (Jx.eqlI rfl rfl rfl (Jx.assign rfl rfl (J.nil (N.seq (W.cF rfl ?_))))))))
 (refine W.seq (W.region (Jx.eqlI rfl rfl rfl (Jx.assign rfl rfl (J.nil (N.seq (W.cF rfl ?_)))))))
 (refine W.region (Jx.move rfl rfl ?_))
 (refine J.call1 1 ((r_Bytes _ s4 e4 32 (by omega))) rfl (evs_args rfl) rfl (by rintro _ _ ⟨t, s5, e5, rfl, rfl, hs5, ht⟩; exact ⟨_, rfl⟩) ?_; rintro _ _ ⟨t, s5, e5, rfl, ⟨⟩, hs5, ht⟩; simp only [la4, la5])
 (refine Jx.fieldAddr rfl rfl ?_)
 (refine J.st 0 rfl rfl rfl rfl rfl rfl ?_)
 (refine J.nil (N.noGotoNormal ?_))
 (refine id ?_; rotate_left))
          refine N.objSub 0 (msC ⟨kd, f, q, v, t, bk0, ct0⟩) rfl (msJ_sub _ _ _ _ _) rfl ?_
          exact N.joinE (⟨kd, f, q, v, t, bk0, ct0⟩, true, s5, e5, 0) ⟨bk0_short, by simp, mk _ _ _ rfl rfl rfl rfl ⟨fun h => absurd h e1, fun h => absurd h e3', fun _ _ => ⟨ht, rfl, rfl, rfl⟩⟩⟩ rfl ⟨ref0 rfl, ref0 rfl, ref0 rfl, ref0 rfl, ref0 rfl, trivial⟩
    · rintro ⟨x, ok, sx, ex, e7⟩ ⟨hsh, h7, hr⟩
      simp only at hsh h7 hr ⊢
      have ce := r_End p4 sx ex
      have ck := rvfine_ok x hsh
      cases hfx : fineMs x with
      | false =>
        rw [hfx] at ck
        focus (
 (refine N.seq (W.seq (W.seq (W.region (Jx.move rfl rfl ?_)))))
 (refine J.call1 1 (ce) rfl (evs_args rfl) rfl (by rintro _ _ ⟨e, s9, c9, rfl, rfl, he⟩; exact ⟨_, rfl⟩) ?_; rintro _ _ ⟨e, s9, c9, rfl, ⟨⟩, he⟩; simp only [la4, la5])
 (refine Jx.neqI rfl rfl rfl (Jx.move rfl rfl ?_))
 (refine' J.guardOr rfl rfl rfl rfl rfl rfl rfl rfl (fun _ => ?_) ?_; rotate_left)
 (refine J.gY rfl rfl rfl ?_)
 (refine Jx.move rfl rfl (J.gY rfl rfl rfl ?_))
 (refine Jx.neqI rfl rfl rfl (J.nil ?_))
 (refine N.joinedN rfl rfl rfl)
 (refine Jx.move rfl rfl ?_)
 (refine' J.guardOr rfl rfl rfl rfl rfl rfl rfl rfl (fun _ => ?_) ?_; rotate_left)
 (refine J.gY rfl rfl rfl ?_)
 (refine Jx.loadAll rfl 0 rfl rfl rfl ?_)
 (refine J.gY rfl rfl rfl ?_)
 (refine J.cP ck (evs_args rfl) rfl ?_; try simp only)
 (refine J.gY rfl rfl rfl ?_)
 (refine Jx.not rfl rfl (J.nil ?_))
 (refine N.joinedN rfl rfl rfl)
 (refine Jx.move rfl rfl (J.gN rfl rfl rfl rfl ?_))
 (refine J.gN rfl rfl rfl rfl ?_)
 (refine J.gN rfl rfl rfl rfl ?_)
 (refine J.gN rfl rfl rfl rfl ?_)
 (refine Jx.pT rfl rfl rfl ?_)
 (refine J.nil (N.seq (W.cT rfl ?_)))
 (refine W.seq (W.region (Jx.buildB rfl rfl rfl rfl rfl ?_)))
 (refine J.storeAll rfl rfl rfl 2 rfl rfl rfl ?_)
 (refine Jx.assign rfl rfl (J.nil (N.seq (W.ret (N.noGotoRet ?_)))))
 (refine id ?_; rotate_left))
        refine N.objSub 2 (msC ms0) rfl msz_sub rfl ?_
        refine N.retD (rs := [.cell 2 tMs, .tmp 3]) (L1 := []) rfl (.cell rfl 2 rfl agMs (.tmp rfl .nil)) (List.nil_sublist _) ⟨⟨none, fun y hy hz => ?_, rfl⟩, rfl⟩
        obtain ⟨rfl, _⟩ := hr.whole (by decide) (by decide) hy (r := []) (by rw [List.append_nil, hz])
        rw [hfx] at hy; cases hy
      | true =>
        rw [hfx] at ck
        have cw := rvwritten_ok x hfx
        focus (
 (refine N.seq (W.seq (W.seq (W.region (Jx.move rfl rfl ?_)))))
 (refine J.call1 1 (ce) rfl (evs_args rfl) rfl (by rintro _ _ ⟨e, s9, c9, rfl, rfl, he⟩; exact ⟨_, rfl⟩) ?_; rintro _ _ ⟨e, s9, c9, rfl, ⟨⟩, he⟩; simp only [la4, la5])
 (refine Jx.neqI rfl rfl rfl (Jx.move rfl rfl ?_))
 (refine' J.guardOr rfl rfl rfl rfl rfl rfl rfl rfl (fun _ => ?_) ?_; rotate_left)
 (refine J.gY rfl rfl rfl ?_)
 (refine Jx.move rfl rfl (J.gY rfl rfl rfl ?_))
 (refine Jx.neqI rfl rfl rfl (J.nil ?_))
 (refine N.joinedN rfl rfl rfl)
 (refine Jx.move rfl rfl ?_)
 (refine' J.guardOr rfl rfl rfl rfl rfl rfl rfl rfl (fun _ => ?_) ?_; rotate_left)
 (refine J.gY rfl rfl rfl ?_)
 (refine Jx.loadAll rfl 0 rfl rfl rfl ?_)
 (refine J.gY rfl rfl rfl ?_)
 (refine J.cP ck (evs_args rfl) rfl ?_; try simp only)
 (refine J.gY rfl rfl rfl ?_)
 (refine Jx.not rfl rfl (J.nil ?_))
 (refine N.joinedN rfl rfl rfl)
 (refine Jx.move rfl rfl ?_)
 (refine' J.guardOr rfl rfl rfl rfl rfl rfl rfl rfl (fun _ => ?_) ?_; rotate_left)
 (refine J.gY rfl rfl rfl ?_)
 (refine Jx.loadAll rfl 0 rfl rfl rfl ?_)
 (refine J.gY rfl rfl rfl ?_)
 (refine J.cP cw (evs_args rfl) rfl ?_; try simp only)
 (refine J.gY rfl rfl rfl ?_)
 (refine Jx.move rfl rfl (J.gY rfl rfl rfl ?_))
 (refine Jx.neqS rfl rfl rfl (J.nil ?_))
 (refine N.joinedN rfl rfl rfl)
 (refine J.nil (N.seq ?_))
 (refine id ?_; rotate_left))
        refine W.cond rfl (fun hb => ?_) (fun hb => ?_)
        · focus (
 (refine W.seq (W.region (Jx.buildB rfl rfl rfl rfl rfl ?_)))
 (refine J.storeAll rfl rfl rfl 2 rfl rfl rfl ?_)
 (refine Jx.assign rfl rfl (J.nil (N.seq (W.ret (N.noGotoRet ?_)))))
 (refine id ?_; rotate_left))
          refine N.objSub 2 (msC ms0) rfl msz_sub rfl ?_
          refine N.retD (rs := [.cell 2 tMs, .tmp 3]) (L1 := []) rfl (.cell rfl 2 rfl agMs (.tmp rfl .nil)) (List.nil_sublist _) ⟨⟨none, fun y hy hz => ?_, rfl⟩, rfl⟩
          obtain ⟨rfl, h1, h2⟩ := hr.whole (by decide) (by decide) hy (r := []) (by rw [List.append_nil, hz])
          rw [he.2 h2, h7.2 h1, hz] at hb
          simp at hb
        · focus (
 (refine W.skip (N.seq (W.seq (W.region (Jx.loadAll rfl 0 rfl rfl rfl ?_)))))
 (refine J.storeAll rfl rfl rfl 2 rfl rfl rfl ?_)
 (refine Jx.assign rfl rfl (J.nil (N.seq (W.ret ?_))))
 (refine id ?_; rotate_left))
          refine N.retD (rs := [.cell 2 tMs, .tmp 3]) (L1 := []) rfl (.cell rfl 2 rfl agMs (.tmp rfl .nil)) (List.nil_sublist _) ⟨⟨some x, ⟨hfx, ?_⟩, rfl⟩, rfl⟩
          simp only [Bool.or_eq_false_iff, decide_eq_false_iff_not, Classical.not_not] at hb
          exact hb.2
theorem decM_self {s : List UInt8} {o : Option Ms} (h : DecR fineMs encMs s o) : FnC Tryz.prog 22 [.agg (msC (o.getD ms0)), .agg (msC (o.getD ms0))] [] (fun v L => v = bool true ∧ L = []) := by
  have hs : ((o.getD ms0).block.head.skips.length ≤ 1048576 ∧ (o.getD ms0).block.txs.length ≤ 1048576 ∧ (∀ t ∈ (o.getD ms0).block.txs, t.members.length ≤ 1048576) ∧ (o.getD ms0).block.just.signers.length ≤ 1048576) ∧ (o.getD ms0).cert.signers.length ≤ 1048576 := by
    have h0 : (bk0.head.skips.length ≤ 1048576 ∧ bk0.txs.length ≤ 1048576 ∧ (∀ t ∈ bk0.txs, t.members.length ≤ 1048576) ∧ bk0.just.signers.length ≤ 1048576) := ⟨by decide, by decide, by simp [bk0], by decide⟩
    cases o with
    | none => exact ⟨h0, by decide⟩
    | some y =>
      have f := fineMs_spec h.1
      simp only [Option.getD_some]
      by_cases e1 : y.kind = 1
      · obtain ⟨g1, g2, g3, g4⟩ := fineBk_small (f.k1 e1).2.2
        exact ⟨⟨by omega, by omega, fun t ht => by have := g3 t ht; omega, by omega⟩, by rw [(f.k1 e1).2.1]; decide⟩
      · by_cases e3 : y.kind = 3
        · obtain ⟨q1, q2, q3⟩ := f.k3 e3
          rw [q3]
          refine ⟨h0, ?_⟩
          rcases q2 with q2 | q2
          · rw [bare_eq q2]; decide
          · have := (fineCt_spec q2).2.1; omega
        · obtain ⟨q1, q2, q3⟩ := f.k2 (by have := f.kind; omega)
          rw [q3, q2]
          exact ⟨h0, by decide⟩
  have c := sameMs_ok (o.getD ms0) (o.getD ms0) hs.1.1 hs.1.2.1 hs.1.2.2.1 hs.1.2.2.2 hs.2
  rwa [decide_eq_true rfl] at c
theorem bigB_short {b : Bk} (h : bigBk b = false) : ShortB b := by
  have h0 := (bigBk_no h).1
  simp only [bigBk, bigH, Bool.or_eq_false_iff, Bool.not_eq_false', decide_eq_false_iff_not] at h
  obtain ⟨⟨⟨⟨⟨⟨⟨_, h1⟩, h2⟩, h3⟩, h4⟩, h5⟩, h6⟩, _⟩ := h
  exact ⟨by omega, by omega, by omega, by omega, by omega, by omega, by omega⟩
set_option maxHeartbeats 8000000 in
theorem voteCodes_ok (x : Ms) (hl : x.block.txs.length ≤ 9223372036854775807) (s : List UInt8) : FnC Tryz.prog 4 [.agg (msC x), str s] [] (fun v L => v = bool true ∧ L = []) := by
  have cb := vbig_ok x hl
  have cw := vworks_ok
  refine FnC.intro Tryz.func4 rfl Tryz.ntmps4 rfl fun Z w0 hG => ?_
  focus (
 (refine W.seq (W.region ?_))
 (refine J.boxAg rfl rfl ?_; intro b')
 (refine Jx.assign rfl rfl (J.nil (N.seq (W.seq (W.seq (W.region (Jx.loadAll rfl 0 rfl rfl rfl ?_)))))))
 (refine J.call (cb) rfl (evs_args rfl) rfl ?_; rintro _ _ ⟨rfl, rfl⟩; simp only [la1, la2, la3])
 (refine Jx.move rfl rfl ?_)
 (refine' J.guardOr rfl rfl rfl rfl rfl rfl rfl rfl (fun _ => ?_) ?_; rotate_left)
 (refine J.gY rfl rfl rfl ?_)
 (refine Jx.move rfl rfl (J.gY rfl rfl rfl ?_))
 (refine Jx.lenS rfl rfl ?_)
 (refine J.gY rfl rfl rfl ?_)
 (refine Jx.gtrI rfl rfl rfl (J.nil ?_))
 (refine N.joinedN rfl rfl rfl)
 (refine J.nil (N.seq ?_))
 (refine id ?_; rotate_left))
  refine W.cond rfl (fun hb => ?_) (fun hb => ?_)
  · focus (
 (refine W.seq (W.region ?_))
 (refine J.call (cw) rfl (evs_args rfl) rfl ?_; rintro _ _ ⟨rfl, rfl⟩; simp only [la1, la2, la3])
 (refine Jx.assign rfl rfl (J.nil (N.seq (W.ret (N.noGotoRet ?_)))))
 (refine id ?_; rotate_left))
    exact N.retD (rs := [.tmp 4]) (L1 := []) rfl (.tmp rfl .nil) (List.nil_sublist _) ⟨rfl, rfl⟩
  · simp only [Bool.or_eq_false_iff, decide_eq_false_iff_not] at hb
    obtain ⟨⟨m1, m2, m3, m4⟩, m5⟩ := bigMs_no hb.1
    have hsh : ShortB x.block := bigB_short (by have := hb.1; simp only [bigMs, Bool.or_eq_false_iff] at this; exact this.1)
    have c1 := vencode_ok x (by omega)
    have c2 := rvencode_ok x hsh
    have c3 := vdecode_ok s (by omega)
    have c4 := rvdecode_ok s (by omega)
    have c5 := vcheck_ok x (by omega)
    have c6 := rvcheck_ok x hsh
    generalize encO fineMs encMs x = ex at *
    generalize codeB (fineMs x) 220 = ec at *
    focus (
 (refine W.skip (N.seq (W.seq (W.region (Jx.loadAll rfl 0 rfl rfl rfl ?_)))))
 (refine J.call (c1) rfl (evs_args rfl) rfl ?_; rintro _ _ ⟨rfl, rfl⟩; simp only [la1, la2, la3])
 (refine Jx.move rfl rfl (Jx.extract rfl rfl rfl ?_))
 (refine Jx.extract rfl rfl rfl ?_)
 (refine Jx.assign rfl rfl (Jx.assign rfl rfl (J.nil (N.seq (W.seq (W.region (Jx.loadAll rfl 0 rfl rfl rfl ?_)))))))
 (refine J.call (c2) rfl (evs_args rfl) rfl ?_; rintro _ _ ⟨rfl, rfl⟩; simp only [la1, la2, la3])
 (refine Jx.move rfl rfl (Jx.extract rfl rfl rfl ?_))
 (refine Jx.extract rfl rfl rfl ?_)
 (refine Jx.assign rfl rfl (Jx.assign rfl rfl (J.nil (N.seq (W.seq (W.region (Jx.move rfl rfl ?_)))))))
 (refine J.call (c3) rfl (evs_args rfl) rfl ?_; rintro _ _ ⟨⟨o, ho, rfl⟩, rfl⟩; simp only [la1, la2, la3])
 (refine Jx.move rfl rfl (Jx.extract rfl rfl rfl ?_))
 (refine Jx.extract rfl rfl rfl ?_)
 (refine J.alloc (by simp only [List.map_cons, List.map_nil]; rfl) rfl rfl ?_; intro b')
 (refine J.storeAll rfl rfl rfl 0 rfl rfl rfl ?_)
 (refine Jx.assign rfl rfl (J.nil (N.seq (W.seq (W.region (Jx.move rfl rfl ?_))))))
 (refine J.call c4 rfl (evs_args rfl) rfl ?_; rintro _ _ ⟨⟨o2, ho2, rfl⟩, rfl⟩; simp only [la1, la2, la3]; obtain rfl := apMs.same ho ho2; have c7 := decM_self ho)
 (refine Jx.move rfl rfl (Jx.extract rfl rfl rfl ?_))
 (refine Jx.extract rfl rfl rfl ?_)
 (refine J.alloc (by simp only [List.map_cons, List.map_nil]; rfl) rfl rfl ?_; intro b')
 (refine J.storeAll rfl rfl rfl 0 rfl rfl rfl ?_)
 (refine Jx.assign rfl rfl (J.nil (N.seq (W.seq (W.seq (W.region (Jx.move rfl rfl (Jx.move rfl rfl (Jx.neqS rfl rfl rfl (Jx.move rfl rfl (J.gY rfl rfl rfl ?_)))))))))))
 (refine Jx.move rfl rfl (J.gY rfl rfl rfl ?_))
 (refine Jx.move rfl rfl (J.gY rfl rfl rfl ?_))
 (refine Jx.neqI rfl rfl rfl (Jx.pF rfl rfl rfl ?_))
 (refine Jx.move rfl rfl (J.gY rfl rfl rfl ?_))
 (refine Jx.loadAll rfl 1 rfl rfl rfl ?_)
 (refine J.gY rfl rfl rfl ?_)
 (refine Jx.loadAll rfl 0 rfl rfl rfl ?_)
 (refine J.gY rfl rfl rfl ?_)
 (refine J.call (by assumption) rfl (evs_args rfl) rfl ?_; rintro _ _ ⟨rfl, rfl⟩; simp only [la1, la2, la3])
 (refine J.gY rfl rfl rfl ?_)
 (refine Jx.not rfl rfl (Jx.pF rfl rfl rfl ?_))
 (refine Jx.move rfl rfl (J.gY rfl rfl rfl ?_))
 (refine Jx.move rfl rfl (J.gY rfl rfl rfl ?_))
 (refine Jx.move rfl rfl (J.gY rfl rfl rfl ?_))
 (refine Jx.neqI rfl rfl rfl (Jx.pF rfl rfl rfl ?_))
 (refine J.nil (N.seq (W.cF rfl ?_)))
 (refine W.skip (N.seq (W.seq ?_)))
 (refine W.draw follows ?_)
 (refine JD.calm rfl (by decide +kernel) ?_)
 (refine Cx.loadAll rfl 2 rfl rfl rfl ?_)
 (refine SegC.q (Qs.call (Lc := []) (c5) (fun s L' h => h) (List.Perm.refl _) (evs_args rfl)) rfl ?_)
 (refine Cx.loadAll rfl 2 rfl rfl rfl ?_)
 (refine SegC.q (Qs.call (Lc := []) (c6) (fun s L' h => h) (List.Perm.refl _) (evs_args rfl)) rfl ?_)
 (refine Cx.eqlI rfl rfl rfl ?_)
 (refine Cx.move rfl rfl ?_)
 (refine Cx.pickT rfl (by first | rfl | assumption | (exact decide_eq_true (by first | assumption | omega | rfl)) | (exact decide_eq_false (by first | assumption | omega | rfl)) | (simp; done) | (simp; omega)) rfl rfl ?_)
 (refine Cx.move rfl rfl ?_)
 (refine SegC.gY rfl rfl rfl ?_)
 (refine SegC.q (Qs.call (Lc := []) (cw) (fun s L' h => h) (List.Perm.refl _) (evs_args rfl)) rfl ?_)
 (refine Cx.pickT rfl (by first | rfl | assumption | (exact decide_eq_true (by first | assumption | omega | rfl)) | (exact decide_eq_false (by first | assumption | omega | rfl)) | (simp; done) | (simp; omega)) rfl rfl ?_)
 (refine Cx.assign rfl rfl ?_)
 (refine SegC.nil ?_)
 (refine N.seq (W.ret ?_))
 (refine id ?_; rotate_left))
    exact N.retD (rs := [.tmp 4]) (L1 := []) rfl (.tmp rfl .nil) (List.nil_sublist _) ⟨rfl, rfl⟩
end Go.Proofs.YtlfdhkahiaammaaGreatDoor
namespace Go.Proofs.YtlfdhkahiaammaaGreatDoor
open Go Go.Sse Go.ChangeShapes Go.WideShapes Go.ChangeAt Go.RowKit
set_option linter.unusedVariables false
set_option linter.unusedSimpArgs false
set_option maxRecDepth 100000
noncomputable def rdHd : Rd Tryz.prog 24 Hd :=
  rdIso (Rd.struct (tos := [(3, 0), (3, 1), (3, 2), (4, 3), (9, 4), (9, 5), (9, 6), (9, 7), (9, 8), (9, 9), (22, 10)]) (by kernel_rfl)
    (Fds.cons rdInt (Fds.cons rdInt (Fds.cons rdInt (Fds.cons rdBool (Fds.cons rdStr (Fds.cons rdStr (Fds.cons rdStr (Fds.cons rdStr (Fds.cons rdStr (Fds.cons rdStr (Fds.cons rdStrs Fds.nil))))))))))) (by kernel_rfl))
    (fun x => ⟨x.1, x.2.1, x.2.2.1, x.2.2.2.1, x.2.2.2.2.1, x.2.2.2.2.2.1, x.2.2.2.2.2.2.1, x.2.2.2.2.2.2.2.1, x.2.2.2.2.2.2.2.2.1, x.2.2.2.2.2.2.2.2.2.1, x.2.2.2.2.2.2.2.2.2.2.1⟩) (fun x => (x.height, x.epoch, x.view, x.last, x.parent, x.state, x.receipts, x.txs, x.members, x.next, x.skips, ())) (fun _ => rfl) hdC (fun _ => rfl) (fun _ => rfl)
end Go.Proofs.YtlfdhkahiaammaaGreatDoor
namespace Go.Proofs.YtlfdhkahiaammaaGreatDoor
open Go Go.Sse Go.ChangeShapes Go.WideShapes Go.ChangeAt Go.RowKit
set_option linter.unusedVariables false
set_option linter.unusedSimpArgs false
set_option maxRecDepth 100000
noncomputable def rdCt : Rd Tryz.prog 27 Ct :=
  rdIso (Rd.struct (tos := [(9, 0), (22, 1)]) (by kernel_rfl) (Fds.cons rdStr (Fds.cons rdStrs Fds.nil)) (by kernel_rfl)) (fun x => ⟨x.1, x.2.1⟩) (fun c => (c.digest, c.signers, ())) (fun _ => rfl) ctC (fun _ => rfl) (fun _ => rfl)
noncomputable def rdBk : Rd Tryz.prog 29 Bk :=
  rdIso (Rd.struct (tos := [(24, 0), (25, 11), (27, 12)]) (by kernel_rfl) (Fds.cons rdHd (Fds.cons rdTxs (Fds.cons rdCt Fds.nil))) (by kernel_rfl)) (fun x => ⟨x.1, x.2.1, x.2.2.1⟩) (fun b => (b.head, b.txs, b.just, ())) (fun _ => rfl) bkC (fun _ => rfl) (fun _ => rfl)
end Go.Proofs.YtlfdhkahiaammaaGreatDoor
namespace Go.Proofs.YtlfdhkahiaammaaGreatDoor
open Go Go.Sse Go.ChangeShapes Go.WideShapes Go.ChangeAt Go.RowKit
set_option linter.unusedVariables false
set_option linter.unusedSimpArgs false
set_option maxRecDepth 100000
noncomputable def rdMs : Rd Tryz.prog 42 Ms :=
  rdIso (Rd.struct (tos := [(3, 0), (9, 1), (3, 2), (3, 3), (9, 4), (29, 5), (27, 19)]) (by kernel_rfl) (Fds.cons rdInt (Fds.cons rdStr (Fds.cons rdInt (Fds.cons rdInt (Fds.cons rdStr (Fds.cons rdBk (Fds.cons rdCt Fds.nil))))))) (by kernel_rfl)) (fun x => ⟨x.1, x.2.1, x.2.2.1, x.2.2.2.1, x.2.2.2.2.1, x.2.2.2.2.2.1, x.2.2.2.2.2.2.1⟩) (fun m => (m.kind, m.who, m.epoch, m.view, m.digest, m.block, m.cert, ())) (fun _ => rfl) msC (fun _ => rfl) (fun _ => rfl)
end Go.Proofs.YtlfdhkahiaammaaGreatDoor
