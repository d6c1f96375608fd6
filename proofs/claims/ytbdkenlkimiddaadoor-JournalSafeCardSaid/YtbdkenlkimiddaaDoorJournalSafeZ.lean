/-
  JournalSafe, whatever the input: true; the input reads as it did. The listed variable holds what the program's text lays into it.
-/
import Derived.Test.YtbdkenlkimiddaaDoorJournalSafePc
namespace Go.Proofs.YtbdkenlkimiddaaDoor
open Go Go.Sse Go.ChangeShapes Go.WideShapes Go.ChangeAt Go.RowKit
set_option maxRecDepth 10000
set_option linter.unusedVariables false
set_option linter.unusedSimpArgs false
noncomputable def rdsC : Rds Tryd.prog [22, 34, 34] (List Bt × { l : List Int // l.length = 2 } × { l : List Int // l.length = 2 } × Unit) := Rds.cons rdBts rfl (by kernel_rfl) (Rds.consAgg rdTwo (by kernel_rfl) (Rds.consAgg rdTwo (by kernel_rfl) Rds.nil))
theorem safe_all (l : List Bt) (x y : { l : List Int // l.length = 2 }) : FnC Tryd.prog 5 [btL l, .agg (x.1.map fun n => int n), .agg (y.1.map fun n => int n)] [] (fun r L => r = bool true ∧ L = []) := by
  cases hw : wrB l with
  | false => exact jsafe_no l _ _ (by rw [List.length_map, x.2]) (by rw [List.length_map, y.2]) hw
  | true =>
    obtain ⟨x, hx⟩ := x
    obtain ⟨y, hy⟩ := y
    match x, y, hx, hy with
    | [a, b], [c, d], _, _ => exact jsafe_ok l a b c d hw
set_option maxRecDepth 100000 in
theorem journalSafe_lifted (os : Os) (started : os.Started) (H : Type) (enc : TypeId × Value → H) :
    ReturnsInHanded {} Tryd.checked os 5 .any (fun w args => (Rows.journalSafeSpec.pre enc Tryd.prog Tryd.f5 Rows.journalSafeRow.domain false w args ∧ laidMetH Tryd.prog [("pharos/sha.k", Rows.laid_pharos_sha_k)] w) ∧ sizedMet enc Tryd.prog Tryd.f5 (OpenSpec.ofChange Rows.journalSafeSpec) false w args)
      (Rows.journalSafeSpec.post enc Tryd.prog Tryd.f5 false true false false) := by
  refine returnsInHanded_of_change_and (C := Tryd.checked) (X := fun w _ => laidMetH Tryd.prog [("pharos/sha.k", Rows.laid_pharos_sha_k)] w) (fun _ _ _ hh h => h.of_heap hh) own started (by kernel_rfl) Tryd.func5
    (ChangeSpec.witness_shaped (enc := enc) (C := Tryd.checked) (os := os) (X := fun w _ => laidMetH Tryd.prog [("pharos/sha.k", Rows.laid_pharos_sha_k)] w) false (World.laidAll Tryd.prog os [("pharos/sha.k", Rows.laid_pharos_sha_k)]) #[.slice none 0 0, .agg #[.int .i64 0, .int .i64 0], .agg #[.int .i64 0, .int .i64 0]] 8 (World.laidAll_os _ _ _)
      (World.shaped_of_ZipB (by kernel_rfl) (by kernel_rfl)) (by kernel_rfl) (by kernel_rfl) (by kernel_rfl)
      (by rw [MakeChecks.laidMetH_plain _ _ _ (by kernel_rfl)]; exact laidMet_laidAll _ (by kernel_rfl) (by kernel_rfl))) ?_
  intro W base args ds gs before hval hW _ _ hL _
  refine calls_of rdsC (tb := 4) rfl (by kernel_rfl) (by kernel_rfl) (by kernel_rfl) laidOut (by kernel_rfl) (fun ds hl => ?_) hval hW (gl_met hL) (fun a hg hb => ?_)
  · match ds, hl with
    | [d1, d2, d3], _ => exact ⟨rfl, rfl, rfl⟩
  · obtain ⟨l, x, y, u⟩ := a
    exact ⟨_, safe_all l x y, fun s L h => h.1⟩
theorem journalSafe_holds : Rows.JournalSafeSaid :=
  OpenClaim.holds_of_wide 5 Tryd.f5 rfl rfl rfl rfl rfl rfl rfl ⟨rfl, rfl, rfl, rfl, rfl⟩ rfl rfl rfl rfl rfl (by kernel_rfl) Tryd.func5 (by kernel_rfl)
    (of_decide_eq_true (by kernel_rfl)) (by unfold Func.isWrapper; first | (rw [if_pos (by decide +kernel)]; kernel_rfl) | (rw [if_neg (by decide +kernel)]; exact ⟨rfl, rfl⟩))
    (fun os started H enc _ => journalSafe_lifted os started H enc)
theorem journalSafe_said : Rows.JournalSafeCardSaid :=
  Claim7.holds_tied_plain_at .later [] [.data] true _ _
    journalSafe_holds (fun _ h => by cases h) (by kernel_rfl) (fun _ h => by cases h) journalSafe_row_tie rfl ⟨rfl, rfl⟩ (by kernel_rfl) rfl
    (fun f fn hf hfn => by
      obtain rfl : f = 5 := Option.some.inj ((show Tryd.prog.funcNamed "pharos/pharoslaw32.JournalSafe" = some 5 by kernel_rfl).symm.trans hf) |>.symm
      obtain rfl : fn = Tryd.f5 := (Option.some.inj (Tryd.func5.symm.trans hfn)).symm
      exact ⟨by kernel_rfl, fun j t ht => by
        have hall : (Tryd.f5.params.toList.all fun t => Tryd.prog.wantsStandIn t == false) = true := by kernel_rfl
        have := List.all_eq_true.1 hall t (List.mem_of_getElem? (by simpa using ht))
        show Tryd.prog.wantsStandIn t = false
        simpa using this⟩)
    (by kernel_rfl)
#print axioms journalSafe_said
end Go.Proofs.YtbdkenlkimiddaaDoor
