/-
  JournalPlays, whatever the input: true; the input reads as it did. The listed variable holds what the program's text lays into it.
-/
import Derived.Test.YtbdkenlkimiddaaDoorJournalPlaysPd
namespace Go.Proofs.YtbdkenlkimiddaaDoor
open Go Go.Sse Go.ChangeShapes Go.WideShapes Go.ChangeAt Go.RowKit
set_option linter.unusedVariables false
set_option linter.unusedSimpArgs false
set_option maxRecDepth 100000
noncomputable def rdAc : Rd Tryd.prog 55 Ac :=
  rdIso (Rd.struct (tos := [(3, 0), (3, 1), (43, 2)]) (by kernel_rfl) (Fds.cons rdInt (Fds.cons rdInt (Fds.cons rdStrs Fds.nil))) (by kernel_rfl)) (fun x => ⟨x.1, x.2.1, x.2.2.1⟩) (fun m => (m.kind, m.n, m.batch, ())) (fun _ => rfl) encAc (fun _ => rfl) (fun _ => rfl)
noncomputable def rdAcs : Rd Tryd.prog 46 (List Ac) := Rd.slice (by kernel_rfl) (by kernel_rfl) rdAc rfl
noncomputable def rdsC : Rds Tryd.prog [46] (List Ac × Unit) := Rds.cons rdAcs rfl (by kernel_rfl) Rds.nil
theorem plays_all (l : List Ac) (hn : ∀ a ∈ l, a.n ≤ 9223372036854775807) : FnC Tryd.prog 6 [acl l] [] (fun r L => r = bool true ∧ L = []) := by
  cases h : lgB l with
  | false => exact jplays_no l h
  | true => exact jplays_ok l h hn
set_option maxRecDepth 100000 in
theorem journalPlays_lifted (os : Os) (started : os.Started) (H : Type) (enc : TypeId × Value → H) :
    ReturnsInHanded {} Tryd.checked os 6 .any (fun w args => (Rows.journalPlaysSpec.pre enc Tryd.prog Tryd.f6 Rows.journalPlaysRow.domain false w args ∧ laidMetH Tryd.prog [("pharos/sha.k", Rows.laid_pharos_sha_k)] w) ∧ sizedMet enc Tryd.prog Tryd.f6 (OpenSpec.ofChange Rows.journalPlaysSpec) false w args)
      (Rows.journalPlaysSpec.post enc Tryd.prog Tryd.f6 false true false false) := by
  refine returnsInHanded_of_change_and (C := Tryd.checked) (X := fun w _ => laidMetH Tryd.prog [("pharos/sha.k", Rows.laid_pharos_sha_k)] w) (fun _ _ _ hh h => h.of_heap hh) own started (by kernel_rfl) Tryd.func6
    (ChangeSpec.witness_shaped (enc := enc) (C := Tryd.checked) (os := os) (X := fun w _ => laidMetH Tryd.prog [("pharos/sha.k", Rows.laid_pharos_sha_k)] w) false (World.laidAll Tryd.prog os [("pharos/sha.k", Rows.laid_pharos_sha_k)]) #[.slice none 0 0] 8 (World.laidAll_os _ _ _)
      (World.shaped_of_ZipB (by kernel_rfl) (by kernel_rfl)) (by kernel_rfl) (by kernel_rfl) (by kernel_rfl)
      (by rw [MakeChecks.laidMetH_plain _ _ _ (by kernel_rfl)]; exact laidMet_laidAll _ (by kernel_rfl) (by kernel_rfl))) ?_
  intro W base args ds gs before hval hW _ _ hL _
  refine calls_of rdsC (tb := 4) rfl (by kernel_rfl) (by kernel_rfl) (by kernel_rfl) laidOut (by kernel_rfl) (fun ds hl => ?_) hval hW (gl_met hL) (fun a hg hb => ?_)
  · match ds, hl with
    | [d1], _ => exact ⟨rfl, rfl, rfl⟩
  · obtain ⟨l, u⟩ := a
    exact ⟨_, plays_all l (fun a ha => (i64_of (hg.1.2 a ha).2.1).2), fun s L h => h.1⟩
theorem journalPlays_holds : Rows.JournalPlaysSaid :=
  OpenClaim.holds_of_wide 6 Tryd.f6 rfl rfl rfl rfl rfl rfl rfl ⟨rfl, rfl, rfl, rfl, rfl⟩ rfl rfl rfl rfl rfl (by kernel_rfl) Tryd.func6 (by kernel_rfl)
    (of_decide_eq_true (by kernel_rfl)) (by unfold Func.isWrapper; first | (rw [if_pos (by decide +kernel)]; kernel_rfl) | (rw [if_neg (by decide +kernel)]; exact ⟨rfl, rfl⟩))
    (fun os started H enc _ => journalPlays_lifted os started H enc)
theorem journalPlays_said : Rows.JournalPlaysCardSaid :=
  Claim7.holds_tied_plain_at .later [] [.data] true _ _
    journalPlays_holds (fun _ h => by cases h) (by kernel_rfl) (fun _ h => by cases h) journalPlays_row_tie rfl ⟨rfl, rfl⟩ (by kernel_rfl) rfl
    (fun f fn hf hfn => by
      obtain rfl : f = 6 := Option.some.inj ((show Tryd.prog.funcNamed "pharos/pharoslaw32.JournalPlays" = some 6 by kernel_rfl).symm.trans hf) |>.symm
      obtain rfl : fn = Tryd.f6 := (Option.some.inj (Tryd.func6.symm.trans hfn)).symm
      exact ⟨by kernel_rfl, fun j t ht => by
        have hall : (Tryd.f6.params.toList.all fun t => Tryd.prog.wantsStandIn t == false) = true := by kernel_rfl
        have := List.all_eq_true.1 hall t (List.mem_of_getElem? (by simpa using ht))
        show Tryd.prog.wantsStandIn t = false
        simpa using this⟩)
    (by kernel_rfl)
#print axioms journalPlays_said
end Go.Proofs.YtbdkenlkimiddaaDoor
