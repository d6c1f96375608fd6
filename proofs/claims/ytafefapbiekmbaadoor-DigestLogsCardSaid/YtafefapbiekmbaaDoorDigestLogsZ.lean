/-
  DigestLogs, whatever the input: true; the input reads as it did. The listed variable holds what the program's text lays into it.
-/
import Derived.Test.YtafefapbiekmbaaDoorDigestLogsPc
namespace Go.Proofs.YtafefapbiekmbaaDoor
open Go Go.Sse Go.ChangeShapes Go.WideShapes Go.ChangeAt Go.RowKit
set_option maxRecDepth 10000
set_option linter.unusedVariables false
set_option linter.unusedSimpArgs false
noncomputable def rdSt : Rd Tryd.prog 49 St :=
  rdIso (Rd.struct (tos := [(4, 0), (28, 1)]) (by kernel_rfl) (Fds.cons rdBool (Fds.cons rdNt Fds.nil)) (by kernel_rfl)) (fun x => ⟨x.1, x.2.1⟩) (fun m => (m.own, m.note, ())) (fun _ => rfl) stC (fun _ => rfl) (fun _ => rfl)
noncomputable def rdSts : Rd Tryd.prog 46 (List St) := Rd.slice (by kernel_rfl) (by kernel_rfl) rdSt rfl
noncomputable def rdsA : Rds Tryd.prog [46, 9] (List St × List UInt8 × Unit) := Rds.cons rdSts rfl (by kernel_rfl) (Rds.cons rdStr rfl (by kernel_rfl) Rds.nil)
set_option maxRecDepth 100000 in
theorem digestLogs_lifted (os : Os) (started : os.Started) (H : Type) (enc : TypeId × Value → H) :
    ReturnsInHanded {} Tryd.checked os 7 .any (fun w args => (Rows.digestLogsSpec.pre enc Tryd.prog Tryd.f7 Rows.digestLogsRow.domain false w args ∧ laidMetH Tryd.prog [("pharos/sha.k", Rows.laid_pharos_sha_k)] w) ∧ sizedMet enc Tryd.prog Tryd.f7 (OpenSpec.ofChange Rows.digestLogsSpec) false w args)
      (Rows.digestLogsSpec.post enc Tryd.prog Tryd.f7 false true false false) := by
  refine returnsInHanded_of_change_and (C := Tryd.checked) (X := fun w _ => laidMetH Tryd.prog [("pharos/sha.k", Rows.laid_pharos_sha_k)] w) (fun _ _ _ hh h => h.of_heap hh) own started (by kernel_rfl) Tryd.func7
    (ChangeSpec.witness_shaped (enc := enc) (C := Tryd.checked) (os := os) (X := fun w _ => laidMetH Tryd.prog [("pharos/sha.k", Rows.laid_pharos_sha_k)] w) false (World.laidAll Tryd.prog os [("pharos/sha.k", Rows.laid_pharos_sha_k)]) #[.slice none 0 0, .string ⟨#[]⟩] 8 (World.laidAll_os _ _ _)
      (World.shaped_of_ZipB (by kernel_rfl) (by kernel_rfl)) (by kernel_rfl) (by kernel_rfl) (by kernel_rfl)
      (by rw [MakeChecks.laidMetH_plain _ _ _ (by kernel_rfl)]; exact laidMet_laidAll _ (by kernel_rfl) (by kernel_rfl))) ?_
  intro W base args ds gs before hval hW _ _ hL _
  refine calls_of rdsA (tb := 4) rfl (by kernel_rfl) (by kernel_rfl) (by kernel_rfl) laidOut (by kernel_rfl) (fun ds hl => ?_) hval hW (gl_met hL) (fun a hg hb => ?_)
  · match ds, hl with
    | [d1, d2], _ => exact ⟨rfl, rfl, rfl⟩
  · obtain ⟨l, s, u⟩ := a
    exact ⟨_, digestLogs_ok l s, fun s L h => h.1⟩
theorem digestLogs_holds : Rows.DigestLogsSaid :=
  OpenClaim.holds_of_wide 7 Tryd.f7 rfl rfl rfl rfl rfl rfl rfl ⟨rfl, rfl, rfl, rfl, rfl⟩ rfl rfl rfl rfl rfl (by kernel_rfl) Tryd.func7 (by kernel_rfl)
    (of_decide_eq_true (by kernel_rfl)) (by unfold Func.isWrapper; first | (rw [if_pos (by decide +kernel)]; kernel_rfl) | (rw [if_neg (by decide +kernel)]; exact ⟨rfl, rfl⟩))
    (fun os started H enc _ => digestLogs_lifted os started H enc)
theorem digestLogs_said : Rows.DigestLogsCardSaid :=
  Claim7.holds_tied_plain_at .later [] [.data] true _ _
    digestLogs_holds (fun _ h => by cases h) (by kernel_rfl) (fun _ h => by cases h) digestLogs_row_tie rfl ⟨rfl, rfl⟩ (by kernel_rfl) rfl
    (fun f fn hf hfn => by
      obtain rfl : f = 7 := Option.some.inj ((show Tryd.prog.funcNamed "pharos/pharoslaw04.DigestLogs" = some 7 by kernel_rfl).symm.trans hf) |>.symm
      obtain rfl : fn = Tryd.f7 := (Option.some.inj (Tryd.func7.symm.trans hfn)).symm
      exact ⟨by kernel_rfl, fun j t ht => by
        have hall : (Tryd.f7.params.toList.all fun t => Tryd.prog.wantsStandIn t == false) = true := by kernel_rfl
        have := List.all_eq_true.1 hall t (List.mem_of_getElem? (by simpa using ht))
        show Tryd.prog.wantsStandIn t = false
        simpa using this⟩)
    (by kernel_rfl)
#print axioms digestLogs_said
end Go.Proofs.YtafefapbiekmbaaDoor
