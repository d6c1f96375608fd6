/-
  ShaBlocksOf, whatever the blocks and the text: true; they read as they did. The listed variable holds what the program's text lays into it.
-/
import Derived.Test.YtjlpknligekfeaaDoorShaR
import Derived.Test.YtjlpknligekfeaaDoorShaL
namespace Go.Proofs.YtjlpknligekfeaaDoor
open Go Go.Sse Go.ChangeShapes Go.WideShapes Go.ChangeAt Go.RowKit
set_option linter.unusedVariables false
set_option linter.unusedSimpArgs false

theorem byte_of {n : Int} (h : (Lit.int .u8 n).wf = true) : SV.val (.int .u8 n) = byte (UInt8.ofNat n.toNat) := by
  have hr : 0 ≤ n ∧ n ≤ 255 := by simpa [Lit.wf, IntKind.min, IntKind.max, IntKind.signed, IntKind.bits] using h
  have : ((UInt8.ofNat n.toNat).toNat : Int) = n := by
    rw [UInt8.toNat_ofNat']
    omega
  rw [byte, this]
theorem bytes_of {l : List Int} (h : ∀ n ∈ l, (Lit.int .u8 n).wf = true) : l.map (fun n => SV.val (.int .u8 n)) = (l.map fun n => UInt8.ofNat n.toNat).map byte := by
  rw [List.map_map]
  exact List.map_congr_left fun n hn => byte_of (h n hn)
noncomputable def rdBlock : Rd Tryd.prog 24 { l : List Int // l.length = 64 } := Rd.array (E := 5) (by kernel_rfl) (by kernel_rfl) (Rd.int (k := .u8) (by kernel_rfl) (by kernel_rfl)) (fun n => .val (.int .u8 n)) (fun _ => rfl) rfl
noncomputable def rdBlks : Rd Tryd.prog 38 (List { l : List Int // l.length = 64 }) := Rd.slice (by kernel_rfl) (by kernel_rfl) rdBlock rfl
noncomputable def rdsOf : Rds Tryd.prog [38, 9] (List { l : List Int // l.length = 64 } × List UInt8 × Unit) := Rds.cons rdBlks rfl (by kernel_rfl) (Rds.cons rdStr rfl (by kernel_rfl) Rds.nil)
def toB (x : { l : List Int // l.length = 64 }) : List UInt8 := x.1.map fun n => UInt8.ofNat n.toNat
theorem blks_el {l : List { l : List Int // l.length = 64 }} (h : ∀ a ∈ l, rdBlock.good a) : elOf rdBlock.enc rdBlock.dflt l = elOf (fun b : List UInt8 => b.map byte) z64 (l.map toB) := by
  funext i
  simp only [elOf, List.getD_eq_getElem?_getD, List.getElem?_map]
  by_cases hi : i < l.length
  · rw [List.getElem?_eq_getElem hi]
    exact bytes_of (h _ (List.getElem_mem hi))
  · rw [List.getElem?_eq_none (by omega)]
    rfl

set_option maxRecDepth 100000 in
theorem shaBlocksOf_lifted (os : Os) (started : os.Started) (H : Type) (enc : TypeId × Value → H) :
    ReturnsInHanded {} Tryd.checked os 6 .any (fun w args => (Rows.shaBlocksOfSpec.pre enc Tryd.prog Tryd.f6 Rows.shaBlocksOfRow.domain false w args ∧ laidMetH Tryd.prog [("pharos/sha.k", Rows.laid_pharos_sha_k)] w) ∧ sizedMet enc Tryd.prog Tryd.f6 (OpenSpec.ofChange Rows.shaBlocksOfSpec) false w args)
      (Rows.shaBlocksOfSpec.post enc Tryd.prog Tryd.f6 false true false false) := by
  refine returnsInHanded_of_change_and (C := Tryd.checked) (X := fun w _ => laidMetH Tryd.prog [("pharos/sha.k", Rows.laid_pharos_sha_k)] w) (fun _ _ _ hh h => h.of_heap hh) own started (by kernel_rfl) Tryd.func6
    (ChangeSpec.witness_shaped (enc := enc) (C := Tryd.checked) (os := os) (X := fun w _ => laidMetH Tryd.prog [("pharos/sha.k", Rows.laid_pharos_sha_k)] w) false (World.laidAll Tryd.prog os [("pharos/sha.k", Rows.laid_pharos_sha_k)]) #[.slice none 0 0, .string ⟨#[]⟩] 8 (World.laidAll_os _ _ _)
      (World.shaped_of_ZipB (by kernel_rfl) (by kernel_rfl)) (by kernel_rfl) (by kernel_rfl) (by kernel_rfl)
      (by rw [MakeChecks.laidMetH_plain _ _ _ (by kernel_rfl)]; exact laidMet_laidAll _ (by kernel_rfl) (by kernel_rfl))) ?_
  intro W base args ds gs before hval hW _ _ hL _
  refine calls_of rdsOf (tb := 4) rfl (by kernel_rfl) (by kernel_rfl) (by kernel_rfl) laidOut (by kernel_rfl) (fun ds hl => ?_) hval hW (gl_met hL) (fun a hg hb => ?_)
  · match ds, hl with
    | [d1, d2], _ => exact ⟨rfl, rfl, rfl⟩
  · obtain ⟨l, s, u⟩ := a
    have := shaBlocksOf_ok (l.map toB) (fun b hb => by obtain ⟨x, _, rfl⟩ := List.mem_map.1 hb; simp only [toB, List.length_map]; exact x.2) s
    rw [blkSl, ← blks_el hg.1.2, List.length_map] at this
    exact ⟨_, this, fun s L h => h.1⟩

theorem shaBlocksOf_holds : Rows.ShaBlocksOfSaid :=
  OpenClaim.holds_of_wide 6 Tryd.f6 rfl rfl rfl rfl rfl rfl rfl ⟨rfl, rfl, rfl, rfl, rfl⟩ rfl rfl rfl rfl rfl (by kernel_rfl) Tryd.func6 (by kernel_rfl)
    (of_decide_eq_true (by kernel_rfl)) (by unfold Func.isWrapper; first | (rw [if_pos (by decide +kernel)]; kernel_rfl) | (rw [if_neg (by decide +kernel)]; exact ⟨rfl, rfl⟩))
    (fun os started H enc _ => shaBlocksOf_lifted os started H enc)

theorem shaBlocksOf_said : Rows.ShaBlocksOfCardSaid :=
  Claim7.holds_tied_plain_at .later [] [.data] true _ _
    shaBlocksOf_holds (fun _ h => by cases h) (by kernel_rfl) (fun _ h => by cases h) shaBlocksOf_row_tie rfl ⟨rfl, rfl⟩ (by kernel_rfl) rfl
    (fun f fn hf hfn => by
      obtain rfl : f = 6 := Option.some.inj ((show Tryd.prog.funcNamed "pharos/pharoslaw03.ShaBlocksOf" = some 6 by kernel_rfl).symm.trans hf) |>.symm
      obtain rfl : fn = Tryd.f6 := (Option.some.inj (Tryd.func6.symm.trans hfn)).symm
      exact ⟨by kernel_rfl, fun j t ht => by
        have hall : (Tryd.f6.params.toList.all fun t => Tryd.prog.wantsStandIn t == false) = true := by kernel_rfl
        have := List.all_eq_true.1 hall t (List.mem_of_getElem? (by simpa using ht))
        show Tryd.prog.wantsStandIn t = false
        simpa using this⟩)
    (by kernel_rfl)
#print axioms shaBlocksOf_said
end Go.Proofs.YtjlpknligekfeaaDoor
