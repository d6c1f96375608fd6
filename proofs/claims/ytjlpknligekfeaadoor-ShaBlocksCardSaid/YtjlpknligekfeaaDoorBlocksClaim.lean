/-
  ShaBlocks, whatever the words and the block: true; they read as they did. The listed variable holds what the program's text lays into it.
-/
import Derived.Test.YtjlpknligekfeaaDoorShaR
import Derived.Test.YtjlpknligekfeaaDoorShaK
namespace Go.Proofs.YtjlpknligekfeaaDoor
open Go Go.Sse Go.ChangeShapes Go.WideShapes Go.ChangeAt Go.RowKit
set_option linter.unusedVariables false
set_option linter.unusedSimpArgs false

theorem u32_of {n : Int} (h : (Lit.int .u32 n).wf = true) : SV.val (.int .u32 n) = u32 (BitVec.ofInt 32 n) := by
  have hr : 0 ≤ n ∧ n ≤ 4294967295 := by simpa [Lit.wf, IntKind.min, IntKind.max, IntKind.signed, IntKind.bits] using h
  have : ((BitVec.ofInt 32 n).toNat : Int) = n := by
    rw [BitVec.toNat_ofInt]
    omega
  rw [u32, this]
theorem byte_of {n : Int} (h : (Lit.int .u8 n).wf = true) : SV.val (.int .u8 n) = byte (UInt8.ofNat n.toNat) := by
  have hr : 0 ≤ n ∧ n ≤ 255 := by simpa [Lit.wf, IntKind.min, IntKind.max, IntKind.signed, IntKind.bits] using h
  have : ((UInt8.ofNat n.toNat).toNat : Int) = n := by
    rw [UInt8.toNat_ofNat']
    omega
  rw [byte, this]
theorem bytes_of {l : List Int} (h : ∀ n ∈ l, (Lit.int .u8 n).wf = true) : l.map (fun n => SV.val (.int .u8 n)) = (l.map fun n => UInt8.ofNat n.toNat).map byte := by
  rw [List.map_map]
  exact List.map_congr_left fun n hn => byte_of (h n hn)
theorem words_of {l : List Int} (hl : l.length = 8) (h : ∀ n ∈ l, (Lit.int .u32 n).wf = true) : ∃ s : S8, l.map (fun n => SV.val (.int .u32 n)) = s.cells := by
  match l, hl with
  | [a, b, c, d, e, f, g, i], _ =>
    refine ⟨⟨BitVec.ofInt 32 a, BitVec.ofInt 32 b, BitVec.ofInt 32 c, BitVec.ofInt 32 d, BitVec.ofInt 32 e, BitVec.ofInt 32 f, BitVec.ofInt 32 g, BitVec.ofInt 32 i⟩, ?_⟩
    simp only [List.map_cons, List.map_nil, S8.cells]
    rw [u32_of (h a (by simp)), u32_of (h b (by simp)), u32_of (h c (by simp)), u32_of (h d (by simp)), u32_of (h e (by simp)), u32_of (h f (by simp)), u32_of (h g (by simp)), u32_of (h i (by simp))]

noncomputable def rdWords : Rd Tryd.prog 23 { l : List Int // l.length = 8 } := Rd.array (E := 22) (by kernel_rfl) (by kernel_rfl) (Rd.int (k := .u32) (by kernel_rfl) (by kernel_rfl)) (fun n => .val (.int .u32 n)) (fun _ => rfl) rfl
noncomputable def rdBlock : Rd Tryd.prog 24 { l : List Int // l.length = 64 } := Rd.array (E := 5) (by kernel_rfl) (by kernel_rfl) (Rd.int (k := .u8) (by kernel_rfl) (by kernel_rfl)) (fun n => .val (.int .u8 n)) (fun _ => rfl) rfl
noncomputable def rdsBlocks : Rds Tryd.prog [23, 24] ({ l : List Int // l.length = 8 } × { l : List Int // l.length = 64 } × Unit) := Rds.consAgg rdWords (by kernel_rfl) (Rds.consAgg rdBlock (by kernel_rfl) Rds.nil)

set_option maxRecDepth 100000 in
theorem shaBlocks_lifted (os : Os) (started : os.Started) (H : Type) (enc : TypeId × Value → H) :
    ReturnsInHanded {} Tryd.checked os 3 .any (fun w args => (Rows.shaBlocksSpec.pre enc Tryd.prog Tryd.f3 Rows.shaBlocksRow.domain false w args ∧ laidMetH Tryd.prog [("pharos/sha.k", Rows.laid_pharos_sha_k)] w) ∧ sizedMet enc Tryd.prog Tryd.f3 (OpenSpec.ofChange Rows.shaBlocksSpec) false w args)
      (Rows.shaBlocksSpec.post enc Tryd.prog Tryd.f3 false true false false) := by
  refine returnsInHanded_of_change_and (C := Tryd.checked) (X := fun w _ => laidMetH Tryd.prog [("pharos/sha.k", Rows.laid_pharos_sha_k)] w) (fun _ _ _ hh h => h.of_heap hh) own started (by kernel_rfl) Tryd.func3
    (ChangeSpec.witness_shaped (enc := enc) (C := Tryd.checked) (os := os) (X := fun w _ => laidMetH Tryd.prog [("pharos/sha.k", Rows.laid_pharos_sha_k)] w) false (World.laidAll Tryd.prog os [("pharos/sha.k", Rows.laid_pharos_sha_k)]) #[.agg (Array.replicate 8 (.int .u32 0)), .agg (Array.replicate 64 (.int .u8 0))] 8 (World.laidAll_os _ _ _)
      (World.shaped_of_ZipB (by kernel_rfl) (by kernel_rfl)) (by kernel_rfl) (by kernel_rfl) (by kernel_rfl)
      (by rw [MakeChecks.laidMetH_plain _ _ _ (by kernel_rfl)]; exact laidMet_laidAll _ (by kernel_rfl) (by kernel_rfl))) ?_
  intro W base args ds gs before hval hW _ _ hL _
  refine calls_of rdsBlocks (tb := 4) rfl (by kernel_rfl) (by kernel_rfl) (by kernel_rfl) laidOut (by kernel_rfl) (fun ds hl => ?_) hval hW (gl_met hL) (fun a hg hb => ?_)
  · match ds, hl with
    | [d1, d2], _ => exact ⟨rfl, rfl, rfl⟩
  · obtain ⟨⟨h, hh⟩, ⟨b, h64⟩, u⟩ := a
    obtain ⟨s, hs⟩ := words_of hh hg.1
    have hbb := bytes_of hg.2.1
    have := shaBlocks_ok s (b.map fun n => UInt8.ofNat n.toNat) (by rw [List.length_map]; exact h64)
    rw [← hs, ← hbb] at this
    exact ⟨_, this, fun s L h => h.1⟩

theorem shaBlocks_holds : Rows.ShaBlocksSaid :=
  OpenClaim.holds_of_wide 3 Tryd.f3 rfl rfl rfl rfl rfl rfl rfl ⟨rfl, rfl, rfl, rfl, rfl⟩ rfl rfl rfl rfl rfl (by kernel_rfl) Tryd.func3 (by kernel_rfl)
    (of_decide_eq_true (by kernel_rfl)) (by unfold Func.isWrapper; first | (rw [if_pos (by decide +kernel)]; kernel_rfl) | (rw [if_neg (by decide +kernel)]; exact ⟨rfl, rfl⟩))
    (fun os started H enc _ => shaBlocks_lifted os started H enc)

theorem shaBlocks_said : Rows.ShaBlocksCardSaid :=
  Claim7.holds_tied_plain_at .later [] [.data] true _ _
    shaBlocks_holds (fun _ h => by cases h) (by kernel_rfl) (fun _ h => by cases h) shaBlocks_row_tie rfl ⟨rfl, rfl⟩ (by kernel_rfl) rfl
    (fun f fn hf hfn => by
      obtain rfl : f = 3 := Option.some.inj ((show Tryd.prog.funcNamed "pharos/pharoslaw03.ShaBlocks" = some 3 by kernel_rfl).symm.trans hf) |>.symm
      obtain rfl : fn = Tryd.f3 := (Option.some.inj (Tryd.func3.symm.trans hfn)).symm
      exact ⟨by kernel_rfl, fun j t ht => by
        have hall : (Tryd.f3.params.toList.all fun t => Tryd.prog.wantsStandIn t == false) = true := by kernel_rfl
        have := List.all_eq_true.1 hall t (List.mem_of_getElem? (by simpa using ht))
        show Tryd.prog.wantsStandIn t = false
        simpa using this⟩)
    (by kernel_rfl)
#print axioms shaBlocks_said
end Go.Proofs.YtjlpknligekfeaaDoor
