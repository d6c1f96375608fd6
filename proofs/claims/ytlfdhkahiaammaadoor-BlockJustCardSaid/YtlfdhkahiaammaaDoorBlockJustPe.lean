/-
  Lemmas for the claim, part 5.
-/
import Derived.Test.YtlfdhkahiaammaaDoorBlockJustPd
namespace Go.Proofs.YtlfdhkahiaammaaDoor
open Go Go.Sse
set_option linter.unusedVariables false
set_option linter.unusedSimpArgs false
set_option maxRecDepth 10000
def bigBk (b : Bk) : Bool := bigH b.head || (b.txs.any bigT || ((decide (20 < (b.txs.length : Int)) || !fewB b.just.signers 50 100) || decide (100 < (b.just.digest.length : Int))))
theorem bigBk_no {b : Bk} (h : bigBk b = false) : b.head.skips.length ≤ 40 ∧ b.txs.length ≤ 20 ∧ (∀ x ∈ b.txs, x.members.length ≤ 100) ∧ b.just.signers.length ≤ 50 := by
  simp only [bigBk, Bool.or_eq_false_iff, Bool.not_eq_false', decide_eq_false_iff_not] at h
  obtain ⟨h1, h2, ⟨h3, h4⟩, h5⟩ := h
  refine ⟨bigH_no h1, by omega, fun x hx => ?_, (few_spec (n := 50) (e := 100) h4).1⟩
  exact (bigT_no (by simpa using List.any_eq_false.1 h2 x hx)).2.2.2.2
set_option maxHeartbeats 4000000 in
theorem bbig_ok (b : Bk) (hl : b.txs.length ≤ 9223372036854775807) : FnC Tryd.prog 10 [.agg (bkC b)] [] (fun v L => v = bool (bigBk b) ∧ L = []) := by
  have c := few_ok b.head.skips 40 100 (by decide)
  have c2 := few_ok b.just.signers 50 100 (by decide)
  refine FnC.intro Tryd.func10 rfl Tryd.ntmps10 rfl fun Z w0 hG => ?_
  focus (
    (refine W.seq ?_)
    (refine W.region ?_)
    (refine J.boxAg rfl rfl ?_; intro b')
    (refine Jx.assign rfl rfl ?_)
    (refine J.nil ?_)
    (refine N.seq ?_)
    (refine W.seq ?_)
    (refine W.region ?_)
    (refine Jx.fieldAddr rfl rfl ?_)
    (refine Jx.loadAg rfl 0 rfl rfl rfl rfl ?_)
    (refine J.alloc (by simp only [List.map_cons, List.map_nil]; rfl) rfl rfl ?_; intro b')
    (refine J.storeAll rfl rfl rfl 0 rfl rfl rfl ?_)
    (refine J.nil ?_)
    (refine N.seq ?_)
    (refine W.seq ?_)
    (refine W.seq ?_)
    (refine W.region ?_)
    (refine Jx.fieldAddr rfl rfl ?_)
    (refine Jx.load rfl 0 rfl rfl rfl ?_)
    (refine J.call (c) rfl (evs_args rfl) rfl ?_; rintro _ _ ⟨rfl, rfl⟩; simp only [List.cons_append, List.nil_append, List.append_nil])
    (refine Jx.not rfl rfl ?_)
    (refine Jx.move rfl rfl ?_)
    (refine' J.guardOr rfl rfl rfl rfl rfl rfl rfl rfl (fun _ => ?_) ?_; rotate_left)
    (refine J.gY rfl rfl rfl ?_)
    (refine Jx.fieldAddr rfl rfl ?_)
    (refine J.gY rfl rfl rfl ?_)
    (refine Jx.load rfl 0 rfl rfl rfl ?_)
    (refine J.gY rfl rfl rfl ?_)
    (refine Jx.lenS rfl rfl ?_)
    (refine J.gY rfl rfl rfl ?_)
    (refine Jx.gtrI rfl rfl rfl ?_)
    (refine J.nil ?_)
    (refine N.joinedN rfl rfl rfl)
    (refine Jx.move rfl rfl ?_)
    (refine' J.guardOr rfl rfl rfl rfl rfl rfl rfl rfl (fun _ => ?_) ?_; rotate_left)
    (refine J.gY rfl rfl rfl ?_)
    (refine Jx.fieldAddr rfl rfl ?_)
    (refine J.gY rfl rfl rfl ?_)
    (refine Jx.load rfl 0 rfl rfl rfl ?_)
    (refine J.gY rfl rfl rfl ?_)
    (refine Jx.lenS rfl rfl ?_)
    (refine J.gY rfl rfl rfl ?_)
    (refine Jx.gtrI rfl rfl rfl ?_)
    (refine J.nil ?_)
    (refine N.joinedN rfl rfl rfl)
    (refine Jx.move rfl rfl ?_)
    (refine' J.guardOr rfl rfl rfl rfl rfl rfl rfl rfl (fun _ => ?_) ?_; rotate_left)
    (refine J.gY rfl rfl rfl ?_)
    (refine Jx.fieldAddr rfl rfl ?_)
    (refine J.gY rfl rfl rfl ?_)
    (refine Jx.load rfl 0 rfl rfl rfl ?_)
    (refine J.gY rfl rfl rfl ?_)
    (refine Jx.lenS rfl rfl ?_)
    (refine J.gY rfl rfl rfl ?_)
    (refine Jx.gtrI rfl rfl rfl ?_)
    (refine J.nil ?_)
    (refine N.joinedN rfl rfl rfl)
    (refine Jx.move rfl rfl ?_)
    (refine' J.guardOr rfl rfl rfl rfl rfl rfl rfl rfl (fun _ => ?_) ?_; rotate_left)
    (refine J.gY rfl rfl rfl ?_)
    (refine Jx.fieldAddr rfl rfl ?_)
    (refine J.gY rfl rfl rfl ?_)
    (refine Jx.load rfl 0 rfl rfl rfl ?_)
    (refine J.gY rfl rfl rfl ?_)
    (refine Jx.lenS rfl rfl ?_)
    (refine J.gY rfl rfl rfl ?_)
    (refine Jx.gtrI rfl rfl rfl ?_)
    (refine J.nil ?_)
    (refine N.joinedN rfl rfl rfl)
    (refine Jx.move rfl rfl ?_)
    (refine' J.guardOr rfl rfl rfl rfl rfl rfl rfl rfl (fun _ => ?_) ?_; rotate_left)
    (refine J.gY rfl rfl rfl ?_)
    (refine Jx.fieldAddr rfl rfl ?_)
    (refine J.gY rfl rfl rfl ?_)
    (refine Jx.load rfl 0 rfl rfl rfl ?_)
    (refine J.gY rfl rfl rfl ?_)
    (refine Jx.lenS rfl rfl ?_)
    (refine J.gY rfl rfl rfl ?_)
    (refine Jx.gtrI rfl rfl rfl ?_)
    (refine J.nil ?_)
    (refine N.joinedN rfl rfl rfl)
    (refine Jx.move rfl rfl ?_)
    (refine' J.guardOr rfl rfl rfl rfl rfl rfl rfl rfl (fun _ => ?_) ?_; rotate_left)
    (refine J.gY rfl rfl rfl ?_)
    (refine Jx.fieldAddr rfl rfl ?_)
    (refine J.gY rfl rfl rfl ?_)
    (refine Jx.load rfl 0 rfl rfl rfl ?_)
    (refine J.gY rfl rfl rfl ?_)
    (refine Jx.lenS rfl rfl ?_)
    (refine J.gY rfl rfl rfl ?_)
    (refine Jx.gtrI rfl rfl rfl ?_)
    (refine J.nil ?_)
    (refine N.joinedN rfl rfl rfl)
    (refine J.nil ?_)
    (refine N.seq ?_)
    (refine id ?_; rotate_left))
  rename_i p1
  refine W.cond rfl (fun hb => ?_) (fun hb => ?_)
  · have hb : bigH b.head = true := hb
    rw [bigBk, hb]
    focus (
    (refine W.seq ?_)
    (refine W.region ?_)
    (refine Jx.assign rfl rfl ?_)
    (refine J.nil ?_)
    (refine N.seq ?_)
    (refine W.ret ?_)
    (refine N.noGotoRet ?_)
    (refine id ?_; rotate_left))
    exact N.retD (rs := [.tmp 2]) (L1 := []) rfl (.tmp rfl .nil) (List.nil_sublist _) ⟨rfl, rfl⟩
  · have hb : bigH b.head = false := hb
    rw [bigBk, hb]
    focus (
    (refine W.skip ?_)
    (refine N.seq ?_)
    (refine W.seq ?_)
    (refine W.seq ?_)
    (refine W.region ?_)
    (refine Jx.assign rfl rfl ?_)
    (refine J.nil ?_)
    (refine N.seq ?_)
    (refine W.block ?_)
    (refine id ?_; rotate_left))
    refine W.loop (α := Nat) (fun i => [(4, int (i : Int)), (1, ptr p1)]) (fun _ => [.obj b' tHd (hdC b.head), .obj p1 tBk (bkC b)]) (fun i => i ≤ b.txs.length ∧ (b.txs.take i).any bigT = false) (fun i => b.txs.length - i) 0 (by simp) rfl ⟨ref0 rfl, ref0 rfl, trivial⟩ ?_
    rintro i ⟨hi, hn⟩
    by_cases h1 : i < b.txs.length
    · focus (
    (refine W.seq ?_)
    (refine W.seq ?_)
    (refine W.region ?_)
    (refine Jx.move rfl rfl ?_)
    (refine Jx.fieldAddr rfl rfl ?_)
    (refine Jx.load rfl 1 rfl rfl rfl ?_)
    (refine Jx.lenSl rfl rfl ?_)
    (refine Jx.lssI rfl rfl rfl ?_)
    (refine J.nil ?_)
    (refine N.seq ?_)
    (refine W.cT rfl ?_)
    (refine W.skip ?_)
    (refine N.seq ?_)
    (refine W.seq ?_)
    (refine W.block ?_)
    (refine W.seq ?_)
    (refine W.region ?_)
    (refine Jx.fieldAddr rfl rfl ?_)
    (refine Jx.load rfl 1 rfl rfl rfl ?_)
    (refine Jx.move rfl rfl ?_)
    (refine Jx.indexEl rfl rfl (by assumption) rfl rfl ?_)
    (refine Jx.loadPPall rfl rfl rfl ?_)
    (refine J.alloc (by simp only [List.map_cons, List.map_nil]; rfl) rfl rfl ?_; intro b')
    (refine J.storeAll rfl rfl rfl 0 rfl rfl rfl ?_)
    (refine J.nil ?_)
    (refine N.seq ?_)
    (refine W.seq ?_)
    (refine W.region ?_)
    (refine Jx.fieldAddr rfl rfl ?_)
    (refine Jx.load rfl 0 rfl rfl rfl ?_)
    (refine Jx.lenS rfl rfl ?_)
    (refine Jx.gtrI rfl rfl rfl ?_)
    (refine Jx.move rfl rfl ?_)
    (refine' J.guardOr rfl rfl rfl rfl rfl rfl rfl rfl (fun _ => ?_) ?_; rotate_left)
    (refine J.gY rfl rfl rfl ?_)
    (refine Jx.fieldAddr rfl rfl ?_)
    (refine J.gY rfl rfl rfl ?_)
    (refine Jx.load rfl 0 rfl rfl rfl ?_)
    (refine J.gY rfl rfl rfl ?_)
    (refine Jx.lenS rfl rfl ?_)
    (refine J.gY rfl rfl rfl ?_)
    (refine Jx.gtrI rfl rfl rfl ?_)
    (refine J.nil ?_)
    (refine N.joinedN rfl rfl rfl)
    (refine Jx.move rfl rfl ?_)
    (refine' J.guardOr rfl rfl rfl rfl rfl rfl rfl rfl (fun _ => ?_) ?_; rotate_left)
    (refine J.gY rfl rfl rfl ?_)
    (refine Jx.fieldAddr rfl rfl ?_)
    (refine J.gY rfl rfl rfl ?_)
    (refine Jx.load rfl 0 rfl rfl rfl ?_)
    (refine J.gY rfl rfl rfl ?_)
    (refine Jx.lenS rfl rfl ?_)
    (refine J.gY rfl rfl rfl ?_)
    (refine Jx.gtrI rfl rfl rfl ?_)
    (refine J.nil ?_)
    (refine N.joinedN rfl rfl rfl)
    (refine Jx.move rfl rfl ?_)
    (refine' J.guardOr rfl rfl rfl rfl rfl rfl rfl rfl (fun _ => ?_) ?_; rotate_left)
    (refine J.gY rfl rfl rfl ?_)
    (refine Jx.fieldAddr rfl rfl ?_)
    (refine J.gY rfl rfl rfl ?_)
    (refine Jx.load rfl 0 rfl rfl rfl ?_)
    (refine J.gY rfl rfl rfl ?_)
    (refine Jx.lenS rfl rfl ?_)
    (refine J.gY rfl rfl rfl ?_)
    (refine Jx.gtrI rfl rfl rfl ?_)
    (refine J.nil ?_)
    (refine N.joinedN rfl rfl rfl)
    (refine Jx.move rfl rfl ?_)
    (refine' J.guardOr rfl rfl rfl rfl rfl rfl rfl rfl (fun _ => ?_) ?_; rotate_left)
    (refine J.gY rfl rfl rfl ?_)
    (refine Jx.fieldAddr rfl rfl ?_)
    (refine J.gY rfl rfl rfl ?_)
    (refine Jx.load rfl 0 rfl rfl rfl ?_)
    (refine J.gY rfl rfl rfl ?_)
    (refine Jx.lenSl rfl rfl ?_)
    (refine J.gY rfl rfl rfl ?_)
    (refine Jx.gtrI rfl rfl rfl ?_)
    (refine J.nil ?_)
    (refine N.joinedN rfl rfl rfl)
    (refine J.nil ?_)
    (refine N.seq ?_)
    (refine id ?_; rotate_left))
      refine W.cond rfl (fun hq => ?_) (fun hq => ?_)
      · have hq : bigT (b.txs.getD i tx0) = true := hq
        have : b.txs.any bigT = true := List.any_eq_true.2 ⟨_, getD_mem h1, hq⟩
        rw [this]
        focus (
    (refine W.seq ?_)
    (refine W.region ?_)
    (refine Jx.assign rfl rfl ?_)
    (refine J.nil ?_)
    (refine N.seq ?_)
    (refine W.ret ?_)
    (refine N.noGotoRet ?_)
    (refine N.noGotoRet ?_)
    (refine N.noGotoRet ?_)
    (refine N.noGotoRet ?_)
    (refine N.noGotoRet ?_)
    (refine id ?_; rotate_left))
        exact N.retD (rs := [.tmp 2]) (L1 := []) rfl (.tmp rfl .nil) (List.nil_sublist _) ⟨rfl, rfl⟩
      · have hq : bigT (b.txs.getD i tx0) = false := hq
        focus (
    (refine W.skip ?_)
    (refine N.seq ?_)
    (refine W.region ?_)
    (refine Jx.move rfl rfl ?_)
    (refine Jx.add64 rfl rfl (by omega) rfl ?_)
    (refine Jx.assign rfl rfl ?_)
    (refine J.nil ?_)
    (refine id ?_; rotate_left))
        refine N.drop (List.sublist_cons_self _ _) ?_
        exact N.round (i + 1) ⟨h1, by rw [take_snoc (d := tx0) h1, List.any_append, hn, List.any_cons, hq]; rfl⟩ (by omega) rfl ⟨ref0 rfl, ref0 rfl, trivial⟩
    · rw [List.take_of_length_le (by omega)] at hn
      rw [hn]
      focus (
    (refine W.seq ?_)
    (refine W.seq ?_)
    (refine W.region ?_)
    (refine Jx.move rfl rfl ?_)
    (refine Jx.fieldAddr rfl rfl ?_)
    (refine Jx.load rfl 1 rfl rfl rfl ?_)
    (refine Jx.lenSl rfl rfl ?_)
    (refine Jx.lssI rfl rfl rfl ?_)
    (refine J.nil ?_)
    (refine N.seq ?_)
    (refine W.cF rfl ?_)
    (refine W.exit ?_)
    (refine N.seq ?_)
    (refine W.seq ?_)
    (refine W.region ?_)
    (refine Jx.fieldAddr rfl rfl ?_)
    (refine Jx.load rfl 1 rfl rfl rfl ?_)
    (refine Jx.lenSl rfl rfl ?_)
    (refine Jx.gtrI rfl rfl rfl ?_)
    (refine Jx.move rfl rfl ?_)
    (refine' J.guardOr rfl rfl rfl rfl rfl rfl rfl rfl (fun _ => ?_) ?_; rotate_left)
    (refine J.gY rfl rfl rfl ?_)
    (refine Jx.fieldAddr rfl rfl ?_)
    (refine J.gY rfl rfl rfl ?_)
    (refine Jx.fieldAddr rfl rfl ?_)
    (refine J.gY rfl rfl rfl ?_)
    (refine Jx.load rfl 1 rfl rfl rfl ?_)
    (refine J.gY rfl rfl rfl ?_)
    (refine J.call (c2) rfl (evs_args rfl) rfl ?_; rintro _ _ ⟨rfl, rfl⟩; simp only [List.cons_append, List.nil_append, List.append_nil])
    (refine J.gY rfl rfl rfl ?_)
    (refine Jx.not rfl rfl ?_)
    (refine J.nil ?_)
    (refine N.joinedN rfl rfl rfl)
    (refine Jx.move rfl rfl ?_)
    (refine' J.guardOr rfl rfl rfl rfl rfl rfl rfl rfl (fun _ => ?_) ?_; rotate_left)
    (refine J.gY rfl rfl rfl ?_)
    (refine Jx.fieldAddr rfl rfl ?_)
    (refine J.gY rfl rfl rfl ?_)
    (refine Jx.fieldAddr rfl rfl ?_)
    (refine J.gY rfl rfl rfl ?_)
    (refine Jx.load rfl 1 rfl rfl rfl ?_)
    (refine J.gY rfl rfl rfl ?_)
    (refine Jx.lenS rfl rfl ?_)
    (refine J.gY rfl rfl rfl ?_)
    (refine Jx.gtrI rfl rfl rfl ?_)
    (refine J.nil ?_)
    (refine N.joinedN rfl rfl rfl)
    (refine Jx.assign rfl rfl ?_)
    (refine J.nil ?_)
    (refine N.seq ?_)
    (refine W.ret ?_)
    (refine id ?_; rotate_left))
      exact N.retD (rs := [.tmp 2]) (L1 := []) rfl (.tmp rfl .nil) (List.nil_sublist _) ⟨rfl, rfl⟩
def someB (a : List UInt8) (l : List Tx) : Bk := ⟨⟨1, 1, 1, false, a, a, [], rootT l, a, a, []⟩, l, ct0⟩
def exB : Tx := ⟨3, [97], 0, [], 0, [107], [], []⟩
theorem links1 : linksI 1 = [] := by decide +kernel
theorem someB_fine {a : List UInt8} (ha : a.length = 32) {l : List Tx} (hl : fineAll l = true) : fineBk (someB a l) = true := by
  refine (fineBk_iff _).2 ⟨(fineHd_iff _).2 ⟨by simp [someB], by simp [someB], by simp [someB], ⟨fun _ => ha, fun h => by simp [someB] at h⟩, ?_, ha, ha, .inr ha, .inl rfl, ?_, ?_, fun _ => rfl⟩, by simp [someB], hl, rfl, .inl rfl⟩
  · rw [show (someB a l).head.txs = rootT l from rfl, rootT, if_pos hl, sumD_len]
  · rw [show (someB a l).head.height = 1 from rfl, links1]; rfl
  · intro s hs; simp [someB] at hs
theorem exB_fine : fineAll [exB] = true := by decide +kernel
abbrev someZ (a r : List UInt8) (l : List Tx) : List SV := [int 1, int 1, int 1, bool false, str a, str a, str [], str r, str a, str a, .val (.slice none 0 0), txsl l, str [], .val (.slice none 0 0)]
theorem someZ_sub (a : List UInt8) (l : List Tx) : SubL (someZ a (rootT l) l) (bkC (someB a l)) := .cons (.refl _) (.cons (.refl _) (.cons (.refl _) (.cons (.refl _) (.cons (.refl _) (.cons (.refl _) (.cons (.refl _) (.cons (.refl _) (.cons (.refl _) (.cons (.refl _) (.cons (Sub.nil 1 _) (.cons (.refl _) (.cons (.refl _) (.cons (Sub.nil 1 _) .nil)))))))))))))
set_option maxHeartbeats 4000000 in
theorem bsome_ok (l : List Tx) : FnC Tryd.prog 29 [txsl l] [] (fun v L => v = .agg (bkC (someB (List.replicate 32 97) l)) ∧ L = []) := by
  have ca : FnC Tryd.prog 27 [str [97], int 32] [] (fun v L => v = str (List.replicate 32 97) ∧ L = []) := rep_ok 97 32 (by decide)
  have hs := someZ_sub (List.replicate 32 97) l
  generalize List.replicate 32 (97 : UInt8) = a at *
  have c := troot_ok l
  generalize codeAll l = cd at *
  refine FnC.intro Tryd.func29 rfl Tryd.ntmps29 rfl fun Z w0 hG => ?_
  unfold someB at hs ⊢
  generalize rootT l = r at *
  focus (
    (refine W.seq ?_)
    (refine W.region ?_)
    (refine J.alloc (by simp only [List.map_cons, List.map_nil]; rfl) rfl rfl ?_; intro b')
    (refine J.nil ?_)
    (refine N.seq ?_)
    (refine W.seq ?_)
    (refine W.region ?_)
    (refine J.call (ca) rfl (evs_args rfl) rfl ?_; rintro _ _ ⟨rfl, rfl⟩; simp only [List.cons_append, List.nil_append, List.append_nil])
    (refine Jx.assign rfl rfl ?_)
    (refine J.nil ?_)
    (refine N.seq ?_)
    (refine W.seq ?_)
    (refine W.region ?_)
    (refine Jx.move rfl rfl ?_)
    (refine J.call (c) rfl (evs_args rfl) rfl ?_; rintro _ _ ⟨rfl, rfl⟩; simp only [List.cons_append, List.nil_append, List.append_nil])
    (refine Jx.move rfl rfl ?_)
    (refine Jx.extract rfl rfl rfl ?_)
    (refine Jx.extract rfl rfl rfl ?_)
    (refine Jx.assign rfl rfl ?_)
    (refine Jx.assign rfl rfl ?_)
    (refine J.nil ?_)
    (refine N.seq ?_)
    (refine W.seq ?_)
    (refine W.region ?_)
    (refine Jx.move rfl rfl ?_)
    (refine Jx.move rfl rfl ?_)
    (refine Jx.move rfl rfl ?_)
    (refine Jx.move rfl rfl ?_)
    (refine Jx.move rfl rfl ?_)
    (refine Jx.buildB rfl rfl rfl rfl rfl ?_)
    (refine Jx.move rfl rfl ?_)
    (refine Jx.buildB rfl rfl rfl rfl rfl ?_)
    (refine J.storeAll rfl rfl rfl 0 rfl rfl rfl ?_)
    (refine J.nil ?_)
    (refine N.seq ?_)
    (refine W.ret ?_)
    (refine id ?_; rotate_left))
  refine N.objSub 0 _ rfl hs rfl ?_
  exact N.retD (rs := [.cell 2 tBk]) (L1 := []) rfl (.cell rfl 0 rfl agBk .nil) (List.nil_sublist _) ⟨rfl, rfl⟩
end Go.Proofs.YtlfdhkahiaammaaDoor
namespace Go.Sse
open Go Go.Sse
set_option linter.unusedVariables false
set_option linter.unusedSimpArgs false
section
variable {P : Program} {Γ : Ctx} {F : List (Nat × SV)} {L : List Own} {dst : Option Tmp} {ty : TypeId} {pos : String} {aft : Array Edge} {g : Option (Nat × Bool)}
theorem Qs.buildOneS {α : Type} {t E sz by' : Nat} {z : List Value} [ht : TSlice P t E] [hI : TInfo P E sz by' z] {x : Operand} {u : SV} (enc : α → List SV) (d a : α) (hx : ev F x = some u) (hs : Sub u (.agg (enc a))) (hcs' : Nat.beq (enc a).length sz = true)
    (hz' : Nat.beq z.length sz = true) (h0' : Nat.blt 0 sz = true) (hmax' : Nat.ble sz 16777216 = true) (hz1 : z.all (·.oneCell') = true) : Qs P Γ F L ⟨dst, .buildSlice t 1 [(0, x)].toArray, ty, pos, aft, g⟩ (.sl sz [a].length (elOf enc d [a])) := by
  have hcs := Nat.eq_of_beq_eq_true hcs'
  have hz := Nat.eq_of_beq_eq_true hz'
  have h0 : 0 < sz := Nat.le_of_ble_eq_true h0'
  have hmax := Nat.le_of_ble_eq_true hmax'
  refine (Qs.buildSlice (len := 1) (ss := [.agg (enc a)]) (sz := sz) (z := z) (.sub hx hs .agg .nil) rfl (by intro s hs; simp only [List.mem_singleton] at hs; subst hs; exact hcs) hz (by omega) (by omega) hz1).sub ?_
  refine Sub.slOf (l := [a]) rfl fun i hi => ?_
  have : i = 0 := by omega
  subst this
  rfl
end
end Go.Sse
namespace Go.Proofs.YtlfdhkahiaammaaDoor
open Go Go.Sse
set_option linter.unusedVariables false
set_option linter.unusedSimpArgs false
set_option maxRecDepth 10000
theorem readB_back {x : Bk} (h : fineBk x = true) (r : List UInt8) : ∃ st : PSt, ReadB 65536 (encBk x ++ r) x true true true (some r) := by
  have f := (fineBk_iff x).1 h
  obtain ⟨l1, l2, l3⟩ := f.lens
  refine ⟨none, encHd x.head, _, encAll x.txs, _, some x.head, some x.txs, ?_, ⟨f.head, rfl⟩, rfl, rfl, textP_back _ (justE x.just ++ r) (by omega) (by omega), ⟨f.txs, rfl⟩, rfl, rfl, ?_⟩
  · rw [encBk, List.append_assoc, List.append_assoc]; exact textP_back _ _ (by omega) (by omega)
  · unfold justE
    cases hb : bareCt x.just with
    | true => exact ⟨false, some r, by rw [if_pos rfl, flagP_back], fun _ => ⟨bare_eq hb, rfl, rfl⟩, fun h => by cases h⟩
    | false =>
      obtain ⟨g1, g2⟩ := l3 hb
      exact ⟨true, _, by rw [if_neg (by simp), List.append_assoc, flagP_back], (fun h => by cases h), fun _ => ⟨encCt x.just, some x.just, textP_back _ _ (by omega) (by omega), ⟨g1, rfl⟩, rfl, rfl⟩⟩
theorem apBk : Apart fineBk encBk := ⟨fun x y r q hx hy h => by
  obtain ⟨_, hr⟩ := readB_back hx r
  rw [h] at hr
  obtain ⟨e1, _, _, _, e2⟩ := hr.whole (by decide) ((fineBk_iff y).1 hy) rfl
  exact ⟨e1, by simpa using e2⟩⟩
theorem bdec_enc {x : Bk} (h : fineBk x = true) : FnC Tryd.prog 11 [str (encBk x)] [] (fun v L => v = .tup [.agg (bkC x), int 0] ∧ L = []) := by
  refine (bdecode_ok (encBk x) (by have := encBk_len ((fineBk_iff x).1 h); omega)).mono ?_
  rintro v L ⟨⟨o, ho, rfl⟩, rfl⟩
  rw [apBk.some' ho h rfl]
  exact ⟨rfl, rfl⟩
theorem exB_sub : SubL [int 3, str [97], int 0, str [], int 0, str [107], str [], .val (.slice none 0 0)] (txC exB) := .cons (.refl _) (.cons (.refl _) (.cons (.refl _) (.cons (.refl _) (.cons (.refl _) (.cons (.refl _) (.cons (.refl _) (.cons (Sub.nil 2 _) .nil)))))))
theorem bkN_sub (h : Hd) (c : Ct) : SubL ((bkC ⟨h, [], c⟩).set 11 (.val (.slice none 0 0))) (bkC ⟨h, [], c⟩) := .cons (.refl _) (.cons (.refl _) (.cons (.refl _) (.cons (.refl _) (.cons (.refl _) (.cons (.refl _) (.cons (.refl _) (.cons (.refl _) (.cons (.refl _) (.cons (.refl _) (.cons (.refl _) (.cons (Sub.nil 8 _) (.cons (.refl _) (.cons (.refl _) .nil)))))))))))))
theorem someB_last (a : List UInt8) (l : List Tx) : (encBk (someB a l)).getD ((encBk (someB a l)).length - 1) 0 = 0 := by
  have : encBk (someB a l) = (textB (encHd (someB a l).head) ++ textB (encAll l)) ++ [0] := by
    rw [encBk, justE, if_pos (by rfl), List.append_assoc]; rfl
  rw [this, List.length_append, List.getD_eq_getElem?_getD]
  simp
theorem someB_long (a : List UInt8) (l : List Tx) : 1 < (encBk (someB a l)).length := by
  have h1 : 1 ≤ (textB (encAll l)).length := by simp only [textB, List.length_append, numB, List.length_cons]; omega
  simp only [encBk, justE, List.length_append, show (someB a l).txs = l from rfl]
  rw [if_pos (by rfl), flag_len]
  omega
theorem someB_bad {a : List UInt8} {l : List Tx} (hne : rootT l ≠ rootT []) : fineBk ⟨(someB a l).head, [], ct0⟩ = false := by
  cases hf : fineBk ⟨(someB a l).head, [], ct0⟩ with
  | false => rfl
  | true => exact absurd ((fineBk_iff _).1 hf).root.symm hne
set_option maxHeartbeats 8000000 in
theorem bworks_ok : FnC Tryd.prog 9 [] [] (fun s L => s = bool true ∧ L = []) := by
  have hne : rootT [exB] ≠ rootT [] := by decide +kernel
  have hex := exB_fine
  have ha : (List.replicate 32 (97 : UInt8)).length = 32 := by simp
  have c0 := bsome_ok [exB]
  generalize List.replicate 32 (97 : UInt8) = a at *
  have hf : fineBk (someB a [exB]) = true := someB_fine ha hex
  have F := (fineBk_iff _).1 hf
  have c1 := bencode_ok (someB a [exB]) (by simp [someB])
  have c2 := bdec_enc hf
  have c3 := bdigest_ok (someB a [exB]) (by simp [someB])
  have c4 := hdigest_ok (someB a [exB]).head (by simp [someB])
  have c5 := bcheck_ok ⟨(someB a [exB]).head, [], ct0⟩ (by simp [someB])
  rw [someB_bad hne] at c5
  rw [digB, if_pos hf] at c3
  have hd := digH_len F.head
  have hlast := someB_last a [exB]
  have hlong := someB_long a [exB]
  have hup := encBk_len F
  rw [encO, hf, if_pos rfl] at c1
  have hd2 := bkN_sub (someB a [exB]).head ct0
  generalize digH (someB a [exB]).head = dg at *
  generalize encBk (someB a [exB]) = e at *
  have hl1 : (1 : Int) < (e.length : Int) := by omega
  have hlt : (e.length : Int) - 1 < (e.length : Int) := by omega
  have hge : (0 : Int) ≤ (e.length : Int) - 1 := by omega
  have hl2 : e.getD ((e.length : Int) - 1).toNat 0 = 0 := by rw [show ((e.length : Int) - 1).toNat = e.length - 1 by omega]; exact hlast
  refine FnC.intro Tryd.func9 rfl Tryd.ntmps9 rfl fun Z w0 hG => ?_
  focus (
    (refine W.seq ?_)
    (refine W.region ?_)
    (refine Jx.assign rfl rfl ?_)
    (refine J.nil ?_)
    (refine N.seq ?_)
    (refine W.seq ?_)
    (refine W.region ?_)
    (refine Jx.buildB rfl rfl rfl rfl rfl ?_)
    (refine J.qs (Qs.buildOneS txC tx0 exB rfl (Sub.agg exB_sub) rfl rfl rfl rfl rfl) rfl ?_)
    (refine J.call (c0) rfl (evs_args rfl) rfl ?_; rintro _ _ ⟨rfl, rfl⟩; simp only [List.cons_append, List.nil_append, List.append_nil])
    (refine J.alloc (by simp only [List.map_cons, List.map_nil]; rfl) rfl rfl ?_; intro b')
    (refine J.storeAll rfl rfl rfl 0 rfl rfl rfl ?_)
    (refine J.nil ?_)
    (refine N.seq ?_)
    (refine W.seq ?_)
    (refine W.region ?_)
    (refine Jx.loadAll rfl 0 rfl rfl rfl ?_)
    (refine J.call (c1) rfl (evs_args rfl) rfl ?_; rintro _ _ ⟨rfl, rfl⟩; simp only [List.cons_append, List.nil_append, List.append_nil])
    (refine Jx.move rfl rfl ?_)
    (refine Jx.extract rfl rfl rfl ?_)
    (refine Jx.extract rfl rfl rfl ?_)
    (refine Jx.assign rfl rfl ?_)
    (refine Jx.assign rfl rfl ?_)
    (refine J.nil ?_)
    (refine N.seq ?_)
    (refine W.seq ?_)
    (refine W.region ?_)
    (refine Jx.move rfl rfl ?_)
    (refine J.call (c2) rfl (evs_args rfl) rfl ?_; rintro _ _ ⟨rfl, rfl⟩; simp only [List.cons_append, List.nil_append, List.append_nil])
    (refine Jx.move rfl rfl ?_)
    (refine Jx.extract rfl rfl rfl ?_)
    (refine Jx.extract rfl rfl rfl ?_)
    (refine J.alloc (by simp only [List.map_cons, List.map_nil]; rfl) rfl rfl ?_; intro b')
    (refine J.storeAll rfl rfl rfl 0 rfl rfl rfl ?_)
    (refine Jx.assign rfl rfl ?_)
    (refine J.nil ?_)
    (refine N.seq ?_)
    (refine W.seq ?_)
    (refine W.region ?_)
    (refine Jx.loadAll rfl 1 rfl rfl rfl ?_)
    (refine J.alloc (by simp only [List.map_cons, List.map_nil]; rfl) rfl rfl ?_; intro b')
    (refine J.storeAll rfl rfl rfl 0 rfl rfl rfl ?_)
    (refine J.nil ?_)
    (refine N.seq ?_)
    (refine W.seq ?_)
    (refine W.region ?_)
    (refine Jx.fieldAddr rfl rfl ?_)
    (refine J.st 0 rfl rfl rfl rfl rfl rfl ?_)
    (refine J.nil ?_)
    (refine N.seq ?_)
    (refine W.seq ?_)
    (refine W.draw follows ?_)
    (refine JD.calm rfl (by decide +kernel) ?_)
    (refine Cx.move rfl rfl ?_)
    (refine Cx.eqlI rfl rfl rfl ?_)
    (refine Cx.move rfl rfl ?_)
    (refine SegC.gY rfl rfl rfl ?_)
    (refine Cx.move rfl rfl ?_)
    (refine SegC.gY rfl rfl rfl ?_)
    (refine Cx.eqlI rfl rfl rfl ?_)
    (refine Cx.pickT rfl (by first | rfl | assumption | (exact decide_eq_true (by first | assumption | omega | rfl)) | (exact decide_eq_false (by first | assumption | omega | rfl)) | (simp; done) | (simp; omega)) rfl rfl ?_)
    (refine Cx.move rfl rfl ?_)
    (refine SegC.gY rfl rfl rfl ?_)
    (refine Cx.move rfl rfl ?_)
    (refine SegC.gY rfl rfl rfl ?_)
    (refine Cx.lenS rfl rfl ?_)
    (refine SegC.gY rfl rfl rfl ?_)
    (refine Cx.gtrI rfl rfl rfl ?_)
    (refine Cx.pickT rfl (by first | rfl | assumption | (exact decide_eq_true (by first | assumption | omega | rfl)) | (exact decide_eq_false (by first | assumption | omega | rfl)) | (simp; done) | (simp; omega)) rfl rfl ?_)
    (refine Cx.move rfl rfl ?_)
    (refine SegC.gY rfl rfl rfl ?_)
    (refine Cx.move rfl rfl ?_)
    (refine SegC.gY rfl rfl rfl ?_)
    (refine Cx.move rfl rfl ?_)
    (refine SegC.gY rfl rfl rfl ?_)
    (refine Cx.lenS rfl rfl ?_)
    (refine SegC.gY rfl rfl rfl ?_)
    (refine Cx.sub64 rfl rfl (by omega) rfl ?_)
    (refine SegC.gY rfl rfl rfl ?_)
    (refine Cx.indexS rfl rfl hge hlt rfl ?_; rw [hl2])
    (refine SegC.gY rfl rfl rfl ?_)
    (refine Cx.eqlI rfl rfl rfl ?_)
    (refine Cx.pickT rfl (by first | rfl | assumption | (exact decide_eq_true (by first | assumption | omega | rfl)) | (exact decide_eq_false (by first | assumption | omega | rfl)) | (simp; done) | (simp; omega)) rfl rfl ?_)
    (refine Cx.move rfl rfl ?_)
    (refine SegC.gY rfl rfl rfl ?_)
    (refine Cx.fieldAddr rfl rfl ?_)
    (refine SegC.gY rfl rfl rfl ?_)
    (refine Cx.load rfl 1 rfl rfl rfl ?_)
    (refine SegC.gY rfl rfl rfl ?_)
    (refine Cx.lenSl rfl rfl ?_)
    (refine SegC.gY rfl rfl rfl ?_)
    (refine Cx.eqlI rfl rfl rfl ?_)
    (refine Cx.pickT rfl (by first | rfl | assumption | (exact decide_eq_true (by first | assumption | omega | rfl)) | (exact decide_eq_false (by first | assumption | omega | rfl)) | (simp; done) | (simp; omega)) rfl rfl ?_)
    (refine Cx.move rfl rfl ?_)
    (refine SegC.gY rfl rfl rfl ?_)
    (refine Cx.loadAll rfl 2 rfl rfl rfl ?_)
    (refine SegC.gY rfl rfl rfl ?_)
    (refine SegC.q (Qs.call (Lc := []) (c3) (fun s L' h => h) (List.Perm.refl _) (evs_args rfl)) rfl ?_)
    (refine SegC.gY rfl rfl rfl ?_)
    (refine Cx.fieldAddr rfl rfl ?_)
    (refine SegC.gY rfl rfl rfl ?_)
    (refine Cx.loadAg rfl 2 rfl rfl rfl rfl ?_)
    (refine SegC.gY rfl rfl rfl ?_)
    (refine SegC.q (Qs.call (Lc := []) (c4) (fun s L' h => h) (List.Perm.refl _) (evs_args rfl)) rfl ?_)
    (refine SegC.gY rfl rfl rfl ?_)
    (refine Cx.eqlS rfl rfl rfl ?_)
    (refine Cx.pickT rfl (by first | rfl | assumption | (exact decide_eq_true (by first | assumption | omega | rfl)) | (exact decide_eq_false (by first | assumption | omega | rfl)) | (simp; done) | (simp; omega)) rfl rfl ?_)
    (refine Cx.move rfl rfl ?_)
    (refine SegC.gY rfl rfl rfl ?_)
    (refine Cx.loadAll rfl 2 rfl rfl rfl ?_)
    (refine SegC.gY rfl rfl rfl ?_)
    (refine SegC.q (Qs.call (Lc := []) (c3) (fun s L' h => h) (List.Perm.refl _) (evs_args rfl)) rfl ?_)
    (refine SegC.gY rfl rfl rfl ?_)
    (refine Cx.lenS rfl rfl ?_)
    (refine SegC.gY rfl rfl rfl ?_)
    (refine Cx.eqlI rfl rfl rfl ?_)
    (refine Cx.pickT rfl (by first | rfl | assumption | (exact decide_eq_true (by first | assumption | omega | rfl)) | (exact decide_eq_false (by first | assumption | omega | rfl)) | (simp; done) | (simp; omega)) rfl rfl ?_)
    (refine Cx.move rfl rfl ?_)
    (refine SegC.gY rfl rfl rfl ?_)
    (refine Cx.loadAll rfl 0 rfl rfl rfl ?_)
    (refine SegC.gY rfl rfl rfl ?_)
    (refine SegC.q (Qs.call (Lc := []) c5 (fun s L' h => h) (List.Perm.refl _) (Args.sub rfl (Sub.agg hd2) Args.nil)) rfl ?_)
    (refine SegC.gY rfl rfl rfl ?_)
    (refine Cx.eqlI rfl rfl rfl ?_)
    (refine Cx.pickT rfl (by first | rfl | assumption | (exact decide_eq_true (by first | assumption | omega | rfl)) | (exact decide_eq_false (by first | assumption | omega | rfl)) | (simp; done) | (simp; omega)) rfl rfl ?_)
    (refine Cx.assign rfl rfl ?_)
    (refine SegC.nil ?_)
    (refine N.seq ?_)
    (refine W.ret ?_)
    (refine id ?_; rotate_left))
  exact N.retD (rs := [.tmp 0]) (L1 := []) rfl (.tmp rfl .nil) (List.nil_sublist _) ⟨by first | rfl | (simp [oneOr, hd]; done), rfl⟩
end Go.Proofs.YtlfdhkahiaammaaDoor
namespace Go.Proofs.YtlfdhkahiaammaaDoor
open Go Go.Sse
set_option linter.unusedVariables false
set_option linter.unusedSimpArgs false
set_option maxRecDepth 10000
end Go.Proofs.YtlfdhkahiaammaaDoor
namespace Go.Proofs.YtlfdhkahiaammaaDoor
open Go Go.Sse
set_option linter.unusedVariables false
set_option linter.unusedSimpArgs false
set_option maxRecDepth 10000
set_option maxHeartbeats 8000000 in
theorem blockJust_ok (x : Bk) (c : Ct) (hl : x.txs.length ≤ 9223372036854775807) : FnC Tryd.prog 5 [.agg (bkC x), .agg (ctC c)] [] (fun v L => v = bool true ∧ L = []) := by
  have cb := bbig_ok x hl
  have cb2 := bbig_ok ⟨x.head, x.txs, c⟩ hl
  have cw := bworks_ok
  refine FnC.intro Tryd.func5 rfl Tryd.ntmps5 rfl fun Z w0 hG => ?_
  cases h1 : bigBk x with
  | true =>
    rw [h1] at cb
    focus (
    (refine W.seq ?_)
    (refine W.region ?_)
    (refine J.boxAg rfl rfl ?_; intro b')
    (refine J.boxAg rfl rfl ?_; intro b')
    (refine Jx.assign rfl rfl ?_)
    (refine J.nil ?_)
    (refine N.seq ?_)
    (refine W.seq ?_)
    (refine W.seq ?_)
    (refine W.region ?_)
    (refine J.call (cw) rfl (evs_args rfl) rfl ?_; rintro _ _ ⟨rfl, rfl⟩; simp only [List.cons_append, List.nil_append, List.append_nil])
    (refine Jx.not rfl rfl ?_)
    (refine J.nil ?_)
    (refine N.seq ?_)
    (refine W.cF rfl ?_)
    (refine W.skip ?_)
    (refine N.seq ?_)
    (refine W.seq ?_)
    (refine W.region ?_)
    (refine Jx.loadAll rfl 1 rfl rfl rfl ?_)
    (refine J.alloc (by simp only [List.map_cons, List.map_nil]; rfl) rfl rfl ?_; intro b')
    (refine J.storeAll rfl rfl rfl 0 rfl rfl rfl ?_)
    (refine J.nil ?_)
    (refine N.seq ?_)
    (refine W.seq ?_)
    (refine W.region ?_)
    (refine Jx.loadAll rfl 1 rfl rfl rfl ?_)
    (refine Jx.fieldAddr rfl rfl ?_)
    (refine J.storeAg rfl rfl rfl 0 rfl rfl rfl rfl ?_)
    (refine J.nil ?_)
    (refine N.seq ?_)
    (refine W.seq ?_)
    (refine W.seq ?_)
    (refine W.region ?_)
    (refine Jx.loadAll rfl 2 rfl rfl rfl ?_)
    (refine J.call (cb) rfl (evs_args rfl) rfl ?_; rintro _ _ ⟨rfl, rfl⟩; simp only [List.cons_append, List.nil_append, List.append_nil])
    (refine Jx.move rfl rfl ?_)
    (refine J.gN rfl rfl rfl rfl ?_)
    (refine J.gN rfl rfl rfl rfl ?_)
    (refine Jx.pT rfl rfl rfl ?_)
    (refine Jx.move rfl rfl ?_)
    (refine J.gN rfl rfl rfl rfl ?_)
    (refine J.gN rfl rfl rfl rfl ?_)
    (refine J.gN rfl rfl rfl rfl ?_)
    (refine Jx.pT rfl rfl rfl ?_)
    (refine J.nil ?_)
    (refine N.seq ?_)
    (refine W.cT rfl ?_)
    (refine W.seq ?_)
    (refine W.region ?_)
    (refine Jx.assign rfl rfl ?_)
    (refine J.nil ?_)
    (refine N.seq ?_)
    (refine W.ret ?_)
    (refine N.noGotoRet ?_)
    (refine id ?_; rotate_left))
    exact N.retD (rs := [.tmp 4]) (L1 := []) rfl (.tmp rfl .nil) (List.nil_sublist _) ⟨rfl, rfl⟩
  | false =>
    rw [h1] at cb
    obtain ⟨m1, m2, m3, m4⟩ := bigBk_no h1
    cases h2 : bigBk ⟨x.head, x.txs, c⟩ with
    | true =>
      rw [h2] at cb2
      focus (
    (refine W.seq ?_)
    (refine W.region ?_)
    (refine J.boxAg rfl rfl ?_; intro b')
    (refine J.boxAg rfl rfl ?_; intro b')
    (refine Jx.assign rfl rfl ?_)
    (refine J.nil ?_)
    (refine N.seq ?_)
    (refine W.seq ?_)
    (refine W.seq ?_)
    (refine W.region ?_)
    (refine J.call (cw) rfl (evs_args rfl) rfl ?_; rintro _ _ ⟨rfl, rfl⟩; simp only [List.cons_append, List.nil_append, List.append_nil])
    (refine Jx.not rfl rfl ?_)
    (refine J.nil ?_)
    (refine N.seq ?_)
    (refine W.cF rfl ?_)
    (refine W.skip ?_)
    (refine N.seq ?_)
    (refine W.seq ?_)
    (refine W.region ?_)
    (refine Jx.loadAll rfl 1 rfl rfl rfl ?_)
    (refine J.alloc (by simp only [List.map_cons, List.map_nil]; rfl) rfl rfl ?_; intro b')
    (refine J.storeAll rfl rfl rfl 0 rfl rfl rfl ?_)
    (refine J.nil ?_)
    (refine N.seq ?_)
    (refine W.seq ?_)
    (refine W.region ?_)
    (refine Jx.loadAll rfl 1 rfl rfl rfl ?_)
    (refine Jx.fieldAddr rfl rfl ?_)
    (refine J.storeAg rfl rfl rfl 0 rfl rfl rfl rfl ?_)
    (refine J.nil ?_)
    (refine N.seq ?_)
    (refine W.seq ?_)
    (refine W.seq ?_)
    (refine W.region ?_)
    (refine Jx.loadAll rfl 2 rfl rfl rfl ?_)
    (refine J.call (cb) rfl (evs_args rfl) rfl ?_; rintro _ _ ⟨rfl, rfl⟩; simp only [List.cons_append, List.nil_append, List.append_nil])
    (refine Jx.move rfl rfl ?_)
    (refine J.gY rfl rfl rfl ?_)
    (refine Jx.loadAll rfl 0 rfl rfl rfl ?_)
    (refine J.gY rfl rfl rfl ?_)
    (refine J.call (cb2) rfl (evs_args rfl) rfl ?_; rintro _ _ ⟨rfl, rfl⟩; simp only [List.cons_append, List.nil_append, List.append_nil])
    (refine Jx.pF rfl rfl rfl ?_)
    (refine Jx.move rfl rfl ?_)
    (refine J.gN rfl rfl rfl rfl ?_)
    (refine J.gN rfl rfl rfl rfl ?_)
    (refine J.gN rfl rfl rfl rfl ?_)
    (refine Jx.pT rfl rfl rfl ?_)
    (refine J.nil ?_)
    (refine N.seq ?_)
    (refine W.cT rfl ?_)
    (refine W.seq ?_)
    (refine W.region ?_)
    (refine Jx.assign rfl rfl ?_)
    (refine J.nil ?_)
    (refine N.seq ?_)
    (refine W.ret ?_)
    (refine N.noGotoRet ?_)
    (refine id ?_; rotate_left))
      exact N.retD (rs := [.tmp 4]) (L1 := []) rfl (.tmp rfl .nil) (List.nil_sublist _) ⟨rfl, rfl⟩
    | false =>
      rw [h2] at cb2
      have c1 := bcheck_ok x (by omega)
      have c2 := bcheck_ok ⟨x.head, x.txs, c⟩ (by simp only; omega)
      have d1 := bdigest_ok x (by omega)
      have d2 := bdigest_ok ⟨x.head, x.txs, c⟩ (by simp only; omega)
      cases hf : fineBk x with
      | false =>
        rw [hf] at c1
        focus (
    (refine W.seq ?_)
    (refine W.region ?_)
    (refine J.boxAg rfl rfl ?_; intro b')
    (refine J.boxAg rfl rfl ?_; intro b')
    (refine Jx.assign rfl rfl ?_)
    (refine J.nil ?_)
    (refine N.seq ?_)
    (refine W.seq ?_)
    (refine W.seq ?_)
    (refine W.region ?_)
    (refine J.call (cw) rfl (evs_args rfl) rfl ?_; rintro _ _ ⟨rfl, rfl⟩; simp only [List.cons_append, List.nil_append, List.append_nil])
    (refine Jx.not rfl rfl ?_)
    (refine J.nil ?_)
    (refine N.seq ?_)
    (refine W.cF rfl ?_)
    (refine W.skip ?_)
    (refine N.seq ?_)
    (refine W.seq ?_)
    (refine W.region ?_)
    (refine Jx.loadAll rfl 1 rfl rfl rfl ?_)
    (refine J.alloc (by simp only [List.map_cons, List.map_nil]; rfl) rfl rfl ?_; intro b')
    (refine J.storeAll rfl rfl rfl 0 rfl rfl rfl ?_)
    (refine J.nil ?_)
    (refine N.seq ?_)
    (refine W.seq ?_)
    (refine W.region ?_)
    (refine Jx.loadAll rfl 1 rfl rfl rfl ?_)
    (refine Jx.fieldAddr rfl rfl ?_)
    (refine J.storeAg rfl rfl rfl 0 rfl rfl rfl rfl ?_)
    (refine J.nil ?_)
    (refine N.seq ?_)
    (refine W.seq ?_)
    (refine W.seq ?_)
    (refine W.region ?_)
    (refine Jx.loadAll rfl 2 rfl rfl rfl ?_)
    (refine J.call (cb) rfl (evs_args rfl) rfl ?_; rintro _ _ ⟨rfl, rfl⟩; simp only [List.cons_append, List.nil_append, List.append_nil])
    (refine Jx.move rfl rfl ?_)
    (refine J.gY rfl rfl rfl ?_)
    (refine Jx.loadAll rfl 0 rfl rfl rfl ?_)
    (refine J.gY rfl rfl rfl ?_)
    (refine J.call (cb2) rfl (evs_args rfl) rfl ?_; rintro _ _ ⟨rfl, rfl⟩; simp only [List.cons_append, List.nil_append, List.append_nil])
    (refine Jx.pF rfl rfl rfl ?_)
    (refine Jx.move rfl rfl ?_)
    (refine J.gY rfl rfl rfl ?_)
    (refine Jx.loadAll rfl 2 rfl rfl rfl ?_)
    (refine J.gY rfl rfl rfl ?_)
    (refine J.call (c1) rfl (evs_args rfl) rfl ?_; rintro _ _ ⟨rfl, rfl⟩; simp only [List.cons_append, List.nil_append, List.append_nil])
    (refine J.gY rfl rfl rfl ?_)
    (refine Jx.neqI rfl rfl rfl ?_)
    (refine Jx.pF rfl rfl rfl ?_)
    (refine J.nil ?_)
    (refine N.seq ?_)
    (refine W.cT rfl ?_)
    (refine W.seq ?_)
    (refine W.region ?_)
    (refine Jx.assign rfl rfl ?_)
    (refine J.nil ?_)
    (refine N.seq ?_)
    (refine W.ret ?_)
    (refine N.noGotoRet ?_)
    (refine id ?_; rotate_left))
        exact N.retD (rs := [.tmp 4]) (L1 := []) rfl (.tmp rfl .nil) (List.nil_sublist _) ⟨rfl, rfl⟩
      | true =>
        rw [hf] at c1
        rw [digB, hf, if_pos rfl] at d1
        cases hg : fineBk ⟨x.head, x.txs, c⟩ with
        | false =>
          rw [hg] at c2
          rw [digB, hg] at d2
          simp only [Bool.false_eq_true, if_false] at d2
          focus (
    (refine W.seq ?_)
    (refine W.region ?_)
    (refine J.boxAg rfl rfl ?_; intro b')
    (refine J.boxAg rfl rfl ?_; intro b')
    (refine Jx.assign rfl rfl ?_)
    (refine J.nil ?_)
    (refine N.seq ?_)
    (refine W.seq ?_)
    (refine W.seq ?_)
    (refine W.region ?_)
    (refine J.call (cw) rfl (evs_args rfl) rfl ?_; rintro _ _ ⟨rfl, rfl⟩; simp only [List.cons_append, List.nil_append, List.append_nil])
    (refine Jx.not rfl rfl ?_)
    (refine J.nil ?_)
    (refine N.seq ?_)
    (refine W.cF rfl ?_)
    (refine W.skip ?_)
    (refine N.seq ?_)
    (refine W.seq ?_)
    (refine W.region ?_)
    (refine Jx.loadAll rfl 1 rfl rfl rfl ?_)
    (refine J.alloc (by simp only [List.map_cons, List.map_nil]; rfl) rfl rfl ?_; intro b')
    (refine J.storeAll rfl rfl rfl 0 rfl rfl rfl ?_)
    (refine J.nil ?_)
    (refine N.seq ?_)
    (refine W.seq ?_)
    (refine W.region ?_)
    (refine Jx.loadAll rfl 1 rfl rfl rfl ?_)
    (refine Jx.fieldAddr rfl rfl ?_)
    (refine J.storeAg rfl rfl rfl 0 rfl rfl rfl rfl ?_)
    (refine J.nil ?_)
    (refine N.seq ?_)
    (refine W.seq ?_)
    (refine W.seq ?_)
    (refine W.region ?_)
    (refine Jx.loadAll rfl 2 rfl rfl rfl ?_)
    (refine J.call (cb) rfl (evs_args rfl) rfl ?_; rintro _ _ ⟨rfl, rfl⟩; simp only [List.cons_append, List.nil_append, List.append_nil])
    (refine Jx.move rfl rfl ?_)
    (refine J.gY rfl rfl rfl ?_)
    (refine Jx.loadAll rfl 0 rfl rfl rfl ?_)
    (refine J.gY rfl rfl rfl ?_)
    (refine J.call (cb2) rfl (evs_args rfl) rfl ?_; rintro _ _ ⟨rfl, rfl⟩; simp only [List.cons_append, List.nil_append, List.append_nil])
    (refine Jx.pF rfl rfl rfl ?_)
    (refine Jx.move rfl rfl ?_)
    (refine J.gY rfl rfl rfl ?_)
    (refine Jx.loadAll rfl 2 rfl rfl rfl ?_)
    (refine J.gY rfl rfl rfl ?_)
    (refine J.call (c1) rfl (evs_args rfl) rfl ?_; rintro _ _ ⟨rfl, rfl⟩; simp only [List.cons_append, List.nil_append, List.append_nil])
    (refine J.gY rfl rfl rfl ?_)
    (refine Jx.neqI rfl rfl rfl ?_)
    (refine Jx.pF rfl rfl rfl ?_)
    (refine J.nil ?_)
    (refine N.seq ?_)
    (refine W.cF rfl ?_)
    (refine W.skip ?_)
    (refine N.seq ?_)
    (refine W.seq ?_)
    (refine W.seq ?_)
    (refine W.region ?_)
    (refine Jx.loadAll rfl 0 rfl rfl rfl ?_)
    (refine J.call (c2) rfl (evs_args rfl) rfl ?_; rintro _ _ ⟨rfl, rfl⟩; simp only [List.cons_append, List.nil_append, List.append_nil])
    (refine Jx.neqI rfl rfl rfl ?_)
    (refine J.nil ?_)
    (refine N.seq ?_)
    (refine W.cT rfl ?_)
    (refine W.seq ?_)
    (refine W.region ?_)
    (refine Jx.loadAll rfl 0 rfl rfl rfl ?_)
    (refine J.call (d2) rfl (evs_args rfl) rfl ?_; rintro _ _ ⟨rfl, rfl⟩; simp only [List.cons_append, List.nil_append, List.append_nil])
    (refine Jx.eqlS rfl rfl rfl ?_)
    (refine Jx.assign rfl rfl ?_)
    (refine J.nil ?_)
    (refine N.seq ?_)
    (refine W.ret ?_)
    (refine N.noGotoRet ?_)
    (refine id ?_; rotate_left))
          exact N.retD (rs := [.tmp 4]) (L1 := []) rfl (.tmp rfl .nil) (List.nil_sublist _) ⟨rfl, rfl⟩
        | true =>
          rw [hg] at c2
          rw [digB, hg, if_pos rfl] at d2
          simp only at d2
          generalize digH x.head = dg at *
          have hdd : dg = dg := rfl
          have F := (fineBk_iff _).1 hg
          rcases F.just with hj | hj
          · simp only [bareCt, Bool.and_eq_true, decide_eq_true_eq] at hj
            have e1 := hj.1
            have e2 := hj.2
            focus (
    (refine W.seq ?_)
    (refine W.region ?_)
    (refine J.boxAg rfl rfl ?_; intro b')
    (refine J.boxAg rfl rfl ?_; intro b')
    (refine Jx.assign rfl rfl ?_)
    (refine J.nil ?_)
    (refine N.seq ?_)
    (refine W.seq ?_)
    (refine W.seq ?_)
    (refine W.region ?_)
    (refine J.call (cw) rfl (evs_args rfl) rfl ?_; rintro _ _ ⟨rfl, rfl⟩; simp only [List.cons_append, List.nil_append, List.append_nil])
    (refine Jx.not rfl rfl ?_)
    (refine J.nil ?_)
    (refine N.seq ?_)
    (refine W.cF rfl ?_)
    (refine W.skip ?_)
    (refine N.seq ?_)
    (refine W.seq ?_)
    (refine W.region ?_)
    (refine Jx.loadAll rfl 1 rfl rfl rfl ?_)
    (refine J.alloc (by simp only [List.map_cons, List.map_nil]; rfl) rfl rfl ?_; intro b')
    (refine J.storeAll rfl rfl rfl 0 rfl rfl rfl ?_)
    (refine J.nil ?_)
    (refine N.seq ?_)
    (refine W.seq ?_)
    (refine W.region ?_)
    (refine Jx.loadAll rfl 1 rfl rfl rfl ?_)
    (refine Jx.fieldAddr rfl rfl ?_)
    (refine J.storeAg rfl rfl rfl 0 rfl rfl rfl rfl ?_)
    (refine J.nil ?_)
    (refine N.seq ?_)
    (refine W.seq ?_)
    (refine W.seq ?_)
    (refine W.region ?_)
    (refine Jx.loadAll rfl 2 rfl rfl rfl ?_)
    (refine J.call (cb) rfl (evs_args rfl) rfl ?_; rintro _ _ ⟨rfl, rfl⟩; simp only [List.cons_append, List.nil_append, List.append_nil])
    (refine Jx.move rfl rfl ?_)
    (refine J.gY rfl rfl rfl ?_)
    (refine Jx.loadAll rfl 0 rfl rfl rfl ?_)
    (refine J.gY rfl rfl rfl ?_)
    (refine J.call (cb2) rfl (evs_args rfl) rfl ?_; rintro _ _ ⟨rfl, rfl⟩; simp only [List.cons_append, List.nil_append, List.append_nil])
    (refine Jx.pF rfl rfl rfl ?_)
    (refine Jx.move rfl rfl ?_)
    (refine J.gY rfl rfl rfl ?_)
    (refine Jx.loadAll rfl 2 rfl rfl rfl ?_)
    (refine J.gY rfl rfl rfl ?_)
    (refine J.call (c1) rfl (evs_args rfl) rfl ?_; rintro _ _ ⟨rfl, rfl⟩; simp only [List.cons_append, List.nil_append, List.append_nil])
    (refine J.gY rfl rfl rfl ?_)
    (refine Jx.neqI rfl rfl rfl ?_)
    (refine Jx.pF rfl rfl rfl ?_)
    (refine J.nil ?_)
    (refine N.seq ?_)
    (refine W.cF rfl ?_)
    (refine W.skip ?_)
    (refine N.seq ?_)
    (refine W.seq ?_)
    (refine W.seq ?_)
    (refine W.region ?_)
    (refine Jx.loadAll rfl 0 rfl rfl rfl ?_)
    (refine J.call (c2) rfl (evs_args rfl) rfl ?_; rintro _ _ ⟨rfl, rfl⟩; simp only [List.cons_append, List.nil_append, List.append_nil])
    (refine Jx.neqI rfl rfl rfl ?_)
    (refine J.nil ?_)
    (refine N.seq ?_)
    (refine W.cF rfl ?_)
    (refine W.skip ?_)
    (refine N.seq ?_)
    (refine W.seq ?_)
    (refine W.draw follows ?_)
    (refine JD.calm rfl (by decide +kernel) ?_)
    (refine Cx.fieldAddr rfl rfl ?_)
    (refine Cx.load rfl 1 rfl rfl rfl ?_)
    (refine Cx.eqlS rfl rfl rfl ?_)
    (refine Cx.move rfl rfl ?_)
    (refine SegC.gY rfl rfl rfl ?_)
    (refine Cx.fieldAddr rfl rfl ?_)
    (refine SegC.gY rfl rfl rfl ?_)
    (refine Cx.load rfl 1 rfl rfl rfl ?_)
    (refine SegC.gY rfl rfl rfl ?_)
    (refine Cx.lenSl rfl rfl ?_)
    (refine SegC.gY rfl rfl rfl ?_)
    (refine Cx.eqlI rfl rfl rfl ?_)
    (refine Cx.pickT rfl (by first | rfl | assumption | (exact decide_eq_true (by first | assumption | omega | rfl)) | (exact decide_eq_false (by first | assumption | omega | rfl)) | (simp; done) | (simp; omega)) rfl rfl ?_)
    (refine Cx.move rfl rfl ?_)
    (refine SegC.gU rfl rfl rfl rfl ?_)
    (refine SegC.gU rfl rfl rfl rfl ?_)
    (refine SegC.gU rfl rfl rfl rfl ?_)
    (refine SegC.gU rfl rfl rfl rfl ?_)
    (refine SegC.gU rfl rfl rfl rfl ?_)
    (refine SegC.gU rfl rfl rfl rfl ?_)
    (refine Cx.pickT rfl (by first | rfl | assumption | (exact decide_eq_true (by first | assumption | omega | rfl)) | (exact decide_eq_false (by first | assumption | omega | rfl)) | (simp; done) | (simp; omega)) rfl rfl ?_)
    (refine Cx.move rfl rfl ?_)
    (refine SegC.gY rfl rfl rfl ?_)
    (refine Cx.loadAll rfl 0 rfl rfl rfl ?_)
    (refine SegC.gY rfl rfl rfl ?_)
    (refine SegC.q (Qs.call (Lc := []) (d2) (fun s L' h => h) (List.Perm.refl _) (evs_args rfl)) rfl ?_)
    (refine SegC.gY rfl rfl rfl ?_)
    (refine Cx.loadAll rfl 2 rfl rfl rfl ?_)
    (refine SegC.gY rfl rfl rfl ?_)
    (refine SegC.q (Qs.call (Lc := []) (d1) (fun s L' h => h) (List.Perm.refl _) (evs_args rfl)) rfl ?_)
    (refine SegC.gY rfl rfl rfl ?_)
    (refine Cx.eqlS rfl rfl rfl ?_)
    (refine Cx.pickT rfl (by first | rfl | assumption | (exact decide_eq_true (by first | assumption | omega | rfl)) | (exact decide_eq_false (by first | assumption | omega | rfl)) | (simp; done) | (simp; omega)) rfl rfl ?_)
    (refine Cx.assign rfl rfl ?_)
    (refine SegC.nil ?_)
    (refine N.seq ?_)
    (refine W.ret ?_)
    (refine id ?_; rotate_left))
            exact N.retD (rs := [.tmp 4]) (L1 := []) rfl (.tmp rfl .nil) (List.nil_sublist _) ⟨by first | rfl | simp [oneOr], rfl⟩
          · have e1 : ¬ c.digest = [] := fun h => by have := (fineCt_spec hj.1).1; simp only at this; rw [h] at this; simp at this
            have e2 : c.digest = x.head.parent := hj.2
            focus (
    (refine W.seq ?_)
    (refine W.region ?_)
    (refine J.boxAg rfl rfl ?_; intro b')
    (refine J.boxAg rfl rfl ?_; intro b')
    (refine Jx.assign rfl rfl ?_)
    (refine J.nil ?_)
    (refine N.seq ?_)
    (refine W.seq ?_)
    (refine W.seq ?_)
    (refine W.region ?_)
    (refine J.call (cw) rfl (evs_args rfl) rfl ?_; rintro _ _ ⟨rfl, rfl⟩; simp only [List.cons_append, List.nil_append, List.append_nil])
    (refine Jx.not rfl rfl ?_)
    (refine J.nil ?_)
    (refine N.seq ?_)
    (refine W.cF rfl ?_)
    (refine W.skip ?_)
    (refine N.seq ?_)
    (refine W.seq ?_)
    (refine W.region ?_)
    (refine Jx.loadAll rfl 1 rfl rfl rfl ?_)
    (refine J.alloc (by simp only [List.map_cons, List.map_nil]; rfl) rfl rfl ?_; intro b')
    (refine J.storeAll rfl rfl rfl 0 rfl rfl rfl ?_)
    (refine J.nil ?_)
    (refine N.seq ?_)
    (refine W.seq ?_)
    (refine W.region ?_)
    (refine Jx.loadAll rfl 1 rfl rfl rfl ?_)
    (refine Jx.fieldAddr rfl rfl ?_)
    (refine J.storeAg rfl rfl rfl 0 rfl rfl rfl rfl ?_)
    (refine J.nil ?_)
    (refine N.seq ?_)
    (refine W.seq ?_)
    (refine W.seq ?_)
    (refine W.region ?_)
    (refine Jx.loadAll rfl 2 rfl rfl rfl ?_)
    (refine J.call (cb) rfl (evs_args rfl) rfl ?_; rintro _ _ ⟨rfl, rfl⟩; simp only [List.cons_append, List.nil_append, List.append_nil])
    (refine Jx.move rfl rfl ?_)
    (refine J.gY rfl rfl rfl ?_)
    (refine Jx.loadAll rfl 0 rfl rfl rfl ?_)
    (refine J.gY rfl rfl rfl ?_)
    (refine J.call (cb2) rfl (evs_args rfl) rfl ?_; rintro _ _ ⟨rfl, rfl⟩; simp only [List.cons_append, List.nil_append, List.append_nil])
    (refine Jx.pF rfl rfl rfl ?_)
    (refine Jx.move rfl rfl ?_)
    (refine J.gY rfl rfl rfl ?_)
    (refine Jx.loadAll rfl 2 rfl rfl rfl ?_)
    (refine J.gY rfl rfl rfl ?_)
    (refine J.call (c1) rfl (evs_args rfl) rfl ?_; rintro _ _ ⟨rfl, rfl⟩; simp only [List.cons_append, List.nil_append, List.append_nil])
    (refine J.gY rfl rfl rfl ?_)
    (refine Jx.neqI rfl rfl rfl ?_)
    (refine Jx.pF rfl rfl rfl ?_)
    (refine J.nil ?_)
    (refine N.seq ?_)
    (refine W.cF rfl ?_)
    (refine W.skip ?_)
    (refine N.seq ?_)
    (refine W.seq ?_)
    (refine W.seq ?_)
    (refine W.region ?_)
    (refine Jx.loadAll rfl 0 rfl rfl rfl ?_)
    (refine J.call (c2) rfl (evs_args rfl) rfl ?_; rintro _ _ ⟨rfl, rfl⟩; simp only [List.cons_append, List.nil_append, List.append_nil])
    (refine Jx.neqI rfl rfl rfl ?_)
    (refine J.nil ?_)
    (refine N.seq ?_)
    (refine W.cF rfl ?_)
    (refine W.skip ?_)
    (refine N.seq ?_)
    (refine W.seq ?_)
    (refine W.draw follows ?_)
    (refine JD.calm rfl (by decide +kernel) ?_)
    (refine Cx.fieldAddr rfl rfl ?_)
    (refine Cx.load rfl 1 rfl rfl rfl ?_)
    (refine Cx.eqlS rfl rfl rfl ?_)
    (refine Cx.move rfl rfl ?_)
    (refine SegC.gU rfl rfl rfl rfl ?_)
    (refine SegC.gU rfl rfl rfl rfl ?_)
    (refine SegC.gU rfl rfl rfl rfl ?_)
    (refine SegC.gU rfl rfl rfl rfl ?_)
    (refine Cx.pickF rfl (by first | rfl | assumption | (exact decide_eq_true (by first | assumption | omega | rfl)) | (exact decide_eq_false (by first | assumption | omega | rfl)) | (simp; done) | (simp; omega)) rfl rfl ?_)
    (refine Cx.move rfl rfl ?_)
    (refine SegC.gY rfl rfl rfl ?_)
    (refine Cx.fieldAddr rfl rfl ?_)
    (refine SegC.gY rfl rfl rfl ?_)
    (refine Cx.load rfl 1 rfl rfl rfl ?_)
    (refine SegC.gY rfl rfl rfl ?_)
    (refine Cx.fieldAddr rfl rfl ?_)
    (refine SegC.gY rfl rfl rfl ?_)
    (refine Cx.fieldAddr rfl rfl ?_)
    (refine SegC.gY rfl rfl rfl ?_)
    (refine Cx.load rfl 2 rfl rfl rfl ?_)
    (refine SegC.gY rfl rfl rfl ?_)
    (refine Cx.eqlS rfl rfl rfl ?_)
    (refine Cx.pickF rfl (by first | rfl | assumption | (exact decide_eq_true (by first | assumption | omega | rfl)) | (exact decide_eq_false (by first | assumption | omega | rfl)) | (simp; done) | (simp; omega)) rfl rfl ?_)
    (refine Cx.move rfl rfl ?_)
    (refine SegC.gY rfl rfl rfl ?_)
    (refine Cx.loadAll rfl 0 rfl rfl rfl ?_)
    (refine SegC.gY rfl rfl rfl ?_)
    (refine SegC.q (Qs.call (Lc := []) (d2) (fun s L' h => h) (List.Perm.refl _) (evs_args rfl)) rfl ?_)
    (refine SegC.gY rfl rfl rfl ?_)
    (refine Cx.loadAll rfl 2 rfl rfl rfl ?_)
    (refine SegC.gY rfl rfl rfl ?_)
    (refine SegC.q (Qs.call (Lc := []) (d1) (fun s L' h => h) (List.Perm.refl _) (evs_args rfl)) rfl ?_)
    (refine SegC.gY rfl rfl rfl ?_)
    (refine Cx.eqlS rfl rfl rfl ?_)
    (refine Cx.pickT rfl (by first | rfl | assumption | (exact decide_eq_true (by first | assumption | omega | rfl)) | (exact decide_eq_false (by first | assumption | omega | rfl)) | (simp; done) | (simp; omega)) rfl rfl ?_)
    (refine Cx.assign rfl rfl ?_)
    (refine SegC.nil ?_)
    (refine N.seq ?_)
    (refine W.ret ?_)
    (refine id ?_; rotate_left))
            exact N.retD (rs := [.tmp 4]) (L1 := []) rfl (.tmp rfl .nil) (List.nil_sublist _) ⟨by first | rfl | simp [oneOr], rfl⟩
end Go.Proofs.YtlfdhkahiaammaaDoor
namespace Go.Proofs.YtlfdhkahiaammaaDoor
open Go Go.Sse Go.ChangeShapes Go.WideShapes Go.ChangeAt Go.RowKit
set_option linter.unusedVariables false
set_option linter.unusedSimpArgs false
set_option maxRecDepth 100000
noncomputable def rdHd : Rd Tryd.prog 24 Hd :=
  rdIso (Rd.struct (tos := [(3, 0), (3, 1), (3, 2), (4, 3), (9, 4), (9, 5), (9, 6), (9, 7), (9, 8), (9, 9), (22, 10)]) (by kernel_rfl)
    (Fds.cons rdInt (Fds.cons rdInt (Fds.cons rdInt (Fds.cons rdBool (Fds.cons rdStr (Fds.cons rdStr (Fds.cons rdStr (Fds.cons rdStr (Fds.cons rdStr (Fds.cons rdStr (Fds.cons rdStrs Fds.nil))))))))))) (by kernel_rfl))
    (fun x => ⟨x.1, x.2.1, x.2.2.1, x.2.2.2.1, x.2.2.2.2.1, x.2.2.2.2.2.1, x.2.2.2.2.2.2.1, x.2.2.2.2.2.2.2.1, x.2.2.2.2.2.2.2.2.1, x.2.2.2.2.2.2.2.2.2.1, x.2.2.2.2.2.2.2.2.2.2.1⟩) (fun x => (x.height, x.epoch, x.view, x.last, x.parent, x.state, x.receipts, x.txs, x.members, x.next, x.skips, ())) (fun _ => rfl) hdC (fun _ => rfl) (fun _ => rfl)
end Go.Proofs.YtlfdhkahiaammaaDoor
namespace Go.Proofs.YtlfdhkahiaammaaDoor
open Go Go.Sse Go.ChangeShapes Go.WideShapes Go.ChangeAt Go.RowKit
set_option linter.unusedVariables false
set_option linter.unusedSimpArgs false
set_option maxRecDepth 100000
noncomputable def rdCt : Rd Tryd.prog 27 Ct :=
  rdIso (Rd.struct (tos := [(9, 0), (22, 1)]) (by kernel_rfl) (Fds.cons rdStr (Fds.cons rdStrs Fds.nil)) (by kernel_rfl)) (fun x => ⟨x.1, x.2.1⟩) (fun c => (c.digest, c.signers, ())) (fun _ => rfl) ctC (fun _ => rfl) (fun _ => rfl)
noncomputable def rdBk : Rd Tryd.prog 29 Bk :=
  rdIso (Rd.struct (tos := [(24, 0), (25, 11), (27, 12)]) (by kernel_rfl) (Fds.cons rdHd (Fds.cons rdTxs (Fds.cons rdCt Fds.nil))) (by kernel_rfl)) (fun x => ⟨x.1, x.2.1, x.2.2.1⟩) (fun b => (b.head, b.txs, b.just, ())) (fun _ => rfl) bkC (fun _ => rfl) (fun _ => rfl)
end Go.Proofs.YtlfdhkahiaammaaDoor
