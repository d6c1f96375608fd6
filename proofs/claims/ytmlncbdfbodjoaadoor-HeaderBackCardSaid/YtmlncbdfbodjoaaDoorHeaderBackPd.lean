/-
  Lemmas for the claim, part 4.
-/
import Derived.Test.YtmlncbdfbodjoaaDoorHeaderBackPc
namespace Go.Proofs.YtmlncbdfbodjoaaDoor
open Go Go.Sse
set_option linter.unusedVariables false
open Go.Shelf in
def lays105_ren : Go.Shelf.Ren := ⟨fun | 105 => 63 | 212 => 98 | 99 => 99 | 165 => 100 | 166 => 101 | 170 => 102 | 169 => 103 | 263 => 114 | 264 => 115 | 206 => 116 | 240 => 117 | 241 => 118 | 276 => 126 | 277 => 127 | n => n, fun | 9 => 9 | 3 => 3 | 4 => 4 | 20 => 20 | 0 => 0 | 46 => 100 | 109 => 101 | 5 => 5 | 72 => 106 | 76 => 110 | 51 => 119 | 146 => 120 | 53 => 122 | 148 => 123 | 70 => 104 | 37 => 64 | 75 => 109 | 127 => 125 | 164 => 136 | 80 => 112 | n => n, fun | n => n⟩
open Go.Shelf in
theorem lays105 : Go.Proofs.Lays.n105 Tryd.prog lays105_ren := {
  mixed := by kernel_rfl
  f99 := Tryd.func99.trans (congrArg some (by kernel_rfl))
  f105 := Tryd.func63.trans (congrArg some (by kernel_rfl))
  f165 := Tryd.func100.trans (congrArg some (by kernel_rfl))
  f166 := Tryd.func101.trans (congrArg some (by kernel_rfl))
  f169 := Tryd.func103.trans (congrArg some (by kernel_rfl))
  f170 := Tryd.func102.trans (congrArg some (by kernel_rfl))
  f206 := Tryd.func116.trans (congrArg some (by kernel_rfl))
  f212 := Tryd.func98.trans (congrArg some (by kernel_rfl))
  f240 := Tryd.func117.trans (congrArg some (by kernel_rfl))
  f241 := Tryd.func118.trans (congrArg some (by kernel_rfl))
  f263 := Tryd.func114.trans (congrArg some (by kernel_rfl))
  f264 := Tryd.func115.trans (congrArg some (by kernel_rfl))
  f276 := Tryd.func126.trans (congrArg some (by kernel_rfl))
  f277 := Tryd.func127.trans (congrArg some (by kernel_rfl))
  t0 := Tryd.underlying0
  a0 := Tryd.isAgg0
  z0 := Tryd.sizeOf0
  v0 := Tryd.zeroValue0
  t3 := Tryd.underlying3
  a3 := Tryd.isAgg3
  z3 := Tryd.sizeOf3
  v3 := Tryd.zeroValue3
  t4 := Tryd.underlying4
  a4 := Tryd.isAgg4
  z4 := Tryd.sizeOf4
  v4 := Tryd.zeroValue4
  t5 := Tryd.underlying5
  a5 := Tryd.isAgg5
  z5 := Tryd.sizeOf5
  v5 := Tryd.zeroValue5
  t9 := Tryd.underlying9
  a9 := Tryd.isAgg9
  z9 := Tryd.sizeOf9
  v9 := Tryd.zeroValue9
  t20 := Tryd.underlying20
  a20 := Tryd.isAgg20
  z20 := Tryd.sizeOf20
  v20 := Tryd.zeroValue20
  t37 := Tryd.underlying64
  a37 := Tryd.isAgg64
  z37 := Tryd.sizeOf64
  v37 := Tryd.zeroValue64
  t46 := Tryd.underlying100
  a46 := Tryd.isAgg100
  z46 := Tryd.sizeOf100
  v46 := Tryd.zeroValue100
  t51 := Tryd.underlying119
  a51 := Tryd.isAgg119
  z51 := Tryd.sizeOf119
  v51 := Tryd.zeroValue119
  t53 := Tryd.underlying122
  a53 := Tryd.isAgg122
  z53 := Tryd.sizeOf122
  v53 := Tryd.zeroValue122
  t70 := Tryd.underlying104
  a70 := Tryd.isAgg104
  z70 := Tryd.sizeOf104
  v70 := Tryd.zeroValue104
  t72 := Tryd.underlying106
  a72 := Tryd.isAgg106
  z72 := Tryd.sizeOf106
  v72 := Tryd.zeroValue106
  t75 := Tryd.underlying109
  a75 := Tryd.isAgg109
  z75 := Tryd.sizeOf109
  v75 := Tryd.zeroValue109
  t76 := Tryd.underlying110
  a76 := Tryd.isAgg110
  z76 := Tryd.sizeOf110
  v76 := Tryd.zeroValue110
  t109 := Tryd.underlying101
  a109 := Tryd.isAgg101
  z109 := Tryd.sizeOf101
  v109 := Tryd.zeroValue101
  t127 := Tryd.underlying125
  a127 := Tryd.isAgg125
  z127 := Tryd.sizeOf125
  v127 := Tryd.zeroValue125
  t146 := Tryd.underlying120
  a146 := Tryd.isAgg120
  z146 := Tryd.sizeOf120
  v146 := Tryd.zeroValue120
  t148 := Tryd.underlying123
  a148 := Tryd.isAgg123
  z148 := Tryd.sizeOf123
  v148 := Tryd.zeroValue123
  t164 := Tryd.underlying136
  a164 := Tryd.isAgg136
  z164 := Tryd.sizeOf136
  v164 := Tryd.zeroValue136 }
open Go.Shelf in
theorem Builder_Extra_105 : Builder.Extra Tryd.prog lays105_ren := {
  sizeBuilder := by kernel_rfl
  liesBuilder := by kernel_rfl
  t5 := Tryd.underlying5
  a5 := Tryd.isAgg5
  z5 := Tryd.sizeOf5
  v5 := Tryd.zeroValue5
  infoByte := by kernel_rfl
  cellsByte := by kernel_rfl
  sizeByte := by kernel_rfl
  neB5 := by decide }
open Go.RowKit Go.Lib Go.Shelf in
theorem strings_Repeat (s : ByteArray) (c : Nat) (w : World) (hc : c ≤ 9223372036854775807) (hlen : s.size * c ≤ 140737488355328) :
    Calls Tryd.prog 63 #[.string s, .int .i64 c] w fun e w' => e = .returned (.string ⟨(Lib.repeatL s.data.toList c).toArray⟩) ∧ Below w.heap.size w w' := Any.strings_Repeat lays105 Builder_Extra_105 s c w hc hlen
theorem repL_one (x : UInt8) : ∀ n, Lib.repeatL [x] n = List.replicate n x
  | 0 => rfl
  | n + 1 => by rw [Lib.repeatL, repL_one x n]; rfl
theorem rep_ok (x : UInt8) (n : Nat) (hn : n ≤ 140737488355328) : FnC Tryd.prog 63 [str [x], int (n : Int)] [] (fun v L => v = str (List.replicate n x) ∧ L = []) := by
  refine ⟨fun Z w vs hl hr hz hnd hd ho hgl => ?_⟩
  match vs, hl with
  | [a, b], _ =>
    obtain rfl : a = _ := (hr 0 (by simp)).val_eq
    obtain rfl : b = _ := (hr 1 (by simp)).val_eq
    refine (strings_Repeat ⟨[x].toArray⟩ n w (by omega) (by simpa [ByteArray.size] using hn)).mono fun e w' ⟨he, hb⟩ => ?_
    refine ⟨_, str (List.replicate n x), [], he, ⟨rfl, rfl⟩, ?_, ⟨hb.os, hb.tape, hb.output, hb.size, fun k hk _ => hb.block k hk, hz, hnd, fun b hi => by simp [inF, foots] at hi, fun o h => by cases h⟩⟩
    rw [show [x].toArray.toList = [x] from rfl, repL_one]
    exact .val _
end Go.Proofs.YtmlncbdfbodjoaaDoor
namespace Go.Proofs.YtmlncbdfbodjoaaDoor
open Go Go.Sse
set_option linter.unusedVariables false
set_option linter.unusedSimpArgs false
set_option maxRecDepth 10000
def bigH (h : Hd) : Bool := (((((!fewB h.skips 40 100 || decide (100 < (h.parent.length : Int))) || decide (100 < (h.state.length : Int))) || decide (100 < (h.receipts.length : Int))) || decide (100 < (h.txs.length : Int))) || decide (100 < (h.members.length : Int))) || decide (100 < (h.next.length : Int))
theorem bigH_no {h : Hd} (hb : bigH h = false) : h.skips.length ≤ 40 := by
  simp only [bigH, Bool.or_eq_false_iff, Bool.not_eq_false'] at hb
  exact (few_spec (n := 40) (e := 100) hb.1.1.1.1.1.1).1
theorem hbig_ok (h : Hd) : FnC Tryd.prog 23 [.agg (hdC h)] [] (fun v L => v = bool (bigH h) ∧ L = []) := by
  have c := few_ok h.skips 40 100 (by decide)
  refine FnC.intro Tryd.func23 rfl Tryd.ntmps23 rfl fun Z w0 hG => ?_
  focus (
    (refine W.seq ?_)
    (refine W.region ?_)
    (refine J.boxAg rfl rfl ?_; intro b')
    (refine Jx.assign rfl rfl ?_)
    (refine J.nil ?_)
    (refine N.seq ?_)
    (refine W.seq ?_)
    (refine W.region ?_)
    (refine Jx.fieldAddr rfl rfl ?_)
    (refine Jx.load rfl 0 rfl rfl rfl ?_)
    (refine J.call (c) rfl (evs_args rfl) rfl ?_; rintro _ _ ⟨rfl, rfl⟩; simp only [List.cons_append, List.nil_append, List.append_nil])
    (refine Jx.not rfl rfl ?_)
    (refine Jx.move rfl rfl ?_)
    (refine' J.guardOr rfl rfl rfl rfl rfl rfl rfl rfl (fun _ => ?_) ?_; rotate_left)
    (refine J.gY rfl rfl rfl ?_)
    (refine Jx.fieldAddr rfl rfl ?_)
    (refine J.gY rfl rfl rfl ?_)
    (refine Jx.load rfl 0 rfl rfl rfl ?_)
    (refine J.gY rfl rfl rfl ?_)
    (refine Jx.lenS rfl rfl ?_)
    (refine J.gY rfl rfl rfl ?_)
    (refine Jx.gtrI rfl rfl rfl ?_)
    (refine J.nil ?_)
    (refine N.joinedN rfl rfl rfl)
    (refine Jx.move rfl rfl ?_)
    (refine' J.guardOr rfl rfl rfl rfl rfl rfl rfl rfl (fun _ => ?_) ?_; rotate_left)
    (refine J.gY rfl rfl rfl ?_)
    (refine Jx.fieldAddr rfl rfl ?_)
    (refine J.gY rfl rfl rfl ?_)
    (refine Jx.load rfl 0 rfl rfl rfl ?_)
    (refine J.gY rfl rfl rfl ?_)
    (refine Jx.lenS rfl rfl ?_)
    (refine J.gY rfl rfl rfl ?_)
    (refine Jx.gtrI rfl rfl rfl ?_)
    (refine J.nil ?_)
    (refine N.joinedN rfl rfl rfl)
    (refine Jx.move rfl rfl ?_)
    (refine' J.guardOr rfl rfl rfl rfl rfl rfl rfl rfl (fun _ => ?_) ?_; rotate_left)
    (refine J.gY rfl rfl rfl ?_)
    (refine Jx.fieldAddr rfl rfl ?_)
    (refine J.gY rfl rfl rfl ?_)
    (refine Jx.load rfl 0 rfl rfl rfl ?_)
    (refine J.gY rfl rfl rfl ?_)
    (refine Jx.lenS rfl rfl ?_)
    (refine J.gY rfl rfl rfl ?_)
    (refine Jx.gtrI rfl rfl rfl ?_)
    (refine J.nil ?_)
    (refine N.joinedN rfl rfl rfl)
    (refine Jx.move rfl rfl ?_)
    (refine' J.guardOr rfl rfl rfl rfl rfl rfl rfl rfl (fun _ => ?_) ?_; rotate_left)
    (refine J.gY rfl rfl rfl ?_)
    (refine Jx.fieldAddr rfl rfl ?_)
    (refine J.gY rfl rfl rfl ?_)
    (refine Jx.load rfl 0 rfl rfl rfl ?_)
    (refine J.gY rfl rfl rfl ?_)
    (refine Jx.lenS rfl rfl ?_)
    (refine J.gY rfl rfl rfl ?_)
    (refine Jx.gtrI rfl rfl rfl ?_)
    (refine J.nil ?_)
    (refine N.joinedN rfl rfl rfl)
    (refine Jx.move rfl rfl ?_)
    (refine' J.guardOr rfl rfl rfl rfl rfl rfl rfl rfl (fun _ => ?_) ?_; rotate_left)
    (refine J.gY rfl rfl rfl ?_)
    (refine Jx.fieldAddr rfl rfl ?_)
    (refine J.gY rfl rfl rfl ?_)
    (refine Jx.load rfl 0 rfl rfl rfl ?_)
    (refine J.gY rfl rfl rfl ?_)
    (refine Jx.lenS rfl rfl ?_)
    (refine J.gY rfl rfl rfl ?_)
    (refine Jx.gtrI rfl rfl rfl ?_)
    (refine J.nil ?_)
    (refine N.joinedN rfl rfl rfl)
    (refine Jx.move rfl rfl ?_)
    (refine' J.guardOr rfl rfl rfl rfl rfl rfl rfl rfl (fun _ => ?_) ?_; rotate_left)
    (refine J.gY rfl rfl rfl ?_)
    (refine Jx.fieldAddr rfl rfl ?_)
    (refine J.gY rfl rfl rfl ?_)
    (refine Jx.load rfl 0 rfl rfl rfl ?_)
    (refine J.gY rfl rfl rfl ?_)
    (refine Jx.lenS rfl rfl ?_)
    (refine J.gY rfl rfl rfl ?_)
    (refine Jx.gtrI rfl rfl rfl ?_)
    (refine J.nil ?_)
    (refine N.joinedN rfl rfl rfl)
    (refine Jx.assign rfl rfl ?_)
    (refine J.nil ?_)
    (refine N.seq ?_)
    (refine W.ret ?_)
    (refine id ?_; rotate_left))
  exact N.retD (rs := [.tmp 2]) (L1 := []) rfl (.tmp rfl .nil) (List.nil_sublist _) ⟨rfl, rfl⟩
def exH (a b : List UInt8) : Hd := ⟨12, 1, 5, false, a, [], [], a, b, b, [a, b]⟩
theorem links12 : linksI 12 = [10, 8] := by decide +kernel
theorem exH_fine {a b : List UInt8} (ha : a.length = 32) (hb : b.length = 32) : fineHd (exH a b) = true := by
  refine (fineHd_iff _).2 ⟨by simp [exH], by simp [exH], by simp [exH], ⟨fun _ => ha, fun h => by simp [exH] at h⟩, ha, hb, hb, .inl rfl, .inl rfl, ?_, ?_, fun _ => rfl⟩
  · rw [show (exH a b).height = 12 from rfl, links12]; rfl
  · intro s hs
    rcases List.mem_cons.1 hs with rfl | hs
    · exact ha
    · rcases List.mem_cons.1 hs with rfl | hs
      · exact hb
      · cases hs
theorem exH_8 {a b : List UInt8} (h : fineHd (exH a b) = true) : linkH (exH a b) 8 = (b, 0) := by
  rw [linkH, if_pos h, show (exH a b).height = 12 from rfl, links12]; rfl
theorem exH_9 {a b : List UInt8} (h : fineHd (exH a b) = true) : linkH (exH a b) 9 = ([], 5) := by
  rw [linkH, if_pos h, show (exH a b).height = 12 from rfl, links12]; rfl
theorem digH_len {h : Hd} (hf : fineHd h = true) : ((digH h).length : Int) = 32 := by rw [digH, if_pos hf, sumD_len]; rfl
theorem hd0_no : fineHd hd0 = false := by decide +kernel
set_option maxHeartbeats 2000000 in
theorem hworks_ok : FnC Tryd.prog 22 [] [] (fun s L => s = bool true ∧ L = []) := by
  have ca : FnC Tryd.prog 63 [str [97], int 32] [] (fun v L => v = str (List.replicate 32 97) ∧ L = []) := rep_ok 97 32 (by decide)
  have cb : FnC Tryd.prog 63 [str [98], int 32] [] (fun v L => v = str (List.replicate 32 98) ∧ L = []) := rep_ok 98 32 (by decide)
  have ha : (List.replicate 32 (97 : UInt8)).length = 32 := by simp
  have hb : (List.replicate 32 (98 : UInt8)).length = 32 := by simp
  generalize List.replicate 32 (97 : UInt8) = a at *
  generalize List.replicate 32 (98 : UInt8) = b at *
  have hf := exH_fine ha hb
  have c1 := hlink_ok (exH a b) 8 (by simp [exH])
  have c2 := hlink_ok (exH a b) 9 (by simp [exH])
  have c3 := hcheck_ok (exH a b) (by simp [exH])
  have c4 := hdigest_ok (exH a b) (by simp [exH])
  have c5 := hcheck_ok hd0 (by decide)
  have hl := digH_len hf
  rw [exH_8 hf] at c1
  rw [exH_9 hf] at c2
  rw [hf] at c3
  rw [hd0_no] at c5
  generalize digH (exH a b) = sm at *
  refine FnC.intro Tryd.func22 rfl Tryd.ntmps22 rfl fun Z w0 hG => ?_
  focus (
    (refine W.seq ?_)
    (refine W.region ?_)
    (refine Jx.assign rfl rfl ?_)
    (refine J.nil ?_)
    (refine N.seq ?_)
    (refine W.seq ?_)
    (refine W.region ?_)
    (refine J.call (ca) rfl (evs_args rfl) rfl ?_; rintro _ _ ⟨rfl, rfl⟩; simp only [List.cons_append, List.nil_append, List.append_nil])
    (refine J.call (cb) rfl (evs_args rfl) rfl ?_; rintro _ _ ⟨rfl, rfl⟩; simp only [List.cons_append, List.nil_append, List.append_nil])
    (refine Jx.assign rfl rfl ?_)
    (refine Jx.assign rfl rfl ?_)
    (refine J.nil ?_)
    (refine N.seq ?_)
    (refine W.seq ?_)
    (refine W.region ?_)
    (refine Jx.move rfl rfl ?_)
    (refine Jx.move rfl rfl ?_)
    (refine Jx.move rfl rfl ?_)
    (refine Jx.move rfl rfl ?_)
    (refine Jx.move rfl rfl ?_)
    (refine Jx.move rfl rfl ?_)
    (refine J.qs (Qs.buildTexts [a, b] rfl rfl rfl (by decide) (by decide)) rfl ?_)
    (refine Jx.buildB rfl rfl rfl rfl rfl ?_)
    (refine J.alloc (by simp only [List.map_cons, List.map_nil]; rfl) rfl rfl ?_; intro b')
    (refine J.storeAll rfl rfl rfl 0 rfl rfl rfl ?_)
    (refine J.nil ?_)
    (refine N.seq ?_)
    (refine W.seq ?_)
    (refine W.region ?_)
    (refine Jx.loadAll rfl 0 rfl rfl rfl ?_)
    (refine J.call (c1) rfl (evs_args rfl) rfl ?_; rintro _ _ ⟨rfl, rfl⟩; simp only [List.cons_append, List.nil_append, List.append_nil])
    (refine Jx.move rfl rfl ?_)
    (refine Jx.extract rfl rfl rfl ?_)
    (refine Jx.extract rfl rfl rfl ?_)
    (refine Jx.assign rfl rfl ?_)
    (refine Jx.assign rfl rfl ?_)
    (refine J.nil ?_)
    (refine N.seq ?_)
    (refine W.seq ?_)
    (refine W.region ?_)
    (refine Jx.loadAll rfl 0 rfl rfl rfl ?_)
    (refine J.call (c2) rfl (evs_args rfl) rfl ?_; rintro _ _ ⟨rfl, rfl⟩; simp only [List.cons_append, List.nil_append, List.append_nil])
    (refine Jx.move rfl rfl ?_)
    (refine Jx.extract rfl rfl rfl ?_)
    (refine Jx.extract rfl rfl rfl ?_)
    (refine Jx.assign rfl rfl ?_)
    (refine Jx.assign rfl rfl ?_)
    (refine J.nil ?_)
    (refine N.seq ?_)
    (refine W.seq ?_)
    (refine W.region ?_)
    (refine Jx.loadAll rfl 0 rfl rfl rfl ?_)
    (refine J.call (c3) rfl (evs_args rfl) rfl ?_; rintro _ _ ⟨rfl, rfl⟩; simp only [List.cons_append, List.nil_append, List.append_nil])
    (refine Jx.eqlI rfl rfl rfl ?_)
    (refine Jx.move rfl rfl ?_)
    (refine J.gY rfl rfl rfl ?_)
    (refine Jx.move rfl rfl ?_)
    (refine J.gY rfl rfl rfl ?_)
    (refine Jx.move rfl rfl ?_)
    (refine J.gY rfl rfl rfl ?_)
    (refine Jx.eqlS rfl rfl rfl ?_)
    (refine Jx.pT rfl rfl rfl ?_)
    (refine Jx.move rfl rfl ?_)
    (refine J.gY rfl rfl rfl ?_)
    (refine Jx.move rfl rfl ?_)
    (refine J.gY rfl rfl rfl ?_)
    (refine Jx.eqlI rfl rfl rfl ?_)
    (refine Jx.pT rfl rfl rfl ?_)
    (refine Jx.move rfl rfl ?_)
    (refine J.gY rfl rfl rfl ?_)
    (refine Jx.move rfl rfl ?_)
    (refine J.gY rfl rfl rfl ?_)
    (refine Jx.eqlI rfl rfl rfl ?_)
    (refine Jx.pT rfl rfl rfl ?_)
    (refine Jx.move rfl rfl ?_)
    (refine J.gY rfl rfl rfl ?_)
    (refine Jx.loadAll rfl 0 rfl rfl rfl ?_)
    (refine J.gY rfl rfl rfl ?_)
    (refine J.call (c4) rfl (evs_args rfl) rfl ?_; rintro _ _ ⟨rfl, rfl⟩; simp only [List.cons_append, List.nil_append, List.append_nil])
    (refine J.gY rfl rfl rfl ?_)
    (refine Jx.lenS rfl rfl ?_)
    (refine J.gY rfl rfl rfl ?_)
    (refine Jx.eqlI rfl rfl rfl ?_)
    (refine Jx.pT rfl rfl rfl ?_)
    (refine Jx.move rfl rfl ?_)
    (refine J.gY rfl rfl rfl ?_)
    (refine Jx.buildB rfl rfl rfl rfl rfl ?_)
    (refine J.gY rfl rfl rfl ?_)
    (refine J.call c5 rfl (Args.sub rfl (Sub.agg hdz_sub) Args.nil) rfl ?_; rintro _ _ ⟨rfl, rfl⟩; simp only [List.cons_append, List.nil_append, List.append_nil])
    (refine J.gY rfl rfl rfl ?_)
    (refine Jx.eqlI rfl rfl rfl ?_)
    (refine Jx.pT rfl rfl rfl ?_)
    (refine Jx.assign rfl rfl ?_)
    (refine J.nil ?_)
    (refine N.seq ?_)
    (refine W.ret ?_)
    (refine id ?_; rotate_left))
  exact N.retD (rs := [.tmp 0]) (L1 := []) rfl (.tmp rfl .nil) (List.nil_sublist _) ⟨by first | rfl | (simp [oneOr, hl]; done), rfl⟩
end Go.Proofs.YtmlncbdfbodjoaaDoor
namespace Go.Proofs.YtmlncbdfbodjoaaDoor
open Go Go.Sse
set_option linter.unusedVariables false
set_option linter.unusedSimpArgs false
set_option maxRecDepth 10000
theorem decH_len {s : List UInt8} {o : Option Hd} (h : DecR fineHd encHd s o) : (o.getD hd0).skips.length ≤ 1048576 := by
  cases o with
  | none => simp [hd0]
  | some x => have := ((fineHd_iff x).1 h.1).skips20; simp only [Option.getD_some]; omega
theorem encHd_pos {h : Hd} (hf : FineH h) : 1 ≤ (encHd h).length := by have := hf.txs; simp only [encHd, List.length_append]; omega
theorem hdec_none {s : List UInt8} (hs : s.length ≤ 1099511627776) (h : ∀ o, DecR fineHd encHd s o → o = none) : FnC Tryd.prog 40 [str s] [] (fun v L => v = .tup [.agg (hdC hd0), int 190] ∧ L = []) := by
  refine (hdecode_ok s hs).mono ?_
  rintro v L ⟨⟨o, ho, rfl⟩, rfl⟩
  rw [h o ho]
  exact ⟨rfl, rfl⟩
theorem hdec_enc {x : Hd} (h : fineHd x = true) : FnC Tryd.prog 40 [str (encHd x)] [] (fun v L => v = .tup [.agg (hdC x), int 0] ∧ L = []) := by
  refine (hdecode_ok (encHd x) (by have := encHd_len ((fineHd_iff x).1 h); omega)).mono ?_
  rintro v L ⟨⟨o, ho, rfl⟩, rfl⟩
  rw [apHd.some' ho h rfl]
  exact ⟨rfl, rfl⟩
set_option maxHeartbeats 4000000 in
theorem headerBack_ok (x : Hd) (s : List UInt8) : FnC Tryd.prog 11 [.agg (hdC x), str s] [] (fun v L => v = bool true ∧ L = []) := by
  have cb := hbig_ok x
  have cw := hworks_ok
  refine FnC.intro Tryd.func11 rfl Tryd.ntmps11 rfl fun Z w0 hG => ?_
  focus (
    (refine W.seq ?_)
    (refine W.region ?_)
    (refine J.boxAg rfl rfl ?_; intro b')
    (refine Jx.assign rfl rfl ?_)
    (refine J.nil ?_)
    (refine N.seq ?_)
    (refine W.seq ?_)
    (refine W.seq ?_)
    (refine W.region ?_)
    (refine J.call (cw) rfl (evs_args rfl) rfl ?_; rintro _ _ ⟨rfl, rfl⟩; simp only [List.cons_append, List.nil_append, List.append_nil])
    (refine Jx.not rfl rfl ?_)
    (refine J.nil ?_)
    (refine N.seq ?_)
    (refine W.cF rfl ?_)
    (refine W.skip ?_)
    (refine N.seq ?_)
    (refine W.seq ?_)
    (refine W.seq ?_)
    (refine W.region ?_)
    (refine Jx.loadAll rfl 0 rfl rfl rfl ?_)
    (refine J.call (cb) rfl (evs_args rfl) rfl ?_; rintro _ _ ⟨rfl, rfl⟩; simp only [List.cons_append, List.nil_append, List.append_nil])
    (refine Jx.move rfl rfl ?_)
    (refine' J.guardOr rfl rfl rfl rfl rfl rfl rfl rfl (fun _ => ?_) ?_; rotate_left)
    (refine J.gY rfl rfl rfl ?_)
    (refine Jx.move rfl rfl ?_)
    (refine J.gY rfl rfl rfl ?_)
    (refine Jx.lenS rfl rfl ?_)
    (refine J.gY rfl rfl rfl ?_)
    (refine Jx.gtrI rfl rfl rfl ?_)
    (refine J.nil ?_)
    (refine N.joinedN rfl rfl rfl)
    (refine J.nil ?_)
    (refine N.seq ?_)
    (refine id ?_; rotate_left))
  refine W.cond rfl (fun hb => ?_) (fun hb => ?_)
  · focus (
    (refine W.seq ?_)
    (refine W.region ?_)
    (refine Jx.assign rfl rfl ?_)
    (refine J.nil ?_)
    (refine N.seq ?_)
    (refine W.ret ?_)
    (refine N.noGotoRet ?_)
    (refine id ?_; rotate_left))
    exact N.retD (rs := [.tmp 4]) (L1 := []) rfl (.tmp rfl .nil) (List.nil_sublist _) ⟨rfl, rfl⟩
  · simp only [Bool.or_eq_false_iff, decide_eq_false_iff_not] at hb
    have hm := bigH_no hb.1
    have c3 := hdecode_ok s (by omega)
    focus (
    (refine W.skip ?_)
    (refine N.seq ?_)
    (refine W.seq ?_)
    (refine W.seq ?_)
    (refine W.region ?_)
    (refine Jx.move rfl rfl ?_)
    (refine J.call (c3) rfl (evs_args rfl) rfl ?_; rintro _ _ ⟨⟨o, ho, rfl⟩, rfl⟩; simp only [List.cons_append, List.nil_append, List.append_nil])
    (refine Jx.move rfl rfl ?_)
    (refine Jx.extract rfl rfl rfl ?_)
    (refine Jx.extract rfl rfl rfl ?_)
    (refine J.alloc (by simp only [List.map_cons, List.map_nil]; rfl) rfl rfl ?_; intro b')
    (refine J.storeAll rfl rfl rfl 0 rfl rfl rfl ?_)
    (refine Jx.assign rfl rfl ?_)
    (refine J.nil ?_)
    (refine N.seq ?_)
    (refine W.seq ?_)
    (refine W.region ?_)
    (refine Jx.move rfl rfl ?_)
    (refine Jx.eqlI rfl rfl rfl ?_)
    (refine J.nil ?_)
    (refine N.seq ?_)
    (refine id ?_; rotate_left))
    rename_i p2
    refine W.joinE (α := Unit) (fun _ => [(2, ptr p2), (1, str s)]) (fun _ => [.obj b' tHd (hdC (o.getD hd0)), .obj p2 tHd (hdC x)]) (fun _ => True) ?_ ?_
    · cases o with
      | none =>
        have c7 := sameH_ok hd0 hd0 (by decide)
        rw [decide_eq_true rfl] at c7
        focus (
    (refine W.cF rfl ?_)
    (refine W.seq ?_)
    (refine W.region ?_)
    (refine Jx.move rfl rfl ?_)
    (refine Jx.neqI rfl rfl rfl ?_)
    (refine Jx.move rfl rfl ?_)
    (refine J.gY rfl rfl rfl ?_)
    (refine Jx.loadAll rfl 0 rfl rfl rfl ?_)
    (refine J.gY rfl rfl rfl ?_)
    (refine Jx.buildB rfl rfl rfl rfl rfl ?_)
    (refine J.gY rfl rfl rfl ?_)
    (refine J.call c7 rfl (Args.cons rfl (Args.sub rfl (Sub.agg hdz_sub) Args.nil)) rfl ?_; rintro _ _ ⟨rfl, rfl⟩; simp only [List.cons_append, List.nil_append, List.append_nil])
    (refine J.gY rfl rfl rfl ?_)
    (refine Jx.not rfl rfl ?_)
    (refine Jx.pF rfl rfl rfl ?_)
    (refine J.nil ?_)
    (refine N.seq ?_)
    (refine W.cF rfl ?_)
    (refine W.skip ?_)
    (refine id ?_; rotate_left))
        exact N.joinE () trivial rfl ⟨ref0 rfl, ref0 rfl, trivial⟩
      | some y =>
        have hy := decH_len ho
        simp only [Option.getD_some] at hy
        have c4 := hencode_ok y hy
        have c5 := hcheck_ok y hy
        rw [encO, ho.1, if_pos rfl, ho.2] at c4
        rw [ho.1] at c5
        simp only [Option.getD_some]
        focus (
    (refine W.cT rfl ?_)
    (refine W.seq ?_)
    (refine W.region ?_)
    (refine Jx.loadAll rfl 0 rfl rfl rfl ?_)
    (refine J.call (c4) rfl (evs_args rfl) rfl ?_; rintro _ _ ⟨rfl, rfl⟩; simp only [List.cons_append, List.nil_append, List.append_nil])
    (refine Jx.move rfl rfl ?_)
    (refine Jx.extract rfl rfl rfl ?_)
    (refine Jx.extract rfl rfl rfl ?_)
    (refine Jx.assign rfl rfl ?_)
    (refine Jx.assign rfl rfl ?_)
    (refine J.nil ?_)
    (refine N.seq ?_)
    (refine W.seq ?_)
    (refine W.region ?_)
    (refine Jx.move rfl rfl ?_)
    (refine Jx.move rfl rfl ?_)
    (refine Jx.neqS rfl rfl rfl ?_)
    (refine Jx.move rfl rfl ?_)
    (refine J.gY rfl rfl rfl ?_)
    (refine Jx.move rfl rfl ?_)
    (refine J.gY rfl rfl rfl ?_)
    (refine Jx.neqI rfl rfl rfl ?_)
    (refine Jx.pF rfl rfl rfl ?_)
    (refine Jx.move rfl rfl ?_)
    (refine J.gY rfl rfl rfl ?_)
    (refine Jx.loadAll rfl 0 rfl rfl rfl ?_)
    (refine J.gY rfl rfl rfl ?_)
    (refine J.call (c5) rfl (evs_args rfl) rfl ?_; rintro _ _ ⟨rfl, rfl⟩; simp only [List.cons_append, List.nil_append, List.append_nil])
    (refine J.gY rfl rfl rfl ?_)
    (refine Jx.neqI rfl rfl rfl ?_)
    (refine Jx.pF rfl rfl rfl ?_)
    (refine J.nil ?_)
    (refine N.seq ?_)
    (refine W.cF rfl ?_)
    (refine W.skip ?_)
    (refine id ?_; rotate_left))
        exact N.joinE () trivial rfl ⟨ref0 rfl, ref0 rfl, trivial⟩
    · intro _ _
      have c1 := hencode_ok x (by omega)
      have c2 := hcheck_ok x (by omega)
      have c3' := hdigest_ok x (by omega)
      cases hf : fineHd x with
      | false =>
        rw [encO, hf] at c1
        rw [hf] at c2
        rw [digH, hf] at c3'
        focus (
    (refine N.seq ?_)
    (refine W.seq ?_)
    (refine W.region ?_)
    (refine Jx.loadAll rfl 1 rfl rfl rfl ?_)
    (refine J.call (c1) rfl (evs_args rfl) rfl ?_; rintro _ _ ⟨rfl, rfl⟩; simp only [List.cons_append, List.nil_append, List.append_nil])
    (refine Jx.move rfl rfl ?_)
    (refine Jx.extract rfl rfl rfl ?_)
    (refine Jx.extract rfl rfl rfl ?_)
    (refine Jx.assign rfl rfl ?_)
    (refine Jx.assign rfl rfl ?_)
    (refine J.nil ?_)
    (refine N.seq ?_)
    (refine W.seq ?_)
    (refine W.seq ?_)
    (refine W.region ?_)
    (refine Jx.move rfl rfl ?_)
    (refine Jx.neqI rfl rfl rfl ?_)
    (refine J.nil ?_)
    (refine N.seq ?_)
    (refine W.cT rfl ?_)
    (refine W.seq ?_)
    (refine W.region ?_)
    (refine Jx.move rfl rfl ?_)
    (refine Jx.eqlI rfl rfl rfl ?_)
    (refine Jx.move rfl rfl ?_)
    (refine J.gY rfl rfl rfl ?_)
    (refine Jx.move rfl rfl ?_)
    (refine J.gY rfl rfl rfl ?_)
    (refine Jx.eqlS rfl rfl rfl ?_)
    (refine Jx.pT rfl rfl rfl ?_)
    (refine Jx.move rfl rfl ?_)
    (refine J.gY rfl rfl rfl ?_)
    (refine Jx.loadAll rfl 1 rfl rfl rfl ?_)
    (refine J.gY rfl rfl rfl ?_)
    (refine J.call (c2) rfl (evs_args rfl) rfl ?_; rintro _ _ ⟨rfl, rfl⟩; simp only [List.cons_append, List.nil_append, List.append_nil])
    (refine J.gY rfl rfl rfl ?_)
    (refine Jx.eqlI rfl rfl rfl ?_)
    (refine Jx.pT rfl rfl rfl ?_)
    (refine Jx.move rfl rfl ?_)
    (refine J.gY rfl rfl rfl ?_)
    (refine Jx.loadAll rfl 1 rfl rfl rfl ?_)
    (refine J.gY rfl rfl rfl ?_)
    (refine J.call (c3') rfl (evs_args rfl) rfl ?_; rintro _ _ ⟨rfl, rfl⟩; simp only [List.cons_append, List.nil_append, List.append_nil])
    (refine J.gY rfl rfl rfl ?_)
    (refine Jx.eqlS rfl rfl rfl ?_)
    (refine Jx.pT rfl rfl rfl ?_)
    (refine Jx.assign rfl rfl ?_)
    (refine J.nil ?_)
    (refine N.seq ?_)
    (refine W.ret ?_)
    (refine N.noGotoRet ?_)
    (refine id ?_; rotate_left))
        exact N.retD (rs := [.tmp 4]) (L1 := []) rfl (.tmp rfl .nil) (List.nil_sublist _) ⟨rfl, rfl⟩
      | true =>
        rw [encO, hf, if_pos rfl] at c1
        have hl := encHd_len ((fineHd_iff x).1 hf)
        have hp := encHd_pos ((fineHd_iff x).1 hf)
        have d1 := hdec_enc hf
        have d2 := hdec_none (s := encHd x ++ [0]) (by rw [List.length_append]; simp only [List.length_cons, List.length_nil]; omega) (fun o ho => apHd.more hf ho)
        have d3 := hdec_none (s := (encHd x).take (((encHd x).length : Int) - 1).toNat) (by rw [List.length_take]; omega) (fun o ho => apHd.less hf (by omega) ho)
        have d4 := sameH_ok x x (by omega)
        rw [decide_eq_true rfl] at d4
        generalize encHd x = t at *
        focus (
    (refine N.seq ?_)
    (refine W.seq ?_)
    (refine W.region ?_)
    (refine Jx.loadAll rfl 1 rfl rfl rfl ?_)
    (refine J.call (c1) rfl (evs_args rfl) rfl ?_; rintro _ _ ⟨rfl, rfl⟩; simp only [List.cons_append, List.nil_append, List.append_nil])
    (refine Jx.move rfl rfl ?_)
    (refine Jx.extract rfl rfl rfl ?_)
    (refine Jx.extract rfl rfl rfl ?_)
    (refine Jx.assign rfl rfl ?_)
    (refine Jx.assign rfl rfl ?_)
    (refine J.nil ?_)
    (refine N.seq ?_)
    (refine W.seq ?_)
    (refine W.seq ?_)
    (refine W.region ?_)
    (refine Jx.move rfl rfl ?_)
    (refine Jx.neqI rfl rfl rfl ?_)
    (refine J.nil ?_)
    (refine N.seq ?_)
    (refine W.cF rfl ?_)
    (refine W.skip ?_)
    (refine N.seq ?_)
    (refine W.seq ?_)
    (refine W.region ?_)
    (refine Jx.move rfl rfl ?_)
    (refine J.call (d1) rfl (evs_args rfl) rfl ?_; rintro _ _ ⟨rfl, rfl⟩; simp only [List.cons_append, List.nil_append, List.append_nil])
    (refine Jx.move rfl rfl ?_)
    (refine Jx.extract rfl rfl rfl ?_)
    (refine Jx.extract rfl rfl rfl ?_)
    (refine J.alloc (by simp only [List.map_cons, List.map_nil]; rfl) rfl rfl ?_; intro b')
    (refine J.storeAll rfl rfl rfl 0 rfl rfl rfl ?_)
    (refine Jx.assign rfl rfl ?_)
    (refine J.nil ?_)
    (refine N.seq ?_)
    (refine W.seq ?_)
    (refine W.region ?_)
    (refine Jx.move rfl rfl ?_)
    (refine Jx.cat rfl rfl (by first | omega | (simp only [List.length_append, List.length_cons, List.length_nil]; omega)) rfl ?_)
    (refine J.call (d2) rfl (evs_args rfl) rfl ?_; rintro _ _ ⟨rfl, rfl⟩; simp only [List.cons_append, List.nil_append, List.append_nil])
    (refine Jx.move rfl rfl ?_)
    (refine Jx.extract rfl rfl rfl ?_)
    (refine Jx.extract rfl rfl rfl ?_)
    (refine J.alloc (by simp only [List.map_cons, List.map_nil]; rfl) rfl rfl ?_; intro b')
    (refine J.storeAll rfl rfl rfl 0 rfl rfl rfl ?_)
    (refine Jx.assign rfl rfl ?_)
    (refine J.nil ?_)
    (refine N.seq ?_)
    (refine W.seq ?_)
    (refine W.region ?_)
    (refine Jx.move rfl rfl ?_)
    (refine Jx.move rfl rfl ?_)
    (refine Jx.lenS rfl rfl ?_)
    (refine Jx.sub64 rfl rfl (by omega) rfl ?_)
    (refine Jx.sliceSh rfl rfl (by omega) (by omega) rfl ?_)
    (refine J.call (d3) rfl (evs_args rfl) rfl ?_; rintro _ _ ⟨rfl, rfl⟩; simp only [List.cons_append, List.nil_append, List.append_nil])
    (refine Jx.move rfl rfl ?_)
    (refine Jx.extract rfl rfl rfl ?_)
    (refine Jx.extract rfl rfl rfl ?_)
    (refine J.alloc (by simp only [List.map_cons, List.map_nil]; rfl) rfl rfl ?_; intro b')
    (refine J.storeAll rfl rfl rfl 0 rfl rfl rfl ?_)
    (refine Jx.assign rfl rfl ?_)
    (refine J.nil ?_)
    (refine N.seq ?_)
    (refine W.seq ?_)
    (refine W.region ?_)
    (refine Jx.loadAll rfl 2 rfl rfl rfl ?_)
    (refine Jx.loadAll rfl 4 rfl rfl rfl ?_)
    (refine J.call (d4) rfl (evs_args rfl) rfl ?_; rintro _ _ ⟨rfl, rfl⟩; simp only [List.cons_append, List.nil_append, List.append_nil])
    (refine Jx.move rfl rfl ?_)
    (refine J.gY rfl rfl rfl ?_)
    (refine Jx.move rfl rfl ?_)
    (refine J.gY rfl rfl rfl ?_)
    (refine Jx.eqlI rfl rfl rfl ?_)
    (refine Jx.pT rfl rfl rfl ?_)
    (refine Jx.move rfl rfl ?_)
    (refine J.gY rfl rfl rfl ?_)
    (refine Jx.move rfl rfl ?_)
    (refine J.gY rfl rfl rfl ?_)
    (refine Jx.eqlI rfl rfl rfl ?_)
    (refine Jx.pT rfl rfl rfl ?_)
    (refine Jx.move rfl rfl ?_)
    (refine J.gY rfl rfl rfl ?_)
    (refine Jx.move rfl rfl ?_)
    (refine J.gY rfl rfl rfl ?_)
    (refine Jx.eqlI rfl rfl rfl ?_)
    (refine Jx.pT rfl rfl rfl ?_)
    (refine Jx.assign rfl rfl ?_)
    (refine J.nil ?_)
    (refine N.seq ?_)
    (refine W.ret ?_)
    (refine id ?_; rotate_left))
        exact N.retD (rs := [.tmp 4]) (L1 := []) rfl (.tmp rfl .nil) (List.nil_sublist _) ⟨rfl, rfl⟩
end Go.Proofs.YtmlncbdfbodjoaaDoor
namespace Go.Proofs.YtmlncbdfbodjoaaDoor
open Go Go.Sse Go.ChangeShapes Go.WideShapes Go.ChangeAt Go.RowKit
set_option linter.unusedVariables false
set_option linter.unusedSimpArgs false
set_option maxRecDepth 100000
noncomputable def rdHd : Rd Tryd.prog 41 Hd :=
  rdIso (Rd.struct (tos := [(3, 0), (3, 1), (3, 2), (4, 3), (9, 4), (9, 5), (9, 6), (9, 7), (9, 8), (9, 9), (39, 10)]) (by kernel_rfl)
    (Fds.cons rdInt (Fds.cons rdInt (Fds.cons rdInt (Fds.cons rdBool (Fds.cons rdStr (Fds.cons rdStr (Fds.cons rdStr (Fds.cons rdStr (Fds.cons rdStr (Fds.cons rdStr (Fds.cons rdStrs Fds.nil))))))))))) (by kernel_rfl))
    (fun x => ⟨x.1, x.2.1, x.2.2.1, x.2.2.2.1, x.2.2.2.2.1, x.2.2.2.2.2.1, x.2.2.2.2.2.2.1, x.2.2.2.2.2.2.2.1, x.2.2.2.2.2.2.2.2.1, x.2.2.2.2.2.2.2.2.2.1, x.2.2.2.2.2.2.2.2.2.2.1⟩) (fun x => (x.height, x.epoch, x.view, x.last, x.parent, x.state, x.receipts, x.txs, x.members, x.next, x.skips, ())) (fun _ => rfl) hdC (fun _ => rfl) (fun _ => rfl)
end Go.Proofs.YtmlncbdfbodjoaaDoor
