/-
  A text's sum, in the document; lists that are few; the examples.
-/
import Derived.Test.YtjlpknligekfeaaDoorShaH
namespace Go.Proofs.YtjlpknligekfeaaDoor
open Go Go.Sse
set_option linter.unusedVariables false
set_option linter.unusedSimpArgs false
set_option maxRecDepth 100000

theorem endB_step (n i : Nat) (h : i < 8) : [UInt8.ofNat (n * 8 / 256 ^ i % 256)] ++ (lenB n).drop (8 - i) = (lenB n).drop (8 - (i + 1)) := by
  have hl : 8 - (i + 1) < (lenB n).length := by rw [lenB_len]; omega
  rw [List.drop_eq_getElem_cons hl, show 8 - (i + 1) + 1 = 8 - i by omega]
  simp only [List.singleton_append, List.cons.injEq, and_true]
  simp only [lenB, List.getElem_map, List.getElem_range]
  rw [show 56 - 8 * (8 - (i + 1)) = 8 * i by omega, Nat.pow_mul]
  apply UInt8.toNat_inj.1
  simp

theorem take_drop_ext (all bs : List UInt8) (i : Nat) (hl : bs.length = 64) (hi : i + 64 ≤ all.length) (h : ∀ m, m < 64 → bs.getD m 0 = all.getD (i + m) 0) : bs = (all.drop i).take 64 := by
  refine List.ext_getElem (by rw [hl, List.length_take, List.length_drop]; omega) fun m h1 h2 => ?_
  have := h m (by omega)
  rw [List.getElem_take, List.getElem_drop]
  simpa [List.getD_eq_getElem?_getD, List.getElem?_eq_getElem h1, List.getElem?_eq_getElem (show i + m < all.length by omega)] using this

theorem set_step (all bs : List UInt8) (i k : Nat) (hk : k < 64) (hl : bs.length = 64) (h : ∀ m, m < k → bs.getD m 0 = all.getD (i + m) 0) (m : Nat) (hm : m < k + 1) : (bs.set k (all.getD (i + k) 0)).getD m 0 = all.getD (i + m) 0 := by
  simp only [List.getD_eq_getElem?_getD, List.getElem?_set]
  by_cases e : k = m
  · subst e; simp [hl, hk]
  · rw [if_neg e]
    have := h m (by omega)
    simpa only [List.getD_eq_getElem?_getD] using this

set_option maxHeartbeats 4000000 in
theorem rsum_ok (x : List UInt8) (hx : x.length ≤ 2147483648) : FnC Tryd.prog 14 [str x] [] (fun r L => r = str (shaS x) ∧ L = []) := by
  have hz := zerosOf_lt x.length
  have hze : (119 - (x.length : Int) % 64) % 64 = (zerosOf x.length : Int) := by unfold zerosOf; omega
  have hzl : (List.replicate (zerosOf x.length) (0 : UInt8)).length = zerosOf x.length := by simp
  refine FnC.intro Tryd.func14 rfl Tryd.ntmps14 rfl fun Z w0 hG => ?_
  focus (
    (refine W.seq ?_)
    (refine W.region ?_)
    (refine Jx.assign rfl rfl ?_)
    (refine J.nil ?_)
    (refine N.seq ?_)
    (refine W.seq ?_)
    (refine W.region ?_)
    (refine Jx.move rfl rfl ?_)
    (refine Jx.lenS rfl rfl ?_)
    (refine Jx.rem64 rfl rfl (by omega) (by decide) rfl ?_)
    (refine Jx.sub64 rfl rfl (by omega) rfl ?_)
    (refine Jx.rem64 rfl rfl (by omega) (by decide) rfl ?_)
    (refine Jx.assign rfl rfl ?_)
    (refine J.nil ?_)
    (refine N.seq ?_)
    (refine W.seq ?_)
    (refine W.region ?_)
    (refine Jx.move rfl rfl ?_)
    (refine Jx.lenS rfl rfl ?_)
    (refine Jx.mul64 rfl rfl (by omega) rfl ?_)
    (refine Jx.assign rfl rfl ?_)
    (refine J.nil ?_)
    (refine N.seq ?_)
    (refine W.seq ?_)
    (refine W.region ?_)
    (refine Jx.assign rfl rfl ?_)
    (refine J.nil ?_)
    (refine N.seq ?_)
    (refine W.seq ?_)
    (refine W.seq ?_)
    (refine W.region ?_)
    (refine Jx.assign rfl rfl ?_)
    (refine J.nil ?_)
    (refine N.seq ?_)
    (refine W.block ?_)
    (refine id ?_; rotate_left))
  refine W.loop (α := Nat) (fun i => [(6, int i), (5, str ((lenB x.length).drop (8 - i))), (4, int ((x.length * 8 / 256 ^ i : Nat) : Int)), (3, int (zerosOf x.length)), (0, str x)]) (fun _ => []) (fun i => i ≤ 8) (fun i => 8 - i) 0 (by omega) rfl ⟨ref0 rfl, ref0 rfl, ⟨_, rfl, Sub.of_eq (by simp)⟩, ⟨_, rfl, Sub.of_eq (by rw [hze])⟩, ref0 rfl, trivial⟩ ?_
  intro i hi
  have hel : ((lenB x.length).drop (8 - i)).length ≤ 8 := by rw [List.length_drop, lenB_len]; omega
  by_cases h1 : i < 8
  · have hst := endB_step x.length i h1
    have hdiv : x.length * 8 / 256 ^ i ≤ x.length * 8 := Nat.div_le_self _ _
    have hnx : x.length * 8 / 256 ^ i / 256 = x.length * 8 / 256 ^ (i + 1) := by rw [Nat.div_div_eq_div_mul, Nat.pow_succ]
    generalize x.length * 8 / 256 ^ i = q at *
    generalize (lenB x.length).drop (8 - i) = e at *
    focus (
    (refine W.seq ?_)
    (refine W.seq ?_)
    (refine W.region ?_)
    (refine Jx.move rfl rfl ?_)
    (refine Jx.lssI rfl rfl rfl ?_)
    (refine J.nil ?_)
    (refine N.seq ?_)
    (refine W.condT rfl (by first | rfl | assumption | (exact decide_eq_true (by first | assumption | omega | rfl)) | (exact decide_eq_false (by first | assumption | omega | rfl)) | (simp; done) | (simp; omega)) ?_)
    (refine W.skip ?_)
    (refine N.seq ?_)
    (refine W.seq ?_)
    (refine W.block ?_)
    (refine W.seq ?_)
    (refine W.region ?_)
    (refine Jx.move rfl rfl ?_)
    (refine Jx.rem64 rfl rfl (by omega) (by decide) rfl ?_)
    (refine Jx.numByte (q % 256) rfl rfl (by omega) rfl ?_)
    (refine J.qs (Qs.buildBytes [UInt8.ofNat (q % 256)] rfl rfl rfl (by decide) (by decide)) rfl ?_)
    (refine Jx.bytesStr rfl rfl ?_)
    (refine Jx.move rfl rfl ?_)
    (refine Jx.cat rfl rfl (by simp only [List.length_cons, List.length_nil]; omega) rfl ?_)
    (refine Jx.assign rfl rfl ?_)
    (refine J.nil ?_)
    (refine N.seq ?_)
    (refine W.region ?_)
    (refine Jx.move rfl rfl ?_)
    (refine Jx.quo64 rfl rfl (by omega) (by decide) rfl ?_)
    (refine Jx.assign rfl rfl ?_)
    (refine J.nil ?_)
    (refine N.seq ?_)
    (refine W.region ?_)
    (refine Jx.move rfl rfl ?_)
    (refine Jx.add64 rfl rfl (by omega) rfl ?_)
    (refine Jx.assign rfl rfl ?_)
    (refine J.nil ?_)
    (refine id ?_; rotate_left))
    exact N.round (i + 1) (by omega) (by omega) rfl ⟨ref0 rfl, ⟨_, rfl, Sub.of_eq (by rw [hst])⟩, ⟨_, rfl, Sub.of_eq (by rw [← hnx]; congr 2)⟩, ref0 rfl, ref0 rfl, trivial⟩
  · have h8 : i = 8 := by omega
    have hall : x ++ [128] ++ List.replicate (zerosOf x.length) 0 ++ (lenB x.length).drop (8 - i) = x ++ padS x.length := by rw [h8]; simp [padS]
    have hlen : (x ++ padS x.length).length ≤ 4294967296 := by simp only [padS, List.length_append, List.length_cons, List.length_nil, List.length_replicate, lenB_len]; omega
    generalize hE : (lenB x.length).drop (8 - i) = e at *
    generalize hZ : List.replicate (zerosOf x.length) (0 : UInt8) = zs at *
    focus (
    (refine W.seq ?_)
    (refine W.seq ?_)
    (refine W.region ?_)
    (refine Jx.move rfl rfl ?_)
    (refine Jx.lssI rfl rfl rfl ?_)
    (refine J.nil ?_)
    (refine N.seq ?_)
    (refine W.condF rfl (by first | rfl | assumption | (exact decide_eq_true (by first | assumption | omega | rfl)) | (exact decide_eq_false (by first | assumption | omega | rfl)) | (simp; done) | (simp; omega)) ?_)
    (refine W.exit ?_)
    (refine N.seq ?_)
    (refine W.seq ?_)
    (refine W.region ?_)
    (refine Jx.move rfl rfl ?_)
    (refine Jx.cat rfl rfl (by simp only [List.length_append, List.length_cons, List.length_nil]; omega) rfl ?_)
    (refine Jx.move rfl rfl ?_)
    (refine J.qs (Qs.zeros (n := zerosOf x.length) rfl rfl (by simp only [maxLen]; omega) (by omega)) rfl ?_; refine J.as 36 (bsl zs) rfl (Sub.of_eq (by rw [← hZ])) ?_)
    (refine Jx.bytesStr rfl rfl ?_)
    (refine Jx.cat rfl rfl (by simp only [List.length_append, List.length_cons, List.length_nil]; omega) rfl ?_)
    (refine Jx.move rfl rfl ?_)
    (refine Jx.cat rfl rfl (by simp only [List.length_append, List.length_cons, List.length_nil]; omega) rfl ?_)
    (refine Jx.assign rfl rfl ?_)
    (refine J.nil ?_)
    (refine N.seq ?_)
    (refine W.seq ?_)
    (refine W.region ?_)
    (refine J.call (rfirst_ok) rfl (evs_args rfl) rfl ?_; rintro _ _ ⟨rfl, rfl⟩; simp only [List.cons_append, List.nil_append, List.append_nil])
    (refine J.alloc (by simp only [List.map_cons, List.map_nil]; rfl) rfl rfl ?_; intro b')
    (refine J.storeAll rfl rfl rfl 0 rfl rfl rfl ?_)
    (refine J.nil ?_)
    (refine N.seq ?_)
    (refine W.seq ?_)
    (refine W.seq ?_)
    (refine W.region ?_)
    (refine Jx.assign rfl rfl ?_)
    (refine J.nil ?_)
    (refine N.seq ?_)
    (refine W.block ?_)
    (refine id ?_; rotate_left))
    generalize hA : x ++ padS x.length = all at *
    refine W.loop (α := Nat × S8) (fun y => [(9, int y.1), (8, ptr b'), (7, str all)]) (fun y => [.obj b' 23 y.2.cells]) (fun y => y.1 ≤ all.length ∧ blocksS y.2 (all.drop y.1) = blocksS first8 all) (fun y => all.length - y.1) (0, first8) ⟨by simp, by simp⟩ rfl ⟨ref0 rfl, ref0 rfl, ⟨_, rfl, Sub.of_eq (by rw [← hall])⟩, trivial⟩ ?_
    rintro ⟨j, s⟩ ⟨hj, hs⟩
    simp only at hj hs ⊢
    by_cases h2 : j + 64 ≤ all.length
    · focus (
    (refine W.seq ?_)
    (refine W.seq ?_)
    (refine W.region ?_)
    (refine Jx.move rfl rfl ?_)
    (refine Jx.add64 rfl rfl (by omega) rfl ?_)
    (refine Jx.move rfl rfl ?_)
    (refine Jx.lenS rfl rfl ?_)
    (refine Jx.leqI rfl rfl rfl ?_)
    (refine J.nil ?_)
    (refine N.seq ?_)
    (refine W.condT rfl (by first | rfl | assumption | (exact decide_eq_true (by first | assumption | omega | rfl)) | (exact decide_eq_false (by first | assumption | omega | rfl)) | (simp; done) | (simp; omega)) ?_)
    (refine W.skip ?_)
    (refine N.seq ?_)
    (refine W.seq ?_)
    (refine W.block ?_)
    (refine W.seq ?_)
    (refine W.region ?_)
    (refine J.alloc (by simp only [List.map_cons, List.map_nil]; rfl) rfl rfl ?_; intro b')
    (refine J.nil ?_)
    (refine N.seq ?_)
    (refine W.seq ?_)
    (refine W.seq ?_)
    (refine W.region ?_)
    (refine Jx.assign rfl rfl ?_)
    (refine J.nil ?_)
    (refine N.seq ?_)
    (refine W.block ?_)
    (refine id ?_; rotate_left))
      rename_i p8
      refine W.loop (α := Nat × List UInt8) (fun y => [(11, int y.1), (10, ptr b'), (9, int j), (8, ptr p8), (7, str all)]) (fun y => [.obj b' 24 (y.2.map byte), .obj p8 23 s.cells]) (fun y => y.1 ≤ 64 ∧ y.2.length = 64 ∧ ∀ m, m < y.1 → y.2.getD m 0 = all.getD (j + m) 0) (fun y => 64 - y.1) (0, List.replicate 64 0) ⟨by simp, rfl, fun m hm => by simp at hm⟩ rfl ⟨ref0 rfl, ref0 rfl, ref0 rfl, ref0 rfl, ref0 rfl, trivial⟩ ?_
      rintro ⟨k, bs⟩ ⟨hk, hl, hb⟩
      simp only at hk hl hb ⊢
      by_cases h3 : k < 64
      · focus (
    (refine W.seq ?_)
    (refine W.seq ?_)
    (refine W.region ?_)
    (refine Jx.move rfl rfl ?_)
    (refine Jx.lssI rfl rfl rfl ?_)
    (refine J.nil ?_)
    (refine N.seq ?_)
    (refine W.condT rfl (by first | rfl | assumption | (exact decide_eq_true (by first | assumption | omega | rfl)) | (exact decide_eq_false (by first | assumption | omega | rfl)) | (simp; done) | (simp; omega)) ?_)
    (refine W.skip ?_)
    (refine N.seq ?_)
    (refine W.seq ?_)
    (refine W.block ?_)
    (refine W.region ?_)
    (refine Jx.move rfl rfl ?_)
    (refine Jx.move rfl rfl ?_)
    (refine Jx.move rfl rfl ?_)
    (refine Jx.move rfl rfl ?_)
    (refine Jx.add64 rfl rfl (by omega) rfl ?_)
    (refine Jx.indexS rfl rfl (by omega) (by omega) rfl ?_)
    (refine Jx.index0 k rfl rfl rfl (by omega) rfl ?_)
    (refine J.storeA byte (all.getD (j + k) 0) rfl rfl (One.val rfl) 0 rfl (by omega) rfl ?_)
    (refine J.nil ?_)
    (refine N.seq ?_)
    (refine W.region ?_)
    (refine Jx.move rfl rfl ?_)
    (refine Jx.add64 rfl rfl (by omega) rfl ?_)
    (refine Jx.assign rfl rfl ?_)
    (refine J.nil ?_)
    (refine id ?_; rotate_left))
        exact N.round (k + 1, bs.set k (all.getD (j + k) 0)) ⟨by simp only; omega, by simp only [List.length_set]; exact hl, fun m hm => set_step all bs j k h3 hl hb m hm⟩ (by simp only; omega) rfl ⟨ref0 rfl, ref0 rfl, ref0 rfl, ref0 rfl, ref0 rfl, trivial⟩
      · have h64 : k = 64 := by omega
        have e : bs = (all.drop j).take 64 := take_drop_ext all bs j hl h2 fun m hm => hb m (by omega)
        focus (
    (refine W.seq ?_)
    (refine W.seq ?_)
    (refine W.region ?_)
    (refine Jx.move rfl rfl ?_)
    (refine Jx.lssI rfl rfl rfl ?_)
    (refine J.nil ?_)
    (refine N.seq ?_)
    (refine W.condF rfl (by first | rfl | assumption | (exact decide_eq_true (by first | assumption | omega | rfl)) | (exact decide_eq_false (by first | assumption | omega | rfl)) | (simp; done) | (simp; omega)) ?_)
    (refine W.exit ?_)
    (refine N.seq ?_)
    (refine W.region ?_)
    (refine Jx.loadAll rfl 1 rfl rfl rfl ?_)
    (refine Jx.loadArr (by rw [List.length_map]; exact hl) rfl 0 rfl rfl ?_)
    (refine J.call (rblock_ok s bs hl) rfl (evs_args rfl) rfl ?_; rintro _ _ ⟨rfl, rfl⟩; simp only [List.cons_append, List.nil_append, List.append_nil])
    (refine J.storeAll rfl rfl rfl 1 rfl rfl rfl ?_)
    (refine J.nil ?_)
    (refine N.seq ?_)
    (refine W.region ?_)
    (refine Jx.move rfl rfl ?_)
    (refine Jx.add64 rfl rfl (by omega) rfl ?_)
    (refine Jx.assign rfl rfl ?_)
    (refine J.nil ?_)
    (refine id ?_; rotate_left))
        refine N.drop (List.sublist_cons_self _ _) ?_
        exact N.round (j + 64, blockS s bs) ⟨by simp only; omega, by simp only; rw [e, ← hs, blocksS_ge (l := all.drop j) (by rw [List.length_drop]; omega), List.drop_drop]⟩ (by simp only; omega) rfl ⟨ref0 rfl, ref0 rfl, ref0 rfl, trivial⟩
    · have e2 : blocksS s (all.drop j) = (s, all.drop j) := blocksS_lt (by rw [List.length_drop]; omega)
      rw [e2] at hs
      focus (
    (refine W.seq ?_)
    (refine W.seq ?_)
    (refine W.region ?_)
    (refine Jx.move rfl rfl ?_)
    (refine Jx.add64 rfl rfl (by omega) rfl ?_)
    (refine Jx.move rfl rfl ?_)
    (refine Jx.lenS rfl rfl ?_)
    (refine Jx.leqI rfl rfl rfl ?_)
    (refine J.nil ?_)
    (refine N.seq ?_)
    (refine W.condF rfl (by first | rfl | assumption | (exact decide_eq_true (by first | assumption | omega | rfl)) | (exact decide_eq_false (by first | assumption | omega | rfl)) | (simp; done) | (simp; omega)) ?_)
    (refine W.exit ?_)
    (refine N.seq ?_)
    (refine W.seq ?_)
    (refine W.region ?_)
    (refine Jx.loadAll rfl 0 rfl rfl rfl ?_)
    (refine J.call (rtold_ok s) rfl (evs_args rfl) rfl ?_; rintro _ _ ⟨rfl, rfl⟩; simp only [List.cons_append, List.nil_append, List.append_nil])
    (refine Jx.assign rfl rfl ?_)
    (refine J.nil ?_)
    (refine N.seq ?_)
    (refine W.ret ?_)
    (refine id ?_; rotate_left))
      refine N.retD (rs := [.tmp 2]) (L1 := []) rfl (.tmp rfl .nil) (List.nil_sublist _) ⟨?_, rfl⟩
      show str (toldS s) = str (shaS x)
      unfold shaS
      rw [hA, ← hs]

/-- So many texts at most, of so many bytes. -/
def fewB (l : List (List UInt8)) (n e : Int) : Bool := decide ((l.length : Int) ≤ n) && l.all fun s => decide ((s.length : Int) ≤ e)
theorem few_ok (l : List (List UInt8)) (n e : Int) (hn : n ≤ 9223372036854775807) : FnC Tryd.prog 15 [ssl l, int n, int e] [] (fun s L => s = bool (fewB l n e) ∧ L = []) := by
  refine FnC.intro Tryd.func15 rfl Tryd.ntmps15 rfl fun Z w0 hG => ?_
  by_cases h0 : n < (l.length : Int)
  · focus (
    (refine W.seq ?_)
    (refine W.region ?_)
    (refine Jx.assign rfl rfl ?_)
    (refine J.nil ?_)
    (refine N.seq ?_)
    (refine W.seq ?_)
    (refine W.seq ?_)
    (refine W.region ?_)
    (refine Jx.move rfl rfl ?_)
    (refine Jx.lenSl rfl rfl ?_)
    (refine Jx.move rfl rfl ?_)
    (refine Jx.gtrI rfl rfl rfl ?_)
    (refine J.nil ?_)
    (refine N.seq ?_)
    (refine W.condT rfl (by first | rfl | assumption | (exact decide_eq_true (by first | assumption | omega | rfl)) | (exact decide_eq_false (by first | assumption | omega | rfl)) | (simp; done) | (simp; omega)) ?_)
    (refine W.seq ?_)
    (refine W.region ?_)
    (refine Jx.assign rfl rfl ?_)
    (refine J.nil ?_)
    (refine N.seq ?_)
    (refine W.ret ?_)
    (refine N.seqRet ?_)
    (refine id ?_; rotate_left))
    refine N.ret (rs := [.tmp 6]) rfl (.tmp rfl .nil) ⟨?_, rfl⟩
    simp [oneOr, fewB, show ¬ (l.length : Int) ≤ n by omega]
  · focus (
    (refine W.seq ?_)
    (refine W.region ?_)
    (refine Jx.assign rfl rfl ?_)
    (refine J.nil ?_)
    (refine N.seq ?_)
    (refine W.seq ?_)
    (refine W.seq ?_)
    (refine W.region ?_)
    (refine Jx.move rfl rfl ?_)
    (refine Jx.lenSl rfl rfl ?_)
    (refine Jx.move rfl rfl ?_)
    (refine Jx.gtrI rfl rfl rfl ?_)
    (refine J.nil ?_)
    (refine N.seq ?_)
    (refine W.condF rfl (by first | rfl | assumption | (exact decide_eq_true (by first | assumption | omega | rfl)) | (exact decide_eq_false (by first | assumption | omega | rfl)) | (simp; done) | (simp; omega)) ?_)
    (refine W.skip ?_)
    (refine N.seq ?_)
    (refine W.seq ?_)
    (refine W.seq ?_)
    (refine W.region ?_)
    (refine Jx.assign rfl rfl ?_)
    (refine J.nil ?_)
    (refine N.seq ?_)
    (refine W.block ?_)
    (refine id ?_; rotate_left))
    refine W.loop (α := Nat) (fun i => [(7, int i), (2, int e), (0, ssl l)]) (fun _ => []) (fun i => i ≤ l.length ∧ ∀ s ∈ l.take i, (s.length : Int) ≤ e) (fun i => l.length - i) 0 ⟨by omega, by simp⟩ rfl ⟨ref0 rfl, ref0 rfl, ref0 rfl, trivial⟩ ?_
    rintro i ⟨hi, hall⟩
    by_cases h1 : i < l.length
    · have hm : l.getD i [] ∈ l := by rw [List.getD_eq_getElem?_getD, List.getElem?_eq_getElem h1]; exact List.getElem_mem _
      have hts : ∀ s ∈ l.take (i + 1), s ∈ l.take i ∨ s = l.getD i [] := fun s hs => by
        rw [List.take_add_one, List.getElem?_eq_getElem h1] at hs
        rw [List.getD_eq_getElem?_getD, List.getElem?_eq_getElem h1]
        simp only [Option.toList_some, List.mem_append, List.mem_singleton] at hs
        exact hs
      by_cases h2 : e < ((l.getD i []).length : Int)
      · focus (
    (refine W.seq ?_)
    (refine W.seq ?_)
    (refine W.region ?_)
    (refine Jx.move rfl rfl ?_)
    (refine Jx.move rfl rfl ?_)
    (refine Jx.lenSl rfl rfl ?_)
    (refine Jx.lssI rfl rfl rfl ?_)
    (refine J.nil ?_)
    (refine N.seq ?_)
    (refine W.condT rfl (by first | rfl | assumption | (exact decide_eq_true (by first | assumption | omega | rfl)) | (exact decide_eq_false (by first | assumption | omega | rfl)) | (simp; done) | (simp; omega)) ?_)
    (refine W.skip ?_)
    (refine N.seq ?_)
    (refine W.seq ?_)
    (refine W.block ?_)
    (refine W.seq ?_)
    (refine W.region ?_)
    (refine Jx.move rfl rfl ?_)
    (refine Jx.move rfl rfl ?_)
    (refine Jx.indexEl rfl rfl (by assumption) rfl rfl ?_)
    (refine Jx.loadPP rfl rfl ?_)
    (refine Jx.lenS rfl rfl ?_)
    (refine Jx.move rfl rfl ?_)
    (refine Jx.gtrI rfl rfl rfl ?_)
    (refine J.nil ?_)
    (refine N.seq ?_)
    (refine W.condT rfl (by first | rfl | assumption | (exact decide_eq_true (by first | assumption | omega | rfl)) | (exact decide_eq_false (by first | assumption | omega | rfl)) | (simp; done) | (simp; omega)) ?_)
    (refine W.seq ?_)
    (refine W.region ?_)
    (refine Jx.assign rfl rfl ?_)
    (refine J.nil ?_)
    (refine N.seq ?_)
    (refine W.ret ?_)
    (refine N.blockRet ?_)
    (refine N.seqRet ?_)
    (refine N.seqRet ?_)
    (refine N.blockRet ?_)
    (refine N.seqRet ?_)
    (refine id ?_; rotate_left))
        refine N.ret (rs := [.tmp 6]) rfl (.tmp rfl .nil) ⟨?_, rfl⟩
        have : l.all (fun s => decide ((s.length : Int) ≤ e)) = false := by
          rw [List.all_eq_false]; exact ⟨_, hm, by simp only [decide_eq_true_eq]; omega⟩
        simp [oneOr, fewB, this]
      · focus (
    (refine W.seq ?_)
    (refine W.seq ?_)
    (refine W.region ?_)
    (refine Jx.move rfl rfl ?_)
    (refine Jx.move rfl rfl ?_)
    (refine Jx.lenSl rfl rfl ?_)
    (refine Jx.lssI rfl rfl rfl ?_)
    (refine J.nil ?_)
    (refine N.seq ?_)
    (refine W.condT rfl (by first | rfl | assumption | (exact decide_eq_true (by first | assumption | omega | rfl)) | (exact decide_eq_false (by first | assumption | omega | rfl)) | (simp; done) | (simp; omega)) ?_)
    (refine W.skip ?_)
    (refine N.seq ?_)
    (refine W.seq ?_)
    (refine W.block ?_)
    (refine W.seq ?_)
    (refine W.region ?_)
    (refine Jx.move rfl rfl ?_)
    (refine Jx.move rfl rfl ?_)
    (refine Jx.indexEl rfl rfl (by assumption) rfl rfl ?_)
    (refine Jx.loadPP rfl rfl ?_)
    (refine Jx.lenS rfl rfl ?_)
    (refine Jx.move rfl rfl ?_)
    (refine Jx.gtrI rfl rfl rfl ?_)
    (refine J.nil ?_)
    (refine N.seq ?_)
    (refine W.condF rfl (by first | rfl | assumption | (exact decide_eq_true (by first | assumption | omega | rfl)) | (exact decide_eq_false (by first | assumption | omega | rfl)) | (simp; done) | (simp; omega)) ?_)
    (refine W.skip ?_)
    (refine N.seq ?_)
    (refine W.region ?_)
    (refine Jx.move rfl rfl ?_)
    (refine Jx.add64 rfl rfl (by omega) rfl ?_)
    (refine Jx.assign rfl rfl ?_)
    (refine J.nil ?_)
    (refine id ?_; rotate_left))
        exact N.round (i + 1) ⟨h1, fun s hs => by rcases hts s hs with h | rfl; exact hall s h; omega⟩ (by omega) rfl ⟨ref0 rfl, ref0 rfl, ref0 rfl, trivial⟩
    · have hil : i = l.length := by omega
      focus (
    (refine W.seq ?_)
    (refine W.seq ?_)
    (refine W.region ?_)
    (refine Jx.move rfl rfl ?_)
    (refine Jx.move rfl rfl ?_)
    (refine Jx.lenSl rfl rfl ?_)
    (refine Jx.lssI rfl rfl rfl ?_)
    (refine J.nil ?_)
    (refine N.seq ?_)
    (refine W.condF rfl (by first | rfl | assumption | (exact decide_eq_true (by first | assumption | omega | rfl)) | (exact decide_eq_false (by first | assumption | omega | rfl)) | (simp; done) | (simp; omega)) ?_)
    (refine W.exit ?_)
    (refine N.seq ?_)
    (refine W.seq ?_)
    (refine W.region ?_)
    (refine Jx.assign rfl rfl ?_)
    (refine J.nil ?_)
    (refine N.seq ?_)
    (refine W.ret ?_)
    (refine id ?_; rotate_left))
      refine N.ret (rs := [.tmp 6]) rfl (.tmp rfl .nil) ⟨?_, rfl⟩
      rw [hil, List.take_length] at hall
      have : l.all (fun s => decide ((s.length : Int) ≤ e)) = true := List.all_eq_true.2 fun s hs => by simpa using hall s hs
      simp only [oneOr, fewB, this, Bool.and_true]
      rw [decide_eq_true (by omega)]
end Go.Proofs.YtjlpknligekfeaaDoor
