/-
  Lemmas for the claim, part 3.
-/
import Derived.Test.YtmkicbphbegjbaaTimerOrderPb
namespace Go.Proofs.Ytmkicbphbegjbaa
open Go Go.Sse
set_option linter.unusedVariables false
set_option linter.unusedSimpArgs false
set_option maxRecDepth 10000
theorem lk_snoc {α β : Type} [DecidableEq α] : ∀ (l : List (α × β)) (k k' : α) (v : β), lk (l ++ [(k, v)]) k' = match lk l k' with | some u => some u | none => if k = k' then some v else none
  | [], k, k', v => by simp only [List.nil_append, lk_cons]; rfl
  | p :: l, k, k', v => by
    rw [List.cons_append, lk_cons, lk_cons, lk_snoc l]
    by_cases h : p.1 = k' <;> simp [h]
theorem lk_unk {α β : Type} [DecidableEq α] : ∀ {l : List (α × β)} {k k' : α}, k' ≠ k → lk (unk l k) k' = lk l k'
  | [], _, _, _ => rfl
  | p :: l, k, k', h => by
    unfold unk
    split
    · rename_i e; rw [lk_cons, if_neg (by rw [e]; exact fun hh => h hh.symm)]
    · rw [lk_cons, lk_cons, lk_unk h]
theorem step_names {D : Dd} {a : Ac} {nm : List UInt8} (h : nm ∈ (stepF D a).map (·.1)) : nm ∈ D.map (·.1) ∨ nm = a.name := by
  unfold stepF at h
  split at h
  · unfold setD at h
    split at h
    · exact .inl h
    split at h
    · exact .inl h
    · simp only [newD, List.map_append, List.mem_append, List.map_cons, List.map_nil, List.mem_singleton] at h
      rcases h with h | h
      · exact .inl (((List.eraseIdx_sublist _ _).map _).subset h)
      · exact .inr h
  split at h
  · unfold dropD at h
    split at h
    · exact .inl (((List.eraseIdx_sublist _ _).map _).subset h)
    · exact .inl h
  · exact .inl h
theorem fill_names (l : List Ac) {nm : List UInt8} : ∀ k, k ≤ l.length → nm ∈ (fillD l k).map (·.1) → ∃ j, j < k ∧ (l.getD j ac0).name = nm
  | 0, _, h => by simp [fillD] at h
  | k + 1, hk, h => by
    rw [fillD_succ hk] at h
    rcases step_names h with h | h
    · obtain ⟨j, hj, e⟩ := fill_names l k (by omega) h
      exact ⟨j, by omega, e⟩
    · exact ⟨k, by omega, h.symm⟩
theorem isAt_mem {D : Dd} {p : List UInt8 × Int} (hn : (D.map (·.1)).Nodup) (h : p ∈ D) : isAt D p.1 ∧ whenD D p.1 = p.2 := by
  have h1 : isAt D p.1 := isAt_iff.2 (List.mem_map_of_mem (f := (·.1)) h)
  refine ⟨h1, ?_⟩
  unfold whenD
  rw [if_pos h1, atD_get h1]
  have hg := List.findIdx_getElem (xs := D) (p := fun (q : List UInt8 × Int) => decide (q.1 = p.1)) (w := h1)
  have he : (D[findD D p.1]'h1).1 = p.1 := of_decide_eq_true hg
  obtain ⟨j, hj, e⟩ := List.getElem_of_mem h
  have h2 : (D.map (·.1))[findD D p.1]'(by simpa using h1) = (D.map (·.1))[j]'(by simpa using hj) := by simp [he, e]
  have h3 : findD D p.1 = j := by
    have hp := List.pairwise_iff_getElem.1 hn
    rcases Nat.lt_trichotomy (findD D p.1) j with hh | hh | hh
    · exact absurd h2 (hp _ _ _ _ hh)
    · exact hh
    · exact absurd h2.symm (hp _ _ _ _ hh)
  simp only [h3, e]
def okM (D : Dd) (mp : List (List UInt8 × Value)) : Prop := ∀ k v, lk mp k = some v → isAt D k ∧ v = .int .i64 (whenD D k)
structure OrdP (D : Dd) (now : Int) (ps : Dd) : Prop where
  e1 : (due D now).1 = ps.map (·.1)
  srt : ps.Pairwise (fun a b => a.2 ≤ b.2)
  le : ∀ p ∈ ps, p.2 ≤ now
  at' : ∀ p ∈ ps, isAt D p.1 ∧ whenD D p.1 = p.2 ∧ 0 ≤ p.2
  nd : (ps.map (·.1)).Nodup
  out : ∀ p ∈ ps, ¬ isAt (due D now).2 p.1
  len : ps.length + (due D now).2.length = D.length
theorem ord_p {D : Dd} {n : Nat} (hg : GoodD D n) (now : Int) : ∃ ps, OrdP D now ps := by
  obtain ⟨ps, h1, h2, h3, h4⟩ := due_pairs now D hg.nms
  have hnd := ((h2.map (·.1)).nodup_iff).2 hg.nms
  rw [List.map_append, List.nodup_append] at hnd
  refine ⟨ps, h1, h3, h4, fun p hp => ?_, hnd.1, fun p hp hi => ?_, ?_⟩
  · have hm : p ∈ D := h2.mem_iff.1 (List.mem_append_left _ hp)
    obtain ⟨a, b⟩ := isAt_mem hg.nms hm
    exact ⟨a, b, (hg.tms p hm).1⟩
  · exact hnd.2.2 p.1 (List.mem_map_of_mem (f := (·.1)) hp) p.1 (isAt_iff.1 hi) rfl
  · have := h2.length_eq
    simpa using this
noncomputable instance zInt : TZero Try.prog 3 (.int .i64 0) := ⟨by kernel_rfl⟩
structure OrS where
  j : Nat
  last : Int
  mp : List (List UInt8 × Value)
set_option maxHeartbeats 8000000 in
theorem timerOrder_ok (l : List Ac) (now : Int) : FnC Try.prog 6 [acsl l, int now] [] (fun r L => r = Sse.bool true ∧ L = []) := by
  have hg := fil_good l
  have hle := hg.len
  obtain ⟨ps, hP⟩ := ord_p hg now
  have hfn := fun nm => fill_names l (nm := nm) (min l.length 60) (Nat.min_le_left _ _)
  change ∀ nm, nm ∈ (fil l).map (·.1) → _ at hfn
  have hrest := due_rest now (fil l)
  have hno := due_nothing hrest
  generalize hD : fil l = D at *
  refine FnC.intro Try.func6 rfl Try.ntmps6 rfl fun Z w0 hG => ?_
  focus (
 (refine W.seq (W.region (Jx.assign rfl rfl (J.nil (N.seq (W.seq (W.seq (W.region ?_))))))))
 (refine J.call works_ok rfl (evs_args rfl) rfl ?_; rintro _ _ ⟨rfl, rfl⟩)
 (refine Jx.not rfl rfl (J.nil (N.seq (W.cF rfl ?_))))
 (refine W.skip (N.seq (W.seq (W.region (Jx.move rfl rfl ?_)))))
 (refine J.call (Lc := []) (filled_ok l) rfl (evs_args rfl) rfl ?_; rintro _ L0 ⟨b, rfl, h0⟩; rw [List.append_nil, hD] at *)
 (refine Jx.assign rfl rfl (J.nil (N.seq (W.seq (W.region ?_)))))
 (refine J.makeMap rfl ?_; intro M)
 (refine Jx.assign rfl rfl (J.nil (N.seq (W.seq (W.seq (W.region (Jx.assign rfl rfl (J.nil (N.seq (W.block ?_))))))))))
 (refine id ?_; rotate_left))
  refine W.loop (α := Nat × List (List UInt8 × Value)) (fun x => [(7, int (x.1 : Int)), (6, .val (.map (some M))), (5, ptr b), (0, acsl l), (1, int now)]) (fun x => mapD M x.2 :: L0) (fun x => x.1 ≤ min l.length 60 ∧ okM D x.2 ∧ ∀ j, j < x.1 → isAt D (l.getD j ac0).name → lk x.2 (l.getD j ac0).name = some (.int .i64 (whenD D (l.getD j ac0).name))) (fun x => l.length - x.1) (0, []) ⟨Nat.zero_le _, fun k v h => by simp [lk] at h, fun j hj => by simp at hj⟩ rfl ⟨ref0 rfl, ref0 rfl, ref0 rfl, ref0 rfl, ref0 rfl, trivial⟩ ?_
  rintro ⟨i, mp⟩ ⟨hi, hm1, hm2⟩
  simp only at hi hm1 hm2 ⊢
  have hi1 : i ≤ l.length := Nat.le_trans hi (Nat.min_le_left _ _)
  have hi2 : i ≤ 60 := Nat.le_trans hi (Nat.min_le_right _ _)
  have e1 : (i : Int) + 1 = ((i + 1 : Nat) : Int) := by omega
  by_cases hc : i < l.length ∧ i < 60
  · obtain ⟨h1, h2⟩ := hc
    have h1' : (i : Int) < (l.length : Int) := by omega
    have h2' : (i : Int) < 60 := by omega
    have hle1 : i + 1 ≤ min l.length 60 := Nat.le_min.2 ⟨h1, h2⟩
    have ca := tAt_ok b D 60 L0 h0 (l.getD i ac0).name
    by_cases ha : isAt D (l.getD i ac0).name
    · rw [decide_eq_true ha] at ca
      generalize hw : whenD D (l.getD i ac0).name = wn at *
      cases hlk : lk mp (l.getD i ac0).name with
      | none =>
        focus (
 (refine W.seq (W.seq (W.region (Jx.move rfl rfl (Jx.move rfl rfl (Jx.lenSl rfl rfl ?_))))))
 (refine Jx.lssI rfl rfl rfl (Jx.move rfl rfl (J.gY rfl rfl rfl ?_)))
 (refine Jx.move rfl rfl (J.gY rfl rfl rfl ?_))
 (refine Jx.lssI rfl rfl rfl (Jx.pT rfl rfl rfl ?_))
 (refine J.nil (N.seq (W.cT rfl ?_)))
 (refine W.skip (N.seq (W.seq (W.block (W.seq (W.region (Jx.move rfl rfl (Jx.move rfl rfl (Jx.move rfl rfl (Jx.indexEl rfl rfl (by assumption) rfl rfl ?_))))))))))
 (refine Jx.fieldEl rfl rfl rfl ?_)
 (refine Jx.loadPP rfl rfl ?_)
 (refine J.perm (List.perm_append_comm (l₁ := [mapD M mp]) (l₂ := L0)) ?_; refine J.call ca rfl (evs_args rfl) rfl ?_; rintro _ L9 ⟨rfl, h9⟩; rw [h9]; refine J.perm (List.perm_append_comm (l₁ := L0) (l₂ := [mapD M mp])) ?_; rw [List.singleton_append])
 (refine Jx.move rfl rfl (Jx.extract rfl rfl rfl ?_))
 (refine Jx.extract rfl rfl rfl ?_)
 (refine Jx.assign rfl rfl (Jx.assign rfl rfl (J.nil (N.seq (W.seq (W.region (Jx.move rfl rfl (J.nil (N.seq (W.cT rfl ?_))))))))))
 (refine W.region (Jx.move rfl rfl (Jx.move rfl rfl (Jx.move rfl rfl (Jx.indexEl rfl rfl (by assumption) rfl rfl ?_)))))
 (refine Jx.fieldEl rfl rfl rfl ?_)
 (refine Jx.loadPP rfl rfl ?_)
 (refine Jx.move rfl rfl ?_)
 (refine J.mapUpdS rfl rfl rfl 0 rfl hlk rfl ?_)
 (refine J.nil (N.seq (W.region (Jx.move rfl rfl ?_))))
 (refine Jx.add64 rfl rfl (by omega) rfl ?_; rw [e1])
 (refine Jx.assign rfl rfl (J.nil ?_))
 (refine id ?_; rotate_left))
        refine N.round (i + 1, mp ++ [((l.getD i ac0).name, .int .i64 wn)]) ⟨hle1, fun k v h => ?_, fun j hj hja => ?_⟩ (by simp only; omega) rfl ⟨ref0 rfl, ref0 rfl, ref0 rfl, ref0 rfl, ref0 rfl, trivial⟩
        · rw [lk_snoc] at h
          cases hk : lk mp k with
          | some u => rw [hk] at h; simp only [Option.some.injEq] at h; subst h; exact hm1 k u hk
          | none =>
            rw [hk] at h
            by_cases e : (l.getD i ac0).name = k
            · simp only [e, if_true, Option.some.injEq] at h
              rw [← e]; exact ⟨ha, by rw [hw, ← h]⟩
            · simp only [if_neg e, reduceCtorEq] at h
        · rw [lk_snoc]
          by_cases hji : j < i
          · rw [hm2 j hji hja]
          · obtain rfl : j = i := by omega
            rw [hlk]; simp only [if_true, hw]
      | some u =>
        have hu : u = .int .i64 wn := by rw [← hw]; exact (hm1 _ _ hlk).2
        subst hu
        have hup := upk_same hlk
        focus (
 (refine W.seq (W.seq (W.region (Jx.move rfl rfl (Jx.move rfl rfl (Jx.lenSl rfl rfl ?_))))))
 (refine Jx.lssI rfl rfl rfl (Jx.move rfl rfl (J.gY rfl rfl rfl ?_)))
 (refine Jx.move rfl rfl (J.gY rfl rfl rfl ?_))
 (refine Jx.lssI rfl rfl rfl (Jx.pT rfl rfl rfl ?_))
 (refine J.nil (N.seq (W.cT rfl ?_)))
 (refine W.skip (N.seq (W.seq (W.block (W.seq (W.region (Jx.move rfl rfl (Jx.move rfl rfl (Jx.move rfl rfl (Jx.indexEl rfl rfl (by assumption) rfl rfl ?_))))))))))
 (refine Jx.fieldEl rfl rfl rfl ?_)
 (refine Jx.loadPP rfl rfl ?_)
 (refine J.perm (List.perm_append_comm (l₁ := [mapD M mp]) (l₂ := L0)) ?_; refine J.call ca rfl (evs_args rfl) rfl ?_; rintro _ L9 ⟨rfl, h9⟩; rw [h9]; refine J.perm (List.perm_append_comm (l₁ := L0) (l₂ := [mapD M mp])) ?_; rw [List.singleton_append])
 (refine Jx.move rfl rfl (Jx.extract rfl rfl rfl ?_))
 (refine Jx.extract rfl rfl rfl ?_)
 (refine Jx.assign rfl rfl (Jx.assign rfl rfl (J.nil (N.seq (W.seq (W.region (Jx.move rfl rfl (J.nil (N.seq (W.cT rfl ?_))))))))))
 (refine W.region (Jx.move rfl rfl (Jx.move rfl rfl (Jx.move rfl rfl (Jx.indexEl rfl rfl (by assumption) rfl rfl ?_)))))
 (refine Jx.fieldEl rfl rfl rfl ?_)
 (refine Jx.loadPP rfl rfl ?_)
 (refine Jx.move rfl rfl ?_)
 (refine J.mapUpdT rfl rfl rfl 0 rfl hlk rfl ?_; rw [hup])
 (refine J.nil (N.seq (W.region (Jx.move rfl rfl ?_))))
 (refine Jx.add64 rfl rfl (by omega) rfl ?_; rw [e1])
 (refine Jx.assign rfl rfl (J.nil ?_))
 (refine id ?_; rotate_left))
        refine N.round (i + 1, mp) ⟨hle1, hm1, fun j hj hja => ?_⟩ (by simp only; omega) rfl ⟨ref0 rfl, ref0 rfl, ref0 rfl, ref0 rfl, ref0 rfl, trivial⟩
        by_cases hji : j < i
        · exact hm2 j hji hja
        · obtain rfl : j = i := by omega
          rw [hlk, hw]
    · rw [decide_eq_false ha] at ca
      focus (
 (refine W.seq (W.seq (W.region (Jx.move rfl rfl (Jx.move rfl rfl (Jx.lenSl rfl rfl ?_))))))
 (refine Jx.lssI rfl rfl rfl (Jx.move rfl rfl (J.gY rfl rfl rfl ?_)))
 (refine Jx.move rfl rfl (J.gY rfl rfl rfl ?_))
 (refine Jx.lssI rfl rfl rfl (Jx.pT rfl rfl rfl ?_))
 (refine J.nil (N.seq (W.cT rfl ?_)))
 (refine W.skip (N.seq (W.seq (W.block (W.seq (W.region (Jx.move rfl rfl (Jx.move rfl rfl (Jx.move rfl rfl (Jx.indexEl rfl rfl (by assumption) rfl rfl ?_))))))))))
 (refine Jx.fieldEl rfl rfl rfl ?_)
 (refine Jx.loadPP rfl rfl ?_)
 (refine J.perm (List.perm_append_comm (l₁ := [mapD M mp]) (l₂ := L0)) ?_; refine J.call ca rfl (evs_args rfl) rfl ?_; rintro _ L9 ⟨rfl, h9⟩; rw [h9]; refine J.perm (List.perm_append_comm (l₁ := L0) (l₂ := [mapD M mp])) ?_; rw [List.singleton_append])
 (refine Jx.move rfl rfl (Jx.extract rfl rfl rfl ?_))
 (refine Jx.extract rfl rfl rfl ?_)
 (refine Jx.assign rfl rfl (Jx.assign rfl rfl (J.nil (N.seq (W.seq (W.region (Jx.move rfl rfl (J.nil (N.seq (W.cF rfl ?_))))))))))
 (refine W.skip (N.seq (W.region (Jx.move rfl rfl ?_))))
 (refine Jx.add64 rfl rfl (by omega) rfl ?_; rw [e1])
 (refine Jx.assign rfl rfl (J.nil ?_))
 (refine id ?_; rotate_left))
      refine N.round (i + 1, mp) ⟨hle1, hm1, fun j hj hja => ?_⟩ (by simp only; omega) rfl ⟨ref0 rfl, ref0 rfl, ref0 rfl, ref0 rfl, ref0 rfl, trivial⟩
      by_cases hji : j < i
      · exact hm2 j hji hja
      · obtain rfl : j = i := by omega
        exact absurd hja ha
  have himin : i = min l.length 60 := by omega
  have hall : ∀ p ∈ ps, lk mp p.1 = some (.int .i64 p.2) := by
    intro p hp
    obtain ⟨h1, h2, _⟩ := hP.at' p hp
    obtain ⟨j, hj, e⟩ := hfn p.1 (isAt_iff.1 h1)
    have := hm2 j (by omega) (by rw [e]; exact h1)
    rwa [e, h2] at this
  have cl := tLen_ok b D 60 L0 h0
  have cd := tDue_ok b D 60 L0 h0 now (by omega)
  rw [hP.e1] at cd
  have hmx : (ps.map (·.1)).length ≤ maxLen := by have := hP.len; simp only [List.length_map, maxLen]; omega
  have hout := hP.out
  have hlen := hP.len
  generalize (due D now).2 = D2 at *
  have hmany : (D.length : Int) = ((ps.map (·.1)).length : Int) + (D2.length : Int) := by rw [List.length_map]; omega
  focus (
 (refine W.seq (W.seq (W.region (Jx.move rfl rfl (Jx.move rfl rfl (Jx.lenSl rfl rfl ?_))))))
 (refine Jx.lssI rfl rfl rfl (Jx.move rfl rfl ?_))
 (refine' J.guardAnd rfl rfl rfl rfl rfl rfl rfl rfl (fun _ => ?_) ?_; rotate_left)
 (refine J.gY rfl rfl rfl ?_)
 (refine Jx.move rfl rfl (J.gY rfl rfl rfl ?_))
 (refine Jx.lssI rfl rfl rfl (J.nil ?_))
 (refine N.joinedN rfl rfl rfl)
 (refine J.nil (N.seq (W.cF rfl ?_)))
 (refine W.exit (N.seq (W.seq (W.region (Jx.move rfl rfl ?_)))))
 (refine J.perm (List.perm_append_comm (l₁ := [mapD M mp]) (l₂ := L0)) ?_; refine J.call cl rfl (evs_args rfl) rfl ?_; rintro _ L9 ⟨rfl, h9⟩; rw [h9])
 (refine Jx.assign rfl rfl (Jx.assign rfl rfl (J.nil (N.seq (W.seq (W.region (Jx.move rfl rfl (Jx.move rfl rfl ?_))))))))
 (refine J.call cd rfl (evs_args rfl) rfl ?_; rintro _ _ ⟨v2, Lt, hv2, rfl, rfl, hT2⟩; rw [List.cons_append]; refine J.freeze 58 rfl hmx ?_; refine J.perm (List.perm_append_comm (l₁ := Lt) (l₂ := [mapD M mp])) ?_; rw [List.singleton_append])
 (refine Jx.assign rfl rfl (J.nil (N.seq (W.seq (W.seq (W.region (Jx.move rfl rfl (Jx.lenSl rfl rfl ?_))))))))
 (refine Jx.move rfl rfl (J.nil (N.seq (W.block ?_))))
 (refine id ?_; rotate_left))
  have hml : (ps.map (·.1)).length = ps.length := List.length_map _
  refine W.loop (α := OrS) (fun x => [(61, int (x.j : Int)), (60, int ((ps.map (·.1)).length : Int)), (59, ssl (ps.map (·.1))), (12, ssl (ps.map (·.1))), (11, int x.last), (10, int (D.length : Int)), (6, .val (.map (some M))), (5, ptr b), (1, int now)]) (fun x => mapD M x.mp :: Lt) (fun x => x.j ≤ ps.length ∧ ∀ p ∈ ps.drop x.j, x.last ≤ p.2 ∧ lk x.mp p.1 = some (.int .i64 p.2)) (fun x => ps.length - x.j) ⟨0, 0, mp⟩ ⟨Nat.zero_le _, fun p hp => ⟨(hP.at' p hp).2.2, hall p hp⟩⟩ rfl ⟨ref0 rfl, ref0 rfl, ref0 rfl, ref0 rfl, ref0 rfl, ref0 rfl, ref0 rfl, ref0 rfl, ref0 rfl, trivial⟩ ?_
  rintro ⟨j, last, mp'⟩ ⟨hj, hI⟩
  simp only at hj hI ⊢
  have e3 : (j : Int) + 1 = ((j + 1 : Nat) : Int) := by omega
  by_cases hjl : j < ps.length
  · have hjn : j < (ps.map (·.1)).length := by omega
    have hj' : (j : Int) < ((ps.map (·.1)).length : Int) := by omega
    have hd : ps.drop j = ps[j] :: ps.drop (j + 1) := List.drop_eq_getElem_cons hjl
    obtain ⟨hlast, hlk⟩ := hI ps[j] (by rw [hd]; exact List.mem_cons_self)
    have hnow := hP.le ps[j] (List.getElem_mem hjl)
    have ca := tAt_ok b D2 60 Lt hT2 ps[j].1
    rw [decide_eq_false (hout ps[j] (List.getElem_mem hjl))] at ca
    have hnm : (ps.map (·.1)).getD j [] = ps[j].1 := by rw [List.getD_eq_getElem?_getD, List.getElem?_map, List.getElem?_eq_getElem hjl]; rfl
    have hnx : ∀ p ∈ ps.drop (j + 1), ps[j].2 ≤ p.2 ∧ lk (unk mp' ps[j].1) p.1 = some (.int .i64 p.2) := by
      intro p hp
      have hsub : (ps.drop j).Sublist ps := List.drop_sublist _ _
      have h1 := hP.srt.sublist hsub
      have h2 := hP.nd.sublist (hsub.map (·.1))
      rw [hd] at h1 h2
      rw [List.map_cons, List.nodup_cons] at h2
      have h3 : p.1 ≠ ps[j].1 := fun e => h2.1 (e ▸ List.mem_map_of_mem (f := (·.1)) hp)
      exact ⟨(List.pairwise_cons.1 h1).1 p hp, by rw [lk_unk h3]; exact (hI p (by rw [hd]; exact List.mem_cons_of_mem _ hp)).2⟩
    generalize ps[j] = pj at *
    have k1 : ¬ pj.2 < last := by omega
    have k2 : ¬ now < pj.2 := by omega
    focus (
 (refine W.seq (W.region (Jx.lssI rfl rfl rfl (J.nil (N.seq (W.seq (W.cT rfl ?_)))))))
 (refine W.skip (N.seq (W.seq (W.block (W.seq (W.region ?_))))))
 (refine Jx.indexEl rfl rfl hjn rfl rfl ?_; rw [hnm])
 (refine Jx.loadPP rfl rfl ?_)
 (refine Jx.assign rfl rfl (J.nil (N.seq (W.seq (W.region (Jx.move rfl rfl (Jx.move rfl rfl ?_)))))))
 (refine Jx.lookupS rfl rfl 0 rfl rfl ?_; rw [hlk])
 (refine Jx.move rfl rfl (Jx.extract rfl rfl rfl ?_))
 (refine Jx.extract rfl rfl rfl ?_)
 (refine Jx.assign rfl rfl (Jx.assign rfl rfl (J.nil (N.seq (W.seq (W.seq (W.region (Jx.move rfl rfl (Jx.not rfl rfl (Jx.move rfl rfl (J.gY rfl rfl rfl ?_)))))))))))
 (refine Jx.move rfl rfl (J.gY rfl rfl rfl ?_))
 (refine Jx.move rfl rfl (J.gY rfl rfl rfl ?_))
 (refine Jx.lssI rfl rfl rfl (Jx.pF rfl rfl rfl ?_))
 (refine Jx.move rfl rfl (J.gY rfl rfl rfl ?_))
 (refine Jx.move rfl rfl (J.gY rfl rfl rfl ?_))
 (refine Jx.move rfl rfl (J.gY rfl rfl rfl ?_))
 (refine Jx.gtrI rfl rfl rfl (Jx.pF rfl rfl rfl ?_))
 (refine J.nil (N.seq (W.cF rfl ?_)))
 (refine W.skip (N.seq (W.seq (W.seq (W.region (Jx.move rfl rfl (Jx.move rfl rfl ?_)))))))
 (refine J.perm (List.perm_append_comm (l₁ := [mapD M mp']) (l₂ := Lt)) ?_; refine J.call ca rfl (evs_args rfl) rfl ?_; rintro _ L9 ⟨rfl, h9⟩; rw [h9]; refine J.perm (List.perm_append_comm (l₁ := Lt) (l₂ := [mapD M mp'])) ?_; rw [List.singleton_append])
 (refine Jx.move rfl rfl (Jx.extract rfl rfl rfl ?_))
 (refine Jx.extract rfl rfl rfl ?_)
 (refine Jx.assign rfl rfl (Jx.assign rfl rfl (J.nil (N.seq (W.seq (W.region (Jx.move rfl rfl (J.nil (N.seq (W.cF rfl ?_))))))))))
 (refine W.skip (N.seq (W.seq (W.region (Jx.move rfl rfl (Jx.move rfl rfl (J.deleteS rfl rfl 0 rfl rfl ?_)))))))
 (refine J.nil (N.seq (W.region (Jx.move rfl rfl (Jx.assign rfl rfl (J.nil (N.seq (W.region ?_))))))))
 (refine Jx.add64 rfl rfl (by omega) rfl ?_; rw [e3])
 (refine Jx.move rfl rfl (J.nil ?_))
 (refine id ?_; rotate_left))
    exact N.round ⟨j + 1, pj.2, unk mp' pj.1⟩ ⟨hjl, hnx⟩ (by simp only; omega) rfl ⟨ref0 rfl, ref0 rfl, ref0 rfl, ref0 rfl, ref0 rfl, ref0 rfl, ref0 rfl, ref0 rfl, ref0 rfl, trivial⟩
  · have hj' : ¬ (j : Int) < ((ps.map (·.1)).length : Int) := by omega
    have cn := tNext_ok b D2 60 Lt hT2
    have cl2 := tLen_ok b D2 60 Lt hT2
    have cd2 := tDue_ok b D2 60 Lt hT2 now (by omega)
    rw [hno] at cd2; dsimp only at cd2
    have hm0 : ([] : List (List UInt8)).length ≤ maxLen := by simp only [maxLen]; decide
    have hps : ((ps.map (·.1)).length : Int) ≤ 60 := by omega
    have hd2 : (D2.length : Int) ≤ 60 := by omega
    by_cases hz : 0 < D2.length
    · have hz' : (0 : Int) < (D2.length : Int) := by omega
      have hnx : now < nextD D2 := by
        unfold nextD
        rw [if_pos hz, atD_get (firstD_lt hz)]
        exact hrest _ (List.getElem_mem _)
      rw [decide_eq_true hz] at cn
      generalize nextD D2 = nx at *
      focus (
 (refine W.seq (W.region (Jx.lssI rfl rfl rfl (J.nil (N.seq (W.seq (W.cF rfl ?_)))))))
 (refine W.exit (N.seq (W.seq (W.region (Jx.move rfl rfl ?_)))))
 (refine J.drop (List.sublist_cons_self _ _) ?_; refine J.call cn (List.append_nil _).symm (evs_args rfl) rfl ?_; rintro _ L9 ⟨rfl, h9⟩; rw [h9, List.append_nil])
 (refine Jx.move rfl rfl (Jx.extract rfl rfl rfl ?_))
 (refine Jx.extract rfl rfl rfl ?_)
 (refine Jx.assign rfl rfl (Jx.assign rfl rfl (J.nil (N.seq (W.seq (W.region (Jx.move rfl rfl (Jx.move rfl rfl (Jx.lenSl rfl rfl ?_)))))))))
 (refine Jx.move rfl rfl ?_)
 (refine J.call cl2 (List.append_nil _).symm (evs_args rfl) rfl ?_; rintro _ L9 ⟨rfl, h9⟩; rw [h9, List.append_nil])
 (refine Jx.add64 rfl rfl (by omega) rfl ?_)
 (refine Jx.eqlI rfl rfl rfl (Jx.move rfl rfl (J.gY rfl rfl rfl ?_)))
 (refine Jx.move rfl rfl (J.gY rfl rfl rfl ?_))
 (refine Jx.not rfl rfl (J.gY rfl rfl rfl ?_))
 (refine Jx.move rfl rfl (J.gY rfl rfl rfl ?_))
 (refine Jx.move rfl rfl (J.gY rfl rfl rfl ?_))
 (refine Jx.move rfl rfl (J.gY rfl rfl rfl ?_))
 (refine Jx.gtrI rfl rfl rfl (J.gY rfl rfl rfl ?_))
 (refine Jx.pF rfl rfl rfl ?_)
 (refine Jx.pT rfl rfl rfl ?_)
 (refine Jx.move rfl rfl (J.gY rfl rfl rfl ?_))
 (refine Jx.move rfl rfl (J.gY rfl rfl rfl ?_))
 (refine Jx.move rfl rfl (J.gY rfl rfl rfl ?_))
 (refine J.call cl2 (List.append_nil _).symm (evs_args rfl) rfl ?_; rintro _ L9 ⟨rfl, h9⟩; rw [h9, List.append_nil])
 (refine J.gY rfl rfl rfl ?_)
 (refine Jx.gtrI rfl rfl rfl (J.gY rfl rfl rfl ?_))
 (refine Jx.eqlB rfl rfl rfl ?_)
 (refine Jx.pT rfl rfl rfl ?_)
 (refine Jx.move rfl rfl (J.gY rfl rfl rfl ?_))
 (refine Jx.move rfl rfl (J.gY rfl rfl rfl ?_))
 (refine Jx.move rfl rfl (J.gY rfl rfl rfl ?_))
 (refine J.call cd2 (List.append_nil _).symm (evs_args rfl) rfl ?_; rintro _ _ ⟨v7, L7, hv7, rfl, rfl, h7⟩; rw [List.append_nil]; refine J.freeze 125 rfl hm0 ?_)
 (refine J.gY rfl rfl rfl ?_)
 (refine Jx.lenSl rfl rfl ?_)
 (refine J.gY rfl rfl rfl ?_)
 (refine Jx.eqlI rfl rfl rfl (Jx.pT rfl rfl rfl ?_))
 (refine Jx.assign rfl rfl (J.nil (N.seq (W.ret ?_))))
 (refine id ?_; rotate_left))
      exact N.retD (rs := [.tmp 4]) (L1 := []) rfl (.tmp rfl .nil) (List.nil_sublist _) ⟨rfl, rfl⟩
    · obtain rfl : D2 = [] := List.eq_nil_of_length_eq_zero (by omega)
      rw [decide_eq_false hz] at cn
      generalize nextD [] = nx at *
      focus (
 (refine W.seq (W.region (Jx.lssI rfl rfl rfl (J.nil (N.seq (W.seq (W.cF rfl ?_)))))))
 (refine W.exit (N.seq (W.seq (W.region (Jx.move rfl rfl ?_)))))
 (refine J.drop (List.sublist_cons_self _ _) ?_; refine J.call cn (List.append_nil _).symm (evs_args rfl) rfl ?_; rintro _ L9 ⟨rfl, h9⟩; rw [h9, List.append_nil])
 (refine Jx.move rfl rfl (Jx.extract rfl rfl rfl ?_))
 (refine Jx.extract rfl rfl rfl ?_)
 (refine Jx.assign rfl rfl (Jx.assign rfl rfl (J.nil (N.seq (W.seq (W.region (Jx.move rfl rfl (Jx.move rfl rfl (Jx.lenSl rfl rfl ?_)))))))))
 (refine Jx.move rfl rfl ?_)
 (refine J.call cl2 (List.append_nil _).symm (evs_args rfl) rfl ?_; rintro _ L9 ⟨rfl, h9⟩; rw [h9, List.append_nil])
 (refine Jx.add64 rfl rfl (by omega) rfl ?_)
 (refine Jx.eqlI rfl rfl rfl (Jx.move rfl rfl (J.gY rfl rfl rfl ?_)))
 (refine Jx.move rfl rfl (J.gY rfl rfl rfl ?_))
 (refine Jx.not rfl rfl (J.gY rfl rfl rfl ?_))
 (refine Jx.move rfl rfl (J.gN rfl rfl rfl rfl ?_))
 (refine J.gN rfl rfl rfl rfl ?_)
 (refine J.gN rfl rfl rfl rfl ?_)
 (refine J.gY rfl rfl rfl ?_)
 (refine Jx.pT rfl rfl rfl ?_)
 (refine Jx.pT rfl rfl rfl ?_)
 (refine Jx.move rfl rfl (J.gY rfl rfl rfl ?_))
 (refine Jx.move rfl rfl (J.gY rfl rfl rfl ?_))
 (refine Jx.move rfl rfl (J.gY rfl rfl rfl ?_))
 (refine J.call cl2 (List.append_nil _).symm (evs_args rfl) rfl ?_; rintro _ L9 ⟨rfl, h9⟩; rw [h9, List.append_nil])
 (refine J.gY rfl rfl rfl ?_)
 (refine Jx.gtrI rfl rfl rfl (J.gY rfl rfl rfl ?_))
 (refine Jx.eqlB rfl rfl rfl ?_)
 (refine Jx.pT rfl rfl rfl ?_)
 (refine Jx.move rfl rfl (J.gY rfl rfl rfl ?_))
 (refine Jx.move rfl rfl (J.gY rfl rfl rfl ?_))
 (refine Jx.move rfl rfl (J.gY rfl rfl rfl ?_))
 (refine J.call cd2 (List.append_nil _).symm (evs_args rfl) rfl ?_; rintro _ _ ⟨v7, L7, hv7, rfl, rfl, h7⟩; rw [List.append_nil]; refine J.freeze 125 rfl hm0 ?_)
 (refine J.gY rfl rfl rfl ?_)
 (refine Jx.lenSl rfl rfl ?_)
 (refine J.gY rfl rfl rfl ?_)
 (refine Jx.eqlI rfl rfl rfl (Jx.pT rfl rfl rfl ?_))
 (refine Jx.assign rfl rfl (J.nil (N.seq (W.ret ?_))))
 (refine id ?_; rotate_left))
      exact N.retD (rs := [.tmp 4]) (L1 := []) rfl (.tmp rfl .nil) (List.nil_sublist _) ⟨rfl, rfl⟩
end Go.Proofs.Ytmkicbphbegjbaa
