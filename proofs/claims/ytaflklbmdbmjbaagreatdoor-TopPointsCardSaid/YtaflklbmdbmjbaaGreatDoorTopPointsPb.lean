/-
  Lemmas for the claim, part 2.
-/
import Derived.Test.YtaflklbmdbmjbaaGreatDoorTopPointsPa
namespace Go.Sse
open Go Go.Sse
set_option linter.unusedVariables false
set_option linter.unusedSimpArgs false
section
variable {P : Program} {Γ : Ctx} {ops : Array Oper} {Q : Exit → Act → World → Prop} {F G : List (Nat × SV)} {L : List Own}
def depsOf (o : Oper) : List Nat := (o.after.toList.filter (Region.binds .any)).map (·.on)
def okIdx (ops : Array Oper) (S idx : List Nat) : Bool :=
  idx.all fun b => match ops[b]? with
    | none => false
    | some o => o.dst.isSome && ((depsOf o).all fun e => Nat.blt e b && (S.contains e || idx.contains e)) &&
      (idx.all fun q => match dstAt ops q with
        | none => false
        | some t => (Nat.beq q b && !(rd ops o).contains t) || (!Nat.beq q b && !(dstAt ops b == some t) && (!(rd ops o).contains t || (depsOf o).contains q)))
def okStep (ops : Array Oper) (S idx : List Nat) (i : Nat) (ks S' idx' : List Nat) : Bool :=
  match ops[i]? with
  | none => false
  | some o => !S.contains i && !idx.contains i && o.guard.isNone && ((depsOf o).all fun e => Nat.blt e ops.size && (S.contains e || idx.contains e)) &&
    ((List.range ops.size).all fun j => S.contains j || idx.contains j || Nat.beq j i || (match ops[j]? with | none => false | some oj => (depsOf oj).any fun e => !S.contains e && !idx.contains e)) &&
    (o.op.operands.toList.all fun x => match x with | .tmp t => ks.contains t | _ => true) &&
    (idx'.all fun b => idx.contains b && (match dstAt ops b with | none => false | some t => !ks.contains t && !(o.dst == some t)) && (match ops[b]? with | none => false | some ob => match o.dst with | none => true | some t => !(rd ops ob).contains t)) &&
    (idx.all fun c => idx'.contains c || (S'.contains c && ((Region.before ops).getD i 0).testBit c)) &&
    (S.all fun s => S'.contains s) && S'.contains i && (S'.all fun s => S.contains s || Nat.beq s i || (idx.contains s && !idx'.contains s))
structure PSt (Γ : Ctx) (ops : Array Oper) (S idx : List Nat) (G : List (Nat × SV)) (L : List Own) (listed : Array Bool) (a : Act) (w : World) : Prop where
  sz : listed.size = ops.size
  lo : ∀ i, i < ops.size → i ∈ S → listed.getD i false = true
  hi : ∀ i, listed.getD i false = true → i ∈ S ∨ i ∈ idx
  cl : Closed ops (fun i => listed.getD i false)
  ws : WSt Γ L w
  nt : a.tmps.size = Γ.nt
  df : a.defers = Γ.df
  fr : ∀ x s, look G x = some s → (∀ b ∈ idx, listed.getD b false = false → dstAt ops b ≠ some x) → Rel (ZL Γ.Z L) w s (a.tmps.getD x undef)
def unl (ops : Array Oper) (listed : Array Bool) : Nat := ((List.range ops.size).filter fun i => !listed.getD i true).length
structure JP (P : Program) (Γ : Ctx) (ops : Array Oper) (Q : Exit → Act → World → Prop) (S idx : List Nat) (G : List (Nat × SV)) (L : List Own) : Prop where
  go : ∀ k listed a w, PSt Γ ops S idx G L listed a w → unl ops listed = k → wpAny P .any ops Q k listed a w
def Ag (G : List (Nat × SV)) : Nat → List (Nat × SV) → Prop
  | 0, _ => True
  | _ + 1, [] => False
  | n + 1, p :: r => look G p.1 = some p.2 ∧ Ag G n r
theorem Ag.nil {R : List (Nat × SV)} : Ag G 0 R := trivial
theorem Ag.cons {n d : Nat} {s : SV} {r : List (Nat × SV)} (h : look G d = some s) (hr : Ag G n r) : Ag G (n + 1) ((d, s) :: r) := ⟨h, hr⟩
theorem pushAll_eq : ∀ (items F : List (Nat × SV)), pushAll F items = items.reverse ++ F
  | [], F => rfl
  | p :: r, F => by simp [pushAll, pushAll_eq r]
theorem Ag.mem : ∀ {n : Nat} {R T : List (Nat × SV)}, R.length = n → Ag G n (R ++ T) → ∀ p ∈ R, look G p.1 = some p.2
  | _, [], _, _, _, p, hp => by simp at hp
  | n, q :: R, T, hn, h, p, hp => by
    subst hn
    simp only [List.length_cons, List.cons_append] at h
    rcases List.mem_cons.1 hp with rfl | hp
    · exact h.1
    · exact Ag.mem rfl h.2 p hp
theorem SegL.at : ∀ {l : List Oper} {items F : List (Nat × SV)}, SegL P Γ ops L F l items → items.length = l.length ∧ ∀ j o, l[j]? = some o → ∃ p, items[j]? = some p ∧ o.dst = some p.1 ∧ Nat.blt p.1 Γ.nt = true ∧ Item P Γ ops (pushAll F (items.take j)) L o p.2
  | _, _, _, .nil => ⟨rfl, by simp⟩
  | _, _, _, .cons hd hlt hi hr => by
    obtain ⟨h1, h2⟩ := hr.at
    refine ⟨by simp [h1], fun j o ho => ?_⟩
    cases j with
    | zero => simp at ho; subst ho; exact ⟨_, rfl, hd, hlt, hi⟩
    | succ j =>
      obtain ⟨p, hp, e1, e2, e3⟩ := h2 j o (by simpa using ho)
      exact ⟨p, by simpa using hp, e1, e2, by simpa [pushAll] using e3⟩
theorem getD_tf {l : Array Bool} {i : Nat} (h : i < l.size) : l.getD i true = l.getD i false := by
  simp [Array.getD_eq_getD_getElem?, Array.getElem?_eq_getElem h]
theorem getD_setB (l : Array Bool) (i : Nat) (hi : i < l.size) (d : Bool) (j : Nat) : (l.setIfInBounds i true).getD j d = if j = i then true else l.getD j d := by
  simp only [Array.getD_eq_getD_getElem?, Array.getElem?_setIfInBounds]
  by_cases hji : i = j
  · subst hji; simp [hi]
  · have : ¬ j = i := fun e => hji e.symm
    simp [hji, this]
theorem ready_iff {listed : Array Bool} (i : Nat) : i ∈ Region.ready .any ops listed ↔ i < ops.size ∧ listed.getD i true = false ∧ ∃ o, ops[i]? = some o ∧ ∀ e ∈ depsOf o, listed.getD e false = true := by
  unfold Region.ready
  simp only [List.mem_filter, List.mem_range, Bool.and_eq_true, Bool.not_eq_true']
  constructor
  · rintro ⟨h1, h2, h3⟩
    refine ⟨h1, h2, ?_⟩
    cases ho : ops[i]? with
    | none => simp [ho] at h3
    | some o =>
      simp only [ho, Option.map_some, Option.getD_some] at h3
      refine ⟨o, rfl, fun e he => ?_⟩
      obtain ⟨ed, hed, rfl⟩ := List.mem_map.1 he
      rw [List.mem_filter] at hed
      have := (Array.all_eq_true_iff_forall_mem.1 h3) ed (Array.mem_toList_iff.1 hed.1)
      simpa [hed.2] using this
  · rintro ⟨h1, h2, o, ho, h3⟩
    refine ⟨h1, h2, ?_⟩
    simp only [ho, Option.map_some, Option.getD_some]
    refine Array.all_eq_true_iff_forall_mem.2 fun e he => ?_
    cases hb : Region.binds .any e with
    | false => simp
    | true => simpa using h3 e.on (List.mem_map.2 ⟨e, List.mem_filter.2 ⟨Array.mem_toList_iff.2 he, hb⟩, rfl⟩)
theorem unl_set {listed : Array Bool} {i k : Nat} (hsz : listed.size = ops.size) (hi : i < ops.size) (hf : listed.getD i true = false) (hk : unl ops listed = k) : ∃ k', k = k' + 1 ∧ unl ops (listed.setIfInBounds i true) = k' := by
  unfold unl at *
  have hmem : i ∈ (List.range ops.size).filter fun i => !listed.getD i true := by
    rw [List.mem_filter, List.mem_range]; exact ⟨hi, by simp [hf]⟩
  have hnd : ((List.range ops.size).filter fun i => !listed.getD i true).Nodup := List.Sublist.nodup List.filter_sublist List.nodup_range
  have hfe2 : ((List.range ops.size).filter fun j => !(listed.setIfInBounds i true).getD j true) = ((List.range ops.size).filter fun i => !listed.getD i true).erase i := by
    rw [hnd.erase_eq_filter, List.filter_filter]
    refine List.filter_congr fun j _ => ?_
    rw [getD_setB _ _ (by omega)]
    by_cases hji : j = i
    · subst hji; simp
    · simp [hji]
  have hpos := List.length_pos_of_mem hmem
  refine ⟨k - 1, by omega, ?_⟩
  rw [hfe2, List.length_erase_of_mem hmem, hk]
theorem Closed.set {listed : Array Bool} {i : Nat} (h : Closed ops (fun i => listed.getD i false)) (hi : i < listed.size) {o : Oper} (ho : ops[i]? = some o) (hd : ∀ e ∈ depsOf o, listed.getD e false = true) : Closed ops (fun j => (listed.setIfInBounds i true).getD j false) := by
  intro j oj hoj hS e hem hbe
  simp only [getD_setB _ _ hi] at hS ⊢
  split
  · rfl
  · by_cases hji : j = i
    · subst hji
      rw [ho] at hoj; cases hoj
      exact hd e.on (List.mem_map.2 ⟨e, List.mem_filter.2 ⟨Array.mem_toList_iff.2 hem, hbe⟩, rfl⟩)
    · rw [if_neg hji] at hS
      exact h j oj hoj hS e hem hbe
theorem jp_run {S idx : List Nat} {lp : List Oper} (hok : okIdx ops S idx = true) (hlp : idx.map (ops[·]?) = lp.map some) (hre : SegC P Γ ops L G lp (Ag G lp.length))
    (hother : ∀ j k listed a w, PSt Γ ops S idx G L listed a w → unl ops listed = k + 1 → j ∈ Region.ready .any ops listed → j ∉ idx → wpOp P ops Q j (wpAny P .any ops Q k (listed.setIfInBounds j true)) a w)
    (hall : ∀ k listed a w, PSt Γ ops S idx G L listed a w → unl ops listed = k → (∀ b ∈ idx, listed.getD b false = true) → wpAny P .any ops Q k listed a w) : JP P Γ ops Q S idx G L := by
  obtain ⟨items, hseg, hag⟩ := hre
  obtain ⟨hlen, hat⟩ := hseg.at
  rw [pushAll_eq] at hag
  have hag' : ∀ p ∈ items, look G p.1 = some p.2 := fun p hp => Ag.mem (by simp [hlen]) hag p (by simpa using hp)
  have hokb := List.all_eq_true.1 hok
  have hspec : ∀ b ∈ idx, ∃ o, ops[b]? = some o ∧ o.dst.isSome = true ∧ (∀ e ∈ depsOf o, e < b ∧ (e ∈ S ∨ e ∈ idx)) ∧ ∀ q ∈ idx, ∃ t, dstAt ops q = some t ∧ (q = b ∧ t ∉ rd ops o ∨ q ≠ b ∧ dstAt ops b ≠ some t ∧ (t ∈ rd ops o → q ∈ depsOf o)) := by
    intro b hb
    have h1 := hokb b hb
    cases ho : ops[b]? with
    | none => simp [ho] at h1
    | some o =>
      simp only [ho, Bool.and_eq_true, List.all_eq_true] at h1
      obtain ⟨⟨h2, h3⟩, h4⟩ := h1
      refine ⟨o, rfl, h2, fun e he => ?_, fun q hq => ?_⟩
      · have := h3 e he
        simp only [Bool.or_eq_true, List.contains_iff_mem] at this
        exact ⟨Nat.le_of_ble_eq_true this.1, this.2⟩
      · have := h4 q hq
        cases ht : dstAt ops q with
        | none => simp [ht] at this
        | some t =>
          refine ⟨t, rfl, ?_⟩
          simp only [ht, Bool.or_eq_true, Bool.and_eq_true, Bool.not_eq_true', Nat.beq_eq_true_eq, List.contains_iff_mem] at this
          rcases this with ⟨h5, h6⟩ | ⟨⟨h5, h6⟩, h7⟩
          · exact .inl ⟨by simpa using h5, by simpa using h6⟩
          · refine .inr ⟨by intro e; subst e; simp at h5, by intro e; rw [e] at h6; simp at h6, fun hm => ?_⟩
            rcases h7 with h7 | h7
            · exact absurd hm (by simpa using h7)
            · exact h7
  have hpos : ∀ b ∈ idx, ∃ j, idx[j]? = some b := fun b hb => List.mem_iff_getElem?.1 hb
  refine ⟨fun k => ?_⟩
  induction k with
  | zero =>
    intro listed a w hp hk
    refine hall 0 listed a w hp hk fun b hb => ?_
    obtain ⟨o, ho, _⟩ := hspec b hb
    have hbs : b < ops.size := (Array.getElem?_eq_some_iff.1 ho).1
    cases hq : listed.getD b false with
    | true => rfl
    | false =>
      obtain ⟨k', h, _⟩ := unl_set hp.sz hbs (by rw [getD_tf (by rw [hp.sz]; exact hbs)]; exact hq) hk
      omega
  | succ k ih =>
    intro listed a w hp hk
    by_cases hal : ∀ b ∈ idx, listed.getD b false = true
    · exact hall _ listed a w hp hk hal
    have hex : ∃ b ∈ idx, listed.getD b false = false := by
      refine Classical.byContradiction fun hn => hal fun b hb => ?_
      cases hq : listed.getD b false with
      | true => rfl
      | false => exact absurd ⟨b, hb, hq⟩ hn
    constructor
    · intro hnil
      exfalso
      have : ∃ b ∈ idx, listed.getD b false = false ∧ ∀ c ∈ idx, c < b → listed.getD c false = true := by
        obtain ⟨b, hb⟩ := hex
        induction b using Nat.strongRecOn with
        | _ b ih2 =>
          by_cases hl : ∃ c ∈ idx, c < b ∧ listed.getD c false = false
          · obtain ⟨c, hc, hcb, hcf⟩ := hl
            exact ih2 c hcb ⟨hc, hcf⟩
          · refine ⟨b, hb.1, hb.2, fun c hc hcb => ?_⟩
            cases hq : listed.getD c false with
            | true => rfl
            | false => exact absurd ⟨c, hc, hcb, hq⟩ hl
      obtain ⟨b, hb, hbf, hmin⟩ := this
      obtain ⟨o, ho, _, hde, _⟩ := hspec b hb
      have hbs : b < ops.size := (Array.getElem?_eq_some_iff.1 ho).1
      have : b ∈ Region.ready .any ops listed := (ready_iff b).2 ⟨hbs, by rw [getD_tf (by rw [hp.sz]; exact hbs)]; exact hbf, o, ho, fun e he => by
        obtain ⟨h1, h2⟩ := hde e he
        rcases h2 with h2 | h2
        · exact hp.lo e (by omega) h2
        · exact hmin e h2 h1⟩
      rw [hnil] at this
      simp at this
    · intro b hb
      by_cases hbi : b ∈ idx
      · obtain ⟨hbs, hbf, o, ho, hed⟩ := (ready_iff b).1 hb
        obtain ⟨o', ho', hdst, hde, hrds⟩ := hspec b hbi
        rw [ho] at ho'; cases ho'
        obtain ⟨j, hj⟩ := hpos b hbi
        have hlj : lp[j]? = some o := by
          have := congrArg (·[j]?) hlp
          simp only [List.getElem?_map, hj, Option.map_some, ho] at this
          cases hq : lp[j]? with
          | none => rw [hq] at this; simp at this
          | some x => rw [hq] at this; simp at this; rw [this]
        obtain ⟨p, hpj, hd, hlt, hitm⟩ := hat j o hlj
        have hdb : dstAt ops b = some p.1 := by simp [dstAt, ho, hd]
        have hGp := hag' p (List.mem_of_getElem? hpj)
        have hpd : p.1 < a.tmps.size := by rw [hp.nt]; exact Nat.le_of_ble_eq_true hlt
        have hslot : ∀ t s, t ∈ rd ops o → look (pushAll G (items.take j)) t = some s → Rel (ZL Γ.Z L) w s (a.tmps.getD t undef) := by
          intro t s ht hl
          have hlG : look G t = some s := by
            rcases look_pushAll _ G t s hl with ⟨j', q, hq, rfl, rfl, _⟩ | ⟨_, h3⟩
            · rw [List.getElem?_take] at hq
              split at hq
              · exact hag' q (List.mem_of_getElem? hq)
              · simp at hq
            · exact h3
          refine hp.fr t s hlG fun q hq hqf hqt => ?_
          obtain ⟨t', ht', h4⟩ := hrds q hq
          rw [hqt] at ht'; cases ht'
          rcases h4 with ⟨_, h4⟩ | ⟨_, _, h4⟩
          · exact h4 ht
          · have := hed q (h4 ht); rw [hqf] at this; cases this
        have hops : ∀ x, x ∈ o.op.operands.toList → ∀ s, ev (pushAll G (items.take j)) x = some s → Rel (ZL Γ.Z L) w s (a.eval x) := by
          intro x hx s hs
          cases x with
          | tmp t => exact hslot t s (by unfold rd; exact List.mem_append_left _ (List.mem_filterMap.2 ⟨.tmp t, hx, rfl⟩)) hs
          | const v => simp only [ev, Option.some.injEq] at hs; subst hs; exact .val v
          | global g => simp only [ev, Option.some.injEq] at hs; subst hs; exact .val _
          | func f => simp only [ev, Option.some.injEq] at hs; subst hs; exact .val _
        have hls : b < listed.size := by rw [hp.sz]; exact hbs
        have next : ∀ v w', Step Γ L L w w' → Rel (ZL Γ.Z L) w' p.2 v → wpAny P .any ops Q k (listed.setIfInBounds b true) (a.put o.dst v) w' := by
          intro v w' hs hrel
          obtain ⟨k', e1, e2⟩ := unl_set hp.sz hbs hbf hk
          obtain rfl : k = k' := by omega
          refine ih _ _ _ ⟨by simpa using hp.sz, fun i hi hiS => ?_, fun i hi => ?_, hp.cl.set hls ho hed, hs.ws, ?_, ?_, fun x s hx hno => ?_⟩ e2
          · rw [getD_setB _ _ hls]; split
            · rfl
            · exact hp.lo i hi hiS
          · rw [getD_setB _ _ hls] at hi
            split at hi
            · rename_i e; subst e; exact .inr hbi
            · exact hp.hi i hi
          · rw [hd]; simpa [Act.put] using hp.nt
          · rw [hd]; exact hp.df
          · rw [hd]
            show Rel _ _ _ ((a.tmps.setIfInBounds p.1 v).getD x undef)
            rw [getD_set _ _ _ _ hpd]
            by_cases hxp : x = p.1
            · subst hxp
              rw [hGp] at hx; cases hx
              simpa using hrel
            · rw [if_neg hxp]
              refine hs.rel (hp.fr x s hx fun q hq hqf hqt => ?_)
              by_cases hqb : q = b
              · subst hqb; rw [hdb] at hqt; cases hqt; exact hxp rfl
              · exact hno q hq (by rw [getD_setB _ _ hls, if_neg hqb]; exact hqf) hqt
        unfold wpOp
        simp only [ho]
        have hgslot : ∀ {j' d : Nat} {want b' : Bool} {og : Oper}, o.guard = some (j', want) → ops[j']? = some og → og.dst = some d → look (pushAll G (items.take j)) d = some (.val (.bool b')) → a.tmps.getD d undef = .bool b' := by
          intro j' d want b' og hg hoj hdj hv
          refine (hslot d _ ?_ hv).val_eq
          unfold rd
          refine List.mem_append_right _ ?_
          simp [hg, hoj, hdj]
        have hgslotU : ∀ {j' d : Nat} {want : Bool} {og : Oper}, o.guard = some (j', want) → ops[j']? = some og → og.dst = some d → look (pushAll G (items.take j)) d = some (.val undef) → a.tmps.getD d undef = undef := by
          intro j' d want og hg hoj hdj hv
          refine (hslot d _ ?_ hv).val_eq
          unfold rd
          refine List.mem_append_right _ ?_
          simp [hg, hoj, hdj]
        cases hitm with
        | run hg hq =>
          rw [if_pos (by simp [Region.wanted, hg])]
          exact .inl (hq a w _ Q hp.ws hops next)
        | yes hg hoj hdj hv hb hq =>
          rw [if_pos (by rw [wanted_guard hg hoj hdj (hgslot hg hoj hdj hv)]; subst hb; simp)]
          exact .inl (hq a w _ Q hp.ws hops next)
        | no hg hoj hdj hv hb hsv =>
          rw [if_neg (by rw [wanted_guard hg hoj hdj (hgslot hg hoj hdj hv)]; subst hb; simp)]
          exact next undef w (Step.refl hp.ws) (by rcases hsv with h | h <;> rw [h] <;> first | exact .any _ | exact .val _)
        | skip hg hoj hdj hv hsv =>
          rw [if_neg (by rw [wanted_undef hg hoj hdj (hgslotU hg hoj hdj hv)]; simp)]
          exact next undef w (Step.refl hp.ws) (by rcases hsv with h | h <;> rw [h] <;> first | exact .any _ | exact .val _)
      · exact hother b k listed a w hp hk hb hbi
theorem JD.start (h : JP P Γ ops Q [] [] F L) : JD P Γ ops Q 0 F L := by
  refine ⟨fun a w listed hup hst => h.go _ listed a w ⟨hup.1, by simp, fun i hi => ?_, fun i o ho hS => ?_, hst.ws, hst.nt, hst.df, fun x s hx _ => hst.fr x s hx⟩ ?_⟩
  · exfalso
    by_cases his : i < ops.size
    · rw [← getD_tf (by rw [hup.1]; exact his), hup.2 i his] at hi; simp at hi
    · rw [Array.getD_eq_getD_getElem?, Array.getElem?_eq_none (by rw [hup.1]; omega)] at hi; simp at hi
  · exfalso
    have his : i < ops.size := (Array.getElem?_eq_some_iff.1 ho).1
    simp only at hS
    rw [← getD_tf (by rw [hup.1]; exact his), hup.2 i his] at hS; simp at hS
  · unfold unl
    rw [List.filter_eq_self.2]
    · simp
    · intro i hi
      rw [hup.2 i (List.mem_range.1 hi)]; simp
theorem JD.begin (n : Nat) (hn : Nat.beq ops.size n = true) (h : JP P Γ ops Q [] [] F L) : JD P Γ ops Q 0 F L := JD.start h
theorem JP.add {S idx : List Nat} {lnew : List Oper} (new : List Nat) (idx' : List Nat) (hi : idx ++ new = idx') (hc : (new.all fun b => !S.contains b && !idx.contains b) = true) (hl : new.map (ops[·]?) = lnew.map some)
    (h : SegC P Γ ops L G lnew (fun G' => JP P Γ ops Q S idx' G' L)) : JP P Γ ops Q S idx G L := by
  subst hi
  obtain ⟨items, hseg, hj⟩ := h
  obtain ⟨hlen, hat⟩ := hseg.at
  refine ⟨fun k listed a w hp hk => hj.go k listed a w ⟨hp.sz, hp.lo, fun i hi => (hp.hi i hi).imp id (fun h => List.mem_append_left _ h), hp.cl, hp.ws, hp.nt, hp.df, fun x s hx hno => ?_⟩ hk⟩
  rcases look_pushAll items G x s hx with ⟨j, q, hq, rfl, rfl, _⟩ | ⟨h2, h3⟩
  · exfalso
    have hjl : j < items.length := by
      rcases Nat.lt_or_ge j items.length with h | h
      · exact h
      · simp [List.getElem?_eq_none h] at hq
    have hjn : j < lnew.length := by omega
    obtain ⟨p, hp', hd, _⟩ := hat j _ (List.getElem?_eq_getElem hjn)
    rw [hq] at hp'; cases hp'
    have hb := congrArg (·[j]?) hl
    simp only [List.getElem?_map, List.getElem?_eq_getElem hjn, Option.map_some] at hb
    cases hnj : new[j]? with
    | none => rw [hnj] at hb; simp at hb
    | some b =>
      rw [hnj] at hb
      simp only [Option.map_some, Option.some.injEq] at hb
      have hbm := List.mem_of_getElem? hnj
      have := List.all_eq_true.1 hc b hbm
      simp only [Bool.and_eq_true, Bool.not_eq_true'] at this
      refine hno b (List.mem_append_right _ hbm) ?_ (by simp [dstAt, hb, hd])
      cases hqq : listed.getD b false with
      | false => rfl
      | true =>
        rcases hp.hi b hqq with h | h
        · simp [h] at this
        · simp [h] at this
  · exact hp.fr x s h3 fun b hb hbf => hno b (List.mem_append_left _ hb) hbf
def keep (ks : List Nat) (G : List (Nat × SV)) : List (Nat × SV) := G.filter fun p => ks.contains p.1
theorem look_keep {ks : List Nat} : ∀ {G : List (Nat × SV)} {x : Nat} {s : SV}, look (keep ks G) x = some s → x ∈ ks ∧ look G x = some s
  | [], x, s, h => by simp [keep, look] at h
  | p :: r, x, s, h => by
    unfold keep at h
    rw [List.filter_cons] at h
    by_cases hk : ks.contains p.1 = true
    · rw [if_pos hk] at h
      simp only [look] at h ⊢
      cases hb : Nat.beq p.1 x with
      | true =>
        rw [hb] at h
        have := Nat.eq_of_beq_eq_true hb
        subst this
        exact ⟨by simpa using hk, h⟩
      | false => rw [hb] at h; exact look_keep h
    · rw [if_neg hk] at h
      obtain ⟨h1, h2⟩ := look_keep (G := r) h
      refine ⟨h1, ?_⟩
      simp only [look]
      cases hb : Nat.beq p.1 x with
      | true =>
        have := Nat.eq_of_beq_eq_true hb
        subst this
        exact absurd (by simpa using h1) hk
      | false => exact h2
theorem JP.op {S idx : List Nat} {lp : List Oper} {o : Oper} {R : SV → List Own → Prop} (i : Nat) (ks S' idx' : List Nat) (hc : (okIdx ops S idx && okStep ops S idx i ks S' idx') = true) (hlp : idx.map (ops[·]?) = lp.map some) (hoi : ops[i]? = some o)
    (hre : SegC P Γ ops L G lp (Ag G lp.length)) (hop : OpS P Γ o (keep ks G) L R) (hlt : ∀ d, o.dst = some d → Nat.blt d Γ.nt = true)
    (h : ∀ sv L', R sv L' → JP P Γ ops Q S' idx' (match o.dst with | some d => (d, sv) :: G | none => G) L') : JP P Γ ops Q S idx G L := by
  rw [Bool.and_eq_true] at hc
  obtain ⟨hok, hst⟩ := hc
  unfold okStep at hst
  simp only [hoi, Bool.and_eq_true, Bool.not_eq_true', List.all_eq_true] at hst
  obtain ⟨⟨⟨⟨⟨⟨⟨⟨⟨⟨hiS, hii⟩, hg⟩, hdi⟩, honly⟩, hks⟩, hidx⟩, hforce⟩, hSS⟩, hiS'⟩, hS'⟩ := hst
  have his : i < ops.size := (Array.getElem?_eq_some_iff.1 hoi).1
  have hgn : o.guard = none := by simpa using hg
  have turn : ∀ k listed a w, PSt Γ ops S idx G L listed a w → unl ops listed = k + 1 → i ∈ Region.ready .any ops listed → wpOp P ops Q i (wpAny P .any ops Q k (listed.setIfInBounds i true)) a w := by
    intro k listed a w hp hk hir
    obtain ⟨_, hif, o', ho', hed⟩ := (ready_iff i).1 hir
    rw [hoi] at ho'; cases ho'
    have hls : i < listed.size := by rw [hp.sz]; exact his
    obtain ⟨k', e1, e2⟩ := unl_set hp.sz his hif hk
    obtain rfl : k = k' := by omega
    have hforced : ∀ c ∈ idx, c ∉ idx' → listed.getD c false = true := by
      intro c hc hn
      have := hforce c hc
      simp only [Bool.or_eq_true, Bool.and_eq_true, List.contains_iff_mem] at this
      rcases this with h1 | ⟨_, h1⟩
      · exact absurd h1 hn
      · exact before_done hp.cl i (fun o' ho' e he hb => by
          rw [hoi] at ho'; cases ho'
          exact hed e.on (List.mem_map.2 ⟨e, List.mem_filter.2 ⟨Array.mem_toList_iff.2 he, hb⟩, rfl⟩)) c h1
    have hidx' : ∀ b ∈ idx', b ∈ idx ∧ ∃ t ob, dstAt ops b = some t ∧ ops[b]? = some ob ∧ t ∉ ks ∧ o.dst ≠ some t ∧ ∀ d, o.dst = some d → d ∉ rd ops ob := by
      intro b hb
      have := hidx b hb
      rw [List.contains_iff_mem] at this
      obtain ⟨⟨h1, h2⟩, h3⟩ := this
      cases ht : dstAt ops b with
      | none => simp [ht] at h2
      | some t =>
        cases hob : ops[b]? with
        | none => simp [hob] at h3
        | some ob =>
          simp only [ht, hob, Bool.and_eq_true, Bool.not_eq_true'] at h2 h3
          refine ⟨h1, t, ob, rfl, rfl, by simpa using h2.1, fun e => by rw [e] at h2; simp at h2, fun d hd => by rw [hd] at h3; simpa using h3⟩
    have hstK : St Γ (keep ks G) L a w := by
      refine ⟨hp.ws, hp.nt, hp.df, fun x s hx => ?_⟩
      obtain ⟨h1, h2⟩ := look_keep hx
      refine hp.fr x s h2 fun b hb hbf hbx => ?_
      by_cases hbi : b ∈ idx'
      · obtain ⟨_, t, _, ht, _, h3, _⟩ := hidx' b hbi
        rw [hbx] at ht; cases ht
        exact h3 h1
      · rw [hforced b hb hbi] at hbf; cases hbf
    unfold wpOp
    simp only [hoi]
    rw [if_pos (by simp [Region.wanted, hgn])]
    refine .inl (hop a w _ Q hstK fun v w' sv L' hR hs hrel => ?_)
    refine (h sv L' hR).go k _ _ _ ⟨by simpa using hp.sz, fun j hj hjS => ?_, fun j hj => ?_, hp.cl.set hls hoi hed, hs.ws, ?_, ?_, fun x s hx hno => ?_⟩ e2
    · rw [getD_setB _ _ hls]
      split
      · rfl
      · have := hS' j (by simpa using hjS)
        simp only [Bool.or_eq_true, Bool.and_eq_true, List.contains_iff_mem, Nat.beq_eq_true_eq, Bool.not_eq_true'] at this
        rcases this with (h1 | h1) | h1
        · exact hp.lo j hj h1
        · rename_i hne; exact absurd (by simpa using h1) hne
        · exact hforced j h1.1 (by have := h1.2; simpa using this)
    · rw [getD_setB _ _ hls] at hj
      split at hj
      · rename_i e; subst e; exact .inl (by simpa using hiS')
      · rcases hp.hi j hj with h1 | h1
        · have := hSS j h1; exact .inl (by simpa using this)
        · by_cases hji : j ∈ idx'
          · exact .inr hji
          · have := hforce j h1
            simp only [Bool.or_eq_true, Bool.and_eq_true, List.contains_iff_mem] at this
            rcases this with h2 | h2
            · exact absurd h2 hji
            · exact .inl h2.1
    · cases hd : o.dst with
      | none => exact hp.nt
      | some d => simpa [Act.put] using hp.nt
    · cases hd : o.dst with
      | none => exact hp.df
      | some d => exact hp.df
    · have hold : ∀ x s, look G x = some s → o.dst ≠ some x → (∀ b ∈ idx', (listed.setIfInBounds i true).getD b false = false → dstAt ops b ≠ some x) → Rel (ZL Γ.Z L') w' s (a.tmps.getD x undef) := by
        intro x s hx hne hno
        refine hs.rel (hp.fr x s hx fun b hb hbf hbx => ?_)
        by_cases hbi : b ∈ idx'
        · refine hno b hbi ?_ hbx
          rw [getD_setB _ _ hls]
          split
          · rename_i e; subst e; simp [hb] at hii
          · exact hbf
        · rw [hforced b hb hbi] at hbf; cases hbf
      cases hd : o.dst with
      | none =>
        rw [hd] at hx
        exact hold x s hx (by simp [hd]) hno
      | some d =>
        rw [hd] at hx
        have hpd : d < a.tmps.size := by rw [hp.nt]; exact Nat.le_of_ble_eq_true (hlt d hd)
        show Rel _ _ _ ((a.tmps.setIfInBounds d v).getD x undef)
        rw [getD_set _ _ _ _ hpd]
        simp only [look] at hx
        cases hb : Nat.beq d x with
        | true =>
          rw [hb] at hx
          simp only [cond_true, Option.some.injEq] at hx
          subst hx
          have := Nat.eq_of_beq_eq_true hb
          subst this
          simpa using hrel
        | false =>
          rw [hb] at hx
          have hne : ¬ x = d := fun e => by subst e; simp at hb
          rw [if_neg hne]
          exact hold x s hx (by rw [hd]; intro e; cases e; exact hne rfl) hno
  refine jp_run hok hlp hre (fun j k listed a w hp hk hj hji => ?_) (fun k listed a w hp hk hal => ?_)
  · obtain ⟨hjs, hjf, oj, hoj, hed⟩ := (ready_iff j).1 hj
    have hjS : j ∉ S := fun hm => by
      have := hp.lo j hjs hm
      rw [← getD_tf (by rw [hp.sz]; exact hjs), hjf] at this; cases this
    by_cases hji' : j = i
    · subst hji'; exact turn k listed a w hp hk hj
    · exfalso
      have := honly j (List.mem_range.2 hjs)
      simp only [Bool.or_eq_true, List.contains_iff_mem, Nat.beq_eq_true_eq, hoj] at this
      rcases this with ((h1 | h1) | h1) | h1
      · exact hjS h1
      · exact hji h1
      · exact hji' (by simpa using h1)
      · obtain ⟨e, he, h2⟩ := List.any_eq_true.1 h1
        simp only [Bool.and_eq_true, Bool.not_eq_true'] at h2
        rcases hp.hi e (hed e he) with h3 | h3
        · simp [h3] at h2
        · simp [h3] at h2
  · have hiF : listed.getD i false = false := by
      cases hq : listed.getD i false with
      | false => rfl
      | true =>
        rcases hp.hi i hq with h1 | h1
        · simp [h1] at hiS
        · simp [h1] at hii
    have hir : i ∈ Region.ready .any ops listed := (ready_iff i).2 ⟨his, by rw [getD_tf (by rw [hp.sz]; exact his)]; exact hiF, o, hoi, fun e he => by
      have := hdi e he
      simp only [Bool.and_eq_true, Bool.or_eq_true, List.contains_iff_mem] at this
      rcases this.2 with h1 | h1
      · exact hp.lo e (Nat.le_of_ble_eq_true this.1) h1
      · exact hal e h1⟩
    obtain ⟨k', e1, _⟩ := unl_set hp.sz his (by rw [getD_tf (by rw [hp.sz]; exact his)]; exact hiF) hk
    subst e1
    refine ⟨fun hnil => by rw [hnil] at hir; simp at hir, fun j hj => ?_⟩
    obtain ⟨hjs, hjf, oj, hoj, hed⟩ := (ready_iff j).1 hj
    have hjS : j ∉ S := fun hm => by
      have := hp.lo j hjs hm
      rw [← getD_tf (by rw [hp.sz]; exact hjs), hjf] at this; cases this
    have hji : j ∉ idx := fun hm => by
      have := hal j hm
      rw [← getD_tf (by rw [hp.sz]; exact hjs), hjf] at this; cases this
    by_cases hji' : j = i
    · subst hji'; exact turn _ listed a w hp hk hj
    · exfalso
      have := honly j (List.mem_range.2 hjs)
      simp only [Bool.or_eq_true, List.contains_iff_mem, Nat.beq_eq_true_eq, hoj] at this
      rcases this with ((h1 | h1) | h1) | h1
      · exact hjS h1
      · exact hji h1
      · exact hji' (by simpa using h1)
      · obtain ⟨e, he, h2⟩ := List.any_eq_true.1 h1
        simp only [Bool.and_eq_true, Bool.not_eq_true'] at h2
        rcases hp.hi e (hed e he) with h3 | h3
        · simp [h3] at h2
        · simp [h3] at h2
def okClose (ops : Array Oper) (S idx : List Nat) (n : Nat) : Bool :=
  Nat.ble n ops.size && ((List.range n).all fun i => S.contains i || idx.contains i) && (S.all fun i => Nat.blt i n) && (idx.all fun i => Nat.blt i n) &&
  ((List.range' n (ops.size - n)).all fun j => idx.all fun b => ((Region.before ops).getD j 0).testBit b)
theorem JP.close {S idx : List Nat} {lp : List Oper} (n : Nat) (hc : (okIdx ops S idx && okClose ops S idx n) = true) (hlp : idx.map (ops[·]?) = lp.map some) (hre : SegC P Γ ops L G lp (Ag G lp.length)) (h : JD P Γ ops Q n G L) : JP P Γ ops Q S idx G L := by
  rw [Bool.and_eq_true] at hc
  obtain ⟨hok, hcl⟩ := hc
  unfold okClose at hcl
  simp only [Bool.and_eq_true, List.all_eq_true] at hcl
  obtain ⟨⟨⟨⟨h1, h2⟩, h3⟩, h4⟩, h5⟩ := hcl
  have hn := Nat.le_of_ble_eq_true h1
  have fin : ∀ k listed a w, PSt Γ ops S idx G L listed a w → unl ops listed = k → (∀ b ∈ idx, listed.getD b false = true) → wpAny P .any ops Q k listed a w := by
    intro k listed a w hp hk hal
    have hup : Up ops n listed := by
      refine ⟨hp.sz, fun i hi => ?_⟩
      rw [getD_tf (by rw [hp.sz]; exact hi)]
      by_cases hin : i < n
      · have := h2 i (List.mem_range.2 hin)
        simp only [Bool.or_eq_true, List.contains_iff_mem] at this
        rw [decide_eq_true hin]
        rcases this with h | h
        · exact hp.lo i hi h
        · exact hal i h
      · rw [decide_eq_false hin]
        cases hq : listed.getD i false with
        | false => rfl
        | true =>
          exfalso
          rcases hp.hi i hq with h | h
          · exact hin (Nat.le_of_ble_eq_true (h3 i h))
          · exact hin (Nat.le_of_ble_eq_true (h4 i h))
    have hk' : k = ops.size - n := by
      rw [← hk]
      unfold unl
      have : ((List.range ops.size).filter fun i => !listed.getD i true) = (List.range ops.size).filter fun i => decide (n ≤ i) := by
        refine List.filter_congr fun i hi => ?_
        rw [hup.2 i (List.mem_range.1 hi)]
        by_cases h : i < n <;> simp [h] <;> omega
      rw [this]
      have h6 : List.range ops.size = List.range n ++ List.range' n (ops.size - n) := by
        rw [List.range_eq_range', List.range_eq_range']
        have := List.range'_append_1 (s := 0) (m := n) (n := ops.size - n)
        rw [Nat.zero_add] at this
        rw [this]; congr 1; omega
      rw [h6, List.filter_append, List.filter_eq_nil_iff.2, List.filter_eq_self.2]
      · simp
      · intro i hi; rw [List.mem_range'_1] at hi; simp; omega
      · intro i hi; have := List.mem_range.1 hi; simp; omega
    rw [hk']
    exact h.go a w listed hup ⟨hp.ws, hp.nt, hp.df, fun x s hx => hp.fr x s hx fun b hb hbf _ => by rw [hal b hb] at hbf; cases hbf⟩
  refine jp_run hok hlp hre (fun j k listed a w hp hk hj hji => ?_) fin
  obtain ⟨hjs, hjf, oj, hoj, hed⟩ := (ready_iff j).1 hj
  have hjn : n ≤ j := by
    apply Nat.le_of_not_lt
    intro hlt
    have := h2 j (List.mem_range.2 hlt)
    simp only [Bool.or_eq_true, List.contains_iff_mem] at this
    rcases this with h | h
    · have := hp.lo j hjs h
      rw [← getD_tf (by rw [hp.sz]; exact hjs), hjf] at this; cases this
    · exact hji h
  have hallidx : ∀ b ∈ idx, listed.getD b false = true := fun b hb => by
    have := h5 j (by rw [List.mem_range'_1]; omega) b hb
    exact before_done hp.cl j (fun o' ho' e he hb => by
      rw [hoj] at ho'; cases ho'
      exact hed e.on (List.mem_map.2 ⟨e, List.mem_filter.2 ⟨Array.mem_toList_iff.2 he, hb⟩, rfl⟩)) b this
  exact (fin (k + 1) listed a w hp hk hallidx).2 j hj
def opsAt (l : List Oper) : List Nat → List Oper
  | [] => []
  | i :: r => match l[i]? with
    | some o => o :: opsAt l r
    | none => opsAt l r
theorem opsAt_map {l : List Oper} : ∀ {idx : List Nat}, (idx.all fun b => (l[b]?).isSome) = true → idx.map (l.toArray[·]?) = (opsAt l idx).map some ∧ (opsAt l idx).length = idx.length
  | [], _ => ⟨rfl, rfl⟩
  | i :: r, h => by
    simp only [List.all_cons, Bool.and_eq_true] at h
    obtain ⟨h1, h2⟩ := opsAt_map h.2
    cases ho : l[i]? with
    | none => rw [ho] at h; simp at h
    | some o =>
      simp only [List.getElem?_toArray] at h1 ⊢
      exact ⟨by simp only [opsAt, ho, List.map_cons, h1], by simp only [opsAt, ho, List.length_cons, h2]⟩
theorem okIdx_some {l : List Oper} {S idx : List Nat} (h : okIdx l.toArray S idx = true) : (idx.all fun b => (l[b]?).isSome) = true := by
  refine List.all_eq_true.2 fun b hb => ?_
  have := List.all_eq_true.1 h b hb
  cases ho : l[b]? with
  | none => simp [ho] at this
  | some o => rfl
variable {l : List Oper} {S idx : List Nat}
theorem JP.more (new : List Nat) (idx' : List Nat) (hi : idx ++ new = idx') (hc : (new.all fun b => !S.contains b && !idx.contains b && (l[b]?).isSome) = true) (h : SegC P Γ l.toArray L G (opsAt l new) (fun G' => JP P Γ l.toArray Q S idx' G' L)) : JP P Γ l.toArray Q S idx G L := by
  have hc' := List.all_eq_true.1 hc
  refine JP.add new idx' hi (List.all_eq_true.2 fun b hb => ?_) (opsAt_map (List.all_eq_true.2 fun b hb => ?_)).1 h
  · have := hc' b hb; rw [Bool.and_eq_true] at this; exact this.1
  · have := hc' b hb; rw [Bool.and_eq_true] at this; exact this.2
theorem JP.do1 {d : Nat} {op : Op} {ty : TypeId} {pos : String} {aft : Array Edge} {g : Option (Nat × Bool)} {R : SV → List Own → Prop} (i : Nat) (ks S' idx' : List Nat) (hc : (okIdx l.toArray S idx && okStep l.toArray S idx i ks S' idx') = true) (hoi : l[i]? = some ⟨some d, op, ty, pos, aft, g⟩)
    (hre : SegC P Γ l.toArray L G (opsAt l idx) (Ag G idx.length)) (hop : OpS P Γ ⟨some d, op, ty, pos, aft, g⟩ (keep ks G) L R) (hlt : Nat.blt d Γ.nt = true)
    (h : ∀ sv L', R sv L' → JP P Γ l.toArray Q S' idx' ((d, sv) :: G) L') : JP P Γ l.toArray Q S idx G L := by
  obtain ⟨h1, h2⟩ := opsAt_map (okIdx_some (Bool.and_eq_true_iff.1 hc).1)
  exact JP.op i ks S' idx' hc h1 (by simpa using hoi) (by rw [h2]; exact hre) hop (fun d' hd => by cases hd; exact hlt) h
theorem JP.do0 {op : Op} {ty : TypeId} {pos : String} {aft : Array Edge} {g : Option (Nat × Bool)} {R : SV → List Own → Prop} (i : Nat) (ks S' idx' : List Nat) (hc : (okIdx l.toArray S idx && okStep l.toArray S idx i ks S' idx') = true) (hoi : l[i]? = some ⟨none, op, ty, pos, aft, g⟩)
    (hre : SegC P Γ l.toArray L G (opsAt l idx) (Ag G idx.length)) (hop : OpS P Γ ⟨none, op, ty, pos, aft, g⟩ (keep ks G) L R)
    (h : ∀ sv L', R sv L' → JP P Γ l.toArray Q S' idx' G L') : JP P Γ l.toArray Q S idx G L := by
  obtain ⟨h1, h2⟩ := opsAt_map (okIdx_some (Bool.and_eq_true_iff.1 hc).1)
  exact JP.op i ks S' idx' hc h1 (by simpa using hoi) (by rw [h2]; exact hre) hop (fun d' hd => by cases hd) h
theorem JP.store {ty : TypeId} {pos : String} {aft : Array Edge} {g : Option (Nat × Bool)} {T b o : Nat} [hT : TSc P T] {x y : Operand} (i : Nat) (ks S' idx' : List Nat) (hc : (okIdx l.toArray S idx && okStep l.toArray S idx i ks S' idx') = true) (hoi : l[i]? = some ⟨none, .store T x y, ty, pos, aft, g⟩)
    (hre : SegC P Γ l.toArray L G (opsAt l idx) (Ag G idx.length)) (hx : ev (keep ks G) x = some (.val (.pointer (some ⟨b, o, none⟩)))) {s : SV} (hy : ev (keep ks G) y = some s) (h1 : One s) (j : Nat) {T' : TypeId} {cs cs' : List SV} {L' : List Own}
    (hj : L[j]? = some (.obj b T' cs)) (ho : Nat.blt o cs.length = true) (hcs : cs.set o s = cs') (hL : L.set j (.obj b T' cs') = L') (k : JP P Γ l.toArray Q S' idx' G L') : JP P Γ l.toArray Q S idx G L :=
  JP.do0 i ks S' idx' hc hoi hre (OpS.store hx hy h1 j hj (Nat.le_of_ble_eq_true ho)) (by rintro sv L'' rfl; rw [hcs, hL]; exact k)
theorem JP.storeAll {ty : TypeId} {pos : String} {aft : Array Edge} {g : Option (Nat × Bool)} {T b n : Nat} [hT : TAg P T n] {x y : Operand} (i : Nat) (ks S' idx' : List Nat) (hc : (okIdx l.toArray S idx && okStep l.toArray S idx i ks S' idx') = true) (hoi : l[i]? = some ⟨none, .store T x y, ty, pos, aft, g⟩)
    (hre : SegC P Γ l.toArray L G (opsAt l idx) (Ag G idx.length)) (hx : ev (keep ks G) x = some (.val (.pointer (some ⟨b, 0, none⟩)))) {ds : List SV} (hy : ev (keep ks G) y = some (.agg ds)) (hn' : Nat.beq ds.length n = true) (j : Nat) {T' : TypeId} {cs : List SV} {L' : List Own}
    (hj : L[j]? = some (.obj b T' cs)) (hcs : Nat.beq cs.length n = true) (hL : L.set j (.obj b T' ds) = L') (k : JP P Γ l.toArray Q S' idx' G L') : JP P Γ l.toArray Q S idx G L := by
  have hn := Nat.eq_of_beq_eq_true hn'
  have hcn := Nat.eq_of_beq_eq_true hcs
  refine JP.do0 i ks S' idx' hc hoi hre (OpS.storeAg hx hy hn j hj (by omega)) (by
    rintro sv L'' rfl
    have : cs.take 0 ++ ds ++ cs.drop (0 + ds.length) = ds := by
      rw [List.take_zero, List.nil_append, Nat.zero_add, List.drop_eq_nil_of_le (by omega), List.append_nil]
    rw [this, hL]; exact k)
theorem JP.tail {l' : List Oper} (n : Nat) (hc : (okIdx l.toArray S idx && okClose l.toArray S idx n) = true) (hc2 : chkTail l.toArray n = true) (hle : Nat.ble n l.length = true) (hl : l.drop n = l')
    (hre : SegC P Γ l.toArray L G (opsAt l idx) (Ag G idx.length)) (h : J P Γ l.toArray Q G L l') : JP P Γ l.toArray Q S idx G L := by
  obtain ⟨h1, h2⟩ := opsAt_map (okIdx_some (Bool.and_eq_true_iff.1 hc).1)
  exact JP.close n hc h1 (by rw [h2]; exact hre) (JD.tail hc2 (by simpa using hle) (by simpa using hl) h)
theorem JP.freeze (i : Nat) {v : Value} {E sz n : Nat} {el : Nat → List SV} (hi : look G i = some (.val v)) (hfr : (idx.all fun b => !(dstAt l.toArray b == some i)) = true) (hmax : n ≤ maxLen) (h : JP P Γ l.toArray Q S idx ((i, .sl sz n el) :: G) L) : JP P Γ l.toArray Q S idx G (.row v E sz n el :: L) := by
  refine ⟨fun k listed a w hp hk => ?_⟩
  have hst : St Γ [(i, .val v)] (.row v E sz n el :: L) a w := by
    refine ⟨hp.ws, hp.nt, hp.df, fun x s hx => ?_⟩
    simp only [look] at hx
    cases hb : Nat.beq i x with
    | false => rw [hb] at hx; simp at hx
    | true =>
      rw [hb] at hx
      simp only [cond_true, Option.some.injEq] at hx
      subst hx
      obtain rfl := Nat.eq_of_beq_eq_true hb
      refine hp.fr i _ hi fun b hb _ he => ?_
      have := List.all_eq_true.1 hfr b hb
      rw [he] at this; simp at this
  have hst' := St.freeze (i := i) hst (by simp [look]) hmax
  have hd : Step Γ (.row v E sz n el :: L) L w w := Step.drop hp.ws (List.sublist_cons_self _ _)
  refine h.go k listed a w ⟨hp.sz, hp.lo, hp.hi, hp.cl, hd.ws, hp.nt, hp.df, fun x s hx hno => ?_⟩ hk
  simp only [look] at hx
  cases hb : Nat.beq i x with
  | false =>
    rw [hb] at hx
    exact hd.rel (hp.fr x s hx hno)
  | true =>
    rw [hb] at hx
    obtain rfl := Nat.eq_of_beq_eq_true hb
    exact hst'.fr i s (by simp only [look, hb]; exact hx)
end
end Go.Sse
namespace Go.Sse
open Go Go.Sse
set_option linter.unusedVariables false
set_option linter.unusedSimpArgs false
section
variable {P : Program} {Γ : Ctx} {ops : Array Oper} {Q : Exit → Act → World → Prop} {F : List (Nat × SV)} {L : List Own} {rest : List Oper}
variable {dst : Option Tmp} {ty : TypeId} {pos : String} {aft : Array Edge} {g : Option (Nat × Bool)}
theorem Pv.loadG [Gl P] [Globs P Γ] {T b o : Nat} [h : TSc P T] {x : Operand} (hx : ev F x = some (.val (.pointer (some ⟨b, o, none⟩)))) (i : Nat) {vs : List Value} {v : Value} (hi : (Gl.gl P)[i]? = some (b, vs)) (hv : vs[o]? = some v) :
    Pv P Γ F L ⟨dst, .load T x, ty, pos, aft, g⟩ (.val v) := fun ρ w hst => by
  obtain ⟨_, _, h3⟩ := Globs.at (P := P) hst.ws (List.mem_of_getElem? hi)
  refine ⟨v, ?_, .val _⟩
  have := run_loadVar_sc h w ⟨b, o, none⟩ v (h3 o v hv)
  simp [execOp, hst.evv (x := x) (by simp [Op.operands]) hx, Instr.loadAt, Instr.sureAddr, this]
theorem Cx.loadG [Gl P] [Globs P Γ] {T b o : Nat} [h : TSc P T] {x : Operand} (hx : ev F x = some (.val (.pointer (some ⟨b, o, none⟩)))) (i : Nat) {vs : List Value} {v : Value} (hi : (Gl.gl P)[i]? = some (b, vs)) (hv : vs[o]? = some v) {d0 : Nat} {K : List (Nat × SV) → Prop} (hlt : Nat.blt d0 Γ.nt = true) (hr : SegC P Γ ops L ((d0, (.val v)) :: F) rest K) : SegC P Γ ops L F (⟨some d0, .load T x, ty, pos, aft, none⟩ :: rest) K :=
  SegC.q (Qs.pv (by apply Pv.loadG <;> assumption)) hlt hr
abbrev u32 (x : BitVec 32) : SV := .val (.int .u32 (x.toNat : Int))
abbrev u64 (n : Nat) : SV := .val (.int .u64 (n : Int))
theorem wrap_u32 (n : Nat) : IntKind.u32.wrap (n : Int) = ((BitVec.ofNat 32 n).toNat : Int) := by
  simp only [IntKind.wrap, IntKind.bits, IntKind.signed, Bool.false_and, Bool.false_eq_true, if_false, BitVec.toNat_ofNat]
  norm_cast
theorem wrap_u8 (n : Nat) : IntKind.u8.wrap (n : Int) = ((UInt8.ofNat n).toNat : Int) := by
  simp only [IntKind.wrap, IntKind.bits, IntKind.signed, Bool.false_and, Bool.false_eq_true, if_false, UInt8.toNat_ofNat']
  norm_cast
theorem wrap_u64 {n : Nat} (h : n < 18446744073709551616) : IntKind.u64.wrap (n : Int) = n := by
  simp only [IntKind.wrap, IntKind.bits, IntKind.signed, Bool.false_and, Bool.false_eq_true, if_false]
  norm_cast
  exact Nat.mod_eq_of_lt h
theorem ofNat_toNat32 (a : BitVec 32) : BitVec.ofNat 32 a.toNat = a := by simp
theorem ofInt_u32 (a : BitVec 32) : BitVec.ofInt 32 (a.toNat : Int) = a := by simp
section
variable {t t2 : TypeId} {x y : Operand} {a b : BitVec 32} (hx : ev F x = some (u32 a))
include hx
theorem Pv.notU : Pv P Γ F L ⟨dst, .unOp .xor t x, ty, pos, aft, g⟩ (u32 (~~~a)) :=
  fun ρ w hst => ⟨_, by
    have h1 : (Op.unary .xor (.int .u32 (a.toNat : Int))).run P w = .ok (.int .u32 ((~~~a).toNat : Int)) w := by
      simp only [Op.unary, IntKind.signed, Bool.false_eq_true, if_false, Op.intBits, IntKind.bits, ofInt_u32, wrap_u32, Sem.run_pure, ofNat_toNat32]
      rw [show BitVec.ofInt 32 IntKind.u32.max = BitVec.allOnes 32 by decide]
      show Result.ok (Value.int .u32 ((BitVec.allOnes 32 ^^^ a).toNat : Int)) w = _
      rw [BitVec.allOnes_xor]
    simp [execOp, hst.evv (by simp [Op.operands]) hx, h1], .val _⟩
theorem Cx.notU  {d0 : Nat} {K : List (Nat × SV) → Prop} (hlt : Nat.blt d0 Γ.nt = true) (hr : SegC P Γ ops L ((d0, (u32 (~~~a))) :: F) rest K) : SegC P Γ ops L F (⟨some d0, .unOp .xor t x, ty, pos, aft, none⟩ :: rest) K :=
  SegC.q (Qs.pv (by apply Pv.notU <;> assumption)) hlt hr
theorem Pv.shrU {k : IntKind} {n : Nat} (hy : ev F y = some (.val (.int k (n : Int)))) (hn : n ≤ 32) : Pv P Γ F L ⟨dst, .binOp .shr t x y t2, ty, pos, aft, g⟩ (u32 (a >>> n)) := by
  have := Pv.shr (P := P) (Γ := Γ) (L := L) (dst := dst) (ty := ty) (pos := pos) (aft := aft) (g := g) (t := t) (t2 := t2) hx hy (Int.natCast_nonneg n)
  have e : (a.toNat : Int).fdiv (2 ^ Min.min (n : Int).toNat IntKind.u32.bits) = ((a >>> n).toNat : Int) := by
    rw [Int.fdiv_eq_ediv_of_nonneg _ (by exact_mod_cast Nat.zero_le _)]
    simp only [IntKind.bits, Int.toNat_natCast, Nat.min_eq_left hn, BitVec.toNat_ushiftRight, Nat.shiftRight_eq_div_pow]
    norm_cast
  rwa [e] at this
theorem Cx.shrU {k : IntKind} {n : Nat} (hy : ev F y = some (.val (.int k (n : Int)))) (hn : n ≤ 32) {d0 : Nat} {K : List (Nat × SV) → Prop} (hlt : Nat.blt d0 Γ.nt = true) (hr : SegC P Γ ops L ((d0, (u32 (a >>> n))) :: F) rest K) : SegC P Γ ops L F (⟨some d0, .binOp .shr t x y t2, ty, pos, aft, none⟩ :: rest) K :=
  SegC.q (Qs.pv (by apply Pv.shrU <;> assumption)) hlt hr
theorem Jx.shrU {k : IntKind} {n : Nat} (hy : ev F y = some (.val (.int k (n : Int)))) (hn : n ≤ 32) {d0 : Nat} (hlt : Nat.blt d0 Γ.nt = true) (k : J P Γ ops Q ((d0, (u32 (a >>> n))) :: F) L rest) : J P Γ ops Q F L (⟨some d0, .binOp .shr t x y t2, ty, pos, aft, none⟩ :: rest) :=
  J.pv (by apply Pv.shrU <;> assumption) hlt k
theorem Pv.shlU {k : IntKind} {n : Nat} (hy : ev F y = some (.val (.int k (n : Int)))) (hn : n ≤ 32) : Pv P Γ F L ⟨dst, .binOp .shl t x y t2, ty, pos, aft, g⟩ (u32 (a <<< n)) := by
  have := Pv.shl (P := P) (Γ := Γ) (L := L) (dst := dst) (ty := ty) (pos := pos) (aft := aft) (g := g) (t := t) (t2 := t2) hx hy (Int.natCast_nonneg n)
  have e : IntKind.u32.wrap ((a.toNat : Int) * 2 ^ Min.min (n : Int).toNat IntKind.u32.bits) = ((a <<< n).toNat : Int) := by
    simp only [IntKind.bits, Int.toNat_natCast, Nat.min_eq_left hn]
    have : (a.toNat : Int) * 2 ^ n = ((a.toNat * 2 ^ n : Nat) : Int) := by push_cast; rfl
    rw [this, wrap_u32]
    simp [BitVec.toNat_shiftLeft, Nat.shiftLeft_eq]
  rwa [e] at this
theorem Cx.shlU {k : IntKind} {n : Nat} (hy : ev F y = some (.val (.int k (n : Int)))) (hn : n ≤ 32) {d0 : Nat} {K : List (Nat × SV) → Prop} (hlt : Nat.blt d0 Γ.nt = true) (hr : SegC P Γ ops L ((d0, (u32 (a <<< n))) :: F) rest K) : SegC P Γ ops L F (⟨some d0, .binOp .shl t x y t2, ty, pos, aft, none⟩ :: rest) K :=
  SegC.q (Qs.pv (by apply Pv.shlU <;> assumption)) hlt hr
theorem Jx.shlU {k : IntKind} {n : Nat} (hy : ev F y = some (.val (.int k (n : Int)))) (hn : n ≤ 32) {d0 : Nat} (hlt : Nat.blt d0 Γ.nt = true) (k : J P Γ ops Q ((d0, (u32 (a <<< n))) :: F) L rest) : J P Γ ops Q F L (⟨some d0, .binOp .shl t x y t2, ty, pos, aft, none⟩ :: rest) :=
  J.pv (by apply Pv.shlU <;> assumption) hlt k
theorem Pv.convByte {src d : Nat} [h : TInt P d .u8] (hs : (P.underlying src).isSome = true) : Pv P Γ F L ⟨dst, .convert src d x, ty, pos, aft, g⟩ (byte (UInt8.ofNat a.toNat)) := by
  have := Pv.convI (P := P) (Γ := Γ) (L := L) (dst := dst) (ty := ty) (pos := pos) (aft := aft) (g := g) (d := d) hs hx
  rwa [wrap_u8] at this
theorem Cx.convByte {src d : Nat} [h : TInt P d .u8] (hs : (P.underlying src).isSome = true) {d0 : Nat} {K : List (Nat × SV) → Prop} (hlt : Nat.blt d0 Γ.nt = true) (hr : SegC P Γ ops L ((d0, (byte (UInt8.ofNat a.toNat))) :: F) rest K) : SegC P Γ ops L F (⟨some d0, .convert src d x, ty, pos, aft, none⟩ :: rest) K :=
  SegC.q (Qs.pv (by apply Pv.convByte <;> assumption)) hlt hr
theorem Jx.convByte {src d : Nat} [h : TInt P d .u8] (hs : (P.underlying src).isSome = true) {d0 : Nat} (hlt : Nat.blt d0 Γ.nt = true) (k : J P Γ ops Q ((d0, (byte (UInt8.ofNat a.toNat))) :: F) L rest) : J P Γ ops Q F L (⟨some d0, .convert src d x, ty, pos, aft, none⟩ :: rest) :=
  J.pv (by apply Pv.convByte <;> assumption) hlt k
variable (hy : ev F y = some (u32 b))
include hy
theorem Pv.addU : Pv P Γ F L ⟨dst, .binOp .add t x y t2, ty, pos, aft, g⟩ (u32 (a + b)) := by
  have := Pv.add (P := P) (Γ := Γ) (L := L) (dst := dst) (ty := ty) (pos := pos) (aft := aft) (g := g) (t := t) (t2 := t2) hx hy
  have e : IntKind.u32.wrap ((a.toNat : Int) + b.toNat) = ((a + b).toNat : Int) := by
    rw [show ((a.toNat : Int) + b.toNat) = ((a.toNat + b.toNat : Nat) : Int) by push_cast; rfl, wrap_u32]
    simp [BitVec.toNat_add]
  rwa [e] at this
theorem Cx.addU  {d0 : Nat} {K : List (Nat × SV) → Prop} (hlt : Nat.blt d0 Γ.nt = true) (hr : SegC P Γ ops L ((d0, (u32 (a + b))) :: F) rest K) : SegC P Γ ops L F (⟨some d0, .binOp .add t x y t2, ty, pos, aft, none⟩ :: rest) K :=
  SegC.q (Qs.pv (by apply Pv.addU <;> assumption)) hlt hr
theorem Jx.addU  {d0 : Nat} (hlt : Nat.blt d0 Γ.nt = true) (k : J P Γ ops Q ((d0, (u32 (a + b))) :: F) L rest) : J P Γ ops Q F L (⟨some d0, .binOp .add t x y t2, ty, pos, aft, none⟩ :: rest) :=
  J.pv (by apply Pv.addU <;> assumption) hlt k
theorem Pv.xorU : Pv P Γ F L ⟨dst, .binOp .xor t x y t2, ty, pos, aft, g⟩ (u32 (a ^^^ b)) := by
  have := Pv.bxor (P := P) (Γ := Γ) (L := L) (dst := dst) (ty := ty) (pos := pos) (aft := aft) (g := g) (t := t) (t2 := t2) hx hy
  simp only [IntKind.bits, ofInt_u32, wrap_u32, ofNat_toNat32] at this
  exact this
theorem Cx.xorU  {d0 : Nat} {K : List (Nat × SV) → Prop} (hlt : Nat.blt d0 Γ.nt = true) (hr : SegC P Γ ops L ((d0, (u32 (a ^^^ b))) :: F) rest K) : SegC P Γ ops L F (⟨some d0, .binOp .xor t x y t2, ty, pos, aft, none⟩ :: rest) K :=
  SegC.q (Qs.pv (by apply Pv.xorU <;> assumption)) hlt hr
theorem Jx.xorU  {d0 : Nat} (hlt : Nat.blt d0 Γ.nt = true) (k : J P Γ ops Q ((d0, (u32 (a ^^^ b))) :: F) L rest) : J P Γ ops Q F L (⟨some d0, .binOp .xor t x y t2, ty, pos, aft, none⟩ :: rest) :=
  J.pv (by apply Pv.xorU <;> assumption) hlt k
theorem Pv.andU : Pv P Γ F L ⟨dst, .binOp .and t x y t2, ty, pos, aft, g⟩ (u32 (a &&& b)) := by
  have := Pv.band (P := P) (Γ := Γ) (L := L) (dst := dst) (ty := ty) (pos := pos) (aft := aft) (g := g) (t := t) (t2 := t2) hx hy
  simp only [IntKind.bits, ofInt_u32, wrap_u32, ofNat_toNat32] at this
  exact this
theorem Cx.andU  {d0 : Nat} {K : List (Nat × SV) → Prop} (hlt : Nat.blt d0 Γ.nt = true) (hr : SegC P Γ ops L ((d0, (u32 (a &&& b))) :: F) rest K) : SegC P Γ ops L F (⟨some d0, .binOp .and t x y t2, ty, pos, aft, none⟩ :: rest) K :=
  SegC.q (Qs.pv (by apply Pv.andU <;> assumption)) hlt hr
theorem Jx.andU  {d0 : Nat} (hlt : Nat.blt d0 Γ.nt = true) (k : J P Γ ops Q ((d0, (u32 (a &&& b))) :: F) L rest) : J P Γ ops Q F L (⟨some d0, .binOp .and t x y t2, ty, pos, aft, none⟩ :: rest) :=
  J.pv (by apply Pv.andU <;> assumption) hlt k
theorem Pv.orU : Pv P Γ F L ⟨dst, .binOp .or t x y t2, ty, pos, aft, g⟩ (u32 (a ||| b)) := by
  have := Pv.bor (P := P) (Γ := Γ) (L := L) (dst := dst) (ty := ty) (pos := pos) (aft := aft) (g := g) (t := t) (t2 := t2) hx hy
  simp only [IntKind.bits, ofInt_u32, wrap_u32, ofNat_toNat32] at this
  exact this
theorem Cx.orU  {d0 : Nat} {K : List (Nat × SV) → Prop} (hlt : Nat.blt d0 Γ.nt = true) (hr : SegC P Γ ops L ((d0, (u32 (a ||| b))) :: F) rest K) : SegC P Γ ops L F (⟨some d0, .binOp .or t x y t2, ty, pos, aft, none⟩ :: rest) K :=
  SegC.q (Qs.pv (by apply Pv.orU <;> assumption)) hlt hr
theorem Jx.orU  {d0 : Nat} (hlt : Nat.blt d0 Γ.nt = true) (k : J P Γ ops Q ((d0, (u32 (a ||| b))) :: F) L rest) : J P Γ ops Q F L (⟨some d0, .binOp .or t x y t2, ty, pos, aft, none⟩ :: rest) :=
  J.pv (by apply Pv.orU <;> assumption) hlt k
end
theorem Pv.mulU {t t2 : TypeId} {x y : Operand} {a : BitVec 32} (c : Nat) (hx : ev F x = some (u32 a)) (hy : ev F y = some (.val (.int .u32 (c : Int)))) : Pv P Γ F L ⟨dst, .binOp .mul t x y t2, ty, pos, aft, g⟩ (u32 (a * BitVec.ofNat 32 c)) := by
  have := Pv.mul (P := P) (Γ := Γ) (L := L) (dst := dst) (ty := ty) (pos := pos) (aft := aft) (g := g) (t := t) (t2 := t2) hx hy
  have e : IntKind.u32.wrap ((a.toNat : Int) * (c : Int)) = ((a * BitVec.ofNat 32 c).toNat : Int) := by
    rw [show ((a.toNat : Int) * (c : Int)) = ((a.toNat * c : Nat) : Int) by push_cast; rfl, wrap_u32]
    simp [BitVec.toNat_mul]
  rwa [e] at this
theorem Cx.mulU {t t2 : TypeId} {x y : Operand} {a : BitVec 32} (c : Nat) (hx : ev F x = some (u32 a)) (hy : ev F y = some (.val (.int .u32 (c : Int)))) {d0 : Nat} {K : List (Nat × SV) → Prop} (hlt : Nat.blt d0 Γ.nt = true) (hr : SegC P Γ ops L ((d0, (u32 (a * BitVec.ofNat 32 c))) :: F) rest K) : SegC P Γ ops L F (⟨some d0, .binOp .mul t x y t2, ty, pos, aft, none⟩ :: rest) K :=
  SegC.q (Qs.pv (by apply Pv.mulU <;> assumption)) hlt hr
theorem Pv.byteWord {src d : Nat} [h : TInt P d .u32] {x : Operand} {b : UInt8} (hs : (P.underlying src).isSome = true) (hx : ev F x = some (byte b)) : Pv P Γ F L ⟨dst, .convert src d x, ty, pos, aft, g⟩ (u32 (BitVec.ofNat 32 b.toNat)) := by
  have := Pv.convI (P := P) (Γ := Γ) (L := L) (dst := dst) (ty := ty) (pos := pos) (aft := aft) (g := g) (d := d) hs hx
  rwa [wrap_u32] at this
theorem Cx.byteWord {src d : Nat} [h : TInt P d .u32] {x : Operand} {b : UInt8} (hs : (P.underlying src).isSome = true) (hx : ev F x = some (byte b)) {d0 : Nat} {K : List (Nat × SV) → Prop} (hlt : Nat.blt d0 Γ.nt = true) (hr : SegC P Γ ops L ((d0, (u32 (BitVec.ofNat 32 b.toNat))) :: F) rest K) : SegC P Γ ops L F (⟨some d0, .convert src d x, ty, pos, aft, none⟩ :: rest) K :=
  SegC.q (Qs.pv (by apply Pv.byteWord <;> assumption)) hlt hr
theorem Pv.numByte {src d : Nat} [h : TInt P d .u8] {x : Operand} {k : IntKind} (n : Nat) {m : Int} (hs : (P.underlying src).isSome = true) (hx : ev F x = some (.val (.int k m))) (hm : m = (n : Int)) : Pv P Γ F L ⟨dst, .convert src d x, ty, pos, aft, g⟩ (byte (UInt8.ofNat n)) := by
  subst hm
  have := Pv.convI (P := P) (Γ := Γ) (L := L) (dst := dst) (ty := ty) (pos := pos) (aft := aft) (g := g) (d := d) hs hx
  rwa [wrap_u8] at this
theorem Cx.numByte {src d : Nat} [h : TInt P d .u8] {x : Operand} {k : IntKind} (n : Nat) {m : Int} (hs : (P.underlying src).isSome = true) (hx : ev F x = some (.val (.int k m))) (hm : m = (n : Int)) {d0 : Nat} {K : List (Nat × SV) → Prop} (hlt : Nat.blt d0 Γ.nt = true) (hr : SegC P Γ ops L ((d0, (byte (UInt8.ofNat n))) :: F) rest K) : SegC P Γ ops L F (⟨some d0, .convert src d x, ty, pos, aft, none⟩ :: rest) K :=
  SegC.q (Qs.pv (by apply Pv.numByte <;> assumption)) hlt hr
theorem Jx.numByte {src d : Nat} [h : TInt P d .u8] {x : Operand} {k : IntKind} (n : Nat) {m : Int} (hs : (P.underlying src).isSome = true) (hx : ev F x = some (.val (.int k m))) (hm : m = (n : Int)) {d0 : Nat} (hlt : Nat.blt d0 Γ.nt = true) (k : J P Γ ops Q ((d0, (byte (UInt8.ofNat n))) :: F) L rest) : J P Γ ops Q F L (⟨some d0, .convert src d x, ty, pos, aft, none⟩ :: rest) :=
  J.pv (by apply Pv.numByte <;> assumption) hlt k
theorem Pv.byteNum {src d : Nat} [h : TInt P d .i64] {x : Operand} {b : UInt8} (hs : (P.underlying src).isSome = true) (hx : ev F x = some (byte b)) : Pv P Γ F L ⟨dst, .convert src d x, ty, pos, aft, g⟩ (int b.toNat) := by
  have := Pv.convI (P := P) (Γ := Γ) (L := L) (dst := dst) (ty := ty) (pos := pos) (aft := aft) (g := g) (d := d) hs hx
  have hb := b.toNat_lt
  rwa [wrap_i64 (by omega)] at this
theorem Cx.byteNum {src d : Nat} [h : TInt P d .i64] {x : Operand} {b : UInt8} (hs : (P.underlying src).isSome = true) (hx : ev F x = some (byte b)) {d0 : Nat} {K : List (Nat × SV) → Prop} (hlt : Nat.blt d0 Γ.nt = true) (hr : SegC P Γ ops L ((d0, (int b.toNat)) :: F) rest K) : SegC P Γ ops L F (⟨some d0, .convert src d x, ty, pos, aft, none⟩ :: rest) K :=
  SegC.q (Qs.pv (by apply Pv.byteNum <;> assumption)) hlt hr
theorem Jx.byteNum {src d : Nat} [h : TInt P d .i64] {x : Operand} {b : UInt8} (hs : (P.underlying src).isSome = true) (hx : ev F x = some (byte b)) {d0 : Nat} (hlt : Nat.blt d0 Γ.nt = true) (k : J P Γ ops Q ((d0, (int b.toNat)) :: F) L rest) : J P Γ ops Q F L (⟨some d0, .convert src d x, ty, pos, aft, none⟩ :: rest) :=
  J.pv (by apply Pv.byteNum <;> assumption) hlt k
theorem Pv.convU64 {src d : Nat} [h : TInt P d .u64] {x : Operand} {k : IntKind} (n : Nat) {m : Int} (hs : (P.underlying src).isSome = true) (hx : ev F x = some (.val (.int k m))) (hm : m = (n : Int)) (hn : n < 18446744073709551616) : Pv P Γ F L ⟨dst, .convert src d x, ty, pos, aft, g⟩ (u64 n) := by
  subst hm
  have := Pv.convI (P := P) (Γ := Γ) (L := L) (dst := dst) (ty := ty) (pos := pos) (aft := aft) (g := g) (d := d) hs hx
  rwa [wrap_u64 hn] at this
theorem Jx.convU64 {src d : Nat} [h : TInt P d .u64] {x : Operand} {k : IntKind} (n : Nat) {m : Int} (hs : (P.underlying src).isSome = true) (hx : ev F x = some (.val (.int k m))) (hm : m = (n : Int)) (hn : n < 18446744073709551616) {d0 : Nat} (hlt : Nat.blt d0 Γ.nt = true) (k : J P Γ ops Q ((d0, (u64 n)) :: F) L rest) : J P Γ ops Q F L (⟨some d0, .convert src d x, ty, pos, aft, none⟩ :: rest) :=
  J.pv (by apply Pv.convU64 <;> assumption) hlt k
theorem Pv.mulU64 {t t2 : TypeId} {x y : Operand} {n : Nat} (c : Nat) (hx : ev F x = some (u64 n)) (hy : ev F y = some (.val (.int .u64 (c : Int)))) (hn : n * c < 18446744073709551616) : Pv P Γ F L ⟨dst, .binOp .mul t x y t2, ty, pos, aft, g⟩ (u64 (n * c)) := by
  have := Pv.mul (P := P) (Γ := Γ) (L := L) (dst := dst) (ty := ty) (pos := pos) (aft := aft) (g := g) (t := t) (t2 := t2) hx hy
  rwa [show ((n : Int) * (c : Int)) = ((n * c : Nat) : Int) by push_cast; rfl, wrap_u64 hn] at this
theorem Jx.mulU64 {t t2 : TypeId} {x y : Operand} {n : Nat} (c : Nat) (hx : ev F x = some (u64 n)) (hy : ev F y = some (.val (.int .u64 (c : Int)))) (hn : n * c < 18446744073709551616) {d0 : Nat} (hlt : Nat.blt d0 Γ.nt = true) (k : J P Γ ops Q ((d0, (u64 (n * c))) :: F) L rest) : J P Γ ops Q F L (⟨some d0, .binOp .mul t x y t2, ty, pos, aft, none⟩ :: rest) :=
  J.pv (by apply Pv.mulU64 <;> assumption) hlt k
theorem Pv.subU64 {t t2 : TypeId} {x y : Operand} {n c : Nat} (hx : ev F x = some (.val (.int .u64 (c : Int)))) (hy : ev F y = some (u64 n)) (hn : n ≤ c) (hc : c < 18446744073709551616) : Pv P Γ F L ⟨dst, .binOp .sub t x y t2, ty, pos, aft, g⟩ (u64 (c - n)) := by
  have := Pv.sub' (P := P) (Γ := Γ) (L := L) (dst := dst) (ty := ty) (pos := pos) (aft := aft) (g := g) (t := t) (t2 := t2) hx hy
  rwa [show ((c : Int) - (n : Int)) = ((c - n : Nat) : Int) by omega, wrap_u64 (by omega)] at this
theorem Jx.subU64 {t t2 : TypeId} {x y : Operand} {n c : Nat} (hx : ev F x = some (.val (.int .u64 (c : Int)))) (hy : ev F y = some (u64 n)) (hn : n ≤ c) (hc : c < 18446744073709551616) {d0 : Nat} (hlt : Nat.blt d0 Γ.nt = true) (k : J P Γ ops Q ((d0, (u64 (c - n))) :: F) L rest) : J P Γ ops Q F L (⟨some d0, .binOp .sub t x y t2, ty, pos, aft, none⟩ :: rest) :=
  J.pv (by apply Pv.subU64 <;> assumption) hlt k
theorem Pv.shrN {t t2 : TypeId} {x y : Operand} {k k2 : IntKind} {n s : Nat} {m : Int} (hx : ev F x = some (.val (.int k (n : Int)))) (hy : ev F y = some (.val (.int k2 m))) (hm : m = (s : Int)) (hs : s ≤ k.bits) : Pv P Γ F L ⟨dst, .binOp .shr t x y t2, ty, pos, aft, g⟩ (.val (.int k ((n / 2 ^ s : Nat) : Int))) := by
  subst hm
  have := Pv.shr (P := P) (Γ := Γ) (L := L) (dst := dst) (ty := ty) (pos := pos) (aft := aft) (g := g) (t := t) (t2 := t2) hx hy (Int.natCast_nonneg s)
  have e : (n : Int).fdiv (2 ^ Min.min (s : Int).toNat k.bits) = ((n / 2 ^ s : Nat) : Int) := by
    rw [Int.fdiv_eq_ediv_of_nonneg _ (by exact_mod_cast Nat.zero_le _), Int.toNat_natCast, Nat.min_eq_left hs]
    norm_cast
  rwa [e] at this
theorem Cx.shrN {t t2 : TypeId} {x y : Operand} {k k2 : IntKind} {n s : Nat} {m : Int} (hx : ev F x = some (.val (.int k (n : Int)))) (hy : ev F y = some (.val (.int k2 m))) (hm : m = (s : Int)) (hs : s ≤ k.bits) {d0 : Nat} {K : List (Nat × SV) → Prop} (hlt : Nat.blt d0 Γ.nt = true) (hr : SegC P Γ ops L ((d0, (.val (.int k ((n / 2 ^ s : Nat) : Int)))) :: F) rest K) : SegC P Γ ops L F (⟨some d0, .binOp .shr t x y t2, ty, pos, aft, none⟩ :: rest) K :=
  SegC.q (Qs.pv (by apply Pv.shrN <;> assumption)) hlt hr
theorem Jx.shrN {t t2 : TypeId} {x y : Operand} {k k2 : IntKind} {n s : Nat} {m : Int} (hx : ev F x = some (.val (.int k (n : Int)))) (hy : ev F y = some (.val (.int k2 m))) (hm : m = (s : Int)) (hs : s ≤ k.bits) {d0 : Nat} (hlt : Nat.blt d0 Γ.nt = true) (k : J P Γ ops Q ((d0, (.val (.int k ((n / 2 ^ s : Nat) : Int)))) :: F) L rest) : J P Γ ops Q F L (⟨some d0, .binOp .shr t x y t2, ty, pos, aft, none⟩ :: rest) :=
  J.pv (by apply Pv.shrN <;> assumption) hlt k
theorem getElem?_map_lt {α : Type} (f : α → SV) (ws : List α) (d : α) (i : Nat) (h : i < ws.length) : (ws.map f)[i]? = some (f (ws.getD i d)) := by
  simp [List.getElem?_map, List.getD_eq_getElem?_getD, List.getElem?_eq_getElem h]
theorem Pv.indexA {T E by' n : Nat} {z : List Value} [h : TArr P T n E] [hI : TInfo P E 1 by' z] {x i : Operand} {k : IntKind} {b o : Nat} {m : Int} (j : Nat) (hx : ev F x = some (.val (.pointer (some ⟨b, o, none⟩))))
    (hi : ev F i = some (.val (.int k m))) (hm : m = (j : Int)) (h1 : j < n) : Pv P Γ F L ⟨dst, .indexAddr T x i, ty, pos, aft, g⟩ (.val (.pointer (some ⟨b, o + j, none⟩))) := by
  subst hm
  have := Pv.indexArr (P := P) (Γ := Γ) (L := L) (dst := dst) (ty := ty) (pos := pos) (aft := aft) (g := g) (T := T) hx hi (by omega) (by omega)
  simpa using this
theorem Cx.indexA {T E by' n : Nat} {z : List Value} [h : TArr P T n E] [hI : TInfo P E 1 by' z] {x i : Operand} {k : IntKind} {b o : Nat} {m : Int} (j : Nat) (hx : ev F x = some (.val (.pointer (some ⟨b, o, none⟩))))
    (hi : ev F i = some (.val (.int k m))) (hm : m = (j : Int)) (h1 : j < n) {d0 : Nat} {K : List (Nat × SV) → Prop} (hlt : Nat.blt d0 Γ.nt = true) (hr : SegC P Γ ops L ((d0, (.val (.pointer (some ⟨b, o + j, none⟩)))) :: F) rest K) : SegC P Γ ops L F (⟨some d0, .indexAddr T x i, ty, pos, aft, none⟩ :: rest) K :=
  SegC.q (Qs.pv (by apply Pv.indexA <;> assumption)) hlt hr
theorem Jx.indexA {T E by' n : Nat} {z : List Value} [h : TArr P T n E] [hI : TInfo P E 1 by' z] {x i : Operand} {k : IntKind} {b o : Nat} {m : Int} (j : Nat) (hx : ev F x = some (.val (.pointer (some ⟨b, o, none⟩))))
    (hi : ev F i = some (.val (.int k m))) (hm : m = (j : Int)) (h1 : j < n) {d0 : Nat} (hlt : Nat.blt d0 Γ.nt = true) (k : J P Γ ops Q ((d0, (.val (.pointer (some ⟨b, o + j, none⟩)))) :: F) L rest) : J P Γ ops Q F L (⟨some d0, .indexAddr T x i, ty, pos, aft, none⟩ :: rest) :=
  J.pv (by apply Pv.indexA <;> assumption) hlt k
theorem Pv.index0 {T E by' n : Nat} {z : List Value} [h : TArr P T n E] [hI : TInfo P E 1 by' z] {x i : Operand} {k : IntKind} {b : Nat} {m : Int} (j : Nat) (hx : ev F x = some (.val (.pointer (some ⟨b, 0, none⟩))))
    (hi : ev F i = some (.val (.int k m))) (hm : m = (j : Int)) (h1 : j < n) : Pv P Γ F L ⟨dst, .indexAddr T x i, ty, pos, aft, g⟩ (.val (.pointer (some ⟨b, j, none⟩))) := by
  have := Pv.indexA (P := P) (Γ := Γ) (L := L) (dst := dst) (ty := ty) (pos := pos) (aft := aft) (g := g) (T := T) j hx hi hm h1
  rwa [Nat.zero_add] at this
theorem Cx.index0 {T E by' n : Nat} {z : List Value} [h : TArr P T n E] [hI : TInfo P E 1 by' z] {x i : Operand} {k : IntKind} {b : Nat} {m : Int} (j : Nat) (hx : ev F x = some (.val (.pointer (some ⟨b, 0, none⟩))))
    (hi : ev F i = some (.val (.int k m))) (hm : m = (j : Int)) (h1 : j < n) {d0 : Nat} {K : List (Nat × SV) → Prop} (hlt : Nat.blt d0 Γ.nt = true) (hr : SegC P Γ ops L ((d0, (.val (.pointer (some ⟨b, j, none⟩)))) :: F) rest K) : SegC P Γ ops L F (⟨some d0, .indexAddr T x i, ty, pos, aft, none⟩ :: rest) K :=
  SegC.q (Qs.pv (by apply Pv.index0 <;> assumption)) hlt hr
theorem Jx.index0 {T E by' n : Nat} {z : List Value} [h : TArr P T n E] [hI : TInfo P E 1 by' z] {x i : Operand} {k : IntKind} {b : Nat} {m : Int} (j : Nat) (hx : ev F x = some (.val (.pointer (some ⟨b, 0, none⟩))))
    (hi : ev F i = some (.val (.int k m))) (hm : m = (j : Int)) (h1 : j < n) {d0 : Nat} (hlt : Nat.blt d0 Γ.nt = true) (k : J P Γ ops Q ((d0, (.val (.pointer (some ⟨b, j, none⟩)))) :: F) L rest) : J P Γ ops Q F L (⟨some d0, .indexAddr T x i, ty, pos, aft, none⟩ :: rest) :=
  J.pv (by apply Pv.index0 <;> assumption) hlt k
theorem Pv.loadA {α : Type} {T b j : Nat} [h : TSc P T] {x : Operand} (enc : α → SV) (d : α) (hx : ev F x = some (.val (.pointer (some ⟨b, j, none⟩)))) (i : Nat) {T' : TypeId} {ws : List α} (hi : L[i]? = some (.obj b T' (ws.map enc))) (hj : j < ws.length) :
    Pv P Γ F L ⟨dst, .load T x, ty, pos, aft, g⟩ (enc (ws.getD j d)) := Pv.load hx i hi (getElem?_map_lt enc ws d j hj)
theorem Cx.loadA {α : Type} {T b j : Nat} [h : TSc P T] {x : Operand} (enc : α → SV) (d : α) (hx : ev F x = some (.val (.pointer (some ⟨b, j, none⟩)))) (i : Nat) {T' : TypeId} {ws : List α} (hi : L[i]? = some (.obj b T' (ws.map enc))) (hj : j < ws.length) {d0 : Nat} {K : List (Nat × SV) → Prop} (hlt : Nat.blt d0 Γ.nt = true) (hr : SegC P Γ ops L ((d0, (enc (ws.getD j d))) :: F) rest K) : SegC P Γ ops L F (⟨some d0, .load T x, ty, pos, aft, none⟩ :: rest) K :=
  SegC.q (Qs.pv (by apply Pv.loadA <;> assumption)) hlt hr
theorem Jx.loadA {α : Type} {T b j : Nat} [h : TSc P T] {x : Operand} (enc : α → SV) (d : α) (hx : ev F x = some (.val (.pointer (some ⟨b, j, none⟩)))) (i : Nat) {T' : TypeId} {ws : List α} (hi : L[i]? = some (.obj b T' (ws.map enc))) (hj : j < ws.length) {d0 : Nat} (hlt : Nat.blt d0 Γ.nt = true) (k : J P Γ ops Q ((d0, (enc (ws.getD j d))) :: F) L rest) : J P Γ ops Q F L (⟨some d0, .load T x, ty, pos, aft, none⟩ :: rest) :=
  J.pv (by apply Pv.loadA <;> assumption) hlt k
theorem J.storeA {α : Type} {T b j : Nat} [h : TSc P T] {x y : Operand} (enc : α → SV) (v : α) (hx : ev F x = some (.val (.pointer (some ⟨b, j, none⟩)))) (hy : ev F y = some (enc v)) (h1 : One (enc v)) (i : Nat) {T' : TypeId} {ws : List α} {L' : List Own}
    (hi : L[i]? = some (.obj b T' (ws.map enc))) (hj : j < ws.length) (hL : L.set i (.obj b T' ((ws.set j v).map enc)) = L') (k : J P Γ ops Q F L' rest) : J P Γ ops Q F L (⟨none, .store T x y, ty, pos, aft, none⟩ :: rest) :=
  J.store hx hy h1 i hi (by simp only [List.length_map]; exact Nat.ble_eq_true_of_le hj) (by rw [List.map_set]) hL k
theorem Pv.loadArr {T b n : Nat} [h : TAg P T n] {x : Operand} {cs : List SV} (hn : cs.length = n) (hx : ev F x = some (.val (.pointer (some ⟨b, 0, none⟩)))) (i : Nat) {T' : TypeId} (hi : L[i]? = some (.obj b T' cs)) :
    Pv P Γ F L ⟨dst, .load T x, ty, pos, aft, g⟩ (.agg cs) := Pv.loadAg hx i hi (by rw [List.drop_zero, ← hn, List.take_length]) hn
theorem Jx.loadArr {T b n : Nat} [h : TAg P T n] {x : Operand} {cs : List SV} (hn : cs.length = n) (hx : ev F x = some (.val (.pointer (some ⟨b, 0, none⟩)))) (i : Nat) {T' : TypeId} (hi : L[i]? = some (.obj b T' cs)) {d0 : Nat} (hlt : Nat.blt d0 Γ.nt = true) (k : J P Γ ops Q ((d0, (.agg cs)) :: F) L rest) : J P Γ ops Q F L (⟨some d0, .load T x, ty, pos, aft, none⟩ :: rest) :=
  J.pv (by apply Pv.loadArr <;> assumption) hlt k
theorem J.storeArr {T b n : Nat} [h : TAg P T n] {x y : Operand} {ds : List SV} (hn : ds.length = n) (hx : ev F x = some (.val (.pointer (some ⟨b, 0, none⟩)))) (hy : ev F y = some (.agg ds)) (i : Nat) {T' : TypeId} {cs : List SV} {L' : List Own}
    (hi : L[i]? = some (.obj b T' cs)) (ho : cs.length = n) (hL : L.set i (.obj b T' ds) = L') (k : J P Γ ops Q F L' rest) : J P Γ ops Q F L (⟨none, .store T x y, ty, pos, aft, none⟩ :: rest) :=
  J.storeAg hx hy hn i hi (by rw [ho]; simp) (by rw [hn, ← ho]; simp) hL k
theorem Pv.indexAg {α : Type} {T E by' n : Nat} {z : List Value} [h : TArr P T n E] [hI : TInfo P E 1 by' z] [hs : TSc P E] {x i : Operand} {k : IntKind} {m : Int} (enc : α → SV) (d : α) {ws : List α} (j : Nat) (hx : ev F x = some (.agg (ws.map enc)))
    (hi : ev F i = some (.val (.int k m))) (hm : m = (j : Int)) (h1 : j < n) (h2 : j < ws.length) : Pv P Γ F L ⟨dst, .index T x i, ty, pos, aft, g⟩ (enc (ws.getD j d)) := fun ρ w hst => by
  subst hm
  have hr := hst.ev x (by simp [Op.operands]) _ hx
  have hiv := hst.evv (x := i) (by simp [Op.operands]) hi
  generalize hv : ρ x = v at hr
  cases hr with
  | agg _ vs hl h1' hr =>
    obtain ⟨u, hu, hru, _⟩ := RelL.at ⟨hl, h1', hr⟩ (getElem?_map_lt enc ws d j h2)
    refine ⟨u, ?_, hru⟩
    have hsz : (sizeOf E).run P w = .ok 1 w := sizeOf_of (by have := hI.ok; cases hq : P.info? E <;> simp_all) w
    have := run_part_sc hs w vs.toArray j u (by simpa using hu)
    simp [execOp, hv, hiv, Instr.index, asIntOf, run_underlying h.ok, hsz, h1, this]
theorem Jx.indexAg {α : Type} {T E by' n : Nat} {z : List Value} [h : TArr P T n E] [hI : TInfo P E 1 by' z] [hs : TSc P E] {x i : Operand} {k : IntKind} {m : Int} (enc : α → SV) (d : α) {ws : List α} (j : Nat) (hx : ev F x = some (.agg (ws.map enc)))
    (hi : ev F i = some (.val (.int k m))) (hm : m = (j : Int)) (h1 : j < n) (h2 : j < ws.length) {d0 : Nat} (hlt : Nat.blt d0 Γ.nt = true) (k : J P Γ ops Q ((d0, (enc (ws.getD j d))) :: F) L rest) : J P Γ ops Q F L (⟨some d0, .index T x i, ty, pos, aft, none⟩ :: rest) :=
  J.pv (by apply Pv.indexAg <;> assumption) hlt k
theorem Pv.sliceArrPtr {T E n N : Nat} [h : TArr P T N E] {x : Operand} {el : Nat → List SV} (cs : List SV) (hx : ev F x = some (.sl 1 n el)) (hn : N ≤ n) (h0 : 0 < N) (hl : cs.length = N) (hc : ∀ j, j < N → (el j).getD 0 .any = cs.getD j .any) :
    Pv P Γ F L ⟨dst, .sliceToArrayPointer T x, ty, pos, aft, g⟩ (.pp cs) := fun ρ w hst => by
  have hr := hst.ev x (by simp [Op.operands]) _ hx
  generalize hv : ρ x = v at hr
  cases hr with
  | sl _ _ _ a cap vs hcap hmax hb h1 hl' hr =>
    rcases hb with hb | ⟨b, off, rfl, hz, hcell⟩
    · omega
    · refine ⟨.pointer (some ⟨b, off, none⟩), ?_, ?_⟩
      · simp [execOp, hv, Instr.arrayAt, run_underlying h.ok, Nat.not_lt.2 hn]
      · refine .pp cs b off vs (by omega) hz (fun j hj => hcell j (by omega)) (fun j hj => h1 j (by omega)) (fun j hj => ?_)
        have := hr j 0 (by omega) (by omega)
        rw [hc j (by omega)] at this
        simpa using this
theorem Cx.sliceArrPtr {T E n N : Nat} [h : TArr P T N E] {x : Operand} {el : Nat → List SV} (cs : List SV) (hx : ev F x = some (.sl 1 n el)) (hn : N ≤ n) (h0 : 0 < N) (hl : cs.length = N) (hc : ∀ j, j < N → (el j).getD 0 .any = cs.getD j .any) {d0 : Nat} {K : List (Nat × SV) → Prop} (hlt : Nat.blt d0 Γ.nt = true) (hr : SegC P Γ ops L ((d0, (.pp cs)) :: F) rest K) : SegC P Γ ops L F (⟨some d0, .sliceToArrayPointer T x, ty, pos, aft, none⟩ :: rest) K :=
  SegC.q (Qs.pv (by apply Pv.sliceArrPtr <;> assumption)) hlt hr
theorem Pv.buildA {T E n sz sz' by' by2 : Nat} {z z2 : List Value} [hI : TInfo P T sz by' z] [hA : TArr P T n E] [hE : TInfo P E sz' by2 z2] {parts : List (Nat × Operand)} {ss cs' : List SV} (ha' : evs F (parts.map (·.2)) = some ss) (hok' : partsB ss = true)
    (hz1 : z.all (·.oneCell') = true) (hf : fillS ((List.range n).map fun i => (i * sz', sz')) (z.map .val) ((parts.map (·.1)).zip ss) = some cs') : Pv P Γ F L ⟨dst, .build T parts.toArray, ty, pos, aft, g⟩ (.agg cs') := fun ρ w hst => by
    have ha := evs_args ha'
    have hok := partsB_ok hok'
    obtain ⟨zv, hzr, hzc, i, hi, rfl, rfl, hiz⟩ := run_zero hI w
    have hsE : (sizeOf E).run P w = .ok sz' w := sizeOf_of (by have := hE.ok; cases hq : P.info? E <;> simp_all) w
    have hrel : ∀ {xs : List Operand} {ss : List SV}, Args F xs ss → (∀ x ∈ xs, x ∈ parts.map (·.2)) → xs.length = ss.length ∧ ∀ (j : Nat) (s : SV) (x : Operand), ss[j]? = some s → xs[j]? = some x → Rel (ZL Γ.Z L) w s (ρ x) := by
      intro xs ss h
      induction h with
      | nil => exact fun _ => ⟨rfl, by simp⟩
      | @cons x s xs ss h hr ih =>
        intro hm
        obtain ⟨i1, i2⟩ := ih (fun y hy => hm y (List.mem_cons_of_mem _ hy))
        refine ⟨by simp [i1], fun j s' x' hs hx => ?_⟩
        cases j with
        | zero =>
          simp at hs hx; subst hs; subst hx
          exact hst.ev _ (by simp only [Op.operands, List.map_toArray, List.toList_toArray]; exact hm _ (List.mem_cons_self ..)) _ h
        | succ j => exact i2 j s' x' (by simpa using hs) (by simpa using hx)
      | @sub x s t xs ss h hsub hr ih =>
        intro hm
        obtain ⟨i1, i2⟩ := ih (fun y hy => hm y (List.mem_cons_of_mem _ hy))
        refine ⟨by simp [i1], fun j s' x' hs hx => ?_⟩
        cases j with
        | zero =>
          simp at hs hx; subst hs; subst hx
          exact hsub _ _ _ (hst.ev _ (by simp only [Op.operands, List.map_toArray, List.toList_toArray]; exact hm _ (List.mem_cons_self ..)) _ h)
        | succ j => exact i2 j s' x' (by simpa using hs) (by simpa using hx)
    obtain ⟨hl, hall⟩ := hrel ha (fun x hx => hx)
    have hzrel : RelL (ZL Γ.Z L) w (z.map .val) zv.cells.toList := by rw [hzc]; exact RelL.vals z (by simpa [List.all_eq_true] using hz1)
    obtain ⟨cells', hfill, hr'⟩ := fill_rel (pl := (List.range n).map fun i => (i * sz', sz')) (place := fun i => some (i * sz', sz')) (fun k q hq => by
      simp only [List.getElem?_map] at hq
      cases hk : (List.range n)[k]? with
      | none => rw [hk] at hq; simp at hq
      | some m =>
        rw [hk] at hq
        obtain ⟨hlt, hm⟩ := List.getElem?_eq_some_iff.1 hk
        simp only [List.getElem_range] at hm
        subst hm
        simpa using hq) ((parts.map (·.1)).zip ss) (parts.map fun p => (p.1, ρ p.2)) (z.map .val) zv.cells cs' (by simp at hl ⊢; omega) (by
      intro j p v hp hv
      rw [List.getElem?_zip_eq_some] at hp
      simp only [List.getElem?_map] at hp hv
      cases hq : parts[j]? with
      | none => rw [hq] at hv; simp at hv
      | some q =>
        rw [hq] at hp hv
        simp only [Option.map_some, Option.some.injEq] at hp hv
        subst hv
        exact ⟨hp.1.symm, hok.mem _ (List.mem_of_getElem? hp.2), hall j p.2 q.2 hp.2 (by simp [hq])⟩) hzrel hf
    refine ⟨.agg cells', ?_, ?_⟩
    · have hpm : (parts.toArray.map fun (p : Nat × Operand) => (p.1, ρ p.2)).toList = parts.map fun p => (p.1, ρ p.2) := by simp
      simp only [execOp, Instr.build, Sem.run_bind, hzr, Result.andThen_ok, run_underlying hA.ok, Sem.run_pure, hsE]
      rw [hpm, hfill]
      rfl
    · have := hr'.agg
      simpa using this
theorem Jx.buildA {T E n sz sz' by' by2 : Nat} {z z2 : List Value} [hI : TInfo P T sz by' z] [hA : TArr P T n E] [hE : TInfo P E sz' by2 z2] {parts : List (Nat × Operand)} {ss cs' : List SV} (ha' : evs F (parts.map (·.2)) = some ss) (hok' : partsB ss = true)
    (hz1 : z.all (·.oneCell') = true) (hf : fillS ((List.range n).map fun i => (i * sz', sz')) (z.map .val) ((parts.map (·.1)).zip ss) = some cs') {d0 : Nat} (hlt : Nat.blt d0 Γ.nt = true) (k : J P Γ ops Q ((d0, (.agg cs')) :: F) L rest) : J P Γ ops Q F L (⟨some d0, .build T parts.toArray, ty, pos, aft, none⟩ :: rest) :=
  J.pv (by apply Pv.buildA <;> assumption) hlt k
theorem perm_erase : ∀ {L : List Own} {i : Nat} {o : Own}, L[i]? = some o → L.Perm (o :: L.eraseIdx i)
  | [], i, o, h => by simp at h
  | x :: L, 0, o, h => by simp at h; subst h; simp
  | x :: L, i + 1, o, h => by
    simp only [List.getElem?_cons_succ] at h
    simp only [List.eraseIdx_cons_succ]
    exact (List.Perm.cons x (perm_erase h)).trans (List.Perm.swap ..)
theorem perm_set {L : List Own} {i : Nat} {o o' : Own} (h : L[i]? = some o) : (o' :: L.eraseIdx i).Perm (L.set i o') := by
  have h1 : (L.set i o')[i]? = some o' := by
    obtain ⟨hlt, rfl⟩ := List.getElem?_eq_some_iff.1 h
    simp [hlt]
  have := perm_erase h1
  rw [List.eraseIdx_set_eq] at this
  exact this.symm
end
end Go.Sse
namespace Go.Sse
open Go Go.Sse
set_option linter.unusedVariables false
set_option linter.unusedSimpArgs false
section
variable {P : Program} {Γ : Ctx} {ops : Array Oper} {Q : Exit → Act → World → Prop} {F : List (Nat × SV)} {L : List Own} {rest : List Oper}
variable {dst : Option Tmp} {ty : TypeId} {pos : String} {aft : Array Edge} {g : Option (Nat × Bool)}
theorem Qs.sub {o : Oper} {s t : SV} (h : Qs P Γ F L o s) (hs : Sub s t) : Qs P Γ F L o t :=
  fun a w K Q hws hx hK => h a w K Q hws hx fun v w' hst hr => hK v w' hst (hs _ _ _ hr)
theorem parts_of : ∀ {k : Nat} {parts : List (Nat × Operand)} {ss : List SV}, evs F (parts.map (·.2)) = some ss → parts.map (·.1) = List.range' k parts.length → (∀ s ∈ ss, PartOK s) → Parts F k parts ss
  | k, [], ss, h, _, _ => by
    simp only [List.map_nil, evs, Option.some.injEq] at h
    subst h; exact .nil
  | k, (i, x) :: r, ss, h, hi, hok => by
    simp only [List.map_cons, evs] at h
    simp only [List.map_cons, List.length_cons, List.range'_succ, List.cons.injEq] at hi
    obtain ⟨rfl, hi⟩ := hi
    cases hx : ev F x with
    | none => rw [hx] at h; simp at h
    | some s =>
      rw [hx] at h
      cases hr : evs F (r.map (·.2)) with
      | none => rw [hr] at h; simp at h
      | some ss' =>
        rw [hr] at h
        simp only [Option.some.injEq] at h
        subst h
        exact .cons hx (hok s (List.mem_cons_self ..)) (parts_of hr hi fun s hs => hok s (List.mem_cons_of_mem _ hs))
theorem One.cells {s : SV} (h : One s) : cellsS s = [s] := by cases h <;> rfl
theorem Qs.buildL {α : Type} {t E by' len : Nat} {z0 : Value} [ht : TSlice P t E] [hI : TInfo P E 1 by' [z0]] {parts : List (Nat × Operand)} (enc1 : α → SV) (d : α) (l : List α) (h1 : ∀ a, One (enc1 a)) (ha : evs F (parts.map (·.2)) = some (l.map enc1)) (hi : parts.map (·.1) = List.range' 0 parts.length)
    (hl : l.length = len) (h0 : 0 < len) (hmax : len ≤ 16777216) (hz : z0.oneCell' = true) : Qs P Γ F L ⟨dst, .buildSlice t len parts.toArray, ty, pos, aft, g⟩ (.sl 1 l.length (elOf (fun a => [enc1 a]) d l)) := by
  have hp := parts_of ha hi (fun s hs => by obtain ⟨a, _, rfl⟩ := List.mem_map.1 hs; exact .one (h1 a))
  have hc : ∀ a, cellsS (enc1 a) = [enc1 a] := fun a => (h1 a).cells
  refine (Qs.buildSlice (sz := 1) (z := [z0]) hp (by simpa using hl) (fun s hs => by obtain ⟨a, _, rfl⟩ := List.mem_map.1 hs; rw [hc]; rfl) rfl (by omega) (by omega) (by simpa using hz)).sub ?_
  subst hl
  refine Sub.sl fun i hi => ?_
  simp only [elOf, List.getD_eq_getElem?_getD, List.getElem?_map, List.getElem?_eq_getElem hi, Option.map_some, Option.getD_some, hc]
theorem Qs.buildBytes {t E by' len : Nat} [ht : TSlice P t E] [hI : TInfo P E 1 by' [.int .u8 0]] {parts : List (Nat × Operand)} (l : List UInt8) (ha : evs F (parts.map (·.2)) = some (l.map byte)) (hi : parts.map (·.1) = List.range' 0 parts.length)
    (hl : l.length = len) (h0 : 0 < len) (hmax : len ≤ 16777216) : Qs P Γ F L ⟨dst, .buildSlice t len parts.toArray, ty, pos, aft, g⟩ (bsl l) := Qs.buildL byte 0 l (fun _ => .val rfl) ha hi hl h0 hmax rfl
theorem Qs.buildTexts {t E by' len : Nat} [ht : TSlice P t E] [hI : TInfo P E 1 by' [.string ⟨#[]⟩]] {parts : List (Nat × Operand)} (l : List (List UInt8)) (ha : evs F (parts.map (·.2)) = some (l.map str)) (hi : parts.map (·.1) = List.range' 0 parts.length)
    (hl : l.length = len) (h0 : 0 < len) (hmax : len ≤ 16777216) : Qs P Γ F L ⟨dst, .buildSlice t len parts.toArray, ty, pos, aft, g⟩ (ssl l) := Qs.buildL str [] l (fun _ => .val rfl) ha hi hl h0 hmax rfl
theorem SrcOK.row {xt E E' sz m : Nat} [h : TSlice P xt E] {x : Operand} {v : Value} {el2 : Nat → List SV} (hx : ev F x = some (.val v)) (i : Nat) (hi : L[i]? = some (.row v E' sz m el2)) : SrcOK P Γ F L sz xt x m el2 := by
  intro ρ w hws hev
  have hv : ρ x = v := (hev _ hx).val_eq
  rcases hws.holds _ (mem_of_idx hi) with ⟨rfl, rfl⟩ | ⟨b, cap, cur, fz, rfl, hbk, hu, hnc, hcm, hcs, hone, hell, hrel⟩
  · refine ⟨[], ⟨⟨_, h.ok, by simp⟩, fun w' => by rw [hv]; simp [Builtin.lenOf], ?_, ?_, by simp, by simp⟩, by intro i hi; omega, by intro i j hi; omega⟩
    · rw [hv]; simp [Builtin.firstCells]
    · rw [hv]; simp [Builtin.firstCells]
  · have hle : m * sz ≤ cur.size := by rw [hcs]; exact Nat.mul_le_mul_right _ hnc
    have hcell : ∀ w' : World, w'.heap = w.heap → (Builtin.firstCells sz m (.slice (some ⟨b, 0, none⟩) m cap)).run P w' = .ok (cur.toList.take (m * sz)).toArray w' := by
      intro w' hw
      refine run_firstCells_some (P := P) w' sz m ⟨b, 0, none⟩ m cap _ (by simp only [List.length_take, Array.length_toList]; omega) ?_
      intro j u hu
      have hj : j < m * sz := by
        rcases Nat.lt_or_ge j (m * sz) with h | h
        · exact h
        · rw [List.getElem?_eq_none (by simp only [List.length_take]; omega)] at hu; simp at hu
      rw [List.getElem?_take, if_pos hj] at hu
      rw [add_plain, Nat.zero_add]
      have : w'.cell? ⟨b, j, none⟩ = w.cell? ⟨b, j, none⟩ := by simp [World.cell?, hw]
      rw [this, obj_cell hbk]
      simpa using hu
    refine ⟨cur.toList.take (m * sz), ⟨⟨_, h.ok, by simp⟩, fun w' => by rw [hv]; simp [Builtin.lenOf], ?_, ?_, by simp only [List.length_take, Array.length_toList]; omega, fun u hu => hone u (List.mem_of_mem_take hu)⟩, hell, fun i' j hi' hj => ?_⟩
    · rw [hv]; exact hcell w rfl
    · rw [hv]; exact hcell w.drew rfl
    · have := idx_lt hi' hj
      have e : (cur.toList.take (m * sz)).getD (i' * sz + j) undef = cur.toList.getD (i' * sz + j) undef := by
        simp only [List.getD_eq_getElem?_getD, List.getElem?_take, this, if_true]
      rw [e]; exact hrel i' j hi' hj
theorem J.appendNil {α : Type} {d t xt E sz by' : Nat} {z : List Value} [ht : TSlice P t E] [hI : TInfo P E sz by' z] {x : Operand} {enc : α → List SV} {dd : α} {l2 : List α}
    (hx : SrcOK P Γ F (.row (.slice none 0 0) E sz 0 (elOf enc dd []) :: L) sz xt x l2.length (elOf enc dd l2)) (hz : z.length = sz) (hz1 : z.all (·.oneCell') = true)
    (hb : l2.length ≤ maxLen ∧ l2.length * by' ≤ 140737488355328) (hlt : Nat.blt d Γ.nt = true) (k : ∀ v', v'.oneCell' = true → J P Γ ops Q ((d, .val v') :: F) (.row v' E sz l2.length (elOf enc dd l2) :: L) rest) :
    J P Γ ops Q F L (⟨some d, .call { callee := .builtin .append, args := #[.const (.slice none 0 0), x], argTypes := #[t, xt] }, ty, pos, aft, none⟩ :: rest) :=
  J.rowNil E sz (elOf enc dd []) (J.appendL (l := []) (s := .const (.slice none 0 0)) rfl hx hz hz1 (by simpa using hb) hlt k)
theorem WSt.rowNil {w : World} (E sz : Nat) (el : Nat → List SV) (h : WSt Γ L w) : WSt Γ (.row (.slice none 0 0) E sz 0 el :: L) w :=
  ⟨h.os, h.tape, h.output, h.size, h.keep, h.zlt, h.nodup, h.foot, fun o ho => by
    rcases List.mem_cons.1 ho with rfl | ho
    · exact .inl ⟨rfl, rfl⟩
    · exact h.holds o ho⟩
theorem St.rowNil {a : Act} {w : World} (E sz : Nat) (el : Nat → List SV) (h : St Γ F L a w) : St Γ F (.row (.slice none 0 0) E sz 0 el :: L) a w := ⟨h.ws.rowNil E sz el, h.nt, h.df, h.fr⟩
theorem W.rowNil {c : Code} (E sz : Nat) (el : Nat → List SV) (h : W P Γ Q F (.row (.slice none 0 0) E sz 0 el :: L) c) : W P Γ Q F L c := ⟨fun a w hst => h.go a w (hst.rowNil E sz el)⟩
theorem N.rowNil {K : Act → World → Prop} (E sz : Nat) (el : Nat → List SV) (h : N Γ K F (.row (.slice none 0 0) E sz 0 el :: L)) : N Γ K F L := ⟨fun a w hst => h.go a w (hst.rowNil E sz el)⟩
theorem JP.rowNil {S idx : List Nat} (E sz : Nat) (el : Nat → List SV) (h : JP P Γ ops Q S idx F (.row (.slice none 0 0) E sz 0 el :: L)) : JP P Γ ops Q S idx F L :=
  ⟨fun k listed a w hp hk => h.go k listed a w ⟨hp.sz, hp.lo, hp.hi, hp.cl, hp.ws.rowNil E sz el, hp.nt, hp.df, hp.fr⟩ hk⟩
theorem JP.append {α : Type} {l : List Oper} {S idx : List Nat} {G : List (Nat × SV)} {d t xt E sz by' : Nat} {z : List Value} [ht : TSlice P t E] [hI : TInfo P E sz by' z] {s x : Operand} {v : Value} {enc : α → List SV} {dd : α} {m m2 : List α} (i : Nat) (ks S' idx' : List Nat) (hc : (okIdx l.toArray S idx && okStep l.toArray S idx i ks S' idx') = true)
    (hoi : l[i]? = some ⟨some d, .call { callee := .builtin .append, args := #[s, x], argTypes := #[t, xt] }, ty, pos, aft, g⟩) (hre : SegC P Γ l.toArray (.row v E sz m.length (elOf enc dd m) :: L) G (opsAt l idx) (Ag G idx.length))
    (hsv : ev (keep ks G) s = some (.val v)) (hx : SrcOK P Γ (keep ks G) (.row v E sz m.length (elOf enc dd m) :: L) sz xt x m2.length (elOf enc dd m2)) (hz : z.length = sz) (hz1 : z.all (·.oneCell') = true)
    (hb : m.length + m2.length ≤ maxLen ∧ (m.length + m2.length) * by' ≤ 140737488355328) (hlt : Nat.blt d Γ.nt = true)
    (k : ∀ v', v'.oneCell' = true → JP P Γ l.toArray Q S' idx' ((d, .val v') :: G) (.row v' E sz (m ++ m2).length (elOf enc dd (m ++ m2)) :: L)) : JP P Γ l.toArray Q S idx G (.row v E sz m.length (elOf enc dd m) :: L) :=
  JP.do1 i ks S' idx' hc hoi hre (OpS.appendRow hsv hx hz hz1 hb.1 hb.2 (el' := elOf enc dd (m ++ m2)) (fun i hi => elOf_append_left enc dd m m2 i hi) (fun i _ => elOf_append_right enc dd m m2 i)) hlt (by
    rintro r L' ⟨v', hv', rfl, rfl⟩
    have := k v' hv'
    rwa [List.length_append] at this)
theorem JP.call [Gl P] [Globs P Γ] {l : List Oper} {S idx : List Nat} {G : List (Nat × SV)} {d f : Nat} [hT : TFunc P f] {xs : List Operand} {ts : Array TypeId} {args : List SV} {Lc Lr : List Own} {R : SV → List Own → Prop} (i : Nat) (ks S' idx' : List Nat) (hF : FnC P f args Lc R) (hL : L = Lc ++ Lr) (hc : (okIdx l.toArray S idx && okStep l.toArray S idx i ks S' idx') = true)
    (hoi : l[i]? = some ⟨some d, .call { callee := .value (.func f), args := xs.toArray, argTypes := ts }, ty, pos, aft, g⟩) (hre : SegC P Γ l.toArray L G (opsAt l idx) (Ag G idx.length)) (ha : Args (keep ks G) xs args) (hlt : Nat.blt d Γ.nt = true)
    (k : ∀ s Lc', R s Lc' → JP P Γ l.toArray Q S' idx' ((d, s) :: G) (Lc' ++ Lr)) : JP P Γ l.toArray Q S idx G L :=
  JP.do1 i ks S' idx' hc hoi hre (OpS.call hF hL ha) hlt (by rintro s L' ⟨Lc', hR, rfl⟩; exact k s Lc' hR)
theorem JP.storeAg {l : List Oper} {S idx : List Nat} {G : List (Nat × SV)} {T b o n : Nat} [hT : TAg P T n] {x y : Operand} (i : Nat) (ks S' idx' : List Nat) (hc : (okIdx l.toArray S idx && okStep l.toArray S idx i ks S' idx') = true) (hoi : l[i]? = some ⟨none, .store T x y, ty, pos, aft, g⟩)
    (hre : SegC P Γ l.toArray L G (opsAt l idx) (Ag G idx.length)) (hx : ev (keep ks G) x = some (.val (.pointer (some ⟨b, o, none⟩)))) {ds : List SV} (hy : ev (keep ks G) y = some (.agg ds)) (hn : ds.length = n) (j : Nat) {T' : TypeId} {cs cs' : List SV} {L' : List Own}
    (hj : L[j]? = some (.obj b T' cs)) (ho : Nat.ble (o + n) cs.length = true) (hcs : cs.take o ++ ds ++ cs.drop (o + ds.length) = cs') (hL : L.set j (.obj b T' cs') = L') (k : JP P Γ l.toArray Q S' idx' G L') : JP P Γ l.toArray Q S idx G L :=
  JP.do0 i ks S' idx' hc hoi hre (OpS.storeAg hx hy hn j hj (Nat.le_of_ble_eq_true ho)) (by rintro sv L'' rfl; rw [hcs, hL]; exact k)
theorem J.appendAt {α : Type} {d t xt E sz by' : Nat} {z : List Value} [ht : TSlice P t E] [hI : TInfo P E sz by' z] {s x : Operand} {v : Value} {enc : α → List SV} {dd : α} {l l2 : List α} (i : Nat)
    (hi : L[i]? = some (.row v E sz l.length (elOf enc dd l)))
    (hsv : ev (F := F) s = some (.val v)) (hx : SrcOK P Γ F (.row v E sz l.length (elOf enc dd l) :: L.eraseIdx i) sz xt x l2.length (elOf enc dd l2)) (hz : z.length = sz) (hz1 : z.all (·.oneCell') = true)
    (hb : l.length + l2.length ≤ maxLen ∧ (l.length + l2.length) * by' ≤ 140737488355328) (hlt : Nat.blt d Γ.nt = true) (k : ∀ v', v'.oneCell' = true → J P Γ ops Q ((d, .val v') :: F) (L.set i (.row v' E sz (l ++ l2).length (elOf enc dd (l ++ l2)))) rest) :
    J P Γ ops Q F L (⟨some d, .call { callee := .builtin .append, args := #[s, x], argTypes := #[t, xt] }, ty, pos, aft, none⟩ :: rest) :=
  J.perm (perm_erase hi) (J.appendL hsv hx hz hz1 hb hlt fun v' hv' => J.perm (perm_set hi) (k v' hv'))
theorem W.freezeAt {c : Code} (j i : Nat) {v : Value} {E sz n : Nat} {el : Nat → List SV} (hj : L[j]? = some (.row v E sz n el)) (hi : look F i = some (.val v)) (hmax : n ≤ maxLen) (h : W P Γ Q ((i, .sl sz n el) :: F) (L.eraseIdx j) c) : W P Γ Q F L c :=
  W.perm (perm_erase hj) (W.freeze i hi hmax h)
theorem Sub.slOf {α : Type} {sz n : Nat} {el : Nat → List SV} {enc : α → List SV} {d : α} {l : List α} (hn : n = l.length) (h : ∀ i, i < n → el i = enc (l.getD i d)) : Sub (.sl sz n el) (.sl sz l.length (elOf enc d l)) := by
  subst hn; exact Sub.sl h
theorem Pv.takeL {α : Type} {T E sz by' : Nat} {z : List Value} [h : TSlice P T E] [hI : TInfo P E sz by' z] {x j : Operand} {k : IntKind} {m : Int} {enc : α → List SV} {d : α} {l : List α} (c : Nat) (hx : ev F x = some (.sl sz l.length (elOf enc d l))) (hj : ev F j = some (.val (.int k m))) (hm : m = (c : Int)) (hc : c ≤ l.length) :
    Pv P Γ F L ⟨dst, .slice T x none (some j) none, ty, pos, aft, g⟩ (.sl sz (l.take c).length (elOf enc d (l.take c))) := by
  subst hm
  refine (Pv.slSh hx hj (by omega) (by omega)).sub (Sub.slOf (by rw [List.length_take, Int.toNat_natCast]; omega) fun i hi => ?_)
  simp only [Int.toNat_natCast] at hi
  simp only [elOf, List.getD_eq_getElem?_getD, List.getElem?_take, hi, if_true]
theorem Cx.takeL {α : Type} {T E sz by' : Nat} {z : List Value} [h : TSlice P T E] [hI : TInfo P E sz by' z] {x j : Operand} {k : IntKind} {m : Int} {enc : α → List SV} {d : α} {l : List α} (c : Nat) (hx : ev F x = some (.sl sz l.length (elOf enc d l))) (hj : ev F j = some (.val (.int k m))) (hm : m = (c : Int)) (hc : c ≤ l.length) {d0 : Nat} {K : List (Nat × SV) → Prop} (hlt : Nat.blt d0 Γ.nt = true) (hr : SegC P Γ ops L ((d0, (.sl sz (l.take c).length (elOf enc d (l.take c)))) :: F) rest K) : SegC P Γ ops L F (⟨some d0, .slice T x none (some j) none, ty, pos, aft, none⟩ :: rest) K :=
  SegC.q (Qs.pv (by apply Pv.takeL <;> assumption)) hlt hr
theorem Pv.dropL {α : Type} {T E sz by' : Nat} {z : List Value} [h : TSlice P T E] [hI : TInfo P E sz by' z] {x j : Operand} {k : IntKind} {m : Int} {enc : α → List SV} {d : α} {l : List α} (c : Nat) (hx : ev F x = some (.sl sz l.length (elOf enc d l))) (hj : ev F j = some (.val (.int k m))) (hm : m = (c : Int)) (hc : c ≤ l.length) :
    Pv P Γ F L ⟨dst, .slice T x (some j) none none, ty, pos, aft, g⟩ (.sl sz (l.drop c).length (elOf enc d (l.drop c))) := by
  subst hm
  refine (Pv.slSl hx hj (by omega) (by omega)).sub (Sub.slOf (by rw [List.length_drop, Int.toNat_natCast]) fun i hi => ?_)
  simp only [elOf, List.getD_eq_getElem?_getD, List.getElem?_drop, Int.toNat_natCast]
theorem Jx.dropL {α : Type} {T E sz by' : Nat} {z : List Value} [h : TSlice P T E] [hI : TInfo P E sz by' z] {x j : Operand} {k : IntKind} {m : Int} {enc : α → List SV} {d : α} {l : List α} (c : Nat) (hx : ev F x = some (.sl sz l.length (elOf enc d l))) (hj : ev F j = some (.val (.int k m))) (hm : m = (c : Int)) (hc : c ≤ l.length) {d0 : Nat} (hlt : Nat.blt d0 Γ.nt = true) (k : J P Γ ops Q ((d0, (.sl sz (l.drop c).length (elOf enc d (l.drop c)))) :: F) L rest) : J P Γ ops Q F L (⟨some d0, .slice T x (some j) none none, ty, pos, aft, none⟩ :: rest) :=
  J.pv (by apply Pv.dropL <;> assumption) hlt k
theorem Pv.lenRow {T E : Nat} [h : TSlice P T E] {x : Operand} {v : Value} {E' sz n : Nat} {el : Nat → List SV} (hx : ev F x = some (.val v)) (i : Nat) (hi : L[i]? = some (.row v E' sz n el)) :
    Pv P Γ F L ⟨dst, .call { callee := .builtin .len, args := #[x], argTypes := #[T] }, ty, pos, aft, g⟩ (int n) := fun ρ w hst => by
  have hv := hst.evv (x := x) (by simp [Op.operands, Call.operands]) hx
  rcases hst.ws.holds _ (mem_of_idx hi) with ⟨rfl, rfl⟩ | ⟨b, cap, cur, fz, rfl, _⟩
  · exact ⟨_, by simp [execOp, resolve, invoke, builtin, hv, Builtin.len_, run_underlying h.ok, goInt], .val _⟩
  · exact ⟨_, by simp [execOp, resolve, invoke, builtin, hv, Builtin.len_, run_underlying h.ok, goInt], .val _⟩
theorem Jx.lenRow {T E : Nat} [h : TSlice P T E] {x : Operand} {v : Value} {E' sz n : Nat} {el : Nat → List SV} (hx : ev F x = some (.val v)) (i : Nat) (hi : L[i]? = some (.row v E' sz n el)) {d0 : Nat} (hlt : Nat.blt d0 Γ.nt = true) (k : J P Γ ops Q ((d0, (int n)) :: F) L rest) : J P Γ ops Q F L (⟨some d0, .call { callee := .builtin .len, args := #[x], argTypes := #[T] }, ty, pos, aft, none⟩ :: rest) :=
  J.pv (by apply Pv.lenRow <;> assumption) hlt k
end
end Go.Sse
namespace Go.Sse
open Go Go.Sse
set_option linter.unusedVariables false
set_option linter.unusedSimpArgs false
inductive Leaf where
  | b | i (k : IntKind) | s
def Leaf.fits : Leaf → Value → Bool
  | .b, .bool _ => true
  | .i k, .int k' _ => decide (k = k')
  | .s, .string _ => true
  | _, _ => false
def fitsL : List Leaf → List Value → Bool
  | [], [] => true
  | l :: ls, v :: vs => l.fits v && fitsL ls vs
  | _, _ => false
theorem fitsL_len : ∀ {ls : List Leaf} {vs : List Value}, fitsL ls vs = true → vs.length = ls.length
  | [], [], _ => rfl
  | l :: ls, v :: vs, h => by simp only [fitsL, Bool.and_eq_true] at h; simp [fitsL_len h.2]
  | [], v :: vs, h => by simp [fitsL] at h
  | l :: ls, [], h => by simp [fitsL] at h
theorem fitsL_append : ∀ {as1 bs : List Leaf} {vs : List Value}, fitsL (as1 ++ bs) vs = true → fitsL as1 (vs.take as1.length) = true ∧ fitsL bs (vs.drop as1.length) = true
  | [], bs, vs, h => by simpa [fitsL] using h
  | a :: as1, bs, [], h => by simp [fitsL] at h
  | a :: as1, bs, v :: vs, h => by
    simp only [List.cons_append, fitsL, Bool.and_eq_true] at h
    obtain ⟨h1, h2⟩ := fitsL_append h.2
    simp [fitsL, h.1, h1, h2]
def leafFields (P : Program) (g : TypeId → Option (List Leaf)) : List Field → Nat → Option (List Leaf)
  | [], _ => some []
  | f :: fs, off => if f.offset = off ∧ f.name ≠ "_" then
      match g f.type with
      | some l => if P.cellsOf f.type = l.length then (leafFields P g fs (off + l.length)).map (l ++ ·) else none
      | none => none
    else none
def leavesAt (P : Program) : Nat → TypeId → Option (List Leaf)
  | 0, _ => none
  | d + 1, t => match P.underlying t with
    | some .bool => some [.b]
    | some (.int k) => some [.i k]
    | some .string => some [.s]
    | some (.array n e) => match leavesAt P d e with
      | some l => if P.cellsOf e = l.length then some (List.replicate n l).flatten else none
      | none => none
    | some (.struct fs) => if P.stoodInHeld t = true then none else leafFields P (leavesAt P d) fs.toList 0
    | _ => none
def isAggD : Option TypeDesc → Bool
  | some (.struct _) | some (.array _ _) => true
  | _ => false
def Shp (P : Program) (t : TypeId) (ls : List Leaf) (x : Value) : Prop :=
  if isAggD (P.underlying t) = true then ∃ cs, x = .agg cs ∧ fitsL ls cs.toList = true else fitsL ls [x] = true
def EqOK (P : Program) (dd : Nat) (t : TypeId) (ls : List Leaf) : Prop :=
  ∀ (w : World) (x y : Value), Shp P t ls x → Shp P t ls y → ∃ r : Bool, (Op.equalIn dd t x y).run P w = .ok r w ∧ (r = true ↔ x = y)
section
variable {P : Program}
theorem run_part_leaf {e : TypeId} {d : Nat} {l : List Leaf} {xs : Array Value} {off : Nat} (w : World) (hl : leavesAt P d e = some l) (hc : P.cellsOf e = l.length) (hf : fitsL l ((xs.toList.drop off).take l.length) = true) :
    ∃ a, (part e xs off).run P w = .ok a w ∧ Shp P e l a ∧ ((isAggD (P.underlying e) = true ∧ a = .agg ((xs.toList.drop off).take l.length).toArray) ∨ (isAggD (P.underlying e) = false ∧ (xs.toList.drop off).take l.length = [a])) := by
  cases d with
  | zero => simp [leavesAt] at hl
  | succ d =>
    cases hu : P.underlying e with
    | none => simp [leavesAt, hu] at hl
    | some kd =>
      have one : ∀ lf : Leaf, l = [lf] → isAggD (some kd) = false → (∀ w : World, (isAgg e).run P w = .ok false w) → ∃ a, (part e xs off).run P w = .ok a w ∧ Shp P e l a ∧ ((isAggD (some kd) = true ∧ a = .agg ((xs.toList.drop off).take l.length).toArray) ∨ (isAggD (some kd) = false ∧ (xs.toList.drop off).take l.length = [a])) := by
        intro lf hlf hk hag
        subst hlf
        have hlen := fitsL_len hf
        simp only [List.length_cons, List.length_nil, Nat.zero_add] at hlen hf ⊢
        obtain ⟨a, ha⟩ := List.length_eq_one_iff.1 hlen
        have hx : xs[off]? = some a := by
          have : ((xs.toList.drop off).take 1)[0]? = some a := by rw [ha]; rfl
          simpa using this
        refine ⟨a, by simp [part, hag, hx], ?_, .inr ⟨hk, ha⟩⟩
        unfold Shp
        rw [hu, if_neg (by rw [hk]; simp), ← ha]
        exact hf
      have agg : isAggD (some kd) = true → (∀ w : World, (isAgg e).run P w = .ok true w) → ∃ a, (part e xs off).run P w = .ok a w ∧ Shp P e l a ∧ ((isAggD (some kd) = true ∧ a = .agg ((xs.toList.drop off).take l.length).toArray) ∨ (isAggD (some kd) = false ∧ (xs.toList.drop off).take l.length = [a])) := by
        intro hk hag
        obtain ⟨i, hi⟩ := info_of_underlying hu
        have hsz : i.size = l.length := by rw [← hc]; simp [Program.cellsOf, hi]
        have hl' : (xs.extract off (off + l.length)) = ((xs.toList.drop off).take l.length).toArray := by
          apply Array.ext'
          simp [List.extract_eq_take_drop]
        refine ⟨.agg ((xs.toList.drop off).take l.length).toArray, ?_, ?_, .inl ⟨hk, rfl⟩⟩
        · simp [part, hag, run_sizeOf w hi, hc, hl']
        · unfold Shp
          rw [hu, if_pos hk]
          exact ⟨_, rfl, hf⟩
      cases kd
      case bool => simp only [leavesAt, hu, Option.some.injEq] at hl; exact one _ hl.symm rfl (fun w => by simp [isAgg, run_underlying hu])
      case int k => simp only [leavesAt, hu, Option.some.injEq] at hl; exact one _ hl.symm rfl (fun w => by simp [isAgg, run_underlying hu])
      case string => simp only [leavesAt, hu, Option.some.injEq] at hl; exact one _ hl.symm rfl (fun w => by simp [isAgg, run_underlying hu])
      case array n e' => exact agg rfl (fun w => by simp [isAgg, run_underlying hu])
      case struct fs => exact agg rfl (fun w => by simp [isAgg, run_underlying hu])
      all_goals (simp [leavesAt, hu] at hl; done)
theorem part_eq_iff {k : Bool} {a b : Value} {as1 bs : List Value} (ha : (k = true ∧ a = .agg as1.toArray) ∨ (k = false ∧ as1 = [a])) (hb : (k = true ∧ b = .agg bs.toArray) ∨ (k = false ∧ bs = [b])) : a = b ↔ as1 = bs := by
  rcases ha with ⟨h1, rfl⟩ | ⟨h1, rfl⟩
  · rcases hb with ⟨h2, rfl⟩ | ⟨h2, rfl⟩
    · simp
    · rw [h1] at h2; cases h2
  · rcases hb with ⟨h2, rfl⟩ | ⟨h2, rfl⟩
    · rw [h1] at h2; cases h2
    · simp
theorem eqFields_leaf {d dd : Nat} (IH : ∀ t l, leavesAt P d t = some l → EqOK P dd t l) (w : World) (xs ys : Array Value) : ∀ (fs : List Field) (off : Nat) (ls : List Leaf), leafFields P (leavesAt P d) fs off = some ls → fitsL ls (xs.toList.drop off) = true → fitsL ls (ys.toList.drop off) = true →
    ∃ r : Bool, (Op.eqFields dd xs ys fs).run P w = .ok r w ∧ (r = true ↔ xs.toList.drop off = ys.toList.drop off)
  | [], off, ls, h, hx, hy => by
    simp only [leafFields, Option.some.injEq] at h
    subst h
    have h1 := fitsL_len hx; have h2 := fitsL_len hy
    simp only [List.length_nil] at h1 h2
    refine ⟨true, by simp [Op.eqFields], ?_⟩
    rw [List.eq_nil_of_length_eq_zero h1, List.eq_nil_of_length_eq_zero h2]
    simp
  | f :: fs, off, ls, h, hx, hy => by
    unfold leafFields at h
    split at h
    · rename_i hof
      obtain ⟨rfl, hnm⟩ := hof
      split at h
      · rename_i l hl
        split at h
        · rename_i hc
          cases hr : leafFields P (leavesAt P d) fs (f.offset + l.length) with
          | none => rw [hr] at h; simp at h
          | some ls' =>
            rw [hr] at h
            simp only [Option.map_some, Option.some.injEq] at h
            subst h
            obtain ⟨x1, x2⟩ := fitsL_append hx
            obtain ⟨y1, y2⟩ := fitsL_append hy
            rw [List.drop_drop] at x2 y2
            obtain ⟨a, pa, sa, ea⟩ := run_part_leaf w hl hc x1
            obtain ⟨b, pb, sb, eb⟩ := run_part_leaf w hl hc y1
            obtain ⟨r, hr1, hr2⟩ := IH f.type l hl w a b sa sb
            have hab := part_eq_iff ea eb
            obtain ⟨r', hr1', hr2'⟩ := eqFields_leaf IH w xs ys fs (f.offset + l.length) ls' hr x2 y2
            have split2 : xs.toList.drop f.offset = ys.toList.drop f.offset ↔ ((xs.toList.drop f.offset).take l.length = (ys.toList.drop f.offset).take l.length ∧ xs.toList.drop (f.offset + l.length) = ys.toList.drop (f.offset + l.length)) := by
              constructor
              · intro h; rw [← List.drop_drop, ← List.drop_drop, h]; exact ⟨rfl, rfl⟩
              · rintro ⟨h1, h2⟩
                rw [← List.drop_drop, ← List.drop_drop] at h2
                rw [← List.take_append_drop l.length (xs.toList.drop f.offset), ← List.take_append_drop l.length (ys.toList.drop f.offset), h1, h2]
            have hn : ¬ f.name = "_" := hnm
            cases r with
            | false =>
              refine ⟨false, by simp [Op.eqFields, hn, pa, pb, hr1], ?_⟩
              simp only [Bool.false_eq_true, false_iff]
              intro he
              have := hr2.2 (hab.2 (split2.1 he).1)
              cases this
            | true =>
              refine ⟨r', by simp [Op.eqFields, hn, pa, pb, hr1, hr1'], ?_⟩
              rw [hr2', split2]
              exact ⟨fun h => ⟨hab.1 (hr2.1 rfl), h⟩, fun h => h.2⟩
        · cases h
      · cases h
    · cases h
theorem eqItems_leaf {d dd : Nat} {e : TypeId} {l : List Leaf} (hl : leavesAt P d e = some l) (hc : P.cellsOf e = l.length) (IH : EqOK P dd e l) (w : World) (xs ys : Array Value) : ∀ (js : List Nat), (∀ j ∈ js, fitsL l ((xs.toList.drop (j * l.length)).take l.length) = true ∧ fitsL l ((ys.toList.drop (j * l.length)).take l.length) = true) →
    ∃ r : Bool, (Op.eqItems dd e (P.cellsOf e) xs ys js).run P w = .ok r w ∧ (r = true ↔ ∀ j ∈ js, (xs.toList.drop (j * l.length)).take l.length = (ys.toList.drop (j * l.length)).take l.length)
  | [], _ => ⟨true, by simp [Op.eqItems], by simp⟩
  | j :: js, h => by
    obtain ⟨x1, y1⟩ := h j (List.mem_cons_self ..)
    obtain ⟨a, pa, sa, ea⟩ := run_part_leaf w hl hc x1
    obtain ⟨b, pb, sb, eb⟩ := run_part_leaf w hl hc y1
    obtain ⟨r, hr1, hr2⟩ := IH w a b sa sb
    have hab := part_eq_iff ea eb
    obtain ⟨r', hr1', hr2'⟩ := eqItems_leaf hl hc IH w xs ys js fun k hk => h k (List.mem_cons_of_mem _ hk)
    rw [hc] at hr1' ⊢
    cases r with
    | false =>
      refine ⟨false, by simp [Op.eqItems, pa, pb, hr1], ?_⟩
      simp only [Bool.false_eq_true, false_iff]
      intro he
      have := hr2.2 (hab.2 (he j (List.mem_cons_self ..)))
      cases this
    | true =>
      refine ⟨r', by simp [Op.eqItems, pa, pb, hr1, hr1'], ?_⟩
      rw [hr2']
      constructor
      · intro h k hk
        rcases List.mem_cons.1 hk with rfl | hk
        · exact hab.1 (hr2.1 rfl)
        · exact h k hk
      · exact fun h k hk => h k (List.mem_cons_of_mem _ hk)
theorem fits_rep : ∀ {n : Nat} {l : List Leaf} {vs : List Value}, fitsL (List.replicate n l).flatten vs = true → vs.length = n * l.length ∧ ∀ j, j < n → fitsL l ((vs.drop (j * l.length)).take l.length) = true
  | 0, l, vs, h => by
    have := fitsL_len h
    exact ⟨by simpa using this, by omega⟩
  | n + 1, l, vs, h => by
    rw [List.replicate_succ, List.flatten_cons] at h
    obtain ⟨h1, h2⟩ := fitsL_append h
    obtain ⟨h3, h4⟩ := fits_rep h2
    have h5 := fitsL_len h1
    rw [List.length_take] at h5
    rw [List.length_drop] at h3
    refine ⟨by rw [Nat.add_mul, Nat.one_mul]; omega, fun j hj => ?_⟩
    cases j with
    | zero => simpa using h1
    | succ j =>
      have := h4 j (by omega)
      rw [List.drop_drop] at this
      rwa [show (j + 1) * l.length = l.length + j * l.length by rw [Nat.add_mul, Nat.one_mul]; omega]
theorem chunks_eq {n m : Nat} {xs ys : List Value} (hx : xs.length = n * m) (hy : ys.length = n * m) (h : ∀ j, j < n → (xs.drop (j * m)).take m = (ys.drop (j * m)).take m) : xs = ys := by
  induction n generalizing xs ys with
  | zero =>
    have h1 : xs = [] := List.eq_nil_of_length_eq_zero (by simpa using hx)
    have h2 : ys = [] := List.eq_nil_of_length_eq_zero (by simpa using hy)
    rw [h1, h2]
  | succ n ih =>
    rw [Nat.add_mul, Nat.one_mul] at hx hy
    have h0 := h 0 (by omega)
    simp only [Nat.zero_mul, List.drop_zero] at h0
    have h1 := ih (xs := xs.drop m) (ys := ys.drop m) (by rw [List.length_drop]; omega) (by rw [List.length_drop]; omega) fun j hj => by
      have := h (j + 1) (by omega)
      rw [Nat.add_mul, Nat.one_mul, Nat.add_comm (j * m) m] at this
      rw [List.drop_drop, List.drop_drop]; exact this
    rw [← List.take_append_drop m xs, ← List.take_append_drop m ys, h0, h1]
theorem eq_leaf (d' : Nat) : ∀ (m : Nat) (t : TypeId) (ls : List Leaf), leavesAt P m t = some ls → EqOK P (d' + m) t ls
  | 0, t, ls, h => by simp [leavesAt] at h
  | m + 1, t, ls, h => by
    intro w x y hx hy
    cases hu : P.underlying t with
    | none => simp [leavesAt, hu] at h
    | some kd =>
      unfold Shp at hx hy
      rw [hu] at hx hy
      cases kd
      case bool =>
        simp only [leavesAt, hu, Option.some.injEq] at h; subst h
        simp only [isAggD, Bool.false_eq_true, if_false] at hx hy
        cases x <;> simp [fitsL, Leaf.fits] at hx
        cases y <;> simp [fitsL, Leaf.fits] at hy
        exact ⟨_, run_equalIn_bool' w (d' + m) t _ _ hu, by simp⟩
      case int k =>
        simp only [leavesAt, hu, Option.some.injEq] at h; subst h
        simp only [isAggD, Bool.false_eq_true, if_false] at hx hy
        cases x <;> simp [fitsL, Leaf.fits] at hx
        cases y <;> simp [fitsL, Leaf.fits] at hy
        subst hx; subst hy
        exact ⟨_, run_equalIn_int w (d' + m) t _ _ _ _ hu, by simp⟩
      case string =>
        simp only [leavesAt, hu, Option.some.injEq] at h; subst h
        simp only [isAggD, Bool.false_eq_true, if_false] at hx hy
        cases x <;> simp [fitsL, Leaf.fits] at hx
        cases y <;> simp [fitsL, Leaf.fits] at hy
        rename_i a b
        exact ⟨_, run_equalIn_string w (d' + m) t _ _ hu, by
          rw [beq_iff_eq, ByteArray.toList_eq, ByteArray.toList_eq]
          obtain ⟨⟨a⟩⟩ := a
          obtain ⟨⟨b⟩⟩ := b
          simp⟩
      case array n e =>
        simp only [isAggD, if_true] at hx hy
        obtain ⟨xs, rfl, fx⟩ := hx
        obtain ⟨ys, rfl, fy⟩ := hy
        unfold leavesAt at h
        simp only [hu] at h
        split at h
        · rename_i l hl
          split at h
          · rename_i hc
            simp only [Option.some.injEq] at h
            subst h
            obtain ⟨lx, hx⟩ := fits_rep fx
            obtain ⟨ly, hy⟩ := fits_rep fy
            have hpe : ∃ i, P.info? e = some i := by
              cases m with
              | zero => simp [leavesAt] at hl
              | succ m' =>
                cases hue : P.underlying e with
                | none => simp [leavesAt, hue] at hl
                | some _ => exact info_of_underlying hue
            obtain ⟨i, hi⟩ := hpe
            obtain ⟨r, hr1, hr2⟩ := eqItems_leaf hl hc (eq_leaf d' m e l hl) w xs ys (List.range n) fun j hj => ⟨hx j (List.mem_range.1 hj), hy j (List.mem_range.1 hj)⟩
            refine ⟨r, by rw [show d' + (m + 1) = (d' + m) + 1 from rfl, run_equalIn_array w (d' + m) xs ys hu hi]; exact hr1, ?_⟩
            rw [hr2]
            constructor
            · intro h
              have := chunks_eq lx ly fun j hj => h j (List.mem_range.2 hj)
              rw [Array.toList_inj.1 this]
            · intro h; cases h; exact fun _ _ => rfl
          · cases h
        · cases h
      case struct fs =>
        simp only [isAggD, if_true] at hx hy
        obtain ⟨xs, rfl, fx⟩ := hx
        obtain ⟨ys, rfl, fy⟩ := hy
        unfold leavesAt at h
        simp only [hu] at h
        split at h
        · cases h
        · rename_i hst
          have hfs : P.fieldsOf t = fs := by simp [Program.fieldsOf, hu]
          obtain ⟨r, hr1, hr2⟩ := eqFields_leaf (eq_leaf d' m) w xs ys fs.toList 0 ls h (by simpa using fx) (by simpa using fy)
          refine ⟨r, by rw [show d' + (m + 1) = (d' + m) + 1 from rfl, run_equalIn_struct w (d' + m) t xs ys (by rw [hfs]; exact hu) (by simpa using hst), hfs]; exact hr1, ?_⟩
          rw [hr2]
          simp only [List.drop_zero]
          constructor
          · intro h; rw [Array.toList_inj.1 h]
          · intro h; cases h; rfl
      all_goals (simp [leavesAt, hu] at h; done)
end
class TLeaf (P : Program) (t : Nat) (ls : outParam (List Leaf)) : Prop where
  ok : leavesAt P 20 t = some ls ∧ isAggD (P.underlying t) = true ∧ P.eqGuardType P.depth t = false
def unval : SV → Option Value
  | .val v => some v
  | _ => none
def unvals : List SV → Option (List Value)
  | [] => some []
  | s :: r => match unval s, unvals r with
    | some v, some vs => some (v :: vs)
    | _, _ => none
theorem unvals_rel {Z : Nat → Prop} {w : World} : ∀ {cs : List SV} {us vs : List Value}, unvals cs = some us → vs.length = cs.length → (∀ j, j < cs.length → Rel Z w (cs.getD j .any) (vs.getD j undef)) → vs = us
  | [], us, vs, h, hl, _ => by
    simp only [unvals, Option.some.injEq] at h
    subst h
    exact List.eq_nil_of_length_eq_zero (by simpa using hl)
  | s :: r, us, [], h, hl, _ => by simp at hl
  | s :: r, us, v :: vs, h, hl, hr => by
    simp only [unvals] at h
    cases hs : unval s with
    | none => rw [hs] at h; simp at h
    | some u =>
      cases ht : unvals r with
      | none => rw [hs, ht] at h; simp at h
      | some us' =>
        rw [hs, ht] at h
        simp only [Option.some.injEq] at h
        subst h
        have h0 := hr 0 (by simp)
        simp only [List.getD_cons_zero] at h0
        have hsv : s = .val u := by cases s <;> simp [unval] at hs; rw [hs]
        rw [hsv] at h0
        have h9 : vs = us' := unvals_rel ht (by simpa using hl) fun j hj => by simpa using hr (j + 1) (by simpa using hj)
        rw [h0.val_eq, h9]
section
variable {P : Program} {Γ : Ctx} {ops : Array Oper} {Q : Exit → Act → World → Prop} {F : List (Nat × SV)} {L : List Own} {rest : List Oper}
variable {dst : Option Tmp} {ty : TypeId} {pos : String} {aft : Array Edge} {g : Option (Nat × Bool)}
theorem agg_vals {Γ : Ctx} {L : List Own} {w : World} {cs : List SV} {us : List Value} {v : Value} (h : Rel (ZL Γ.Z L) w (.agg cs) v) (hu : unvals cs = some us) : v = .agg us.toArray := by
  cases h with
  | agg _ vs hl h1 hr => rw [unvals_rel hu hl hr]
theorem eqAg_run {t : TypeId} {ls : List Leaf} (h : TLeaf P t ls) {us vs : List Value} (hf : fitsL ls us = true) (hg : fitsL ls vs = true) (w : World) : ∃ r : Bool, (Op.equalIn 10000 t (.agg us.toArray) (.agg vs.toArray)).run P w = .ok r w ∧ (r = true ↔ us = vs) := by
  obtain ⟨h1, h2, _⟩ := h.ok
  obtain ⟨r, hr, hi⟩ := eq_leaf (P := P) 9980 20 t ls h1 w (.agg us.toArray) (.agg vs.toArray) (by unfold Shp; rw [if_pos h2]; exact ⟨_, rfl, by simpa using hf⟩) (by unfold Shp; rw [if_pos h2]; exact ⟨_, rfl, by simpa using hg⟩)
  exact ⟨r, hr, by rw [hi]; simp⟩
section
variable {t t2 : TypeId} {ls : List Leaf} [h : TLeaf P t ls] {x y : Operand} {cs ds : List SV} {us vs : List Value} (b : Bool)
theorem Pv.eqlAg (hx : ev F x = some (.agg cs)) (hy : ev F y = some (.agg ds)) (hu : unvals cs = some us) (hv : unvals ds = some vs) (hf : fitsL ls us = true) (hg : fitsL ls vs = true) (hb : b = true ↔ us = vs) :
    Pv P Γ F L ⟨dst, .binOp .eql t x y t2, ty, pos, aft, g⟩ (.val (.bool b)) := fun ρ w hst => by
  have e1 := agg_vals (hst.ev x (by simp [Op.operands]) _ hx) hu
  have e2 := agg_vals (hst.ev y (by simp [Op.operands]) _ hy) hv
  obtain ⟨r, hr, hi⟩ := eqAg_run h hf hg w
  have : r = b := by rw [Bool.eq_iff_iff, hi, hb]
  subst this
  exact ⟨_, by simp [execOp, e1, e2, run_eqGuard_agg w .eql t x y us.toArray vs.toArray h.ok.2.2, run_eql_struct, hr], .val _⟩
theorem Jx.eqlAg (hx : ev F x = some (.agg cs)) (hy : ev F y = some (.agg ds)) (hu : unvals cs = some us) (hv : unvals ds = some vs) (hf : fitsL ls us = true) (hg : fitsL ls vs = true) (hb : b = true ↔ us = vs) {d0 : Nat} (hlt : Nat.blt d0 Γ.nt = true) (k : J P Γ ops Q ((d0, (.val (.bool b))) :: F) L rest) : J P Γ ops Q F L (⟨some d0, .binOp .eql t x y t2, ty, pos, aft, none⟩ :: rest) :=
  J.pv (by apply Pv.eqlAg <;> assumption) hlt k
theorem Pv.neqAg (hx : ev F x = some (.agg cs)) (hy : ev F y = some (.agg ds)) (hu : unvals cs = some us) (hv : unvals ds = some vs) (hf : fitsL ls us = true) (hg : fitsL ls vs = true) (hb : b = true ↔ us = vs) :
    Pv P Γ F L ⟨dst, .binOp .neq t x y t2, ty, pos, aft, g⟩ (.val (.bool (!b))) := fun ρ w hst => by
  have e1 := agg_vals (hst.ev x (by simp [Op.operands]) _ hx) hu
  have e2 := agg_vals (hst.ev y (by simp [Op.operands]) _ hy) hv
  obtain ⟨r, hr, hi⟩ := eqAg_run h hf hg w
  have : r = b := by rw [Bool.eq_iff_iff, hi, hb]
  subst this
  exact ⟨_, by simp [execOp, e1, e2, run_eqGuard_agg w .neq t x y us.toArray vs.toArray h.ok.2.2, run_neq_struct, hr], .val _⟩
theorem Cx.neqAg (hx : ev F x = some (.agg cs)) (hy : ev F y = some (.agg ds)) (hu : unvals cs = some us) (hv : unvals ds = some vs) (hf : fitsL ls us = true) (hg : fitsL ls vs = true) (hb : b = true ↔ us = vs) {d0 : Nat} {K : List (Nat × SV) → Prop} (hlt : Nat.blt d0 Γ.nt = true) (hr : SegC P Γ ops L ((d0, (.val (.bool (!b)))) :: F) rest K) : SegC P Γ ops L F (⟨some d0, .binOp .neq t x y t2, ty, pos, aft, none⟩ :: rest) K :=
  SegC.q (Qs.pv (by apply Pv.neqAg <;> assumption)) hlt hr
end
end
end Go.Sse
namespace Go.Sse
open Go Go.Sse
set_option linter.unusedVariables false
set_option linter.unusedSimpArgs false
set_option maxRecDepth 10000
section
variable {P : Program} {Γ : Ctx} {ops : Array Oper} {Q : Exit → Act → World → Prop} {F : List (Nat × SV)} {L : List Own} {rest : List Oper}
variable {dst : Option Tmp} {ty : TypeId} {pos : String} {aft : Array Edge} {g : Option (Nat × Bool)}
theorem Pv.shl8 {t t2 : TypeId} {x y : Operand} {k : IntKind} {n : Nat} (hx : ev F x = some (int (n : Int))) (hy : ev F y = some (.val (.int k 8))) (h : n * 256 < 9223372036854775808) : Pv P Γ F L ⟨dst, .binOp .shl t x y t2, ty, pos, aft, g⟩ (int ((n * 256 : Nat) : Int)) := by
  have := Pv.shl (P := P) (Γ := Γ) (L := L) (dst := dst) (ty := ty) (pos := pos) (aft := aft) (g := g) (t := t) (t2 := t2) hx hy (by decide)
  have e : IntKind.i64.wrap ((n : Int) * 2 ^ Min.min (8 : Int).toNat IntKind.i64.bits) = ((n * 256 : Nat) : Int) := by
    rw [show (2 : Int) ^ Min.min (8 : Int).toNat IntKind.i64.bits = 256 by decide, wrap_i64 (by omega)]
    omega
  rwa [e] at this
theorem Cx.shl8 {t t2 : TypeId} {x y : Operand} {k : IntKind} {n : Nat} (hx : ev F x = some (int (n : Int))) (hy : ev F y = some (.val (.int k 8))) (h : n * 256 < 9223372036854775808) {d0 : Nat} {K : List (Nat × SV) → Prop} (hlt : Nat.blt d0 Γ.nt = true) (hr : SegC P Γ ops L ((d0, (int ((n * 256 : Nat) : Int))) :: F) rest K) : SegC P Γ ops L F (⟨some d0, .binOp .shl t x y t2, ty, pos, aft, none⟩ :: rest) K :=
  SegC.q (Qs.pv (by apply Pv.shl8 <;> assumption)) hlt hr
theorem Jx.shl8 {t t2 : TypeId} {x y : Operand} {k : IntKind} {n : Nat} (hx : ev F x = some (int (n : Int))) (hy : ev F y = some (.val (.int k 8))) (h : n * 256 < 9223372036854775808) {d0 : Nat} (hlt : Nat.blt d0 Γ.nt = true) (k : J P Γ ops Q ((d0, (int ((n * 256 : Nat) : Int))) :: F) L rest) : J P Γ ops Q F L (⟨some d0, .binOp .shl t x y t2, ty, pos, aft, none⟩ :: rest) :=
  J.pv (by apply Pv.shl8 <;> assumption) hlt k
theorem or_byte {n b : Nat} (hb : b < 256) (h : n * 256 + b < 9223372036854775808) : IntKind.i64.wrap ((BitVec.ofInt 64 ((n * 256 : Nat) : Int) ||| BitVec.ofInt 64 (b : Int)).toNat : Int) = ((n * 256 + b : Nat) : Int) := by
  rw [BitVec.toNat_or, BitVec.ofInt_natCast, BitVec.ofInt_natCast, BitVec.toNat_ofNat, BitVec.toNat_ofNat, Nat.mod_eq_of_lt (by omega), Nat.mod_eq_of_lt (by omega)]
  have : n * 256 ||| b = n * 256 + b := by
    have := Nat.shiftLeft_add_eq_or_of_lt (i := 8) (b := b) (by omega) n
    rw [Nat.shiftLeft_eq] at this
    exact this.symm
  rw [this, wrap_i64 (by omega)]
theorem Pv.orByte {t t2 : TypeId} {x y : Operand} {n b : Nat} (hx : ev F x = some (int ((n * 256 : Nat) : Int))) (hy : ev F y = some (int (b : Int))) (hb : b < 256) (h : n * 256 + b < 9223372036854775808) : Pv P Γ F L ⟨dst, .binOp .or t x y t2, ty, pos, aft, g⟩ (int ((n * 256 + b : Nat) : Int)) := by
  have := Pv.bor (P := P) (Γ := Γ) (L := L) (dst := dst) (ty := ty) (pos := pos) (aft := aft) (g := g) (t := t) (t2 := t2) hx hy
  exact (congrArg (fun z => Pv P Γ F L ⟨dst, .binOp .or t x y t2, ty, pos, aft, g⟩ (SV.val (.int .i64 z))) (or_byte hb h)).mp this
theorem Cx.orByte {t t2 : TypeId} {x y : Operand} {n b : Nat} (hx : ev F x = some (int ((n * 256 : Nat) : Int))) (hy : ev F y = some (int (b : Int))) (hb : b < 256) (h : n * 256 + b < 9223372036854775808) {d0 : Nat} {K : List (Nat × SV) → Prop} (hlt : Nat.blt d0 Γ.nt = true) (hr : SegC P Γ ops L ((d0, (int ((n * 256 + b : Nat) : Int))) :: F) rest K) : SegC P Γ ops L F (⟨some d0, .binOp .or t x y t2, ty, pos, aft, none⟩ :: rest) K :=
  SegC.q (Qs.pv (by apply Pv.orByte <;> assumption)) hlt hr
theorem Jx.orByte {t t2 : TypeId} {x y : Operand} {n b : Nat} (hx : ev F x = some (int ((n * 256 : Nat) : Int))) (hy : ev F y = some (int (b : Int))) (hb : b < 256) (h : n * 256 + b < 9223372036854775808) {d0 : Nat} (hlt : Nat.blt d0 Γ.nt = true) (k : J P Γ ops Q ((d0, (int ((n * 256 + b : Nat) : Int))) :: F) L rest) : J P Γ ops Q F L (⟨some d0, .binOp .or t x y t2, ty, pos, aft, none⟩ :: rest) :=
  J.pv (by apply Pv.orByte <;> assumption) hlt k
theorem Pv.arrFrom {T E by' n : Nat} {z : List Value} [h : TArr P T n E] [hI : TInfo P E 1 by' z] {x i : Operand} {k : IntKind} {b : Nat} {m : Int} (j : Nat) (hx : ev F x = some (.val (.pointer (some ⟨b, 0, none⟩))))
    (hi : ev F i = some (.val (.int k m))) (hm : m = (j : Int)) (h1 : j ≤ n) : Pv P Γ F L ⟨dst, .slice T x (some i) none none, ty, pos, aft, g⟩ (.val (.slice (some ⟨b, if n = j then 0 else j, none⟩) (n - j) (n - j))) := by
  subst hm
  have := Pv.sliceArrL (P := P) (Γ := Γ) (L := L) (dst := dst) (ty := ty) (pos := pos) (aft := aft) (g := g) (T := T) hx hi (by omega) (by omega)
  rw [Int.toNat_natCast] at this
  by_cases e : n = j
  · simp only [e, if_true] at this ⊢; exact this
  · simp only [e, if_false, Nat.zero_add, Nat.mul_one] at this ⊢; exact this
theorem Cx.arrFrom {T E by' n : Nat} {z : List Value} [h : TArr P T n E] [hI : TInfo P E 1 by' z] {x i : Operand} {k : IntKind} {b : Nat} {m : Int} (j : Nat) (hx : ev F x = some (.val (.pointer (some ⟨b, 0, none⟩))))
    (hi : ev F i = some (.val (.int k m))) (hm : m = (j : Int)) (h1 : j ≤ n) {d0 : Nat} {K : List (Nat × SV) → Prop} (hlt : Nat.blt d0 Γ.nt = true) (hr : SegC P Γ ops L ((d0, (.val (.slice (some ⟨b, if n = j then 0 else j, none⟩) (n - j) (n - j)))) :: F) rest K) : SegC P Γ ops L F (⟨some d0, .slice T x (some i) none none, ty, pos, aft, none⟩ :: rest) K :=
  SegC.q (Qs.pv (by apply Pv.arrFrom <;> assumption)) hlt hr
theorem Pv.arrStr {src d e : TypeId} [hs : TSlice P src e] [he : TInt P e .u8] [hd : TStr P d] {x : Operand} {b j n : Nat} {T : TypeId} (ws : List UInt8) (hx : ev F x = some (.val (.slice (some ⟨b, if n = j then 0 else j, none⟩) (n - j) (n - j)))) (i : Nat) (hi : L[i]? = some (.obj b T (ws.map byte)))
    (hl : ws.length = n) (hj : j ≤ n) : Pv P Γ F L ⟨dst, .convert src d x, ty, pos, aft, g⟩ (str (ws.drop j)) := by
  refine Pv.bytesStrObj (ws.drop j) hx i hi (by rw [List.length_drop, hl]) fun k hk => ?_
  have hn : ¬ n = j := by omega
  rw [if_neg hn, getElem?_map_lt byte ws 0 (j + k) (by omega)]
  simp [List.getD_eq_getElem?_getD, List.getElem?_drop]
theorem Cx.arrStr {src d e : TypeId} [hs : TSlice P src e] [he : TInt P e .u8] [hd : TStr P d] {x : Operand} {b j n : Nat} {T : TypeId} (ws : List UInt8) (hx : ev F x = some (.val (.slice (some ⟨b, if n = j then 0 else j, none⟩) (n - j) (n - j)))) (i : Nat) (hi : L[i]? = some (.obj b T (ws.map byte)))
    (hl : ws.length = n) (hj : j ≤ n) {d0 : Nat} {K : List (Nat × SV) → Prop} (hlt : Nat.blt d0 Γ.nt = true) (hr : SegC P Γ ops L ((d0, (str (ws.drop j))) :: F) rest K) : SegC P Γ ops L F (⟨some d0, .convert src d x, ty, pos, aft, none⟩ :: rest) K :=
  SegC.q (Qs.pv (by apply Pv.arrStr <;> assumption)) hlt hr
theorem J.guardNoU {dst : Tmp} {op : Op} {ty : TypeId} {pos : String} {aft : Array Edge} {j d : Nat} {want b : Bool} {og : Oper}
    (ho : ops[j]? = some og) (hd : og.dst = some d) (hv : look F d = some (.val (.bool b))) (hb : b = !want) (hlt : Nat.blt dst Γ.nt = true)
    (h : J P Γ ops Q ((dst, .val undef) :: F) L rest) : J P Γ ops Q F L (⟨some dst, op, ty, pos, aft, some (j, want)⟩ :: rest) :=
  ⟨fun a w hst => by
    have hw := wanted_guard (o := ⟨some dst, op, ty, pos, aft, some (j, want)⟩) rfl ho hd (hst.fr d _ hv).val_eq
    unfold wpList
    rw [if_neg (by rw [hw]; subst hb; cases want <;> simp)]
    exact h.go _ _ (hst.put (Step.refl hst.ws) hlt (.val _))⟩
theorem J.guardSkip {dst : Tmp} {op : Op} {ty : TypeId} {pos : String} {aft : Array Edge} {j d : Nat} {want : Bool} {og : Oper}
    (ho : ops[j]? = some og) (hd : og.dst = some d) (hv : look F d = some (.val undef)) (hlt : Nat.blt dst Γ.nt = true)
    (h : J P Γ ops Q ((dst, .val undef) :: F) L rest) : J P Γ ops Q F L (⟨some dst, op, ty, pos, aft, some (j, want)⟩ :: rest) :=
  ⟨fun a w hst => by
    have hw := wanted_undef (o := ⟨some dst, op, ty, pos, aft, some (j, want)⟩) rfl ho hd (hst.fr d _ hv).val_eq
    unfold wpList
    rw [if_neg (by rw [hw]; simp)]
    exact h.go _ _ (hst.put (Step.refl hst.ws) hlt (.val _))⟩
end
end Go.Sse
namespace Go.Sse
open Go Go.Sse
set_option linter.unusedVariables false
set_option linter.unusedSimpArgs false
set_option maxRecDepth 10000
section
variable {P : Program} {Γ : Ctx} {ops : Array Oper} {Q : Exit → Act → World → Prop} {F : List (Nat × SV)} {L : List Own} {rest : List Oper}
variable {dst : Option Tmp} {ty : TypeId} {pos : String} {aft : Array Edge} {g : Option (Nat × Bool)}
end
end Go.Sse
namespace Go.Sse
open Go Go.Sse
set_option linter.unusedVariables false
set_option linter.unusedSimpArgs false
set_option maxRecDepth 10000
def mapO (b : Nat) (kv : List (Value × Value)) : Own := .sem [b] (fun _ w => ∃ es clock, w.heap[b]? = some (.map es clock) ∧ es.toList.map (fun e => (e.key, e.val)) = kv)
theorem mapO_mk {Z : Nat → Prop} {w : World} {b : Nat} {kv : List (Value × Value)} {es : Array MapEntry} {clock : Nat} (h : w.heap[b]? = some (.map es clock)) (hk : es.toList.map (fun e => (e.key, e.val)) = kv) : (mapO b kv).holds Z w := by
  refine ⟨⟨es, clock, h, hk⟩, ?_, ?_⟩
  · rintro Z' w' hf _
    exact ⟨es, clock, (hf b (by simp)).trans h, hk⟩
  · intro b' hb'
    simp only [List.mem_singleton] at hb'
    subst hb'
    exact (Array.getElem?_eq_some_iff.1 h).1
class TZero (P : Program) (E : Nat) (zv : outParam Value) : Prop where ok : (P.info? E).bind (·.zero) = some zv
theorem run_zeroV {P : Program} {E : Nat} {zv : Value} (h : TZero P E zv) (w : World) : (zeroValue E).run P w = .ok zv w := by
  have h1 := h.ok
  cases hq : P.info? E with
  | none => simp [hq] at h1
  | some i =>
    rw [hq] at h1
    simp only [Option.bind_some] at h1
    simp [zeroValue, typeInfo, hq, h1]
def lk {α β : Type} [DecidableEq α] (l : List (α × β)) (k : α) : Option β := (l.find? (fun p => decide (p.1 = k))).map (·.2)
theorem sv_beq (a b : List UInt8) : ((⟨a.toArray⟩ : ByteArray) == ⟨b.toArray⟩) = decide (a = b) := by
  rw [beq_toListBytes, ByteArray.toList_eq, ByteArray.toList_eq]
  by_cases h : a = b
  · subst h; simp
  · rw [decide_eq_false h, beq_eq_false_iff_ne]; simpa using h
theorem findNow_str (k : List UInt8) : ∀ (es : List MapEntry) (l : List (List UInt8 × Value)) (i : Nat), es.map (fun e => (e.key, e.val)) = l.map (fun p => (sv p.1, p.2)) → ∃ r, Instr.findNow .string (sv k) es i = some r ∧ r.map (·.2) = lk l k
  | [], [], i, _ => ⟨none, rfl, rfl⟩
  | [], p :: l, i, h => by simp at h
  | e :: es, [], i, h => by simp at h
  | e :: es, p :: l, i, h => by
    simp only [List.map_cons, List.cons.injEq, Prod.mk.injEq] at h
    obtain ⟨⟨h1, h2⟩, h3⟩ := h
    have hs : Instr.sameNow .string (sv k) e.key = some (decide (p.1 = k)) := by
      rw [h1]
      show some ((⟨k.toArray⟩ : ByteArray) == ⟨p.1.toArray⟩) = _
      rw [sv_beq]
      congr 1
      exact decide_eq_decide.2 ⟨Eq.symm, Eq.symm⟩
    by_cases hk : p.1 = k
    · refine ⟨some (i, e.val), ?_, ?_⟩
      · simp [Instr.findNow, hs, hk]
      · simp [lk, hk, h2]
    · obtain ⟨r, hr1, hr2⟩ := findNow_str k es l (i + 1) h3
      refine ⟨r, ?_, ?_⟩
      · simp [Instr.findNow, hs, hk, hr1]
      · rw [hr2]; simp [lk, hk]
section
variable {P : Program} {Γ : Ctx} {ops : Array Oper} {Q : Exit → Act → World → Prop} {F : List (Nat × SV)} {L : List Own} {rest : List Oper}
variable {dst : Option Tmp} {ty : TypeId} {pos : String} {aft : Array Edge} {g : Option (Nat × Bool)}
theorem mapO_at {L : List Own} {Γ : Ctx} {w : World} {i b : Nat} {kv : List (Value × Value)} (h : WSt Γ L w) (hi : L[i]? = some (mapO b kv)) : ∃ es clock, w.heap[b]? = some (.map es clock) ∧ es.toList.map (fun e => (e.key, e.val)) = kv :=
  (h.holds _ (mem_of_idx hi)).1
theorem run_checkKey_str {K : Nat} [hK : TStr P K] (w : World) (e : Bool) (n : Nat) (k : List UInt8) : (Instr.checkKey e (n + 1) K (sv k)).run P w = .ok () w := by
  simp [Instr.checkKey, run_underlying hK.ok, sv]
theorem run_findKey_str {K : Nat} [hK : TStr P K] (w : World) (k : List UInt8) (es : List MapEntry) (l : List (List UInt8 × Value)) (h : es.map (fun e => (e.key, e.val)) = l.map (fun p => (sv p.1, p.2))) :
    ∃ r, (Instr.findKey K (sv k) es).run P w = .ok r w ∧ r.map (·.2) = lk l k := by
  obtain ⟨r, h1, h2⟩ := findNow_str k es l 0 h
  exact ⟨r, by simp [Instr.findKey, run_underlying hK.ok, h1], h2⟩
theorem Pv.lookupS {T K E : Nat} {zv : Value} [hT : TMap P T K E] [hK : TStr P K] [hI : TZero P E zv] {x y : Operand} {b : Nat} {k : List UInt8} {l : List (List UInt8 × Value)} (hx : ev F x = some (.val (.map (some b)))) (hy : ev F y = some (str k)) (i : Nat)
    (hi : L[i]? = some (mapO b (l.map fun p => (sv p.1, p.2)))) : Pv P Γ F L ⟨dst, .lookup T x y true, ty, pos, aft, g⟩ (.tup [.val ((lk l k).getD zv), bool (lk l k).isSome]) := fun ρ w hst => by
  obtain ⟨es, clock, hb, hk⟩ := mapO_at hst.ws hi
  have hxv := hst.evv (x := x) (by simp [Op.operands]) hx
  have hyv := hst.evv (x := y) (by simp [Op.operands]) hy
  obtain ⟨r, hr, hr2⟩ := run_findKey_str (P := P) (K := K) w k es.toList l hk
  have hv := run_zeroV hI w
  have hgo := run_getObj_map (P := P) (w := w) b es clock hb
  refine ⟨.tuple [(lk l k).getD zv, .bool (lk l k).isSome].toArray, ?_, .tup _ _ rfl fun j hj => ?_⟩
  · rw [← hr2]
    cases r with
    | none => simp [execOp, hxv, hyv, Instr.lookup, run_underlying hT.ok, hgo, run_checkKey_str, hr, hv]
    | some q => obtain ⟨q1, q2⟩ := q; simp [execOp, hxv, hyv, Instr.lookup, run_underlying hT.ok, hgo, run_checkKey_str, hr]
  · match j, hj with
    | 0, _ => exact .val _
    | 1, _ => exact .val _
theorem Jx.lookupS {T K E : Nat} {zv : Value} [hT : TMap P T K E] [hK : TStr P K] [hI : TZero P E zv] {x y : Operand} {b : Nat} {k : List UInt8} {l : List (List UInt8 × Value)} (hx : ev F x = some (.val (.map (some b)))) (hy : ev F y = some (str k)) (i : Nat)
    (hi : L[i]? = some (mapO b (l.map fun p => (sv p.1, p.2)))) {d0 : Nat} (hlt : Nat.blt d0 Γ.nt = true) (k : J P Γ ops Q ((d0, (.tup [.val ((lk l k).getD zv), bool (lk l k).isSome])) :: F) L rest) : J P Γ ops Q F L (⟨some d0, .lookup T x y true, ty, pos, aft, none⟩ :: rest) :=
  J.pv (by apply Pv.lookupS <;> assumption) hlt k
theorem push_map {es : Array MapEntry} {k v : Value} {c : Nat} {kv : List (Value × Value)} (h : es.toList.map (fun e => (e.key, e.val)) = kv) : (es.push ⟨k, v, c⟩).toList.map (fun e => (e.key, e.val)) = kv ++ [(k, v)] := by
  rw [Array.toList_push, List.map_append, h]; rfl
theorem run_mapUpdateS {T K E : Nat} [hT : TMap P T K E] [hK : TStr P K] (w : World) (b : Nat) (es : Array MapEntry) (clock : Nat) (hb : w.heap[b]? = some (.map es clock)) (k : List UInt8) (v : Value) (l : List (List UInt8 × Value))
    (hk : es.toList.map (fun e => (e.key, e.val)) = l.map (fun p => (sv p.1, p.2))) (hn : lk l k = none) :
    (Instr.mapUpdate T (.map (some b)) (sv k) v).run P w = .ok () { w with heap := w.heap.setIfInBounds b (.map (es.push ⟨sv k, v, clock⟩) (clock + 1)) } := by
  obtain ⟨r, hr, hr2⟩ := run_findKey_str (P := P) (K := K) w k es.toList l hk
  have hgo := run_getObj_map (P := P) (w := w) b es clock hb
  have hso : (setObj b (.map (es.push ⟨sv k, v, clock⟩) (clock + 1))).run P w = .ok () { w with heap := w.heap.setIfInBounds b (.map (es.push ⟨sv k, v, clock⟩) (clock + 1)) } := by simp [setObj, Sem.run, hb]
  rw [hn] at hr2
  have hr0 : r = none := by cases r <;> simp_all
  subst hr0
  simp [Instr.mapUpdate, run_underlying hT.ok, hgo, run_checkKey_str, hr, hso]
theorem setMap_other (w : World) (b b' : Nat) (o : Obj) (h : b' ≠ b) : ({ w with heap := w.heap.setIfInBounds b o } : World).heap[b']? = w.heap[b']? := by
  show (w.heap.setIfInBounds b o)[b']? = _
  rw [Array.getElem?_setIfInBounds]
  simp [Ne.symm h]
theorem setMap_same {w : World} {b : Nat} {q : Obj} (o : Obj) (h : w.heap[b]? = some q) : ({ w with heap := w.heap.setIfInBounds b o } : World).heap[b]? = some o := by
  show (w.heap.setIfInBounds b o)[b]? = _
  have := (Array.getElem?_eq_some_iff.1 h).1
  rw [Array.getElem?_setIfInBounds]
  simp [this]
theorem Step.mapSet {w : World} {i b : Nat} {kv kv' : List (Value × Value)} {q : Obj} (h : WSt Γ L w) (hi : L[i]? = some (mapO b kv)) (hb : w.heap[b]? = some q) (es : Array MapEntry) (c : Nat) (hk : es.toList.map (fun e => (e.key, e.val)) = kv') : Step Γ L (L.set i (mapO b kv')) w { w with heap := w.heap.setIfInBounds b (.map es c) } :=
  Step.upd h hi rfl ⟨rfl, rfl, rfl, by simp⟩ (fun b' hb' => setMap_other w b b' _ (by simpa [Own.foot, mapO] using hb')) (mapO_mk (setMap_same _ hb) hk)
theorem OpS.mapUpdS {T K E : Nat} [hT : TMap P T K E] [hK : TStr P K] {x y z : Operand} {b : Nat} {k : List UInt8} {v : Value} {l : List (List UInt8 × Value)} (hx : ev F x = some (.val (.map (some b)))) (hy : ev F y = some (str k)) (hz : ev F z = some (.val v)) (i : Nat)
    (hi : L[i]? = some (mapO b (l.map fun p => (sv p.1, p.2)))) (hn : lk l k = none) : OpS P Γ ⟨dst, .mapUpdate T x y z, ty, pos, aft, g⟩ F L (fun _ L' => L' = L.set i (mapO b ((l ++ [(k, v)]).map fun p => (sv p.1, p.2)))) := by
  intro a w K' Q hst hK'
  obtain ⟨es, clock, hb, hk⟩ := mapO_at hst.ws hi
  have hrun := run_mapUpdateS (P := P) (T := T) w b es clock hb k v l hk hn
  unfold Oper.wp
  have he : (execOp a.eval ⟨dst, .mapUpdate T x y z, ty, pos, aft, g⟩).run P w = .ok .skip { w with heap := w.heap.setIfInBounds b (.map (es.push ⟨sv k, v, clock⟩) (clock + 1)) } := by
    simp [execOp, hst.evv hx, hst.evv hy, hst.evv hz, hrun]
  rw [he]
  exact hK' undef _ .any _ rfl (Step.mapSet hst.ws hi hb _ _ (by rw [push_map hk, List.map_append]; rfl)) (.any _)
theorem J.mapUpdS {T K E : Nat} [hT : TMap P T K E] [hK : TStr P K] {x y z : Operand} {b : Nat} {k : List UInt8} {v : Value} {l : List (List UInt8 × Value)} {L' : List Own} (hx : ev F x = some (.val (.map (some b)))) (hy : ev F y = some (str k)) (hz : ev F z = some (.val v)) (i : Nat)
    (hi : L[i]? = some (mapO b (l.map fun p => (sv p.1, p.2)))) (hn : lk l k = none) (hL : L.set i (mapO b ((l ++ [(k, v)]).map fun p => (sv p.1, p.2))) = L') (h : J P Γ ops Q F L' rest) : J P Γ ops Q F L (⟨none, .mapUpdate T x y z, ty, pos, aft, none⟩ :: rest) :=
  J.op0 (OpS.mapUpdS hx hy hz i hi hn) rfl rfl (by rintro s L'' rfl; rw [hL]; exact h)
theorem OpS.makeMap {T : Nat} : OpS P Γ ⟨dst, .makeMap T none, ty, pos, aft, g⟩ F L (fun s L' => ∃ b, s = .val (.map (some b)) ∧ L' = mapO b [] :: L) := by
  intro a w K' Q hst hK'
  unfold Oper.wp
  have he : (execOp a.eval ⟨dst, .makeMap T none, ty, pos, aft, g⟩).run P w = .ok (.value (.map (some w.heap.size))) (w.alloc (.map #[] 0)) := by
    simp [execOp, Instr.makeMap]
  rw [he]
  exact hK' _ _ _ _ ⟨w.heap.size, rfl, rfl⟩ (Step.alloc hst.ws _ _ rfl (mapO_mk (heap_alloc_new w _) rfl)) (.val _)
theorem J.makeMap {T d : Nat} (hlt : Nat.blt d Γ.nt = true) (k : ∀ b, J P Γ ops Q ((d, .val (.map (some b))) :: F) (mapO b [] :: L) rest) : J P Γ ops Q F L (⟨some d, .makeMap T none, ty, pos, aft, none⟩ :: rest) :=
  J.op OpS.makeMap rfl rfl hlt (by rintro s L' ⟨b, rfl, rfl⟩; exact k b)
end
end Go.Sse
namespace Go.Sse
open Go Go.Sse
set_option linter.unusedVariables false
set_option linter.unusedSimpArgs false
set_option maxRecDepth 10000
section
variable {P : Program} {Γ : Ctx} {ops : Array Oper} {Q : Exit → Act → World → Prop} {F : List (Nat × SV)} {L : List Own} {rest : List Oper}
variable {dst : Option Tmp} {ty : TypeId} {pos : String} {aft : Array Edge} {g : Option (Nat × Bool)}
theorem row_at {w : World} {i b n cap E sz : Nat} {el : Nat → List SV} (h : WSt Γ L w) (hi : L[i]? = some (.row (.slice (some ⟨b, 0, none⟩) n cap) E sz n el)) : ∃ cur fz, w.heap[b]? = some (.cells cur E fz) ∧ Unfrozen fz cur.size ∧ n ≤ cap ∧ cap ≤ maxLen ∧ cur.size = cap * sz ∧ (∀ u ∈ cur.toList, u.oneCell' = true) ∧ (∀ i, i < n → (el i).length = sz) ∧
      ∀ i j, i < n → j < sz → Rel (ZL Γ.Z L) w ((el i).getD j .any) (cur.toList.getD (i * sz + j) undef) := by
  rcases h.holds _ (mem_of_idx hi) with ⟨h0, _⟩ | ⟨b', cap', cur, fz, hv, hb, h1, h2, h3, h4, h5, h6, h7⟩
  · simp at h0
  · simp only [Value.slice.injEq, Option.some.injEq, Addr.mk.injEq, and_true, true_and] at hv
    obtain ⟨rfl, rfl⟩ := hv
    exact ⟨cur, fz, hb, h1, h2, h3, h4, h5, h6, h7⟩
end
end Go.Sse
namespace Go.Sse
open Go Go.Sse
set_option linter.unusedVariables false
set_option linter.unusedSimpArgs false
set_option maxRecDepth 10000
section
variable {P : Program} {Γ : Ctx} {ops : Array Oper} {Q : Exit → Act → World → Prop} {F : List (Nat × SV)} {L : List Own} {rest : List Oper}
variable {dst : Option Tmp} {ty : TypeId} {pos : String} {aft : Array Edge} {g : Option (Nat × Bool)}
end
end Go.Sse
namespace Go.Sse
open Go Go.Sse
set_option linter.unusedVariables false
set_option linter.unusedSimpArgs false
set_option maxRecDepth 10000
section
variable {P : Program} {Γ : Ctx} {l : List Oper} {Q : Exit → Act → World → Prop} {G : List (Nat × SV)} {L : List Own} {S idx : List Nat}
theorem JP.alloc {d E sz by' : Nat} {z : List Value} [h : TInfo P E sz by' z] {cs : List SV} {ty : TypeId} {pos : String} {aft : Array Edge} {g : Option (Nat × Bool)} (i : Nat) (ks S' idx' : List Nat) (hc : (okIdx l.toArray S idx && okStep l.toArray S idx i ks S' idx') = true)
    (hoi : l[i]? = some ⟨some d, .alloc E, ty, pos, aft, g⟩) (hre : SegC P Γ l.toArray L G (opsAt l idx) (Ag G idx.length)) (hz : z.map .val = cs) (h1 : z.all (·.oneCell') = true) (hlt : Nat.blt d Γ.nt = true)
    (k : ∀ b, JP P Γ l.toArray Q S' idx' ((d, .val (.pointer (some ⟨b, 0, none⟩))) :: G) (.obj b E cs :: L)) : JP P Γ l.toArray Q S idx G L :=
  JP.do1 i ks S' idx' hc hoi hre (OpS.newObj (ρ' := fun _ => True) (E := E) (cs := cs) (fun a w hst => by
    obtain ⟨v, hv, hc, _⟩ := run_zero h w
    refine ⟨z, ?_, hz ▸ RelL.vals z (by simpa [List.all_eq_true] using h1)⟩
    have : v.cells = z.toArray := by rw [← hc]
    simp [execOp, Instr.alloc, hv, newVar, newRow, this])) hlt (by rintro s L' ⟨b, rfl, rfl⟩; exact k b)
end
end Go.Sse
namespace Go.Sse
open Go Go.Sse
set_option linter.unusedVariables false
set_option linter.unusedSimpArgs false
set_option maxRecDepth 10000
theorem Sub.agg {cs ds : List SV} (h : SubL cs ds) : Sub (.agg cs) (.agg ds) := by
  intro Z w v hr
  obtain ⟨h1, h2⟩ := h.spec
  cases hr with
  | agg _ vs hl hone hrel => exact .agg ds vs (by omega) hone fun j hj => h2 j Z w _ (hrel j (by omega))
theorem SubL.refl : ∀ (cs : List SV), SubL cs cs
  | [] => .nil
  | s :: cs => .cons (Sub.refl s) (SubL.refl cs)
section
variable {P : Program} {Γ : Ctx} {ops : Array Oper} {Q : Exit → Act → World → Prop} {F : List (Nat × SV)} {L : List Own} {rest : List Oper}
variable {dst : Option Tmp} {ty : TypeId} {pos : String} {aft : Array Edge} {g : Option (Nat × Bool)}
theorem Pv.loadPPall {T n : Nat} [h : TAg P T n] {x : Operand} {cs : List SV} (hx : ev F x = some (.pp cs)) (hn' : Nat.beq cs.length n = true) : Pv P Γ F L ⟨dst, .load T x, ty, pos, aft, g⟩ (.agg cs) :=
  have hn : cs.length = n := Nat.eq_of_beq_eq_true hn'
  Pv.loadPPag hx (by rw [← hn, List.take_length]) hn
theorem Cx.loadPPall {T n : Nat} [h : TAg P T n] {x : Operand} {cs : List SV} (hx : ev F x = some (.pp cs)) (hn' : Nat.beq cs.length n = true) {d0 : Nat} {K : List (Nat × SV) → Prop} (hlt : Nat.blt d0 Γ.nt = true) (hr : SegC P Γ ops L ((d0, (.agg cs)) :: F) rest K) : SegC P Γ ops L F (⟨some d0, .load T x, ty, pos, aft, none⟩ :: rest) K :=
  SegC.q (Qs.pv (by apply Pv.loadPPall <;> assumption)) hlt hr
theorem Jx.loadPPall {T n : Nat} [h : TAg P T n] {x : Operand} {cs : List SV} (hx : ev F x = some (.pp cs)) (hn' : Nat.beq cs.length n = true) {d0 : Nat} (hlt : Nat.blt d0 Γ.nt = true) (k : J P Γ ops Q ((d0, (.agg cs)) :: F) L rest) : J P Γ ops Q F L (⟨some d0, .load T x, ty, pos, aft, none⟩ :: rest) :=
  J.pv (by apply Pv.loadPPall <;> assumption) hlt k
theorem Qs.buildOne {α : Type} {t E sz by' : Nat} {z : List Value} [ht : TSlice P t E] [hI : TInfo P E sz by' z] {x : Operand} {cs : List SV} (enc : α → List SV) (d a : α) (hx : ev F x = some (.agg cs)) (hcs' : Nat.beq cs.length sz = true) (he : enc a = cs)
    (hz' : Nat.beq z.length sz = true) (h0' : Nat.blt 0 sz = true) (hmax' : Nat.ble sz 16777216 = true) (hz1 : z.all (·.oneCell') = true) : Qs P Γ F L ⟨dst, .buildSlice t 1 [(0, x)].toArray, ty, pos, aft, g⟩ (.sl sz [a].length (elOf enc d [a])) := by
  have hcs := Nat.eq_of_beq_eq_true hcs'
  have hz := Nat.eq_of_beq_eq_true hz'
  have h0 : 0 < sz := Nat.le_of_ble_eq_true h0'
  have hmax := Nat.le_of_ble_eq_true hmax'
  refine (Qs.buildSlice (len := 1) (ss := [.agg cs]) (sz := sz) (z := z) (.cons hx .agg .nil) rfl (by intro s hs; simp only [List.mem_singleton] at hs; subst hs; exact hcs) hz (by omega) (by omega) hz1).sub ?_
  refine Sub.slOf (l := [a]) rfl fun i hi => ?_
  have : i = 0 := by omega
  subst this
  simp only [List.getD_cons_zero, cellsS]
  exact he.symm
end
end Go.Sse
namespace Go.Sse
open Go Go.Sse
set_option linter.unusedVariables false
set_option linter.unusedSimpArgs false
set_option maxRecDepth 10000
theorem operWp_less {P : Program} {o : Oper} {a : Act} {w : World} {K K' : Act → World → Prop} {Q Q' : Exit → Act → World → Prop} (h : ∀ a w, K a w → K' a w) (hq : ∀ e a w, e ≠ .normal → Q e a w → Q' e a w)
    (hh : o.wp P a w K Q) : o.wp P a w K' Q' := by
  unfold Oper.wp at *
  generalize (execOp a.eval o).run P w = r at *
  cases r with
  | ok n w' =>
    cases n <;> simp only [Oper.upon] at hh ⊢ <;>
      first
        | exact h _ _ hh
        | exact Calls.mono hh (fun e w'' he => by
            cases e
            · exact h _ _ he
            · exact hq _ _ _ (by simp) he
            · obtain ⟨a2, w2, h2⟩ := he; exact ⟨a2, w2, hq _ _ _ (by simp) h2⟩)
        | exact Rows.mono hh (fun _ _ he => h _ _ he)
  | halt x w' => cases x <;> simp only [Oper.upon] at hh ⊢ <;> first | exact hh | exact hq _ _ _ (by simp) hh
theorem wpList_join {P : Program} {ops : Array Oper} {Q Q' : Exit → Act → World → Prop} {rest : List Oper} (hn : ∀ a w, Q' .normal a w → wpList P ops Q rest a w) (hq : ∀ e a w, e ≠ .normal → Q' e a w → Q e a w) :
    ∀ (l : List Oper) a w, wpList P ops Q' l a w → wpList P ops Q (l ++ rest) a w
  | [], a, w, h => hn a w h
  | o :: l, a, w, h => by
    rw [List.cons_append]
    unfold wpList at h ⊢
    split
    · rename_i hw
      rw [if_pos hw] at h
      rcases h with h | ⟨h1, a2, w2, h2⟩
      · exact .inl (operWp_less (wpList_join hn hq l) hq h)
      · exact .inr ⟨h1, a2, w2, hq _ _ _ (by simp) h2⟩
    · rename_i hw
      rw [if_neg hw] at h
      exact wpList_join hn hq l _ _ h
def inG (j : Nat) (o : Oper) : Bool := match o.guard with
  | some (k, _) => Nat.ble j k
  | none => false
def gTake (j : Nat) : List Oper → List Oper
  | [] => []
  | o :: l => bif inG j o then o :: gTake j l else []
def gDrop (j : Nat) : List Oper → List Oper
  | [] => []
  | o :: l => bif inG j o then gDrop j l else o :: l
theorem gSplit (j : Nat) : ∀ l, gTake j l ++ gDrop j l = l
  | [] => rfl
  | o :: l => by
    simp only [gTake, gDrop]
    cases inG j o with
    | true => simp only [cond_true, List.cons_append, gSplit j l]
    | false => rfl
def hasKey (F : List (Nat × SV)) (x : Nat) : Bool := match F with
  | [] => false
  | p :: r => Nat.beq p.1 x || hasKey r x
theorem look_none : ∀ {F : List (Nat × SV)} {x : Nat}, hasKey F x = false → look F x = none
  | [], x, _ => rfl
  | p :: r, x, h => by
    simp only [hasKey, Bool.or_eq_false_iff] at h
    simp only [look, h.1, cond_false]
    exact look_none h.2
def okSkip (ops : Array Oper) (F : List (Nat × SV)) (nt j : Nat) (want : Bool) : List Nat → List Oper → Bool
  | _, [] => true
  | acc, o :: l => match o.dst, o.guard with
    | some d, some (k, w) => Nat.blt d nt && !hasKey F d && ((Nat.beq k j && (w == want)) || (match ops[k]? with
      | some og => (match og.dst with | some e => acc.contains e | none => false)
      | none => false)) && okSkip ops F nt j want (d :: acc) l
    | _, _ => false
theorem skip_run {P : Program} {Γ : Ctx} {ops : Array Oper} {Q : Exit → Act → World → Prop} {F : List (Nat × SV)} {L : List Own} {rest : List Oper} {j d : Nat} {want : Bool} {og : Oper}
    (ho : ops[j]? = some og) (hod : og.dst = some d) (hd : look F d = some (.val (.bool (!want)))) (k : J P Γ ops Q F L rest) :
    ∀ (l : List Oper) (acc : List Nat) (a : Act) (w : World), okSkip ops F Γ.nt j want acc l = true → St Γ F L a w → (∀ e ∈ acc, a.tmps.getD e undef = undef) → wpList P ops Q (l ++ rest) a w
  | [], acc, a, w, _, hst, _ => k.go a w hst
  | o :: l, acc, a, w, h, hst, hacc => by
    obtain ⟨dst, op, ty, pos, aft, g⟩ := o
    cases dst with
    | none => simp [okSkip] at h
    | some t =>
      cases g with
      | none => simp [okSkip] at h
      | some g =>
        obtain ⟨i, w'⟩ := g
        simp only [okSkip, Bool.and_eq_true, Bool.or_eq_true, Bool.not_eq_true'] at h
        obtain ⟨⟨⟨h1, h2⟩, h3⟩, h4⟩ := h
        have hw : Region.wanted ⟨some t, op, ty, pos, aft, some (i, w')⟩ (yielded ops a.tmps) = false := by
          rcases h3 with ⟨h3, h5⟩ | h3
          · have : i = j := Nat.eq_of_beq_eq_true h3
            subst this
            have hw' : w' = want := by simpa using h5
            subst hw'
            rw [wanted_guard rfl ho hod (hst.fr d _ hd).val_eq]
            cases w' <;> rfl
          · split at h3
            · rename_i og' hog'
              split at h3
              · rename_i e he
                exact wanted_undef rfl hog' he (hacc e (by simpa using h3))
              · cases h3
            · cases h3
        rw [List.cons_append]
        unfold wpList
        rw [if_neg (by rw [hw]; simp)]
        have hst2 : St Γ F L (a.put (some t) undef) w := by
          have := hst.put (Step.refl hst.ws) h1 (.any undef)
          refine ⟨this.ws, this.nt, this.df, fun x s hl => this.fr x s ?_⟩
          simp only [look]
          cases hb : Nat.beq t x with
          | true =>
            have := Nat.eq_of_beq_eq_true hb
            subst this
            rw [look_none h2] at hl; cases hl
          | false => exact hl
        have hlt : t < a.tmps.size := by rw [hst.nt]; exact Nat.le_of_ble_eq_true h1
        refine skip_run ho hod hd k l (t :: acc) _ _ h4 hst2 fun e he => ?_
        show (a.tmps.setIfInBounds t undef).getD e undef = undef
        rw [getD_set _ _ _ _ hlt]
        split
        · rfl
        · rcases List.mem_cons.1 he with rfl | he
          · rename_i hne; exact absurd rfl hne
          · exact hacc e he
def Qj (Γ : Ctx) (F : List (Nat × SV)) (L : List Own) (t : Nat) (q : Bool) : Exit → Act → World → Prop := fun e a w => e = .normal ∧ St Γ F L a w ∧ a.tmps.getD t undef = .bool q
def keysOff (F : List (Nat × SV)) : List (Nat × SV) → Bool
  | [] => true
  | p :: r => !hasKey F p.1 && keysOff F r
theorem look_off : ∀ {F : List (Nat × SV)} (X : List (Nat × SV)), keysOff F X = true → ∀ x s, look F x = some s → look (X ++ F) x = some s
  | F, [], _, x, s, hl => hl
  | F, p :: X, h, x, s, hl => by
    simp only [keysOff, Bool.and_eq_true, Bool.not_eq_true'] at h
    simp only [List.cons_append, look]
    cases hb : Nat.beq p.1 x with
    | true =>
      have := Nat.eq_of_beq_eq_true hb
      subst this
      rw [look_none h.1] at hl; cases hl
    | false => exact look_off X h.2 x s hl
theorem N.joined {Γ : Ctx} {F F' : List (Nat × SV)} {L : List Own} {t : Nat} {q : Bool} (X : List (Nat × SV)) (hl : look F' t = some (.val (.bool q))) (hX : F' = X ++ F) (hk : keysOff F X = true) : N Γ (Qj Γ F L t q .normal) F' L :=
  ⟨fun a w hst => ⟨rfl, ⟨hst.ws, hst.nt, hst.df, fun x s h => hst.fr x s (by rw [hX]; exact look_off X hk x s h)⟩, (hst.fr t _ hl).val_eq⟩⟩
theorem N.joinedN {Γ : Ctx} {F F' : List (Nat × SV)} {L : List Own} {t : Nat} {q : Bool} (hl : look F' t = some (.val (.bool q))) (hX : F'.drop (F'.length - F.length) = F) (hk : keysOff F (F'.take (F'.length - F.length)) = true) : N Γ (Qj Γ F L t q .normal) F' L :=
  N.joined (F'.take (F'.length - F.length)) hl ((List.take_append_drop (F'.length - F.length) F').symm.trans (congrArg _ hX)) hk
section
variable {P : Program} {Γ : Ctx} {ops : Array Oper} {Q : Exit → Act → World → Prop} {F : List (Nat × SV)} {L : List Own} {rest l : List Oper}
variable {dst : Option Tmp} {op : Op} {ty ty0 : TypeId} {pos pos0 : String} {aft aft0 : Array Edge} {g : Option (Nat × Bool)}
theorem St.told1 {a : Act} {w : World} {t : Nat} {s : SV} (h : St Γ F L a w) (hr : Rel (ZL Γ.Z L) w s (a.tmps.getD t undef)) : St Γ ((t, s) :: F) L a w :=
  ⟨h.ws, h.nt, h.df, fun x u hl => by
    simp only [look] at hl
    cases hb : Nat.beq t x with
    | true =>
      rw [hb] at hl
      simp only [cond_true, Option.some.injEq] at hl
      subst hl
      have := Nat.eq_of_beq_eq_true hb
      subst this
      exact hr
    | false => rw [hb] at hl; exact h.fr x u hl⟩
theorem told_off {t y : Nat} {s u : SV} (hy : hasKey F y = false) {a : Act} {w : World} (h : St Γ ((t, s) :: (y, u) :: F) L a w) : St Γ ((t, s) :: F) L a w :=
  ⟨h.ws, h.nt, h.df, fun x v hl => h.fr x v (by
    simp only [look] at hl ⊢
    cases hb : Nat.beq t x with
    | true => rw [hb] at hl; exact hl
    | false =>
      rw [hb] at hl
      simp only [cond_false] at hl ⊢
      cases hc : Nat.beq y x with
      | true =>
        have := Nat.eq_of_beq_eq_true hc
        subst this
        rw [look_none hy] at hl; cases hl
      | false => exact hl)⟩
theorem ev_off {y : Nat} {s u : SV} {c : Operand} (hy : hasKey F y = false) (hc : ev F c = some s) : ev ((y, u) :: F) c = some s := by
  cases c with
  | tmp x =>
    simp only [ev, look] at hc ⊢
    cases hb : Nat.beq y x with
    | true =>
      have := Nat.eq_of_beq_eq_true hb
      subst this
      rw [look_none hy] at hc; cases hc
    | false => exact hc
  | const v => exact hc
  | global g => exact hc
  | func f => exact hc
theorem J.ofSt {l : List Oper} (h : ∀ a w, St Γ F L a w → wpList P ops Q l a w) : J P Γ ops Q F L l := ⟨h⟩
theorem J.guardOr {q b : Bool} {j d t y : Nat} {c : Operand} {og : Oper} (ho : ops[j]? = some og) (hod : og.dst = some d) (hv : look F d = some (.val (.bool b)))
    (hdrop : gDrop j (⟨dst, op, ty0, pos0, aft0, some (j, false)⟩ :: l) = ⟨some t, .pick c (.const (.bool true)) (.tmp y), ty, pos, aft, none⟩ :: rest) (hc : ev F c = some (.val (.bool b)))
    (hsk : okSkip ops F Γ.nt j false [] (gTake j (⟨dst, op, ty0, pos0, aft0, some (j, false)⟩ :: l)) = true) (hy : hasKey F y = false) (hlt : Nat.blt t Γ.nt = true)
    (hyes : b = false → J P Γ ops (Qj Γ F L y q) F L (gTake j (⟨dst, op, ty0, pos0, aft0, some (j, false)⟩ :: l)))
    (k : J P Γ ops Q ((t, .val (.bool (b || q))) :: F) L rest) : J P Γ ops Q F L (⟨dst, op, ty0, pos0, aft0, some (j, false)⟩ :: l) := by
  rw [← gSplit j (⟨dst, op, ty0, pos0, aft0, some (j, false)⟩ :: l), hdrop]
  cases b with
  | false =>
    refine ⟨fun a w hst => wpList_join ?_ ?_ _ a w ((hyes rfl).go a w hst)⟩
    · rintro a w ⟨_, h1, h2⟩
      exact (Jx.pickF (c := c) (b := false) (x := .const (.bool true)) (y := .tmp y) (s := .val (.bool q)) (ev_off hy hc) rfl (by simp [ev, look]) hlt (J.ofSt fun a w h => k.go a w (told_off hy h))).go a w (h1.told1 (t := y) (s := .val (.bool q)) (by rw [h2]; exact .val _))
    · rintro e a w he ⟨h, _⟩; exact absurd h he
  | true =>
    exact ⟨fun a w hst => skip_run (want := false) ho hod hv (Jx.pickT (c := c) (b := true) (x := .const (.bool true)) (y := .tmp y) (s := .val (.bool true)) hc rfl rfl hlt k) _ [] a w hsk hst (by simp)⟩
theorem J.guardAnd {q b : Bool} {j d t y : Nat} {c : Operand} {og : Oper} (ho : ops[j]? = some og) (hod : og.dst = some d) (hv : look F d = some (.val (.bool b)))
    (hdrop : gDrop j (⟨dst, op, ty0, pos0, aft0, some (j, true)⟩ :: l) = ⟨some t, .pick c (.tmp y) (.const (.bool false)), ty, pos, aft, none⟩ :: rest) (hc : ev F c = some (.val (.bool b)))
    (hsk : okSkip ops F Γ.nt j true [] (gTake j (⟨dst, op, ty0, pos0, aft0, some (j, true)⟩ :: l)) = true) (hy : hasKey F y = false) (hlt : Nat.blt t Γ.nt = true)
    (hyes : b = true → J P Γ ops (Qj Γ F L y q) F L (gTake j (⟨dst, op, ty0, pos0, aft0, some (j, true)⟩ :: l)))
    (k : J P Γ ops Q ((t, .val (.bool (b && q))) :: F) L rest) : J P Γ ops Q F L (⟨dst, op, ty0, pos0, aft0, some (j, true)⟩ :: l) := by
  rw [← gSplit j (⟨dst, op, ty0, pos0, aft0, some (j, true)⟩ :: l), hdrop]
  cases b with
  | true =>
    refine ⟨fun a w hst => wpList_join ?_ ?_ _ a w ((hyes rfl).go a w hst)⟩
    · rintro a w ⟨_, h1, h2⟩
      exact (Jx.pickT (c := c) (b := true) (x := .tmp y) (y := .const (.bool false)) (s := .val (.bool q)) (ev_off hy hc) rfl (by simp [ev, look]) hlt (J.ofSt fun a w h => k.go a w (told_off hy h))).go a w (h1.told1 (t := y) (s := .val (.bool q)) (by rw [h2]; exact .val _))
    · rintro e a w he ⟨h, _⟩; exact absurd h he
  | false =>
    exact ⟨fun a w hst => skip_run (want := true) ho hod hv (Jx.pickF (c := c) (b := false) (x := .tmp y) (y := .const (.bool false)) (s := .val (.bool false)) hc rfl rfl hlt k) _ [] a w hsk hst (by simp)⟩
theorem J.gY {dst : Option Tmp} {op : Op} {ty : TypeId} {pos : String} {aft : Array Edge} {j d : Nat} {want b : Bool} {og : Oper}
    (ho : ops[j]? = some og) (hd : og.dst = some d) (hv : look F d = some (.val (.bool b)))
    (h : J P Γ ops Q F L (⟨dst, op, ty, pos, aft, none⟩ :: rest)) (hb : b = want := by first | rfl | assumption | (exact decide_eq_true (by first | assumption | omega | rfl)) | (exact decide_eq_false (by first | assumption | omega | rfl)) | (simp; done) | (simp; omega)) : J P Γ ops Q F L (⟨dst, op, ty, pos, aft, some (j, want)⟩ :: rest) := J.guardYes ho hd hv hb h
theorem J.gN {dst : Tmp} {op : Op} {ty : TypeId} {pos : String} {aft : Array Edge} {j d : Nat} {want b : Bool} {og : Oper}
    (ho : ops[j]? = some og) (hd : og.dst = some d) (hv : look F d = some (.val (.bool b))) (hlt : Nat.blt dst Γ.nt = true)
    (h : J P Γ ops Q ((dst, .val undef) :: F) L rest) (hb : b = !want := by first | rfl | assumption | (exact decide_eq_true (by first | assumption | omega | rfl)) | (exact decide_eq_false (by first | assumption | omega | rfl)) | (simp; done) | (simp; omega)) : J P Γ ops Q F L (⟨some dst, op, ty, pos, aft, some (j, want)⟩ :: rest) := J.guardNoU ho hd hv hb hlt h
theorem Jx.pT {c x y : Operand} {s : SV} {b : Bool} {d0 : Nat} (hc : ev F c = some (.val (.bool b))) (hx : ev F x = some s) (hlt : Nat.blt d0 Γ.nt = true) (k : J P Γ ops Q ((d0, s) :: F) L rest) (hb : b = true := by first | rfl | assumption | (exact decide_eq_true (by first | assumption | omega | rfl)) | (exact decide_eq_false (by first | assumption | omega | rfl)) | (simp; done) | (simp; omega)) :
    J P Γ ops Q F L (⟨some d0, .pick c x y, ty, pos, aft, none⟩ :: rest) := Jx.pickT hc hb hx hlt k
theorem Jx.pF {c x y : Operand} {s : SV} {b : Bool} {d0 : Nat} (hc : ev F c = some (.val (.bool b))) (hy : ev F y = some s) (hlt : Nat.blt d0 Γ.nt = true) (k : J P Γ ops Q ((d0, s) :: F) L rest) (hb : b = false := by first | rfl | assumption | (exact decide_eq_true (by first | assumption | omega | rfl)) | (exact decide_eq_false (by first | assumption | omega | rfl)) | (simp; done) | (simp; omega)) :
    J P Γ ops Q F L (⟨some d0, .pick c x y, ty, pos, aft, none⟩ :: rest) := Jx.pickF hc hb hy hlt k
theorem W.cT {c : Operand} {x y : Code} {b : Bool} (hc : ev F c = some (.val (.bool b))) (ht : W P Γ Q F L x) (hb : b = true := by first | rfl | assumption | (exact decide_eq_true (by first | assumption | omega | rfl)) | (exact decide_eq_false (by first | assumption | omega | rfl)) | (simp; done) | (simp; omega)) : W P Γ Q F L (.cond c x y) := W.condT hc hb ht
theorem W.cF {c : Operand} {x y : Code} {b : Bool} (hc : ev F c = some (.val (.bool b))) (hf : W P Γ Q F L y) (hb : b = false := by first | rfl | assumption | (exact decide_eq_true (by first | assumption | omega | rfl)) | (exact decide_eq_false (by first | assumption | omega | rfl)) | (simp; done) | (simp; omega)) : W P Γ Q F L (.cond c x y) := W.condF hc hb hf
theorem J.st {T b o : Nat} [h : TSc P T] {x y : Operand} {s : SV} (i : Nat) (hx : ev F x = some (.val (.pointer (some ⟨b, o, none⟩)))) (hy : ev F y = some s) {T' : TypeId} {cs cs' : List SV} {L' : List Own}
    (hi : L[i]? = some (.obj b T' cs)) (ho : Nat.blt o cs.length = true) (hcs : cs.set o s = cs') (hL : L.set i (.obj b T' cs') = L') (k : J P Γ ops Q F L' rest) (h1 : One s := by first | exact One.val rfl | exact One.sl | exact One.pp | exact One.slc) :
    J P Γ ops Q F L (⟨none, .store T x y, ty, pos, aft, none⟩ :: rest) := J.store hx hy h1 i hi ho hcs hL k
theorem SegC.gY {K : List (Nat × SV) → Prop} {dst : Option Tmp} {j e : Nat} {want b : Bool} {og : Oper}
    (hog : ops[j]? = some og) (hod : og.dst = some e) (hv : look F e = some (.val (.bool b))) (h : SegC P Γ ops L F (⟨dst, op, ty, pos, aft, none⟩ :: l) K) (hb : b = want := by first | rfl | assumption | (exact decide_eq_true (by first | assumption | omega | rfl)) | (exact decide_eq_false (by first | assumption | omega | rfl)) | (simp; done) | (simp; omega)) : SegC P Γ ops L F (⟨dst, op, ty, pos, aft, some (j, want)⟩ :: l) K := SegC.yes hog hod hv hb h
theorem SegC.gU {K : List (Nat × SV) → Prop} {d j e : Nat} {want b : Bool} {og : Oper}
    (hog : ops[j]? = some og) (hod : og.dst = some e) (hv : look F e = some (.val (.bool b))) (hlt : Nat.blt d Γ.nt = true) (hr : SegC P Γ ops L ((d, .val undef) :: F) l K) (hb : b = !want := by first | rfl | assumption | (exact decide_eq_true (by first | assumption | omega | rfl)) | (exact decide_eq_false (by first | assumption | omega | rfl)) | (simp; done) | (simp; omega)) : SegC P Γ ops L F (⟨some d, op, ty, pos, aft, some (j, want)⟩ :: l) K := SegC.noU hog hod hv hb hlt hr
end
section
variable {P : Program} {Γ : Ctx} {Q : Exit → Act → World → Prop} {F : List (Nat × SV)} {L : List Own} {α : Type}
end
section
variable {P : Program} {Γ : Ctx} {Q : Exit → Act → World → Prop} {F : List (Nat × SV)} {L : List Own} {α : Type}
end
end Go.Sse
namespace Go.Sse
open Go Go.Sse
set_option linter.unusedVariables false
set_option linter.unusedSimpArgs false
set_option maxRecDepth 10000
section
variable {P : Program} {Γ : Ctx} {Q : Exit → Act → World → Prop} {F : List (Nat × SV)} {L : List Own} {α : Type}
theorem W.label {l : Nat} (h : N Γ (Q .normal) F L) : W P Γ Q F L (.label l) := ⟨fun a w hst => wp_label (h.go a w hst)⟩
theorem W.scopeS {c : Code} (h : W P Γ (Exit.noGoto Q) F L c) : W P Γ Q F L (.scope c) := ⟨fun a w hst => wp_scope_straight (h.go a w hst)⟩
theorem N.noGotoRet (h : N Γ (Q .ret) F L) : N Γ (Exit.noGoto Q .ret) F L := ⟨fun a w hst => h.go a w hst⟩
theorem N.noGotoNormal (h : N Γ (Q .normal) F L) : N Γ (Exit.noGoto Q .normal) F L := ⟨fun a w hst => h.go a w hst⟩
end
section
variable {P : Program} {Γ : Ctx} {ops : Array Oper} {Q : Exit → Act → World → Prop} {F G : List (Nat × SV)} {L L' : List Own}
theorem JP.perm {S idx : List Nat} (hp : L.Perm L') (h : JP P Γ ops Q S idx G L') : JP P Γ ops Q S idx G L :=
  ⟨fun k listed a w hq hk => by
    have hin : ∀ b, inF L' b ↔ inF L b := fun b => (hp.flatMap_right _).mem_iff.symm
    exact h.go k listed a w ⟨hq.sz, hq.lo, hq.hi, hq.cl, hq.ws.perm hp, hq.nt, hq.df, fun x s hx hb => (hq.fr x s hx hb).stable fun b _ hn => ⟨rfl, fun hc => hn (by rcases hc with hc | hc; exact .inl hc; exact .inr ((hin b).1 hc))⟩⟩ hk⟩
theorem WSt.rowRel {v : Value} {E sz n : Nat} {el : Nat → List SV} {w : World} (hws : WSt Γ (.row v E sz n el :: L) w) (hmax : n ≤ maxLen) : Rel (ZL Γ.Z L) w (.sl sz n el) v := by
  rcases hws.holds _ (List.mem_cons_self ..) with ⟨rfl, rfl⟩ | ⟨b, cap, cur, fz, rfl, hbk, hu, hnc, hcm, hcs, hone, hell, hrel⟩
  · exact .sl sz 0 el none 0 (fun _ => undef) (Nat.le_refl _) (Nat.zero_le _) (.inl (by simp)) (by simp) (by simp) (by simp)
  · have hle : n * sz ≤ cur.size := by rw [hcs]; exact Nat.mul_le_mul_right _ hnc
    have hnz : ¬ ZL Γ.Z L b := by
      have hnd := hws.nodup
      rw [foots_cons, List.nodup_append] at hnd
      rintro (h | h)
      · exact (hws.foot b (by simp [inF, foots_cons, Own.foot])).1 h
      · exact hnd.2.2 b (by simp [Own.foot]) b h rfl
    refine .sl sz n el (some ⟨b, 0, none⟩) cap (fun k => cur.toList.getD k undef) hnc hcm (.inr ⟨b, 0, rfl, hnz, fun k hk => ?_⟩) (fun k hk => ?_) hell (fun i j hi hj => (hrel i j hi hj).stable fun b' _ hn => ⟨rfl, fun hc => hn ?_⟩)
    · rw [Nat.zero_add, obj_cell hbk]
      have : k < cur.size := by omega
      simp [List.getD_eq_getElem?_getD, this]
    · have : k < cur.size := by omega
      refine hone _ ?_
      simp only [List.getD_eq_getElem?_getD, Array.getElem?_toList, Array.getElem?_eq_getElem this, Option.getD_some]
      exact Array.getElem_mem_toList this
    · rcases hc with hc | hc
      · exact .inl hc
      · refine .inr ?_
        simp only [inF, foots_cons, List.mem_append]
        exact .inr hc
theorem Step.objTell {k b o : Nat} {T : TypeId} {cs : List SV} {s : SV} {v : Value} {w : World} (h : WSt Γ L w) (hi : L[k]? = some (.obj b T cs)) (hc : cs[o]? = some (.val v)) (hr : Rel (ZL Γ.Z L) w s v) : Step Γ L (L.set k (.obj b T (cs.set o s))) w w := by
  refine Step.upd h hi rfl ⟨rfl, rfl, rfl, rfl⟩ (fun _ _ => rfl) ?_
  obtain ⟨vs, fz, hb, hu, h1, h2, h3⟩ := h.holds _ (mem_of_idx hi)
  have hlt : o < cs.length := (List.getElem?_eq_some_iff.1 hc).1
  refine ⟨vs, fz, hb, hu, by rw [List.length_set]; exact h1, h2, fun j hj => ?_⟩
  rw [List.length_set] at hj
  have h4 := h3 j hj
  by_cases ho : o = j
  · subst ho
    simp only [List.getD_eq_getElem?_getD, hc, Option.getD_some] at h4
    have h5 := h4.val_eq
    simp only [List.getD_eq_getElem?_getD, List.getElem?_set_self hlt, Option.getD_some] at h5 ⊢
    rw [h5]; exact hr
  · simp only [List.getD_eq_getElem?_getD, List.getElem?_set_ne ho] at h4 ⊢
    exact h4
end
end Go.Sse
namespace Go.Sse
open Go Go.Sse
set_option linter.unusedVariables false
set_option linter.unusedSimpArgs false
section
variable {P : Program} {Γ : Ctx} {ops : Array Oper} {Q : Exit → Act → World → Prop} {F : List (Nat × SV)} {L : List Own} {rest : List Oper}
variable {dst : Option Tmp} {ty : TypeId} {pos : String} {aft : Array Edge} {g : Option (Nat × Bool)}
end
end Go.Sse
namespace Go.Sse
open Go
set_option linter.unusedVariables false
set_option linter.unusedSimpArgs false
structure FnD (P : Program) [Gl P] (f : Nat) (args : List SV) (L : List Own) (R : SV → List Own → Prop) : Prop where
  go : ∀ (Z : Nat → Prop) (w : World) (vs : List Value), vs.length = args.length → (∀ j, j < args.length → Rel (ZL Z L) w (args.getD j .any) (vs.getD j undef)) →
    (∀ b, Z b → b < w.heap.size) → (foots L).Nodup → (∀ b, inF L b → ¬ Z b) → (∀ o ∈ L, o.holds (ZL Z L) w) →
    (∀ x ∈ Gl.gl P, x.1 < w.heap.size ∧ ¬ inF L x.1 ∧ ∀ i v, x.2[i]? = some v → w.cell? ⟨x.1, i, none⟩ = some v) → ∀ u, CallsD P f vs.toArray u w (fun e u' w' => u' = u ∧ RetP Z w L R e w')
instance {P : Program} [Gl P] {Z Fp : Nat → Prop} {w0 : World} {n : Nat} {d : Deferred} {df : List Deferred} [h : Globs P ⟨Z, w0, Fp, n, []⟩] : Globs P ⟨Z, w0, Fp, n, d :: df⟩ := ⟨h.ok⟩
theorem WSt.df {Z Fp : Nat → Prop} {w0 : World} {n : Nat} {df df' : List Deferred} {L : List Own} {w : World} (h : WSt ⟨Z, w0, Fp, n, df⟩ L w) : WSt ⟨Z, w0, Fp, n, df'⟩ L w :=
  ⟨h.os, h.tape, h.output, h.size, h.keep, h.zlt, h.nodup, h.foot, h.holds⟩
section
variable {P : Program} {ops : Array Oper} {Q : Exit → Act → World → Prop} {F : List (Nat × SV)} {L : List Own} {rest : List Oper} {Z Fp : Nat → Prop} {w0 : World} {n : Nat} {df : List Deferred}
variable {L0 : List Own} {R : SV → List Own → Prop} {fn : Func}
end
end Go.Sse
namespace Go.Sse
open Go Go.Sse
set_option linter.unusedVariables false
set_option linter.unusedSimpArgs false
set_option maxRecDepth 10000
def leafTy (P : Program) (t : TypeId) : Leaf → Bool
  | .b => match P.underlying t with | some .bool => true | _ => false
  | .i k => match P.underlying t with | some (.int k') => decide (k = k') | _ => false
  | .s => match P.underlying t with | some .string => true | _ => false
def flatF (P : Program) : List Field → Nat → List Leaf → Bool
  | [], _, [] => true
  | f :: fs, off, l :: ls => decide (f.offset = off) && (decide (f.name ≠ "_") && (leafTy P f.type l && flatF P fs (off + 1) ls))
  | _, _, _ => false
class TKey (P : Program) (K : Nat) (ls : outParam (List Leaf)) : Prop where
  leaf : TLeaf P K ls
  ok : (match P.underlying K with | some (.struct fs) => flatF P fs.toList 0 ls | _ => false) = true
section
variable {P : Program} {α : Type} [DecidableEq α] (enc : α → List Value) (inj : ∀ a b, enc a = enc b → a = b)
end
section
variable {P : Program} {Γ : Ctx} {ops : Array Oper} {Q : Exit → Act → World → Prop} {F : List (Nat × SV)} {L : List Own} {rest : List Oper}
variable {dst : Option Tmp} {ty : TypeId} {pos : String} {aft : Array Edge} {g : Option (Nat × Bool)}
variable {α : Type} [DecidableEq α] (enc : α → List Value)
theorem OpS.appendZ {t xt E sz by' m : Nat} {z : List Value} [ht : TSlice P t E] [hI : TInfo P E sz by' z] {s x : Operand} {el el2 : Nat → List SV}
    (hsv : ev (F := F) s = some (.slc sz 0 el)) (hx : SrcOK P Γ F L sz xt x m el2) (hz : z.length = sz) (hz1 : z.all (·.oneCell') = true) (h63 : m ≤ maxLen) (hb : m * by' ≤ 140737488355328) (hm : 0 < m) :
    OpS P Γ ⟨dst, .call { callee := .builtin .append, args := #[s, x], argTypes := #[t, xt] }, ty, pos, aft, g⟩ F L (fun u L' => ∃ v, v.oneCell' = true ∧ u = .val v ∧ L' = .row v E sz m el2 :: L) := by
  intro a w K Q hst hK
  have hws := hst.ws
  obtain ⟨news, hsrc, hnew⟩ := hx a.eval w hws (fun s hs => hst.ev hs)
  have hr := hst.ev hsv
  generalize hv : a.eval s = v at hr
  cases hr with
  | slc _ _ _ base hsl =>
    have hof : (Builtin.firstCells sz 0 (.slice base 0 0)).run P w.drew = .ok (([] : List Value).toArray) w.drew := by
      obtain ⟨nw, hs, hn⟩ := SrcOK.sl (P := P) (Γ := Γ) (F := [(0, .sl sz 0 el)]) (L := L) (xt := t) (E := E) (x := .tmp 0) (sz := sz) (m := 0) (el2 := el) rfl (fun _ => .slice base 0 0) w hws (by
        intro s hs; simp [ev, look] at hs; subst hs; exact hsl)
      have : nw = [] := List.eq_nil_of_length_eq_zero (by simpa using hs.nl)
      subst this
      exact hs.drew
    obtain ⟨c, rest', hc1, hc2, hc3, hc4, hrun⟩ := run_append_new (ty := ty) ht.ok hI hz hsrc base 0 0 hof (by simp) (by omega) (by omega) (by simpa using hb)
    have hexec : (execOp a.eval ⟨dst, .call { callee := .builtin .append, args := #[s, x], argTypes := #[t, xt] }, ty, pos, aft, g⟩).run P w = .ok (.value (.slice (some ⟨w.heap.size, 0, none⟩) (0 + m) c)) (w.drew.alloc (.cells ([] ++ news ++ rest').toArray E)) := by
      simp only [execOp, resolve, invoke, builtin, hv, List.map_toArray, List.map_cons, List.map_nil, Sem.run_bind, Sem.run_pure, Result.andThen_ok]
      first | (rw [hrun]; rfl) | (simp [hrun])
    unfold Oper.wp
    rw [hexec]
    simp only [Nat.zero_add, List.nil_append] at hc1 hc2 hc3 ⊢
    have hd2 : Step Γ L L w w.drew := Step.drew hws
    refine hK _ _ (.val _) (.row (.slice (some ⟨w.heap.size, 0, none⟩) m c) E sz m el2 :: L) ⟨_, rfl, rfl, rfl⟩ (hd2.trans (Step.alloc hd2.ws _ _ rfl (.inr ⟨w.heap.size, c, (news ++ rest').toArray, (0, 0), rfl, heap_alloc_new w.drew _, by intro i _; simp, hc1, hc2, by simp only [List.size_toArray]; exact hc3, fun u hu => ?_, hnew.1, fun i j hi hj => ?_⟩))) (.val _)
    · rcases List.mem_append.1 (by simpa using hu) with hu | hu
      · exact hsrc.one _ hu
      · exact (List.all_eq_true.1 hz1) _ (hc4 _ hu)
    · have hlt := idx_lt hi hj
      have e : (news ++ rest').toArray.toList.getD (i * sz + j) undef = news.getD (i * sz + j) undef := by
        simp only [List.getD_eq_getElem?_getD]
        rw [List.getElem?_append_left (by rw [hsrc.nl]; exact hlt)]
      rw [e]
      refine (hnew.2 i j hi hj).stable fun b hb hn => ⟨heap_alloc_old w.drew _ hb, ?_⟩
      rintro (h1 | h1)
      · exact hn (.inl h1)
      · simp only [inF, foots_cons, Own.foot, List.singleton_append, List.mem_cons] at h1
        rcases h1 with h1 | h1
        · have : b < w.heap.size := hb
          omega
        · exact hn (.inr h1)
end
end Go.Sse
namespace Go.Sse
open Go Go.Sse
set_option linter.unusedVariables false
set_option linter.unusedSimpArgs false
set_option maxRecDepth 10000
section
variable {P : Program} {Γ : Ctx} {ops : Array Oper} {Q : Exit → Act → World → Prop} {F : List (Nat × SV)} {L : List Own} {rest : List Oper}
variable {dst : Option Tmp} {ty : TypeId} {pos : String} {aft : Array Edge} {g : Option (Nat × Bool)}
theorem Qs.buildNone {t E sz by' : Nat} {z : List Value} [ht : TSlice P t E] [hI : TInfo P E sz by' z] (el : Nat → List SV) : Qs P Γ F L ⟨dst, .buildSlice t 0 #[], ty, pos, aft, g⟩ (.slc sz 0 el) := by
  intro a w K Q hws hops hK
  have hs : (sizeOf E).run P w = .ok sz w := sizeOf_of (by have := hI.ok; cases hq : P.info? E <;> simp_all) w
  have hexec : (execOp a.eval ⟨dst, .buildSlice t 0 #[], ty, pos, aft, g⟩).run P w = .ok (.value (.slice (some ⟨w.heap.size, 0, none⟩) 0 0)) (w.alloc (.cells #[] E)) := by
    simp [execOp, Instr.buildSlice, run_underlying ht.ok, hs, Instr.fill, newRow]
    exact congrArg (fun c => w.alloc (.cells c E)) (Array.eq_empty_of_size_eq_zero (by simp))
  unfold Oper.wp
  rw [hexec]
  refine hK _ _ (Step.alloc0 hws _) ?_
  exact .slc _ _ _ _ (.sl sz 0 el _ 0 (fun _ => undef) (Nat.le_refl _) (Nat.zero_le _) (.inl (by simp)) (by simp) (by simp) (by simp))
end
end Go.Sse
namespace Go.Sse
open Go Go.Sse
set_option linter.unusedVariables false
set_option linter.unusedSimpArgs false
set_option maxRecDepth 10000
section
variable {P : Program} {Γ : Ctx} {ops : Array Oper} {Q : Exit → Act → World → Prop} {F G : List (Nat × SV)} {L : List Own} {l rest : List Oper} {S idx : List Nat}
variable {dst : Option Tmp} {ty : TypeId} {pos : String} {aft : Array Edge} {g : Option (Nat × Bool)}
end
end Go.Sse
namespace Go.Sse
open Go Go.Sse
set_option linter.unusedVariables false
set_option linter.unusedSimpArgs false
set_option maxRecDepth 10000
class TMeth (P : Program) (T : Nat) (name : String) (f : outParam Nat) (pr : outParam Bool) : Prop where
  ok : ((P.info? T).bind fun i => (i.methods.find? (fun m => m.name == name)).bind fun m => if m.path.isEmpty then m.func else none) = some (f, pr)
section
variable {P : Program} {Γ : Ctx} {ops : Array Oper} {Q : Exit → Act → World → Prop} {F : List (Nat × SV)} {L : List Own} {rest : List Oper}
variable {dst : Option Tmp} {ty : TypeId} {pos : String} {aft : Array Edge} {g : Option (Nat × Bool)}
end
section
variable {P : Program} [Gl P] {Γ : Ctx} [Globs P Γ] {ops : Array Oper} {Q : Exit → Act → World → Prop} {F : List (Nat × SV)} {L : List Own} {rest : List Oper}
variable {dst : Option Tmp} {ty : TypeId} {pos : String} {aft : Array Edge} {g : Option (Nat × Bool)}
end
section
variable {P : Program} {Γ : Ctx} {ops : Array Oper} {Q : Exit → Act → World → Prop} {F : List (Nat × SV)} {L : List Own} {rest : List Oper}
variable {dst : Option Tmp} {ty : TypeId} {pos : String} {aft : Array Edge} {g : Option (Nat × Bool)}
end
end Go.Sse
namespace Go.Sse
open Go Go.Sse
set_option linter.unusedVariables false
set_option linter.unusedSimpArgs false
set_option maxRecDepth 10000
section
variable {P : Program} {Γ : Ctx} {ops : Array Oper} {Q : Exit → Act → World → Prop} {F : List (Nat × SV)} {L : List Own} {rest : List Oper}
variable {dst : Option Tmp} {ty : TypeId} {pos : String} {aft : Array Edge} {g : Option (Nat × Bool)}
end
end Go.Sse
namespace Go.Sse
open Go Go.Sse
set_option linter.unusedVariables false
set_option linter.unusedSimpArgs false
set_option maxRecDepth 10000
section
variable {P : Program} {Γ : Ctx} {ops : Array Oper} {Q : Exit → Act → World → Prop} {F : List (Nat × SV)} {L : List Own} {rest : List Oper}
variable {dst : Option Tmp} {ty : TypeId} {pos : String} {aft : Array Edge} {g : Option (Nat × Bool)}
end
end Go.Sse
namespace Go.Sse
open Go Go.Sse
set_option linter.unusedVariables false
set_option linter.unusedSimpArgs false
set_option maxRecDepth 10000
section
variable {P : Program} {Γ : Ctx} {ops : Array Oper} {Q : Exit → Act → World → Prop} {F : List (Nat × SV)} {L L2 : List Own} {rest : List Oper}
variable {dst : Option Tmp} {ty : TypeId} {pos : String} {aft : Array Edge} {g : Option (Nat × Bool)}
theorem Step.permL {L' : List Own} {w w' : World} (h : Step Γ L2 L' w w') (hp : L.Perm L2) : Step Γ L L' w w' := by
  have hin : ∀ b, inF L b ↔ inF L2 b := fun b => (hp.flatMap_right _).mem_iff
  exact ⟨h.ws, h.size, fun b hb hn => h.same b hb fun hi => hn ((hin b).2 hi), fun b hb => (h.fresh b hb).imp (fun hi => (hin b).2 hi) id⟩
theorem OpS.permL {o : Oper} {R : SV → List Own → Prop} (h : OpS P Γ o F L2 R) (hp : L.Perm L2) : OpS P Γ o F L R :=
  fun a w K Q hst hK => h a w K Q (hst.perm hp) fun v w' sv L' hR hs hrel => hK v w' sv L' hR (hs.permL hp) hrel
theorem JP.callP [Gl P] [Globs P Γ] {l : List Oper} {S idx : List Nat} {G : List (Nat × SV)} {d f : Nat} [hT : TFunc P f] {xs : List Operand} {ts : Array TypeId} {args : List SV} {Lc Lr : List Own} {R : SV → List Own → Prop} (i : Nat) (ks S' idx' : List Nat) (hF : FnC P f args Lc R) (hL : L.Perm (Lc ++ Lr)) (hc : (okIdx l.toArray S idx && okStep l.toArray S idx i ks S' idx') = true)
    (hoi : l[i]? = some ⟨some d, .call { callee := .value (.func f), args := xs.toArray, argTypes := ts }, ty, pos, aft, g⟩) (hre : SegC P Γ l.toArray L G (opsAt l idx) (Ag G idx.length)) (ha : Args (keep ks G) xs args) (hlt : Nat.blt d Γ.nt = true)
    (k : ∀ s Lc', R s Lc' → JP P Γ l.toArray Q S' idx' ((d, s) :: G) (Lc' ++ Lr)) : JP P Γ l.toArray Q S idx G L :=
  JP.do1 i ks S' idx' hc hoi hre ((OpS.call hF rfl ha).permL hL) hlt (by rintro s L' ⟨Lc', hR, rfl⟩; exact k s Lc' hR)
end
end Go.Sse
namespace Go.Sse
open Go Go.Sse
set_option linter.unusedVariables false
set_option linter.unusedSimpArgs false
set_option maxRecDepth 10000
section
variable {P : Program} {Γ : Ctx} {ops : Array Oper} {Q : Exit → Act → World → Prop} {F : List (Nat × SV)} {L L2 : List Own} {rest : List Oper}
variable {dst : Option Tmp} {ty : TypeId} {pos : String} {aft : Array Edge} {g : Option (Nat × Bool)}
theorem OpS.makeRow {t e by' : Nat} [hd : TSlice P t e] [hI : TInfo P e 1 by' [.int .u8 0]] {x y : Operand} {n : Nat} {k k' : IntKind} (hx : ev F x = some (.val (.int k 0))) (hy : ev F y = some (.val (.int k' (n : Int)))) (hm : n ≤ maxLen) (hby : by' * n ≤ 281474976710656) (el : Nat → List SV) :
    OpS P Γ ⟨dst, .makeSlice t x y, ty, pos, aft, g⟩ F L (fun s L' => ∃ v, v.oneCell' = true ∧ s = .val v ∧ L' = .row v e 1 0 el :: L) := by
  intro a w K Q hst hK
  have hxv := hst.evv hx
  have hyv := hst.evv hy
  obtain ⟨z, hzr, hzc, i, hi, hsz, hb, hiz⟩ := run_zero hI w
  have hml : (n : Int) ≤ 9223372036854775807 := Int.ofNat_le.2 (Nat.le_trans hm (by decide : maxLen ≤ 9223372036854775807))
  have hb' : (i.bytes : Int) * (n : Int) ≤ 281474976710656 := by rw [hb, ← Int.natCast_mul]; exact Int.ofNat_le.2 hby
  have hr := run_make (P := P) w t e i z hd.ok hi hiz k k' (0 : Int) (n : Int) (Int.le_refl _) (by omega) hb' hml
  simp only [Int.toNat_natCast, hsz, Nat.mul_one] at hr
  unfold Oper.wp
  have he : (execOp a.eval ⟨dst, .makeSlice t x y, ty, pos, aft, g⟩).run P w = .ok (.value (.slice (some ⟨w.heap.size, 0, none⟩) 0 n)) (w.alloc (.cells (madeCells z.cells n) e)) := by
    simp only [execOp, hxv, hyv, Sem.run_bind, hr, Result.andThen_ok, Sem.run_pure]; rfl
  rw [he]
  have hz1 : z.cells = #[.int .u8 0] := by rw [← Array.toList_inj, hzc]
  refine hK _ _ _ _ ⟨_, rfl, rfl, rfl⟩ (Step.alloc hst.ws _ _ rfl (.inr ⟨_, n, _, _, rfl, heap_alloc_new w _, fun j hj => by simp only; omega, Nat.zero_le _, hm, by simp [madeCells], ?_, fun j hj => absurd hj (Nat.not_lt_zero j), fun j q hj => absurd hj (Nat.not_lt_zero j)⟩)) (.val _)
  intro u hu
  simp only [madeCells, hz1] at hu
  simp only [Array.toList_map, List.mem_map] at hu
  obtain ⟨j, hj, rfl⟩ := hu
  simp [Nat.mod_one]; rfl
theorem J.makeRow {d t e by' : Nat} [hd : TSlice P t e] [hI : TInfo P e 1 by' [.int .u8 0]] {x y : Operand} {n : Nat} {k k' : IntKind} (hx : ev F x = some (.val (.int k 0))) (hy : ev F y = some (.val (.int k' (n : Int)))) (hm : n ≤ maxLen) (hby : by' * n ≤ 281474976710656) (el : Nat → List SV) (hlt : Nat.blt d Γ.nt = true)
    (k : ∀ v, v.oneCell' = true → J P Γ ops Q ((d, .val v) :: F) (.row v e 1 0 el :: L) rest) : J P Γ ops Q F L (⟨some d, .makeSlice t x y, ty, pos, aft, none⟩ :: rest) :=
  J.op (OpS.makeRow hx hy hm hby el) rfl rfl hlt (by rintro s L' ⟨v, hv, rfl, rfl⟩; exact k v hv)
end
end Go.Sse
namespace Go.Sse
open Go Go.Sse
set_option linter.unusedVariables false
set_option linter.unusedSimpArgs false
set_option maxRecDepth 10000
section
variable {P : Program} {Γ : Ctx} {ops : Array Oper} {Q : Exit → Act → World → Prop} {F : List (Nat × SV)} {L L2 : List Own} {rest : List Oper}
variable {dst : Option Tmp} {ty : TypeId} {pos : String} {aft : Array Edge} {g : Option (Nat × Bool)}
theorem Pv.sliceArrH {T E sz by' n : Nat} {z : List Value} [h : TArr P T n E] [hI : TInfo P E sz by' z] {x j : Operand} {k : IntKind} {b o : Nat} {m : Int} (hx : ev F x = some (.val (.pointer (some ⟨b, o, none⟩))))
    (hj : ev F j = some (.val (.int k m))) (h0 : 0 ≤ m) (h1 : m ≤ n) : Pv P Γ F L ⟨dst, .slice T x none (some j) none, ty, pos, aft, g⟩ (.val (.slice (some ⟨b, o, none⟩) m.toNat n)) := fun ρ w hst => by
  have hxv := hst.evv (x := x) (by simp [Op.operands]) hx
  have hjv := hst.evv (x := j) (by simp [Op.operands]) hj
  have hs : (sizeOf E).run P w = .ok sz w := sizeOf_of (by have := hI.ok; cases hq : P.info? E <;> simp_all) w
  have e1 := run_sliceBoundNat (P := P) (k := k) (i := m) (y := n) (code := .sliceAlen) (w := w) h0 (by omega)
  refine ⟨_, ?_, .val _⟩
  simp [execOp, hxv, hjv, Instr.sliceAt, Instr.sliceBounds, run_underlying h.ok, Instr.sureAddr, hs, e1, add_plain]
theorem Jx.sliceArrH {T E sz by' n : Nat} {z : List Value} [h : TArr P T n E] [hI : TInfo P E sz by' z] {x j : Operand} {k : IntKind} {b o : Nat} {m : Int} (hx : ev F x = some (.val (.pointer (some ⟨b, o, none⟩))))
    (hj : ev F j = some (.val (.int k m))) (h0 : 0 ≤ m) (h1 : m ≤ n) {d0 : Nat} (hlt : Nat.blt d0 Γ.nt = true) (k : J P Γ ops Q ((d0, (.val (.slice (some ⟨b, o, none⟩) m.toNat n))) :: F) L rest) : J P Γ ops Q F L (⟨some d0, .slice T x none (some j) none, ty, pos, aft, none⟩ :: rest) :=
  J.pv (by apply Pv.sliceArrH <;> assumption) hlt k
theorem Pv.indexRaw {T E sz by' n cap o : Nat} {z : List Value} [h : TSlice P T E] [hI : TInfo P E sz by' z] {x i : Operand} {k : IntKind} {b : Nat} {m : Int} (j : Nat) (hx : ev F x = some (.val (.slice (some ⟨b, o, none⟩) n cap)))
    (hi : ev F i = some (.val (.int k m))) (hm : m = (j : Int)) (h1 : j < n) : Pv P Γ F L ⟨dst, .indexAddr T x i, ty, pos, aft, g⟩ (.val (.pointer (some ⟨b, o + j * sz, none⟩))) := fun ρ w hst => by
  subst hm
  have hxv := hst.evv (x := x) (by simp [Op.operands]) hx
  have hiv := hst.evv (x := i) (by simp [Op.operands]) hi
  have hs : (sizeOf E).run P w = .ok sz w := sizeOf_of (by have := hI.ok; cases hq : P.info? E <;> simp_all) w
  have h1' : (j : Int) < (n : Int) := by omega
  refine ⟨_, ?_, .val _⟩
  simp [execOp, hxv, hiv, Instr.indexAt, asIntOf, run_underlying h.ok, h1', hs, add_plain]
  intro hh; omega
theorem Jx.indexRaw {T E sz by' n cap o : Nat} {z : List Value} [h : TSlice P T E] [hI : TInfo P E sz by' z] {x i : Operand} {k : IntKind} {b : Nat} {m : Int} (j : Nat) (hx : ev F x = some (.val (.slice (some ⟨b, o, none⟩) n cap)))
    (hi : ev F i = some (.val (.int k m))) (hm : m = (j : Int)) (h1 : j < n) {d0 : Nat} (hlt : Nat.blt d0 Γ.nt = true) (k : J P Γ ops Q ((d0, (.val (.pointer (some ⟨b, o + j * sz, none⟩)))) :: F) L rest) : J P Γ ops Q F L (⟨some d0, .indexAddr T x i, ty, pos, aft, none⟩ :: rest) :=
  J.pv (by apply Pv.indexRaw <;> assumption) hlt k
end
end Go.Sse
namespace Go.Sse
open Go Go.Sse
set_option linter.unusedVariables false
set_option linter.unusedSimpArgs false
set_option maxRecDepth 10000
section
variable {P : Program} {Γ : Ctx} {ops : Array Oper} {Q : Exit → Act → World → Prop} {F G : List (Nat × SV)} {L L' : List Own}
theorem JP.freezeCell {S idx : List Nat} (j k o : Nat) {v : Value} {E sz n b : Nat} {T : TypeId} {cs : List SV} {el : Nat → List SV} (hj : L[j]? = some (.row v E sz n el)) (hi : (L.eraseIdx j)[k]? = some (.obj b T cs)) (hc : cs[o]? = some (.val v)) (hmax : n ≤ maxLen) (hL : (L.eraseIdx j).set k (.obj b T (cs.set o (.sl sz n el))) = L') (h : JP P Γ ops Q S idx G L') : JP P Γ ops Q S idx G L := by
  subst hL
  refine JP.perm (perm_erase hj) ⟨fun kk listed a w hq hk => ?_⟩
  have hr := hq.ws.rowRel hmax
  have hd : Step Γ (.row v E sz n el :: L.eraseIdx j) (L.eraseIdx j) w w := Step.drop hq.ws (List.sublist_cons_self _ _)
  have ho := Step.objTell hd.ws hi hc hr
  exact h.go kk listed a w ⟨hq.sz, hq.lo, hq.hi, hq.cl, ho.ws, hq.nt, hq.df, fun x s hx hb => ho.rel (hd.rel (hq.fr x s hx hb))⟩ hk
end
end Go.Sse
namespace Go.Sse
open Go Go.Sse
set_option linter.unusedVariables false
set_option linter.unusedSimpArgs false
set_option maxRecDepth 10000
section
variable {P : Program} {Γ : Ctx} {ops : Array Oper} {Q : Exit → Act → World → Prop} {F G : List (Nat × SV)} {L : List Own}
def okStepG (ops : Array Oper) (S idx : List Nat) (i : Nat) (ks S' idx' : List Nat) : Bool :=
  match ops[i]? with
  | none => false
  | some o => !S.contains i && !idx.contains i && ((depsOf o).all fun e => Nat.blt e ops.size && (S.contains e || idx.contains e)) &&
    ((List.range ops.size).all fun j => S.contains j || idx.contains j || Nat.beq j i || (match ops[j]? with | none => false | some oj => (depsOf oj).any fun e => !S.contains e && !idx.contains e)) &&
    (o.op.operands.toList.all fun x => match x with | .tmp t => ks.contains t | _ => true) &&
    (idx'.all fun b => idx.contains b && (match dstAt ops b with | none => false | some t => !ks.contains t && !(o.dst == some t)) && (match ops[b]? with | none => false | some ob => match o.dst with | none => true | some t => !(rd ops ob).contains t)) &&
    (idx.all fun c => idx'.contains c || (S'.contains c && ((Region.before ops).getD i 0).testBit c)) &&
    (S.all fun s => S'.contains s) && S'.contains i && (S'.all fun s => S.contains s || Nat.beq s i || (idx.contains s && !idx'.contains s))
theorem JP.opG {S idx : List Nat} {lp : List Oper} {o : Oper} {R : SV → List Own → Prop} (i : Nat) (ks S' idx' : List Nat) (hc : (okIdx ops S idx && okStepG ops S idx i ks S' idx') = true) (hlp : idx.map (ops[·]?) = lp.map some) (hoi : ops[i]? = some o)
    (hre : SegC P Γ ops L G lp (Ag G lp.length)) (hwt : ∀ a w, St Γ (keep ks G) L a w → Region.wanted o (yielded ops a.tmps) = true) (hop : OpS P Γ o (keep ks G) L R) (hlt : ∀ d, o.dst = some d → Nat.blt d Γ.nt = true)
    (h : ∀ sv L', R sv L' → JP P Γ ops Q S' idx' (match o.dst with | some d => (d, sv) :: G | none => G) L') : JP P Γ ops Q S idx G L := by
  rw [Bool.and_eq_true] at hc
  obtain ⟨hok, hst⟩ := hc
  unfold okStepG at hst
  simp only [hoi, Bool.and_eq_true, Bool.not_eq_true', List.all_eq_true] at hst
  obtain ⟨⟨⟨⟨⟨⟨⟨⟨⟨hiS, hii⟩, hdi⟩, honly⟩, hks⟩, hidx⟩, hforce⟩, hSS⟩, hiS'⟩, hS'⟩ := hst
  have his : i < ops.size := (Array.getElem?_eq_some_iff.1 hoi).1
  have turn : ∀ k listed a w, PSt Γ ops S idx G L listed a w → unl ops listed = k + 1 → i ∈ Region.ready .any ops listed → wpOp P ops Q i (wpAny P .any ops Q k (listed.setIfInBounds i true)) a w := by
    intro k listed a w hp hk hir
    obtain ⟨_, hif, o', ho', hed⟩ := (ready_iff i).1 hir
    rw [hoi] at ho'; cases ho'
    have hls : i < listed.size := by rw [hp.sz]; exact his
    obtain ⟨k', e1, e2⟩ := unl_set hp.sz his hif hk
    obtain rfl : k = k' := by omega
    have hforced : ∀ c ∈ idx, c ∉ idx' → listed.getD c false = true := by
      intro c hc hn
      have := hforce c hc
      simp only [Bool.or_eq_true, Bool.and_eq_true, List.contains_iff_mem] at this
      rcases this with h1 | ⟨_, h1⟩
      · exact absurd h1 hn
      · exact before_done hp.cl i (fun o' ho' e he hb => by
          rw [hoi] at ho'; cases ho'
          exact hed e.on (List.mem_map.2 ⟨e, List.mem_filter.2 ⟨Array.mem_toList_iff.2 he, hb⟩, rfl⟩)) c h1
    have hidx' : ∀ b ∈ idx', b ∈ idx ∧ ∃ t ob, dstAt ops b = some t ∧ ops[b]? = some ob ∧ t ∉ ks ∧ o.dst ≠ some t ∧ ∀ d, o.dst = some d → d ∉ rd ops ob := by
      intro b hb
      have := hidx b hb
      rw [List.contains_iff_mem] at this
      obtain ⟨⟨h1, h2⟩, h3⟩ := this
      cases ht : dstAt ops b with
      | none => simp [ht] at h2
      | some t =>
        cases hob : ops[b]? with
        | none => simp [hob] at h3
        | some ob =>
          simp only [ht, hob, Bool.and_eq_true, Bool.not_eq_true'] at h2 h3
          refine ⟨h1, t, ob, rfl, rfl, by simpa using h2.1, fun e => by rw [e] at h2; simp at h2, fun d hd => by rw [hd] at h3; simpa using h3⟩
    have hstK : St Γ (keep ks G) L a w := by
      refine ⟨hp.ws, hp.nt, hp.df, fun x s hx => ?_⟩
      obtain ⟨h1, h2⟩ := look_keep hx
      refine hp.fr x s h2 fun b hb hbf hbx => ?_
      by_cases hbi : b ∈ idx'
      · obtain ⟨_, t, _, ht, _, h3, _⟩ := hidx' b hbi
        rw [hbx] at ht; cases ht
        exact h3 h1
      · rw [hforced b hb hbi] at hbf; cases hbf
    unfold wpOp
    simp only [hoi]
    rw [if_pos (hwt a w hstK)]
    refine .inl (hop a w _ Q hstK fun v w' sv L' hR hs hrel => ?_)
    refine (h sv L' hR).go k _ _ _ ⟨by simpa using hp.sz, fun j hj hjS => ?_, fun j hj => ?_, hp.cl.set hls hoi hed, hs.ws, ?_, ?_, fun x s hx hno => ?_⟩ e2
    · rw [getD_setB _ _ hls]
      split
      · rfl
      · have := hS' j (by simpa using hjS)
        simp only [Bool.or_eq_true, Bool.and_eq_true, List.contains_iff_mem, Nat.beq_eq_true_eq, Bool.not_eq_true'] at this
        rcases this with (h1 | h1) | h1
        · exact hp.lo j hj h1
        · rename_i hne; exact absurd (by simpa using h1) hne
        · exact hforced j h1.1 (by have := h1.2; simpa using this)
    · rw [getD_setB _ _ hls] at hj
      split at hj
      · rename_i e; subst e; exact .inl (by simpa using hiS')
      · rcases hp.hi j hj with h1 | h1
        · have := hSS j h1; exact .inl (by simpa using this)
        · by_cases hji : j ∈ idx'
          · exact .inr hji
          · have := hforce j h1
            simp only [Bool.or_eq_true, Bool.and_eq_true, List.contains_iff_mem] at this
            rcases this with h2 | h2
            · exact absurd h2 hji
            · exact .inl h2.1
    · cases hd : o.dst with
      | none => exact hp.nt
      | some d => simpa [Act.put] using hp.nt
    · cases hd : o.dst with
      | none => exact hp.df
      | some d => exact hp.df
    · have hold : ∀ x s, look G x = some s → o.dst ≠ some x → (∀ b ∈ idx', (listed.setIfInBounds i true).getD b false = false → dstAt ops b ≠ some x) → Rel (ZL Γ.Z L') w' s (a.tmps.getD x undef) := by
        intro x s hx hne hno
        refine hs.rel (hp.fr x s hx fun b hb hbf hbx => ?_)
        by_cases hbi : b ∈ idx'
        · refine hno b hbi ?_ hbx
          rw [getD_setB _ _ hls]
          split
          · rename_i e; subst e; simp [hb] at hii
          · exact hbf
        · rw [hforced b hb hbi] at hbf; cases hbf
      cases hd : o.dst with
      | none =>
        rw [hd] at hx
        exact hold x s hx (by simp [hd]) hno
      | some d =>
        rw [hd] at hx
        have hpd : d < a.tmps.size := by rw [hp.nt]; exact Nat.le_of_ble_eq_true (hlt d hd)
        show Rel _ _ _ ((a.tmps.setIfInBounds d v).getD x undef)
        rw [getD_set _ _ _ _ hpd]
        simp only [look] at hx
        cases hb : Nat.beq d x with
        | true =>
          rw [hb] at hx
          simp only [cond_true, Option.some.injEq] at hx
          subst hx
          have := Nat.eq_of_beq_eq_true hb
          subst this
          simpa using hrel
        | false =>
          rw [hb] at hx
          have hne : ¬ x = d := fun e => by subst e; simp at hb
          rw [if_neg hne]
          exact hold x s hx (by rw [hd]; intro e; cases e; exact hne rfl) hno
  refine jp_run hok hlp hre (fun j k listed a w hp hk hj hji => ?_) (fun k listed a w hp hk hal => ?_)
  · obtain ⟨hjs, hjf, oj, hoj, hed⟩ := (ready_iff j).1 hj
    have hjS : j ∉ S := fun hm => by
      have := hp.lo j hjs hm
      rw [← getD_tf (by rw [hp.sz]; exact hjs), hjf] at this; cases this
    by_cases hji' : j = i
    · subst hji'; exact turn k listed a w hp hk hj
    · exfalso
      have := honly j (List.mem_range.2 hjs)
      simp only [Bool.or_eq_true, List.contains_iff_mem, Nat.beq_eq_true_eq, hoj] at this
      rcases this with ((h1 | h1) | h1) | h1
      · exact hjS h1
      · exact hji h1
      · exact hji' (by simpa using h1)
      · obtain ⟨e, he, h2⟩ := List.any_eq_true.1 h1
        simp only [Bool.and_eq_true, Bool.not_eq_true'] at h2
        rcases hp.hi e (hed e he) with h3 | h3
        · simp [h3] at h2
        · simp [h3] at h2
  · have hiF : listed.getD i false = false := by
      cases hq : listed.getD i false with
      | false => rfl
      | true =>
        rcases hp.hi i hq with h1 | h1
        · simp [h1] at hiS
        · simp [h1] at hii
    have hir : i ∈ Region.ready .any ops listed := (ready_iff i).2 ⟨his, by rw [getD_tf (by rw [hp.sz]; exact his)]; exact hiF, o, hoi, fun e he => by
      have := hdi e he
      simp only [Bool.and_eq_true, Bool.or_eq_true, List.contains_iff_mem] at this
      rcases this.2 with h1 | h1
      · exact hp.lo e (Nat.le_of_ble_eq_true this.1) h1
      · exact hal e h1⟩
    obtain ⟨k', e1, _⟩ := unl_set hp.sz his (by rw [getD_tf (by rw [hp.sz]; exact his)]; exact hiF) hk
    subst e1
    refine ⟨fun hnil => by rw [hnil] at hir; simp at hir, fun j hj => ?_⟩
    obtain ⟨hjs, hjf, oj, hoj, hed⟩ := (ready_iff j).1 hj
    have hjS : j ∉ S := fun hm => by
      have := hp.lo j hjs hm
      rw [← getD_tf (by rw [hp.sz]; exact hjs), hjf] at this; cases this
    have hji : j ∉ idx := fun hm => by
      have := hal j hm
      rw [← getD_tf (by rw [hp.sz]; exact hjs), hjf] at this; cases this
    by_cases hji' : j = i
    · subst hji'; exact turn _ listed a w hp hk hj
    · exfalso
      have := honly j (List.mem_range.2 hjs)
      simp only [Bool.or_eq_true, List.contains_iff_mem, Nat.beq_eq_true_eq, hoj] at this
      rcases this with ((h1 | h1) | h1) | h1
      · exact hjS h1
      · exact hji h1
      · exact hji' (by simpa using h1)
      · obtain ⟨e, he, h2⟩ := List.any_eq_true.1 h1
        simp only [Bool.and_eq_true, Bool.not_eq_true'] at h2
        rcases hp.hi e (hed e he) with h3 | h3
        · simp [h3] at h2
        · simp [h3] at h2
variable {l : List Oper} {S idx : List Nat}
theorem JP.do1G {d gj gd : Nat} {gb : Bool} {og : Oper} {op : Op} {ty : TypeId} {pos : String} {aft : Array Edge} {R : SV → List Own → Prop} (i : Nat) (ks S' idx' : List Nat) (hc : (okIdx l.toArray S idx && okStepG l.toArray S idx i ks S' idx') = true) (hoi : l[i]? = some ⟨some d, op, ty, pos, aft, some (gj, gb)⟩)
    (hog : l[gj]? = some og) (hgd : og.dst = some gd) (hgv : look (keep ks G) gd = some (.val (.bool gb)))
    (hre : SegC P Γ l.toArray L G (opsAt l idx) (Ag G idx.length)) (hop : OpS P Γ ⟨some d, op, ty, pos, aft, some (gj, gb)⟩ (keep ks G) L R) (hlt : Nat.blt d Γ.nt = true)
    (h : ∀ sv L', R sv L' → JP P Γ l.toArray Q S' idx' ((d, sv) :: G) L') : JP P Γ l.toArray Q S idx G L := by
  obtain ⟨h1, h2⟩ := opsAt_map (okIdx_some (Bool.and_eq_true_iff.1 hc).1)
  refine JP.opG i ks S' idx' hc h1 (by simpa using hoi) (by rw [h2]; exact hre) (fun a w hst => ?_) hop (fun d' hd => by cases hd; exact hlt) h
  rw [wanted_guard (ops := l.toArray) (b := gb) rfl (by simpa using hog) hgd (hst.fr gd _ hgv).val_eq]
  simp
theorem JP.appendZ {α : Type} {G : List (Nat × SV)} {d t xt E sz by' : Nat} {z : List Value} {ty : TypeId} {pos : String} {aft : Array Edge} {g : Option (Nat × Bool)} [ht : TSlice P t E] [hI : TInfo P E sz by' z] {s x : Operand} {el : Nat → List SV} {enc : α → List SV} {dd : α} {m2 : List α} (i : Nat) (ks S' idx' : List Nat) (hc : (okIdx l.toArray S idx && okStep l.toArray S idx i ks S' idx') = true)
    (hoi : l[i]? = some ⟨some d, .call { callee := .builtin .append, args := #[s, x], argTypes := #[t, xt] }, ty, pos, aft, g⟩) (hre : SegC P Γ l.toArray L G (opsAt l idx) (Ag G idx.length))
    (hsv : ev (keep ks G) s = some (.slc sz 0 el)) (hx : SrcOK P Γ (keep ks G) L sz xt x m2.length (elOf enc dd m2)) (hz : z.length = sz) (hz1 : z.all (·.oneCell') = true)
    (hb : m2.length ≤ maxLen ∧ m2.length * by' ≤ 140737488355328) (hm : 0 < m2.length) (hlt : Nat.blt d Γ.nt = true)
    (k : ∀ v', v'.oneCell' = true → JP P Γ l.toArray Q S' idx' ((d, .val v') :: G) (.row v' E sz m2.length (elOf enc dd m2) :: L)) : JP P Γ l.toArray Q S idx G L :=
  JP.do1 i ks S' idx' hc hoi hre (OpS.appendZ hsv hx hz hz1 hb.1 hb.2 hm) hlt (by rintro r L' ⟨v', hv', rfl, rfl⟩; exact k v' hv')
theorem JP.appendZG {α : Type} {G : List (Nat × SV)} {d t xt E sz by' : Nat} {z : List Value} {ty : TypeId} {pos : String} {aft : Array Edge} {gj gd : Nat} {gb : Bool} {og : Oper} [ht : TSlice P t E] [hI : TInfo P E sz by' z] {s x : Operand} {el : Nat → List SV} {enc : α → List SV} {dd : α} {m2 : List α} (i : Nat) (ks S' idx' : List Nat) (hc : (okIdx l.toArray S idx && okStepG l.toArray S idx i ks S' idx') = true)
    (hoi : l[i]? = some ⟨some d, .call { callee := .builtin .append, args := #[s, x], argTypes := #[t, xt] }, ty, pos, aft, some (gj, gb)⟩) (hog : l[gj]? = some og) (hgd : og.dst = some gd) (hgv : look (keep ks G) gd = some (.val (.bool gb))) (hre : SegC P Γ l.toArray L G (opsAt l idx) (Ag G idx.length))
    (hsv : ev (keep ks G) s = some (.slc sz 0 el)) (hx : SrcOK P Γ (keep ks G) L sz xt x m2.length (elOf enc dd m2)) (hz : z.length = sz) (hz1 : z.all (·.oneCell') = true)
    (hb : m2.length ≤ maxLen ∧ m2.length * by' ≤ 140737488355328) (hm : 0 < m2.length) (hlt : Nat.blt d Γ.nt = true)
    (k : ∀ v', v'.oneCell' = true → JP P Γ l.toArray Q S' idx' ((d, .val v') :: G) (.row v' E sz m2.length (elOf enc dd m2) :: L)) : JP P Γ l.toArray Q S idx G L :=
  JP.do1G i ks S' idx' hc hoi hog hgd hgv hre (OpS.appendZ hsv hx hz hz1 hb.1 hb.2 hm) hlt (by rintro r L' ⟨v', hv', rfl, rfl⟩; exact k v' hv')
theorem JP.appendG {α : Type} {G : List (Nat × SV)} {d t xt E sz by' : Nat} {z : List Value} {ty : TypeId} {pos : String} {aft : Array Edge} {gj gd : Nat} {gb : Bool} {og : Oper} [ht : TSlice P t E] [hI : TInfo P E sz by' z] {s x : Operand} {v : Value} {enc : α → List SV} {dd : α} {m m2 : List α} (i : Nat) (ks S' idx' : List Nat) (hc : (okIdx l.toArray S idx && okStepG l.toArray S idx i ks S' idx') = true)
    (hoi : l[i]? = some ⟨some d, .call { callee := .builtin .append, args := #[s, x], argTypes := #[t, xt] }, ty, pos, aft, some (gj, gb)⟩) (hog : l[gj]? = some og) (hgd : og.dst = some gd) (hgv : look (keep ks G) gd = some (.val (.bool gb))) (hre : SegC P Γ l.toArray (.row v E sz m.length (elOf enc dd m) :: L) G (opsAt l idx) (Ag G idx.length))
    (hsv : ev (keep ks G) s = some (.val v)) (hx : SrcOK P Γ (keep ks G) (.row v E sz m.length (elOf enc dd m) :: L) sz xt x m2.length (elOf enc dd m2)) (hz : z.length = sz) (hz1 : z.all (·.oneCell') = true)
    (hb : m.length + m2.length ≤ maxLen ∧ (m.length + m2.length) * by' ≤ 140737488355328) (hlt : Nat.blt d Γ.nt = true)
    (k : ∀ v', v'.oneCell' = true → JP P Γ l.toArray Q S' idx' ((d, .val v') :: G) (.row v' E sz (m ++ m2).length (elOf enc dd (m ++ m2)) :: L)) : JP P Γ l.toArray Q S idx G (.row v E sz m.length (elOf enc dd m) :: L) :=
  JP.do1G i ks S' idx' hc hoi hog hgd hgv hre (OpS.appendRow hsv hx hz hz1 hb.1 hb.2 (el' := elOf enc dd (m ++ m2)) (fun i hi => elOf_append_left enc dd m m2 i hi) (fun i _ => elOf_append_right enc dd m m2 i)) hlt (by
    rintro r L' ⟨v', hv', rfl, rfl⟩
    have := k v' hv'
    rwa [List.length_append] at this)
end
end Go.Sse
namespace Go.Sse
open Go Go.Sse
set_option linter.unusedVariables false
set_option linter.unusedSimpArgs false
set_option maxRecDepth 10000
abbrev iv (k : Int) : Value := .int .i64 k
theorem findNow_int (k : Int) : ∀ (es : List MapEntry) (l : List (Int × Value)) (i : Nat), es.map (fun e => (e.key, e.val)) = l.map (fun p => (iv p.1, p.2)) → ∃ r, Instr.findNow (.int .i64) (iv k) es i = some r ∧ r.map (·.2) = lk l k
  | [], [], i, _ => ⟨none, rfl, rfl⟩
  | [], p :: l, i, h => by simp at h
  | e :: es, [], i, h => by simp at h
  | e :: es, p :: l, i, h => by
    simp only [List.map_cons, List.cons.injEq, Prod.mk.injEq] at h
    obtain ⟨⟨h1, h2⟩, h3⟩ := h
    have hs : Instr.sameNow (.int .i64) (iv k) e.key = some (decide (p.1 = k)) := by
      rw [h1]
      show (if IntKind.i64 = IntKind.i64 then some (k == p.1) else none) = _
      rw [if_pos rfl]
      congr 1
      by_cases h : k = p.1
      · subst h; simp
      · rw [decide_eq_false (fun e => h e.symm), beq_eq_false_iff_ne]; exact h
    by_cases hk : p.1 = k
    · refine ⟨some (i, e.val), ?_, ?_⟩
      · simp [Instr.findNow, hs, hk]
      · simp [lk, hk, h2]
    · obtain ⟨r, hr1, hr2⟩ := findNow_int k es l (i + 1) h3
      refine ⟨r, ?_, ?_⟩
      · simp [Instr.findNow, hs, hk, hr1]
      · rw [hr2]; simp [lk, hk]
section
variable {P : Program} {Γ : Ctx} {ops : Array Oper} {Q : Exit → Act → World → Prop} {F : List (Nat × SV)} {L : List Own} {rest : List Oper}
variable {dst : Option Tmp} {ty : TypeId} {pos : String} {aft : Array Edge} {g : Option (Nat × Bool)}
theorem run_checkKey_int {K : Nat} [hK : TInt P K .i64] (w : World) (e : Bool) (n : Nat) (k : Int) : (Instr.checkKey e (n + 1) K (iv k)).run P w = .ok () w := by
  simp [Instr.checkKey, run_underlying hK.ok]
theorem run_findKey_int {K : Nat} [hK : TInt P K .i64] (w : World) (k : Int) (es : List MapEntry) (l : List (Int × Value)) (h : es.map (fun e => (e.key, e.val)) = l.map (fun p => (iv p.1, p.2))) :
    ∃ r, (Instr.findKey K (iv k) es).run P w = .ok r w ∧ r.map (·.2) = lk l k := by
  obtain ⟨r, h1, h2⟩ := findNow_int k es l 0 h
  exact ⟨r, by simp [Instr.findKey, run_underlying hK.ok, h1], h2⟩
theorem Pv.lookupI {T K E : Nat} {zv : Value} [hT : TMap P T K E] [hK : TInt P K .i64] [hI : TZero P E zv] {x y : Operand} {b : Nat} {k : Int} {l : List (Int × Value)} (hx : ev F x = some (.val (.map (some b)))) (hy : ev F y = some (.val (iv k))) (i : Nat)
    (hi : L[i]? = some (mapO b (l.map fun p => (iv p.1, p.2)))) : Pv P Γ F L ⟨dst, .lookup T x y true, ty, pos, aft, g⟩ (.tup [.val ((lk l k).getD zv), bool (lk l k).isSome]) := fun ρ w hst => by
  obtain ⟨es, clock, hb, hk⟩ := mapO_at hst.ws hi
  have hxv := hst.evv (x := x) (by simp [Op.operands]) hx
  have hyv := hst.evv (x := y) (by simp [Op.operands]) hy
  obtain ⟨r, hr, hr2⟩ := run_findKey_int (P := P) (K := K) w k es.toList l hk
  have hv := run_zeroV hI w
  have hgo := run_getObj_map (P := P) (w := w) b es clock hb
  refine ⟨.tuple [(lk l k).getD zv, .bool (lk l k).isSome].toArray, ?_, .tup _ _ rfl fun j hj => ?_⟩
  · rw [← hr2]
    cases r with
    | none => simp [execOp, hxv, hyv, Instr.lookup, run_underlying hT.ok, hgo, run_checkKey_int, hr, hv]
    | some q => obtain ⟨q1, q2⟩ := q; simp [execOp, hxv, hyv, Instr.lookup, run_underlying hT.ok, hgo, run_checkKey_int, hr]
  · match j, hj with
    | 0, _ => exact .val _
    | 1, _ => exact .val _
theorem Jx.lookupI {T K E : Nat} {zv : Value} [hT : TMap P T K E] [hK : TInt P K .i64] [hI : TZero P E zv] {x y : Operand} {b : Nat} {k : Int} {l : List (Int × Value)} (hx : ev F x = some (.val (.map (some b)))) (hy : ev F y = some (.val (iv k))) (i : Nat)
    (hi : L[i]? = some (mapO b (l.map fun p => (iv p.1, p.2)))) {d0 : Nat} (hlt : Nat.blt d0 Γ.nt = true) (k : J P Γ ops Q ((d0, (.tup [.val ((lk l k).getD zv), bool (lk l k).isSome])) :: F) L rest) : J P Γ ops Q F L (⟨some d0, .lookup T x y true, ty, pos, aft, none⟩ :: rest) :=
  J.pv (by apply Pv.lookupI <;> assumption) hlt k
theorem run_mapUpdateI {T K E : Nat} [hT : TMap P T K E] [hK : TInt P K .i64] (w : World) (b : Nat) (es : Array MapEntry) (clock : Nat) (hb : w.heap[b]? = some (.map es clock)) (k : Int) (v : Value) (l : List (Int × Value))
    (hk : es.toList.map (fun e => (e.key, e.val)) = l.map (fun p => (iv p.1, p.2))) (hn : lk l k = none) :
    (Instr.mapUpdate T (.map (some b)) (iv k) v).run P w = .ok () { w with heap := w.heap.setIfInBounds b (.map (es.push ⟨iv k, v, clock⟩) (clock + 1)) } := by
  obtain ⟨r, hr, hr2⟩ := run_findKey_int (P := P) (K := K) w k es.toList l hk
  have hgo := run_getObj_map (P := P) (w := w) b es clock hb
  have hso : (setObj b (.map (es.push ⟨iv k, v, clock⟩) (clock + 1))).run P w = .ok () { w with heap := w.heap.setIfInBounds b (.map (es.push ⟨iv k, v, clock⟩) (clock + 1)) } := by simp [setObj, Sem.run, hb]
  rw [hn] at hr2
  have hr0 : r = none := by cases r <;> simp_all
  subst hr0
  simp [Instr.mapUpdate, run_underlying hT.ok, hgo, run_checkKey_int, hr, hso]
theorem OpS.mapUpdI {T K E : Nat} [hT : TMap P T K E] [hK : TInt P K .i64] {x y z : Operand} {b : Nat} {k : Int} {v : Value} {l : List (Int × Value)} (hx : ev F x = some (.val (.map (some b)))) (hy : ev F y = some (.val (iv k))) (hz : ev F z = some (.val v)) (i : Nat)
    (hi : L[i]? = some (mapO b (l.map fun p => (iv p.1, p.2)))) (hn : lk l k = none) : OpS P Γ ⟨dst, .mapUpdate T x y z, ty, pos, aft, g⟩ F L (fun _ L' => L' = L.set i (mapO b ((l ++ [(k, v)]).map fun p => (iv p.1, p.2)))) := by
  intro a w K' Q hst hK'
  obtain ⟨es, clock, hb, hk⟩ := mapO_at hst.ws hi
  have hrun := run_mapUpdateI (P := P) (T := T) w b es clock hb k v l hk hn
  unfold Oper.wp
  have he : (execOp a.eval ⟨dst, .mapUpdate T x y z, ty, pos, aft, g⟩).run P w = .ok .skip { w with heap := w.heap.setIfInBounds b (.map (es.push ⟨iv k, v, clock⟩) (clock + 1)) } := by
    simp [execOp, hst.evv hx, hst.evv hy, hst.evv hz, hrun]
  rw [he]
  exact hK' undef _ .any _ rfl (Step.mapSet hst.ws hi hb _ _ (by rw [push_map hk, List.map_append]; rfl)) (.any _)
theorem J.mapUpdI {T K E : Nat} [hT : TMap P T K E] [hK : TInt P K .i64] {x y z : Operand} {b : Nat} {k : Int} {v : Value} {l : List (Int × Value)} {L' : List Own} (hx : ev F x = some (.val (.map (some b)))) (hy : ev F y = some (.val (iv k))) (hz : ev F z = some (.val v)) (i : Nat)
    (hi : L[i]? = some (mapO b (l.map fun p => (iv p.1, p.2)))) (hn : lk l k = none) (hL : L.set i (mapO b ((l ++ [(k, v)]).map fun p => (iv p.1, p.2))) = L') (h : J P Γ ops Q F L' rest) : J P Γ ops Q F L (⟨none, .mapUpdate T x y z, ty, pos, aft, none⟩ :: rest) :=
  J.op0 (OpS.mapUpdI hx hy hz i hi hn) rfl rfl (by rintro s L'' rfl; rw [hL]; exact h)
end
end Go.Sse
namespace Go.Sse
open Go Go.Sse
set_option linter.unusedVariables false
set_option linter.unusedSimpArgs false
set_option maxRecDepth 10000
section
variable {P : Program} {Γ : Ctx} {ops : Array Oper} {Q : Exit → Act → World → Prop} {F : List (Nat × SV)} {L : List Own} {rest : List Oper}
variable {dst : Option Tmp} {ty : TypeId} {pos : String} {aft : Array Edge} {g : Option (Nat × Bool)}
theorem OpS.makeRoom {t e by' : Nat} [hd : TSlice P t e] [hI : TInfo P e 1 by' [.int .u8 0]] {x y : Operand} {n : Nat} {k k' : IntKind} (hx : ev F x = some (.val (.int k 0))) (hy : ev F y = some (.val (.int k' (n : Int)))) (hm : n ≤ maxLen) (hby : by' * n ≤ 281474976710656) (el : Nat → List SV) :
    OpS P Γ ⟨dst, .makeSlice t x y, ty, pos, aft, g⟩ F L (fun s L' => ∃ b, s = .val (.slice (some ⟨b, 0, none⟩) 0 n) ∧ L' = .row (.slice (some ⟨b, 0, none⟩) 0 n) e 1 0 el :: L) := by
  intro a w K Q hst hK
  have hxv := hst.evv hx
  have hyv := hst.evv hy
  obtain ⟨z, hzr, hzc, i, hi, hsz, hb, hiz⟩ := run_zero hI w
  have hml : (n : Int) ≤ 9223372036854775807 := Int.ofNat_le.2 (Nat.le_trans hm (by decide : maxLen ≤ 9223372036854775807))
  have hb' : (i.bytes : Int) * (n : Int) ≤ 281474976710656 := by rw [hb, ← Int.natCast_mul]; exact Int.ofNat_le.2 hby
  have hr := run_make (P := P) w t e i z hd.ok hi hiz k k' (0 : Int) (n : Int) (Int.le_refl _) (by omega) hb' hml
  simp only [Int.toNat_natCast, hsz, Nat.mul_one] at hr
  unfold Oper.wp
  have he : (execOp a.eval ⟨dst, .makeSlice t x y, ty, pos, aft, g⟩).run P w = .ok (.value (.slice (some ⟨w.heap.size, 0, none⟩) 0 n)) (w.alloc (.cells (madeCells z.cells n) e)) := by
    simp only [execOp, hxv, hyv, Sem.run_bind, hr, Result.andThen_ok, Sem.run_pure]; rfl
  rw [he]
  have hz1 : z.cells = #[.int .u8 0] := by rw [← Array.toList_inj, hzc]
  refine hK _ _ _ _ ⟨_, rfl, rfl⟩ (Step.alloc hst.ws _ _ rfl (.inr ⟨_, n, _, _, rfl, heap_alloc_new w _, fun j hj => by simp only; omega, Nat.zero_le _, hm, by simp [madeCells], ?_, fun j hj => absurd hj (Nat.not_lt_zero j), fun j q hj => absurd hj (Nat.not_lt_zero j)⟩)) (.val _)
  intro u hu
  simp only [madeCells, hz1] at hu
  simp only [Array.toList_map, List.mem_map] at hu
  obtain ⟨j, hj, rfl⟩ := hu
  simp [Nat.mod_one]; rfl
theorem J.makeRoom {d t e by' : Nat} [hd : TSlice P t e] [hI : TInfo P e 1 by' [.int .u8 0]] {x y : Operand} {n : Nat} {k k' : IntKind} (hx : ev F x = some (.val (.int k 0))) (hy : ev F y = some (.val (.int k' (n : Int)))) (hm : n ≤ maxLen) (hby : by' * n ≤ 281474976710656) (el : Nat → List SV) (hlt : Nat.blt d Γ.nt = true)
    (k : ∀ b, J P Γ ops Q ((d, .val (.slice (some ⟨b, 0, none⟩) 0 n)) :: F) (.row (.slice (some ⟨b, 0, none⟩) 0 n) e 1 0 el :: L) rest) : J P Γ ops Q F L (⟨some d, .makeSlice t x y, ty, pos, aft, none⟩ :: rest) :=
  J.op (OpS.makeRoom hx hy hm hby el) rfl rfl hlt (by rintro s L' ⟨b, rfl, rfl⟩; exact k b)
theorem OpS.appendRoom {t xt E sz by' n m b cap : Nat} {z : List Value} [ht : TSlice P t E] [hI : TInfo P E sz by' z] {s x : Operand} {el el2 el' : Nat → List SV}
    (hsv : ev (F := F) s = some (.val (.slice (some ⟨b, 0, none⟩) n cap))) (hx : SrcOK P Γ F (.row (.slice (some ⟨b, 0, none⟩) n cap) E sz n el :: L) sz xt x m el2) (hroom : n + m ≤ cap)
    (h1 : ∀ i, i < n → el' i = el i) (h2 : ∀ i, i < m → el' (n + i) = el2 i) :
    OpS P Γ ⟨dst, .call { callee := .builtin .append, args := #[s, x], argTypes := #[t, xt] }, ty, pos, aft, g⟩ F (.row (.slice (some ⟨b, 0, none⟩) n cap) E sz n el :: L) (fun r L' => r = .val (.slice (some ⟨b, 0, none⟩) (n + m) cap) ∧ L' = .row (.slice (some ⟨b, 0, none⟩) (n + m) cap) E sz (n + m) el' :: L) := by
  intro a w K Q hst hK
  obtain ⟨news, hsrc, hnew⟩ := hx a.eval w hst.ws (fun s hs => hst.ev hs)
  have hexec : ∀ r w', (Builtin.append_ #[t, xt] ty #[.slice (some ⟨b, 0, none⟩) n cap, a.eval x]).run P w = .ok r w' →
      (execOp a.eval ⟨dst, .call { callee := .builtin .append, args := #[s, x], argTypes := #[t, xt] }, ty, pos, aft, g⟩).run P w = .ok (.value r) w' := by
    intro r w' h
    simp [execOp, resolve, invoke, builtin, hst.evv hsv, h]
  obtain ⟨cur, fz, hbk, hu, hnc, hcm, hcs, hone, hell, hrel⟩ := row_at (i := 0) hst.ws rfl
  have hold : ∀ i j, i < n → j < sz → cur.toList.getD (i * sz + j) undef = (cur.toList.take (n * sz)).getD (i * sz + j) undef := by
    intro i j hi hj
    have := idx_lt hi hj
    simp only [List.getD_eq_getElem?_getD, List.getElem?_take, this, if_true]
  have hle : n * sz ≤ cur.size := by rw [hcs]; exact Nat.mul_le_mul_right _ hnc
  have hrun := run_append_room' (ty := ty) ht.ok hI hsrc b n cap cur fz hbk hu hroom hcs
  unfold Oper.wp
  rw [hexec _ _ hrun]
  refine hK _ _ _ _ ⟨rfl, rfl⟩ ?_ (.val _)
  have hsz : (cur.toList.take (n * sz) ++ news ++ cur.toList.drop (n * sz + news.length)).length = cur.size := by
    have : n * sz + news.length ≤ cur.size := by rw [hsrc.nl, hcs, ← Nat.add_mul]; exact Nat.mul_le_mul_right _ hroom
    simp only [List.length_append, List.length_take, List.length_drop, Array.length_toList]; omega
  refine Step.upd (i := 0) hst.ws rfl rfl ⟨rfl, rfl, rfl, by simp⟩ (fun b' hb' => setRow_other w b b' _ (by simpa [Own.foot] using hb')) (.inr ⟨b, cap, _, fz, rfl, setRow_heap w b cur _ E fz hbk, ?_, hroom, hcm, ?_, ?_, ?_, ?_⟩)
  · simp only [List.size_toArray, hsz]; exact hu
  · simp only [List.size_toArray, hsz]; exact hcs
  · intro u hu
    simp only [List.mem_append] at hu
    rcases hu with (hu | hu) | hu
    · exact hone u (List.mem_of_mem_take hu)
    · exact hsrc.one u hu
    · exact hone u (List.mem_of_mem_drop hu)
  · intro i hi
    by_cases hin : i < n
    · rw [h1 i hin]; exact hell i hin
    · obtain ⟨k, rfl⟩ : ∃ k, i = n + k := ⟨i - n, by omega⟩
      rw [h2 k (by omega)]; exact hnew.1 k (by omega)
  · intro i j hi hj
    have := join_rel (rest := cur.toList.drop (n * sz + news.length)) (olds := cur.toList.take (n * sz)) (by simp only [List.length_take, Array.length_toList]; omega) hsrc.nl h1 h2 (fun i j hi hj => by rw [← hold i j hi hj]; exact hrel i j hi hj) hnew i j hi hj
    refine this.stable fun b' hb' hn => ⟨setRow_other w b b' _ (fun e => hn (.inr (by subst e; simp [inF, foots_cons, Own.foot]))), hn⟩
theorem J.appendRoomL {α : Type} {d t xt E sz by' b cap : Nat} {z : List Value} [ht : TSlice P t E] [hI : TInfo P E sz by' z] {s x : Operand} {enc : α → List SV} {dd : α} {l l2 : List α}
    (hsv : ev (F := F) s = some (.val (.slice (some ⟨b, 0, none⟩) l.length cap))) (hx : SrcOK P Γ F (.row (.slice (some ⟨b, 0, none⟩) l.length cap) E sz l.length (elOf enc dd l) :: L) sz xt x l2.length (elOf enc dd l2)) (hroom : l.length + l2.length ≤ cap)
    (hlt : Nat.blt d Γ.nt = true) (k : J P Γ ops Q ((d, .val (.slice (some ⟨b, 0, none⟩) (l ++ l2).length cap)) :: F) (.row (.slice (some ⟨b, 0, none⟩) (l ++ l2).length cap) E sz (l ++ l2).length (elOf enc dd (l ++ l2)) :: L) rest) :
    J P Γ ops Q F (.row (.slice (some ⟨b, 0, none⟩) l.length cap) E sz l.length (elOf enc dd l) :: L) (⟨some d, .call { callee := .builtin .append, args := #[s, x], argTypes := #[t, xt] }, ty, pos, aft, none⟩ :: rest) :=
  J.op (OpS.appendRoom (el' := elOf enc dd (l ++ l2)) hsv hx hroom (fun i hi => elOf_append_left enc dd l l2 i hi) (fun i _ => elOf_append_right enc dd l l2 i)) rfl rfl hlt (by rintro r L' ⟨rfl, rfl⟩; rw [List.length_append] at k; exact k)
end
end Go.Sse
namespace Go.Proofs.YtaflklbmdbmjbaaGreatDoor
open Go Go.Sse
set_option linter.unusedVariables false
instance : TSc Tryz.prog 0 := ⟨by kernel_rfl, by kernel_rfl⟩
instance : TSc Tryz.prog 1 := ⟨by kernel_rfl, by kernel_rfl⟩
instance : TInfo Tryz.prog 1 1 8 [.nilFunc] := ⟨by kernel_rfl⟩
instance : TInt Tryz.prog 2 .i64 := ⟨by kernel_rfl⟩
instance : TSc Tryz.prog 2 := ⟨by kernel_rfl, by kernel_rfl⟩
instance : TInfo Tryz.prog 2 1 8 [.int .i64 0] := ⟨by kernel_rfl⟩
instance : TInt Tryz.prog 3 .i64 := ⟨by kernel_rfl⟩
instance : TSc Tryz.prog 3 := ⟨by kernel_rfl, by kernel_rfl⟩
instance : TInfo Tryz.prog 3 1 8 [.int .i64 0] := ⟨by kernel_rfl⟩
instance : TBool Tryz.prog 4 := ⟨by kernel_rfl⟩
instance : TSc Tryz.prog 4 := ⟨by kernel_rfl, by kernel_rfl⟩
instance : TInfo Tryz.prog 4 1 1 [.bool false] := ⟨by kernel_rfl⟩
instance : TInt Tryz.prog 5 .u8 := ⟨by kernel_rfl⟩
instance : TSc Tryz.prog 5 := ⟨by kernel_rfl, by kernel_rfl⟩
instance : TInfo Tryz.prog 5 1 1 [.int .u8 0] := ⟨by kernel_rfl⟩
instance : TInt Tryz.prog 6 .u8 := ⟨by kernel_rfl⟩
instance : TSc Tryz.prog 6 := ⟨by kernel_rfl, by kernel_rfl⟩
instance : TInfo Tryz.prog 6 1 1 [.int .u8 0] := ⟨by kernel_rfl⟩
instance : TFld Tryz.prog 7 0 0 2 1 := ⟨by kernel_rfl, by decide⟩
instance : TFld Tryz.prog 7 1 1 3 1 := ⟨by kernel_rfl, by decide⟩
instance : TFld Tryz.prog 7 2 2 4 1 := ⟨by kernel_rfl, by decide⟩
instance : TFld Tryz.prog 7 3 3 6 1 := ⟨by kernel_rfl, by decide⟩
instance : TBuild Tryz.prog 7 [(0, 1), (1, 1), (2, 1), (3, 1)] := ⟨by kernel_rfl⟩
instance : TAg Tryz.prog 7 4 := ⟨by kernel_rfl, by kernel_rfl⟩
instance : TLeaf Tryz.prog 7 [.i .i64, .i .i64, .b, .i .u8] := ⟨by kernel_rfl, by kernel_rfl, by kernel_rfl⟩
instance : TInfo Tryz.prog 7 4 24 [.int .i64 0, .int .i64 0, .bool false, .int .u8 0] := ⟨by kernel_rfl⟩
instance : TFld Tryz.prog 8 0 0 2 1 := ⟨by kernel_rfl, by decide⟩
instance : TFld Tryz.prog 8 1 1 3 1 := ⟨by kernel_rfl, by decide⟩
instance : TFld Tryz.prog 8 2 2 4 1 := ⟨by kernel_rfl, by decide⟩
instance : TFld Tryz.prog 8 3 3 6 1 := ⟨by kernel_rfl, by decide⟩
instance : TBuild Tryz.prog 8 [(0, 1), (1, 1), (2, 1), (3, 1)] := ⟨by kernel_rfl⟩
instance : TAg Tryz.prog 8 4 := ⟨by kernel_rfl, by kernel_rfl⟩
instance : TLeaf Tryz.prog 8 [.i .i64, .i .i64, .b, .i .u8] := ⟨by kernel_rfl, by kernel_rfl, by kernel_rfl⟩
instance : TInfo Tryz.prog 8 4 24 [.int .i64 0, .int .i64 0, .bool false, .int .u8 0] := ⟨by kernel_rfl⟩
instance : TStr Tryz.prog 9 := ⟨by kernel_rfl⟩
instance : TSc Tryz.prog 9 := ⟨by kernel_rfl, by kernel_rfl⟩
instance : TInfo Tryz.prog 9 1 16 [.string ⟨#[]⟩] := ⟨by kernel_rfl⟩
instance : TStr Tryz.prog 10 := ⟨by kernel_rfl⟩
instance : TSc Tryz.prog 10 := ⟨by kernel_rfl, by kernel_rfl⟩
instance : TInfo Tryz.prog 10 1 16 [.string ⟨#[]⟩] := ⟨by kernel_rfl⟩
instance : TStr Tryz.prog 11 := ⟨by kernel_rfl⟩
instance : TSc Tryz.prog 11 := ⟨by kernel_rfl, by kernel_rfl⟩
instance : TInfo Tryz.prog 11 1 16 [.string ⟨#[]⟩] := ⟨by kernel_rfl⟩
instance : TInt Tryz.prog 12 .u64 := ⟨by kernel_rfl⟩
instance : TSc Tryz.prog 12 := ⟨by kernel_rfl, by kernel_rfl⟩
instance : TInfo Tryz.prog 12 1 8 [.int .u64 0] := ⟨by kernel_rfl⟩
instance : TFld Tryz.prog 13 0 0 9 1 := ⟨by kernel_rfl, by decide⟩
instance : TFld Tryz.prog 13 1 1 12 1 := ⟨by kernel_rfl, by decide⟩
instance : TBuild Tryz.prog 13 [(0, 1), (1, 1)] := ⟨by kernel_rfl⟩
instance : TAg Tryz.prog 13 2 := ⟨by kernel_rfl, by kernel_rfl⟩
instance : TInfo Tryz.prog 13 2 24 [.string ⟨#[]⟩, .int .u64 0] := ⟨by kernel_rfl⟩
instance : TFld Tryz.prog 14 0 0 9 1 := ⟨by kernel_rfl, by decide⟩
instance : TFld Tryz.prog 14 1 1 12 1 := ⟨by kernel_rfl, by decide⟩
instance : TBuild Tryz.prog 14 [(0, 1), (1, 1)] := ⟨by kernel_rfl⟩
instance : TAg Tryz.prog 14 2 := ⟨by kernel_rfl, by kernel_rfl⟩
instance : TInfo Tryz.prog 14 2 24 [.string ⟨#[]⟩, .int .u64 0] := ⟨by kernel_rfl⟩
instance : TPtr Tryz.prog 15 161 := ⟨by kernel_rfl⟩
instance : TSc Tryz.prog 15 := ⟨by kernel_rfl, by kernel_rfl⟩
instance : TInfo Tryz.prog 15 1 8 [.pointer none] := ⟨by kernel_rfl⟩
instance : TPtr Tryz.prog 16 164 := ⟨by kernel_rfl⟩
instance : TSc Tryz.prog 16 := ⟨by kernel_rfl, by kernel_rfl⟩
instance : TInfo Tryz.prog 16 1 8 [.pointer none] := ⟨by kernel_rfl⟩
instance : TPtr Tryz.prog 17 172 := ⟨by kernel_rfl⟩
instance : TSc Tryz.prog 17 := ⟨by kernel_rfl, by kernel_rfl⟩
instance : TInfo Tryz.prog 17 1 8 [.pointer none] := ⟨by kernel_rfl⟩
instance : TFld Tryz.prog 18 0 0 17 1 := ⟨by kernel_rfl, by decide⟩
instance : TBuild Tryz.prog 18 [(0, 1)] := ⟨by kernel_rfl⟩
instance : TAg Tryz.prog 18 1 := ⟨by kernel_rfl, by kernel_rfl⟩
instance : TInfo Tryz.prog 18 1 8 [.pointer none] := ⟨by kernel_rfl⟩
instance : TFld Tryz.prog 19 0 0 17 1 := ⟨by kernel_rfl, by decide⟩
instance : TBuild Tryz.prog 19 [(0, 1)] := ⟨by kernel_rfl⟩
instance : TAg Tryz.prog 19 1 := ⟨by kernel_rfl, by kernel_rfl⟩
instance : TInfo Tryz.prog 19 1 8 [.pointer none] := ⟨by kernel_rfl⟩
instance : TSc Tryz.prog 20 := ⟨by kernel_rfl, by kernel_rfl⟩
instance : TInfo Tryz.prog 20 1 16 [.nilIface] := ⟨by kernel_rfl⟩
instance : TInt Tryz.prog 21 .i32 := ⟨by kernel_rfl⟩
instance : TSc Tryz.prog 21 := ⟨by kernel_rfl, by kernel_rfl⟩
instance : TInfo Tryz.prog 21 1 4 [.int .i32 0] := ⟨by kernel_rfl⟩
instance : TSlice Tryz.prog 22 9 := ⟨by kernel_rfl⟩
instance : TSc Tryz.prog 22 := ⟨by kernel_rfl, by kernel_rfl⟩
instance : TInfo Tryz.prog 22 1 24 [.slice none 0 0] := ⟨by kernel_rfl⟩
instance : TSlice Tryz.prog 23 36 := ⟨by kernel_rfl⟩
instance : TSc Tryz.prog 23 := ⟨by kernel_rfl, by kernel_rfl⟩
instance : TInfo Tryz.prog 23 1 24 [.slice none 0 0] := ⟨by kernel_rfl⟩
instance : TFld Tryz.prog 24 0 0 23 1 := ⟨by kernel_rfl, by decide⟩
instance : TFld Tryz.prog 24 1 1 9 1 := ⟨by kernel_rfl, by decide⟩
instance : TFld Tryz.prog 24 2 2 22 1 := ⟨by kernel_rfl, by decide⟩
instance : TBuild Tryz.prog 24 [(0, 1), (1, 1), (2, 1)] := ⟨by kernel_rfl⟩
instance : TAg Tryz.prog 24 3 := ⟨by kernel_rfl, by kernel_rfl⟩
instance : TInfo Tryz.prog 24 3 64 [.slice none 0 0, .string ⟨#[]⟩, .slice none 0 0] := ⟨by kernel_rfl⟩
instance : TFld Tryz.prog 25 0 0 23 1 := ⟨by kernel_rfl, by decide⟩
instance : TFld Tryz.prog 25 1 1 9 1 := ⟨by kernel_rfl, by decide⟩
instance : TFld Tryz.prog 25 2 2 22 1 := ⟨by kernel_rfl, by decide⟩
instance : TBuild Tryz.prog 25 [(0, 1), (1, 1), (2, 1)] := ⟨by kernel_rfl⟩
instance : TAg Tryz.prog 25 3 := ⟨by kernel_rfl, by kernel_rfl⟩
instance : TInfo Tryz.prog 25 3 64 [.slice none 0 0, .string ⟨#[]⟩, .slice none 0 0] := ⟨by kernel_rfl⟩
instance : TFld Tryz.prog 26 0 0 9 1 := ⟨by kernel_rfl, by decide⟩
instance : TFld Tryz.prog 26 1 1 9 1 := ⟨by kernel_rfl, by decide⟩
instance : TFld Tryz.prog 26 2 2 9 1 := ⟨by kernel_rfl, by decide⟩
instance : TFld Tryz.prog 26 3 3 3 1 := ⟨by kernel_rfl, by decide⟩
instance : TFld Tryz.prog 26 4 4 22 1 := ⟨by kernel_rfl, by decide⟩
instance : TFld Tryz.prog 26 5 5 25 3 := ⟨by kernel_rfl, by decide⟩
instance : TBuild Tryz.prog 26 [(0, 1), (1, 1), (2, 1), (3, 1), (4, 1), (5, 3)] := ⟨by kernel_rfl⟩
instance : TAg Tryz.prog 26 8 := ⟨by kernel_rfl, by kernel_rfl⟩
instance : TInfo Tryz.prog 26 8 144 [.string ⟨#[]⟩, .string ⟨#[]⟩, .string ⟨#[]⟩, .int .i64 0, .slice none 0 0, .slice none 0 0, .string ⟨#[]⟩, .slice none 0 0] := ⟨by kernel_rfl⟩
instance : TFld Tryz.prog 27 0 0 9 1 := ⟨by kernel_rfl, by decide⟩
instance : TFld Tryz.prog 27 1 1 9 1 := ⟨by kernel_rfl, by decide⟩
instance : TFld Tryz.prog 27 2 2 9 1 := ⟨by kernel_rfl, by decide⟩
instance : TFld Tryz.prog 27 3 3 3 1 := ⟨by kernel_rfl, by decide⟩
instance : TFld Tryz.prog 27 4 4 22 1 := ⟨by kernel_rfl, by decide⟩
instance : TFld Tryz.prog 27 5 5 25 3 := ⟨by kernel_rfl, by decide⟩
instance : TBuild Tryz.prog 27 [(0, 1), (1, 1), (2, 1), (3, 1), (4, 1), (5, 3)] := ⟨by kernel_rfl⟩
instance : TAg Tryz.prog 27 8 := ⟨by kernel_rfl, by kernel_rfl⟩
instance : TInfo Tryz.prog 27 8 144 [.string ⟨#[]⟩, .string ⟨#[]⟩, .string ⟨#[]⟩, .int .i64 0, .slice none 0 0, .slice none 0 0, .string ⟨#[]⟩, .slice none 0 0] := ⟨by kernel_rfl⟩
instance : TSc Tryz.prog 28 := ⟨by kernel_rfl, by kernel_rfl⟩
instance : TInfo Tryz.prog 28 1 8 [.nilFunc] := ⟨by kernel_rfl⟩
instance : TSc Tryz.prog 29 := ⟨by kernel_rfl, by kernel_rfl⟩
instance : TInfo Tryz.prog 29 1 8 [.nilFunc] := ⟨by kernel_rfl⟩
instance : TInt Tryz.prog 30 .i64 := ⟨by kernel_rfl⟩
instance : TSc Tryz.prog 30 := ⟨by kernel_rfl, by kernel_rfl⟩
instance : TInfo Tryz.prog 30 1 8 [.int .i64 0] := ⟨by kernel_rfl⟩
instance : TSc Tryz.prog 31 := ⟨by kernel_rfl, by kernel_rfl⟩
instance : TSc Tryz.prog 32 := ⟨by kernel_rfl, by kernel_rfl⟩
instance : TInfo Tryz.prog 32 1 8 [.nilFunc] := ⟨by kernel_rfl⟩
instance : TSc Tryz.prog 33 := ⟨by kernel_rfl, by kernel_rfl⟩
instance : TSc Tryz.prog 34 := ⟨by kernel_rfl, by kernel_rfl⟩
instance : TInfo Tryz.prog 34 1 8 [.nilFunc] := ⟨by kernel_rfl⟩
instance : TFld Tryz.prog 35 0 0 9 1 := ⟨by kernel_rfl, by decide⟩
instance : TFld Tryz.prog 35 1 1 9 1 := ⟨by kernel_rfl, by decide⟩
instance : TBuild Tryz.prog 35 [(0, 1), (1, 1)] := ⟨by kernel_rfl⟩
instance : TAg Tryz.prog 35 2 := ⟨by kernel_rfl, by kernel_rfl⟩
instance : TLeaf Tryz.prog 35 [.s, .s] := ⟨by kernel_rfl, by kernel_rfl, by kernel_rfl⟩
instance : TInfo Tryz.prog 35 2 32 [.string ⟨#[]⟩, .string ⟨#[]⟩] := ⟨by kernel_rfl⟩
instance : TFld Tryz.prog 36 0 0 9 1 := ⟨by kernel_rfl, by decide⟩
instance : TFld Tryz.prog 36 1 1 9 1 := ⟨by kernel_rfl, by decide⟩
instance : TBuild Tryz.prog 36 [(0, 1), (1, 1)] := ⟨by kernel_rfl⟩
instance : TAg Tryz.prog 36 2 := ⟨by kernel_rfl, by kernel_rfl⟩
instance : TLeaf Tryz.prog 36 [.s, .s] := ⟨by kernel_rfl, by kernel_rfl, by kernel_rfl⟩
instance : TInfo Tryz.prog 36 2 32 [.string ⟨#[]⟩, .string ⟨#[]⟩] := ⟨by kernel_rfl⟩
instance : TSc Tryz.prog 37 := ⟨by kernel_rfl, by kernel_rfl⟩
instance : TInfo Tryz.prog 37 1 8 [.nilFunc] := ⟨by kernel_rfl⟩
instance : TSc Tryz.prog 38 := ⟨by kernel_rfl, by kernel_rfl⟩
instance : TInfo Tryz.prog 38 1 8 [.nilFunc] := ⟨by kernel_rfl⟩
instance : TPtr Tryz.prog 39 66 := ⟨by kernel_rfl⟩
instance : TSc Tryz.prog 39 := ⟨by kernel_rfl, by kernel_rfl⟩
instance : TInfo Tryz.prog 39 1 8 [.pointer none] := ⟨by kernel_rfl⟩
instance : TSc Tryz.prog 40 := ⟨by kernel_rfl, by kernel_rfl⟩
instance : TInfo Tryz.prog 40 1 8 [.nilFunc] := ⟨by kernel_rfl⟩
instance : TSc Tryz.prog 41 := ⟨by kernel_rfl, by kernel_rfl⟩
instance : TSc Tryz.prog 42 := ⟨by kernel_rfl, by kernel_rfl⟩
instance : TInfo Tryz.prog 42 1 8 [.nilFunc] := ⟨by kernel_rfl⟩
instance : TPtr Tryz.prog 43 89 := ⟨by kernel_rfl⟩
instance : TSc Tryz.prog 43 := ⟨by kernel_rfl, by kernel_rfl⟩
instance : TInfo Tryz.prog 43 1 8 [.pointer none] := ⟨by kernel_rfl⟩
instance : TSc Tryz.prog 44 := ⟨by kernel_rfl, by kernel_rfl⟩
instance : TSc Tryz.prog 45 := ⟨by kernel_rfl, by kernel_rfl⟩
instance : TInfo Tryz.prog 45 1 8 [.nilFunc] := ⟨by kernel_rfl⟩
instance : TSc Tryz.prog 46 := ⟨by kernel_rfl, by kernel_rfl⟩
instance : TSc Tryz.prog 47 := ⟨by kernel_rfl, by kernel_rfl⟩
instance : TInfo Tryz.prog 47 1 8 [.nilFunc] := ⟨by kernel_rfl⟩
instance : TSc Tryz.prog 48 := ⟨by kernel_rfl, by kernel_rfl⟩
instance : TInfo Tryz.prog 48 1 8 [.nilFunc] := ⟨by kernel_rfl⟩
instance : TSc Tryz.prog 49 := ⟨by kernel_rfl, by kernel_rfl⟩
instance : TSc Tryz.prog 50 := ⟨by kernel_rfl, by kernel_rfl⟩
instance : TInfo Tryz.prog 50 1 8 [.nilFunc] := ⟨by kernel_rfl⟩
instance : TSc Tryz.prog 51 := ⟨by kernel_rfl, by kernel_rfl⟩
instance : TInfo Tryz.prog 51 1 8 [.nilFunc] := ⟨by kernel_rfl⟩
instance : TSc Tryz.prog 52 := ⟨by kernel_rfl, by kernel_rfl⟩
instance : TInfo Tryz.prog 52 1 8 [.nilFunc] := ⟨by kernel_rfl⟩
instance : TPtr Tryz.prog 53 56 := ⟨by kernel_rfl⟩
instance : TSc Tryz.prog 53 := ⟨by kernel_rfl, by kernel_rfl⟩
instance : TInfo Tryz.prog 53 1 8 [.pointer none] := ⟨by kernel_rfl⟩
instance : TSc Tryz.prog 54 := ⟨by kernel_rfl, by kernel_rfl⟩
instance : TInfo Tryz.prog 54 1 8 [.nilFunc] := ⟨by kernel_rfl⟩
instance : TFld Tryz.prog 55 0 0 9 1 := ⟨by kernel_rfl, by decide⟩
instance : TFld Tryz.prog 55 1 1 9 1 := ⟨by kernel_rfl, by decide⟩
instance : TFld Tryz.prog 55 2 2 9 1 := ⟨by kernel_rfl, by decide⟩
instance : TFld Tryz.prog 55 3 3 9 1 := ⟨by kernel_rfl, by decide⟩
instance : TFld Tryz.prog 55 4 4 23 1 := ⟨by kernel_rfl, by decide⟩
instance : TBuild Tryz.prog 55 [(0, 1), (1, 1), (2, 1), (3, 1), (4, 1)] := ⟨by kernel_rfl⟩
instance : TAg Tryz.prog 55 5 := ⟨by kernel_rfl, by kernel_rfl⟩
instance : TInfo Tryz.prog 55 5 88 [.string ⟨#[]⟩, .string ⟨#[]⟩, .string ⟨#[]⟩, .string ⟨#[]⟩, .slice none 0 0] := ⟨by kernel_rfl⟩
instance : TFld Tryz.prog 56 0 0 9 1 := ⟨by kernel_rfl, by decide⟩
instance : TFld Tryz.prog 56 1 1 9 1 := ⟨by kernel_rfl, by decide⟩
instance : TFld Tryz.prog 56 2 2 9 1 := ⟨by kernel_rfl, by decide⟩
instance : TFld Tryz.prog 56 3 3 9 1 := ⟨by kernel_rfl, by decide⟩
instance : TFld Tryz.prog 56 4 4 23 1 := ⟨by kernel_rfl, by decide⟩
instance : TBuild Tryz.prog 56 [(0, 1), (1, 1), (2, 1), (3, 1), (4, 1)] := ⟨by kernel_rfl⟩
instance : TAg Tryz.prog 56 5 := ⟨by kernel_rfl, by kernel_rfl⟩
instance : TInfo Tryz.prog 56 5 88 [.string ⟨#[]⟩, .string ⟨#[]⟩, .string ⟨#[]⟩, .string ⟨#[]⟩, .slice none 0 0] := ⟨by kernel_rfl⟩
instance : TSc Tryz.prog 57 := ⟨by kernel_rfl, by kernel_rfl⟩
instance : TInfo Tryz.prog 57 1 8 [.nilFunc] := ⟨by kernel_rfl⟩
instance : TSc Tryz.prog 58 := ⟨by kernel_rfl, by kernel_rfl⟩
instance : TInfo Tryz.prog 58 1 8 [.nilFunc] := ⟨by kernel_rfl⟩
instance : TSc Tryz.prog 59 := ⟨by kernel_rfl, by kernel_rfl⟩
instance : TInfo Tryz.prog 59 1 8 [.nilFunc] := ⟨by kernel_rfl⟩
instance : TSc Tryz.prog 60 := ⟨by kernel_rfl, by kernel_rfl⟩
instance : TInfo Tryz.prog 60 1 8 [.nilFunc] := ⟨by kernel_rfl⟩
instance : TPtr Tryz.prog 61 86 := ⟨by kernel_rfl⟩
instance : TSc Tryz.prog 61 := ⟨by kernel_rfl, by kernel_rfl⟩
instance : TInfo Tryz.prog 61 1 8 [.pointer none] := ⟨by kernel_rfl⟩
instance : TSc Tryz.prog 62 := ⟨by kernel_rfl, by kernel_rfl⟩
instance : TInfo Tryz.prog 62 1 8 [.nilFunc] := ⟨by kernel_rfl⟩
instance : TMap Tryz.prog 63 3 69 := ⟨by kernel_rfl⟩
instance : TSc Tryz.prog 63 := ⟨by kernel_rfl, by kernel_rfl⟩
instance : TInfo Tryz.prog 63 1 8 [.map none] := ⟨by kernel_rfl⟩
instance : TSc Tryz.prog 64 := ⟨by kernel_rfl, by kernel_rfl⟩
instance : TInfo Tryz.prog 64 1 8 [.nilFunc] := ⟨by kernel_rfl⟩
instance : TFld Tryz.prog 65 0 0 61 1 := ⟨by kernel_rfl, by decide⟩
instance : TFld Tryz.prog 65 1 1 63 1 := ⟨by kernel_rfl, by decide⟩
instance : TFld Tryz.prog 65 2 2 43 1 := ⟨by kernel_rfl, by decide⟩
instance : TFld Tryz.prog 65 3 3 3 1 := ⟨by kernel_rfl, by decide⟩
instance : TFld Tryz.prog 65 4 4 3 1 := ⟨by kernel_rfl, by decide⟩
instance : TBuild Tryz.prog 65 [(0, 1), (1, 1), (2, 1), (3, 1), (4, 1)] := ⟨by kernel_rfl⟩
instance : TAg Tryz.prog 65 5 := ⟨by kernel_rfl, by kernel_rfl⟩
instance : TInfo Tryz.prog 65 5 40 [.pointer none, .map none, .pointer none, .int .i64 0, .int .i64 0] := ⟨by kernel_rfl⟩
instance : TFld Tryz.prog 66 0 0 61 1 := ⟨by kernel_rfl, by decide⟩
instance : TFld Tryz.prog 66 1 1 63 1 := ⟨by kernel_rfl, by decide⟩
instance : TFld Tryz.prog 66 2 2 43 1 := ⟨by kernel_rfl, by decide⟩
instance : TFld Tryz.prog 66 3 3 3 1 := ⟨by kernel_rfl, by decide⟩
instance : TFld Tryz.prog 66 4 4 3 1 := ⟨by kernel_rfl, by decide⟩
instance : TBuild Tryz.prog 66 [(0, 1), (1, 1), (2, 1), (3, 1), (4, 1)] := ⟨by kernel_rfl⟩
instance : TAg Tryz.prog 66 5 := ⟨by kernel_rfl, by kernel_rfl⟩
instance : TInfo Tryz.prog 66 5 40 [.pointer none, .map none, .pointer none, .int .i64 0, .int .i64 0] := ⟨by kernel_rfl⟩
instance : TSc Tryz.prog 67 := ⟨by kernel_rfl, by kernel_rfl⟩
instance : TInfo Tryz.prog 67 1 8 [.nilFunc] := ⟨by kernel_rfl⟩
instance : TSc Tryz.prog 68 := ⟨by kernel_rfl, by kernel_rfl⟩
instance : TInfo Tryz.prog 68 1 8 [.nilFunc] := ⟨by kernel_rfl⟩
instance : TSlice Tryz.prog 69 5 := ⟨by kernel_rfl⟩
instance : TSc Tryz.prog 69 := ⟨by kernel_rfl, by kernel_rfl⟩
instance : TInfo Tryz.prog 69 1 24 [.slice none 0 0] := ⟨by kernel_rfl⟩
instance : TSc Tryz.prog 70 := ⟨by kernel_rfl, by kernel_rfl⟩
instance : TInfo Tryz.prog 70 1 8 [.nilFunc] := ⟨by kernel_rfl⟩
instance : TSc Tryz.prog 71 := ⟨by kernel_rfl, by kernel_rfl⟩
instance : TInfo Tryz.prog 71 1 8 [.nilFunc] := ⟨by kernel_rfl⟩
instance : TSc Tryz.prog 72 := ⟨by kernel_rfl, by kernel_rfl⟩
instance : TInfo Tryz.prog 72 1 8 [.nilFunc] := ⟨by kernel_rfl⟩
instance : TSc Tryz.prog 73 := ⟨by kernel_rfl, by kernel_rfl⟩
instance : TInfo Tryz.prog 73 1 8 [.nilFunc] := ⟨by kernel_rfl⟩
instance : TArr Tryz.prog 74 16 9 := ⟨by kernel_rfl⟩
instance : TAg Tryz.prog 74 16 := ⟨by kernel_rfl, by kernel_rfl⟩
instance : TLeaf Tryz.prog 74 [.s, .s, .s, .s, .s, .s, .s, .s, .s, .s, .s, .s, .s, .s, .s, .s] := ⟨by kernel_rfl, by kernel_rfl, by kernel_rfl⟩
instance : TInfo Tryz.prog 74 16 256 [.string ⟨#[]⟩, .string ⟨#[]⟩, .string ⟨#[]⟩, .string ⟨#[]⟩, .string ⟨#[]⟩, .string ⟨#[]⟩, .string ⟨#[]⟩, .string ⟨#[]⟩, .string ⟨#[]⟩, .string ⟨#[]⟩, .string ⟨#[]⟩, .string ⟨#[]⟩, .string ⟨#[]⟩, .string ⟨#[]⟩, .string ⟨#[]⟩, .string ⟨#[]⟩] := ⟨by kernel_rfl⟩
instance : TFld Tryz.prog 75 0 0 3 1 := ⟨by kernel_rfl, by decide⟩
instance : TFld Tryz.prog 75 1 1 9 1 := ⟨by kernel_rfl, by decide⟩
instance : TFld Tryz.prog 75 2 2 9 1 := ⟨by kernel_rfl, by decide⟩
instance : TFld Tryz.prog 75 3 3 74 16 := ⟨by kernel_rfl, by decide⟩
instance : TBuild Tryz.prog 75 [(0, 1), (1, 1), (2, 1), (3, 16)] := ⟨by kernel_rfl⟩
instance : TAg Tryz.prog 75 19 := ⟨by kernel_rfl, by kernel_rfl⟩
instance : TLeaf Tryz.prog 75 [.i .i64, .s, .s, .s, .s, .s, .s, .s, .s, .s, .s, .s, .s, .s, .s, .s, .s, .s, .s] := ⟨by kernel_rfl, by kernel_rfl, by kernel_rfl⟩
instance : TInfo Tryz.prog 75 19 296 [.int .i64 0, .string ⟨#[]⟩, .string ⟨#[]⟩, .string ⟨#[]⟩, .string ⟨#[]⟩, .string ⟨#[]⟩, .string ⟨#[]⟩, .string ⟨#[]⟩, .string ⟨#[]⟩, .string ⟨#[]⟩, .string ⟨#[]⟩, .string ⟨#[]⟩, .string ⟨#[]⟩, .string ⟨#[]⟩, .string ⟨#[]⟩, .string ⟨#[]⟩, .string ⟨#[]⟩, .string ⟨#[]⟩, .string ⟨#[]⟩] := ⟨by kernel_rfl⟩
instance : TFld Tryz.prog 76 0 0 3 1 := ⟨by kernel_rfl, by decide⟩
instance : TFld Tryz.prog 76 1 1 9 1 := ⟨by kernel_rfl, by decide⟩
instance : TFld Tryz.prog 76 2 2 9 1 := ⟨by kernel_rfl, by decide⟩
instance : TFld Tryz.prog 76 3 3 74 16 := ⟨by kernel_rfl, by decide⟩
instance : TBuild Tryz.prog 76 [(0, 1), (1, 1), (2, 1), (3, 16)] := ⟨by kernel_rfl⟩
instance : TAg Tryz.prog 76 19 := ⟨by kernel_rfl, by kernel_rfl⟩
instance : TLeaf Tryz.prog 76 [.i .i64, .s, .s, .s, .s, .s, .s, .s, .s, .s, .s, .s, .s, .s, .s, .s, .s, .s, .s] := ⟨by kernel_rfl, by kernel_rfl, by kernel_rfl⟩
instance : TInfo Tryz.prog 76 19 296 [.int .i64 0, .string ⟨#[]⟩, .string ⟨#[]⟩, .string ⟨#[]⟩, .string ⟨#[]⟩, .string ⟨#[]⟩, .string ⟨#[]⟩, .string ⟨#[]⟩, .string ⟨#[]⟩, .string ⟨#[]⟩, .string ⟨#[]⟩, .string ⟨#[]⟩, .string ⟨#[]⟩, .string ⟨#[]⟩, .string ⟨#[]⟩, .string ⟨#[]⟩, .string ⟨#[]⟩, .string ⟨#[]⟩, .string ⟨#[]⟩] := ⟨by kernel_rfl⟩
instance : TSc Tryz.prog 77 := ⟨by kernel_rfl, by kernel_rfl⟩
instance : TSc Tryz.prog 78 := ⟨by kernel_rfl, by kernel_rfl⟩
instance : TInfo Tryz.prog 78 1 8 [.nilFunc] := ⟨by kernel_rfl⟩
instance : TSc Tryz.prog 79 := ⟨by kernel_rfl, by kernel_rfl⟩
instance : TSc Tryz.prog 80 := ⟨by kernel_rfl, by kernel_rfl⟩
instance : TInfo Tryz.prog 80 1 8 [.nilFunc] := ⟨by kernel_rfl⟩
instance : TInt Tryz.prog 81 .u64 := ⟨by kernel_rfl⟩
instance : TSc Tryz.prog 81 := ⟨by kernel_rfl, by kernel_rfl⟩
instance : TInfo Tryz.prog 81 1 8 [.int .u64 0] := ⟨by kernel_rfl⟩
instance : TSc Tryz.prog 82 := ⟨by kernel_rfl, by kernel_rfl⟩
instance : TSc Tryz.prog 83 := ⟨by kernel_rfl, by kernel_rfl⟩
instance : TInfo Tryz.prog 83 1 8 [.nilFunc] := ⟨by kernel_rfl⟩
instance : TMap Tryz.prog 84 9 69 := ⟨by kernel_rfl⟩
instance : TSc Tryz.prog 84 := ⟨by kernel_rfl, by kernel_rfl⟩
instance : TInfo Tryz.prog 84 1 8 [.map none] := ⟨by kernel_rfl⟩
instance : TFld Tryz.prog 85 0 0 84 1 := ⟨by kernel_rfl, by decide⟩
instance : TBuild Tryz.prog 85 [(0, 1)] := ⟨by kernel_rfl⟩
instance : TAg Tryz.prog 85 1 := ⟨by kernel_rfl, by kernel_rfl⟩
instance : TInfo Tryz.prog 85 1 8 [.map none] := ⟨by kernel_rfl⟩
instance : TFld Tryz.prog 86 0 0 84 1 := ⟨by kernel_rfl, by decide⟩
instance : TBuild Tryz.prog 86 [(0, 1)] := ⟨by kernel_rfl⟩
instance : TAg Tryz.prog 86 1 := ⟨by kernel_rfl, by kernel_rfl⟩
instance : TInfo Tryz.prog 86 1 8 [.map none] := ⟨by kernel_rfl⟩
instance : TPtr Tryz.prog 87 121 := ⟨by kernel_rfl⟩
instance : TSc Tryz.prog 87 := ⟨by kernel_rfl, by kernel_rfl⟩
instance : TInfo Tryz.prog 87 1 8 [.pointer none] := ⟨by kernel_rfl⟩
instance : TFld Tryz.prog 88 0 0 87 1 := ⟨by kernel_rfl, by decide⟩
instance : TBuild Tryz.prog 88 [(0, 1)] := ⟨by kernel_rfl⟩
instance : TAg Tryz.prog 88 1 := ⟨by kernel_rfl, by kernel_rfl⟩
instance : TInfo Tryz.prog 88 1 8 [.pointer none] := ⟨by kernel_rfl⟩
instance : TFld Tryz.prog 89 0 0 87 1 := ⟨by kernel_rfl, by decide⟩
instance : TBuild Tryz.prog 89 [(0, 1)] := ⟨by kernel_rfl⟩
instance : TAg Tryz.prog 89 1 := ⟨by kernel_rfl, by kernel_rfl⟩
instance : TInfo Tryz.prog 89 1 8 [.pointer none] := ⟨by kernel_rfl⟩
instance : TSc Tryz.prog 90 := ⟨by kernel_rfl, by kernel_rfl⟩
instance : TInfo Tryz.prog 90 1 8 [.nilFunc] := ⟨by kernel_rfl⟩
instance : TSc Tryz.prog 91 := ⟨by kernel_rfl, by kernel_rfl⟩
instance : TInfo Tryz.prog 91 1 8 [.nilFunc] := ⟨by kernel_rfl⟩
instance : TSc Tryz.prog 92 := ⟨by kernel_rfl, by kernel_rfl⟩
instance : TInfo Tryz.prog 92 1 8 [.nilFunc] := ⟨by kernel_rfl⟩
instance : TSc Tryz.prog 93 := ⟨by kernel_rfl, by kernel_rfl⟩
instance : TInfo Tryz.prog 93 1 8 [.nilFunc] := ⟨by kernel_rfl⟩
instance : TSc Tryz.prog 94 := ⟨by kernel_rfl, by kernel_rfl⟩
instance : TPtr Tryz.prog 95 97 := ⟨by kernel_rfl⟩
instance : TSc Tryz.prog 95 := ⟨by kernel_rfl, by kernel_rfl⟩
instance : TInfo Tryz.prog 95 1 8 [.pointer none] := ⟨by kernel_rfl⟩
instance : TFld Tryz.prog 96 0 0 61 1 := ⟨by kernel_rfl, by decide⟩
instance : TFld Tryz.prog 96 1 1 3 1 := ⟨by kernel_rfl, by decide⟩
instance : TFld Tryz.prog 96 2 2 30 1 := ⟨by kernel_rfl, by decide⟩
instance : TBuild Tryz.prog 96 [(0, 1), (1, 1), (2, 1)] := ⟨by kernel_rfl⟩
instance : TAg Tryz.prog 96 3 := ⟨by kernel_rfl, by kernel_rfl⟩
instance : TInfo Tryz.prog 96 3 24 [.pointer none, .int .i64 0, .int .i64 0] := ⟨by kernel_rfl⟩
instance : TFld Tryz.prog 97 0 0 61 1 := ⟨by kernel_rfl, by decide⟩
instance : TFld Tryz.prog 97 1 1 3 1 := ⟨by kernel_rfl, by decide⟩
instance : TFld Tryz.prog 97 2 2 30 1 := ⟨by kernel_rfl, by decide⟩
instance : TBuild Tryz.prog 97 [(0, 1), (1, 1), (2, 1)] := ⟨by kernel_rfl⟩
instance : TAg Tryz.prog 97 3 := ⟨by kernel_rfl, by kernel_rfl⟩
instance : TInfo Tryz.prog 97 3 24 [.pointer none, .int .i64 0, .int .i64 0] := ⟨by kernel_rfl⟩
instance : TSc Tryz.prog 98 := ⟨by kernel_rfl, by kernel_rfl⟩
instance : TInfo Tryz.prog 98 1 8 [.nilFunc] := ⟨by kernel_rfl⟩
instance : TSc Tryz.prog 99 := ⟨by kernel_rfl, by kernel_rfl⟩
instance : TInfo Tryz.prog 99 1 8 [.nilFunc] := ⟨by kernel_rfl⟩
instance : TSc Tryz.prog 100 := ⟨by kernel_rfl, by kernel_rfl⟩
instance : TInfo Tryz.prog 100 1 8 [.nilFunc] := ⟨by kernel_rfl⟩
instance : TPtr Tryz.prog 101 131 := ⟨by kernel_rfl⟩
instance : TSc Tryz.prog 101 := ⟨by kernel_rfl, by kernel_rfl⟩
instance : TInfo Tryz.prog 101 1 8 [.pointer none] := ⟨by kernel_rfl⟩
instance : TSc Tryz.prog 102 := ⟨by kernel_rfl, by kernel_rfl⟩
instance : TInfo Tryz.prog 102 1 8 [.nilFunc] := ⟨by kernel_rfl⟩
instance : TSc Tryz.prog 103 := ⟨by kernel_rfl, by kernel_rfl⟩
instance : TInfo Tryz.prog 103 1 8 [.nilFunc] := ⟨by kernel_rfl⟩
instance : TSc Tryz.prog 104 := ⟨by kernel_rfl, by kernel_rfl⟩
instance : TInfo Tryz.prog 104 1 8 [.nilFunc] := ⟨by kernel_rfl⟩
instance : TPtr Tryz.prog 105 76 := ⟨by kernel_rfl⟩
instance : TSc Tryz.prog 105 := ⟨by kernel_rfl, by kernel_rfl⟩
instance : TInfo Tryz.prog 105 1 8 [.pointer none] := ⟨by kernel_rfl⟩
instance : TSc Tryz.prog 106 := ⟨by kernel_rfl, by kernel_rfl⟩
instance : TInfo Tryz.prog 106 1 8 [.nilFunc] := ⟨by kernel_rfl⟩
instance : TSc Tryz.prog 107 := ⟨by kernel_rfl, by kernel_rfl⟩
instance : TInfo Tryz.prog 107 1 8 [.nilFunc] := ⟨by kernel_rfl⟩
instance : TSc Tryz.prog 108 := ⟨by kernel_rfl, by kernel_rfl⟩
instance : TInfo Tryz.prog 108 1 8 [.nilFunc] := ⟨by kernel_rfl⟩
instance : TSc Tryz.prog 109 := ⟨by kernel_rfl, by kernel_rfl⟩
instance : TInfo Tryz.prog 109 1 8 [.nilFunc] := ⟨by kernel_rfl⟩
instance : TInt Tryz.prog 110 .u32 := ⟨by kernel_rfl⟩
instance : TSc Tryz.prog 110 := ⟨by kernel_rfl, by kernel_rfl⟩
instance : TInfo Tryz.prog 110 1 4 [.int .u32 0] := ⟨by kernel_rfl⟩
instance : TArr Tryz.prog 111 8 110 := ⟨by kernel_rfl⟩
instance : TAg Tryz.prog 111 8 := ⟨by kernel_rfl, by kernel_rfl⟩
instance : TLeaf Tryz.prog 111 [.i .u32, .i .u32, .i .u32, .i .u32, .i .u32, .i .u32, .i .u32, .i .u32] := ⟨by kernel_rfl, by kernel_rfl, by kernel_rfl⟩
instance : TInfo Tryz.prog 111 8 32 [.int .u32 0, .int .u32 0, .int .u32 0, .int .u32 0, .int .u32 0, .int .u32 0, .int .u32 0, .int .u32 0] := ⟨by kernel_rfl⟩
instance : TSc Tryz.prog 112 := ⟨by kernel_rfl, by kernel_rfl⟩
instance : TInfo Tryz.prog 112 1 8 [.nilFunc] := ⟨by kernel_rfl⟩
instance : TArr Tryz.prog 113 64 5 := ⟨by kernel_rfl⟩
instance : TAg Tryz.prog 113 64 := ⟨by kernel_rfl, by kernel_rfl⟩
instance : TLeaf Tryz.prog 113 [.i .u8, .i .u8, .i .u8, .i .u8, .i .u8, .i .u8, .i .u8, .i .u8, .i .u8, .i .u8, .i .u8, .i .u8, .i .u8, .i .u8, .i .u8, .i .u8, .i .u8, .i .u8, .i .u8, .i .u8, .i .u8, .i .u8, .i .u8, .i .u8, .i .u8, .i .u8, .i .u8, .i .u8, .i .u8, .i .u8, .i .u8, .i .u8, .i .u8, .i .u8, .i .u8, .i .u8, .i .u8, .i .u8, .i .u8, .i .u8, .i .u8, .i .u8, .i .u8, .i .u8, .i .u8, .i .u8, .i .u8, .i .u8, .i .u8, .i .u8, .i .u8, .i .u8, .i .u8, .i .u8, .i .u8, .i .u8, .i .u8, .i .u8, .i .u8, .i .u8, .i .u8, .i .u8, .i .u8, .i .u8] := ⟨by kernel_rfl, by kernel_rfl, by kernel_rfl⟩
instance : TInfo Tryz.prog 113 64 64 [.int .u8 0, .int .u8 0, .int .u8 0, .int .u8 0, .int .u8 0, .int .u8 0, .int .u8 0, .int .u8 0, .int .u8 0, .int .u8 0, .int .u8 0, .int .u8 0, .int .u8 0, .int .u8 0, .int .u8 0, .int .u8 0, .int .u8 0, .int .u8 0, .int .u8 0, .int .u8 0, .int .u8 0, .int .u8 0, .int .u8 0, .int .u8 0, .int .u8 0, .int .u8 0, .int .u8 0, .int .u8 0, .int .u8 0, .int .u8 0, .int .u8 0, .int .u8 0, .int .u8 0, .int .u8 0, .int .u8 0, .int .u8 0, .int .u8 0, .int .u8 0, .int .u8 0, .int .u8 0, .int .u8 0, .int .u8 0, .int .u8 0, .int .u8 0, .int .u8 0, .int .u8 0, .int .u8 0, .int .u8 0, .int .u8 0, .int .u8 0, .int .u8 0, .int .u8 0, .int .u8 0, .int .u8 0, .int .u8 0, .int .u8 0, .int .u8 0, .int .u8 0, .int .u8 0, .int .u8 0, .int .u8 0, .int .u8 0, .int .u8 0, .int .u8 0] := ⟨by kernel_rfl⟩
instance : TSc Tryz.prog 114 := ⟨by kernel_rfl, by kernel_rfl⟩
instance : TInfo Tryz.prog 114 1 8 [.nilFunc] := ⟨by kernel_rfl⟩
instance : TSc Tryz.prog 115 := ⟨by kernel_rfl, by kernel_rfl⟩
instance : TInfo Tryz.prog 115 1 8 [.nilFunc] := ⟨by kernel_rfl⟩
instance : TSc Tryz.prog 116 := ⟨by kernel_rfl, by kernel_rfl⟩
instance : TInfo Tryz.prog 116 1 8 [.nilFunc] := ⟨by kernel_rfl⟩
instance : TSc Tryz.prog 117 := ⟨by kernel_rfl, by kernel_rfl⟩
instance : TInfo Tryz.prog 117 1 8 [.nilFunc] := ⟨by kernel_rfl⟩
instance : TSc Tryz.prog 118 := ⟨by kernel_rfl, by kernel_rfl⟩
instance : TInfo Tryz.prog 118 1 8 [.nilFunc] := ⟨by kernel_rfl⟩
instance : TArr Tryz.prog 119 16 87 := ⟨by kernel_rfl⟩
instance : TAg Tryz.prog 119 16 := ⟨by kernel_rfl, by kernel_rfl⟩
instance : TInfo Tryz.prog 119 16 128 [.pointer none, .pointer none, .pointer none, .pointer none, .pointer none, .pointer none, .pointer none, .pointer none, .pointer none, .pointer none, .pointer none, .pointer none, .pointer none, .pointer none, .pointer none, .pointer none] := ⟨by kernel_rfl⟩
instance : TFld Tryz.prog 120 0 0 76 19 := ⟨by kernel_rfl, by decide⟩
instance : TFld Tryz.prog 120 1 19 119 16 := ⟨by kernel_rfl, by decide⟩
instance : TFld Tryz.prog 120 2 35 9 1 := ⟨by kernel_rfl, by decide⟩
instance : TFld Tryz.prog 120 3 36 9 1 := ⟨by kernel_rfl, by decide⟩
instance : TFld Tryz.prog 120 4 37 3 1 := ⟨by kernel_rfl, by decide⟩
instance : TBuild Tryz.prog 120 [(0, 19), (19, 16), (35, 1), (36, 1), (37, 1)] := ⟨by kernel_rfl⟩
instance : TAg Tryz.prog 120 38 := ⟨by kernel_rfl, by kernel_rfl⟩
instance : TInfo Tryz.prog 120 38 464 [.int .i64 0, .string ⟨#[]⟩, .string ⟨#[]⟩, .string ⟨#[]⟩, .string ⟨#[]⟩, .string ⟨#[]⟩, .string ⟨#[]⟩, .string ⟨#[]⟩, .string ⟨#[]⟩, .string ⟨#[]⟩, .string ⟨#[]⟩, .string ⟨#[]⟩, .string ⟨#[]⟩, .string ⟨#[]⟩, .string ⟨#[]⟩, .string ⟨#[]⟩, .string ⟨#[]⟩, .string ⟨#[]⟩, .string ⟨#[]⟩, .pointer none, .pointer none, .pointer none, .pointer none, .pointer none, .pointer none, .pointer none, .pointer none, .pointer none, .pointer none, .pointer none, .pointer none, .pointer none, .pointer none, .pointer none, .pointer none, .string ⟨#[]⟩, .string ⟨#[]⟩, .int .i64 0] := ⟨by kernel_rfl⟩
instance : TFld Tryz.prog 121 0 0 76 19 := ⟨by kernel_rfl, by decide⟩
instance : TFld Tryz.prog 121 1 19 119 16 := ⟨by kernel_rfl, by decide⟩
instance : TFld Tryz.prog 121 2 35 9 1 := ⟨by kernel_rfl, by decide⟩
instance : TFld Tryz.prog 121 3 36 9 1 := ⟨by kernel_rfl, by decide⟩
instance : TFld Tryz.prog 121 4 37 3 1 := ⟨by kernel_rfl, by decide⟩
instance : TBuild Tryz.prog 121 [(0, 19), (19, 16), (35, 1), (36, 1), (37, 1)] := ⟨by kernel_rfl⟩
instance : TAg Tryz.prog 121 38 := ⟨by kernel_rfl, by kernel_rfl⟩
instance : TInfo Tryz.prog 121 38 464 [.int .i64 0, .string ⟨#[]⟩, .string ⟨#[]⟩, .string ⟨#[]⟩, .string ⟨#[]⟩, .string ⟨#[]⟩, .string ⟨#[]⟩, .string ⟨#[]⟩, .string ⟨#[]⟩, .string ⟨#[]⟩, .string ⟨#[]⟩, .string ⟨#[]⟩, .string ⟨#[]⟩, .string ⟨#[]⟩, .string ⟨#[]⟩, .string ⟨#[]⟩, .string ⟨#[]⟩, .string ⟨#[]⟩, .string ⟨#[]⟩, .pointer none, .pointer none, .pointer none, .pointer none, .pointer none, .pointer none, .pointer none, .pointer none, .pointer none, .pointer none, .pointer none, .pointer none, .pointer none, .pointer none, .pointer none, .pointer none, .string ⟨#[]⟩, .string ⟨#[]⟩, .int .i64 0] := ⟨by kernel_rfl⟩
instance : TSc Tryz.prog 122 := ⟨by kernel_rfl, by kernel_rfl⟩
instance : TInfo Tryz.prog 122 1 8 [.nilFunc] := ⟨by kernel_rfl⟩
instance : TSc Tryz.prog 123 := ⟨by kernel_rfl, by kernel_rfl⟩
instance : TInfo Tryz.prog 123 1 8 [.nilFunc] := ⟨by kernel_rfl⟩
instance : TSc Tryz.prog 124 := ⟨by kernel_rfl, by kernel_rfl⟩
instance : TInfo Tryz.prog 124 1 8 [.nilFunc] := ⟨by kernel_rfl⟩
instance : TSc Tryz.prog 125 := ⟨by kernel_rfl, by kernel_rfl⟩
instance : TInfo Tryz.prog 125 1 8 [.nilFunc] := ⟨by kernel_rfl⟩
instance : TSc Tryz.prog 126 := ⟨by kernel_rfl, by kernel_rfl⟩
instance : TInfo Tryz.prog 126 1 8 [.nilFunc] := ⟨by kernel_rfl⟩
instance : TPtr Tryz.prog 127 148 := ⟨by kernel_rfl⟩
instance : TSc Tryz.prog 127 := ⟨by kernel_rfl, by kernel_rfl⟩
instance : TInfo Tryz.prog 127 1 8 [.pointer none] := ⟨by kernel_rfl⟩
instance : TSc Tryz.prog 128 := ⟨by kernel_rfl, by kernel_rfl⟩
instance : TInfo Tryz.prog 128 1 8 [.nilFunc] := ⟨by kernel_rfl⟩
instance : TSc Tryz.prog 129 := ⟨by kernel_rfl, by kernel_rfl⟩
instance : TInfo Tryz.prog 129 1 8 [.nilFunc] := ⟨by kernel_rfl⟩
instance : TFld Tryz.prog 130 0 0 9 1 := ⟨by kernel_rfl, by decide⟩
instance : TFld Tryz.prog 130 1 1 3 1 := ⟨by kernel_rfl, by decide⟩
instance : TFld Tryz.prog 130 2 2 30 1 := ⟨by kernel_rfl, by decide⟩
instance : TBuild Tryz.prog 130 [(0, 1), (1, 1), (2, 1)] := ⟨by kernel_rfl⟩
instance : TAg Tryz.prog 130 3 := ⟨by kernel_rfl, by kernel_rfl⟩
instance : TLeaf Tryz.prog 130 [.s, .i .i64, .i .i64] := ⟨by kernel_rfl, by kernel_rfl, by kernel_rfl⟩
instance : TInfo Tryz.prog 130 3 32 [.string ⟨#[]⟩, .int .i64 0, .int .i64 0] := ⟨by kernel_rfl⟩
instance : TFld Tryz.prog 131 0 0 9 1 := ⟨by kernel_rfl, by decide⟩
instance : TFld Tryz.prog 131 1 1 3 1 := ⟨by kernel_rfl, by decide⟩
instance : TFld Tryz.prog 131 2 2 30 1 := ⟨by kernel_rfl, by decide⟩
instance : TBuild Tryz.prog 131 [(0, 1), (1, 1), (2, 1)] := ⟨by kernel_rfl⟩
instance : TAg Tryz.prog 131 3 := ⟨by kernel_rfl, by kernel_rfl⟩
instance : TLeaf Tryz.prog 131 [.s, .i .i64, .i .i64] := ⟨by kernel_rfl, by kernel_rfl, by kernel_rfl⟩
instance : TInfo Tryz.prog 131 3 32 [.string ⟨#[]⟩, .int .i64 0, .int .i64 0] := ⟨by kernel_rfl⟩
instance : TSc Tryz.prog 132 := ⟨by kernel_rfl, by kernel_rfl⟩
instance : TInfo Tryz.prog 132 1 8 [.nilFunc] := ⟨by kernel_rfl⟩
instance : TSc Tryz.prog 133 := ⟨by kernel_rfl, by kernel_rfl⟩
instance : TInfo Tryz.prog 133 1 8 [.nilFunc] := ⟨by kernel_rfl⟩
instance : TSc Tryz.prog 134 := ⟨by kernel_rfl, by kernel_rfl⟩
instance : TInfo Tryz.prog 134 1 8 [.nilFunc] := ⟨by kernel_rfl⟩
instance : TSc Tryz.prog 135 := ⟨by kernel_rfl, by kernel_rfl⟩
instance : TInfo Tryz.prog 135 1 8 [.nilFunc] := ⟨by kernel_rfl⟩
instance : TSc Tryz.prog 136 := ⟨by kernel_rfl, by kernel_rfl⟩
instance : TInfo Tryz.prog 136 1 8 [.nilFunc] := ⟨by kernel_rfl⟩
instance : TSc Tryz.prog 137 := ⟨by kernel_rfl, by kernel_rfl⟩
instance : TInfo Tryz.prog 137 1 8 [.nilFunc] := ⟨by kernel_rfl⟩
instance : TArr Tryz.prog 138 16 110 := ⟨by kernel_rfl⟩
instance : TAg Tryz.prog 138 16 := ⟨by kernel_rfl, by kernel_rfl⟩
instance : TLeaf Tryz.prog 138 [.i .u32, .i .u32, .i .u32, .i .u32, .i .u32, .i .u32, .i .u32, .i .u32, .i .u32, .i .u32, .i .u32, .i .u32, .i .u32, .i .u32, .i .u32, .i .u32] := ⟨by kernel_rfl, by kernel_rfl, by kernel_rfl⟩
instance : TInfo Tryz.prog 138 16 64 [.int .u32 0, .int .u32 0, .int .u32 0, .int .u32 0, .int .u32 0, .int .u32 0, .int .u32 0, .int .u32 0, .int .u32 0, .int .u32 0, .int .u32 0, .int .u32 0, .int .u32 0, .int .u32 0, .int .u32 0, .int .u32 0] := ⟨by kernel_rfl⟩
instance : TSc Tryz.prog 139 := ⟨by kernel_rfl, by kernel_rfl⟩
instance : TInfo Tryz.prog 139 1 8 [.nilFunc] := ⟨by kernel_rfl⟩
instance : TSc Tryz.prog 140 := ⟨by kernel_rfl, by kernel_rfl⟩
instance : TInfo Tryz.prog 140 1 8 [.nilFunc] := ⟨by kernel_rfl⟩
instance : TSc Tryz.prog 141 := ⟨by kernel_rfl, by kernel_rfl⟩
instance : TInfo Tryz.prog 141 1 8 [.nilFunc] := ⟨by kernel_rfl⟩
instance : TSc Tryz.prog 142 := ⟨by kernel_rfl, by kernel_rfl⟩
instance : TInfo Tryz.prog 142 1 8 [.nilFunc] := ⟨by kernel_rfl⟩
instance : TSc Tryz.prog 143 := ⟨by kernel_rfl, by kernel_rfl⟩
instance : TInfo Tryz.prog 143 1 8 [.nilFunc] := ⟨by kernel_rfl⟩
instance : TSc Tryz.prog 144 := ⟨by kernel_rfl, by kernel_rfl⟩
instance : TInfo Tryz.prog 144 1 8 [.nilFunc] := ⟨by kernel_rfl⟩
instance : TSc Tryz.prog 145 := ⟨by kernel_rfl, by kernel_rfl⟩
instance : TInfo Tryz.prog 145 1 8 [.nilFunc] := ⟨by kernel_rfl⟩
instance : TSc Tryz.prog 146 := ⟨by kernel_rfl, by kernel_rfl⟩
instance : TInfo Tryz.prog 146 1 8 [.nilFunc] := ⟨by kernel_rfl⟩
instance : TFld Tryz.prog 147 0 0 111 8 := ⟨by kernel_rfl, by decide⟩
instance : TFld Tryz.prog 147 1 8 69 1 := ⟨by kernel_rfl, by decide⟩
instance : TFld Tryz.prog 147 2 9 3 1 := ⟨by kernel_rfl, by decide⟩
instance : TBuild Tryz.prog 147 [(0, 8), (8, 1), (9, 1)] := ⟨by kernel_rfl⟩
instance : TAg Tryz.prog 147 10 := ⟨by kernel_rfl, by kernel_rfl⟩
instance : TInfo Tryz.prog 147 10 64 [.int .u32 0, .int .u32 0, .int .u32 0, .int .u32 0, .int .u32 0, .int .u32 0, .int .u32 0, .int .u32 0, .slice none 0 0, .int .i64 0] := ⟨by kernel_rfl⟩
instance : TFld Tryz.prog 148 0 0 111 8 := ⟨by kernel_rfl, by decide⟩
instance : TFld Tryz.prog 148 1 8 69 1 := ⟨by kernel_rfl, by decide⟩
instance : TFld Tryz.prog 148 2 9 3 1 := ⟨by kernel_rfl, by decide⟩
instance : TBuild Tryz.prog 148 [(0, 8), (8, 1), (9, 1)] := ⟨by kernel_rfl⟩
instance : TAg Tryz.prog 148 10 := ⟨by kernel_rfl, by kernel_rfl⟩
instance : TInfo Tryz.prog 148 10 64 [.int .u32 0, .int .u32 0, .int .u32 0, .int .u32 0, .int .u32 0, .int .u32 0, .int .u32 0, .int .u32 0, .slice none 0 0, .int .i64 0] := ⟨by kernel_rfl⟩
instance : TSc Tryz.prog 149 := ⟨by kernel_rfl, by kernel_rfl⟩
instance : TSc Tryz.prog 150 := ⟨by kernel_rfl, by kernel_rfl⟩
instance : TInfo Tryz.prog 150 1 8 [.nilFunc] := ⟨by kernel_rfl⟩
instance : TInt Tryz.prog 151 .u64 := ⟨by kernel_rfl⟩
instance : TSc Tryz.prog 151 := ⟨by kernel_rfl, by kernel_rfl⟩
instance : TInfo Tryz.prog 151 1 8 [.int .u64 0] := ⟨by kernel_rfl⟩
instance : TArr Tryz.prog 152 64 110 := ⟨by kernel_rfl⟩
instance : TAg Tryz.prog 152 64 := ⟨by kernel_rfl, by kernel_rfl⟩
instance : TLeaf Tryz.prog 152 [.i .u32, .i .u32, .i .u32, .i .u32, .i .u32, .i .u32, .i .u32, .i .u32, .i .u32, .i .u32, .i .u32, .i .u32, .i .u32, .i .u32, .i .u32, .i .u32, .i .u32, .i .u32, .i .u32, .i .u32, .i .u32, .i .u32, .i .u32, .i .u32, .i .u32, .i .u32, .i .u32, .i .u32, .i .u32, .i .u32, .i .u32, .i .u32, .i .u32, .i .u32, .i .u32, .i .u32, .i .u32, .i .u32, .i .u32, .i .u32, .i .u32, .i .u32, .i .u32, .i .u32, .i .u32, .i .u32, .i .u32, .i .u32, .i .u32, .i .u32, .i .u32, .i .u32, .i .u32, .i .u32, .i .u32, .i .u32, .i .u32, .i .u32, .i .u32, .i .u32, .i .u32, .i .u32, .i .u32, .i .u32] := ⟨by kernel_rfl, by kernel_rfl, by kernel_rfl⟩
instance : TInfo Tryz.prog 152 64 256 [.int .u32 0, .int .u32 0, .int .u32 0, .int .u32 0, .int .u32 0, .int .u32 0, .int .u32 0, .int .u32 0, .int .u32 0, .int .u32 0, .int .u32 0, .int .u32 0, .int .u32 0, .int .u32 0, .int .u32 0, .int .u32 0, .int .u32 0, .int .u32 0, .int .u32 0, .int .u32 0, .int .u32 0, .int .u32 0, .int .u32 0, .int .u32 0, .int .u32 0, .int .u32 0, .int .u32 0, .int .u32 0, .int .u32 0, .int .u32 0, .int .u32 0, .int .u32 0, .int .u32 0, .int .u32 0, .int .u32 0, .int .u32 0, .int .u32 0, .int .u32 0, .int .u32 0, .int .u32 0, .int .u32 0, .int .u32 0, .int .u32 0, .int .u32 0, .int .u32 0, .int .u32 0, .int .u32 0, .int .u32 0, .int .u32 0, .int .u32 0, .int .u32 0, .int .u32 0, .int .u32 0, .int .u32 0, .int .u32 0, .int .u32 0, .int .u32 0, .int .u32 0, .int .u32 0, .int .u32 0, .int .u32 0, .int .u32 0, .int .u32 0, .int .u32 0] := ⟨by kernel_rfl⟩
instance : TSc Tryz.prog 153 := ⟨by kernel_rfl, by kernel_rfl⟩
instance : TInfo Tryz.prog 153 1 8 [.nilFunc] := ⟨by kernel_rfl⟩
instance : TArr Tryz.prog 154 32 5 := ⟨by kernel_rfl⟩
instance : TAg Tryz.prog 154 32 := ⟨by kernel_rfl, by kernel_rfl⟩
instance : TLeaf Tryz.prog 154 [.i .u8, .i .u8, .i .u8, .i .u8, .i .u8, .i .u8, .i .u8, .i .u8, .i .u8, .i .u8, .i .u8, .i .u8, .i .u8, .i .u8, .i .u8, .i .u8, .i .u8, .i .u8, .i .u8, .i .u8, .i .u8, .i .u8, .i .u8, .i .u8, .i .u8, .i .u8, .i .u8, .i .u8, .i .u8, .i .u8, .i .u8, .i .u8] := ⟨by kernel_rfl, by kernel_rfl, by kernel_rfl⟩
instance : TInfo Tryz.prog 154 32 32 [.int .u8 0, .int .u8 0, .int .u8 0, .int .u8 0, .int .u8 0, .int .u8 0, .int .u8 0, .int .u8 0, .int .u8 0, .int .u8 0, .int .u8 0, .int .u8 0, .int .u8 0, .int .u8 0, .int .u8 0, .int .u8 0, .int .u8 0, .int .u8 0, .int .u8 0, .int .u8 0, .int .u8 0, .int .u8 0, .int .u8 0, .int .u8 0, .int .u8 0, .int .u8 0, .int .u8 0, .int .u8 0, .int .u8 0, .int .u8 0, .int .u8 0, .int .u8 0] := ⟨by kernel_rfl⟩
instance : TSc Tryz.prog 155 := ⟨by kernel_rfl, by kernel_rfl⟩
instance : TSc Tryz.prog 156 := ⟨by kernel_rfl, by kernel_rfl⟩
instance : TInfo Tryz.prog 156 1 8 [.nilFunc] := ⟨by kernel_rfl⟩
instance : TSc Tryz.prog 157 := ⟨by kernel_rfl, by kernel_rfl⟩
instance : TInfo Tryz.prog 157 1 8 [.nilFunc] := ⟨by kernel_rfl⟩
instance : TSc Tryz.prog 158 := ⟨by kernel_rfl, by kernel_rfl⟩
instance : TInfo Tryz.prog 158 1 8 [.nilFunc] := ⟨by kernel_rfl⟩
instance : TArr Tryz.prog 159 8 5 := ⟨by kernel_rfl⟩
instance : TAg Tryz.prog 159 8 := ⟨by kernel_rfl, by kernel_rfl⟩
instance : TLeaf Tryz.prog 159 [.i .u8, .i .u8, .i .u8, .i .u8, .i .u8, .i .u8, .i .u8, .i .u8] := ⟨by kernel_rfl, by kernel_rfl, by kernel_rfl⟩
instance : TInfo Tryz.prog 159 8 8 [.int .u8 0, .int .u8 0, .int .u8 0, .int .u8 0, .int .u8 0, .int .u8 0, .int .u8 0, .int .u8 0] := ⟨by kernel_rfl⟩
instance : TFld Tryz.prog 160 0 0 17 1 := ⟨by kernel_rfl, by decide⟩
instance : TFld Tryz.prog 160 1 1 17 1 := ⟨by kernel_rfl, by decide⟩
instance : TFld Tryz.prog 160 2 2 17 1 := ⟨by kernel_rfl, by decide⟩
instance : TFld Tryz.prog 160 3 3 9 1 := ⟨by kernel_rfl, by decide⟩
instance : TBuild Tryz.prog 160 [(0, 1), (1, 1), (2, 1), (3, 1)] := ⟨by kernel_rfl⟩
instance : TAg Tryz.prog 160 4 := ⟨by kernel_rfl, by kernel_rfl⟩
instance : TInfo Tryz.prog 160 4 40 [.pointer none, .pointer none, .pointer none, .string ⟨#[]⟩] := ⟨by kernel_rfl⟩
instance : TFld Tryz.prog 161 0 0 17 1 := ⟨by kernel_rfl, by decide⟩
instance : TFld Tryz.prog 161 1 1 17 1 := ⟨by kernel_rfl, by decide⟩
instance : TFld Tryz.prog 161 2 2 17 1 := ⟨by kernel_rfl, by decide⟩
instance : TFld Tryz.prog 161 3 3 9 1 := ⟨by kernel_rfl, by decide⟩
instance : TBuild Tryz.prog 161 [(0, 1), (1, 1), (2, 1), (3, 1)] := ⟨by kernel_rfl⟩
instance : TAg Tryz.prog 161 4 := ⟨by kernel_rfl, by kernel_rfl⟩
instance : TInfo Tryz.prog 161 4 40 [.pointer none, .pointer none, .pointer none, .string ⟨#[]⟩] := ⟨by kernel_rfl⟩
instance : TArr Tryz.prog 162 0 16 := ⟨by kernel_rfl⟩
instance : TBuild Tryz.prog 163 [(0, 0)] := ⟨by kernel_rfl⟩
instance : TBuild Tryz.prog 164 [(0, 0)] := ⟨by kernel_rfl⟩
instance : TInt Tryz.prog 165 .u8 := ⟨by kernel_rfl⟩
instance : TSc Tryz.prog 165 := ⟨by kernel_rfl, by kernel_rfl⟩
instance : TInfo Tryz.prog 165 1 1 [.int .u8 0] := ⟨by kernel_rfl⟩
instance : TInt Tryz.prog 166 .u8 := ⟨by kernel_rfl⟩
instance : TSc Tryz.prog 166 := ⟨by kernel_rfl, by kernel_rfl⟩
instance : TInfo Tryz.prog 166 1 1 [.int .u8 0] := ⟨by kernel_rfl⟩
instance : TSc Tryz.prog 167 := ⟨by kernel_rfl, by kernel_rfl⟩
instance : TInfo Tryz.prog 167 1 8 [.nilFunc] := ⟨by kernel_rfl⟩
instance : TPtr Tryz.prog 168 5 := ⟨by kernel_rfl⟩
instance : TSc Tryz.prog 168 := ⟨by kernel_rfl, by kernel_rfl⟩
instance : TInfo Tryz.prog 168 1 8 [.pointer none] := ⟨by kernel_rfl⟩
instance : TInt Tryz.prog 169 .i32 := ⟨by kernel_rfl⟩
instance : TSc Tryz.prog 169 := ⟨by kernel_rfl, by kernel_rfl⟩
instance : TInfo Tryz.prog 169 1 4 [.int .i32 0] := ⟨by kernel_rfl⟩
instance : TInt Tryz.prog 170 .i32 := ⟨by kernel_rfl⟩
instance : TSc Tryz.prog 170 := ⟨by kernel_rfl, by kernel_rfl⟩
instance : TInfo Tryz.prog 170 1 4 [.int .i32 0] := ⟨by kernel_rfl⟩
instance : TFld Tryz.prog 171 0 0 12 1 := ⟨by kernel_rfl, by decide⟩
instance : TFld Tryz.prog 171 1 1 12 1 := ⟨by kernel_rfl, by decide⟩
instance : TFld Tryz.prog 171 2 2 110 1 := ⟨by kernel_rfl, by decide⟩
instance : TFld Tryz.prog 171 3 3 165 1 := ⟨by kernel_rfl, by decide⟩
instance : TFld Tryz.prog 171 4 4 5 1 := ⟨by kernel_rfl, by decide⟩
instance : TFld Tryz.prog 171 5 5 5 1 := ⟨by kernel_rfl, by decide⟩
instance : TFld Tryz.prog 171 6 6 166 1 := ⟨by kernel_rfl, by decide⟩
instance : TFld Tryz.prog 171 7 7 167 1 := ⟨by kernel_rfl, by decide⟩
instance : TFld Tryz.prog 171 8 8 168 1 := ⟨by kernel_rfl, by decide⟩
instance : TFld Tryz.prog 171 9 9 169 1 := ⟨by kernel_rfl, by decide⟩
instance : TFld Tryz.prog 171 10 10 170 1 := ⟨by kernel_rfl, by decide⟩
instance : TBuild Tryz.prog 171 [(0, 1), (1, 1), (2, 1), (3, 1), (4, 1), (5, 1), (6, 1), (7, 1), (8, 1), (9, 1), (10, 1)] := ⟨by kernel_rfl⟩
instance : TAg Tryz.prog 171 11 := ⟨by kernel_rfl, by kernel_rfl⟩
instance : TInfo Tryz.prog 171 11 48 [.int .u64 0, .int .u64 0, .int .u32 0, .int .u8 0, .int .u8 0, .int .u8 0, .int .u8 0, .nilFunc, .pointer none, .int .i32 0, .int .i32 0] := ⟨by kernel_rfl⟩
instance : TFld Tryz.prog 172 0 0 12 1 := ⟨by kernel_rfl, by decide⟩
instance : TFld Tryz.prog 172 1 1 12 1 := ⟨by kernel_rfl, by decide⟩
instance : TFld Tryz.prog 172 2 2 110 1 := ⟨by kernel_rfl, by decide⟩
instance : TFld Tryz.prog 172 3 3 165 1 := ⟨by kernel_rfl, by decide⟩
instance : TFld Tryz.prog 172 4 4 5 1 := ⟨by kernel_rfl, by decide⟩
instance : TFld Tryz.prog 172 5 5 5 1 := ⟨by kernel_rfl, by decide⟩
instance : TFld Tryz.prog 172 6 6 166 1 := ⟨by kernel_rfl, by decide⟩
instance : TFld Tryz.prog 172 7 7 167 1 := ⟨by kernel_rfl, by decide⟩
instance : TFld Tryz.prog 172 8 8 168 1 := ⟨by kernel_rfl, by decide⟩
instance : TFld Tryz.prog 172 9 9 169 1 := ⟨by kernel_rfl, by decide⟩
instance : TFld Tryz.prog 172 10 10 170 1 := ⟨by kernel_rfl, by decide⟩
instance : TBuild Tryz.prog 172 [(0, 1), (1, 1), (2, 1), (3, 1), (4, 1), (5, 1), (6, 1), (7, 1), (8, 1), (9, 1), (10, 1)] := ⟨by kernel_rfl⟩
instance : TAg Tryz.prog 172 11 := ⟨by kernel_rfl, by kernel_rfl⟩
instance : TInfo Tryz.prog 172 11 48 [.int .u64 0, .int .u64 0, .int .u32 0, .int .u8 0, .int .u8 0, .int .u8 0, .int .u8 0, .nilFunc, .pointer none, .int .i32 0, .int .i32 0] := ⟨by kernel_rfl⟩
instance : TSc Tryz.prog 173 := ⟨by kernel_rfl, by kernel_rfl⟩
instance : TInfo Tryz.prog 173 1 8 [.pointer none] := ⟨by kernel_rfl⟩
instance : TFunc Tryz.prog 2 := ⟨by kernel_rfl⟩
instance : TFunc Tryz.prog 3 := ⟨by kernel_rfl⟩
instance : TFunc Tryz.prog 4 := ⟨by kernel_rfl⟩
instance : TFunc Tryz.prog 5 := ⟨by kernel_rfl⟩
instance : TFunc Tryz.prog 6 := ⟨by kernel_rfl⟩
instance : TFunc Tryz.prog 7 := ⟨by kernel_rfl⟩
instance : TFunc Tryz.prog 8 := ⟨by kernel_rfl⟩
instance : TFunc Tryz.prog 9 := ⟨by kernel_rfl⟩
instance : TFunc Tryz.prog 10 := ⟨by kernel_rfl⟩
instance : TFunc Tryz.prog 11 := ⟨by kernel_rfl⟩
instance : TFunc Tryz.prog 12 := ⟨by kernel_rfl⟩
instance : TFunc Tryz.prog 13 := ⟨by kernel_rfl⟩
instance : TFunc Tryz.prog 14 := ⟨by kernel_rfl⟩
instance : TFunc Tryz.prog 15 := ⟨by kernel_rfl⟩
instance : TFunc Tryz.prog 16 := ⟨by kernel_rfl⟩
instance : TFunc Tryz.prog 17 := ⟨by kernel_rfl⟩
instance : TFunc Tryz.prog 18 := ⟨by kernel_rfl⟩
instance : TFunc Tryz.prog 19 := ⟨by kernel_rfl⟩
instance : TFunc Tryz.prog 20 := ⟨by kernel_rfl⟩
instance : TFunc Tryz.prog 21 := ⟨by kernel_rfl⟩
instance : TFunc Tryz.prog 22 := ⟨by kernel_rfl⟩
instance : TFunc Tryz.prog 23 := ⟨by kernel_rfl⟩
instance : TFunc Tryz.prog 24 := ⟨by kernel_rfl⟩
instance : TFunc Tryz.prog 25 := ⟨by kernel_rfl⟩
instance : TFunc Tryz.prog 26 := ⟨by kernel_rfl⟩
instance : TFunc Tryz.prog 27 := ⟨by kernel_rfl⟩
instance : TFunc Tryz.prog 28 := ⟨by kernel_rfl⟩
instance : TFunc Tryz.prog 29 := ⟨by kernel_rfl⟩
instance : TFunc Tryz.prog 30 := ⟨by kernel_rfl⟩
instance : TFunc Tryz.prog 31 := ⟨by kernel_rfl⟩
instance : TFunc Tryz.prog 32 := ⟨by kernel_rfl⟩
instance : TFunc Tryz.prog 33 := ⟨by kernel_rfl⟩
instance : TFunc Tryz.prog 34 := ⟨by kernel_rfl⟩
instance : TFunc Tryz.prog 35 := ⟨by kernel_rfl⟩
instance : TFunc Tryz.prog 36 := ⟨by kernel_rfl⟩
instance : TFunc Tryz.prog 37 := ⟨by kernel_rfl⟩
instance : TFunc Tryz.prog 38 := ⟨by kernel_rfl⟩
instance : TFunc Tryz.prog 39 := ⟨by kernel_rfl⟩
instance : TFunc Tryz.prog 40 := ⟨by kernel_rfl⟩
instance : TFunc Tryz.prog 41 := ⟨by kernel_rfl⟩
instance : TFunc Tryz.prog 42 := ⟨by kernel_rfl⟩
instance : TFunc Tryz.prog 43 := ⟨by kernel_rfl⟩
instance : TFunc Tryz.prog 44 := ⟨by kernel_rfl⟩
instance : TFunc Tryz.prog 45 := ⟨by kernel_rfl⟩
instance : TFunc Tryz.prog 46 := ⟨by kernel_rfl⟩
instance : TFunc Tryz.prog 47 := ⟨by kernel_rfl⟩
instance : TFunc Tryz.prog 48 := ⟨by kernel_rfl⟩
instance : TFunc Tryz.prog 49 := ⟨by kernel_rfl⟩
instance : TFunc Tryz.prog 50 := ⟨by kernel_rfl⟩
instance : TFunc Tryz.prog 51 := ⟨by kernel_rfl⟩
instance : TFunc Tryz.prog 52 := ⟨by kernel_rfl⟩
instance : TFunc Tryz.prog 53 := ⟨by kernel_rfl⟩
instance : TFunc Tryz.prog 54 := ⟨by kernel_rfl⟩
instance : TFunc Tryz.prog 55 := ⟨by kernel_rfl⟩
instance : TFunc Tryz.prog 56 := ⟨by kernel_rfl⟩
instance : TFunc Tryz.prog 57 := ⟨by kernel_rfl⟩
instance : TFunc Tryz.prog 58 := ⟨by kernel_rfl⟩
instance : TFunc Tryz.prog 59 := ⟨by kernel_rfl⟩
instance : TFunc Tryz.prog 60 := ⟨by kernel_rfl⟩
instance : TFunc Tryz.prog 61 := ⟨by kernel_rfl⟩
instance : TFunc Tryz.prog 62 := ⟨by kernel_rfl⟩
instance : TFunc Tryz.prog 63 := ⟨by kernel_rfl⟩
instance : TFunc Tryz.prog 64 := ⟨by kernel_rfl⟩
instance : TFunc Tryz.prog 65 := ⟨by kernel_rfl⟩
instance : TFunc Tryz.prog 66 := ⟨by kernel_rfl⟩
instance : TFunc Tryz.prog 67 := ⟨by kernel_rfl⟩
instance : TFunc Tryz.prog 68 := ⟨by kernel_rfl⟩
instance : TFunc Tryz.prog 69 := ⟨by kernel_rfl⟩
instance : TFunc Tryz.prog 70 := ⟨by kernel_rfl⟩
instance : TFunc Tryz.prog 71 := ⟨by kernel_rfl⟩
instance : TFunc Tryz.prog 72 := ⟨by kernel_rfl⟩
instance : TFunc Tryz.prog 73 := ⟨by kernel_rfl⟩
instance : TFunc Tryz.prog 74 := ⟨by kernel_rfl⟩
instance : TFunc Tryz.prog 75 := ⟨by kernel_rfl⟩
instance : TFunc Tryz.prog 76 := ⟨by kernel_rfl⟩
instance : TFunc Tryz.prog 77 := ⟨by kernel_rfl⟩
instance : TFunc Tryz.prog 78 := ⟨by kernel_rfl⟩
instance : TFunc Tryz.prog 79 := ⟨by kernel_rfl⟩
instance : TFunc Tryz.prog 80 := ⟨by kernel_rfl⟩
instance : TFunc Tryz.prog 81 := ⟨by kernel_rfl⟩
instance : TFunc Tryz.prog 82 := ⟨by kernel_rfl⟩
instance : TFunc Tryz.prog 83 := ⟨by kernel_rfl⟩
instance : TFunc Tryz.prog 84 := ⟨by kernel_rfl⟩
instance : TFunc Tryz.prog 85 := ⟨by kernel_rfl⟩
instance : TFunc Tryz.prog 86 := ⟨by kernel_rfl⟩
instance : TFunc Tryz.prog 87 := ⟨by kernel_rfl⟩
instance : TFunc Tryz.prog 88 := ⟨by kernel_rfl⟩
instance : TFunc Tryz.prog 89 := ⟨by kernel_rfl⟩
instance : TFunc Tryz.prog 90 := ⟨by kernel_rfl⟩
instance : TFunc Tryz.prog 91 := ⟨by kernel_rfl⟩
instance : TFunc Tryz.prog 92 := ⟨by kernel_rfl⟩
instance : TFunc Tryz.prog 93 := ⟨by kernel_rfl⟩
instance : TFunc Tryz.prog 94 := ⟨by kernel_rfl⟩
instance : TFunc Tryz.prog 95 := ⟨by kernel_rfl⟩
instance : TFunc Tryz.prog 96 := ⟨by kernel_rfl⟩
instance : TFunc Tryz.prog 97 := ⟨by kernel_rfl⟩
instance : TFunc Tryz.prog 98 := ⟨by kernel_rfl⟩
instance : TFunc Tryz.prog 99 := ⟨by kernel_rfl⟩
instance : TFunc Tryz.prog 100 := ⟨by kernel_rfl⟩
instance : TFunc Tryz.prog 101 := ⟨by kernel_rfl⟩
instance : TFunc Tryz.prog 102 := ⟨by kernel_rfl⟩
instance : TFunc Tryz.prog 125 := ⟨by kernel_rfl⟩
def shaK : List Nat := [1116352408, 1899447441, 3049323471, 3921009573, 961987163, 1508970993, 2453635748, 2870763221, 3624381080, 310598401, 607225278, 1426881987, 1925078388, 2162078206, 2614888103, 3248222580, 3835390401, 4022224774, 264347078, 604807628, 770255983, 1249150122, 1555081692, 1996064986, 2554220882, 2821834349, 2952996808, 3210313671, 3336571891, 3584528711, 113926993, 338241895, 666307205, 773529912, 1294757372, 1396182291, 1695183700, 1986661051, 2177026350, 2456956037, 2730485921, 2820302411, 3259730800, 3345764771, 3516065817, 3600352804, 4094571909, 275423344, 430227734, 506948616, 659060556, 883997877, 958139571, 1322822218, 1537002063, 1747873779, 1955562222, 2024104815, 2227730452, 2361852424, 2428436474, 2756734187, 3204031479, 3329325298]
instance globs : Gl Tryz.prog := ⟨[(0, shaK.map fun (n : Nat) => Value.int .u32 (n : Int))]⟩
theorem follows : Tryz.prog.follows .mixedOrders = true := by kernel_rfl
end Go.Proofs.YtaflklbmdbmjbaaGreatDoor
namespace Go.Proofs.YtaflklbmdbmjbaaGreatDoor.Sha
open Go Go.Sse
set_option maxRecDepth 10000
set_option linter.unusedVariables false
set_option linter.unusedSimpArgs false
abbrev Wd := BitVec 32
def rot (x : Wd) (n : Nat) : Wd := x >>> n ||| x <<< (32 - n)
def sig0 (x : Wd) : Wd := rot x 7 ^^^ rot x 18 ^^^ x >>> 3
def sig1 (x : Wd) : Wd := rot x 17 ^^^ rot x 19 ^^^ x >>> 10
def byteAt (b : List UInt8) (i : Nat) : Wd := BitVec.ofNat 32 (b.getD i 0).toNat
def word (b : List UInt8) (i : Nat) : Wd := byteAt b (4 * i) <<< 24 ||| byteAt b (4 * i + 1) <<< 16 ||| byteAt b (4 * i + 2) <<< 8 ||| byteAt b (4 * i + 3)
def nextW (l : List Wd) (n : Nat) : Wd := l.getD (n - 16) 0 + sig0 (l.getD (n - 15) 0) + l.getD (n - 7) 0 + sig1 (l.getD (n - 2) 0)
def sched (b : List UInt8) : Nat → List Wd
  | 0 => []
  | n + 1 => sched b n ++ [if n < 16 then word b n else nextW (sched b n) n]
def W (b : List UInt8) (n : Nat) : Wd := (sched b (n + 1)).getD n 0
theorem sched_len (b : List UInt8) : ∀ n, (sched b n).length = n
  | 0 => rfl
  | n + 1 => by simp [sched, sched_len b n]
theorem sched_get (b : List UInt8) : ∀ n i, i < n → (sched b n).getD i 0 = W b i
  | 0, i, h => by omega
  | n + 1, i, h => by
    by_cases hi : i = n
    · subst hi; rfl
    · have : i < n := by omega
      rw [← sched_get b n i this]
      simp only [sched, List.getD_eq_getElem?_getD]
      rw [List.getElem?_append_left (by rw [sched_len]; exact this)]
theorem W_low (b : List UInt8) (n : Nat) (h : n < 16) : W b n = word b n := by
  unfold W; simp only [sched, List.getD_eq_getElem?_getD, if_pos h]
  rw [List.getElem?_append_right (by rw [sched_len]; exact Nat.le_refl _), sched_len, Nat.sub_self]; rfl
theorem W_high (b : List UInt8) (n : Nat) (h : 16 ≤ n) : W b n = W b (n - 16) + sig0 (W b (n - 15)) + W b (n - 7) + sig1 (W b (n - 2)) := by
  have e : W b n = nextW (sched b n) n := by
    unfold W; simp only [sched, List.getD_eq_getElem?_getD, if_neg (show ¬ n < 16 by omega)]
    rw [List.getElem?_append_right (by rw [sched_len]; exact Nat.le_refl _), sched_len, Nat.sub_self]; rfl
  rw [e]; unfold nextW
  rw [sched_get b n _ (by omega), sched_get b n _ (by omega), sched_get b n _ (by omega), sched_get b n _ (by omega)]
structure S8 where
  a : Wd
  b : Wd
  c : Wd
  d : Wd
  e : Wd
  f : Wd
  g : Wd
  h : Wd
def S8.list (s : S8) : List Wd := [s.a, s.b, s.c, s.d, s.e, s.f, s.g, s.h]
abbrev S8.cells (s : S8) : List SV := [u32 s.a, u32 s.b, u32 s.c, u32 s.d, u32 s.e, u32 s.f, u32 s.g, u32 s.h]
def S8.one (s : S8) (k w : Wd) : Wd := s.h + (rot s.e 6 ^^^ rot s.e 11 ^^^ rot s.e 25) + (s.e &&& s.f ^^^ ~~~s.e &&& s.g) + k + w
def S8.two (s : S8) : Wd := (rot s.a 2 ^^^ rot s.a 13 ^^^ rot s.a 22) + (s.a &&& s.b ^^^ s.a &&& s.c ^^^ s.b &&& s.c)
def S8.round (s : S8) (k w : Wd) : S8 := ⟨s.one k w + s.two, s.a, s.b, s.c, s.d + s.one k w, s.e, s.f, s.g⟩
def kAt (i : Nat) : Wd := BitVec.ofNat 32 (shaK.getD i 0)
def rounds (s : S8) (b : List UInt8) : Nat → S8
  | 0 => s
  | n + 1 => (rounds s b n).round (kAt n) (W b n)
def S8.add (s t : S8) : S8 := ⟨s.a + t.a, s.b + t.b, s.c + t.c, s.d + t.d, s.e + t.e, s.f + t.f, s.g + t.g, s.h + t.h⟩
def blockS (s : S8) (b : List UInt8) : S8 := (rounds s b 64).add s
def first8 : S8 := ⟨0x6a09e667#32, 0xbb67ae85#32, 0x3c6ef372#32, 0xa54ff53a#32, 0x510e527f#32, 0x9b05688c#32, 0x1f83d9ab#32, 0x5be0cd19#32⟩
def wordB (w : Wd) : List UInt8 := [UInt8.ofNat (w >>> 24).toNat, UInt8.ofNat (w >>> 16).toNat, UInt8.ofNat (w >>> 8).toNat, UInt8.ofNat w.toNat]
def toldS (s : S8) : List UInt8 := s.list.flatMap wordB
theorem told_len (s : S8) : (toldS s).length = 32 := rfl
def blocksS (s : S8) (l : List UInt8) : S8 × List UInt8 :=
  if h : 64 ≤ l.length then blocksS (blockS s (l.take 64)) (l.drop 64) else (s, l)
termination_by l.length
decreasing_by simp only [List.length_drop]; omega
theorem blocksS_lt {s : S8} {l : List UInt8} (h : l.length < 64) : blocksS s l = (s, l) := by
  rw [blocksS, dif_neg (by omega)]
theorem blocksS_ge {s : S8} {l : List UInt8} (h : 64 ≤ l.length) : blocksS s l = blocksS (blockS s (l.take 64)) (l.drop 64) := by
  rw [blocksS, dif_pos h]
theorem blocksS_app : ∀ (n : Nat) (s : S8) (l t : List UInt8), l.length ≤ n → blocksS s (l ++ t) = blocksS (blocksS s l).1 ((blocksS s l).2 ++ t) := by
  intro n
  induction n with
  | zero => intro s l t h; have : l = [] := List.eq_nil_of_length_eq_zero (by omega); subst this; rw [blocksS_lt (s := s) (l := []) (by simp)]
  | succ n ih =>
    intro s l t h
    by_cases h64 : 64 ≤ l.length
    · rw [blocksS_ge (l := l) h64, blocksS_ge (l := l ++ t) (by simp; omega), List.take_append_of_le_length h64, List.drop_append_of_le_length h64]
      exact ih _ _ _ (by simp only [List.length_drop]; omega)
    · rw [blocksS_lt (l := l) (by omega)]
theorem blocksS_left : ∀ (n : Nat) (s : S8) (l : List UInt8), l.length ≤ n → (blocksS s l).2.length = l.length % 64 := by
  intro n
  induction n with
  | zero => intro s l h; rw [blocksS_lt (by omega)]; simp only; omega
  | succ n ih =>
    intro s l h
    by_cases h64 : 64 ≤ l.length
    · rw [blocksS_ge h64, ih _ _ (by simp only [List.length_drop]; omega), List.length_drop]; omega
    · rw [blocksS_lt (by omega)]; simp only; omega
def zerosOf (n : Nat) : Nat := (119 - n % 64) % 64
def lenB (n : Nat) : List UInt8 := (List.range 8).map fun i => UInt8.ofNat (n * 8 / 2 ^ (56 - 8 * i))
theorem lenB_len (n : Nat) : (lenB n).length = 8 := rfl
def padS (n : Nat) : List UInt8 := [128] ++ List.replicate (zerosOf n) 0 ++ lenB n
def shaS (l : List UInt8) : List UInt8 := toldS (blocksS first8 (l ++ padS l.length)).1
theorem shaS_len (l : List UInt8) : (shaS l).length = 32 := rfl
end Go.Proofs.YtaflklbmdbmjbaaGreatDoor.Sha
namespace Go.Proofs.YtaflklbmdbmjbaaGreatDoor.Sha
open Go Go.Sse
set_option maxRecDepth 10000
set_option linter.unusedVariables false
set_option linter.unusedSimpArgs false
theorem ref0 {F : List (Nat × SV)} {i : Nat} {s : SV} (h : Sse.look F i = some s) : ∃ t, Sse.look F i = some t ∧ Sub t s := ⟨s, h, .refl _⟩
theorem rot_ok (x : Wd) (n : Nat) (hn : n ≤ 32) : FnC Tryz.prog 102 [u32 x, u64 n] [] (fun s L => s = u32 (rot x n) ∧ L = []) := by
  refine FnC.intro Tryz.func102 rfl Tryz.ntmps102 rfl fun Z w0 hG => ?_
  focus (
 (refine W.seq (W.region (Jx.assign rfl rfl (J.nil (N.seq (W.seq (W.region (Jx.move rfl rfl (Jx.move rfl rfl ?_)))))))))
 (refine Jx.shrU rfl rfl hn rfl ?_)
 (refine Jx.move rfl rfl (Jx.move rfl rfl ?_))
 (refine Jx.subU64 (c := 32) rfl rfl hn (by decide) rfl ?_)
 (refine Jx.shlU rfl rfl (by omega) rfl ?_)
 (refine Jx.orU rfl rfl rfl ?_)
 (refine Jx.assign rfl rfl (J.nil (N.seq (W.ret ?_))))
 (refine id ?_; rotate_left))
  exact N.ret (rs := [.tmp 4]) rfl (.tmp rfl .nil) ⟨rfl, rfl⟩
theorem first_ok : FnC Tryz.prog 92 [] [] (fun s L => s = .agg first8.cells ∧ L = []) := by
  refine FnC.intro Tryz.func92 rfl Tryz.ntmps92 rfl fun Z w0 hG => ?_
  focus (
 (refine W.seq (W.region ?_))
 (refine J.alloc (by simp only [List.map_cons, List.map_nil]; rfl) rfl rfl ?_; intro b')
 (refine J.nil (N.seq (W.seq (W.region (Jx.buildA rfl rfl rfl rfl rfl ?_)))))
 (refine J.storeAll rfl rfl rfl 0 rfl rfl rfl ?_)
 (refine J.nil (N.seq (W.ret ?_)))
 (refine id ?_; rotate_left))
  exact N.retD (rs := [.cell 0 111]) (L1 := []) rfl (.cell rfl 0 rfl inferInstance .nil) (List.nil_sublist _) ⟨rfl, rfl⟩
end Go.Proofs.YtaflklbmdbmjbaaGreatDoor.Sha
namespace Go.Proofs.YtaflklbmdbmjbaaGreatDoor.Sha
open Go Go.Sse
set_option maxRecDepth 10000
set_option linter.unusedVariables false
set_option linter.unusedSimpArgs false
def tab (b : List UInt8) (i : Nat) : List Wd := sched b i ++ List.replicate (64 - i) 0
theorem tab_len (b : List UInt8) (i : Nat) (h : i ≤ 64) : (tab b i).length = 64 := by simp [tab, sched_len]; omega
theorem tab_get (b : List UInt8) (i j : Nat) (h : j < i) : (tab b i).getD j 0 = (sched b i).getD j 0 := by
  simp only [tab, List.getD_eq_getElem?_getD]; rw [List.getElem?_append_left (by rw [sched_len]; exact h)]
theorem tab_set (b : List UInt8) (i : Nat) (h : i < 64) (v : Wd) (hv : v = if i < 16 then word b i else nextW (sched b i) i) : (tab b i).set i v = tab b (i + 1) := by
  subst hv
  unfold tab
  rw [List.set_append_right _ _ (by rw [sched_len]; exact Nat.le_refl _), sched_len, Nat.sub_self, show 64 - i = (64 - (i + 1)) + 1 by omega, List.replicate_succ, List.set_cons_zero]
  simp [sched]
theorem tab_next (b : List UInt8) (i : Nat) (h : 16 ≤ i) : (tab b i).getD (i - 16) 0 + (rot ((tab b i).getD (i - 15) 0) 7 ^^^ rot ((tab b i).getD (i - 15) 0) 18 ^^^ (tab b i).getD (i - 15) 0 >>> 3) + (tab b i).getD (i - 7) 0 + (rot ((tab b i).getD (i - 2) 0) 17 ^^^ rot ((tab b i).getD (i - 2) 0) 19 ^^^ (tab b i).getD (i - 2) 0 >>> 10) = nextW (sched b i) i := by
  rw [tab_get _ _ _ (by omega), tab_get _ _ _ (by omega), tab_get _ _ _ (by omega), tab_get _ _ _ (by omega)]; rfl
abbrev tabO (p : Nat) (ws : List Wd) : Own := .obj p 152 (ws.map u32)
abbrev blkO (p : Nat) (bs : List UInt8) : Own := .obj p 113 (bs.map byte)
set_option maxHeartbeats 2000000 in
theorem spread_ok (bs : List UInt8) (hb : bs.length = 64) : FnC Tryz.prog 101 [.agg (bs.map byte)] [] (fun s L => s = .agg ((sched bs 64).map u32) ∧ L = []) := by
  refine FnC.intro Tryz.func101 rfl Tryz.ntmps101 rfl fun Z w0 hG => ?_
  focus (
 (refine W.seq (W.region ?_))
 (refine J.boxAg rfl rfl ?_; intro b')
 (refine J.alloc (by simp only [List.map_cons, List.map_nil]; rfl) rfl rfl ?_; intro b')
 (refine J.nil (N.seq (W.seq (W.region ?_))))
 (refine J.alloc (by simp only [List.map_cons, List.map_nil]; rfl) rfl rfl ?_; intro b')
 (refine J.nil (N.seq (W.seq (W.seq (W.region (Jx.move rfl rfl (J.nil (N.seq (W.block ?_)))))))))
 (refine id ?_; rotate_left))
  rename_i p1 p2
  refine W.loop (α := Nat × List Wd) (fun x => [(8, int x.1), (3, ptr b'), (2, ptr p2), (1, ptr p1)]) (fun x => [tabO b' x.2, tabO p2 (tab bs 0), blkO p1 bs]) (fun x => x.1 ≤ 16 ∧ x.2 = tab bs x.1) (fun x => 16 - x.1) (0, tab bs 0) ⟨by omega, rfl⟩ rfl ⟨ref0 rfl, ref0 rfl, ref0 rfl, ref0 rfl, trivial⟩ ?_
  have hz : (tab bs 0).length = 64 := tab_len bs 0 (by omega)
  generalize tab bs 0 = zs at *
  rintro ⟨i, ws⟩ ⟨hi, hw⟩
  simp only at hi hw ⊢
  have hl : ws.length = 64 := by rw [hw]; exact tab_len bs i (by omega)
  by_cases h : i < 16
  · focus (
 (refine W.seq (W.region (Jx.lssI rfl rfl rfl (J.nil (N.seq (W.seq (W.cT rfl ?_)))))))
 (refine W.skip (N.seq (W.seq (W.block (W.seq (W.region (Jx.move rfl rfl (Jx.assign rfl rfl (J.nil (N.seq ?_))))))))))
 (refine W.draw follows ?_)
 (refine JD.upto (n := 31) rfl (by decide +kernel) (by decide +kernel) rfl rfl ?_)
 (refine Cx.move rfl rfl ?_)
 (refine Cx.move rfl rfl ?_)
 (refine Cx.mul64 rfl rfl (by omega) rfl ?_)
 (refine Cx.index0 (4 * i) rfl rfl (by omega) (by omega) rfl ?_)
 (refine Cx.loadA byte 0 rfl 2 rfl (by omega) rfl ?_)
 (refine Cx.byteWord rfl rfl rfl ?_)
 (refine Cx.shlU rfl rfl (by decide) rfl ?_)
 (refine Cx.move rfl rfl ?_)
 (refine Cx.mul64 rfl rfl (by omega) rfl ?_)
 (refine Cx.add64 rfl rfl (by omega) rfl ?_)
 (refine Cx.index0 (4 * i + 1) rfl rfl (by omega) (by omega) rfl ?_)
 (refine Cx.loadA byte 0 rfl 2 rfl (by omega) rfl ?_)
 (refine Cx.byteWord rfl rfl rfl ?_)
 (refine Cx.shlU rfl rfl (by decide) rfl ?_)
 (refine Cx.orU rfl rfl rfl ?_)
 (refine Cx.move rfl rfl ?_)
 (refine Cx.mul64 rfl rfl (by omega) rfl ?_)
 (refine Cx.add64 rfl rfl (by omega) rfl ?_)
 (refine Cx.index0 (4 * i + 2) rfl rfl (by omega) (by omega) rfl ?_)
 (refine Cx.loadA byte 0 rfl 2 rfl (by omega) rfl ?_)
 (refine Cx.byteWord rfl rfl rfl ?_)
 (refine Cx.shlU rfl rfl (by decide) rfl ?_)
 (refine Cx.orU rfl rfl rfl ?_)
 (refine Cx.move rfl rfl ?_)
 (refine Cx.mul64 rfl rfl (by omega) rfl ?_)
 (refine Cx.add64 rfl rfl (by omega) rfl ?_)
 (refine Cx.index0 (4 * i + 3) rfl rfl (by omega) (by omega) rfl ?_)
 (refine Cx.loadA byte 0 rfl 2 rfl (by omega) rfl ?_)
 (refine Cx.byteWord rfl rfl rfl ?_)
 (refine Cx.orU rfl rfl rfl ?_)
 (refine Cx.index0 i rfl rfl (by omega) (by omega) rfl ?_)
 (refine SegC.nil ?_)
 (refine J.storeA u32 (word bs i) rfl rfl (One.val rfl) 0 rfl (by omega) rfl ?_)
 (refine J.nil (N.seq (W.region (Jx.add64 rfl rfl (by omega) rfl ?_))))
 (refine Jx.move rfl rfl (J.nil ?_))
 (refine id ?_; rotate_left))
    exact N.round (i + 1, ws.set i (word bs i)) ⟨by omega, by rw [hw]; exact tab_set bs i (by omega) (word bs i) (by rw [if_pos h])⟩ (by simp only; omega) rfl ⟨ref0 rfl, ref0 rfl, ref0 rfl, ref0 rfl, trivial⟩
  · have h16 : i = 16 := by omega
    focus (
 (refine W.seq (W.region (Jx.lssI rfl rfl rfl (J.nil (N.seq (W.seq (W.cF rfl ?_)))))))
 (refine W.exit (N.seq (W.seq (W.seq (W.region (Jx.assign rfl rfl (J.nil (N.seq (W.block ?_)))))))))
 (refine id ?_; rotate_left))
    refine W.loop (α := Nat × List Wd) (fun x => [(5, int x.1), (3, ptr b'), (2, ptr p2), (1, ptr p1)]) (fun x => [tabO b' x.2, tabO p2 zs, blkO p1 bs]) (fun x => 16 ≤ x.1 ∧ x.1 ≤ 64 ∧ x.2 = tab bs x.1) (fun x => 64 - x.1) (16, ws) ⟨by simp, by simp, by rw [hw, h16]⟩ rfl ⟨ref0 rfl, ref0 rfl, ref0 rfl, ref0 rfl, trivial⟩ ?_
    clear hi hw hl h h16
    rintro ⟨i, ws⟩ ⟨hi0, hi1, hw⟩
    simp only at hi0 hi1 hw ⊢
    have hl : ws.length = 64 := by rw [hw]; exact tab_len bs i (by omega)
    by_cases h : i < 64
    · focus (
 (refine W.seq (W.seq (W.region (Jx.move rfl rfl (Jx.lssI rfl rfl rfl (J.nil (N.seq (W.cT rfl ?_))))))))
 (refine W.skip (N.seq (W.seq (W.block (W.seq ?_)))))
 (refine W.draw follows ?_)
 (refine JD.calm rfl (by decide +kernel) ?_)
 (refine Cx.move rfl rfl ?_)
 (refine Cx.sub64 rfl rfl (by omega) rfl ?_)
 (refine Cx.index0 (i - 15) rfl rfl (by omega) (by omega) rfl ?_)
 (refine Cx.loadA u32 0 rfl 0 rfl (by omega) rfl ?_)
 (refine Cx.move rfl rfl ?_)
 (refine Cx.sub64 rfl rfl (by omega) rfl ?_)
 (refine Cx.index0 (i - 2) rfl rfl (by omega) (by omega) rfl ?_)
 (refine Cx.loadA u32 0 rfl 0 rfl (by omega) rfl ?_)
 (refine Cx.assign rfl rfl ?_)
 (refine Cx.assign rfl rfl ?_)
 (refine SegC.nil ?_)
 (refine N.seq ?_)
 (refine W.draw follows ?_)
 (refine JD.upto (n := 29) rfl (by decide +kernel) (by decide +kernel) rfl rfl ?_)
 (refine Cx.move rfl rfl ?_)
 (refine Cx.move rfl rfl ?_)
 (refine Cx.sub64 rfl rfl (by omega) rfl ?_)
 (refine Cx.index0 (i - 16) rfl rfl (by omega) (by omega) rfl ?_)
 (refine Cx.loadA u32 0 rfl 0 rfl (by omega) rfl ?_)
 (refine Cx.move rfl rfl ?_)
 (refine SegC.q (Qs.call (Lc := []) (rot_ok _ 7 (by decide)) (fun s L' h => h) (List.Perm.refl _) (evs_args rfl)) rfl ?_)
 (refine Cx.move rfl rfl ?_)
 (refine SegC.q (Qs.call (Lc := []) (rot_ok _ 18 (by decide)) (fun s L' h => h) (List.Perm.refl _) (evs_args rfl)) rfl ?_)
 (refine Cx.xorU rfl rfl rfl ?_)
 (refine Cx.move rfl rfl ?_)
 (refine Cx.shrU rfl rfl (by decide) rfl ?_)
 (refine Cx.xorU rfl rfl rfl ?_)
 (refine Cx.addU rfl rfl rfl ?_)
 (refine Cx.move rfl rfl ?_)
 (refine Cx.sub64 rfl rfl (by omega) rfl ?_)
 (refine Cx.index0 (i - 7) rfl rfl (by omega) (by omega) rfl ?_)
 (refine Cx.loadA u32 0 rfl 0 rfl (by omega) rfl ?_)
 (refine Cx.addU rfl rfl rfl ?_)
 (refine Cx.move rfl rfl ?_)
 (refine SegC.q (Qs.call (Lc := []) (rot_ok _ 17 (by decide)) (fun s L' h => h) (List.Perm.refl _) (evs_args rfl)) rfl ?_)
 (refine Cx.move rfl rfl ?_)
 (refine SegC.q (Qs.call (Lc := []) (rot_ok _ 19 (by decide)) (fun s L' h => h) (List.Perm.refl _) (evs_args rfl)) rfl ?_)
 (refine Cx.xorU rfl rfl rfl ?_)
 (refine Cx.move rfl rfl ?_)
 (refine Cx.shrU rfl rfl (by decide) rfl ?_)
 (refine Cx.xorU rfl rfl rfl ?_)
 (refine Cx.addU rfl rfl rfl ?_)
 (refine Cx.index0 i rfl rfl (by omega) (by omega) rfl ?_)
 (refine SegC.nil ?_)
 (refine J.storeA u32 (ws.getD (i - 16) 0 + sig0 (ws.getD (i - 15) 0) + ws.getD (i - 7) 0 + sig1 (ws.getD (i - 2) 0)) rfl rfl (One.val rfl) 0 rfl (by omega) rfl ?_)
 (refine J.nil (N.seq (W.region (Jx.move rfl rfl (Jx.add64 rfl rfl (by omega) rfl ?_)))))
 (refine Jx.assign rfl rfl (J.nil ?_))
 (refine id ?_; rotate_left))
      refine N.round (i + 1, ws.set i (ws.getD (i - 16) 0 + sig0 (ws.getD (i - 15) 0) + ws.getD (i - 7) 0 + sig1 (ws.getD (i - 2) 0))) ⟨by simp only; omega, by simp only; omega, ?_⟩ (by simp only; omega) rfl ⟨ref0 rfl, ref0 rfl, ref0 rfl, ref0 rfl, trivial⟩
      simp only
      rw [hw]
      exact tab_set bs i (by omega) _ (by rw [if_neg (by omega), ← tab_next bs i hi0]; rfl)
    · have h64 : i = 64 := by omega
      focus (
 (refine W.seq (W.seq (W.region (Jx.move rfl rfl (Jx.lssI rfl rfl rfl (J.nil (N.seq (W.cF rfl ?_))))))))
 (refine W.exit (N.seq (W.seq (W.region (Jx.loadArr (by rw [List.length_map]; exact hl) rfl 0 rfl rfl ?_)))))
 (refine J.storeArr (by rw [List.length_map]; exact hl) rfl rfl 1 rfl (by rw [List.length_map]; exact hz) rfl ?_)
 (refine J.nil (N.seq (W.ret ?_)))
 (refine id ?_; rotate_left))
      refine N.retD (rs := [.cell 2 152]) (L1 := []) rfl (.cell rfl 1 rfl (by rw [List.length_map, hl]; infer_instance) .nil) (List.nil_sublist _) ⟨?_, rfl⟩
      rw [hw, h64]; simp [oneOr, tab]
end Go.Proofs.YtaflklbmdbmjbaaGreatDoor.Sha
