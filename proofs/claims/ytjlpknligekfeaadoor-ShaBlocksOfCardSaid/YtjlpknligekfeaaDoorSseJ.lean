/-
  Drawn regions in which an operation that turns something stands in no order to others: those others may come at any time.
-/
import Derived.Test.YtjlpknligekfeaaDoorSseI
namespace Go.Sse
open Go Go.Sse
set_option linter.unusedVariables false
set_option linter.unusedSimpArgs false

section
variable {P : Program} {Γ : Ctx} {ops : Array Oper} {Q : Exit → Act → World → Prop} {F G : List (Nat × SV)} {L : List Own}

def depsOf (o : Oper) : List Nat := (o.after.toList.filter (Region.binds .any)).map (·.on)

/-- The look at those that may come at any time. S: what is done; idx: they. -/
def okIdx (ops : Array Oper) (S idx : List Nat) : Bool :=
  idx.all fun b => match ops[b]? with
    | none => false
    | some o => o.dst.isSome && ((depsOf o).all fun e => Nat.blt e b && (S.contains e || idx.contains e)) &&
      (idx.all fun q => match dstAt ops q with
        | none => false
        | some t => (Nat.beq q b && !(rd ops o).contains t) || (!Nat.beq q b && !(dstAt ops b == some t) && (!(rd ops o).contains t || (depsOf o).contains q)))

/-- The look at a step. -/
def okStep (ops : Array Oper) (S idx : List Nat) (i : Nat) (ks S' idx' : List Nat) : Bool :=
  match ops[i]? with
  | none => false
  | some o => !S.contains i && !idx.contains i && o.guard.isNone && ((depsOf o).all fun e => Nat.blt e ops.size && (S.contains e || idx.contains e)) &&
    ((List.range ops.size).all fun j => S.contains j || idx.contains j || Nat.beq j i || (match ops[j]? with | none => false | some oj => (depsOf oj).any fun e => !S.contains e && !idx.contains e)) &&
    (o.op.operands.toList.all fun x => match x with | .tmp t => ks.contains t | _ => true) &&
    (idx'.all fun b => idx.contains b && (match dstAt ops b with | none => false | some t => !ks.contains t && !(o.dst == some t)) && (match ops[b]? with | none => false | some ob => match o.dst with | none => true | some t => !(rd ops ob).contains t)) &&
    (idx.all fun c => idx'.contains c || (S'.contains c && ((Region.before ops).getD i 0).testBit c)) &&
    (S.all fun s => S'.contains s) && S'.contains i && (S'.all fun s => S.contains s || Nat.beq s i || (idx.contains s && !idx'.contains s))

/-- The state: what is told of slots holds, but where an operation that may come at any time is still to come. -/
structure PSt (Γ : Ctx) (ops : Array Oper) (S idx : List Nat) (G : List (Nat × SV)) (L : List Own) (listed : Array Bool) (a : Act) (w : World) : Prop where
  sz : listed.size = ops.size
  lo : ∀ i, i < ops.size → i ∈ S → listed.getD i false = true
  hi : ∀ i, listed.getD i false = true → i ∈ S ∨ i ∈ idx
  cl : Closed ops (fun i => listed.getD i false)
  ws : WSt Γ L w
  nt : a.tmps.size = Γ.nt
  df : a.defers = Γ.df
  fr : ∀ x s, look G x = some s → (∀ b ∈ idx, listed.getD b false = false → dstAt ops b ≠ some x) → Rel (ZL Γ.Z L) w s (a.tmps.getD x undef)

def unl (ops : Array Oper) (listed : Array Bool) : Nat := ((List.range ops.size).filter fun i => !listed.getD i true).length

/-- S is done; idx may be done; all that is told. -/
structure JP (P : Program) (Γ : Ctx) (ops : Array Oper) (Q : Exit → Act → World → Prop) (S idx : List Nat) (G : List (Nat × SV)) (L : List Own) : Prop where
  go : ∀ k listed a w, PSt Γ ops S idx G L listed a w → unl ops listed = k → wpAny P .any ops Q k listed a w

/-- What is told anew is what was told. -/
def Ag (G : List (Nat × SV)) : Nat → List (Nat × SV) → Prop
  | 0, _ => True
  | _ + 1, [] => False
  | n + 1, p :: r => look G p.1 = some p.2 ∧ Ag G n r
theorem Ag.nil {R : List (Nat × SV)} : Ag G 0 R := trivial
theorem Ag.cons {n d : Nat} {s : SV} {r : List (Nat × SV)} (h : look G d = some s) (hr : Ag G n r) : Ag G (n + 1) ((d, s) :: r) := ⟨h, hr⟩

theorem pushAll_eq : ∀ (items F : List (Nat × SV)), pushAll F items = items.reverse ++ F
  | [], F => rfl
  | p :: r, F => by simp [pushAll, pushAll_eq r]

theorem Ag.mem : ∀ {n : Nat} {R T : List (Nat × SV)}, R.length = n → Ag G n (R ++ T) → ∀ p ∈ R, look G p.1 = some p.2
  | _, [], _, _, _, p, hp => by simp at hp
  | n, q :: R, T, hn, h, p, hp => by
    subst hn
    simp only [List.length_cons, List.cons_append] at h
    rcases List.mem_cons.1 hp with rfl | hp
    · exact h.1
    · exact Ag.mem rfl h.2 p hp

theorem SegL.at : ∀ {l : List Oper} {items F : List (Nat × SV)}, SegL P Γ ops L F l items → items.length = l.length ∧ ∀ j o, l[j]? = some o → ∃ p, items[j]? = some p ∧ o.dst = some p.1 ∧ Nat.blt p.1 Γ.nt = true ∧ Item P Γ ops (pushAll F (items.take j)) L o p.2
  | _, _, _, .nil => ⟨rfl, by simp⟩
  | _, _, _, .cons hd hlt hi hr => by
    obtain ⟨h1, h2⟩ := hr.at
    refine ⟨by simp [h1], fun j o ho => ?_⟩
    cases j with
    | zero => simp at ho; subst ho; exact ⟨_, rfl, hd, hlt, hi⟩
    | succ j =>
      obtain ⟨p, hp, e1, e2, e3⟩ := h2 j o (by simpa using ho)
      exact ⟨p, by simpa using hp, e1, e2, by simpa [pushAll] using e3⟩

theorem getD_tf {l : Array Bool} {i : Nat} (h : i < l.size) : l.getD i true = l.getD i false := by
  simp [Array.getD_eq_getD_getElem?, Array.getElem?_eq_getElem h]

theorem getD_setB (l : Array Bool) (i : Nat) (hi : i < l.size) (d : Bool) (j : Nat) : (l.setIfInBounds i true).getD j d = if j = i then true else l.getD j d := by
  simp only [Array.getD_eq_getD_getElem?, Array.getElem?_setIfInBounds]
  by_cases hji : i = j
  · subst hji; simp [hi]
  · have : ¬ j = i := fun e => hji e.symm
    simp [hji, this]

theorem ready_iff {listed : Array Bool} (i : Nat) : i ∈ Region.ready .any ops listed ↔ i < ops.size ∧ listed.getD i true = false ∧ ∃ o, ops[i]? = some o ∧ ∀ e ∈ depsOf o, listed.getD e false = true := by
  unfold Region.ready
  simp only [List.mem_filter, List.mem_range, Bool.and_eq_true, Bool.not_eq_true']
  constructor
  · rintro ⟨h1, h2, h3⟩
    refine ⟨h1, h2, ?_⟩
    cases ho : ops[i]? with
    | none => simp [ho] at h3
    | some o =>
      simp only [ho, Option.map_some, Option.getD_some] at h3
      refine ⟨o, rfl, fun e he => ?_⟩
      obtain ⟨ed, hed, rfl⟩ := List.mem_map.1 he
      rw [List.mem_filter] at hed
      have := (Array.all_eq_true_iff_forall_mem.1 h3) ed (Array.mem_toList_iff.1 hed.1)
      simpa [hed.2] using this
  · rintro ⟨h1, h2, o, ho, h3⟩
    refine ⟨h1, h2, ?_⟩
    simp only [ho, Option.map_some, Option.getD_some]
    refine Array.all_eq_true_iff_forall_mem.2 fun e he => ?_
    cases hb : Region.binds .any e with
    | false => simp
    | true => simpa using h3 e.on (List.mem_map.2 ⟨e, List.mem_filter.2 ⟨Array.mem_toList_iff.2 he, hb⟩, rfl⟩)

theorem unl_set {listed : Array Bool} {i k : Nat} (hsz : listed.size = ops.size) (hi : i < ops.size) (hf : listed.getD i true = false) (hk : unl ops listed = k) : ∃ k', k = k' + 1 ∧ unl ops (listed.setIfInBounds i true) = k' := by
  unfold unl at *
  have hmem : i ∈ (List.range ops.size).filter fun i => !listed.getD i true := by
    rw [List.mem_filter, List.mem_range]; exact ⟨hi, by simp [hf]⟩
  have hnd : ((List.range ops.size).filter fun i => !listed.getD i true).Nodup := List.Sublist.nodup List.filter_sublist List.nodup_range
  have hfe2 : ((List.range ops.size).filter fun j => !(listed.setIfInBounds i true).getD j true) = ((List.range ops.size).filter fun i => !listed.getD i true).erase i := by
    rw [hnd.erase_eq_filter, List.filter_filter]
    refine List.filter_congr fun j _ => ?_
    rw [getD_setB _ _ (by omega)]
    by_cases hji : j = i
    · subst hji; simp
    · simp [hji]
  have hpos := List.length_pos_of_mem hmem
  refine ⟨k - 1, by omega, ?_⟩
  rw [hfe2, List.length_erase_of_mem hmem, hk]

theorem Closed.set {listed : Array Bool} {i : Nat} (h : Closed ops (fun i => listed.getD i false)) (hi : i < listed.size) {o : Oper} (ho : ops[i]? = some o) (hd : ∀ e ∈ depsOf o, listed.getD e false = true) : Closed ops (fun j => (listed.setIfInBounds i true).getD j false) := by
  intro j oj hoj hS e hem hbe
  simp only [getD_setB _ _ hi] at hS ⊢
  split
  · rfl
  · by_cases hji : j = i
    · subst hji
      rw [ho] at hoj; cases hoj
      exact hd e.on (List.mem_map.2 ⟨e, List.mem_filter.2 ⟨Array.mem_toList_iff.2 hem, hbe⟩, rfl⟩)
    · rw [if_neg hji] at hS
      exact h j oj hoj hS e hem hbe

/-- What may come at any time is carried out, till it is all done, or another operation's turn comes. -/
theorem jp_run {S idx : List Nat} {lp : List Oper} (hok : okIdx ops S idx = true) (hlp : idx.map (ops[·]?) = lp.map some) (hre : SegC P Γ ops L G lp (Ag G lp.length))
    (hother : ∀ j k listed a w, PSt Γ ops S idx G L listed a w → unl ops listed = k + 1 → j ∈ Region.ready .any ops listed → j ∉ idx → wpOp P ops Q j (wpAny P .any ops Q k (listed.setIfInBounds j true)) a w)
    (hall : ∀ k listed a w, PSt Γ ops S idx G L listed a w → unl ops listed = k → (∀ b ∈ idx, listed.getD b false = true) → wpAny P .any ops Q k listed a w) : JP P Γ ops Q S idx G L := by
  obtain ⟨items, hseg, hag⟩ := hre
  obtain ⟨hlen, hat⟩ := hseg.at
  rw [pushAll_eq] at hag
  have hag' : ∀ p ∈ items, look G p.1 = some p.2 := fun p hp => Ag.mem (by simp [hlen]) hag p (by simpa using hp)
  have hokb := List.all_eq_true.1 hok
  have hspec : ∀ b ∈ idx, ∃ o, ops[b]? = some o ∧ o.dst.isSome = true ∧ (∀ e ∈ depsOf o, e < b ∧ (e ∈ S ∨ e ∈ idx)) ∧ ∀ q ∈ idx, ∃ t, dstAt ops q = some t ∧ (q = b ∧ t ∉ rd ops o ∨ q ≠ b ∧ dstAt ops b ≠ some t ∧ (t ∈ rd ops o → q ∈ depsOf o)) := by
    intro b hb
    have h1 := hokb b hb
    cases ho : ops[b]? with
    | none => simp [ho] at h1
    | some o =>
      simp only [ho, Bool.and_eq_true, List.all_eq_true] at h1
      obtain ⟨⟨h2, h3⟩, h4⟩ := h1
      refine ⟨o, rfl, h2, fun e he => ?_, fun q hq => ?_⟩
      · have := h3 e he
        simp only [Bool.or_eq_true, List.contains_iff_mem] at this
        exact ⟨Nat.le_of_ble_eq_true this.1, this.2⟩
      · have := h4 q hq
        cases ht : dstAt ops q with
        | none => simp [ht] at this
        | some t =>
          refine ⟨t, rfl, ?_⟩
          simp only [ht, Bool.or_eq_true, Bool.and_eq_true, Bool.not_eq_true', Nat.beq_eq_true_eq, List.contains_iff_mem] at this
          rcases this with ⟨h5, h6⟩ | ⟨⟨h5, h6⟩, h7⟩
          · exact .inl ⟨by simpa using h5, by simpa using h6⟩
          · refine .inr ⟨by intro e; subst e; simp at h5, by intro e; rw [e] at h6; simp at h6, fun hm => ?_⟩
            rcases h7 with h7 | h7
            · exact absurd hm (by simpa using h7)
            · exact h7
  have hpos : ∀ b ∈ idx, ∃ j, idx[j]? = some b := fun b hb => List.mem_iff_getElem?.1 hb
  refine ⟨fun k => ?_⟩
  induction k with
  | zero =>
    intro listed a w hp hk
    refine hall 0 listed a w hp hk fun b hb => ?_
    obtain ⟨o, ho, _⟩ := hspec b hb
    have hbs : b < ops.size := (Array.getElem?_eq_some_iff.1 ho).1
    cases hq : listed.getD b false with
    | true => rfl
    | false =>
      obtain ⟨k', h, _⟩ := unl_set hp.sz hbs (by rw [getD_tf (by rw [hp.sz]; exact hbs)]; exact hq) hk
      omega
  | succ k ih =>
    intro listed a w hp hk
    by_cases hal : ∀ b ∈ idx, listed.getD b false = true
    · exact hall _ listed a w hp hk hal
    have hex : ∃ b ∈ idx, listed.getD b false = false := by
      refine Classical.byContradiction fun hn => hal fun b hb => ?_
      cases hq : listed.getD b false with
      | true => rfl
      | false => exact absurd ⟨b, hb, hq⟩ hn
    constructor
    · intro hnil
      exfalso
      have : ∃ b ∈ idx, listed.getD b false = false ∧ ∀ c ∈ idx, c < b → listed.getD c false = true := by
        obtain ⟨b, hb⟩ := hex
        induction b using Nat.strongRecOn with
        | _ b ih2 =>
          by_cases hl : ∃ c ∈ idx, c < b ∧ listed.getD c false = false
          · obtain ⟨c, hc, hcb, hcf⟩ := hl
            exact ih2 c hcb ⟨hc, hcf⟩
          · refine ⟨b, hb.1, hb.2, fun c hc hcb => ?_⟩
            cases hq : listed.getD c false with
            | true => rfl
            | false => exact absurd ⟨c, hc, hcb, hq⟩ hl
      obtain ⟨b, hb, hbf, hmin⟩ := this
      obtain ⟨o, ho, _, hde, _⟩ := hspec b hb
      have hbs : b < ops.size := (Array.getElem?_eq_some_iff.1 ho).1
      have : b ∈ Region.ready .any ops listed := (ready_iff b).2 ⟨hbs, by rw [getD_tf (by rw [hp.sz]; exact hbs)]; exact hbf, o, ho, fun e he => by
        obtain ⟨h1, h2⟩ := hde e he
        rcases h2 with h2 | h2
        · exact hp.lo e (by omega) h2
        · exact hmin e h2 h1⟩
      rw [hnil] at this
      simp at this
    · intro b hb
      by_cases hbi : b ∈ idx
      · obtain ⟨hbs, hbf, o, ho, hed⟩ := (ready_iff b).1 hb
        obtain ⟨o', ho', hdst, hde, hrds⟩ := hspec b hbi
        rw [ho] at ho'; cases ho'
        obtain ⟨j, hj⟩ := hpos b hbi
        have hlj : lp[j]? = some o := by
          have := congrArg (·[j]?) hlp
          simp only [List.getElem?_map, hj, Option.map_some, ho] at this
          cases hq : lp[j]? with
          | none => rw [hq] at this; simp at this
          | some x => rw [hq] at this; simp at this; rw [this]
        obtain ⟨p, hpj, hd, hlt, hitm⟩ := hat j o hlj
        have hdb : dstAt ops b = some p.1 := by simp [dstAt, ho, hd]
        have hGp := hag' p (List.mem_of_getElem? hpj)
        have hpd : p.1 < a.tmps.size := by rw [hp.nt]; exact Nat.le_of_ble_eq_true hlt
        -- what a slot that is read holds
        have hslot : ∀ t s, t ∈ rd ops o → look (pushAll G (items.take j)) t = some s → Rel (ZL Γ.Z L) w s (a.tmps.getD t undef) := by
          intro t s ht hl
          have hlG : look G t = some s := by
            rcases look_pushAll _ G t s hl with ⟨j', q, hq, rfl, rfl, _⟩ | ⟨_, h3⟩
            · rw [List.getElem?_take] at hq
              split at hq
              · exact hag' q (List.mem_of_getElem? hq)
              · simp at hq
            · exact h3
          refine hp.fr t s hlG fun q hq hqf hqt => ?_
          obtain ⟨t', ht', h4⟩ := hrds q hq
          rw [hqt] at ht'; cases ht'
          rcases h4 with ⟨_, h4⟩ | ⟨_, _, h4⟩
          · exact h4 ht
          · have := hed q (h4 ht); rw [hqf] at this; cases this
        have hops : ∀ x, x ∈ o.op.operands.toList → ∀ s, ev (pushAll G (items.take j)) x = some s → Rel (ZL Γ.Z L) w s (a.eval x) := by
          intro x hx s hs
          cases x with
          | tmp t => exact hslot t s (by unfold rd; exact List.mem_append_left _ (List.mem_filterMap.2 ⟨.tmp t, hx, rfl⟩)) hs
          | const v => simp only [ev, Option.some.injEq] at hs; subst hs; exact .val v
          | global g => simp only [ev, Option.some.injEq] at hs; subst hs; exact .val _
          | func f => simp only [ev, Option.some.injEq] at hs; subst hs; exact .val _
        have hls : b < listed.size := by rw [hp.sz]; exact hbs
        have next : ∀ v w', Step Γ L L w w' → Rel (ZL Γ.Z L) w' p.2 v → wpAny P .any ops Q k (listed.setIfInBounds b true) (a.put o.dst v) w' := by
          intro v w' hs hrel
          obtain ⟨k', e1, e2⟩ := unl_set hp.sz hbs hbf hk
          obtain rfl : k = k' := by omega
          refine ih _ _ _ ⟨by simpa using hp.sz, fun i hi hiS => ?_, fun i hi => ?_, hp.cl.set hls ho hed, hs.ws, ?_, ?_, fun x s hx hno => ?_⟩ e2
          · rw [getD_setB _ _ hls]; split
            · rfl
            · exact hp.lo i hi hiS
          · rw [getD_setB _ _ hls] at hi
            split at hi
            · rename_i e; subst e; exact .inr hbi
            · exact hp.hi i hi
          · rw [hd]; simpa [Act.put] using hp.nt
          · rw [hd]; exact hp.df
          · rw [hd]
            show Rel _ _ _ ((a.tmps.setIfInBounds p.1 v).getD x undef)
            rw [getD_set _ _ _ _ hpd]
            by_cases hxp : x = p.1
            · subst hxp
              rw [hGp] at hx; cases hx
              simpa using hrel
            · rw [if_neg hxp]
              refine hs.rel (hp.fr x s hx fun q hq hqf hqt => ?_)
              by_cases hqb : q = b
              · subst hqb; rw [hdb] at hqt; cases hqt; exact hxp rfl
              · exact hno q hq (by rw [getD_setB _ _ hls, if_neg hqb]; exact hqf) hqt
        unfold wpOp
        simp only [ho]
        have hgslot : ∀ {j' d : Nat} {want b' : Bool} {og : Oper}, o.guard = some (j', want) → ops[j']? = some og → og.dst = some d → look (pushAll G (items.take j)) d = some (.val (.bool b')) → a.tmps.getD d undef = .bool b' := by
          intro j' d want b' og hg hoj hdj hv
          refine (hslot d _ ?_ hv).val_eq
          unfold rd
          refine List.mem_append_right _ ?_
          simp [hg, hoj, hdj]
        cases hitm with
        | run hg hq =>
          rw [if_pos (by simp [Region.wanted, hg])]
          exact .inl (hq a w _ Q hp.ws hops next)
        | yes hg hoj hdj hv hb hq =>
          rw [if_pos (by rw [wanted_guard hg hoj hdj (hgslot hg hoj hdj hv)]; subst hb; simp)]
          exact .inl (hq a w _ Q hp.ws hops next)
        | no hg hoj hdj hv hb hsv =>
          rw [if_neg (by rw [wanted_guard hg hoj hdj (hgslot hg hoj hdj hv)]; subst hb; simp)]
          exact next undef w (Step.refl hp.ws) (by rw [hsv]; exact .any _)
      · exact hother b k listed a w hp hk hb hbi

theorem JD.start (h : JP P Γ ops Q [] [] F L) : JD P Γ ops Q 0 F L := by
  refine ⟨fun a w listed hup hst => h.go _ listed a w ⟨hup.1, by simp, fun i hi => ?_, fun i o ho hS => ?_, hst.ws, hst.nt, hst.df, fun x s hx _ => hst.fr x s hx⟩ ?_⟩
  · exfalso
    by_cases his : i < ops.size
    · rw [← getD_tf (by rw [hup.1]; exact his), hup.2 i his] at hi; simp at hi
    · rw [Array.getD_eq_getD_getElem?, Array.getElem?_eq_none (by rw [hup.1]; omega)] at hi; simp at hi
  · exfalso
    have his : i < ops.size := (Array.getElem?_eq_some_iff.1 ho).1
    simp only at hS
    rw [← getD_tf (by rw [hup.1]; exact his), hup.2 i his] at hS; simp at hS
  · unfold unl
    rw [List.filter_eq_self.2]
    · simp
    · intro i hi
      rw [hup.2 i (List.mem_range.1 hi)]; simp

/-- The same, of a region of n operations. -/
theorem JD.begin (n : Nat) (hn : Nat.beq ops.size n = true) (h : JP P Γ ops Q [] [] F L) : JD P Γ ops Q 0 F L := JD.start h

/-- More that may come at any time. -/
theorem JP.add {S idx : List Nat} {lnew : List Oper} (new : List Nat) (idx' : List Nat) (hi : idx ++ new = idx') (hc : (new.all fun b => !S.contains b && !idx.contains b) = true) (hl : new.map (ops[·]?) = lnew.map some)
    (h : SegC P Γ ops L G lnew (fun G' => JP P Γ ops Q S idx' G' L)) : JP P Γ ops Q S idx G L := by
  subst hi
  obtain ⟨items, hseg, hj⟩ := h
  obtain ⟨hlen, hat⟩ := hseg.at
  refine ⟨fun k listed a w hp hk => hj.go k listed a w ⟨hp.sz, hp.lo, fun i hi => (hp.hi i hi).imp id (fun h => List.mem_append_left _ h), hp.cl, hp.ws, hp.nt, hp.df, fun x s hx hno => ?_⟩ hk⟩
  rcases look_pushAll items G x s hx with ⟨j, q, hq, rfl, rfl, _⟩ | ⟨h2, h3⟩
  · exfalso
    have hjl : j < items.length := by
      rcases Nat.lt_or_ge j items.length with h | h
      · exact h
      · simp [List.getElem?_eq_none h] at hq
    have hjn : j < lnew.length := by omega
    obtain ⟨p, hp', hd, _⟩ := hat j _ (List.getElem?_eq_getElem hjn)
    rw [hq] at hp'; cases hp'
    have hb := congrArg (·[j]?) hl
    simp only [List.getElem?_map, List.getElem?_eq_getElem hjn, Option.map_some] at hb
    cases hnj : new[j]? with
    | none => rw [hnj] at hb; simp at hb
    | some b =>
      rw [hnj] at hb
      simp only [Option.map_some, Option.some.injEq] at hb
      have hbm := List.mem_of_getElem? hnj
      have := List.all_eq_true.1 hc b hbm
      simp only [Bool.and_eq_true, Bool.not_eq_true'] at this
      refine hno b (List.mem_append_right _ hbm) ?_ (by simp [dstAt, hb, hd])
      cases hqq : listed.getD b false with
      | false => rfl
      | true =>
        rcases hp.hi b hqq with h | h
        · simp [h] at this
        · simp [h] at this
  · exact hp.fr x s h3 fun b hb hbf => hno b (List.mem_append_left _ hb) hbf

def keep (ks : List Nat) (G : List (Nat × SV)) : List (Nat × SV) := G.filter fun p => ks.contains p.1

theorem look_keep {ks : List Nat} : ∀ {G : List (Nat × SV)} {x : Nat} {s : SV}, look (keep ks G) x = some s → x ∈ ks ∧ look G x = some s
  | [], x, s, h => by simp [keep, look] at h
  | p :: r, x, s, h => by
    unfold keep at h
    rw [List.filter_cons] at h
    by_cases hk : ks.contains p.1 = true
    · rw [if_pos hk] at h
      simp only [look] at h ⊢
      cases hb : Nat.beq p.1 x with
      | true =>
        rw [hb] at h
        have := Nat.eq_of_beq_eq_true hb
        subst this
        exact ⟨by simpa using hk, h⟩
      | false => rw [hb] at h; exact look_keep h
    · rw [if_neg hk] at h
      obtain ⟨h1, h2⟩ := look_keep (G := r) h
      refine ⟨h1, ?_⟩
      simp only [look]
      cases hb : Nat.beq p.1 x with
      | true =>
        have := Nat.eq_of_beq_eq_true hb
        subst this
        exact absurd (by simpa using h1) hk
      | false => exact h2

/-- The one operation whose turn may come. -/
theorem JP.op {S idx : List Nat} {lp : List Oper} {o : Oper} {R : SV → List Own → Prop} (i : Nat) (ks S' idx' : List Nat) (hc : (okIdx ops S idx && okStep ops S idx i ks S' idx') = true) (hlp : idx.map (ops[·]?) = lp.map some) (hoi : ops[i]? = some o)
    (hre : SegC P Γ ops L G lp (Ag G lp.length)) (hop : OpS P Γ o (keep ks G) L R) (hlt : ∀ d, o.dst = some d → Nat.blt d Γ.nt = true)
    (h : ∀ sv L', R sv L' → JP P Γ ops Q S' idx' (match o.dst with | some d => (d, sv) :: G | none => G) L') : JP P Γ ops Q S idx G L := by
  rw [Bool.and_eq_true] at hc
  obtain ⟨hok, hst⟩ := hc
  unfold okStep at hst
  simp only [hoi, Bool.and_eq_true, Bool.not_eq_true', List.all_eq_true] at hst
  obtain ⟨⟨⟨⟨⟨⟨⟨⟨⟨⟨hiS, hii⟩, hg⟩, hdi⟩, honly⟩, hks⟩, hidx⟩, hforce⟩, hSS⟩, hiS'⟩, hS'⟩ := hst
  have his : i < ops.size := (Array.getElem?_eq_some_iff.1 hoi).1
  have hgn : o.guard = none := by simpa using hg
  have turn : ∀ k listed a w, PSt Γ ops S idx G L listed a w → unl ops listed = k + 1 → i ∈ Region.ready .any ops listed → wpOp P ops Q i (wpAny P .any ops Q k (listed.setIfInBounds i true)) a w := by
    intro k listed a w hp hk hir
    obtain ⟨_, hif, o', ho', hed⟩ := (ready_iff i).1 hir
    rw [hoi] at ho'; cases ho'
    have hls : i < listed.size := by rw [hp.sz]; exact his
    obtain ⟨k', e1, e2⟩ := unl_set hp.sz his hif hk
    obtain rfl : k = k' := by omega
    have hforced : ∀ c ∈ idx, c ∉ idx' → listed.getD c false = true := by
      intro c hc hn
      have := hforce c hc
      simp only [Bool.or_eq_true, Bool.and_eq_true, List.contains_iff_mem] at this
      rcases this with h1 | ⟨_, h1⟩
      · exact absurd h1 hn
      · exact before_done hp.cl i (fun o' ho' e he hb => by
          rw [hoi] at ho'; cases ho'
          exact hed e.on (List.mem_map.2 ⟨e, List.mem_filter.2 ⟨Array.mem_toList_iff.2 he, hb⟩, rfl⟩)) c h1
    have hidx' : ∀ b ∈ idx', b ∈ idx ∧ ∃ t ob, dstAt ops b = some t ∧ ops[b]? = some ob ∧ t ∉ ks ∧ o.dst ≠ some t ∧ ∀ d, o.dst = some d → d ∉ rd ops ob := by
      intro b hb
      have := hidx b hb
      rw [List.contains_iff_mem] at this
      obtain ⟨⟨h1, h2⟩, h3⟩ := this
      cases ht : dstAt ops b with
      | none => simp [ht] at h2
      | some t =>
        cases hob : ops[b]? with
        | none => simp [hob] at h3
        | some ob =>
          simp only [ht, hob, Bool.and_eq_true, Bool.not_eq_true'] at h2 h3
          refine ⟨h1, t, ob, rfl, rfl, by simpa using h2.1, fun e => by rw [e] at h2; simp at h2, fun d hd => by rw [hd] at h3; simpa using h3⟩
    have hstK : St Γ (keep ks G) L a w := by
      refine ⟨hp.ws, hp.nt, hp.df, fun x s hx => ?_⟩
      obtain ⟨h1, h2⟩ := look_keep hx
      refine hp.fr x s h2 fun b hb hbf hbx => ?_
      by_cases hbi : b ∈ idx'
      · obtain ⟨_, t, _, ht, _, h3, _⟩ := hidx' b hbi
        rw [hbx] at ht; cases ht
        exact h3 h1
      · rw [hforced b hb hbi] at hbf; cases hbf
    unfold wpOp
    simp only [hoi]
    rw [if_pos (by simp [Region.wanted, hgn])]
    refine .inl (hop a w _ Q hstK fun v w' sv L' hR hs hrel => ?_)
    refine (h sv L' hR).go k _ _ _ ⟨by simpa using hp.sz, fun j hj hjS => ?_, fun j hj => ?_, hp.cl.set hls hoi hed, hs.ws, ?_, ?_, fun x s hx hno => ?_⟩ e2
    · rw [getD_setB _ _ hls]
      split
      · rfl
      · have := hS' j (by simpa using hjS)
        simp only [Bool.or_eq_true, Bool.and_eq_true, List.contains_iff_mem, Nat.beq_eq_true_eq, Bool.not_eq_true'] at this
        rcases this with (h1 | h1) | h1
        · exact hp.lo j hj h1
        · rename_i hne; exact absurd (by simpa using h1) hne
        · exact hforced j h1.1 (by have := h1.2; simpa using this)
    · rw [getD_setB _ _ hls] at hj
      split at hj
      · rename_i e; subst e; exact .inl (by simpa using hiS')
      · rcases hp.hi j hj with h1 | h1
        · have := hSS j h1; exact .inl (by simpa using this)
        · by_cases hji : j ∈ idx'
          · exact .inr hji
          · have := hforce j h1
            simp only [Bool.or_eq_true, Bool.and_eq_true, List.contains_iff_mem] at this
            rcases this with h2 | h2
            · exact absurd h2 hji
            · exact .inl h2.1
    · cases hd : o.dst with
      | none => exact hp.nt
      | some d => simpa [Act.put] using hp.nt
    · cases hd : o.dst with
      | none => exact hp.df
      | some d => exact hp.df
    · have hold : ∀ x s, look G x = some s → o.dst ≠ some x → (∀ b ∈ idx', (listed.setIfInBounds i true).getD b false = false → dstAt ops b ≠ some x) → Rel (ZL Γ.Z L') w' s (a.tmps.getD x undef) := by
        intro x s hx hne hno
        refine hs.rel (hp.fr x s hx fun b hb hbf hbx => ?_)
        by_cases hbi : b ∈ idx'
        · refine hno b hbi ?_ hbx
          rw [getD_setB _ _ hls]
          split
          · rename_i e; subst e; simp [hb] at hii
          · exact hbf
        · rw [hforced b hb hbi] at hbf; cases hbf
      cases hd : o.dst with
      | none =>
        rw [hd] at hx
        exact hold x s hx (by simp [hd]) hno
      | some d =>
        rw [hd] at hx
        have hpd : d < a.tmps.size := by rw [hp.nt]; exact Nat.le_of_ble_eq_true (hlt d hd)
        show Rel _ _ _ ((a.tmps.setIfInBounds d v).getD x undef)
        rw [getD_set _ _ _ _ hpd]
        simp only [look] at hx
        cases hb : Nat.beq d x with
        | true =>
          rw [hb] at hx
          simp only [cond_true, Option.some.injEq] at hx
          subst hx
          have := Nat.eq_of_beq_eq_true hb
          subst this
          simpa using hrel
        | false =>
          rw [hb] at hx
          have hne : ¬ x = d := fun e => by subst e; simp at hb
          rw [if_neg hne]
          exact hold x s hx (by rw [hd]; intro e; cases e; exact hne rfl) hno
  refine jp_run hok hlp hre (fun j k listed a w hp hk hj hji => ?_) (fun k listed a w hp hk hal => ?_)
  · obtain ⟨hjs, hjf, oj, hoj, hed⟩ := (ready_iff j).1 hj
    have hjS : j ∉ S := fun hm => by
      have := hp.lo j hjs hm
      rw [← getD_tf (by rw [hp.sz]; exact hjs), hjf] at this; cases this
    by_cases hji' : j = i
    · subst hji'; exact turn k listed a w hp hk hj
    · exfalso
      have := honly j (List.mem_range.2 hjs)
      simp only [Bool.or_eq_true, List.contains_iff_mem, Nat.beq_eq_true_eq, hoj] at this
      rcases this with ((h1 | h1) | h1) | h1
      · exact hjS h1
      · exact hji h1
      · exact hji' (by simpa using h1)
      · obtain ⟨e, he, h2⟩ := List.any_eq_true.1 h1
        simp only [Bool.and_eq_true, Bool.not_eq_true'] at h2
        rcases hp.hi e (hed e he) with h3 | h3
        · simp [h3] at h2
        · simp [h3] at h2
  · have hiF : listed.getD i false = false := by
      cases hq : listed.getD i false with
      | false => rfl
      | true =>
        rcases hp.hi i hq with h1 | h1
        · simp [h1] at hiS
        · simp [h1] at hii
    have hir : i ∈ Region.ready .any ops listed := (ready_iff i).2 ⟨his, by rw [getD_tf (by rw [hp.sz]; exact his)]; exact hiF, o, hoi, fun e he => by
      have := hdi e he
      simp only [Bool.and_eq_true, Bool.or_eq_true, List.contains_iff_mem] at this
      rcases this.2 with h1 | h1
      · exact hp.lo e (Nat.le_of_ble_eq_true this.1) h1
      · exact hal e h1⟩
    obtain ⟨k', e1, _⟩ := unl_set hp.sz his (by rw [getD_tf (by rw [hp.sz]; exact his)]; exact hiF) hk
    subst e1
    refine ⟨fun hnil => by rw [hnil] at hir; simp at hir, fun j hj => ?_⟩
    obtain ⟨hjs, hjf, oj, hoj, hed⟩ := (ready_iff j).1 hj
    have hjS : j ∉ S := fun hm => by
      have := hp.lo j hjs hm
      rw [← getD_tf (by rw [hp.sz]; exact hjs), hjf] at this; cases this
    have hji : j ∉ idx := fun hm => by
      have := hal j hm
      rw [← getD_tf (by rw [hp.sz]; exact hjs), hjf] at this; cases this
    by_cases hji' : j = i
    · subst hji'; exact turn _ listed a w hp hk hj
    · exfalso
      have := honly j (List.mem_range.2 hjs)
      simp only [Bool.or_eq_true, List.contains_iff_mem, Nat.beq_eq_true_eq, hoj] at this
      rcases this with ((h1 | h1) | h1) | h1
      · exact hjS h1
      · exact hji h1
      · exact hji' (by simpa using h1)
      · obtain ⟨e, he, h2⟩ := List.any_eq_true.1 h1
        simp only [Bool.and_eq_true, Bool.not_eq_true'] at h2
        rcases hp.hi e (hed e he) with h3 | h3
        · simp [h3] at h2
        · simp [h3] at h2

/-- The look at the end: those below n are done, or may be; what is left waits for all of them. -/
def okClose (ops : Array Oper) (S idx : List Nat) (n : Nat) : Bool :=
  Nat.ble n ops.size && ((List.range n).all fun i => S.contains i || idx.contains i) && (S.all fun i => Nat.blt i n) && (idx.all fun i => Nat.blt i n) &&
  ((List.range' n (ops.size - n)).all fun j => idx.all fun b => ((Region.before ops).getD j 0).testBit b)

theorem JP.close {S idx : List Nat} {lp : List Oper} (n : Nat) (hc : (okIdx ops S idx && okClose ops S idx n) = true) (hlp : idx.map (ops[·]?) = lp.map some) (hre : SegC P Γ ops L G lp (Ag G lp.length)) (h : JD P Γ ops Q n G L) : JP P Γ ops Q S idx G L := by
  rw [Bool.and_eq_true] at hc
  obtain ⟨hok, hcl⟩ := hc
  unfold okClose at hcl
  simp only [Bool.and_eq_true, List.all_eq_true] at hcl
  obtain ⟨⟨⟨⟨h1, h2⟩, h3⟩, h4⟩, h5⟩ := hcl
  have hn := Nat.le_of_ble_eq_true h1
  have fin : ∀ k listed a w, PSt Γ ops S idx G L listed a w → unl ops listed = k → (∀ b ∈ idx, listed.getD b false = true) → wpAny P .any ops Q k listed a w := by
    intro k listed a w hp hk hal
    have hup : Up ops n listed := by
      refine ⟨hp.sz, fun i hi => ?_⟩
      rw [getD_tf (by rw [hp.sz]; exact hi)]
      by_cases hin : i < n
      · have := h2 i (List.mem_range.2 hin)
        simp only [Bool.or_eq_true, List.contains_iff_mem] at this
        rw [decide_eq_true hin]
        rcases this with h | h
        · exact hp.lo i hi h
        · exact hal i h
      · rw [decide_eq_false hin]
        cases hq : listed.getD i false with
        | false => rfl
        | true =>
          exfalso
          rcases hp.hi i hq with h | h
          · exact hin (Nat.le_of_ble_eq_true (h3 i h))
          · exact hin (Nat.le_of_ble_eq_true (h4 i h))
    have hk' : k = ops.size - n := by
      rw [← hk]
      unfold unl
      have : ((List.range ops.size).filter fun i => !listed.getD i true) = (List.range ops.size).filter fun i => decide (n ≤ i) := by
        refine List.filter_congr fun i hi => ?_
        rw [hup.2 i (List.mem_range.1 hi)]
        by_cases h : i < n <;> simp [h] <;> omega
      rw [this]
      have h6 : List.range ops.size = List.range n ++ List.range' n (ops.size - n) := by
        rw [List.range_eq_range', List.range_eq_range']
        have := List.range'_append_1 (s := 0) (m := n) (n := ops.size - n)
        rw [Nat.zero_add] at this
        rw [this]; congr 1; omega
      rw [h6, List.filter_append, List.filter_eq_nil_iff.2, List.filter_eq_self.2]
      · simp
      · intro i hi; rw [List.mem_range'_1] at hi; simp; omega
      · intro i hi; have := List.mem_range.1 hi; simp; omega
    rw [hk']
    exact h.go a w listed hup ⟨hp.ws, hp.nt, hp.df, fun x s hx => hp.fr x s hx fun b hb hbf _ => by rw [hal b hb] at hbf; cases hbf⟩
  refine jp_run hok hlp hre (fun j k listed a w hp hk hj hji => ?_) fin
  obtain ⟨hjs, hjf, oj, hoj, hed⟩ := (ready_iff j).1 hj
  have hjn : n ≤ j := by
    apply Nat.le_of_not_lt
    intro hlt
    have := h2 j (List.mem_range.2 hlt)
    simp only [Bool.or_eq_true, List.contains_iff_mem] at this
    rcases this with h | h
    · have := hp.lo j hjs h
      rw [← getD_tf (by rw [hp.sz]; exact hjs), hjf] at this; cases this
    · exact hji h
  have hallidx : ∀ b ∈ idx, listed.getD b false = true := fun b hb => by
    have := h5 j (by rw [List.mem_range'_1]; omega) b hb
    exact before_done hp.cl j (fun o' ho' e he hb => by
      rw [hoj] at ho'; cases ho'
      exact hed e.on (List.mem_map.2 ⟨e, List.mem_filter.2 ⟨Array.mem_toList_iff.2 he, hb⟩, rfl⟩)) b this
  exact (fin (k + 1) listed a w hp hk hallidx).2 j hj

-- over a region's list

def opsAt (l : List Oper) : List Nat → List Oper
  | [] => []
  | i :: r => match l[i]? with
    | some o => o :: opsAt l r
    | none => opsAt l r

theorem opsAt_map {l : List Oper} : ∀ {idx : List Nat}, (idx.all fun b => (l[b]?).isSome) = true → idx.map (l.toArray[·]?) = (opsAt l idx).map some ∧ (opsAt l idx).length = idx.length
  | [], _ => ⟨rfl, rfl⟩
  | i :: r, h => by
    simp only [List.all_cons, Bool.and_eq_true] at h
    obtain ⟨h1, h2⟩ := opsAt_map h.2
    cases ho : l[i]? with
    | none => rw [ho] at h; simp at h
    | some o =>
      simp only [List.getElem?_toArray] at h1 ⊢
      exact ⟨by simp only [opsAt, ho, List.map_cons, h1], by simp only [opsAt, ho, List.length_cons, h2]⟩

theorem okIdx_some {l : List Oper} {S idx : List Nat} (h : okIdx l.toArray S idx = true) : (idx.all fun b => (l[b]?).isSome) = true := by
  refine List.all_eq_true.2 fun b hb => ?_
  have := List.all_eq_true.1 h b hb
  cases ho : l[b]? with
  | none => simp [ho] at this
  | some o => rfl

variable {l : List Oper} {S idx : List Nat}
theorem JP.more (new : List Nat) (idx' : List Nat) (hi : idx ++ new = idx') (hc : (new.all fun b => !S.contains b && !idx.contains b && (l[b]?).isSome) = true) (h : SegC P Γ l.toArray L G (opsAt l new) (fun G' => JP P Γ l.toArray Q S idx' G' L)) : JP P Γ l.toArray Q S idx G L := by
  have hc' := List.all_eq_true.1 hc
  refine JP.add new idx' hi (List.all_eq_true.2 fun b hb => ?_) (opsAt_map (List.all_eq_true.2 fun b hb => ?_)).1 h
  · have := hc' b hb; rw [Bool.and_eq_true] at this; exact this.1
  · have := hc' b hb; rw [Bool.and_eq_true] at this; exact this.2

theorem JP.do1 {d : Nat} {op : Op} {ty : TypeId} {pos : String} {aft : Array Edge} {g : Option (Nat × Bool)} {R : SV → List Own → Prop} (i : Nat) (ks S' idx' : List Nat) (hc : (okIdx l.toArray S idx && okStep l.toArray S idx i ks S' idx') = true) (hoi : l[i]? = some ⟨some d, op, ty, pos, aft, g⟩)
    (hre : SegC P Γ l.toArray L G (opsAt l idx) (Ag G idx.length)) (hop : OpS P Γ ⟨some d, op, ty, pos, aft, g⟩ (keep ks G) L R) (hlt : Nat.blt d Γ.nt = true)
    (h : ∀ sv L', R sv L' → JP P Γ l.toArray Q S' idx' ((d, sv) :: G) L') : JP P Γ l.toArray Q S idx G L := by
  obtain ⟨h1, h2⟩ := opsAt_map (okIdx_some (Bool.and_eq_true_iff.1 hc).1)
  exact JP.op i ks S' idx' hc h1 (by simpa using hoi) (by rw [h2]; exact hre) hop (fun d' hd => by cases hd; exact hlt) h

theorem JP.do0 {op : Op} {ty : TypeId} {pos : String} {aft : Array Edge} {g : Option (Nat × Bool)} {R : SV → List Own → Prop} (i : Nat) (ks S' idx' : List Nat) (hc : (okIdx l.toArray S idx && okStep l.toArray S idx i ks S' idx') = true) (hoi : l[i]? = some ⟨none, op, ty, pos, aft, g⟩)
    (hre : SegC P Γ l.toArray L G (opsAt l idx) (Ag G idx.length)) (hop : OpS P Γ ⟨none, op, ty, pos, aft, g⟩ (keep ks G) L R)
    (h : ∀ sv L', R sv L' → JP P Γ l.toArray Q S' idx' G L') : JP P Γ l.toArray Q S idx G L := by
  obtain ⟨h1, h2⟩ := opsAt_map (okIdx_some (Bool.and_eq_true_iff.1 hc).1)
  exact JP.op i ks S' idx' hc h1 (by simpa using hoi) (by rw [h2]; exact hre) hop (fun d' hd => by cases hd) h

theorem JP.store {ty : TypeId} {pos : String} {aft : Array Edge} {g : Option (Nat × Bool)} {T b o : Nat} [hT : TSc P T] {x y : Operand} (i : Nat) (ks S' idx' : List Nat) (hc : (okIdx l.toArray S idx && okStep l.toArray S idx i ks S' idx') = true) (hoi : l[i]? = some ⟨none, .store T x y, ty, pos, aft, g⟩)
    (hre : SegC P Γ l.toArray L G (opsAt l idx) (Ag G idx.length)) (hx : ev (keep ks G) x = some (.val (.pointer (some ⟨b, o, none⟩)))) {s : SV} (hy : ev (keep ks G) y = some s) (h1 : One s) (j : Nat) {T' : TypeId} {cs cs' : List SV} {L' : List Own}
    (hj : L[j]? = some (.obj b T' cs)) (ho : Nat.blt o cs.length = true) (hcs : cs.set o s = cs') (hL : L.set j (.obj b T' cs') = L') (k : JP P Γ l.toArray Q S' idx' G L') : JP P Γ l.toArray Q S idx G L :=
  JP.do0 i ks S' idx' hc hoi hre (OpS.store hx hy h1 j hj (Nat.le_of_ble_eq_true ho)) (by rintro sv L'' rfl; rw [hcs, hL]; exact k)

theorem JP.storeAll {ty : TypeId} {pos : String} {aft : Array Edge} {g : Option (Nat × Bool)} {T b n : Nat} [hT : TAg P T n] {x y : Operand} (i : Nat) (ks S' idx' : List Nat) (hc : (okIdx l.toArray S idx && okStep l.toArray S idx i ks S' idx') = true) (hoi : l[i]? = some ⟨none, .store T x y, ty, pos, aft, g⟩)
    (hre : SegC P Γ l.toArray L G (opsAt l idx) (Ag G idx.length)) (hx : ev (keep ks G) x = some (.val (.pointer (some ⟨b, 0, none⟩)))) {ds : List SV} (hy : ev (keep ks G) y = some (.agg ds)) (hn' : Nat.beq ds.length n = true) (j : Nat) {T' : TypeId} {cs : List SV} {L' : List Own}
    (hj : L[j]? = some (.obj b T' cs)) (hcs : Nat.beq cs.length n = true) (hL : L.set j (.obj b T' ds) = L') (k : JP P Γ l.toArray Q S' idx' G L') : JP P Γ l.toArray Q S idx G L := by
  have hn := Nat.eq_of_beq_eq_true hn'
  have hcn := Nat.eq_of_beq_eq_true hcs
  refine JP.do0 i ks S' idx' hc hoi hre (OpS.storeAg hx hy hn j hj (by omega)) (by
    rintro sv L'' rfl
    have : cs.take 0 ++ ds ++ cs.drop (0 + ds.length) = ds := by
      rw [List.take_zero, List.nil_append, Nat.zero_add, List.drop_eq_nil_of_le (by omega), List.append_nil]
    rw [this, hL]; exact k)

/-- The end: what is left stands in order. -/
theorem JP.tail {l' : List Oper} (n : Nat) (hc : (okIdx l.toArray S idx && okClose l.toArray S idx n) = true) (hc2 : chkTail l.toArray n = true) (hle : Nat.ble n l.length = true) (hl : l.drop n = l')
    (hre : SegC P Γ l.toArray L G (opsAt l idx) (Ag G idx.length)) (h : J P Γ l.toArray Q G L l') : JP P Γ l.toArray Q S idx G L := by
  obtain ⟨h1, h2⟩ := opsAt_map (okIdx_some (Bool.and_eq_true_iff.1 hc).1)
  exact JP.close n hc h1 (by rw [h2]; exact hre) (JD.tail hc2 (by simpa using hle) (by simpa using hl) h)

/-- A row that is let go. -/
theorem JP.freeze (i : Nat) {v : Value} {E sz n : Nat} {el : Nat → List SV} (hi : look G i = some (.val v)) (hfr : (idx.all fun b => !(dstAt l.toArray b == some i)) = true) (hmax : n ≤ maxLen) (h : JP P Γ l.toArray Q S idx ((i, .sl sz n el) :: G) L) : JP P Γ l.toArray Q S idx G (.row v E sz n el :: L) := by
  refine ⟨fun k listed a w hp hk => ?_⟩
  have hst : St Γ [(i, .val v)] (.row v E sz n el :: L) a w := by
    refine ⟨hp.ws, hp.nt, hp.df, fun x s hx => ?_⟩
    simp only [look] at hx
    cases hb : Nat.beq i x with
    | false => rw [hb] at hx; simp at hx
    | true =>
      rw [hb] at hx
      simp only [cond_true, Option.some.injEq] at hx
      subst hx
      obtain rfl := Nat.eq_of_beq_eq_true hb
      refine hp.fr i _ hi fun b hb _ he => ?_
      have := List.all_eq_true.1 hfr b hb
      rw [he] at this; simp at this
  have hst' := St.freeze (i := i) hst (by simp [look]) hmax
  have hd : Step Γ (.row v E sz n el :: L) L w w := Step.drop hp.ws (List.sublist_cons_self _ _)
  refine h.go k listed a w ⟨hp.sz, hp.lo, hp.hi, hp.cl, hd.ws, hp.nt, hp.df, fun x s hx hno => ?_⟩ hk
  simp only [look] at hx
  cases hb : Nat.beq i x with
  | false =>
    rw [hb] at hx
    exact hd.rel (hp.fr x s hx hno)
  | true =>
    rw [hb] at hx
    obtain rfl := Nat.eq_of_beq_eq_true hb
    exact hst'.fr i s (by simp only [look, hb]; exact hx)
end
end Go.Sse
