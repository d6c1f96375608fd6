/-
  Lemmas for the claim, part 2.
-/
import Derived.Test.YtlfdhkahiaammaaGreatDoorBlockCodesPa
namespace Go.Sse
open Go Go.Sse
set_option linter.unusedVariables false
set_option linter.unusedSimpArgs false
section
variable {P : Program} {Γ : Ctx} {ops : Array Oper} {Q : Exit → Act → World → Prop} {F G : List (Nat × SV)} {L : List Own}
def depsOf (o : Oper) : List Nat := (o.after.toList.filter (Region.binds .any)).map (·.on)
def okIdx (ops : Array Oper) (S idx : List Nat) : Bool :=
  idx.all fun b => match ops[b]? with
    | none => false
    | some o => o.dst.isSome && ((depsOf o).all fun e => Nat.blt e b && (S.contains e || idx.contains e)) &&
      (idx.all fun q => match dstAt ops q with
        | none => false
        | some t => (Nat.beq q b && !(rd ops o).contains t) || (!Nat.beq q b && !(dstAt ops b == some t) && (!(rd ops o).contains t || (depsOf o).contains q)))
def okStep (ops : Array Oper) (S idx : List Nat) (i : Nat) (ks S' idx' : List Nat) : Bool :=
  match ops[i]? with
  | none => false
  | some o => !S.contains i && !idx.contains i && o.guard.isNone && ((depsOf o).all fun e => Nat.blt e ops.size && (S.contains e || idx.contains e)) &&
    ((List.range ops.size).all fun j => S.contains j || idx.contains j || Nat.beq j i || (match ops[j]? with | none => false | some oj => (depsOf oj).any fun e => !S.contains e && !idx.contains e)) &&
    (o.op.operands.toList.all fun x => match x with | .tmp t => ks.contains t | _ => true) &&
    (idx'.all fun b => idx.contains b && (match dstAt ops b with | none => false | some t => !ks.contains t && !(o.dst == some t)) && (match ops[b]? with | none => false | some ob => match o.dst with | none => true | some t => !(rd ops ob).contains t)) &&
    (idx.all fun c => idx'.contains c || (S'.contains c && ((Region.before ops).getD i 0).testBit c)) &&
    (S.all fun s => S'.contains s) && S'.contains i && (S'.all fun s => S.contains s || Nat.beq s i || (idx.contains s && !idx'.contains s))
structure PSt (Γ : Ctx) (ops : Array Oper) (S idx : List Nat) (G : List (Nat × SV)) (L : List Own) (listed : Array Bool) (a : Act) (w : World) : Prop where
  sz : listed.size = ops.size
  lo : ∀ i, i < ops.size → i ∈ S → listed.getD i false = true
  hi : ∀ i, listed.getD i false = true → i ∈ S ∨ i ∈ idx
  cl : Closed ops (fun i => listed.getD i false)
  ws : WSt Γ L w
  nt : a.tmps.size = Γ.nt
  df : a.defers = Γ.df
  fr : ∀ x s, look G x = some s → (∀ b ∈ idx, listed.getD b false = false → dstAt ops b ≠ some x) → Rel (ZL Γ.Z L) w s (a.tmps.getD x undef)
def unl (ops : Array Oper) (listed : Array Bool) : Nat := ((List.range ops.size).filter fun i => !listed.getD i true).length
structure JP (P : Program) (Γ : Ctx) (ops : Array Oper) (Q : Exit → Act → World → Prop) (S idx : List Nat) (G : List (Nat × SV)) (L : List Own) : Prop where
  go : ∀ k listed a w, PSt Γ ops S idx G L listed a w → unl ops listed = k → wpAny P .any ops Q k listed a w
def Ag (G : List (Nat × SV)) : Nat → List (Nat × SV) → Prop
  | 0, _ => True
  | _ + 1, [] => False
  | n + 1, p :: r => look G p.1 = some p.2 ∧ Ag G n r
theorem Ag.nil {R : List (Nat × SV)} : Ag G 0 R := trivial
theorem Ag.cons {n d : Nat} {s : SV} {r : List (Nat × SV)} (h : look G d = some s) (hr : Ag G n r) : Ag G (n + 1) ((d, s) :: r) := ⟨h, hr⟩
theorem pushAll_eq : ∀ (items F : List (Nat × SV)), pushAll F items = items.reverse ++ F
  | [], F => rfl
  | p :: r, F => by simp [pushAll, pushAll_eq r]
theorem Ag.mem : ∀ {n : Nat} {R T : List (Nat × SV)}, R.length = n → Ag G n (R ++ T) → ∀ p ∈ R, look G p.1 = some p.2
  | _, [], _, _, _, p, hp => by simp at hp
  | n, q :: R, T, hn, h, p, hp => by
    subst hn
    simp only [List.length_cons, List.cons_append] at h
    rcases List.mem_cons.1 hp with rfl | hp
    · exact h.1
    · exact Ag.mem rfl h.2 p hp
theorem SegL.at : ∀ {l : List Oper} {items F : List (Nat × SV)}, SegL P Γ ops L F l items → items.length = l.length ∧ ∀ j o, l[j]? = some o → ∃ p, items[j]? = some p ∧ o.dst = some p.1 ∧ Nat.blt p.1 Γ.nt = true ∧ Item P Γ ops (pushAll F (items.take j)) L o p.2
  | _, _, _, .nil => ⟨rfl, by simp⟩
  | _, _, _, .cons hd hlt hi hr => by
    obtain ⟨h1, h2⟩ := hr.at
    refine ⟨by simp [h1], fun j o ho => ?_⟩
    cases j with
    | zero => simp at ho; subst ho; exact ⟨_, rfl, hd, hlt, hi⟩
    | succ j =>
      obtain ⟨p, hp, e1, e2, e3⟩ := h2 j o (by simpa using ho)
      exact ⟨p, by simpa using hp, e1, e2, by simpa [pushAll] using e3⟩
theorem getD_tf {l : Array Bool} {i : Nat} (h : i < l.size) : l.getD i true = l.getD i false := by
  simp [Array.getD_eq_getD_getElem?, Array.getElem?_eq_getElem h]
theorem getD_setB (l : Array Bool) (i : Nat) (hi : i < l.size) (d : Bool) (j : Nat) : (l.setIfInBounds i true).getD j d = if j = i then true else l.getD j d := by
  simp only [Array.getD_eq_getD_getElem?, Array.getElem?_setIfInBounds]
  by_cases hji : i = j
  · subst hji; simp [hi]
  · have : ¬ j = i := fun e => hji e.symm
    simp [hji, this]
theorem ready_iff {listed : Array Bool} (i : Nat) : i ∈ Region.ready .any ops listed ↔ i < ops.size ∧ listed.getD i true = false ∧ ∃ o, ops[i]? = some o ∧ ∀ e ∈ depsOf o, listed.getD e false = true := by
  unfold Region.ready
  simp only [List.mem_filter, List.mem_range, Bool.and_eq_true, Bool.not_eq_true']
  constructor
  · rintro ⟨h1, h2, h3⟩
    refine ⟨h1, h2, ?_⟩
    cases ho : ops[i]? with
    | none => simp [ho] at h3
    | some o =>
      simp only [ho, Option.map_some, Option.getD_some] at h3
      refine ⟨o, rfl, fun e he => ?_⟩
      obtain ⟨ed, hed, rfl⟩ := List.mem_map.1 he
      rw [List.mem_filter] at hed
      have := (Array.all_eq_true_iff_forall_mem.1 h3) ed (Array.mem_toList_iff.1 hed.1)
      simpa [hed.2] using this
  · rintro ⟨h1, h2, o, ho, h3⟩
    refine ⟨h1, h2, ?_⟩
    simp only [ho, Option.map_some, Option.getD_some]
    refine Array.all_eq_true_iff_forall_mem.2 fun e he => ?_
    cases hb : Region.binds .any e with
    | false => simp
    | true => simpa using h3 e.on (List.mem_map.2 ⟨e, List.mem_filter.2 ⟨Array.mem_toList_iff.2 he, hb⟩, rfl⟩)
theorem unl_set {listed : Array Bool} {i k : Nat} (hsz : listed.size = ops.size) (hi : i < ops.size) (hf : listed.getD i true = false) (hk : unl ops listed = k) : ∃ k', k = k' + 1 ∧ unl ops (listed.setIfInBounds i true) = k' := by
  unfold unl at *
  have hmem : i ∈ (List.range ops.size).filter fun i => !listed.getD i true := by
    rw [List.mem_filter, List.mem_range]; exact ⟨hi, by simp [hf]⟩
  have hnd : ((List.range ops.size).filter fun i => !listed.getD i true).Nodup := List.Sublist.nodup List.filter_sublist List.nodup_range
  have hfe2 : ((List.range ops.size).filter fun j => !(listed.setIfInBounds i true).getD j true) = ((List.range ops.size).filter fun i => !listed.getD i true).erase i := by
    rw [hnd.erase_eq_filter, List.filter_filter]
    refine List.filter_congr fun j _ => ?_
    rw [getD_setB _ _ (by omega)]
    by_cases hji : j = i
    · subst hji; simp
    · simp [hji]
  have hpos := List.length_pos_of_mem hmem
  refine ⟨k - 1, by omega, ?_⟩
  rw [hfe2, List.length_erase_of_mem hmem, hk]
theorem Closed.set {listed : Array Bool} {i : Nat} (h : Closed ops (fun i => listed.getD i false)) (hi : i < listed.size) {o : Oper} (ho : ops[i]? = some o) (hd : ∀ e ∈ depsOf o, listed.getD e false = true) : Closed ops (fun j => (listed.setIfInBounds i true).getD j false) := by
  intro j oj hoj hS e hem hbe
  simp only [getD_setB _ _ hi] at hS ⊢
  split
  · rfl
  · by_cases hji : j = i
    · subst hji
      rw [ho] at hoj; cases hoj
      exact hd e.on (List.mem_map.2 ⟨e, List.mem_filter.2 ⟨Array.mem_toList_iff.2 hem, hbe⟩, rfl⟩)
    · rw [if_neg hji] at hS
      exact h j oj hoj hS e hem hbe
theorem jp_run {S idx : List Nat} {lp : List Oper} (hok : okIdx ops S idx = true) (hlp : idx.map (ops[·]?) = lp.map some) (hre : SegC P Γ ops L G lp (Ag G lp.length))
    (hother : ∀ j k listed a w, PSt Γ ops S idx G L listed a w → unl ops listed = k + 1 → j ∈ Region.ready .any ops listed → j ∉ idx → wpOp P ops Q j (wpAny P .any ops Q k (listed.setIfInBounds j true)) a w)
    (hall : ∀ k listed a w, PSt Γ ops S idx G L listed a w → unl ops listed = k → (∀ b ∈ idx, listed.getD b false = true) → wpAny P .any ops Q k listed a w) : JP P Γ ops Q S idx G L := by
  obtain ⟨items, hseg, hag⟩ := hre
  obtain ⟨hlen, hat⟩ := hseg.at
  rw [pushAll_eq] at hag
  have hag' : ∀ p ∈ items, look G p.1 = some p.2 := fun p hp => Ag.mem (by simp [hlen]) hag p (by simpa using hp)
  have hokb := List.all_eq_true.1 hok
  have hspec : ∀ b ∈ idx, ∃ o, ops[b]? = some o ∧ o.dst.isSome = true ∧ (∀ e ∈ depsOf o, e < b ∧ (e ∈ S ∨ e ∈ idx)) ∧ ∀ q ∈ idx, ∃ t, dstAt ops q = some t ∧ (q = b ∧ t ∉ rd ops o ∨ q ≠ b ∧ dstAt ops b ≠ some t ∧ (t ∈ rd ops o → q ∈ depsOf o)) := by
    intro b hb
    have h1 := hokb b hb
    cases ho : ops[b]? with
    | none => simp [ho] at h1
    | some o =>
      simp only [ho, Bool.and_eq_true, List.all_eq_true] at h1
      obtain ⟨⟨h2, h3⟩, h4⟩ := h1
      refine ⟨o, rfl, h2, fun e he => ?_, fun q hq => ?_⟩
      · have := h3 e he
        simp only [Bool.or_eq_true, List.contains_iff_mem] at this
        exact ⟨Nat.le_of_ble_eq_true this.1, this.2⟩
      · have := h4 q hq
        cases ht : dstAt ops q with
        | none => simp [ht] at this
        | some t =>
          refine ⟨t, rfl, ?_⟩
          simp only [ht, Bool.or_eq_true, Bool.and_eq_true, Bool.not_eq_true', Nat.beq_eq_true_eq, List.contains_iff_mem] at this
          rcases this with ⟨h5, h6⟩ | ⟨⟨h5, h6⟩, h7⟩
          · exact .inl ⟨by simpa using h5, by simpa using h6⟩
          · refine .inr ⟨by intro e; subst e; simp at h5, by intro e; rw [e] at h6; simp at h6, fun hm => ?_⟩
            rcases h7 with h7 | h7
            · exact absurd hm (by simpa using h7)
            · exact h7
  have hpos : ∀ b ∈ idx, ∃ j, idx[j]? = some b := fun b hb => List.mem_iff_getElem?.1 hb
  refine ⟨fun k => ?_⟩
  induction k with
  | zero =>
    intro listed a w hp hk
    refine hall 0 listed a w hp hk fun b hb => ?_
    obtain ⟨o, ho, _⟩ := hspec b hb
    have hbs : b < ops.size := (Array.getElem?_eq_some_iff.1 ho).1
    cases hq : listed.getD b false with
    | true => rfl
    | false =>
      obtain ⟨k', h, _⟩ := unl_set hp.sz hbs (by rw [getD_tf (by rw [hp.sz]; exact hbs)]; exact hq) hk
      omega
  | succ k ih =>
    intro listed a w hp hk
    by_cases hal : ∀ b ∈ idx, listed.getD b false = true
    · exact hall _ listed a w hp hk hal
    have hex : ∃ b ∈ idx, listed.getD b false = false := by
      refine Classical.byContradiction fun hn => hal fun b hb => ?_
      cases hq : listed.getD b false with
      | true => rfl
      | false => exact absurd ⟨b, hb, hq⟩ hn
    constructor
    · intro hnil
      exfalso
      have : ∃ b ∈ idx, listed.getD b false = false ∧ ∀ c ∈ idx, c < b → listed.getD c false = true := by
        obtain ⟨b, hb⟩ := hex
        induction b using Nat.strongRecOn with
        | _ b ih2 =>
          by_cases hl : ∃ c ∈ idx, c < b ∧ listed.getD c false = false
          · obtain ⟨c, hc, hcb, hcf⟩ := hl
            exact ih2 c hcb ⟨hc, hcf⟩
          · refine ⟨b, hb.1, hb.2, fun c hc hcb => ?_⟩
            cases hq : listed.getD c false with
            | true => rfl
            | false => exact absurd ⟨c, hc, hcb, hq⟩ hl
      obtain ⟨b, hb, hbf, hmin⟩ := this
      obtain ⟨o, ho, _, hde, _⟩ := hspec b hb
      have hbs : b < ops.size := (Array.getElem?_eq_some_iff.1 ho).1
      have : b ∈ Region.ready .any ops listed := (ready_iff b).2 ⟨hbs, by rw [getD_tf (by rw [hp.sz]; exact hbs)]; exact hbf, o, ho, fun e he => by
        obtain ⟨h1, h2⟩ := hde e he
        rcases h2 with h2 | h2
        · exact hp.lo e (by omega) h2
        · exact hmin e h2 h1⟩
      rw [hnil] at this
      simp at this
    · intro b hb
      by_cases hbi : b ∈ idx
      · obtain ⟨hbs, hbf, o, ho, hed⟩ := (ready_iff b).1 hb
        obtain ⟨o', ho', hdst, hde, hrds⟩ := hspec b hbi
        rw [ho] at ho'; cases ho'
        obtain ⟨j, hj⟩ := hpos b hbi
        have hlj : lp[j]? = some o := by
          have := congrArg (·[j]?) hlp
          simp only [List.getElem?_map, hj, Option.map_some, ho] at this
          cases hq : lp[j]? with
          | none => rw [hq] at this; simp at this
          | some x => rw [hq] at this; simp at this; rw [this]
        obtain ⟨p, hpj, hd, hlt, hitm⟩ := hat j o hlj
        have hdb : dstAt ops b = some p.1 := by simp [dstAt, ho, hd]
        have hGp := hag' p (List.mem_of_getElem? hpj)
        have hpd : p.1 < a.tmps.size := by rw [hp.nt]; exact Nat.le_of_ble_eq_true hlt
        have hslot : ∀ t s, t ∈ rd ops o → look (pushAll G (items.take j)) t = some s → Rel (ZL Γ.Z L) w s (a.tmps.getD t undef) := by
          intro t s ht hl
          have hlG : look G t = some s := by
            rcases look_pushAll _ G t s hl with ⟨j', q, hq, rfl, rfl, _⟩ | ⟨_, h3⟩
            · rw [List.getElem?_take] at hq
              split at hq
              · exact hag' q (List.mem_of_getElem? hq)
              · simp at hq
            · exact h3
          refine hp.fr t s hlG fun q hq hqf hqt => ?_
          obtain ⟨t', ht', h4⟩ := hrds q hq
          rw [hqt] at ht'; cases ht'
          rcases h4 with ⟨_, h4⟩ | ⟨_, _, h4⟩
          · exact h4 ht
          · have := hed q (h4 ht); rw [hqf] at this; cases this
        have hops : ∀ x, x ∈ o.op.operands.toList → ∀ s, ev (pushAll G (items.take j)) x = some s → Rel (ZL Γ.Z L) w s (a.eval x) := by
          intro x hx s hs
          cases x with
          | tmp t => exact hslot t s (by unfold rd; exact List.mem_append_left _ (List.mem_filterMap.2 ⟨.tmp t, hx, rfl⟩)) hs
          | const v => simp only [ev, Option.some.injEq] at hs; subst hs; exact .val v
          | global g => simp only [ev, Option.some.injEq] at hs; subst hs; exact .val _
          | func f => simp only [ev, Option.some.injEq] at hs; subst hs; exact .val _
        have hls : b < listed.size := by rw [hp.sz]; exact hbs
        have next : ∀ v w', Step Γ L L w w' → Rel (ZL Γ.Z L) w' p.2 v → wpAny P .any ops Q k (listed.setIfInBounds b true) (a.put o.dst v) w' := by
          intro v w' hs hrel
          obtain ⟨k', e1, e2⟩ := unl_set hp.sz hbs hbf hk
          obtain rfl : k = k' := by omega
          refine ih _ _ _ ⟨by simpa using hp.sz, fun i hi hiS => ?_, fun i hi => ?_, hp.cl.set hls ho hed, hs.ws, ?_, ?_, fun x s hx hno => ?_⟩ e2
          · rw [getD_setB _ _ hls]; split
            · rfl
            · exact hp.lo i hi hiS
          · rw [getD_setB _ _ hls] at hi
            split at hi
            · rename_i e; subst e; exact .inr hbi
            · exact hp.hi i hi
          · rw [hd]; simpa [Act.put] using hp.nt
          · rw [hd]; exact hp.df
          · rw [hd]
            show Rel _ _ _ ((a.tmps.setIfInBounds p.1 v).getD x undef)
            rw [getD_set _ _ _ _ hpd]
            by_cases hxp : x = p.1
            · subst hxp
              rw [hGp] at hx; cases hx
              simpa using hrel
            · rw [if_neg hxp]
              refine hs.rel (hp.fr x s hx fun q hq hqf hqt => ?_)
              by_cases hqb : q = b
              · subst hqb; rw [hdb] at hqt; cases hqt; exact hxp rfl
              · exact hno q hq (by rw [getD_setB _ _ hls, if_neg hqb]; exact hqf) hqt
        unfold wpOp
        simp only [ho]
        have hgslot : ∀ {j' d : Nat} {want b' : Bool} {og : Oper}, o.guard = some (j', want) → ops[j']? = some og → og.dst = some d → look (pushAll G (items.take j)) d = some (.val (.bool b')) → a.tmps.getD d undef = .bool b' := by
          intro j' d want b' og hg hoj hdj hv
          refine (hslot d _ ?_ hv).val_eq
          unfold rd
          refine List.mem_append_right _ ?_
          simp [hg, hoj, hdj]
        have hgslotU : ∀ {j' d : Nat} {want : Bool} {og : Oper}, o.guard = some (j', want) → ops[j']? = some og → og.dst = some d → look (pushAll G (items.take j)) d = some (.val undef) → a.tmps.getD d undef = undef := by
          intro j' d want og hg hoj hdj hv
          refine (hslot d _ ?_ hv).val_eq
          unfold rd
          refine List.mem_append_right _ ?_
          simp [hg, hoj, hdj]
        cases hitm with
        | run hg hq =>
          rw [if_pos (by simp [Region.wanted, hg])]
          exact .inl (hq a w _ Q hp.ws hops next)
        | yes hg hoj hdj hv hb hq =>
          rw [if_pos (by rw [wanted_guard hg hoj hdj (hgslot hg hoj hdj hv)]; subst hb; simp)]
          exact .inl (hq a w _ Q hp.ws hops next)
        | no hg hoj hdj hv hb hsv =>
          rw [if_neg (by rw [wanted_guard hg hoj hdj (hgslot hg hoj hdj hv)]; subst hb; simp)]
          exact next undef w (Step.refl hp.ws) (by rcases hsv with h | h <;> rw [h] <;> first | exact .any _ | exact .val _)
        | skip hg hoj hdj hv hsv =>
          rw [if_neg (by rw [wanted_undef hg hoj hdj (hgslotU hg hoj hdj hv)]; simp)]
          exact next undef w (Step.refl hp.ws) (by rcases hsv with h | h <;> rw [h] <;> first | exact .any _ | exact .val _)
      · exact hother b k listed a w hp hk hb hbi
theorem JD.start (h : JP P Γ ops Q [] [] F L) : JD P Γ ops Q 0 F L := by
  refine ⟨fun a w listed hup hst => h.go _ listed a w ⟨hup.1, by simp, fun i hi => ?_, fun i o ho hS => ?_, hst.ws, hst.nt, hst.df, fun x s hx _ => hst.fr x s hx⟩ ?_⟩
  · exfalso
    by_cases his : i < ops.size
    · rw [← getD_tf (by rw [hup.1]; exact his), hup.2 i his] at hi; simp at hi
    · rw [Array.getD_eq_getD_getElem?, Array.getElem?_eq_none (by rw [hup.1]; omega)] at hi; simp at hi
  · exfalso
    have his : i < ops.size := (Array.getElem?_eq_some_iff.1 ho).1
    simp only at hS
    rw [← getD_tf (by rw [hup.1]; exact his), hup.2 i his] at hS; simp at hS
  · unfold unl
    rw [List.filter_eq_self.2]
    · simp
    · intro i hi
      rw [hup.2 i (List.mem_range.1 hi)]; simp
theorem JD.begin (n : Nat) (hn : Nat.beq ops.size n = true) (h : JP P Γ ops Q [] [] F L) : JD P Γ ops Q 0 F L := JD.start h
theorem JP.add {S idx : List Nat} {lnew : List Oper} (new : List Nat) (idx' : List Nat) (hi : idx ++ new = idx') (hc : (new.all fun b => !S.contains b && !idx.contains b) = true) (hl : new.map (ops[·]?) = lnew.map some)
    (h : SegC P Γ ops L G lnew (fun G' => JP P Γ ops Q S idx' G' L)) : JP P Γ ops Q S idx G L := by
  subst hi
  obtain ⟨items, hseg, hj⟩ := h
  obtain ⟨hlen, hat⟩ := hseg.at
  refine ⟨fun k listed a w hp hk => hj.go k listed a w ⟨hp.sz, hp.lo, fun i hi => (hp.hi i hi).imp id (fun h => List.mem_append_left _ h), hp.cl, hp.ws, hp.nt, hp.df, fun x s hx hno => ?_⟩ hk⟩
  rcases look_pushAll items G x s hx with ⟨j, q, hq, rfl, rfl, _⟩ | ⟨h2, h3⟩
  · exfalso
    have hjl : j < items.length := by
      rcases Nat.lt_or_ge j items.length with h | h
      · exact h
      · simp [List.getElem?_eq_none h] at hq
    have hjn : j < lnew.length := by omega
    obtain ⟨p, hp', hd, _⟩ := hat j _ (List.getElem?_eq_getElem hjn)
    rw [hq] at hp'; cases hp'
    have hb := congrArg (·[j]?) hl
    simp only [List.getElem?_map, List.getElem?_eq_getElem hjn, Option.map_some] at hb
    cases hnj : new[j]? with
    | none => rw [hnj] at hb; simp at hb
    | some b =>
      rw [hnj] at hb
      simp only [Option.map_some, Option.some.injEq] at hb
      have hbm := List.mem_of_getElem? hnj
      have := List.all_eq_true.1 hc b hbm
      simp only [Bool.and_eq_true, Bool.not_eq_true'] at this
      refine hno b (List.mem_append_right _ hbm) ?_ (by simp [dstAt, hb, hd])
      cases hqq : listed.getD b false with
      | false => rfl
      | true =>
        rcases hp.hi b hqq with h | h
        · simp [h] at this
        · simp [h] at this
  · exact hp.fr x s h3 fun b hb hbf => hno b (List.mem_append_left _ hb) hbf
def keep (ks : List Nat) (G : List (Nat × SV)) : List (Nat × SV) := G.filter fun p => ks.contains p.1
theorem look_keep {ks : List Nat} : ∀ {G : List (Nat × SV)} {x : Nat} {s : SV}, look (keep ks G) x = some s → x ∈ ks ∧ look G x = some s
  | [], x, s, h => by simp [keep, look] at h
  | p :: r, x, s, h => by
    unfold keep at h
    rw [List.filter_cons] at h
    by_cases hk : ks.contains p.1 = true
    · rw [if_pos hk] at h
      simp only [look] at h ⊢
      cases hb : Nat.beq p.1 x with
      | true =>
        rw [hb] at h
        have := Nat.eq_of_beq_eq_true hb
        subst this
        exact ⟨by simpa using hk, h⟩
      | false => rw [hb] at h; exact look_keep h
    · rw [if_neg hk] at h
      obtain ⟨h1, h2⟩ := look_keep (G := r) h
      refine ⟨h1, ?_⟩
      simp only [look]
      cases hb : Nat.beq p.1 x with
      | true =>
        have := Nat.eq_of_beq_eq_true hb
        subst this
        exact absurd (by simpa using h1) hk
      | false => exact h2
theorem JP.op {S idx : List Nat} {lp : List Oper} {o : Oper} {R : SV → List Own → Prop} (i : Nat) (ks S' idx' : List Nat) (hc : (okIdx ops S idx && okStep ops S idx i ks S' idx') = true) (hlp : idx.map (ops[·]?) = lp.map some) (hoi : ops[i]? = some o)
    (hre : SegC P Γ ops L G lp (Ag G lp.length)) (hop : OpS P Γ o (keep ks G) L R) (hlt : ∀ d, o.dst = some d → Nat.blt d Γ.nt = true)
    (h : ∀ sv L', R sv L' → JP P Γ ops Q S' idx' (match o.dst with | some d => (d, sv) :: G | none => G) L') : JP P Γ ops Q S idx G L := by
  rw [Bool.and_eq_true] at hc
  obtain ⟨hok, hst⟩ := hc
  unfold okStep at hst
  simp only [hoi, Bool.and_eq_true, Bool.not_eq_true', List.all_eq_true] at hst
  obtain ⟨⟨⟨⟨⟨⟨⟨⟨⟨⟨hiS, hii⟩, hg⟩, hdi⟩, honly⟩, hks⟩, hidx⟩, hforce⟩, hSS⟩, hiS'⟩, hS'⟩ := hst
  have his : i < ops.size := (Array.getElem?_eq_some_iff.1 hoi).1
  have hgn : o.guard = none := by simpa using hg
  have turn : ∀ k listed a w, PSt Γ ops S idx G L listed a w → unl ops listed = k + 1 → i ∈ Region.ready .any ops listed → wpOp P ops Q i (wpAny P .any ops Q k (listed.setIfInBounds i true)) a w := by
    intro k listed a w hp hk hir
    obtain ⟨_, hif, o', ho', hed⟩ := (ready_iff i).1 hir
    rw [hoi] at ho'; cases ho'
    have hls : i < listed.size := by rw [hp.sz]; exact his
    obtain ⟨k', e1, e2⟩ := unl_set hp.sz his hif hk
    obtain rfl : k = k' := by omega
    have hforced : ∀ c ∈ idx, c ∉ idx' → listed.getD c false = true := by
      intro c hc hn
      have := hforce c hc
      simp only [Bool.or_eq_true, Bool.and_eq_true, List.contains_iff_mem] at this
      rcases this with h1 | ⟨_, h1⟩
      · exact absurd h1 hn
      · exact before_done hp.cl i (fun o' ho' e he hb => by
          rw [hoi] at ho'; cases ho'
          exact hed e.on (List.mem_map.2 ⟨e, List.mem_filter.2 ⟨Array.mem_toList_iff.2 he, hb⟩, rfl⟩)) c h1
    have hidx' : ∀ b ∈ idx', b ∈ idx ∧ ∃ t ob, dstAt ops b = some t ∧ ops[b]? = some ob ∧ t ∉ ks ∧ o.dst ≠ some t ∧ ∀ d, o.dst = some d → d ∉ rd ops ob := by
      intro b hb
      have := hidx b hb
      rw [List.contains_iff_mem] at this
      obtain ⟨⟨h1, h2⟩, h3⟩ := this
      cases ht : dstAt ops b with
      | none => simp [ht] at h2
      | some t =>
        cases hob : ops[b]? with
        | none => simp [hob] at h3
        | some ob =>
          simp only [ht, hob, Bool.and_eq_true, Bool.not_eq_true'] at h2 h3
          refine ⟨h1, t, ob, rfl, rfl, by simpa using h2.1, fun e => by rw [e] at h2; simp at h2, fun d hd => by rw [hd] at h3; simpa using h3⟩
    have hstK : St Γ (keep ks G) L a w := by
      refine ⟨hp.ws, hp.nt, hp.df, fun x s hx => ?_⟩
      obtain ⟨h1, h2⟩ := look_keep hx
      refine hp.fr x s h2 fun b hb hbf hbx => ?_
      by_cases hbi : b ∈ idx'
      · obtain ⟨_, t, _, ht, _, h3, _⟩ := hidx' b hbi
        rw [hbx] at ht; cases ht
        exact h3 h1
      · rw [hforced b hb hbi] at hbf; cases hbf
    unfold wpOp
    simp only [hoi]
    rw [if_pos (by simp [Region.wanted, hgn])]
    refine .inl (hop a w _ Q hstK fun v w' sv L' hR hs hrel => ?_)
    refine (h sv L' hR).go k _ _ _ ⟨by simpa using hp.sz, fun j hj hjS => ?_, fun j hj => ?_, hp.cl.set hls hoi hed, hs.ws, ?_, ?_, fun x s hx hno => ?_⟩ e2
    · rw [getD_setB _ _ hls]
      split
      · rfl
      · have := hS' j (by simpa using hjS)
        simp only [Bool.or_eq_true, Bool.and_eq_true, List.contains_iff_mem, Nat.beq_eq_true_eq, Bool.not_eq_true'] at this
        rcases this with (h1 | h1) | h1
        · exact hp.lo j hj h1
        · rename_i hne; exact absurd (by simpa using h1) hne
        · exact hforced j h1.1 (by have := h1.2; simpa using this)
    · rw [getD_setB _ _ hls] at hj
      split at hj
      · rename_i e; subst e; exact .inl (by simpa using hiS')
      · rcases hp.hi j hj with h1 | h1
        · have := hSS j h1; exact .inl (by simpa using this)
        · by_cases hji : j ∈ idx'
          · exact .inr hji
          · have := hforce j h1
            simp only [Bool.or_eq_true, Bool.and_eq_true, List.contains_iff_mem] at this
            rcases this with h2 | h2
            · exact absurd h2 hji
            · exact .inl h2.1
    · cases hd : o.dst with
      | none => exact hp.nt
      | some d => simpa [Act.put] using hp.nt
    · cases hd : o.dst with
      | none => exact hp.df
      | some d => exact hp.df
    · have hold : ∀ x s, look G x = some s → o.dst ≠ some x → (∀ b ∈ idx', (listed.setIfInBounds i true).getD b false = false → dstAt ops b ≠ some x) → Rel (ZL Γ.Z L') w' s (a.tmps.getD x undef) := by
        intro x s hx hne hno
        refine hs.rel (hp.fr x s hx fun b hb hbf hbx => ?_)
        by_cases hbi : b ∈ idx'
        · refine hno b hbi ?_ hbx
          rw [getD_setB _ _ hls]
          split
          · rename_i e; subst e; simp [hb] at hii
          · exact hbf
        · rw [hforced b hb hbi] at hbf; cases hbf
      cases hd : o.dst with
      | none =>
        rw [hd] at hx
        exact hold x s hx (by simp [hd]) hno
      | some d =>
        rw [hd] at hx
        have hpd : d < a.tmps.size := by rw [hp.nt]; exact Nat.le_of_ble_eq_true (hlt d hd)
        show Rel _ _ _ ((a.tmps.setIfInBounds d v).getD x undef)
        rw [getD_set _ _ _ _ hpd]
        simp only [look] at hx
        cases hb : Nat.beq d x with
        | true =>
          rw [hb] at hx
          simp only [cond_true, Option.some.injEq] at hx
          subst hx
          have := Nat.eq_of_beq_eq_true hb
          subst this
          simpa using hrel
        | false =>
          rw [hb] at hx
          have hne : ¬ x = d := fun e => by subst e; simp at hb
          rw [if_neg hne]
          exact hold x s hx (by rw [hd]; intro e; cases e; exact hne rfl) hno
  refine jp_run hok hlp hre (fun j k listed a w hp hk hj hji => ?_) (fun k listed a w hp hk hal => ?_)
  · obtain ⟨hjs, hjf, oj, hoj, hed⟩ := (ready_iff j).1 hj
    have hjS : j ∉ S := fun hm => by
      have := hp.lo j hjs hm
      rw [← getD_tf (by rw [hp.sz]; exact hjs), hjf] at this; cases this
    by_cases hji' : j = i
    · subst hji'; exact turn k listed a w hp hk hj
    · exfalso
      have := honly j (List.mem_range.2 hjs)
      simp only [Bool.or_eq_true, List.contains_iff_mem, Nat.beq_eq_true_eq, hoj] at this
      rcases this with ((h1 | h1) | h1) | h1
      · exact hjS h1
      · exact hji h1
      · exact hji' (by simpa using h1)
      · obtain ⟨e, he, h2⟩ := List.any_eq_true.1 h1
        simp only [Bool.and_eq_true, Bool.not_eq_true'] at h2
        rcases hp.hi e (hed e he) with h3 | h3
        · simp [h3] at h2
        · simp [h3] at h2
  · have hiF : listed.getD i false = false := by
      cases hq : listed.getD i false with
      | false => rfl
      | true =>
        rcases hp.hi i hq with h1 | h1
        · simp [h1] at hiS
        · simp [h1] at hii
    have hir : i ∈ Region.ready .any ops listed := (ready_iff i).2 ⟨his, by rw [getD_tf (by rw [hp.sz]; exact his)]; exact hiF, o, hoi, fun e he => by
      have := hdi e he
      simp only [Bool.and_eq_true, Bool.or_eq_true, List.contains_iff_mem] at this
      rcases this.2 with h1 | h1
      · exact hp.lo e (Nat.le_of_ble_eq_true this.1) h1
      · exact hal e h1⟩
    obtain ⟨k', e1, _⟩ := unl_set hp.sz his (by rw [getD_tf (by rw [hp.sz]; exact his)]; exact hiF) hk
    subst e1
    refine ⟨fun hnil => by rw [hnil] at hir; simp at hir, fun j hj => ?_⟩
    obtain ⟨hjs, hjf, oj, hoj, hed⟩ := (ready_iff j).1 hj
    have hjS : j ∉ S := fun hm => by
      have := hp.lo j hjs hm
      rw [← getD_tf (by rw [hp.sz]; exact hjs), hjf] at this; cases this
    have hji : j ∉ idx := fun hm => by
      have := hal j hm
      rw [← getD_tf (by rw [hp.sz]; exact hjs), hjf] at this; cases this
    by_cases hji' : j = i
    · subst hji'; exact turn _ listed a w hp hk hj
    · exfalso
      have := honly j (List.mem_range.2 hjs)
      simp only [Bool.or_eq_true, List.contains_iff_mem, Nat.beq_eq_true_eq, hoj] at this
      rcases this with ((h1 | h1) | h1) | h1
      · exact hjS h1
      · exact hji h1
      · exact hji' (by simpa using h1)
      · obtain ⟨e, he, h2⟩ := List.any_eq_true.1 h1
        simp only [Bool.and_eq_true, Bool.not_eq_true'] at h2
        rcases hp.hi e (hed e he) with h3 | h3
        · simp [h3] at h2
        · simp [h3] at h2
def okClose (ops : Array Oper) (S idx : List Nat) (n : Nat) : Bool :=
  Nat.ble n ops.size && ((List.range n).all fun i => S.contains i || idx.contains i) && (S.all fun i => Nat.blt i n) && (idx.all fun i => Nat.blt i n) &&
  ((List.range' n (ops.size - n)).all fun j => idx.all fun b => ((Region.before ops).getD j 0).testBit b)
theorem JP.close {S idx : List Nat} {lp : List Oper} (n : Nat) (hc : (okIdx ops S idx && okClose ops S idx n) = true) (hlp : idx.map (ops[·]?) = lp.map some) (hre : SegC P Γ ops L G lp (Ag G lp.length)) (h : JD P Γ ops Q n G L) : JP P Γ ops Q S idx G L := by
  rw [Bool.and_eq_true] at hc
  obtain ⟨hok, hcl⟩ := hc
  unfold okClose at hcl
  simp only [Bool.and_eq_true, List.all_eq_true] at hcl
  obtain ⟨⟨⟨⟨h1, h2⟩, h3⟩, h4⟩, h5⟩ := hcl
  have hn := Nat.le_of_ble_eq_true h1
  have fin : ∀ k listed a w, PSt Γ ops S idx G L listed a w → unl ops listed = k → (∀ b ∈ idx, listed.getD b false = true) → wpAny P .any ops Q k listed a w := by
    intro k listed a w hp hk hal
    have hup : Up ops n listed := by
      refine ⟨hp.sz, fun i hi => ?_⟩
      rw [getD_tf (by rw [hp.sz]; exact hi)]
      by_cases hin : i < n
      · have := h2 i (List.mem_range.2 hin)
        simp only [Bool.or_eq_true, List.contains_iff_mem] at this
        rw [decide_eq_true hin]
        rcases this with h | h
        · exact hp.lo i hi h
        · exact hal i h
      · rw [decide_eq_false hin]
        cases hq : listed.getD i false with
        | false => rfl
        | true =>
          exfalso
          rcases hp.hi i hq with h | h
          · exact hin (Nat.le_of_ble_eq_true (h3 i h))
          · exact hin (Nat.le_of_ble_eq_true (h4 i h))
    have hk' : k = ops.size - n := by
      rw [← hk]
      unfold unl
      have : ((List.range ops.size).filter fun i => !listed.getD i true) = (List.range ops.size).filter fun i => decide (n ≤ i) := by
        refine List.filter_congr fun i hi => ?_
        rw [hup.2 i (List.mem_range.1 hi)]
        by_cases h : i < n <;> simp [h] <;> omega
      rw [this]
      have h6 : List.range ops.size = List.range n ++ List.range' n (ops.size - n) := by
        rw [List.range_eq_range', List.range_eq_range']
        have := List.range'_append_1 (s := 0) (m := n) (n := ops.size - n)
        rw [Nat.zero_add] at this
        rw [this]; congr 1; omega
      rw [h6, List.filter_append, List.filter_eq_nil_iff.2, List.filter_eq_self.2]
      · simp
      · intro i hi; rw [List.mem_range'_1] at hi; simp; omega
      · intro i hi; have := List.mem_range.1 hi; simp; omega
    rw [hk']
    exact h.go a w listed hup ⟨hp.ws, hp.nt, hp.df, fun x s hx => hp.fr x s hx fun b hb hbf _ => by rw [hal b hb] at hbf; cases hbf⟩
  refine jp_run hok hlp hre (fun j k listed a w hp hk hj hji => ?_) fin
  obtain ⟨hjs, hjf, oj, hoj, hed⟩ := (ready_iff j).1 hj
  have hjn : n ≤ j := by
    apply Nat.le_of_not_lt
    intro hlt
    have := h2 j (List.mem_range.2 hlt)
    simp only [Bool.or_eq_true, List.contains_iff_mem] at this
    rcases this with h | h
    · have := hp.lo j hjs h
      rw [← getD_tf (by rw [hp.sz]; exact hjs), hjf] at this; cases this
    · exact hji h
  have hallidx : ∀ b ∈ idx, listed.getD b false = true := fun b hb => by
    have := h5 j (by rw [List.mem_range'_1]; omega) b hb
    exact before_done hp.cl j (fun o' ho' e he hb => by
      rw [hoj] at ho'; cases ho'
      exact hed e.on (List.mem_map.2 ⟨e, List.mem_filter.2 ⟨Array.mem_toList_iff.2 he, hb⟩, rfl⟩)) b this
  exact (fin (k + 1) listed a w hp hk hallidx).2 j hj
def opsAt (l : List Oper) : List Nat → List Oper
  | [] => []
  | i :: r => match l[i]? with
    | some o => o :: opsAt l r
    | none => opsAt l r
theorem opsAt_map {l : List Oper} : ∀ {idx : List Nat}, (idx.all fun b => (l[b]?).isSome) = true → idx.map (l.toArray[·]?) = (opsAt l idx).map some ∧ (opsAt l idx).length = idx.length
  | [], _ => ⟨rfl, rfl⟩
  | i :: r, h => by
    simp only [List.all_cons, Bool.and_eq_true] at h
    obtain ⟨h1, h2⟩ := opsAt_map h.2
    cases ho : l[i]? with
    | none => rw [ho] at h; simp at h
    | some o =>
      simp only [List.getElem?_toArray] at h1 ⊢
      exact ⟨by simp only [opsAt, ho, List.map_cons, h1], by simp only [opsAt, ho, List.length_cons, h2]⟩
theorem okIdx_some {l : List Oper} {S idx : List Nat} (h : okIdx l.toArray S idx = true) : (idx.all fun b => (l[b]?).isSome) = true := by
  refine List.all_eq_true.2 fun b hb => ?_
  have := List.all_eq_true.1 h b hb
  cases ho : l[b]? with
  | none => simp [ho] at this
  | some o => rfl
variable {l : List Oper} {S idx : List Nat}
theorem JP.more (new : List Nat) (idx' : List Nat) (hi : idx ++ new = idx') (hc : (new.all fun b => !S.contains b && !idx.contains b && (l[b]?).isSome) = true) (h : SegC P Γ l.toArray L G (opsAt l new) (fun G' => JP P Γ l.toArray Q S idx' G' L)) : JP P Γ l.toArray Q S idx G L := by
  have hc' := List.all_eq_true.1 hc
  refine JP.add new idx' hi (List.all_eq_true.2 fun b hb => ?_) (opsAt_map (List.all_eq_true.2 fun b hb => ?_)).1 h
  · have := hc' b hb; rw [Bool.and_eq_true] at this; exact this.1
  · have := hc' b hb; rw [Bool.and_eq_true] at this; exact this.2
theorem JP.do1 {d : Nat} {op : Op} {ty : TypeId} {pos : String} {aft : Array Edge} {g : Option (Nat × Bool)} {R : SV → List Own → Prop} (i : Nat) (ks S' idx' : List Nat) (hc : (okIdx l.toArray S idx && okStep l.toArray S idx i ks S' idx') = true) (hoi : l[i]? = some ⟨some d, op, ty, pos, aft, g⟩)
    (hre : SegC P Γ l.toArray L G (opsAt l idx) (Ag G idx.length)) (hop : OpS P Γ ⟨some d, op, ty, pos, aft, g⟩ (keep ks G) L R) (hlt : Nat.blt d Γ.nt = true)
    (h : ∀ sv L', R sv L' → JP P Γ l.toArray Q S' idx' ((d, sv) :: G) L') : JP P Γ l.toArray Q S idx G L := by
  obtain ⟨h1, h2⟩ := opsAt_map (okIdx_some (Bool.and_eq_true_iff.1 hc).1)
  exact JP.op i ks S' idx' hc h1 (by simpa using hoi) (by rw [h2]; exact hre) hop (fun d' hd => by cases hd; exact hlt) h
theorem JP.do0 {op : Op} {ty : TypeId} {pos : String} {aft : Array Edge} {g : Option (Nat × Bool)} {R : SV → List Own → Prop} (i : Nat) (ks S' idx' : List Nat) (hc : (okIdx l.toArray S idx && okStep l.toArray S idx i ks S' idx') = true) (hoi : l[i]? = some ⟨none, op, ty, pos, aft, g⟩)
    (hre : SegC P Γ l.toArray L G (opsAt l idx) (Ag G idx.length)) (hop : OpS P Γ ⟨none, op, ty, pos, aft, g⟩ (keep ks G) L R)
    (h : ∀ sv L', R sv L' → JP P Γ l.toArray Q S' idx' G L') : JP P Γ l.toArray Q S idx G L := by
  obtain ⟨h1, h2⟩ := opsAt_map (okIdx_some (Bool.and_eq_true_iff.1 hc).1)
  exact JP.op i ks S' idx' hc h1 (by simpa using hoi) (by rw [h2]; exact hre) hop (fun d' hd => by cases hd) h
theorem JP.store {ty : TypeId} {pos : String} {aft : Array Edge} {g : Option (Nat × Bool)} {T b o : Nat} [hT : TSc P T] {x y : Operand} (i : Nat) (ks S' idx' : List Nat) (hc : (okIdx l.toArray S idx && okStep l.toArray S idx i ks S' idx') = true) (hoi : l[i]? = some ⟨none, .store T x y, ty, pos, aft, g⟩)
    (hre : SegC P Γ l.toArray L G (opsAt l idx) (Ag G idx.length)) (hx : ev (keep ks G) x = some (.val (.pointer (some ⟨b, o, none⟩)))) {s : SV} (hy : ev (keep ks G) y = some s) (h1 : One s) (j : Nat) {T' : TypeId} {cs cs' : List SV} {L' : List Own}
    (hj : L[j]? = some (.obj b T' cs)) (ho : Nat.blt o cs.length = true) (hcs : cs.set o s = cs') (hL : L.set j (.obj b T' cs') = L') (k : JP P Γ l.toArray Q S' idx' G L') : JP P Γ l.toArray Q S idx G L :=
  JP.do0 i ks S' idx' hc hoi hre (OpS.store hx hy h1 j hj (Nat.le_of_ble_eq_true ho)) (by rintro sv L'' rfl; rw [hcs, hL]; exact k)
theorem JP.storeAll {ty : TypeId} {pos : String} {aft : Array Edge} {g : Option (Nat × Bool)} {T b n : Nat} [hT : TAg P T n] {x y : Operand} (i : Nat) (ks S' idx' : List Nat) (hc : (okIdx l.toArray S idx && okStep l.toArray S idx i ks S' idx') = true) (hoi : l[i]? = some ⟨none, .store T x y, ty, pos, aft, g⟩)
    (hre : SegC P Γ l.toArray L G (opsAt l idx) (Ag G idx.length)) (hx : ev (keep ks G) x = some (.val (.pointer (some ⟨b, 0, none⟩)))) {ds : List SV} (hy : ev (keep ks G) y = some (.agg ds)) (hn' : Nat.beq ds.length n = true) (j : Nat) {T' : TypeId} {cs : List SV} {L' : List Own}
    (hj : L[j]? = some (.obj b T' cs)) (hcs : Nat.beq cs.length n = true) (hL : L.set j (.obj b T' ds) = L') (k : JP P Γ l.toArray Q S' idx' G L') : JP P Γ l.toArray Q S idx G L := by
  have hn := Nat.eq_of_beq_eq_true hn'
  have hcn := Nat.eq_of_beq_eq_true hcs
  refine JP.do0 i ks S' idx' hc hoi hre (OpS.storeAg hx hy hn j hj (by omega)) (by
    rintro sv L'' rfl
    have : cs.take 0 ++ ds ++ cs.drop (0 + ds.length) = ds := by
      rw [List.take_zero, List.nil_append, Nat.zero_add, List.drop_eq_nil_of_le (by omega), List.append_nil]
    rw [this, hL]; exact k)
theorem JP.tail {l' : List Oper} (n : Nat) (hc : (okIdx l.toArray S idx && okClose l.toArray S idx n) = true) (hc2 : chkTail l.toArray n = true) (hle : Nat.ble n l.length = true) (hl : l.drop n = l')
    (hre : SegC P Γ l.toArray L G (opsAt l idx) (Ag G idx.length)) (h : J P Γ l.toArray Q G L l') : JP P Γ l.toArray Q S idx G L := by
  obtain ⟨h1, h2⟩ := opsAt_map (okIdx_some (Bool.and_eq_true_iff.1 hc).1)
  exact JP.close n hc h1 (by rw [h2]; exact hre) (JD.tail hc2 (by simpa using hle) (by simpa using hl) h)
theorem JP.freeze (i : Nat) {v : Value} {E sz n : Nat} {el : Nat → List SV} (hi : look G i = some (.val v)) (hfr : (idx.all fun b => !(dstAt l.toArray b == some i)) = true) (hmax : n ≤ maxLen) (h : JP P Γ l.toArray Q S idx ((i, .sl sz n el) :: G) L) : JP P Γ l.toArray Q S idx G (.row v E sz n el :: L) := by
  refine ⟨fun k listed a w hp hk => ?_⟩
  have hst : St Γ [(i, .val v)] (.row v E sz n el :: L) a w := by
    refine ⟨hp.ws, hp.nt, hp.df, fun x s hx => ?_⟩
    simp only [look] at hx
    cases hb : Nat.beq i x with
    | false => rw [hb] at hx; simp at hx
    | true =>
      rw [hb] at hx
      simp only [cond_true, Option.some.injEq] at hx
      subst hx
      obtain rfl := Nat.eq_of_beq_eq_true hb
      refine hp.fr i _ hi fun b hb _ he => ?_
      have := List.all_eq_true.1 hfr b hb
      rw [he] at this; simp at this
  have hst' := St.freeze (i := i) hst (by simp [look]) hmax
  have hd : Step Γ (.row v E sz n el :: L) L w w := Step.drop hp.ws (List.sublist_cons_self _ _)
  refine h.go k listed a w ⟨hp.sz, hp.lo, hp.hi, hp.cl, hd.ws, hp.nt, hp.df, fun x s hx hno => ?_⟩ hk
  simp only [look] at hx
  cases hb : Nat.beq i x with
  | false =>
    rw [hb] at hx
    exact hd.rel (hp.fr x s hx hno)
  | true =>
    rw [hb] at hx
    obtain rfl := Nat.eq_of_beq_eq_true hb
    exact hst'.fr i s (by simp only [look, hb]; exact hx)
end
end Go.Sse
namespace Go.Sse
open Go Go.Sse
set_option linter.unusedVariables false
set_option linter.unusedSimpArgs false
section
variable {P : Program} {Γ : Ctx} {ops : Array Oper} {Q : Exit → Act → World → Prop} {F : List (Nat × SV)} {L : List Own} {rest : List Oper}
variable {dst : Option Tmp} {ty : TypeId} {pos : String} {aft : Array Edge} {g : Option (Nat × Bool)}
theorem Pv.loadG [Gl P] [Globs P Γ] {T b o : Nat} [h : TSc P T] {x : Operand} (hx : ev F x = some (.val (.pointer (some ⟨b, o, none⟩)))) (i : Nat) {vs : List Value} {v : Value} (hi : (Gl.gl P)[i]? = some (b, vs)) (hv : vs[o]? = some v) :
    Pv P Γ F L ⟨dst, .load T x, ty, pos, aft, g⟩ (.val v) := fun ρ w hst => by
  obtain ⟨_, _, h3⟩ := Globs.at (P := P) hst.ws (List.mem_of_getElem? hi)
  refine ⟨v, ?_, .val _⟩
  have := run_loadVar_sc h w ⟨b, o, none⟩ v (h3 o v hv)
  simp [execOp, hst.evv (x := x) (by simp [Op.operands]) hx, Instr.loadAt, Instr.sureAddr, this]
theorem Cx.loadG [Gl P] [Globs P Γ] {T b o : Nat} [h : TSc P T] {x : Operand} (hx : ev F x = some (.val (.pointer (some ⟨b, o, none⟩)))) (i : Nat) {vs : List Value} {v : Value} (hi : (Gl.gl P)[i]? = some (b, vs)) (hv : vs[o]? = some v) {d0 : Nat} {K : List (Nat × SV) → Prop} (hlt : Nat.blt d0 Γ.nt = true) (hr : SegC P Γ ops L ((d0, (.val v)) :: F) rest K) : SegC P Γ ops L F (⟨some d0, .load T x, ty, pos, aft, none⟩ :: rest) K :=
  SegC.q (Qs.pv (by apply Pv.loadG <;> assumption)) hlt hr
abbrev u32 (x : BitVec 32) : SV := .val (.int .u32 (x.toNat : Int))
abbrev u64 (n : Nat) : SV := .val (.int .u64 (n : Int))
theorem wrap_u32 (n : Nat) : IntKind.u32.wrap (n : Int) = ((BitVec.ofNat 32 n).toNat : Int) := by
  simp only [IntKind.wrap, IntKind.bits, IntKind.signed, Bool.false_and, Bool.false_eq_true, if_false, BitVec.toNat_ofNat]
  norm_cast
theorem wrap_u8 (n : Nat) : IntKind.u8.wrap (n : Int) = ((UInt8.ofNat n).toNat : Int) := by
  simp only [IntKind.wrap, IntKind.bits, IntKind.signed, Bool.false_and, Bool.false_eq_true, if_false, UInt8.toNat_ofNat']
  norm_cast
theorem wrap_u64 {n : Nat} (h : n < 18446744073709551616) : IntKind.u64.wrap (n : Int) = n := by
  simp only [IntKind.wrap, IntKind.bits, IntKind.signed, Bool.false_and, Bool.false_eq_true, if_false]
  norm_cast
  exact Nat.mod_eq_of_lt h
theorem ofNat_toNat32 (a : BitVec 32) : BitVec.ofNat 32 a.toNat = a := by simp
theorem ofInt_u32 (a : BitVec 32) : BitVec.ofInt 32 (a.toNat : Int) = a := by simp
section
variable {t t2 : TypeId} {x y : Operand} {a b : BitVec 32} (hx : ev F x = some (u32 a))
include hx
theorem Pv.notU : Pv P Γ F L ⟨dst, .unOp .xor t x, ty, pos, aft, g⟩ (u32 (~~~a)) :=
  fun ρ w hst => ⟨_, by
    have h1 : (Op.unary .xor (.int .u32 (a.toNat : Int))).run P w = .ok (.int .u32 ((~~~a).toNat : Int)) w := by
      simp only [Op.unary, IntKind.signed, Bool.false_eq_true, if_false, Op.intBits, IntKind.bits, ofInt_u32, wrap_u32, Sem.run_pure, ofNat_toNat32]
      rw [show BitVec.ofInt 32 IntKind.u32.max = BitVec.allOnes 32 by decide]
      show Result.ok (Value.int .u32 ((BitVec.allOnes 32 ^^^ a).toNat : Int)) w = _
      rw [BitVec.allOnes_xor]
    simp [execOp, hst.evv (by simp [Op.operands]) hx, h1], .val _⟩
theorem Cx.notU  {d0 : Nat} {K : List (Nat × SV) → Prop} (hlt : Nat.blt d0 Γ.nt = true) (hr : SegC P Γ ops L ((d0, (u32 (~~~a))) :: F) rest K) : SegC P Γ ops L F (⟨some d0, .unOp .xor t x, ty, pos, aft, none⟩ :: rest) K :=
  SegC.q (Qs.pv (by apply Pv.notU <;> assumption)) hlt hr
theorem Pv.shrU {k : IntKind} {n : Nat} (hy : ev F y = some (.val (.int k (n : Int)))) (hn : n ≤ 32) : Pv P Γ F L ⟨dst, .binOp .shr t x y t2, ty, pos, aft, g⟩ (u32 (a >>> n)) := by
  have := Pv.shr (P := P) (Γ := Γ) (L := L) (dst := dst) (ty := ty) (pos := pos) (aft := aft) (g := g) (t := t) (t2 := t2) hx hy (Int.natCast_nonneg n)
  have e : (a.toNat : Int).fdiv (2 ^ Min.min (n : Int).toNat IntKind.u32.bits) = ((a >>> n).toNat : Int) := by
    rw [Int.fdiv_eq_ediv_of_nonneg _ (by exact_mod_cast Nat.zero_le _)]
    simp only [IntKind.bits, Int.toNat_natCast, Nat.min_eq_left hn, BitVec.toNat_ushiftRight, Nat.shiftRight_eq_div_pow]
    norm_cast
  rwa [e] at this
theorem Cx.shrU {k : IntKind} {n : Nat} (hy : ev F y = some (.val (.int k (n : Int)))) (hn : n ≤ 32) {d0 : Nat} {K : List (Nat × SV) → Prop} (hlt : Nat.blt d0 Γ.nt = true) (hr : SegC P Γ ops L ((d0, (u32 (a >>> n))) :: F) rest K) : SegC P Γ ops L F (⟨some d0, .binOp .shr t x y t2, ty, pos, aft, none⟩ :: rest) K :=
  SegC.q (Qs.pv (by apply Pv.shrU <;> assumption)) hlt hr
theorem Jx.shrU {k : IntKind} {n : Nat} (hy : ev F y = some (.val (.int k (n : Int)))) (hn : n ≤ 32) {d0 : Nat} (hlt : Nat.blt d0 Γ.nt = true) (k : J P Γ ops Q ((d0, (u32 (a >>> n))) :: F) L rest) : J P Γ ops Q F L (⟨some d0, .binOp .shr t x y t2, ty, pos, aft, none⟩ :: rest) :=
  J.pv (by apply Pv.shrU <;> assumption) hlt k
theorem Pv.shlU {k : IntKind} {n : Nat} (hy : ev F y = some (.val (.int k (n : Int)))) (hn : n ≤ 32) : Pv P Γ F L ⟨dst, .binOp .shl t x y t2, ty, pos, aft, g⟩ (u32 (a <<< n)) := by
  have := Pv.shl (P := P) (Γ := Γ) (L := L) (dst := dst) (ty := ty) (pos := pos) (aft := aft) (g := g) (t := t) (t2 := t2) hx hy (Int.natCast_nonneg n)
  have e : IntKind.u32.wrap ((a.toNat : Int) * 2 ^ Min.min (n : Int).toNat IntKind.u32.bits) = ((a <<< n).toNat : Int) := by
    simp only [IntKind.bits, Int.toNat_natCast, Nat.min_eq_left hn]
    have : (a.toNat : Int) * 2 ^ n = ((a.toNat * 2 ^ n : Nat) : Int) := by push_cast; rfl
    rw [this, wrap_u32]
    simp [BitVec.toNat_shiftLeft, Nat.shiftLeft_eq]
  rwa [e] at this
theorem Cx.shlU {k : IntKind} {n : Nat} (hy : ev F y = some (.val (.int k (n : Int)))) (hn : n ≤ 32) {d0 : Nat} {K : List (Nat × SV) → Prop} (hlt : Nat.blt d0 Γ.nt = true) (hr : SegC P Γ ops L ((d0, (u32 (a <<< n))) :: F) rest K) : SegC P Γ ops L F (⟨some d0, .binOp .shl t x y t2, ty, pos, aft, none⟩ :: rest) K :=
  SegC.q (Qs.pv (by apply Pv.shlU <;> assumption)) hlt hr
theorem Jx.shlU {k : IntKind} {n : Nat} (hy : ev F y = some (.val (.int k (n : Int)))) (hn : n ≤ 32) {d0 : Nat} (hlt : Nat.blt d0 Γ.nt = true) (k : J P Γ ops Q ((d0, (u32 (a <<< n))) :: F) L rest) : J P Γ ops Q F L (⟨some d0, .binOp .shl t x y t2, ty, pos, aft, none⟩ :: rest) :=
  J.pv (by apply Pv.shlU <;> assumption) hlt k
theorem Pv.convByte {src d : Nat} [h : TInt P d .u8] (hs : (P.underlying src).isSome = true) : Pv P Γ F L ⟨dst, .convert src d x, ty, pos, aft, g⟩ (byte (UInt8.ofNat a.toNat)) := by
  have := Pv.convI (P := P) (Γ := Γ) (L := L) (dst := dst) (ty := ty) (pos := pos) (aft := aft) (g := g) (d := d) hs hx
  rwa [wrap_u8] at this
theorem Cx.convByte {src d : Nat} [h : TInt P d .u8] (hs : (P.underlying src).isSome = true) {d0 : Nat} {K : List (Nat × SV) → Prop} (hlt : Nat.blt d0 Γ.nt = true) (hr : SegC P Γ ops L ((d0, (byte (UInt8.ofNat a.toNat))) :: F) rest K) : SegC P Γ ops L F (⟨some d0, .convert src d x, ty, pos, aft, none⟩ :: rest) K :=
  SegC.q (Qs.pv (by apply Pv.convByte <;> assumption)) hlt hr
theorem Jx.convByte {src d : Nat} [h : TInt P d .u8] (hs : (P.underlying src).isSome = true) {d0 : Nat} (hlt : Nat.blt d0 Γ.nt = true) (k : J P Γ ops Q ((d0, (byte (UInt8.ofNat a.toNat))) :: F) L rest) : J P Γ ops Q F L (⟨some d0, .convert src d x, ty, pos, aft, none⟩ :: rest) :=
  J.pv (by apply Pv.convByte <;> assumption) hlt k
variable (hy : ev F y = some (u32 b))
include hy
theorem Pv.addU : Pv P Γ F L ⟨dst, .binOp .add t x y t2, ty, pos, aft, g⟩ (u32 (a + b)) := by
  have := Pv.add (P := P) (Γ := Γ) (L := L) (dst := dst) (ty := ty) (pos := pos) (aft := aft) (g := g) (t := t) (t2 := t2) hx hy
  have e : IntKind.u32.wrap ((a.toNat : Int) + b.toNat) = ((a + b).toNat : Int) := by
    rw [show ((a.toNat : Int) + b.toNat) = ((a.toNat + b.toNat : Nat) : Int) by push_cast; rfl, wrap_u32]
    simp [BitVec.toNat_add]
  rwa [e] at this
theorem Cx.addU  {d0 : Nat} {K : List (Nat × SV) → Prop} (hlt : Nat.blt d0 Γ.nt = true) (hr : SegC P Γ ops L ((d0, (u32 (a + b))) :: F) rest K) : SegC P Γ ops L F (⟨some d0, .binOp .add t x y t2, ty, pos, aft, none⟩ :: rest) K :=
  SegC.q (Qs.pv (by apply Pv.addU <;> assumption)) hlt hr
theorem Jx.addU  {d0 : Nat} (hlt : Nat.blt d0 Γ.nt = true) (k : J P Γ ops Q ((d0, (u32 (a + b))) :: F) L rest) : J P Γ ops Q F L (⟨some d0, .binOp .add t x y t2, ty, pos, aft, none⟩ :: rest) :=
  J.pv (by apply Pv.addU <;> assumption) hlt k
theorem Pv.xorU : Pv P Γ F L ⟨dst, .binOp .xor t x y t2, ty, pos, aft, g⟩ (u32 (a ^^^ b)) := by
  have := Pv.bxor (P := P) (Γ := Γ) (L := L) (dst := dst) (ty := ty) (pos := pos) (aft := aft) (g := g) (t := t) (t2 := t2) hx hy
  simp only [IntKind.bits, ofInt_u32, wrap_u32, ofNat_toNat32] at this
  exact this
theorem Cx.xorU  {d0 : Nat} {K : List (Nat × SV) → Prop} (hlt : Nat.blt d0 Γ.nt = true) (hr : SegC P Γ ops L ((d0, (u32 (a ^^^ b))) :: F) rest K) : SegC P Γ ops L F (⟨some d0, .binOp .xor t x y t2, ty, pos, aft, none⟩ :: rest) K :=
  SegC.q (Qs.pv (by apply Pv.xorU <;> assumption)) hlt hr
theorem Jx.xorU  {d0 : Nat} (hlt : Nat.blt d0 Γ.nt = true) (k : J P Γ ops Q ((d0, (u32 (a ^^^ b))) :: F) L rest) : J P Γ ops Q F L (⟨some d0, .binOp .xor t x y t2, ty, pos, aft, none⟩ :: rest) :=
  J.pv (by apply Pv.xorU <;> assumption) hlt k
theorem Pv.andU : Pv P Γ F L ⟨dst, .binOp .and t x y t2, ty, pos, aft, g⟩ (u32 (a &&& b)) := by
  have := Pv.band (P := P) (Γ := Γ) (L := L) (dst := dst) (ty := ty) (pos := pos) (aft := aft) (g := g) (t := t) (t2 := t2) hx hy
  simp only [IntKind.bits, ofInt_u32, wrap_u32, ofNat_toNat32] at this
  exact this
theorem Cx.andU  {d0 : Nat} {K : List (Nat × SV) → Prop} (hlt : Nat.blt d0 Γ.nt = true) (hr : SegC P Γ ops L ((d0, (u32 (a &&& b))) :: F) rest K) : SegC P Γ ops L F (⟨some d0, .binOp .and t x y t2, ty, pos, aft, none⟩ :: rest) K :=
  SegC.q (Qs.pv (by apply Pv.andU <;> assumption)) hlt hr
theorem Jx.andU  {d0 : Nat} (hlt : Nat.blt d0 Γ.nt = true) (k : J P Γ ops Q ((d0, (u32 (a &&& b))) :: F) L rest) : J P Γ ops Q F L (⟨some d0, .binOp .and t x y t2, ty, pos, aft, none⟩ :: rest) :=
  J.pv (by apply Pv.andU <;> assumption) hlt k
theorem Pv.orU : Pv P Γ F L ⟨dst, .binOp .or t x y t2, ty, pos, aft, g⟩ (u32 (a ||| b)) := by
  have := Pv.bor (P := P) (Γ := Γ) (L := L) (dst := dst) (ty := ty) (pos := pos) (aft := aft) (g := g) (t := t) (t2 := t2) hx hy
  simp only [IntKind.bits, ofInt_u32, wrap_u32, ofNat_toNat32] at this
  exact this
theorem Cx.orU  {d0 : Nat} {K : List (Nat × SV) → Prop} (hlt : Nat.blt d0 Γ.nt = true) (hr : SegC P Γ ops L ((d0, (u32 (a ||| b))) :: F) rest K) : SegC P Γ ops L F (⟨some d0, .binOp .or t x y t2, ty, pos, aft, none⟩ :: rest) K :=
  SegC.q (Qs.pv (by apply Pv.orU <;> assumption)) hlt hr
theorem Jx.orU  {d0 : Nat} (hlt : Nat.blt d0 Γ.nt = true) (k : J P Γ ops Q ((d0, (u32 (a ||| b))) :: F) L rest) : J P Γ ops Q F L (⟨some d0, .binOp .or t x y t2, ty, pos, aft, none⟩ :: rest) :=
  J.pv (by apply Pv.orU <;> assumption) hlt k
end
theorem Pv.mulU {t t2 : TypeId} {x y : Operand} {a : BitVec 32} (c : Nat) (hx : ev F x = some (u32 a)) (hy : ev F y = some (.val (.int .u32 (c : Int)))) : Pv P Γ F L ⟨dst, .binOp .mul t x y t2, ty, pos, aft, g⟩ (u32 (a * BitVec.ofNat 32 c)) := by
  have := Pv.mul (P := P) (Γ := Γ) (L := L) (dst := dst) (ty := ty) (pos := pos) (aft := aft) (g := g) (t := t) (t2 := t2) hx hy
  have e : IntKind.u32.wrap ((a.toNat : Int) * (c : Int)) = ((a * BitVec.ofNat 32 c).toNat : Int) := by
    rw [show ((a.toNat : Int) * (c : Int)) = ((a.toNat * c : Nat) : Int) by push_cast; rfl, wrap_u32]
    simp [BitVec.toNat_mul]
  rwa [e] at this
theorem Cx.mulU {t t2 : TypeId} {x y : Operand} {a : BitVec 32} (c : Nat) (hx : ev F x = some (u32 a)) (hy : ev F y = some (.val (.int .u32 (c : Int)))) {d0 : Nat} {K : List (Nat × SV) → Prop} (hlt : Nat.blt d0 Γ.nt = true) (hr : SegC P Γ ops L ((d0, (u32 (a * BitVec.ofNat 32 c))) :: F) rest K) : SegC P Γ ops L F (⟨some d0, .binOp .mul t x y t2, ty, pos, aft, none⟩ :: rest) K :=
  SegC.q (Qs.pv (by apply Pv.mulU <;> assumption)) hlt hr
theorem Pv.byteWord {src d : Nat} [h : TInt P d .u32] {x : Operand} {b : UInt8} (hs : (P.underlying src).isSome = true) (hx : ev F x = some (byte b)) : Pv P Γ F L ⟨dst, .convert src d x, ty, pos, aft, g⟩ (u32 (BitVec.ofNat 32 b.toNat)) := by
  have := Pv.convI (P := P) (Γ := Γ) (L := L) (dst := dst) (ty := ty) (pos := pos) (aft := aft) (g := g) (d := d) hs hx
  rwa [wrap_u32] at this
theorem Cx.byteWord {src d : Nat} [h : TInt P d .u32] {x : Operand} {b : UInt8} (hs : (P.underlying src).isSome = true) (hx : ev F x = some (byte b)) {d0 : Nat} {K : List (Nat × SV) → Prop} (hlt : Nat.blt d0 Γ.nt = true) (hr : SegC P Γ ops L ((d0, (u32 (BitVec.ofNat 32 b.toNat))) :: F) rest K) : SegC P Γ ops L F (⟨some d0, .convert src d x, ty, pos, aft, none⟩ :: rest) K :=
  SegC.q (Qs.pv (by apply Pv.byteWord <;> assumption)) hlt hr
theorem Pv.numByte {src d : Nat} [h : TInt P d .u8] {x : Operand} {k : IntKind} (n : Nat) {m : Int} (hs : (P.underlying src).isSome = true) (hx : ev F x = some (.val (.int k m))) (hm : m = (n : Int)) : Pv P Γ F L ⟨dst, .convert src d x, ty, pos, aft, g⟩ (byte (UInt8.ofNat n)) := by
  subst hm
  have := Pv.convI (P := P) (Γ := Γ) (L := L) (dst := dst) (ty := ty) (pos := pos) (aft := aft) (g := g) (d := d) hs hx
  rwa [wrap_u8] at this
theorem Cx.numByte {src d : Nat} [h : TInt P d .u8] {x : Operand} {k : IntKind} (n : Nat) {m : Int} (hs : (P.underlying src).isSome = true) (hx : ev F x = some (.val (.int k m))) (hm : m = (n : Int)) {d0 : Nat} {K : List (Nat × SV) → Prop} (hlt : Nat.blt d0 Γ.nt = true) (hr : SegC P Γ ops L ((d0, (byte (UInt8.ofNat n))) :: F) rest K) : SegC P Γ ops L F (⟨some d0, .convert src d x, ty, pos, aft, none⟩ :: rest) K :=
  SegC.q (Qs.pv (by apply Pv.numByte <;> assumption)) hlt hr
theorem Jx.numByte {src d : Nat} [h : TInt P d .u8] {x : Operand} {k : IntKind} (n : Nat) {m : Int} (hs : (P.underlying src).isSome = true) (hx : ev F x = some (.val (.int k m))) (hm : m = (n : Int)) {d0 : Nat} (hlt : Nat.blt d0 Γ.nt = true) (k : J P Γ ops Q ((d0, (byte (UInt8.ofNat n))) :: F) L rest) : J P Γ ops Q F L (⟨some d0, .convert src d x, ty, pos, aft, none⟩ :: rest) :=
  J.pv (by apply Pv.numByte <;> assumption) hlt k
theorem Pv.byteNum {src d : Nat} [h : TInt P d .i64] {x : Operand} {b : UInt8} (hs : (P.underlying src).isSome = true) (hx : ev F x = some (byte b)) : Pv P Γ F L ⟨dst, .convert src d x, ty, pos, aft, g⟩ (int b.toNat) := by
  have := Pv.convI (P := P) (Γ := Γ) (L := L) (dst := dst) (ty := ty) (pos := pos) (aft := aft) (g := g) (d := d) hs hx
  have hb := b.toNat_lt
  rwa [wrap_i64 (by omega)] at this
theorem Jx.byteNum {src d : Nat} [h : TInt P d .i64] {x : Operand} {b : UInt8} (hs : (P.underlying src).isSome = true) (hx : ev F x = some (byte b)) {d0 : Nat} (hlt : Nat.blt d0 Γ.nt = true) (k : J P Γ ops Q ((d0, (int b.toNat)) :: F) L rest) : J P Γ ops Q F L (⟨some d0, .convert src d x, ty, pos, aft, none⟩ :: rest) :=
  J.pv (by apply Pv.byteNum <;> assumption) hlt k
theorem Pv.convU64 {src d : Nat} [h : TInt P d .u64] {x : Operand} {k : IntKind} (n : Nat) {m : Int} (hs : (P.underlying src).isSome = true) (hx : ev F x = some (.val (.int k m))) (hm : m = (n : Int)) (hn : n < 18446744073709551616) : Pv P Γ F L ⟨dst, .convert src d x, ty, pos, aft, g⟩ (u64 n) := by
  subst hm
  have := Pv.convI (P := P) (Γ := Γ) (L := L) (dst := dst) (ty := ty) (pos := pos) (aft := aft) (g := g) (d := d) hs hx
  rwa [wrap_u64 hn] at this
theorem Jx.convU64 {src d : Nat} [h : TInt P d .u64] {x : Operand} {k : IntKind} (n : Nat) {m : Int} (hs : (P.underlying src).isSome = true) (hx : ev F x = some (.val (.int k m))) (hm : m = (n : Int)) (hn : n < 18446744073709551616) {d0 : Nat} (hlt : Nat.blt d0 Γ.nt = true) (k : J P Γ ops Q ((d0, (u64 n)) :: F) L rest) : J P Γ ops Q F L (⟨some d0, .convert src d x, ty, pos, aft, none⟩ :: rest) :=
  J.pv (by apply Pv.convU64 <;> assumption) hlt k
theorem Pv.mulU64 {t t2 : TypeId} {x y : Operand} {n : Nat} (c : Nat) (hx : ev F x = some (u64 n)) (hy : ev F y = some (.val (.int .u64 (c : Int)))) (hn : n * c < 18446744073709551616) : Pv P Γ F L ⟨dst, .binOp .mul t x y t2, ty, pos, aft, g⟩ (u64 (n * c)) := by
  have := Pv.mul (P := P) (Γ := Γ) (L := L) (dst := dst) (ty := ty) (pos := pos) (aft := aft) (g := g) (t := t) (t2 := t2) hx hy
  rwa [show ((n : Int) * (c : Int)) = ((n * c : Nat) : Int) by push_cast; rfl, wrap_u64 hn] at this
theorem Jx.mulU64 {t t2 : TypeId} {x y : Operand} {n : Nat} (c : Nat) (hx : ev F x = some (u64 n)) (hy : ev F y = some (.val (.int .u64 (c : Int)))) (hn : n * c < 18446744073709551616) {d0 : Nat} (hlt : Nat.blt d0 Γ.nt = true) (k : J P Γ ops Q ((d0, (u64 (n * c))) :: F) L rest) : J P Γ ops Q F L (⟨some d0, .binOp .mul t x y t2, ty, pos, aft, none⟩ :: rest) :=
  J.pv (by apply Pv.mulU64 <;> assumption) hlt k
theorem Pv.subU64 {t t2 : TypeId} {x y : Operand} {n c : Nat} (hx : ev F x = some (.val (.int .u64 (c : Int)))) (hy : ev F y = some (u64 n)) (hn : n ≤ c) (hc : c < 18446744073709551616) : Pv P Γ F L ⟨dst, .binOp .sub t x y t2, ty, pos, aft, g⟩ (u64 (c - n)) := by
  have := Pv.sub' (P := P) (Γ := Γ) (L := L) (dst := dst) (ty := ty) (pos := pos) (aft := aft) (g := g) (t := t) (t2 := t2) hx hy
  rwa [show ((c : Int) - (n : Int)) = ((c - n : Nat) : Int) by omega, wrap_u64 (by omega)] at this
theorem Jx.subU64 {t t2 : TypeId} {x y : Operand} {n c : Nat} (hx : ev F x = some (.val (.int .u64 (c : Int)))) (hy : ev F y = some (u64 n)) (hn : n ≤ c) (hc : c < 18446744073709551616) {d0 : Nat} (hlt : Nat.blt d0 Γ.nt = true) (k : J P Γ ops Q ((d0, (u64 (c - n))) :: F) L rest) : J P Γ ops Q F L (⟨some d0, .binOp .sub t x y t2, ty, pos, aft, none⟩ :: rest) :=
  J.pv (by apply Pv.subU64 <;> assumption) hlt k
theorem Pv.shrN {t t2 : TypeId} {x y : Operand} {k k2 : IntKind} {n s : Nat} {m : Int} (hx : ev F x = some (.val (.int k (n : Int)))) (hy : ev F y = some (.val (.int k2 m))) (hm : m = (s : Int)) (hs : s ≤ k.bits) : Pv P Γ F L ⟨dst, .binOp .shr t x y t2, ty, pos, aft, g⟩ (.val (.int k ((n / 2 ^ s : Nat) : Int))) := by
  subst hm
  have := Pv.shr (P := P) (Γ := Γ) (L := L) (dst := dst) (ty := ty) (pos := pos) (aft := aft) (g := g) (t := t) (t2 := t2) hx hy (Int.natCast_nonneg s)
  have e : (n : Int).fdiv (2 ^ Min.min (s : Int).toNat k.bits) = ((n / 2 ^ s : Nat) : Int) := by
    rw [Int.fdiv_eq_ediv_of_nonneg _ (by exact_mod_cast Nat.zero_le _), Int.toNat_natCast, Nat.min_eq_left hs]
    norm_cast
  rwa [e] at this
theorem Jx.shrN {t t2 : TypeId} {x y : Operand} {k k2 : IntKind} {n s : Nat} {m : Int} (hx : ev F x = some (.val (.int k (n : Int)))) (hy : ev F y = some (.val (.int k2 m))) (hm : m = (s : Int)) (hs : s ≤ k.bits) {d0 : Nat} (hlt : Nat.blt d0 Γ.nt = true) (k : J P Γ ops Q ((d0, (.val (.int k ((n / 2 ^ s : Nat) : Int)))) :: F) L rest) : J P Γ ops Q F L (⟨some d0, .binOp .shr t x y t2, ty, pos, aft, none⟩ :: rest) :=
  J.pv (by apply Pv.shrN <;> assumption) hlt k
theorem getElem?_map_lt {α : Type} (f : α → SV) (ws : List α) (d : α) (i : Nat) (h : i < ws.length) : (ws.map f)[i]? = some (f (ws.getD i d)) := by
  simp [List.getElem?_map, List.getD_eq_getElem?_getD, List.getElem?_eq_getElem h]
theorem Pv.indexA {T E by' n : Nat} {z : List Value} [h : TArr P T n E] [hI : TInfo P E 1 by' z] {x i : Operand} {k : IntKind} {b o : Nat} {m : Int} (j : Nat) (hx : ev F x = some (.val (.pointer (some ⟨b, o, none⟩))))
    (hi : ev F i = some (.val (.int k m))) (hm : m = (j : Int)) (h1 : j < n) : Pv P Γ F L ⟨dst, .indexAddr T x i, ty, pos, aft, g⟩ (.val (.pointer (some ⟨b, o + j, none⟩))) := by
  subst hm
  have := Pv.indexArr (P := P) (Γ := Γ) (L := L) (dst := dst) (ty := ty) (pos := pos) (aft := aft) (g := g) (T := T) hx hi (by omega) (by omega)
  simpa using this
theorem Pv.index0 {T E by' n : Nat} {z : List Value} [h : TArr P T n E] [hI : TInfo P E 1 by' z] {x i : Operand} {k : IntKind} {b : Nat} {m : Int} (j : Nat) (hx : ev F x = some (.val (.pointer (some ⟨b, 0, none⟩))))
    (hi : ev F i = some (.val (.int k m))) (hm : m = (j : Int)) (h1 : j < n) : Pv P Γ F L ⟨dst, .indexAddr T x i, ty, pos, aft, g⟩ (.val (.pointer (some ⟨b, j, none⟩))) := by
  have := Pv.indexA (P := P) (Γ := Γ) (L := L) (dst := dst) (ty := ty) (pos := pos) (aft := aft) (g := g) (T := T) j hx hi hm h1
  rwa [Nat.zero_add] at this
theorem Cx.index0 {T E by' n : Nat} {z : List Value} [h : TArr P T n E] [hI : TInfo P E 1 by' z] {x i : Operand} {k : IntKind} {b : Nat} {m : Int} (j : Nat) (hx : ev F x = some (.val (.pointer (some ⟨b, 0, none⟩))))
    (hi : ev F i = some (.val (.int k m))) (hm : m = (j : Int)) (h1 : j < n) {d0 : Nat} {K : List (Nat × SV) → Prop} (hlt : Nat.blt d0 Γ.nt = true) (hr : SegC P Γ ops L ((d0, (.val (.pointer (some ⟨b, j, none⟩)))) :: F) rest K) : SegC P Γ ops L F (⟨some d0, .indexAddr T x i, ty, pos, aft, none⟩ :: rest) K :=
  SegC.q (Qs.pv (by apply Pv.index0 <;> assumption)) hlt hr
theorem Jx.index0 {T E by' n : Nat} {z : List Value} [h : TArr P T n E] [hI : TInfo P E 1 by' z] {x i : Operand} {k : IntKind} {b : Nat} {m : Int} (j : Nat) (hx : ev F x = some (.val (.pointer (some ⟨b, 0, none⟩))))
    (hi : ev F i = some (.val (.int k m))) (hm : m = (j : Int)) (h1 : j < n) {d0 : Nat} (hlt : Nat.blt d0 Γ.nt = true) (k : J P Γ ops Q ((d0, (.val (.pointer (some ⟨b, j, none⟩)))) :: F) L rest) : J P Γ ops Q F L (⟨some d0, .indexAddr T x i, ty, pos, aft, none⟩ :: rest) :=
  J.pv (by apply Pv.index0 <;> assumption) hlt k
theorem Pv.loadA {α : Type} {T b j : Nat} [h : TSc P T] {x : Operand} (enc : α → SV) (d : α) (hx : ev F x = some (.val (.pointer (some ⟨b, j, none⟩)))) (i : Nat) {T' : TypeId} {ws : List α} (hi : L[i]? = some (.obj b T' (ws.map enc))) (hj : j < ws.length) :
    Pv P Γ F L ⟨dst, .load T x, ty, pos, aft, g⟩ (enc (ws.getD j d)) := Pv.load hx i hi (getElem?_map_lt enc ws d j hj)
theorem Cx.loadA {α : Type} {T b j : Nat} [h : TSc P T] {x : Operand} (enc : α → SV) (d : α) (hx : ev F x = some (.val (.pointer (some ⟨b, j, none⟩)))) (i : Nat) {T' : TypeId} {ws : List α} (hi : L[i]? = some (.obj b T' (ws.map enc))) (hj : j < ws.length) {d0 : Nat} {K : List (Nat × SV) → Prop} (hlt : Nat.blt d0 Γ.nt = true) (hr : SegC P Γ ops L ((d0, (enc (ws.getD j d))) :: F) rest K) : SegC P Γ ops L F (⟨some d0, .load T x, ty, pos, aft, none⟩ :: rest) K :=
  SegC.q (Qs.pv (by apply Pv.loadA <;> assumption)) hlt hr
theorem Jx.loadA {α : Type} {T b j : Nat} [h : TSc P T] {x : Operand} (enc : α → SV) (d : α) (hx : ev F x = some (.val (.pointer (some ⟨b, j, none⟩)))) (i : Nat) {T' : TypeId} {ws : List α} (hi : L[i]? = some (.obj b T' (ws.map enc))) (hj : j < ws.length) {d0 : Nat} (hlt : Nat.blt d0 Γ.nt = true) (k : J P Γ ops Q ((d0, (enc (ws.getD j d))) :: F) L rest) : J P Γ ops Q F L (⟨some d0, .load T x, ty, pos, aft, none⟩ :: rest) :=
  J.pv (by apply Pv.loadA <;> assumption) hlt k
theorem J.storeA {α : Type} {T b j : Nat} [h : TSc P T] {x y : Operand} (enc : α → SV) (v : α) (hx : ev F x = some (.val (.pointer (some ⟨b, j, none⟩)))) (hy : ev F y = some (enc v)) (h1 : One (enc v)) (i : Nat) {T' : TypeId} {ws : List α} {L' : List Own}
    (hi : L[i]? = some (.obj b T' (ws.map enc))) (hj : j < ws.length) (hL : L.set i (.obj b T' ((ws.set j v).map enc)) = L') (k : J P Γ ops Q F L' rest) : J P Γ ops Q F L (⟨none, .store T x y, ty, pos, aft, none⟩ :: rest) :=
  J.store hx hy h1 i hi (by simp only [List.length_map]; exact Nat.ble_eq_true_of_le hj) (by rw [List.map_set]) hL k
theorem Pv.loadArr {T b n : Nat} [h : TAg P T n] {x : Operand} {cs : List SV} (hn : cs.length = n) (hx : ev F x = some (.val (.pointer (some ⟨b, 0, none⟩)))) (i : Nat) {T' : TypeId} (hi : L[i]? = some (.obj b T' cs)) :
    Pv P Γ F L ⟨dst, .load T x, ty, pos, aft, g⟩ (.agg cs) := Pv.loadAg hx i hi (by rw [List.drop_zero, ← hn, List.take_length]) hn
theorem Jx.loadArr {T b n : Nat} [h : TAg P T n] {x : Operand} {cs : List SV} (hn : cs.length = n) (hx : ev F x = some (.val (.pointer (some ⟨b, 0, none⟩)))) (i : Nat) {T' : TypeId} (hi : L[i]? = some (.obj b T' cs)) {d0 : Nat} (hlt : Nat.blt d0 Γ.nt = true) (k : J P Γ ops Q ((d0, (.agg cs)) :: F) L rest) : J P Γ ops Q F L (⟨some d0, .load T x, ty, pos, aft, none⟩ :: rest) :=
  J.pv (by apply Pv.loadArr <;> assumption) hlt k
theorem J.storeArr {T b n : Nat} [h : TAg P T n] {x y : Operand} {ds : List SV} (hn : ds.length = n) (hx : ev F x = some (.val (.pointer (some ⟨b, 0, none⟩)))) (hy : ev F y = some (.agg ds)) (i : Nat) {T' : TypeId} {cs : List SV} {L' : List Own}
    (hi : L[i]? = some (.obj b T' cs)) (ho : cs.length = n) (hL : L.set i (.obj b T' ds) = L') (k : J P Γ ops Q F L' rest) : J P Γ ops Q F L (⟨none, .store T x y, ty, pos, aft, none⟩ :: rest) :=
  J.storeAg hx hy hn i hi (by rw [ho]; simp) (by rw [hn, ← ho]; simp) hL k
theorem Pv.indexAg {α : Type} {T E by' n : Nat} {z : List Value} [h : TArr P T n E] [hI : TInfo P E 1 by' z] [hs : TSc P E] {x i : Operand} {k : IntKind} {m : Int} (enc : α → SV) (d : α) {ws : List α} (j : Nat) (hx : ev F x = some (.agg (ws.map enc)))
    (hi : ev F i = some (.val (.int k m))) (hm : m = (j : Int)) (h1 : j < n) (h2 : j < ws.length) : Pv P Γ F L ⟨dst, .index T x i, ty, pos, aft, g⟩ (enc (ws.getD j d)) := fun ρ w hst => by
  subst hm
  have hr := hst.ev x (by simp [Op.operands]) _ hx
  have hiv := hst.evv (x := i) (by simp [Op.operands]) hi
  generalize hv : ρ x = v at hr
  cases hr with
  | agg _ vs hl h1' hr =>
    obtain ⟨u, hu, hru, _⟩ := RelL.at ⟨hl, h1', hr⟩ (getElem?_map_lt enc ws d j h2)
    refine ⟨u, ?_, hru⟩
    have hsz : (sizeOf E).run P w = .ok 1 w := sizeOf_of (by have := hI.ok; cases hq : P.info? E <;> simp_all) w
    have := run_part_sc hs w vs.toArray j u (by simpa using hu)
    simp [execOp, hv, hiv, Instr.index, asIntOf, run_underlying h.ok, hsz, h1, this]
theorem Jx.indexAg {α : Type} {T E by' n : Nat} {z : List Value} [h : TArr P T n E] [hI : TInfo P E 1 by' z] [hs : TSc P E] {x i : Operand} {k : IntKind} {m : Int} (enc : α → SV) (d : α) {ws : List α} (j : Nat) (hx : ev F x = some (.agg (ws.map enc)))
    (hi : ev F i = some (.val (.int k m))) (hm : m = (j : Int)) (h1 : j < n) (h2 : j < ws.length) {d0 : Nat} (hlt : Nat.blt d0 Γ.nt = true) (k : J P Γ ops Q ((d0, (enc (ws.getD j d))) :: F) L rest) : J P Γ ops Q F L (⟨some d0, .index T x i, ty, pos, aft, none⟩ :: rest) :=
  J.pv (by apply Pv.indexAg <;> assumption) hlt k
theorem Pv.sliceArrPtr {T E n N : Nat} [h : TArr P T N E] {x : Operand} {el : Nat → List SV} (cs : List SV) (hx : ev F x = some (.sl 1 n el)) (hn : N ≤ n) (h0 : 0 < N) (hl : cs.length = N) (hc : ∀ j, j < N → (el j).getD 0 .any = cs.getD j .any) :
    Pv P Γ F L ⟨dst, .sliceToArrayPointer T x, ty, pos, aft, g⟩ (.pp cs) := fun ρ w hst => by
  have hr := hst.ev x (by simp [Op.operands]) _ hx
  generalize hv : ρ x = v at hr
  cases hr with
  | sl _ _ _ a cap vs hcap hmax hb h1 hl' hr =>
    rcases hb with hb | ⟨b, off, rfl, hz, hcell⟩
    · omega
    · refine ⟨.pointer (some ⟨b, off, none⟩), ?_, ?_⟩
      · simp [execOp, hv, Instr.arrayAt, run_underlying h.ok, Nat.not_lt.2 hn]
      · refine .pp cs b off vs (by omega) hz (fun j hj => hcell j (by omega)) (fun j hj => h1 j (by omega)) (fun j hj => ?_)
        have := hr j 0 (by omega) (by omega)
        rw [hc j (by omega)] at this
        simpa using this
theorem Cx.sliceArrPtr {T E n N : Nat} [h : TArr P T N E] {x : Operand} {el : Nat → List SV} (cs : List SV) (hx : ev F x = some (.sl 1 n el)) (hn : N ≤ n) (h0 : 0 < N) (hl : cs.length = N) (hc : ∀ j, j < N → (el j).getD 0 .any = cs.getD j .any) {d0 : Nat} {K : List (Nat × SV) → Prop} (hlt : Nat.blt d0 Γ.nt = true) (hr : SegC P Γ ops L ((d0, (.pp cs)) :: F) rest K) : SegC P Γ ops L F (⟨some d0, .sliceToArrayPointer T x, ty, pos, aft, none⟩ :: rest) K :=
  SegC.q (Qs.pv (by apply Pv.sliceArrPtr <;> assumption)) hlt hr
theorem Pv.buildA {T E n sz sz' by' by2 : Nat} {z z2 : List Value} [hI : TInfo P T sz by' z] [hA : TArr P T n E] [hE : TInfo P E sz' by2 z2] {parts : List (Nat × Operand)} {ss cs' : List SV} (ha' : evs F (parts.map (·.2)) = some ss) (hok' : partsB ss = true)
    (hz1 : z.all (·.oneCell') = true) (hf : fillS ((List.range n).map fun i => (i * sz', sz')) (z.map .val) ((parts.map (·.1)).zip ss) = some cs') : Pv P Γ F L ⟨dst, .build T parts.toArray, ty, pos, aft, g⟩ (.agg cs') := fun ρ w hst => by
    have ha := evs_args ha'
    have hok := partsB_ok hok'
    obtain ⟨zv, hzr, hzc, i, hi, rfl, rfl, hiz⟩ := run_zero hI w
    have hsE : (sizeOf E).run P w = .ok sz' w := sizeOf_of (by have := hE.ok; cases hq : P.info? E <;> simp_all) w
    have hrel : ∀ {xs : List Operand} {ss : List SV}, Args F xs ss → (∀ x ∈ xs, x ∈ parts.map (·.2)) → xs.length = ss.length ∧ ∀ (j : Nat) (s : SV) (x : Operand), ss[j]? = some s → xs[j]? = some x → Rel (ZL Γ.Z L) w s (ρ x) := by
      intro xs ss h
      induction h with
      | nil => exact fun _ => ⟨rfl, by simp⟩
      | @cons x s xs ss h hr ih =>
        intro hm
        obtain ⟨i1, i2⟩ := ih (fun y hy => hm y (List.mem_cons_of_mem _ hy))
        refine ⟨by simp [i1], fun j s' x' hs hx => ?_⟩
        cases j with
        | zero =>
          simp at hs hx; subst hs; subst hx
          exact hst.ev _ (by simp only [Op.operands, List.map_toArray, List.toList_toArray]; exact hm _ (List.mem_cons_self ..)) _ h
        | succ j => exact i2 j s' x' (by simpa using hs) (by simpa using hx)
      | @sub x s t xs ss h hsub hr ih =>
        intro hm
        obtain ⟨i1, i2⟩ := ih (fun y hy => hm y (List.mem_cons_of_mem _ hy))
        refine ⟨by simp [i1], fun j s' x' hs hx => ?_⟩
        cases j with
        | zero =>
          simp at hs hx; subst hs; subst hx
          exact hsub _ _ _ (hst.ev _ (by simp only [Op.operands, List.map_toArray, List.toList_toArray]; exact hm _ (List.mem_cons_self ..)) _ h)
        | succ j => exact i2 j s' x' (by simpa using hs) (by simpa using hx)
    obtain ⟨hl, hall⟩ := hrel ha (fun x hx => hx)
    have hzrel : RelL (ZL Γ.Z L) w (z.map .val) zv.cells.toList := by rw [hzc]; exact RelL.vals z (by simpa [List.all_eq_true] using hz1)
    obtain ⟨cells', hfill, hr'⟩ := fill_rel (pl := (List.range n).map fun i => (i * sz', sz')) (place := fun i => some (i * sz', sz')) (fun k q hq => by
      simp only [List.getElem?_map] at hq
      cases hk : (List.range n)[k]? with
      | none => rw [hk] at hq; simp at hq
      | some m =>
        rw [hk] at hq
        obtain ⟨hlt, hm⟩ := List.getElem?_eq_some_iff.1 hk
        simp only [List.getElem_range] at hm
        subst hm
        simpa using hq) ((parts.map (·.1)).zip ss) (parts.map fun p => (p.1, ρ p.2)) (z.map .val) zv.cells cs' (by simp at hl ⊢; omega) (by
      intro j p v hp hv
      rw [List.getElem?_zip_eq_some] at hp
      simp only [List.getElem?_map] at hp hv
      cases hq : parts[j]? with
      | none => rw [hq] at hv; simp at hv
      | some q =>
        rw [hq] at hp hv
        simp only [Option.map_some, Option.some.injEq] at hp hv
        subst hv
        exact ⟨hp.1.symm, hok.mem _ (List.mem_of_getElem? hp.2), hall j p.2 q.2 hp.2 (by simp [hq])⟩) hzrel hf
    refine ⟨.agg cells', ?_, ?_⟩
    · have hpm : (parts.toArray.map fun (p : Nat × Operand) => (p.1, ρ p.2)).toList = parts.map fun p => (p.1, ρ p.2) := by simp
      simp only [execOp, Instr.build, Sem.run_bind, hzr, Result.andThen_ok, run_underlying hA.ok, Sem.run_pure, hsE]
      rw [hpm, hfill]
      rfl
    · have := hr'.agg
      simpa using this
theorem Jx.buildA {T E n sz sz' by' by2 : Nat} {z z2 : List Value} [hI : TInfo P T sz by' z] [hA : TArr P T n E] [hE : TInfo P E sz' by2 z2] {parts : List (Nat × Operand)} {ss cs' : List SV} (ha' : evs F (parts.map (·.2)) = some ss) (hok' : partsB ss = true)
    (hz1 : z.all (·.oneCell') = true) (hf : fillS ((List.range n).map fun i => (i * sz', sz')) (z.map .val) ((parts.map (·.1)).zip ss) = some cs') {d0 : Nat} (hlt : Nat.blt d0 Γ.nt = true) (k : J P Γ ops Q ((d0, (.agg cs')) :: F) L rest) : J P Γ ops Q F L (⟨some d0, .build T parts.toArray, ty, pos, aft, none⟩ :: rest) :=
  J.pv (by apply Pv.buildA <;> assumption) hlt k
theorem perm_erase : ∀ {L : List Own} {i : Nat} {o : Own}, L[i]? = some o → L.Perm (o :: L.eraseIdx i)
  | [], i, o, h => by simp at h
  | x :: L, 0, o, h => by simp at h; subst h; simp
  | x :: L, i + 1, o, h => by
    simp only [List.getElem?_cons_succ] at h
    simp only [List.eraseIdx_cons_succ]
    exact (List.Perm.cons x (perm_erase h)).trans (List.Perm.swap ..)
theorem perm_set {L : List Own} {i : Nat} {o o' : Own} (h : L[i]? = some o) : (o' :: L.eraseIdx i).Perm (L.set i o') := by
  have h1 : (L.set i o')[i]? = some o' := by
    obtain ⟨hlt, rfl⟩ := List.getElem?_eq_some_iff.1 h
    simp [hlt]
  have := perm_erase h1
  rw [List.eraseIdx_set_eq] at this
  exact this.symm
theorem J.call1 [Gl P] [Globs P Γ] {d f : Nat} [hT : TFunc P f] {xs : List Operand} {ts : Array TypeId} {args : List SV} {o : Own} {R : SV → List Own → Prop} (i : Nat) (hF : FnC P f args [o] R) (hi : L[i]? = some o) (ha : Args F xs args)
    (hlt : Nat.blt d Γ.nt = true) (hone : ∀ s Lc', R s Lc' → ∃ o', Lc' = [o']) (h : ∀ s o', R s [o'] → J P Γ ops Q ((d, s) :: F) (L.set i o') rest) :
    J P Γ ops Q F L (⟨some d, .call { callee := .value (.func f), args := xs.toArray, argTypes := ts }, ty, pos, aft, none⟩ :: rest) :=
  J.perm (perm_erase hi) (J.call (Lr := L.eraseIdx i) hF rfl ha hlt fun s Lc' hR => by
    obtain ⟨o', rfl⟩ := hone s Lc' hR
    exact J.perm (perm_set hi) (h s o' hR))
end
end Go.Sse
namespace Go.Sse
open Go Go.Sse
set_option linter.unusedVariables false
set_option linter.unusedSimpArgs false
section
variable {P : Program} {Γ : Ctx} {ops : Array Oper} {Q : Exit → Act → World → Prop} {F : List (Nat × SV)} {L : List Own} {rest : List Oper}
variable {dst : Option Tmp} {ty : TypeId} {pos : String} {aft : Array Edge} {g : Option (Nat × Bool)}
theorem Qs.sub {o : Oper} {s t : SV} (h : Qs P Γ F L o s) (hs : Sub s t) : Qs P Γ F L o t :=
  fun a w K Q hws hx hK => h a w K Q hws hx fun v w' hst hr => hK v w' hst (hs _ _ _ hr)
theorem parts_of : ∀ {k : Nat} {parts : List (Nat × Operand)} {ss : List SV}, evs F (parts.map (·.2)) = some ss → parts.map (·.1) = List.range' k parts.length → (∀ s ∈ ss, PartOK s) → Parts F k parts ss
  | k, [], ss, h, _, _ => by
    simp only [List.map_nil, evs, Option.some.injEq] at h
    subst h; exact .nil
  | k, (i, x) :: r, ss, h, hi, hok => by
    simp only [List.map_cons, evs] at h
    simp only [List.map_cons, List.length_cons, List.range'_succ, List.cons.injEq] at hi
    obtain ⟨rfl, hi⟩ := hi
    cases hx : ev F x with
    | none => rw [hx] at h; simp at h
    | some s =>
      rw [hx] at h
      cases hr : evs F (r.map (·.2)) with
      | none => rw [hr] at h; simp at h
      | some ss' =>
        rw [hr] at h
        simp only [Option.some.injEq] at h
        subst h
        exact .cons hx (hok s (List.mem_cons_self ..)) (parts_of hr hi fun s hs => hok s (List.mem_cons_of_mem _ hs))
theorem One.cells {s : SV} (h : One s) : cellsS s = [s] := by cases h <;> rfl
theorem Qs.buildL {α : Type} {t E by' len : Nat} {z0 : Value} [ht : TSlice P t E] [hI : TInfo P E 1 by' [z0]] {parts : List (Nat × Operand)} (enc1 : α → SV) (d : α) (l : List α) (h1 : ∀ a, One (enc1 a)) (ha : evs F (parts.map (·.2)) = some (l.map enc1)) (hi : parts.map (·.1) = List.range' 0 parts.length)
    (hl : l.length = len) (h0 : 0 < len) (hmax : len ≤ 16777216) (hz : z0.oneCell' = true) : Qs P Γ F L ⟨dst, .buildSlice t len parts.toArray, ty, pos, aft, g⟩ (.sl 1 l.length (elOf (fun a => [enc1 a]) d l)) := by
  have hp := parts_of ha hi (fun s hs => by obtain ⟨a, _, rfl⟩ := List.mem_map.1 hs; exact .one (h1 a))
  have hc : ∀ a, cellsS (enc1 a) = [enc1 a] := fun a => (h1 a).cells
  refine (Qs.buildSlice (sz := 1) (z := [z0]) hp (by simpa using hl) (fun s hs => by obtain ⟨a, _, rfl⟩ := List.mem_map.1 hs; rw [hc]; rfl) rfl (by omega) (by omega) (by simpa using hz)).sub ?_
  subst hl
  refine Sub.sl fun i hi => ?_
  simp only [elOf, List.getD_eq_getElem?_getD, List.getElem?_map, List.getElem?_eq_getElem hi, Option.map_some, Option.getD_some, hc]
theorem Qs.buildBytes {t E by' len : Nat} [ht : TSlice P t E] [hI : TInfo P E 1 by' [.int .u8 0]] {parts : List (Nat × Operand)} (l : List UInt8) (ha : evs F (parts.map (·.2)) = some (l.map byte)) (hi : parts.map (·.1) = List.range' 0 parts.length)
    (hl : l.length = len) (h0 : 0 < len) (hmax : len ≤ 16777216) : Qs P Γ F L ⟨dst, .buildSlice t len parts.toArray, ty, pos, aft, g⟩ (bsl l) := Qs.buildL byte 0 l (fun _ => .val rfl) ha hi hl h0 hmax rfl
theorem Qs.buildTexts {t E by' len : Nat} [ht : TSlice P t E] [hI : TInfo P E 1 by' [.string ⟨#[]⟩]] {parts : List (Nat × Operand)} (l : List (List UInt8)) (ha : evs F (parts.map (·.2)) = some (l.map str)) (hi : parts.map (·.1) = List.range' 0 parts.length)
    (hl : l.length = len) (h0 : 0 < len) (hmax : len ≤ 16777216) : Qs P Γ F L ⟨dst, .buildSlice t len parts.toArray, ty, pos, aft, g⟩ (ssl l) := Qs.buildL str [] l (fun _ => .val rfl) ha hi hl h0 hmax rfl
theorem SrcOK.row {xt E E' sz m : Nat} [h : TSlice P xt E] {x : Operand} {v : Value} {el2 : Nat → List SV} (hx : ev F x = some (.val v)) (i : Nat) (hi : L[i]? = some (.row v E' sz m el2)) : SrcOK P Γ F L sz xt x m el2 := by
  intro ρ w hws hev
  have hv : ρ x = v := (hev _ hx).val_eq
  rcases hws.holds _ (mem_of_idx hi) with ⟨rfl, rfl⟩ | ⟨b, cap, cur, fz, rfl, hbk, hu, hnc, hcm, hcs, hone, hell, hrel⟩
  · refine ⟨[], ⟨⟨_, h.ok, by simp⟩, fun w' => by rw [hv]; simp [Builtin.lenOf], ?_, ?_, by simp, by simp⟩, by intro i hi; omega, by intro i j hi; omega⟩
    · rw [hv]; simp [Builtin.firstCells]
    · rw [hv]; simp [Builtin.firstCells]
  · have hle : m * sz ≤ cur.size := by rw [hcs]; exact Nat.mul_le_mul_right _ hnc
    have hcell : ∀ w' : World, w'.heap = w.heap → (Builtin.firstCells sz m (.slice (some ⟨b, 0, none⟩) m cap)).run P w' = .ok (cur.toList.take (m * sz)).toArray w' := by
      intro w' hw
      refine run_firstCells_some (P := P) w' sz m ⟨b, 0, none⟩ m cap _ (by simp only [List.length_take, Array.length_toList]; omega) ?_
      intro j u hu
      have hj : j < m * sz := by
        rcases Nat.lt_or_ge j (m * sz) with h | h
        · exact h
        · rw [List.getElem?_eq_none (by simp only [List.length_take]; omega)] at hu; simp at hu
      rw [List.getElem?_take, if_pos hj] at hu
      rw [add_plain, Nat.zero_add]
      have : w'.cell? ⟨b, j, none⟩ = w.cell? ⟨b, j, none⟩ := by simp [World.cell?, hw]
      rw [this, obj_cell hbk]
      simpa using hu
    refine ⟨cur.toList.take (m * sz), ⟨⟨_, h.ok, by simp⟩, fun w' => by rw [hv]; simp [Builtin.lenOf], ?_, ?_, by simp only [List.length_take, Array.length_toList]; omega, fun u hu => hone u (List.mem_of_mem_take hu)⟩, hell, fun i' j hi' hj => ?_⟩
    · rw [hv]; exact hcell w rfl
    · rw [hv]; exact hcell w.drew rfl
    · have := idx_lt hi' hj
      have e : (cur.toList.take (m * sz)).getD (i' * sz + j) undef = cur.toList.getD (i' * sz + j) undef := by
        simp only [List.getD_eq_getElem?_getD, List.getElem?_take, this, if_true]
      rw [e]; exact hrel i' j hi' hj
theorem J.appendNil {α : Type} {d t xt E sz by' : Nat} {z : List Value} [ht : TSlice P t E] [hI : TInfo P E sz by' z] {x : Operand} {enc : α → List SV} {dd : α} {l2 : List α}
    (hx : SrcOK P Γ F (.row (.slice none 0 0) E sz 0 (elOf enc dd []) :: L) sz xt x l2.length (elOf enc dd l2)) (hz : z.length = sz) (hz1 : z.all (·.oneCell') = true)
    (hb : l2.length ≤ maxLen ∧ l2.length * by' ≤ 140737488355328) (hlt : Nat.blt d Γ.nt = true) (k : ∀ v', v'.oneCell' = true → J P Γ ops Q ((d, .val v') :: F) (.row v' E sz l2.length (elOf enc dd l2) :: L) rest) :
    J P Γ ops Q F L (⟨some d, .call { callee := .builtin .append, args := #[.const (.slice none 0 0), x], argTypes := #[t, xt] }, ty, pos, aft, none⟩ :: rest) :=
  J.rowNil E sz (elOf enc dd []) (J.appendL (l := []) (s := .const (.slice none 0 0)) rfl hx hz hz1 (by simpa using hb) hlt k)
theorem WSt.rowNil {w : World} (E sz : Nat) (el : Nat → List SV) (h : WSt Γ L w) : WSt Γ (.row (.slice none 0 0) E sz 0 el :: L) w :=
  ⟨h.os, h.tape, h.output, h.size, h.keep, h.zlt, h.nodup, h.foot, fun o ho => by
    rcases List.mem_cons.1 ho with rfl | ho
    · exact .inl ⟨rfl, rfl⟩
    · exact h.holds o ho⟩
theorem St.rowNil {a : Act} {w : World} (E sz : Nat) (el : Nat → List SV) (h : St Γ F L a w) : St Γ F (.row (.slice none 0 0) E sz 0 el :: L) a w := ⟨h.ws.rowNil E sz el, h.nt, h.df, h.fr⟩
theorem W.rowNil {c : Code} (E sz : Nat) (el : Nat → List SV) (h : W P Γ Q F (.row (.slice none 0 0) E sz 0 el :: L) c) : W P Γ Q F L c := ⟨fun a w hst => h.go a w (hst.rowNil E sz el)⟩
theorem N.rowNil {K : Act → World → Prop} (E sz : Nat) (el : Nat → List SV) (h : N Γ K F (.row (.slice none 0 0) E sz 0 el :: L)) : N Γ K F L := ⟨fun a w hst => h.go a w (hst.rowNil E sz el)⟩
theorem JP.rowNil {S idx : List Nat} (E sz : Nat) (el : Nat → List SV) (h : JP P Γ ops Q S idx F (.row (.slice none 0 0) E sz 0 el :: L)) : JP P Γ ops Q S idx F L :=
  ⟨fun k listed a w hp hk => h.go k listed a w ⟨hp.sz, hp.lo, hp.hi, hp.cl, hp.ws.rowNil E sz el, hp.nt, hp.df, hp.fr⟩ hk⟩
theorem JP.append {α : Type} {l : List Oper} {S idx : List Nat} {G : List (Nat × SV)} {d t xt E sz by' : Nat} {z : List Value} [ht : TSlice P t E] [hI : TInfo P E sz by' z] {s x : Operand} {v : Value} {enc : α → List SV} {dd : α} {m m2 : List α} (i : Nat) (ks S' idx' : List Nat) (hc : (okIdx l.toArray S idx && okStep l.toArray S idx i ks S' idx') = true)
    (hoi : l[i]? = some ⟨some d, .call { callee := .builtin .append, args := #[s, x], argTypes := #[t, xt] }, ty, pos, aft, g⟩) (hre : SegC P Γ l.toArray (.row v E sz m.length (elOf enc dd m) :: L) G (opsAt l idx) (Ag G idx.length))
    (hsv : ev (keep ks G) s = some (.val v)) (hx : SrcOK P Γ (keep ks G) (.row v E sz m.length (elOf enc dd m) :: L) sz xt x m2.length (elOf enc dd m2)) (hz : z.length = sz) (hz1 : z.all (·.oneCell') = true)
    (hb : m.length + m2.length ≤ maxLen ∧ (m.length + m2.length) * by' ≤ 140737488355328) (hlt : Nat.blt d Γ.nt = true)
    (k : ∀ v', v'.oneCell' = true → JP P Γ l.toArray Q S' idx' ((d, .val v') :: G) (.row v' E sz (m ++ m2).length (elOf enc dd (m ++ m2)) :: L)) : JP P Γ l.toArray Q S idx G (.row v E sz m.length (elOf enc dd m) :: L) :=
  JP.do1 i ks S' idx' hc hoi hre (OpS.appendRow hsv hx hz hz1 hb.1 hb.2 (el' := elOf enc dd (m ++ m2)) (fun i hi => elOf_append_left enc dd m m2 i hi) (fun i _ => elOf_append_right enc dd m m2 i)) hlt (by
    rintro r L' ⟨v', hv', rfl, rfl⟩
    have := k v' hv'
    rwa [List.length_append] at this)
theorem JP.call [Gl P] [Globs P Γ] {l : List Oper} {S idx : List Nat} {G : List (Nat × SV)} {d f : Nat} [hT : TFunc P f] {xs : List Operand} {ts : Array TypeId} {args : List SV} {Lc Lr : List Own} {R : SV → List Own → Prop} (i : Nat) (ks S' idx' : List Nat) (hF : FnC P f args Lc R) (hL : L = Lc ++ Lr) (hc : (okIdx l.toArray S idx && okStep l.toArray S idx i ks S' idx') = true)
    (hoi : l[i]? = some ⟨some d, .call { callee := .value (.func f), args := xs.toArray, argTypes := ts }, ty, pos, aft, g⟩) (hre : SegC P Γ l.toArray L G (opsAt l idx) (Ag G idx.length)) (ha : Args (keep ks G) xs args) (hlt : Nat.blt d Γ.nt = true)
    (k : ∀ s Lc', R s Lc' → JP P Γ l.toArray Q S' idx' ((d, s) :: G) (Lc' ++ Lr)) : JP P Γ l.toArray Q S idx G L :=
  JP.do1 i ks S' idx' hc hoi hre (OpS.call hF hL ha) hlt (by rintro s L' ⟨Lc', hR, rfl⟩; exact k s Lc' hR)
theorem JP.storeAg {l : List Oper} {S idx : List Nat} {G : List (Nat × SV)} {T b o n : Nat} [hT : TAg P T n] {x y : Operand} (i : Nat) (ks S' idx' : List Nat) (hc : (okIdx l.toArray S idx && okStep l.toArray S idx i ks S' idx') = true) (hoi : l[i]? = some ⟨none, .store T x y, ty, pos, aft, g⟩)
    (hre : SegC P Γ l.toArray L G (opsAt l idx) (Ag G idx.length)) (hx : ev (keep ks G) x = some (.val (.pointer (some ⟨b, o, none⟩)))) {ds : List SV} (hy : ev (keep ks G) y = some (.agg ds)) (hn : ds.length = n) (j : Nat) {T' : TypeId} {cs cs' : List SV} {L' : List Own}
    (hj : L[j]? = some (.obj b T' cs)) (ho : Nat.ble (o + n) cs.length = true) (hcs : cs.take o ++ ds ++ cs.drop (o + ds.length) = cs') (hL : L.set j (.obj b T' cs') = L') (k : JP P Γ l.toArray Q S' idx' G L') : JP P Γ l.toArray Q S idx G L :=
  JP.do0 i ks S' idx' hc hoi hre (OpS.storeAg hx hy hn j hj (Nat.le_of_ble_eq_true ho)) (by rintro sv L'' rfl; rw [hcs, hL]; exact k)
theorem J.appendAt {α : Type} {d t xt E sz by' : Nat} {z : List Value} [ht : TSlice P t E] [hI : TInfo P E sz by' z] {s x : Operand} {v : Value} {enc : α → List SV} {dd : α} {l l2 : List α} (i : Nat)
    (hi : L[i]? = some (.row v E sz l.length (elOf enc dd l)))
    (hsv : ev (F := F) s = some (.val v)) (hx : SrcOK P Γ F (.row v E sz l.length (elOf enc dd l) :: L.eraseIdx i) sz xt x l2.length (elOf enc dd l2)) (hz : z.length = sz) (hz1 : z.all (·.oneCell') = true)
    (hb : l.length + l2.length ≤ maxLen ∧ (l.length + l2.length) * by' ≤ 140737488355328) (hlt : Nat.blt d Γ.nt = true) (k : ∀ v', v'.oneCell' = true → J P Γ ops Q ((d, .val v') :: F) (L.set i (.row v' E sz (l ++ l2).length (elOf enc dd (l ++ l2)))) rest) :
    J P Γ ops Q F L (⟨some d, .call { callee := .builtin .append, args := #[s, x], argTypes := #[t, xt] }, ty, pos, aft, none⟩ :: rest) :=
  J.perm (perm_erase hi) (J.appendL hsv hx hz hz1 hb hlt fun v' hv' => J.perm (perm_set hi) (k v' hv'))
theorem W.freezeAt {c : Code} (j i : Nat) {v : Value} {E sz n : Nat} {el : Nat → List SV} (hj : L[j]? = some (.row v E sz n el)) (hi : look F i = some (.val v)) (hmax : n ≤ maxLen) (h : W P Γ Q ((i, .sl sz n el) :: F) (L.eraseIdx j) c) : W P Γ Q F L c :=
  W.perm (perm_erase hj) (W.freeze i hi hmax h)
theorem Sub.slOf {α : Type} {sz n : Nat} {el : Nat → List SV} {enc : α → List SV} {d : α} {l : List α} (hn : n = l.length) (h : ∀ i, i < n → el i = enc (l.getD i d)) : Sub (.sl sz n el) (.sl sz l.length (elOf enc d l)) := by
  subst hn; exact Sub.sl h
theorem Pv.takeL {α : Type} {T E sz by' : Nat} {z : List Value} [h : TSlice P T E] [hI : TInfo P E sz by' z] {x j : Operand} {k : IntKind} {m : Int} {enc : α → List SV} {d : α} {l : List α} (c : Nat) (hx : ev F x = some (.sl sz l.length (elOf enc d l))) (hj : ev F j = some (.val (.int k m))) (hm : m = (c : Int)) (hc : c ≤ l.length) :
    Pv P Γ F L ⟨dst, .slice T x none (some j) none, ty, pos, aft, g⟩ (.sl sz (l.take c).length (elOf enc d (l.take c))) := by
  subst hm
  refine (Pv.slSh hx hj (by omega) (by omega)).sub (Sub.slOf (by rw [List.length_take, Int.toNat_natCast]; omega) fun i hi => ?_)
  simp only [Int.toNat_natCast] at hi
  simp only [elOf, List.getD_eq_getElem?_getD, List.getElem?_take, hi, if_true]
theorem Cx.takeL {α : Type} {T E sz by' : Nat} {z : List Value} [h : TSlice P T E] [hI : TInfo P E sz by' z] {x j : Operand} {k : IntKind} {m : Int} {enc : α → List SV} {d : α} {l : List α} (c : Nat) (hx : ev F x = some (.sl sz l.length (elOf enc d l))) (hj : ev F j = some (.val (.int k m))) (hm : m = (c : Int)) (hc : c ≤ l.length) {d0 : Nat} {K : List (Nat × SV) → Prop} (hlt : Nat.blt d0 Γ.nt = true) (hr : SegC P Γ ops L ((d0, (.sl sz (l.take c).length (elOf enc d (l.take c)))) :: F) rest K) : SegC P Γ ops L F (⟨some d0, .slice T x none (some j) none, ty, pos, aft, none⟩ :: rest) K :=
  SegC.q (Qs.pv (by apply Pv.takeL <;> assumption)) hlt hr
theorem Pv.dropL {α : Type} {T E sz by' : Nat} {z : List Value} [h : TSlice P T E] [hI : TInfo P E sz by' z] {x j : Operand} {k : IntKind} {m : Int} {enc : α → List SV} {d : α} {l : List α} (c : Nat) (hx : ev F x = some (.sl sz l.length (elOf enc d l))) (hj : ev F j = some (.val (.int k m))) (hm : m = (c : Int)) (hc : c ≤ l.length) :
    Pv P Γ F L ⟨dst, .slice T x (some j) none none, ty, pos, aft, g⟩ (.sl sz (l.drop c).length (elOf enc d (l.drop c))) := by
  subst hm
  refine (Pv.slSl hx hj (by omega) (by omega)).sub (Sub.slOf (by rw [List.length_drop, Int.toNat_natCast]) fun i hi => ?_)
  simp only [elOf, List.getD_eq_getElem?_getD, List.getElem?_drop, Int.toNat_natCast]
theorem Jx.dropL {α : Type} {T E sz by' : Nat} {z : List Value} [h : TSlice P T E] [hI : TInfo P E sz by' z] {x j : Operand} {k : IntKind} {m : Int} {enc : α → List SV} {d : α} {l : List α} (c : Nat) (hx : ev F x = some (.sl sz l.length (elOf enc d l))) (hj : ev F j = some (.val (.int k m))) (hm : m = (c : Int)) (hc : c ≤ l.length) {d0 : Nat} (hlt : Nat.blt d0 Γ.nt = true) (k : J P Γ ops Q ((d0, (.sl sz (l.drop c).length (elOf enc d (l.drop c)))) :: F) L rest) : J P Γ ops Q F L (⟨some d0, .slice T x (some j) none none, ty, pos, aft, none⟩ :: rest) :=
  J.pv (by apply Pv.dropL <;> assumption) hlt k
theorem Pv.lenRow {T E : Nat} [h : TSlice P T E] {x : Operand} {v : Value} {E' sz n : Nat} {el : Nat → List SV} (hx : ev F x = some (.val v)) (i : Nat) (hi : L[i]? = some (.row v E' sz n el)) :
    Pv P Γ F L ⟨dst, .call { callee := .builtin .len, args := #[x], argTypes := #[T] }, ty, pos, aft, g⟩ (int n) := fun ρ w hst => by
  have hv := hst.evv (x := x) (by simp [Op.operands, Call.operands]) hx
  rcases hst.ws.holds _ (mem_of_idx hi) with ⟨rfl, rfl⟩ | ⟨b, cap, cur, fz, rfl, _⟩
  · exact ⟨_, by simp [execOp, resolve, invoke, builtin, hv, Builtin.len_, run_underlying h.ok, goInt], .val _⟩
  · exact ⟨_, by simp [execOp, resolve, invoke, builtin, hv, Builtin.len_, run_underlying h.ok, goInt], .val _⟩
theorem Jx.lenRow {T E : Nat} [h : TSlice P T E] {x : Operand} {v : Value} {E' sz n : Nat} {el : Nat → List SV} (hx : ev F x = some (.val v)) (i : Nat) (hi : L[i]? = some (.row v E' sz n el)) {d0 : Nat} (hlt : Nat.blt d0 Γ.nt = true) (k : J P Γ ops Q ((d0, (int n)) :: F) L rest) : J P Γ ops Q F L (⟨some d0, .call { callee := .builtin .len, args := #[x], argTypes := #[T] }, ty, pos, aft, none⟩ :: rest) :=
  J.pv (by apply Pv.lenRow <;> assumption) hlt k
end
end Go.Sse
namespace Go.Sse
open Go Go.Sse
set_option linter.unusedVariables false
set_option linter.unusedSimpArgs false
inductive Leaf where
  | b | i (k : IntKind) | s
def Leaf.fits : Leaf → Value → Bool
  | .b, .bool _ => true
  | .i k, .int k' _ => decide (k = k')
  | .s, .string _ => true
  | _, _ => false
def fitsL : List Leaf → List Value → Bool
  | [], [] => true
  | l :: ls, v :: vs => l.fits v && fitsL ls vs
  | _, _ => false
theorem fitsL_len : ∀ {ls : List Leaf} {vs : List Value}, fitsL ls vs = true → vs.length = ls.length
  | [], [], _ => rfl
  | l :: ls, v :: vs, h => by simp only [fitsL, Bool.and_eq_true] at h; simp [fitsL_len h.2]
  | [], v :: vs, h => by simp [fitsL] at h
  | l :: ls, [], h => by simp [fitsL] at h
theorem fitsL_append : ∀ {as1 bs : List Leaf} {vs : List Value}, fitsL (as1 ++ bs) vs = true → fitsL as1 (vs.take as1.length) = true ∧ fitsL bs (vs.drop as1.length) = true
  | [], bs, vs, h => by simpa [fitsL] using h
  | a :: as1, bs, [], h => by simp [fitsL] at h
  | a :: as1, bs, v :: vs, h => by
    simp only [List.cons_append, fitsL, Bool.and_eq_true] at h
    obtain ⟨h1, h2⟩ := fitsL_append h.2
    simp [fitsL, h.1, h1, h2]
def leafFields (P : Program) (g : TypeId → Option (List Leaf)) : List Field → Nat → Option (List Leaf)
  | [], _ => some []
  | f :: fs, off => if f.offset = off ∧ f.name ≠ "_" then
      match g f.type with
      | some l => if P.cellsOf f.type = l.length then (leafFields P g fs (off + l.length)).map (l ++ ·) else none
      | none => none
    else none
def leavesAt (P : Program) : Nat → TypeId → Option (List Leaf)
  | 0, _ => none
  | d + 1, t => match P.underlying t with
    | some .bool => some [.b]
    | some (.int k) => some [.i k]
    | some .string => some [.s]
    | some (.array n e) => match leavesAt P d e with
      | some l => if P.cellsOf e = l.length then some (List.replicate n l).flatten else none
      | none => none
    | some (.struct fs) => if P.stoodInHeld t = true then none else leafFields P (leavesAt P d) fs.toList 0
    | _ => none
def isAggD : Option TypeDesc → Bool
  | some (.struct _) | some (.array _ _) => true
  | _ => false
def Shp (P : Program) (t : TypeId) (ls : List Leaf) (x : Value) : Prop :=
  if isAggD (P.underlying t) = true then ∃ cs, x = .agg cs ∧ fitsL ls cs.toList = true else fitsL ls [x] = true
def EqOK (P : Program) (dd : Nat) (t : TypeId) (ls : List Leaf) : Prop :=
  ∀ (w : World) (x y : Value), Shp P t ls x → Shp P t ls y → ∃ r : Bool, (Op.equalIn dd t x y).run P w = .ok r w ∧ (r = true ↔ x = y)
section
variable {P : Program}
theorem run_part_leaf {e : TypeId} {d : Nat} {l : List Leaf} {xs : Array Value} {off : Nat} (w : World) (hl : leavesAt P d e = some l) (hc : P.cellsOf e = l.length) (hf : fitsL l ((xs.toList.drop off).take l.length) = true) :
    ∃ a, (part e xs off).run P w = .ok a w ∧ Shp P e l a ∧ ((isAggD (P.underlying e) = true ∧ a = .agg ((xs.toList.drop off).take l.length).toArray) ∨ (isAggD (P.underlying e) = false ∧ (xs.toList.drop off).take l.length = [a])) := by
  cases d with
  | zero => simp [leavesAt] at hl
  | succ d =>
    cases hu : P.underlying e with
    | none => simp [leavesAt, hu] at hl
    | some kd =>
      have one : ∀ lf : Leaf, l = [lf] → isAggD (some kd) = false → (∀ w : World, (isAgg e).run P w = .ok false w) → ∃ a, (part e xs off).run P w = .ok a w ∧ Shp P e l a ∧ ((isAggD (some kd) = true ∧ a = .agg ((xs.toList.drop off).take l.length).toArray) ∨ (isAggD (some kd) = false ∧ (xs.toList.drop off).take l.length = [a])) := by
        intro lf hlf hk hag
        subst hlf
        have hlen := fitsL_len hf
        simp only [List.length_cons, List.length_nil, Nat.zero_add] at hlen hf ⊢
        obtain ⟨a, ha⟩ := List.length_eq_one_iff.1 hlen
        have hx : xs[off]? = some a := by
          have : ((xs.toList.drop off).take 1)[0]? = some a := by rw [ha]; rfl
          simpa using this
        refine ⟨a, by simp [part, hag, hx], ?_, .inr ⟨hk, ha⟩⟩
        unfold Shp
        rw [hu, if_neg (by rw [hk]; simp), ← ha]
        exact hf
      have agg : isAggD (some kd) = true → (∀ w : World, (isAgg e).run P w = .ok true w) → ∃ a, (part e xs off).run P w = .ok a w ∧ Shp P e l a ∧ ((isAggD (some kd) = true ∧ a = .agg ((xs.toList.drop off).take l.length).toArray) ∨ (isAggD (some kd) = false ∧ (xs.toList.drop off).take l.length = [a])) := by
        intro hk hag
        obtain ⟨i, hi⟩ := info_of_underlying hu
        have hsz : i.size = l.length := by rw [← hc]; simp [Program.cellsOf, hi]
        have hl' : (xs.extract off (off + l.length)) = ((xs.toList.drop off).take l.length).toArray := by
          apply Array.ext'
          simp [List.extract_eq_take_drop]
        refine ⟨.agg ((xs.toList.drop off).take l.length).toArray, ?_, ?_, .inl ⟨hk, rfl⟩⟩
        · simp [part, hag, run_sizeOf w hi, hc, hl']
        · unfold Shp
          rw [hu, if_pos hk]
          exact ⟨_, rfl, hf⟩
      cases kd
      case bool => simp only [leavesAt, hu, Option.some.injEq] at hl; exact one _ hl.symm rfl (fun w => by simp [isAgg, run_underlying hu])
      case int k => simp only [leavesAt, hu, Option.some.injEq] at hl; exact one _ hl.symm rfl (fun w => by simp [isAgg, run_underlying hu])
      case string => simp only [leavesAt, hu, Option.some.injEq] at hl; exact one _ hl.symm rfl (fun w => by simp [isAgg, run_underlying hu])
      case array n e' => exact agg rfl (fun w => by simp [isAgg, run_underlying hu])
      case struct fs => exact agg rfl (fun w => by simp [isAgg, run_underlying hu])
      all_goals (simp [leavesAt, hu] at hl; done)
theorem part_eq_iff {k : Bool} {a b : Value} {as1 bs : List Value} (ha : (k = true ∧ a = .agg as1.toArray) ∨ (k = false ∧ as1 = [a])) (hb : (k = true ∧ b = .agg bs.toArray) ∨ (k = false ∧ bs = [b])) : a = b ↔ as1 = bs := by
  rcases ha with ⟨h1, rfl⟩ | ⟨h1, rfl⟩
  · rcases hb with ⟨h2, rfl⟩ | ⟨h2, rfl⟩
    · simp
    · rw [h1] at h2; cases h2
  · rcases hb with ⟨h2, rfl⟩ | ⟨h2, rfl⟩
    · rw [h1] at h2; cases h2
    · simp
theorem eqFields_leaf {d dd : Nat} (IH : ∀ t l, leavesAt P d t = some l → EqOK P dd t l) (w : World) (xs ys : Array Value) : ∀ (fs : List Field) (off : Nat) (ls : List Leaf), leafFields P (leavesAt P d) fs off = some ls → fitsL ls (xs.toList.drop off) = true → fitsL ls (ys.toList.drop off) = true →
    ∃ r : Bool, (Op.eqFields dd xs ys fs).run P w = .ok r w ∧ (r = true ↔ xs.toList.drop off = ys.toList.drop off)
  | [], off, ls, h, hx, hy => by
    simp only [leafFields, Option.some.injEq] at h
    subst h
    have h1 := fitsL_len hx; have h2 := fitsL_len hy
    simp only [List.length_nil] at h1 h2
    refine ⟨true, by simp [Op.eqFields], ?_⟩
    rw [List.eq_nil_of_length_eq_zero h1, List.eq_nil_of_length_eq_zero h2]
    simp
  | f :: fs, off, ls, h, hx, hy => by
    unfold leafFields at h
    split at h
    · rename_i hof
      obtain ⟨rfl, hnm⟩ := hof
      split at h
      · rename_i l hl
        split at h
        · rename_i hc
          cases hr : leafFields P (leavesAt P d) fs (f.offset + l.length) with
          | none => rw [hr] at h; simp at h
          | some ls' =>
            rw [hr] at h
            simp only [Option.map_some, Option.some.injEq] at h
            subst h
            obtain ⟨x1, x2⟩ := fitsL_append hx
            obtain ⟨y1, y2⟩ := fitsL_append hy
            rw [List.drop_drop] at x2 y2
            obtain ⟨a, pa, sa, ea⟩ := run_part_leaf w hl hc x1
            obtain ⟨b, pb, sb, eb⟩ := run_part_leaf w hl hc y1
            obtain ⟨r, hr1, hr2⟩ := IH f.type l hl w a b sa sb
            have hab := part_eq_iff ea eb
            obtain ⟨r', hr1', hr2'⟩ := eqFields_leaf IH w xs ys fs (f.offset + l.length) ls' hr x2 y2
            have split2 : xs.toList.drop f.offset = ys.toList.drop f.offset ↔ ((xs.toList.drop f.offset).take l.length = (ys.toList.drop f.offset).take l.length ∧ xs.toList.drop (f.offset + l.length) = ys.toList.drop (f.offset + l.length)) := by
              constructor
              · intro h; rw [← List.drop_drop, ← List.drop_drop, h]; exact ⟨rfl, rfl⟩
              · rintro ⟨h1, h2⟩
                rw [← List.drop_drop, ← List.drop_drop] at h2
                rw [← List.take_append_drop l.length (xs.toList.drop f.offset), ← List.take_append_drop l.length (ys.toList.drop f.offset), h1, h2]
            have hn : ¬ f.name = "_" := hnm
            cases r with
            | false =>
              refine ⟨false, by simp [Op.eqFields, hn, pa, pb, hr1], ?_⟩
              simp only [Bool.false_eq_true, false_iff]
              intro he
              have := hr2.2 (hab.2 (split2.1 he).1)
              cases this
            | true =>
              refine ⟨r', by simp [Op.eqFields, hn, pa, pb, hr1, hr1'], ?_⟩
              rw [hr2', split2]
              exact ⟨fun h => ⟨hab.1 (hr2.1 rfl), h⟩, fun h => h.2⟩
        · cases h
      · cases h
    · cases h
theorem eqItems_leaf {d dd : Nat} {e : TypeId} {l : List Leaf} (hl : leavesAt P d e = some l) (hc : P.cellsOf e = l.length) (IH : EqOK P dd e l) (w : World) (xs ys : Array Value) : ∀ (js : List Nat), (∀ j ∈ js, fitsL l ((xs.toList.drop (j * l.length)).take l.length) = true ∧ fitsL l ((ys.toList.drop (j * l.length)).take l.length) = true) →
    ∃ r : Bool, (Op.eqItems dd e (P.cellsOf e) xs ys js).run P w = .ok r w ∧ (r = true ↔ ∀ j ∈ js, (xs.toList.drop (j * l.length)).take l.length = (ys.toList.drop (j * l.length)).take l.length)
  | [], _ => ⟨true, by simp [Op.eqItems], by simp⟩
  | j :: js, h => by
    obtain ⟨x1, y1⟩ := h j (List.mem_cons_self ..)
    obtain ⟨a, pa, sa, ea⟩ := run_part_leaf w hl hc x1
    obtain ⟨b, pb, sb, eb⟩ := run_part_leaf w hl hc y1
    obtain ⟨r, hr1, hr2⟩ := IH w a b sa sb
    have hab := part_eq_iff ea eb
    obtain ⟨r', hr1', hr2'⟩ := eqItems_leaf hl hc IH w xs ys js fun k hk => h k (List.mem_cons_of_mem _ hk)
    rw [hc] at hr1' ⊢
    cases r with
    | false =>
      refine ⟨false, by simp [Op.eqItems, pa, pb, hr1], ?_⟩
      simp only [Bool.false_eq_true, false_iff]
      intro he
      have := hr2.2 (hab.2 (he j (List.mem_cons_self ..)))
      cases this
    | true =>
      refine ⟨r', by simp [Op.eqItems, pa, pb, hr1, hr1'], ?_⟩
      rw [hr2']
      constructor
      · intro h k hk
        rcases List.mem_cons.1 hk with rfl | hk
        · exact hab.1 (hr2.1 rfl)
        · exact h k hk
      · exact fun h k hk => h k (List.mem_cons_of_mem _ hk)
theorem fits_rep : ∀ {n : Nat} {l : List Leaf} {vs : List Value}, fitsL (List.replicate n l).flatten vs = true → vs.length = n * l.length ∧ ∀ j, j < n → fitsL l ((vs.drop (j * l.length)).take l.length) = true
  | 0, l, vs, h => by
    have := fitsL_len h
    exact ⟨by simpa using this, by omega⟩
  | n + 1, l, vs, h => by
    rw [List.replicate_succ, List.flatten_cons] at h
    obtain ⟨h1, h2⟩ := fitsL_append h
    obtain ⟨h3, h4⟩ := fits_rep h2
    have h5 := fitsL_len h1
    rw [List.length_take] at h5
    rw [List.length_drop] at h3
    refine ⟨by rw [Nat.add_mul, Nat.one_mul]; omega, fun j hj => ?_⟩
    cases j with
    | zero => simpa using h1
    | succ j =>
      have := h4 j (by omega)
      rw [List.drop_drop] at this
      rwa [show (j + 1) * l.length = l.length + j * l.length by rw [Nat.add_mul, Nat.one_mul]; omega]
theorem chunks_eq {n m : Nat} {xs ys : List Value} (hx : xs.length = n * m) (hy : ys.length = n * m) (h : ∀ j, j < n → (xs.drop (j * m)).take m = (ys.drop (j * m)).take m) : xs = ys := by
  induction n generalizing xs ys with
  | zero =>
    have h1 : xs = [] := List.eq_nil_of_length_eq_zero (by simpa using hx)
    have h2 : ys = [] := List.eq_nil_of_length_eq_zero (by simpa using hy)
    rw [h1, h2]
  | succ n ih =>
    rw [Nat.add_mul, Nat.one_mul] at hx hy
    have h0 := h 0 (by omega)
    simp only [Nat.zero_mul, List.drop_zero] at h0
    have h1 := ih (xs := xs.drop m) (ys := ys.drop m) (by rw [List.length_drop]; omega) (by rw [List.length_drop]; omega) fun j hj => by
      have := h (j + 1) (by omega)
      rw [Nat.add_mul, Nat.one_mul, Nat.add_comm (j * m) m] at this
      rw [List.drop_drop, List.drop_drop]; exact this
    rw [← List.take_append_drop m xs, ← List.take_append_drop m ys, h0, h1]
theorem eq_leaf (d' : Nat) : ∀ (m : Nat) (t : TypeId) (ls : List Leaf), leavesAt P m t = some ls → EqOK P (d' + m) t ls
  | 0, t, ls, h => by simp [leavesAt] at h
  | m + 1, t, ls, h => by
    intro w x y hx hy
    cases hu : P.underlying t with
    | none => simp [leavesAt, hu] at h
    | some kd =>
      unfold Shp at hx hy
      rw [hu] at hx hy
      cases kd
      case bool =>
        simp only [leavesAt, hu, Option.some.injEq] at h; subst h
        simp only [isAggD, Bool.false_eq_true, if_false] at hx hy
        cases x <;> simp [fitsL, Leaf.fits] at hx
        cases y <;> simp [fitsL, Leaf.fits] at hy
        exact ⟨_, run_equalIn_bool' w (d' + m) t _ _ hu, by simp⟩
      case int k =>
        simp only [leavesAt, hu, Option.some.injEq] at h; subst h
        simp only [isAggD, Bool.false_eq_true, if_false] at hx hy
        cases x <;> simp [fitsL, Leaf.fits] at hx
        cases y <;> simp [fitsL, Leaf.fits] at hy
        subst hx; subst hy
        exact ⟨_, run_equalIn_int w (d' + m) t _ _ _ _ hu, by simp⟩
      case string =>
        simp only [leavesAt, hu, Option.some.injEq] at h; subst h
        simp only [isAggD, Bool.false_eq_true, if_false] at hx hy
        cases x <;> simp [fitsL, Leaf.fits] at hx
        cases y <;> simp [fitsL, Leaf.fits] at hy
        rename_i a b
        exact ⟨_, run_equalIn_string w (d' + m) t _ _ hu, by
          rw [beq_iff_eq, ByteArray.toList_eq, ByteArray.toList_eq]
          obtain ⟨⟨a⟩⟩ := a
          obtain ⟨⟨b⟩⟩ := b
          simp⟩
      case array n e =>
        simp only [isAggD, if_true] at hx hy
        obtain ⟨xs, rfl, fx⟩ := hx
        obtain ⟨ys, rfl, fy⟩ := hy
        unfold leavesAt at h
        simp only [hu] at h
        split at h
        · rename_i l hl
          split at h
          · rename_i hc
            simp only [Option.some.injEq] at h
            subst h
            obtain ⟨lx, hx⟩ := fits_rep fx
            obtain ⟨ly, hy⟩ := fits_rep fy
            have hpe : ∃ i, P.info? e = some i := by
              cases m with
              | zero => simp [leavesAt] at hl
              | succ m' =>
                cases hue : P.underlying e with
                | none => simp [leavesAt, hue] at hl
                | some _ => exact info_of_underlying hue
            obtain ⟨i, hi⟩ := hpe
            obtain ⟨r, hr1, hr2⟩ := eqItems_leaf hl hc (eq_leaf d' m e l hl) w xs ys (List.range n) fun j hj => ⟨hx j (List.mem_range.1 hj), hy j (List.mem_range.1 hj)⟩
            refine ⟨r, by rw [show d' + (m + 1) = (d' + m) + 1 from rfl, run_equalIn_array w (d' + m) xs ys hu hi]; exact hr1, ?_⟩
            rw [hr2]
            constructor
            · intro h
              have := chunks_eq lx ly fun j hj => h j (List.mem_range.2 hj)
              rw [Array.toList_inj.1 this]
            · intro h; cases h; exact fun _ _ => rfl
          · cases h
        · cases h
      case struct fs =>
        simp only [isAggD, if_true] at hx hy
        obtain ⟨xs, rfl, fx⟩ := hx
        obtain ⟨ys, rfl, fy⟩ := hy
        unfold leavesAt at h
        simp only [hu] at h
        split at h
        · cases h
        · rename_i hst
          have hfs : P.fieldsOf t = fs := by simp [Program.fieldsOf, hu]
          obtain ⟨r, hr1, hr2⟩ := eqFields_leaf (eq_leaf d' m) w xs ys fs.toList 0 ls h (by simpa using fx) (by simpa using fy)
          refine ⟨r, by rw [show d' + (m + 1) = (d' + m) + 1 from rfl, run_equalIn_struct w (d' + m) t xs ys (by rw [hfs]; exact hu) (by simpa using hst), hfs]; exact hr1, ?_⟩
          rw [hr2]
          simp only [List.drop_zero]
          constructor
          · intro h; rw [Array.toList_inj.1 h]
          · intro h; cases h; rfl
      all_goals (simp [leavesAt, hu] at h; done)
end
class TLeaf (P : Program) (t : Nat) (ls : outParam (List Leaf)) : Prop where
  ok : leavesAt P 20 t = some ls ∧ isAggD (P.underlying t) = true ∧ P.eqGuardType P.depth t = false
def unval : SV → Option Value
  | .val v => some v
  | _ => none
def unvals : List SV → Option (List Value)
  | [] => some []
  | s :: r => match unval s, unvals r with
    | some v, some vs => some (v :: vs)
    | _, _ => none
theorem unvals_rel {Z : Nat → Prop} {w : World} : ∀ {cs : List SV} {us vs : List Value}, unvals cs = some us → vs.length = cs.length → (∀ j, j < cs.length → Rel Z w (cs.getD j .any) (vs.getD j undef)) → vs = us
  | [], us, vs, h, hl, _ => by
    simp only [unvals, Option.some.injEq] at h
    subst h
    exact List.eq_nil_of_length_eq_zero (by simpa using hl)
  | s :: r, us, [], h, hl, _ => by simp at hl
  | s :: r, us, v :: vs, h, hl, hr => by
    simp only [unvals] at h
    cases hs : unval s with
    | none => rw [hs] at h; simp at h
    | some u =>
      cases ht : unvals r with
      | none => rw [hs, ht] at h; simp at h
      | some us' =>
        rw [hs, ht] at h
        simp only [Option.some.injEq] at h
        subst h
        have h0 := hr 0 (by simp)
        simp only [List.getD_cons_zero] at h0
        have hsv : s = .val u := by cases s <;> simp [unval] at hs; rw [hs]
        rw [hsv] at h0
        have h9 : vs = us' := unvals_rel ht (by simpa using hl) fun j hj => by simpa using hr (j + 1) (by simpa using hj)
        rw [h0.val_eq, h9]
section
variable {P : Program} {Γ : Ctx} {ops : Array Oper} {Q : Exit → Act → World → Prop} {F : List (Nat × SV)} {L : List Own} {rest : List Oper}
variable {dst : Option Tmp} {ty : TypeId} {pos : String} {aft : Array Edge} {g : Option (Nat × Bool)}
theorem agg_vals {Γ : Ctx} {L : List Own} {w : World} {cs : List SV} {us : List Value} {v : Value} (h : Rel (ZL Γ.Z L) w (.agg cs) v) (hu : unvals cs = some us) : v = .agg us.toArray := by
  cases h with
  | agg _ vs hl h1 hr => rw [unvals_rel hu hl hr]
theorem eqAg_run {t : TypeId} {ls : List Leaf} (h : TLeaf P t ls) {us vs : List Value} (hf : fitsL ls us = true) (hg : fitsL ls vs = true) (w : World) : ∃ r : Bool, (Op.equalIn 10000 t (.agg us.toArray) (.agg vs.toArray)).run P w = .ok r w ∧ (r = true ↔ us = vs) := by
  obtain ⟨h1, h2, _⟩ := h.ok
  obtain ⟨r, hr, hi⟩ := eq_leaf (P := P) 9980 20 t ls h1 w (.agg us.toArray) (.agg vs.toArray) (by unfold Shp; rw [if_pos h2]; exact ⟨_, rfl, by simpa using hf⟩) (by unfold Shp; rw [if_pos h2]; exact ⟨_, rfl, by simpa using hg⟩)
  exact ⟨r, hr, by rw [hi]; simp⟩
section
variable {t t2 : TypeId} {ls : List Leaf} [h : TLeaf P t ls] {x y : Operand} {cs ds : List SV} {us vs : List Value} (b : Bool)
theorem Pv.eqlAg (hx : ev F x = some (.agg cs)) (hy : ev F y = some (.agg ds)) (hu : unvals cs = some us) (hv : unvals ds = some vs) (hf : fitsL ls us = true) (hg : fitsL ls vs = true) (hb : b = true ↔ us = vs) :
    Pv P Γ F L ⟨dst, .binOp .eql t x y t2, ty, pos, aft, g⟩ (.val (.bool b)) := fun ρ w hst => by
  have e1 := agg_vals (hst.ev x (by simp [Op.operands]) _ hx) hu
  have e2 := agg_vals (hst.ev y (by simp [Op.operands]) _ hy) hv
  obtain ⟨r, hr, hi⟩ := eqAg_run h hf hg w
  have : r = b := by rw [Bool.eq_iff_iff, hi, hb]
  subst this
  exact ⟨_, by simp [execOp, e1, e2, run_eqGuard_agg w .eql t x y us.toArray vs.toArray h.ok.2.2, run_eql_struct, hr], .val _⟩
theorem Cx.eqlAg (hx : ev F x = some (.agg cs)) (hy : ev F y = some (.agg ds)) (hu : unvals cs = some us) (hv : unvals ds = some vs) (hf : fitsL ls us = true) (hg : fitsL ls vs = true) (hb : b = true ↔ us = vs) {d0 : Nat} {K : List (Nat × SV) → Prop} (hlt : Nat.blt d0 Γ.nt = true) (hr : SegC P Γ ops L ((d0, (.val (.bool b))) :: F) rest K) : SegC P Γ ops L F (⟨some d0, .binOp .eql t x y t2, ty, pos, aft, none⟩ :: rest) K :=
  SegC.q (Qs.pv (by apply Pv.eqlAg <;> assumption)) hlt hr
end
end
end Go.Sse
namespace Go.Sse
open Go Go.Sse
set_option linter.unusedVariables false
set_option linter.unusedSimpArgs false
set_option maxRecDepth 10000
section
variable {P : Program} {Γ : Ctx} {ops : Array Oper} {Q : Exit → Act → World → Prop} {F : List (Nat × SV)} {L : List Own} {rest : List Oper}
variable {dst : Option Tmp} {ty : TypeId} {pos : String} {aft : Array Edge} {g : Option (Nat × Bool)}
theorem Pv.shl8 {t t2 : TypeId} {x y : Operand} {k : IntKind} {n : Nat} (hx : ev F x = some (int (n : Int))) (hy : ev F y = some (.val (.int k 8))) (h : n * 256 < 9223372036854775808) : Pv P Γ F L ⟨dst, .binOp .shl t x y t2, ty, pos, aft, g⟩ (int ((n * 256 : Nat) : Int)) := by
  have := Pv.shl (P := P) (Γ := Γ) (L := L) (dst := dst) (ty := ty) (pos := pos) (aft := aft) (g := g) (t := t) (t2 := t2) hx hy (by decide)
  have e : IntKind.i64.wrap ((n : Int) * 2 ^ Min.min (8 : Int).toNat IntKind.i64.bits) = ((n * 256 : Nat) : Int) := by
    rw [show (2 : Int) ^ Min.min (8 : Int).toNat IntKind.i64.bits = 256 by decide, wrap_i64 (by omega)]
    omega
  rwa [e] at this
theorem Jx.shl8 {t t2 : TypeId} {x y : Operand} {k : IntKind} {n : Nat} (hx : ev F x = some (int (n : Int))) (hy : ev F y = some (.val (.int k 8))) (h : n * 256 < 9223372036854775808) {d0 : Nat} (hlt : Nat.blt d0 Γ.nt = true) (k : J P Γ ops Q ((d0, (int ((n * 256 : Nat) : Int))) :: F) L rest) : J P Γ ops Q F L (⟨some d0, .binOp .shl t x y t2, ty, pos, aft, none⟩ :: rest) :=
  J.pv (by apply Pv.shl8 <;> assumption) hlt k
theorem or_byte {n b : Nat} (hb : b < 256) (h : n * 256 + b < 9223372036854775808) : IntKind.i64.wrap ((BitVec.ofInt 64 ((n * 256 : Nat) : Int) ||| BitVec.ofInt 64 (b : Int)).toNat : Int) = ((n * 256 + b : Nat) : Int) := by
  rw [BitVec.toNat_or, BitVec.ofInt_natCast, BitVec.ofInt_natCast, BitVec.toNat_ofNat, BitVec.toNat_ofNat, Nat.mod_eq_of_lt (by omega), Nat.mod_eq_of_lt (by omega)]
  have : n * 256 ||| b = n * 256 + b := by
    have := Nat.shiftLeft_add_eq_or_of_lt (i := 8) (b := b) (by omega) n
    rw [Nat.shiftLeft_eq] at this
    exact this.symm
  rw [this, wrap_i64 (by omega)]
theorem Pv.orByte {t t2 : TypeId} {x y : Operand} {n b : Nat} (hx : ev F x = some (int ((n * 256 : Nat) : Int))) (hy : ev F y = some (int (b : Int))) (hb : b < 256) (h : n * 256 + b < 9223372036854775808) : Pv P Γ F L ⟨dst, .binOp .or t x y t2, ty, pos, aft, g⟩ (int ((n * 256 + b : Nat) : Int)) := by
  have := Pv.bor (P := P) (Γ := Γ) (L := L) (dst := dst) (ty := ty) (pos := pos) (aft := aft) (g := g) (t := t) (t2 := t2) hx hy
  exact (congrArg (fun z => Pv P Γ F L ⟨dst, .binOp .or t x y t2, ty, pos, aft, g⟩ (SV.val (.int .i64 z))) (or_byte hb h)).mp this
theorem Jx.orByte {t t2 : TypeId} {x y : Operand} {n b : Nat} (hx : ev F x = some (int ((n * 256 : Nat) : Int))) (hy : ev F y = some (int (b : Int))) (hb : b < 256) (h : n * 256 + b < 9223372036854775808) {d0 : Nat} (hlt : Nat.blt d0 Γ.nt = true) (k : J P Γ ops Q ((d0, (int ((n * 256 + b : Nat) : Int))) :: F) L rest) : J P Γ ops Q F L (⟨some d0, .binOp .or t x y t2, ty, pos, aft, none⟩ :: rest) :=
  J.pv (by apply Pv.orByte <;> assumption) hlt k
theorem Pv.arrFrom {T E by' n : Nat} {z : List Value} [h : TArr P T n E] [hI : TInfo P E 1 by' z] {x i : Operand} {k : IntKind} {b : Nat} {m : Int} (j : Nat) (hx : ev F x = some (.val (.pointer (some ⟨b, 0, none⟩))))
    (hi : ev F i = some (.val (.int k m))) (hm : m = (j : Int)) (h1 : j ≤ n) : Pv P Γ F L ⟨dst, .slice T x (some i) none none, ty, pos, aft, g⟩ (.val (.slice (some ⟨b, if n = j then 0 else j, none⟩) (n - j) (n - j))) := by
  subst hm
  have := Pv.sliceArrL (P := P) (Γ := Γ) (L := L) (dst := dst) (ty := ty) (pos := pos) (aft := aft) (g := g) (T := T) hx hi (by omega) (by omega)
  rw [Int.toNat_natCast] at this
  by_cases e : n = j
  · simp only [e, if_true] at this ⊢; exact this
  · simp only [e, if_false, Nat.zero_add, Nat.mul_one] at this ⊢; exact this
theorem Cx.arrFrom {T E by' n : Nat} {z : List Value} [h : TArr P T n E] [hI : TInfo P E 1 by' z] {x i : Operand} {k : IntKind} {b : Nat} {m : Int} (j : Nat) (hx : ev F x = some (.val (.pointer (some ⟨b, 0, none⟩))))
    (hi : ev F i = some (.val (.int k m))) (hm : m = (j : Int)) (h1 : j ≤ n) {d0 : Nat} {K : List (Nat × SV) → Prop} (hlt : Nat.blt d0 Γ.nt = true) (hr : SegC P Γ ops L ((d0, (.val (.slice (some ⟨b, if n = j then 0 else j, none⟩) (n - j) (n - j)))) :: F) rest K) : SegC P Γ ops L F (⟨some d0, .slice T x (some i) none none, ty, pos, aft, none⟩ :: rest) K :=
  SegC.q (Qs.pv (by apply Pv.arrFrom <;> assumption)) hlt hr
theorem Pv.arrStr {src d e : TypeId} [hs : TSlice P src e] [he : TInt P e .u8] [hd : TStr P d] {x : Operand} {b j n : Nat} {T : TypeId} (ws : List UInt8) (hx : ev F x = some (.val (.slice (some ⟨b, if n = j then 0 else j, none⟩) (n - j) (n - j)))) (i : Nat) (hi : L[i]? = some (.obj b T (ws.map byte)))
    (hl : ws.length = n) (hj : j ≤ n) : Pv P Γ F L ⟨dst, .convert src d x, ty, pos, aft, g⟩ (str (ws.drop j)) := by
  refine Pv.bytesStrObj (ws.drop j) hx i hi (by rw [List.length_drop, hl]) fun k hk => ?_
  have hn : ¬ n = j := by omega
  rw [if_neg hn, getElem?_map_lt byte ws 0 (j + k) (by omega)]
  simp [List.getD_eq_getElem?_getD, List.getElem?_drop]
theorem Cx.arrStr {src d e : TypeId} [hs : TSlice P src e] [he : TInt P e .u8] [hd : TStr P d] {x : Operand} {b j n : Nat} {T : TypeId} (ws : List UInt8) (hx : ev F x = some (.val (.slice (some ⟨b, if n = j then 0 else j, none⟩) (n - j) (n - j)))) (i : Nat) (hi : L[i]? = some (.obj b T (ws.map byte)))
    (hl : ws.length = n) (hj : j ≤ n) {d0 : Nat} {K : List (Nat × SV) → Prop} (hlt : Nat.blt d0 Γ.nt = true) (hr : SegC P Γ ops L ((d0, (str (ws.drop j))) :: F) rest K) : SegC P Γ ops L F (⟨some d0, .convert src d x, ty, pos, aft, none⟩ :: rest) K :=
  SegC.q (Qs.pv (by apply Pv.arrStr <;> assumption)) hlt hr
theorem J.guardNoU {dst : Tmp} {op : Op} {ty : TypeId} {pos : String} {aft : Array Edge} {j d : Nat} {want b : Bool} {og : Oper}
    (ho : ops[j]? = some og) (hd : og.dst = some d) (hv : look F d = some (.val (.bool b))) (hb : b = !want) (hlt : Nat.blt dst Γ.nt = true)
    (h : J P Γ ops Q ((dst, .val undef) :: F) L rest) : J P Γ ops Q F L (⟨some dst, op, ty, pos, aft, some (j, want)⟩ :: rest) :=
  ⟨fun a w hst => by
    have hw := wanted_guard (o := ⟨some dst, op, ty, pos, aft, some (j, want)⟩) rfl ho hd (hst.fr d _ hv).val_eq
    unfold wpList
    rw [if_neg (by rw [hw]; subst hb; cases want <;> simp)]
    exact h.go _ _ (hst.put (Step.refl hst.ws) hlt (.val _))⟩
theorem J.guardSkip {dst : Tmp} {op : Op} {ty : TypeId} {pos : String} {aft : Array Edge} {j d : Nat} {want : Bool} {og : Oper}
    (ho : ops[j]? = some og) (hd : og.dst = some d) (hv : look F d = some (.val undef)) (hlt : Nat.blt dst Γ.nt = true)
    (h : J P Γ ops Q ((dst, .val undef) :: F) L rest) : J P Γ ops Q F L (⟨some dst, op, ty, pos, aft, some (j, want)⟩ :: rest) :=
  ⟨fun a w hst => by
    have hw := wanted_undef (o := ⟨some dst, op, ty, pos, aft, some (j, want)⟩) rfl ho hd (hst.fr d _ hv).val_eq
    unfold wpList
    rw [if_neg (by rw [hw]; simp)]
    exact h.go _ _ (hst.put (Step.refl hst.ws) hlt (.val _))⟩
end
end Go.Sse
namespace Go.Sse
open Go Go.Sse
set_option linter.unusedVariables false
set_option linter.unusedSimpArgs false
set_option maxRecDepth 10000
section
variable {P : Program} {Γ : Ctx} {ops : Array Oper} {Q : Exit → Act → World → Prop} {F : List (Nat × SV)} {L : List Own} {rest : List Oper}
variable {dst : Option Tmp} {ty : TypeId} {pos : String} {aft : Array Edge} {g : Option (Nat × Bool)}
theorem Pv.shlN {t t2 : TypeId} {x y : Operand} {k : IntKind} {n s : Nat} {m : Int} (hx : ev F x = some (int (n : Int))) (hy : ev F y = some (.val (.int k m))) (hm : m = (s : Int)) (hs : s ≤ 64) (h : n * 2 ^ s < 9223372036854775808) : Pv P Γ F L ⟨dst, .binOp .shl t x y t2, ty, pos, aft, g⟩ (int ((n * 2 ^ s : Nat) : Int)) := by
  subst hm
  have := Pv.shl (P := P) (Γ := Γ) (L := L) (dst := dst) (ty := ty) (pos := pos) (aft := aft) (g := g) (t := t) (t2 := t2) hx hy (Int.natCast_nonneg s)
  have e : IntKind.i64.wrap ((n : Int) * 2 ^ Min.min (s : Int).toNat IntKind.i64.bits) = ((n * 2 ^ s : Nat) : Int) := by
    rw [Int.toNat_natCast, show Min.min s IntKind.i64.bits = s from Nat.min_eq_left hs, show (n : Int) * 2 ^ s = ((n * 2 ^ s : Nat) : Int) by simp, wrap_i64 (by omega)]
  rwa [e] at this
theorem Jx.shlN {t t2 : TypeId} {x y : Operand} {k : IntKind} {n s : Nat} {m : Int} (hx : ev F x = some (int (n : Int))) (hy : ev F y = some (.val (.int k m))) (hm : m = (s : Int)) (hs : s ≤ 64) (h : n * 2 ^ s < 9223372036854775808) {d0 : Nat} (hlt : Nat.blt d0 Γ.nt = true) (k : J P Γ ops Q ((d0, (int ((n * 2 ^ s : Nat) : Int))) :: F) L rest) : J P Γ ops Q F L (⟨some d0, .binOp .shl t x y t2, ty, pos, aft, none⟩ :: rest) :=
  J.pv (by apply Pv.shlN <;> assumption) hlt k
end
end Go.Sse
namespace Go.Sse
open Go Go.Sse
set_option linter.unusedVariables false
set_option linter.unusedSimpArgs false
set_option maxRecDepth 10000
class TZero (P : Program) (E : Nat) (zv : outParam Value) : Prop where ok : (P.info? E).bind (·.zero) = some zv
section
variable {P : Program} {Γ : Ctx} {ops : Array Oper} {Q : Exit → Act → World → Prop} {F : List (Nat × SV)} {L : List Own} {rest : List Oper}
variable {dst : Option Tmp} {ty : TypeId} {pos : String} {aft : Array Edge} {g : Option (Nat × Bool)}
end
end Go.Sse
namespace Go.Sse
open Go Go.Sse
set_option linter.unusedVariables false
set_option linter.unusedSimpArgs false
set_option maxRecDepth 10000
section
variable {P : Program} {Γ : Ctx} {ops : Array Oper} {Q : Exit → Act → World → Prop} {F : List (Nat × SV)} {L : List Own} {rest : List Oper}
variable {dst : Option Tmp} {ty : TypeId} {pos : String} {aft : Array Edge} {g : Option (Nat × Bool)}
end
end Go.Sse
namespace Go.Sse
open Go Go.Sse
set_option linter.unusedVariables false
set_option linter.unusedSimpArgs false
set_option maxRecDepth 10000
section
variable {P : Program} {Γ : Ctx} {ops : Array Oper} {Q : Exit → Act → World → Prop} {F : List (Nat × SV)} {L : List Own} {rest : List Oper}
variable {dst : Option Tmp} {ty : TypeId} {pos : String} {aft : Array Edge} {g : Option (Nat × Bool)}
end
end Go.Sse
namespace Go.Sse
open Go Go.Sse
set_option linter.unusedVariables false
set_option linter.unusedSimpArgs false
set_option maxRecDepth 10000
section
variable {P : Program} {Γ : Ctx} {l : List Oper} {Q : Exit → Act → World → Prop} {G : List (Nat × SV)} {L : List Own} {S idx : List Nat}
theorem JP.alloc {d E sz by' : Nat} {z : List Value} [h : TInfo P E sz by' z] {cs : List SV} {ty : TypeId} {pos : String} {aft : Array Edge} {g : Option (Nat × Bool)} (i : Nat) (ks S' idx' : List Nat) (hc : (okIdx l.toArray S idx && okStep l.toArray S idx i ks S' idx') = true)
    (hoi : l[i]? = some ⟨some d, .alloc E, ty, pos, aft, g⟩) (hre : SegC P Γ l.toArray L G (opsAt l idx) (Ag G idx.length)) (hz : z.map .val = cs) (h1 : z.all (·.oneCell') = true) (hlt : Nat.blt d Γ.nt = true)
    (k : ∀ b, JP P Γ l.toArray Q S' idx' ((d, .val (.pointer (some ⟨b, 0, none⟩))) :: G) (.obj b E cs :: L)) : JP P Γ l.toArray Q S idx G L :=
  JP.do1 i ks S' idx' hc hoi hre (OpS.newObj (ρ' := fun _ => True) (E := E) (cs := cs) (fun a w hst => by
    obtain ⟨v, hv, hc, _⟩ := run_zero h w
    refine ⟨z, ?_, hz ▸ RelL.vals z (by simpa [List.all_eq_true] using h1)⟩
    have : v.cells = z.toArray := by rw [← hc]
    simp [execOp, Instr.alloc, hv, newVar, newRow, this])) hlt (by rintro s L' ⟨b, rfl, rfl⟩; exact k b)
end
end Go.Sse
namespace Go.Sse
open Go Go.Sse
set_option linter.unusedVariables false
set_option linter.unusedSimpArgs false
set_option maxRecDepth 10000
theorem Sub.agg {cs ds : List SV} (h : SubL cs ds) : Sub (.agg cs) (.agg ds) := by
  intro Z w v hr
  obtain ⟨h1, h2⟩ := h.spec
  cases hr with
  | agg _ vs hl hone hrel => exact .agg ds vs (by omega) hone fun j hj => h2 j Z w _ (hrel j (by omega))
theorem SubL.refl : ∀ (cs : List SV), SubL cs cs
  | [] => .nil
  | s :: cs => .cons (Sub.refl s) (SubL.refl cs)
section
variable {P : Program} {Γ : Ctx} {ops : Array Oper} {Q : Exit → Act → World → Prop} {F : List (Nat × SV)} {L : List Own} {rest : List Oper}
variable {dst : Option Tmp} {ty : TypeId} {pos : String} {aft : Array Edge} {g : Option (Nat × Bool)}
theorem Pv.loadPPall {T n : Nat} [h : TAg P T n] {x : Operand} {cs : List SV} (hx : ev F x = some (.pp cs)) (hn' : Nat.beq cs.length n = true) : Pv P Γ F L ⟨dst, .load T x, ty, pos, aft, g⟩ (.agg cs) :=
  have hn : cs.length = n := Nat.eq_of_beq_eq_true hn'
  Pv.loadPPag hx (by rw [← hn, List.take_length]) hn
theorem Cx.loadPPall {T n : Nat} [h : TAg P T n] {x : Operand} {cs : List SV} (hx : ev F x = some (.pp cs)) (hn' : Nat.beq cs.length n = true) {d0 : Nat} {K : List (Nat × SV) → Prop} (hlt : Nat.blt d0 Γ.nt = true) (hr : SegC P Γ ops L ((d0, (.agg cs)) :: F) rest K) : SegC P Γ ops L F (⟨some d0, .load T x, ty, pos, aft, none⟩ :: rest) K :=
  SegC.q (Qs.pv (by apply Pv.loadPPall <;> assumption)) hlt hr
theorem Jx.loadPPall {T n : Nat} [h : TAg P T n] {x : Operand} {cs : List SV} (hx : ev F x = some (.pp cs)) (hn' : Nat.beq cs.length n = true) {d0 : Nat} (hlt : Nat.blt d0 Γ.nt = true) (k : J P Γ ops Q ((d0, (.agg cs)) :: F) L rest) : J P Γ ops Q F L (⟨some d0, .load T x, ty, pos, aft, none⟩ :: rest) :=
  J.pv (by apply Pv.loadPPall <;> assumption) hlt k
theorem Qs.buildOne {α : Type} {t E sz by' : Nat} {z : List Value} [ht : TSlice P t E] [hI : TInfo P E sz by' z] {x : Operand} {cs : List SV} (enc : α → List SV) (d a : α) (hx : ev F x = some (.agg cs)) (hcs' : Nat.beq cs.length sz = true) (he : enc a = cs)
    (hz' : Nat.beq z.length sz = true) (h0' : Nat.blt 0 sz = true) (hmax' : Nat.ble sz 16777216 = true) (hz1 : z.all (·.oneCell') = true) : Qs P Γ F L ⟨dst, .buildSlice t 1 [(0, x)].toArray, ty, pos, aft, g⟩ (.sl sz [a].length (elOf enc d [a])) := by
  have hcs := Nat.eq_of_beq_eq_true hcs'
  have hz := Nat.eq_of_beq_eq_true hz'
  have h0 : 0 < sz := Nat.le_of_ble_eq_true h0'
  have hmax := Nat.le_of_ble_eq_true hmax'
  refine (Qs.buildSlice (len := 1) (ss := [.agg cs]) (sz := sz) (z := z) (.cons hx .agg .nil) rfl (by intro s hs; simp only [List.mem_singleton] at hs; subst hs; exact hcs) hz (by omega) (by omega) hz1).sub ?_
  refine Sub.slOf (l := [a]) rfl fun i hi => ?_
  have : i = 0 := by omega
  subst this
  simp only [List.getD_cons_zero, cellsS]
  exact he.symm
end
end Go.Sse
namespace Go.Sse
open Go Go.Sse
set_option linter.unusedVariables false
set_option linter.unusedSimpArgs false
set_option maxRecDepth 10000
theorem operWp_less {P : Program} {o : Oper} {a : Act} {w : World} {K K' : Act → World → Prop} {Q Q' : Exit → Act → World → Prop} (h : ∀ a w, K a w → K' a w) (hq : ∀ e a w, e ≠ .normal → Q e a w → Q' e a w)
    (hh : o.wp P a w K Q) : o.wp P a w K' Q' := by
  unfold Oper.wp at *
  generalize (execOp a.eval o).run P w = r at *
  cases r with
  | ok n w' =>
    cases n <;> simp only [Oper.upon] at hh ⊢ <;>
      first
        | exact h _ _ hh
        | exact Calls.mono hh (fun e w'' he => by
            cases e
            · exact h _ _ he
            · exact hq _ _ _ (by simp) he
            · obtain ⟨a2, w2, h2⟩ := he; exact ⟨a2, w2, hq _ _ _ (by simp) h2⟩)
        | exact Rows.mono hh (fun _ _ he => h _ _ he)
  | halt x w' => cases x <;> simp only [Oper.upon] at hh ⊢ <;> first | exact hh | exact hq _ _ _ (by simp) hh
theorem wpList_join {P : Program} {ops : Array Oper} {Q Q' : Exit → Act → World → Prop} {rest : List Oper} (hn : ∀ a w, Q' .normal a w → wpList P ops Q rest a w) (hq : ∀ e a w, e ≠ .normal → Q' e a w → Q e a w) :
    ∀ (l : List Oper) a w, wpList P ops Q' l a w → wpList P ops Q (l ++ rest) a w
  | [], a, w, h => hn a w h
  | o :: l, a, w, h => by
    rw [List.cons_append]
    unfold wpList at h ⊢
    split
    · rename_i hw
      rw [if_pos hw] at h
      rcases h with h | ⟨h1, a2, w2, h2⟩
      · exact .inl (operWp_less (wpList_join hn hq l) hq h)
      · exact .inr ⟨h1, a2, w2, hq _ _ _ (by simp) h2⟩
    · rename_i hw
      rw [if_neg hw] at h
      exact wpList_join hn hq l _ _ h
def inG (j : Nat) (o : Oper) : Bool := match o.guard with
  | some (k, _) => Nat.ble j k
  | none => false
def gTake (j : Nat) : List Oper → List Oper
  | [] => []
  | o :: l => bif inG j o then o :: gTake j l else []
def gDrop (j : Nat) : List Oper → List Oper
  | [] => []
  | o :: l => bif inG j o then gDrop j l else o :: l
theorem gSplit (j : Nat) : ∀ l, gTake j l ++ gDrop j l = l
  | [] => rfl
  | o :: l => by
    simp only [gTake, gDrop]
    cases inG j o with
    | true => simp only [cond_true, List.cons_append, gSplit j l]
    | false => rfl
def hasKey (F : List (Nat × SV)) (x : Nat) : Bool := match F with
  | [] => false
  | p :: r => Nat.beq p.1 x || hasKey r x
theorem look_none : ∀ {F : List (Nat × SV)} {x : Nat}, hasKey F x = false → look F x = none
  | [], x, _ => rfl
  | p :: r, x, h => by
    simp only [hasKey, Bool.or_eq_false_iff] at h
    simp only [look, h.1, cond_false]
    exact look_none h.2
def okSkip (ops : Array Oper) (F : List (Nat × SV)) (nt j : Nat) (want : Bool) : List Nat → List Oper → Bool
  | _, [] => true
  | acc, o :: l => match o.dst, o.guard with
    | some d, some (k, w) => Nat.blt d nt && !hasKey F d && ((Nat.beq k j && (w == want)) || (match ops[k]? with
      | some og => (match og.dst with | some e => acc.contains e | none => false)
      | none => false)) && okSkip ops F nt j want (d :: acc) l
    | _, _ => false
theorem skip_run {P : Program} {Γ : Ctx} {ops : Array Oper} {Q : Exit → Act → World → Prop} {F : List (Nat × SV)} {L : List Own} {rest : List Oper} {j d : Nat} {want : Bool} {og : Oper}
    (ho : ops[j]? = some og) (hod : og.dst = some d) (hd : look F d = some (.val (.bool (!want)))) (k : J P Γ ops Q F L rest) :
    ∀ (l : List Oper) (acc : List Nat) (a : Act) (w : World), okSkip ops F Γ.nt j want acc l = true → St Γ F L a w → (∀ e ∈ acc, a.tmps.getD e undef = undef) → wpList P ops Q (l ++ rest) a w
  | [], acc, a, w, _, hst, _ => k.go a w hst
  | o :: l, acc, a, w, h, hst, hacc => by
    obtain ⟨dst, op, ty, pos, aft, g⟩ := o
    cases dst with
    | none => simp [okSkip] at h
    | some t =>
      cases g with
      | none => simp [okSkip] at h
      | some g =>
        obtain ⟨i, w'⟩ := g
        simp only [okSkip, Bool.and_eq_true, Bool.or_eq_true, Bool.not_eq_true'] at h
        obtain ⟨⟨⟨h1, h2⟩, h3⟩, h4⟩ := h
        have hw : Region.wanted ⟨some t, op, ty, pos, aft, some (i, w')⟩ (yielded ops a.tmps) = false := by
          rcases h3 with ⟨h3, h5⟩ | h3
          · have : i = j := Nat.eq_of_beq_eq_true h3
            subst this
            have hw' : w' = want := by simpa using h5
            subst hw'
            rw [wanted_guard rfl ho hod (hst.fr d _ hd).val_eq]
            cases w' <;> rfl
          · split at h3
            · rename_i og' hog'
              split at h3
              · rename_i e he
                exact wanted_undef rfl hog' he (hacc e (by simpa using h3))
              · cases h3
            · cases h3
        rw [List.cons_append]
        unfold wpList
        rw [if_neg (by rw [hw]; simp)]
        have hst2 : St Γ F L (a.put (some t) undef) w := by
          have := hst.put (Step.refl hst.ws) h1 (.any undef)
          refine ⟨this.ws, this.nt, this.df, fun x s hl => this.fr x s ?_⟩
          simp only [look]
          cases hb : Nat.beq t x with
          | true =>
            have := Nat.eq_of_beq_eq_true hb
            subst this
            rw [look_none h2] at hl; cases hl
          | false => exact hl
        have hlt : t < a.tmps.size := by rw [hst.nt]; exact Nat.le_of_ble_eq_true h1
        refine skip_run ho hod hd k l (t :: acc) _ _ h4 hst2 fun e he => ?_
        show (a.tmps.setIfInBounds t undef).getD e undef = undef
        rw [getD_set _ _ _ _ hlt]
        split
        · rfl
        · rcases List.mem_cons.1 he with rfl | he
          · rename_i hne; exact absurd rfl hne
          · exact hacc e he
def Qj (Γ : Ctx) (F : List (Nat × SV)) (L : List Own) (t : Nat) (q : Bool) : Exit → Act → World → Prop := fun e a w => e = .normal ∧ St Γ F L a w ∧ a.tmps.getD t undef = .bool q
def keysOff (F : List (Nat × SV)) : List (Nat × SV) → Bool
  | [] => true
  | p :: r => !hasKey F p.1 && keysOff F r
theorem look_off : ∀ {F : List (Nat × SV)} (X : List (Nat × SV)), keysOff F X = true → ∀ x s, look F x = some s → look (X ++ F) x = some s
  | F, [], _, x, s, hl => hl
  | F, p :: X, h, x, s, hl => by
    simp only [keysOff, Bool.and_eq_true, Bool.not_eq_true'] at h
    simp only [List.cons_append, look]
    cases hb : Nat.beq p.1 x with
    | true =>
      have := Nat.eq_of_beq_eq_true hb
      subst this
      rw [look_none h.1] at hl; cases hl
    | false => exact look_off X h.2 x s hl
theorem N.joined {Γ : Ctx} {F F' : List (Nat × SV)} {L : List Own} {t : Nat} {q : Bool} (X : List (Nat × SV)) (hl : look F' t = some (.val (.bool q))) (hX : F' = X ++ F) (hk : keysOff F X = true) : N Γ (Qj Γ F L t q .normal) F' L :=
  ⟨fun a w hst => ⟨rfl, ⟨hst.ws, hst.nt, hst.df, fun x s h => hst.fr x s (by rw [hX]; exact look_off X hk x s h)⟩, (hst.fr t _ hl).val_eq⟩⟩
theorem N.joinedN {Γ : Ctx} {F F' : List (Nat × SV)} {L : List Own} {t : Nat} {q : Bool} (hl : look F' t = some (.val (.bool q))) (hX : F'.drop (F'.length - F.length) = F) (hk : keysOff F (F'.take (F'.length - F.length)) = true) : N Γ (Qj Γ F L t q .normal) F' L :=
  N.joined (F'.take (F'.length - F.length)) hl ((List.take_append_drop (F'.length - F.length) F').symm.trans (congrArg _ hX)) hk
section
variable {P : Program} {Γ : Ctx} {ops : Array Oper} {Q : Exit → Act → World → Prop} {F : List (Nat × SV)} {L : List Own} {rest l : List Oper}
variable {dst : Option Tmp} {op : Op} {ty ty0 : TypeId} {pos pos0 : String} {aft aft0 : Array Edge} {g : Option (Nat × Bool)}
theorem St.told1 {a : Act} {w : World} {t : Nat} {s : SV} (h : St Γ F L a w) (hr : Rel (ZL Γ.Z L) w s (a.tmps.getD t undef)) : St Γ ((t, s) :: F) L a w :=
  ⟨h.ws, h.nt, h.df, fun x u hl => by
    simp only [look] at hl
    cases hb : Nat.beq t x with
    | true =>
      rw [hb] at hl
      simp only [cond_true, Option.some.injEq] at hl
      subst hl
      have := Nat.eq_of_beq_eq_true hb
      subst this
      exact hr
    | false => rw [hb] at hl; exact h.fr x u hl⟩
theorem told_off {t y : Nat} {s u : SV} (hy : hasKey F y = false) {a : Act} {w : World} (h : St Γ ((t, s) :: (y, u) :: F) L a w) : St Γ ((t, s) :: F) L a w :=
  ⟨h.ws, h.nt, h.df, fun x v hl => h.fr x v (by
    simp only [look] at hl ⊢
    cases hb : Nat.beq t x with
    | true => rw [hb] at hl; exact hl
    | false =>
      rw [hb] at hl
      simp only [cond_false] at hl ⊢
      cases hc : Nat.beq y x with
      | true =>
        have := Nat.eq_of_beq_eq_true hc
        subst this
        rw [look_none hy] at hl; cases hl
      | false => exact hl)⟩
theorem ev_off {y : Nat} {s u : SV} {c : Operand} (hy : hasKey F y = false) (hc : ev F c = some s) : ev ((y, u) :: F) c = some s := by
  cases c with
  | tmp x =>
    simp only [ev, look] at hc ⊢
    cases hb : Nat.beq y x with
    | true =>
      have := Nat.eq_of_beq_eq_true hb
      subst this
      rw [look_none hy] at hc; cases hc
    | false => exact hc
  | const v => exact hc
  | global g => exact hc
  | func f => exact hc
theorem J.ofSt {l : List Oper} (h : ∀ a w, St Γ F L a w → wpList P ops Q l a w) : J P Γ ops Q F L l := ⟨h⟩
theorem J.guardOr {q b : Bool} {j d t y : Nat} {c : Operand} {og : Oper} (ho : ops[j]? = some og) (hod : og.dst = some d) (hv : look F d = some (.val (.bool b)))
    (hdrop : gDrop j (⟨dst, op, ty0, pos0, aft0, some (j, false)⟩ :: l) = ⟨some t, .pick c (.const (.bool true)) (.tmp y), ty, pos, aft, none⟩ :: rest) (hc : ev F c = some (.val (.bool b)))
    (hsk : okSkip ops F Γ.nt j false [] (gTake j (⟨dst, op, ty0, pos0, aft0, some (j, false)⟩ :: l)) = true) (hy : hasKey F y = false) (hlt : Nat.blt t Γ.nt = true)
    (hyes : b = false → J P Γ ops (Qj Γ F L y q) F L (gTake j (⟨dst, op, ty0, pos0, aft0, some (j, false)⟩ :: l)))
    (k : J P Γ ops Q ((t, .val (.bool (b || q))) :: F) L rest) : J P Γ ops Q F L (⟨dst, op, ty0, pos0, aft0, some (j, false)⟩ :: l) := by
  rw [← gSplit j (⟨dst, op, ty0, pos0, aft0, some (j, false)⟩ :: l), hdrop]
  cases b with
  | false =>
    refine ⟨fun a w hst => wpList_join ?_ ?_ _ a w ((hyes rfl).go a w hst)⟩
    · rintro a w ⟨_, h1, h2⟩
      exact (Jx.pickF (c := c) (b := false) (x := .const (.bool true)) (y := .tmp y) (s := .val (.bool q)) (ev_off hy hc) rfl (by simp [ev, look]) hlt (J.ofSt fun a w h => k.go a w (told_off hy h))).go a w (h1.told1 (t := y) (s := .val (.bool q)) (by rw [h2]; exact .val _))
    · rintro e a w he ⟨h, _⟩; exact absurd h he
  | true =>
    exact ⟨fun a w hst => skip_run (want := false) ho hod hv (Jx.pickT (c := c) (b := true) (x := .const (.bool true)) (y := .tmp y) (s := .val (.bool true)) hc rfl rfl hlt k) _ [] a w hsk hst (by simp)⟩
theorem J.guardAnd {q b : Bool} {j d t y : Nat} {c : Operand} {og : Oper} (ho : ops[j]? = some og) (hod : og.dst = some d) (hv : look F d = some (.val (.bool b)))
    (hdrop : gDrop j (⟨dst, op, ty0, pos0, aft0, some (j, true)⟩ :: l) = ⟨some t, .pick c (.tmp y) (.const (.bool false)), ty, pos, aft, none⟩ :: rest) (hc : ev F c = some (.val (.bool b)))
    (hsk : okSkip ops F Γ.nt j true [] (gTake j (⟨dst, op, ty0, pos0, aft0, some (j, true)⟩ :: l)) = true) (hy : hasKey F y = false) (hlt : Nat.blt t Γ.nt = true)
    (hyes : b = true → J P Γ ops (Qj Γ F L y q) F L (gTake j (⟨dst, op, ty0, pos0, aft0, some (j, true)⟩ :: l)))
    (k : J P Γ ops Q ((t, .val (.bool (b && q))) :: F) L rest) : J P Γ ops Q F L (⟨dst, op, ty0, pos0, aft0, some (j, true)⟩ :: l) := by
  rw [← gSplit j (⟨dst, op, ty0, pos0, aft0, some (j, true)⟩ :: l), hdrop]
  cases b with
  | true =>
    refine ⟨fun a w hst => wpList_join ?_ ?_ _ a w ((hyes rfl).go a w hst)⟩
    · rintro a w ⟨_, h1, h2⟩
      exact (Jx.pickT (c := c) (b := true) (x := .tmp y) (y := .const (.bool false)) (s := .val (.bool q)) (ev_off hy hc) rfl (by simp [ev, look]) hlt (J.ofSt fun a w h => k.go a w (told_off hy h))).go a w (h1.told1 (t := y) (s := .val (.bool q)) (by rw [h2]; exact .val _))
    · rintro e a w he ⟨h, _⟩; exact absurd h he
  | false =>
    exact ⟨fun a w hst => skip_run (want := true) ho hod hv (Jx.pickF (c := c) (b := false) (x := .tmp y) (y := .const (.bool false)) (s := .val (.bool false)) hc rfl rfl hlt k) _ [] a w hsk hst (by simp)⟩
theorem J.guardOrG {q b b2 w2 : Bool} {j2 d2 : Nat} {og2 : Oper} (ho2 : ops[j2]? = some og2) (hod2 : og2.dst = some d2) (hv2 : look F d2 = some (.val (.bool b2))) (hb2 : b2 = w2) {j d t y : Nat} {c : Operand} {og : Oper} (ho : ops[j]? = some og) (hod : og.dst = some d) (hv : look F d = some (.val (.bool b)))
    (hdrop : gDrop j (⟨dst, op, ty0, pos0, aft0, some (j, false)⟩ :: l) = ⟨some t, .pick c (.const (.bool true)) (.tmp y), ty, pos, aft, some (j2, w2)⟩ :: rest) (hc : ev F c = some (.val (.bool b)))
    (hsk : okSkip ops F Γ.nt j false [] (gTake j (⟨dst, op, ty0, pos0, aft0, some (j, false)⟩ :: l)) = true) (hy : hasKey F y = false) (hlt : Nat.blt t Γ.nt = true)
    (hyes : b = false → J P Γ ops (Qj Γ F L y q) F L (gTake j (⟨dst, op, ty0, pos0, aft0, some (j, false)⟩ :: l)))
    (k : J P Γ ops Q ((t, .val (.bool (b || q))) :: F) L rest) : J P Γ ops Q F L (⟨dst, op, ty0, pos0, aft0, some (j, false)⟩ :: l) := by
  rw [← gSplit j (⟨dst, op, ty0, pos0, aft0, some (j, false)⟩ :: l), hdrop]
  cases b with
  | false =>
    refine ⟨fun a w hst => wpList_join ?_ ?_ _ a w ((hyes rfl).go a w hst)⟩
    · rintro a w ⟨_, h1, h2⟩
      exact (J.guardYes ho2 hod2 (ev_off (c := .tmp d2) hy hv2) hb2 (Jx.pickF (c := c) (b := false) (x := .const (.bool true)) (y := .tmp y) (s := .val (.bool q)) (ev_off hy hc) rfl (by simp [ev, look]) hlt (J.ofSt fun a w h => k.go a w (told_off hy h)))).go a w (h1.told1 (t := y) (s := .val (.bool q)) (by rw [h2]; exact .val _))
    · rintro e a w he ⟨h, _⟩; exact absurd h he
  | true =>
    exact ⟨fun a w hst => skip_run (want := false) ho hod hv (J.guardYes ho2 hod2 hv2 hb2 (Jx.pickT (c := c) (b := true) (x := .const (.bool true)) (y := .tmp y) (s := .val (.bool true)) hc rfl rfl hlt k)) _ [] a w hsk hst (by simp)⟩
theorem J.guardAndG {q b b2 w2 : Bool} {j2 d2 : Nat} {og2 : Oper} (ho2 : ops[j2]? = some og2) (hod2 : og2.dst = some d2) (hv2 : look F d2 = some (.val (.bool b2))) (hb2 : b2 = w2) {j d t y : Nat} {c : Operand} {og : Oper} (ho : ops[j]? = some og) (hod : og.dst = some d) (hv : look F d = some (.val (.bool b)))
    (hdrop : gDrop j (⟨dst, op, ty0, pos0, aft0, some (j, true)⟩ :: l) = ⟨some t, .pick c (.tmp y) (.const (.bool false)), ty, pos, aft, some (j2, w2)⟩ :: rest) (hc : ev F c = some (.val (.bool b)))
    (hsk : okSkip ops F Γ.nt j true [] (gTake j (⟨dst, op, ty0, pos0, aft0, some (j, true)⟩ :: l)) = true) (hy : hasKey F y = false) (hlt : Nat.blt t Γ.nt = true)
    (hyes : b = true → J P Γ ops (Qj Γ F L y q) F L (gTake j (⟨dst, op, ty0, pos0, aft0, some (j, true)⟩ :: l)))
    (k : J P Γ ops Q ((t, .val (.bool (b && q))) :: F) L rest) : J P Γ ops Q F L (⟨dst, op, ty0, pos0, aft0, some (j, true)⟩ :: l) := by
  rw [← gSplit j (⟨dst, op, ty0, pos0, aft0, some (j, true)⟩ :: l), hdrop]
  cases b with
  | true =>
    refine ⟨fun a w hst => wpList_join ?_ ?_ _ a w ((hyes rfl).go a w hst)⟩
    · rintro a w ⟨_, h1, h2⟩
      exact (J.guardYes ho2 hod2 (ev_off (c := .tmp d2) hy hv2) hb2 (Jx.pickT (c := c) (b := true) (x := .tmp y) (y := .const (.bool false)) (s := .val (.bool q)) (ev_off hy hc) rfl (by simp [ev, look]) hlt (J.ofSt fun a w h => k.go a w (told_off hy h)))).go a w (h1.told1 (t := y) (s := .val (.bool q)) (by rw [h2]; exact .val _))
    · rintro e a w he ⟨h, _⟩; exact absurd h he
  | false =>
    exact ⟨fun a w hst => skip_run (want := true) ho hod hv (J.guardYes ho2 hod2 hv2 hb2 (Jx.pickF (c := c) (b := false) (x := .tmp y) (y := .const (.bool false)) (s := .val (.bool false)) hc rfl rfl hlt k)) _ [] a w hsk hst (by simp)⟩
theorem J.gY {dst : Option Tmp} {op : Op} {ty : TypeId} {pos : String} {aft : Array Edge} {j d : Nat} {want b : Bool} {og : Oper}
    (ho : ops[j]? = some og) (hd : og.dst = some d) (hv : look F d = some (.val (.bool b)))
    (h : J P Γ ops Q F L (⟨dst, op, ty, pos, aft, none⟩ :: rest)) (hb : b = want := by first | rfl | assumption | (exact decide_eq_true (by first | assumption | omega | rfl)) | (exact decide_eq_false (by first | assumption | omega | rfl)) | (simp; done) | (simp; omega)) : J P Γ ops Q F L (⟨dst, op, ty, pos, aft, some (j, want)⟩ :: rest) := J.guardYes ho hd hv hb h
theorem J.gN {dst : Tmp} {op : Op} {ty : TypeId} {pos : String} {aft : Array Edge} {j d : Nat} {want b : Bool} {og : Oper}
    (ho : ops[j]? = some og) (hd : og.dst = some d) (hv : look F d = some (.val (.bool b))) (hlt : Nat.blt dst Γ.nt = true)
    (h : J P Γ ops Q ((dst, .val undef) :: F) L rest) (hb : b = !want := by first | rfl | assumption | (exact decide_eq_true (by first | assumption | omega | rfl)) | (exact decide_eq_false (by first | assumption | omega | rfl)) | (simp; done) | (simp; omega)) : J P Γ ops Q F L (⟨some dst, op, ty, pos, aft, some (j, want)⟩ :: rest) := J.guardNoU ho hd hv hb hlt h
theorem Jx.pT {c x y : Operand} {s : SV} {b : Bool} {d0 : Nat} (hc : ev F c = some (.val (.bool b))) (hx : ev F x = some s) (hlt : Nat.blt d0 Γ.nt = true) (k : J P Γ ops Q ((d0, s) :: F) L rest) (hb : b = true := by first | rfl | assumption | (exact decide_eq_true (by first | assumption | omega | rfl)) | (exact decide_eq_false (by first | assumption | omega | rfl)) | (simp; done) | (simp; omega)) :
    J P Γ ops Q F L (⟨some d0, .pick c x y, ty, pos, aft, none⟩ :: rest) := Jx.pickT hc hb hx hlt k
theorem Jx.pF {c x y : Operand} {s : SV} {b : Bool} {d0 : Nat} (hc : ev F c = some (.val (.bool b))) (hy : ev F y = some s) (hlt : Nat.blt d0 Γ.nt = true) (k : J P Γ ops Q ((d0, s) :: F) L rest) (hb : b = false := by first | rfl | assumption | (exact decide_eq_true (by first | assumption | omega | rfl)) | (exact decide_eq_false (by first | assumption | omega | rfl)) | (simp; done) | (simp; omega)) :
    J P Γ ops Q F L (⟨some d0, .pick c x y, ty, pos, aft, none⟩ :: rest) := Jx.pickF hc hb hy hlt k
theorem W.cT {c : Operand} {x y : Code} {b : Bool} (hc : ev F c = some (.val (.bool b))) (ht : W P Γ Q F L x) (hb : b = true := by first | rfl | assumption | (exact decide_eq_true (by first | assumption | omega | rfl)) | (exact decide_eq_false (by first | assumption | omega | rfl)) | (simp; done) | (simp; omega)) : W P Γ Q F L (.cond c x y) := W.condT hc hb ht
theorem W.cF {c : Operand} {x y : Code} {b : Bool} (hc : ev F c = some (.val (.bool b))) (hf : W P Γ Q F L y) (hb : b = false := by first | rfl | assumption | (exact decide_eq_true (by first | assumption | omega | rfl)) | (exact decide_eq_false (by first | assumption | omega | rfl)) | (simp; done) | (simp; omega)) : W P Γ Q F L (.cond c x y) := W.condF hc hb hf
theorem J.st {T b o : Nat} [h : TSc P T] {x y : Operand} {s : SV} (i : Nat) (hx : ev F x = some (.val (.pointer (some ⟨b, o, none⟩)))) (hy : ev F y = some s) {T' : TypeId} {cs cs' : List SV} {L' : List Own}
    (hi : L[i]? = some (.obj b T' cs)) (ho : Nat.blt o cs.length = true) (hcs : cs.set o s = cs') (hL : L.set i (.obj b T' cs') = L') (k : J P Γ ops Q F L' rest) (h1 : One s := by first | exact One.val rfl | exact One.sl | exact One.pp | exact One.slc) :
    J P Γ ops Q F L (⟨none, .store T x y, ty, pos, aft, none⟩ :: rest) := J.store hx hy h1 i hi ho hcs hL k
theorem SegC.gY {K : List (Nat × SV) → Prop} {dst : Option Tmp} {j e : Nat} {want b : Bool} {og : Oper}
    (hog : ops[j]? = some og) (hod : og.dst = some e) (hv : look F e = some (.val (.bool b))) (h : SegC P Γ ops L F (⟨dst, op, ty, pos, aft, none⟩ :: l) K) (hb : b = want := by first | rfl | assumption | (exact decide_eq_true (by first | assumption | omega | rfl)) | (exact decide_eq_false (by first | assumption | omega | rfl)) | (simp; done) | (simp; omega)) : SegC P Γ ops L F (⟨dst, op, ty, pos, aft, some (j, want)⟩ :: l) K := SegC.yes hog hod hv hb h
theorem SegC.gN {K : List (Nat × SV) → Prop} {d j e : Nat} {want b : Bool} {og : Oper}
    (hog : ops[j]? = some og) (hod : og.dst = some e) (hv : look F e = some (.val (.bool b))) (hlt : Nat.blt d Γ.nt = true) (hr : SegC P Γ ops L ((d, .any) :: F) l K) (hb : b = !want := by first | rfl | assumption | (exact decide_eq_true (by first | assumption | omega | rfl)) | (exact decide_eq_false (by first | assumption | omega | rfl)) | (simp; done) | (simp; omega)) : SegC P Γ ops L F (⟨some d, op, ty, pos, aft, some (j, want)⟩ :: l) K := SegC.no hog hod hv hb hlt hr
theorem SegC.gU {K : List (Nat × SV) → Prop} {d j e : Nat} {want b : Bool} {og : Oper}
    (hog : ops[j]? = some og) (hod : og.dst = some e) (hv : look F e = some (.val (.bool b))) (hlt : Nat.blt d Γ.nt = true) (hr : SegC P Γ ops L ((d, .val undef) :: F) l K) (hb : b = !want := by first | rfl | assumption | (exact decide_eq_true (by first | assumption | omega | rfl)) | (exact decide_eq_false (by first | assumption | omega | rfl)) | (simp; done) | (simp; omega)) : SegC P Γ ops L F (⟨some d, op, ty, pos, aft, some (j, want)⟩ :: l) K := SegC.noU hog hod hv hb hlt hr
end
def JnE {α : Type} (Γ : Ctx) (F' : α → List (Nat × SV)) (L' : α → List Own) (I : α → Prop) : Exit → Act → World → Prop := fun e a w => e = .normal ∧ ∃ x, I x ∧ St Γ (F' x) (L' x) a w
section
variable {P : Program} {Γ : Ctx} {Q : Exit → Act → World → Prop} {F : List (Nat × SV)} {L : List Own} {α : Type}
theorem W.joinE {c : Code} (F' : α → List (Nat × SV)) (L' : α → List Own) (I : α → Prop) (h : W P Γ (JnE Γ F' L' I) F L c) (k : ∀ x, I x → N Γ (Q .normal) (F' x) (L' x)) : W P Γ Q F L c :=
  ⟨fun a w hst => wp_mono (h.go a w hst) (by rintro e a w ⟨rfl, x, hx, hs⟩; exact (k x hx).go a w hs)⟩
theorem N.joinE {F' : α → List (Nat × SV)} {L' : α → List Own} {I : α → Prop} (x : α) (hx : I x) (hL : L = L' x) (hF : Told F (F' x)) : N Γ (JnE Γ F' L' I .normal) F L :=
  ⟨fun a w hst => by subst hL; exact ⟨rfl, x, hx, hst.told hF⟩⟩
end
def JnQ {α : Type} (Γ : Ctx) (Q : Exit → Act → World → Prop) (F' : α → List (Nat × SV)) (L' : α → List Own) (I : α → Prop) : Exit → Act → World → Prop := fun e a w => (e = .normal ∧ ∃ x, I x ∧ St Γ (F' x) (L' x) a w) ∨ (e ≠ .normal ∧ Q e a w)
section
variable {P : Program} {Γ : Ctx} {Q : Exit → Act → World → Prop} {F : List (Nat × SV)} {L : List Own} {α : Type}
theorem W.joinQ {c : Code} (F' : α → List (Nat × SV)) (L' : α → List Own) (I : α → Prop) (h : W P Γ (JnQ Γ Q F' L' I) F L c) (k : ∀ x, I x → N Γ (Q .normal) (F' x) (L' x)) : W P Γ Q F L c :=
  ⟨fun a w hst => wp_mono (h.go a w hst) (by
    rintro e a w (⟨rfl, x, hx, hs⟩ | ⟨_, h⟩)
    · exact (k x hx).go a w hs
    · exact h)⟩
theorem N.joinQ {F' : α → List (Nat × SV)} {L' : α → List Own} {I : α → Prop} (x : α) (hx : I x) (hL : L = L' x) (hF : Told F (F' x)) : N Γ (JnQ Γ Q F' L' I .normal) F L :=
  ⟨fun a w hst => by subst hL; exact .inl ⟨rfl, x, hx, hst.told hF⟩⟩
theorem N.outRet {F' : α → List (Nat × SV)} {L' : α → List Own} {I : α → Prop} (h : N Γ (Q .ret) F L) : N Γ (JnQ Γ Q F' L' I .ret) F L := ⟨fun a w hst => .inr ⟨by simp, h.go a w hst⟩⟩
end
end Go.Sse
namespace Go.Sse
open Go Go.Sse
set_option linter.unusedVariables false
set_option linter.unusedSimpArgs false
set_option maxRecDepth 10000
section
variable {P : Program} {Γ : Ctx} {Q : Exit → Act → World → Prop} {F : List (Nat × SV)} {L : List Own} {α : Type}
def slotInt (a : Act) (i : Nat) : Int := match a.tmps.getD i undef with
  | .int _ n => n
  | _ => 0
def JS (Γ : Ctx) (Fi : α → List (Nat × SV)) (Li : α → List Own) (inv : α → Prop) (a : Act) (w : World) : Prop := ∃ x, inv x ∧ St Γ (Fi x) (Li x) a w
theorem W.scopeJ {c rest : Code} (l : Nat) (Fi : α → List (Nat × SV)) (Li : α → List Own) (inv : α → Prop) (i : Nat) (v : α → Int) (f : Int → Nat) (hf : findLabel c l = some rest) (hv : ∀ x, inv x → look (Fi x) i = some (.val (.int .i64 (v x))))
    (first : W P Γ (Exit.jump l (JS Γ Fi Li inv) Q) F L c)
    (pass : ∀ x, inv x → W P Γ (Exit.jump l (JS Γ Fi Li fun y => inv y ∧ f (v y) < f (v x)) Q) (Fi x) (Li x) rest) : W P Γ Q F L (.scope c) :=
  ⟨fun a w hst => by
    refine wp_scope_jumps l (JS Γ Fi Li inv) (fun a _ => f (slotInt a i)) hf (first.go a w hst) ?_
    rintro a w ⟨x, hx, hs⟩
    have hs1 : slotInt a i = v x := by unfold slotInt; rw [(hs.fr i _ (hv x hx)).val_eq]
    refine wp_mono ((pass x hx).go a w hs) ?_
    intro e a' w' hq
    cases e with
    | goto l' =>
      obtain ⟨h1, y, ⟨hy, hlt⟩, hs'⟩ := hq
      have hs2 : slotInt a' i = v y := by unfold slotInt; rw [(hs'.fr i _ (hv y hy)).val_eq]
      exact ⟨h1, ⟨y, hy, hs'⟩, by rw [hs1, hs2]; exact hlt⟩
    | normal => exact hq
    | exit id => exact hq
    | ret => exact hq
    | panic ch => exact hq
    | outgrown => exact hq⟩
theorem W.label {l : Nat} (h : N Γ (Q .normal) F L) : W P Γ Q F L (.label l) := ⟨fun a w hst => wp_label (h.go a w hst)⟩
theorem W.goto {l : Nat} (h : N Γ (Q (.goto l)) F L) : W P Γ Q F L (.goto l) := ⟨fun a w hst => wp_goto (h.go a w hst)⟩
theorem N.seqGoto {K : Act → World → Prop} {l : Nat} (h : N Γ (Q (.goto l)) F L) : N Γ (Exit.then K Q (.goto l)) F L := ⟨fun a w hst => h.go a w hst⟩
theorem N.jump {J : Act → World → Prop} {l : Nat} (h : N Γ J F L) : N Γ (Exit.jump l J Q (.goto l)) F L := ⟨fun a w hst => ⟨rfl, h.go a w hst⟩⟩
theorem N.atJump {Fi : α → List (Nat × SV)} {Li : α → List Own} {inv : α → Prop} (x : α) (hx : inv x) (hL : L = Li x) (hF : Told F (Fi x)) : N Γ (JS Γ Fi Li inv) F L := ⟨fun a w hst => by subst hL; exact ⟨x, hx, hst.told hF⟩⟩
theorem W.jumpLess {c : Code} {l : Nat} {J1 J2 : Act → World → Prop} (h : ∀ a w, J1 a w → J2 a w) (hw : W P Γ (Exit.jump l J1 Q) F L c) : W P Γ (Exit.jump l J2 Q) F L c :=
  ⟨fun a w hst => wp_mono (hw.go a w hst) (by
    intro e a' w' hq
    cases e with
    | goto l' => exact ⟨hq.1, h _ _ hq.2⟩
    | normal => exact hq
    | exit id => exact hq
    | ret => exact hq
    | panic ch => exact hq
    | outgrown => exact hq)⟩
theorem W.scopeL {c y : Code} (l : Nat) (Fi : α → List (Nat × SV)) (Li : α → List Own) (inv : α → Prop) (i : Nat) (v : α → Int) (f : Int → Nat) (hf : findLabel c l = some (.seq .skip y)) (hv : ∀ x, inv x → look (Fi x) i = some (.val (.int .i64 (v x))))
    (first : (∀ x, inv x → W P Γ (Exit.jump l (JS Γ Fi Li inv) Q) (Fi x) (Li x) y) → W P Γ (Exit.jump l (JS Γ Fi Li inv) Q) F L c)
    (pass : ∀ x, inv x → W P Γ (Exit.jump l (JS Γ Fi Li fun y => inv y ∧ f (v y) < f (v x)) Q) (Fi x) (Li x) y) : W P Γ Q F L (.scope c) :=
  W.scopeJ l Fi Li inv i v f hf hv (first fun x hx => W.jumpLess (fun a w ⟨y, hy, hs⟩ => ⟨y, hy.1, hs⟩) (pass x hx)) fun x hx => W.seq (W.skip (N.seq (pass x hx)))
theorem W.scopeS {c : Code} (h : W P Γ (Exit.noGoto Q) F L c) : W P Γ Q F L (.scope c) := ⟨fun a w hst => wp_scope_straight (h.go a w hst)⟩
theorem N.noGotoRet (h : N Γ (Q .ret) F L) : N Γ (Exit.noGoto Q .ret) F L := ⟨fun a w hst => h.go a w hst⟩
end
section
variable {P : Program} {Γ : Ctx} {ops : Array Oper} {Q : Exit → Act → World → Prop} {F G : List (Nat × SV)} {L L' : List Own}
theorem JP.perm {S idx : List Nat} (hp : L.Perm L') (h : JP P Γ ops Q S idx G L') : JP P Γ ops Q S idx G L :=
  ⟨fun k listed a w hq hk => by
    have hin : ∀ b, inF L' b ↔ inF L b := fun b => (hp.flatMap_right _).mem_iff.symm
    exact h.go k listed a w ⟨hq.sz, hq.lo, hq.hi, hq.cl, hq.ws.perm hp, hq.nt, hq.df, fun x s hx hb => (hq.fr x s hx hb).stable fun b _ hn => ⟨rfl, fun hc => hn (by rcases hc with hc | hc; exact .inl hc; exact .inr ((hin b).1 hc))⟩⟩ hk⟩
theorem WSt.rowRel {v : Value} {E sz n : Nat} {el : Nat → List SV} {w : World} (hws : WSt Γ (.row v E sz n el :: L) w) (hmax : n ≤ maxLen) : Rel (ZL Γ.Z L) w (.sl sz n el) v := by
  rcases hws.holds _ (List.mem_cons_self ..) with ⟨rfl, rfl⟩ | ⟨b, cap, cur, fz, rfl, hbk, hu, hnc, hcm, hcs, hone, hell, hrel⟩
  · exact .sl sz 0 el none 0 (fun _ => undef) (Nat.le_refl _) (Nat.zero_le _) (.inl (by simp)) (by simp) (by simp) (by simp)
  · have hle : n * sz ≤ cur.size := by rw [hcs]; exact Nat.mul_le_mul_right _ hnc
    have hnz : ¬ ZL Γ.Z L b := by
      have hnd := hws.nodup
      rw [foots_cons, List.nodup_append] at hnd
      rintro (h | h)
      · exact (hws.foot b (by simp [inF, foots_cons, Own.foot])).1 h
      · exact hnd.2.2 b (by simp [Own.foot]) b h rfl
    refine .sl sz n el (some ⟨b, 0, none⟩) cap (fun k => cur.toList.getD k undef) hnc hcm (.inr ⟨b, 0, rfl, hnz, fun k hk => ?_⟩) (fun k hk => ?_) hell (fun i j hi hj => (hrel i j hi hj).stable fun b' _ hn => ⟨rfl, fun hc => hn ?_⟩)
    · rw [Nat.zero_add, obj_cell hbk]
      have : k < cur.size := by omega
      simp [List.getD_eq_getElem?_getD, this]
    · have : k < cur.size := by omega
      refine hone _ ?_
      simp only [List.getD_eq_getElem?_getD, Array.getElem?_toList, Array.getElem?_eq_getElem this, Option.getD_some]
      exact Array.getElem_mem_toList this
    · rcases hc with hc | hc
      · exact .inl hc
      · refine .inr ?_
        simp only [inF, foots_cons, List.mem_append]
        exact .inr hc
theorem Step.objTell {k b o : Nat} {T : TypeId} {cs : List SV} {s : SV} {v : Value} {w : World} (h : WSt Γ L w) (hi : L[k]? = some (.obj b T cs)) (hc : cs[o]? = some (.val v)) (hr : Rel (ZL Γ.Z L) w s v) : Step Γ L (L.set k (.obj b T (cs.set o s))) w w := by
  refine Step.upd h hi rfl ⟨rfl, rfl, rfl, rfl⟩ (fun _ _ => rfl) ?_
  obtain ⟨vs, fz, hb, hu, h1, h2, h3⟩ := h.holds _ (mem_of_idx hi)
  have hlt : o < cs.length := (List.getElem?_eq_some_iff.1 hc).1
  refine ⟨vs, fz, hb, hu, by rw [List.length_set]; exact h1, h2, fun j hj => ?_⟩
  rw [List.length_set] at hj
  have h4 := h3 j hj
  by_cases ho : o = j
  · subst ho
    simp only [List.getD_eq_getElem?_getD, hc, Option.getD_some] at h4
    have h5 := h4.val_eq
    simp only [List.getD_eq_getElem?_getD, List.getElem?_set_self hlt, Option.getD_some] at h5 ⊢
    rw [h5]; exact hr
  · simp only [List.getD_eq_getElem?_getD, List.getElem?_set_ne ho] at h4 ⊢
    exact h4
theorem St.freezeCell {v : Value} {E sz n k b o : Nat} {T : TypeId} {cs : List SV} {el : Nat → List SV} {a : Act} {w : World} (hst : St Γ F (.row v E sz n el :: L) a w) (hi : L[k]? = some (.obj b T cs)) (hc : cs[o]? = some (.val v)) (hmax : n ≤ maxLen) : St Γ F (L.set k (.obj b T (cs.set o (.sl sz n el)))) a w := by
  have hr := hst.ws.rowRel hmax
  have hs := hst.step (Step.drop hst.ws (List.sublist_cons_self _ _))
  exact hs.step (Step.objTell hs.ws hi hc hr)
theorem W.freezeCell {c : Code} (j k o : Nat) {v : Value} {E sz n b : Nat} {T : TypeId} {cs : List SV} {el : Nat → List SV} (hj : L[j]? = some (.row v E sz n el)) (hi : (L.eraseIdx j)[k]? = some (.obj b T cs)) (hc : cs[o]? = some (.val v)) (hmax : n ≤ maxLen) (hL : (L.eraseIdx j).set k (.obj b T (cs.set o (.sl sz n el))) = L') (h : W P Γ Q F L' c) : W P Γ Q F L c :=
  ⟨fun a w hst => by subst hL; exact h.go a w ((hst.perm (perm_erase hj)).freezeCell hi hc hmax)⟩
theorem N.freezeCell {K : Act → World → Prop} (j k o : Nat) {v : Value} {E sz n b : Nat} {T : TypeId} {cs : List SV} {el : Nat → List SV} (hj : L[j]? = some (.row v E sz n el)) (hi : (L.eraseIdx j)[k]? = some (.obj b T cs)) (hc : cs[o]? = some (.val v)) (hmax : n ≤ maxLen) (hL : (L.eraseIdx j).set k (.obj b T (cs.set o (.sl sz n el))) = L') (h : N Γ K F L') : N Γ K F L :=
  ⟨fun a w hst => by subst hL; exact h.go a w ((hst.perm (perm_erase hj)).freezeCell hi hc hmax)⟩
end
end Go.Sse
namespace Go.Sse
open Go Go.Sse
set_option linter.unusedVariables false
set_option linter.unusedSimpArgs false
section
variable {P : Program} {Γ : Ctx} {ops : Array Oper} {Q : Exit → Act → World → Prop} {F : List (Nat × SV)} {L : List Own} {rest : List Oper}
variable {dst : Option Tmp} {ty : TypeId} {pos : String} {aft : Array Edge} {g : Option (Nat × Bool)}
theorem Qs.buildAgs {α : Type} {t E sz by' len : Nat} {z : List Value} [ht : TSlice P t E] [hI : TInfo P E sz by' z] {parts : List (Nat × Operand)} (enc : α → List SV) (d : α) (l : List α) (ha : evs F (parts.map (·.2)) = some (l.map fun a => .agg (enc a))) (hi : parts.map (·.1) = List.range' 0 parts.length)
    (hcs : ∀ a, (enc a).length = sz) (hl : l.length = len) (hz' : Nat.beq z.length sz = true) (h0 : 0 < len * sz) (hmax : len * sz ≤ 16777216) (hz1 : z.all (·.oneCell') = true) : Qs P Γ F L ⟨dst, .buildSlice t len parts.toArray, ty, pos, aft, g⟩ (.sl sz l.length (elOf enc d l)) := by
  have hz := Nat.eq_of_beq_eq_true hz'
  have hp := parts_of ha hi (fun s hs => by obtain ⟨a, _, rfl⟩ := List.mem_map.1 hs; exact .agg)
  refine (Qs.buildSlice (sz := sz) (z := z) hp (by simpa using hl) (fun s hs => by obtain ⟨a, _, rfl⟩ := List.mem_map.1 hs; exact hcs a) hz h0 hmax hz1).sub ?_
  subst hl
  refine Sub.slOf (l := l) rfl fun i hi => ?_
  simp only [List.getD_eq_getElem?_getD, List.getElem?_map, List.getElem?_eq_getElem hi, Option.map_some, Option.getD_some]
  rfl
theorem JP.callV [Gl P] [Globs P Γ] {l : List Oper} {S idx : List Nat} {G : List (Nat × SV)} {d f : Nat} [hT : TFunc P f] {t : Operand} {us vs : List Value} {xs : List Operand} {ts : Array TypeId} {args : List SV} {Lc Lr : List Own} {R : SV → List Own → Prop} (i : Nat) (ks S' idx' : List Nat)
    (hF : FnC P f (us.map .val ++ args ++ vs.map .val) Lc R) (hL : L = Lc ++ Lr) (hc : (okIdx l.toArray S idx && okStep l.toArray S idx i ks S' idx') = true)
    (hoi : l[i]? = some ⟨some d, .call { callee := .value t, args := xs.toArray, argTypes := ts }, ty, pos, aft, g⟩) (hre : SegC P Γ l.toArray L G (opsAt l idx) (Ag G idx.length)) (ht : ev (keep ks G) t = some (.val (.func (.func f) us.toArray vs.toArray))) (ha : Args (keep ks G) xs args) (hlt : Nat.blt d Γ.nt = true)
    (k : ∀ s Lc', R s Lc' → JP P Γ l.toArray Q S' idx' ((d, s) :: G) (Lc' ++ Lr)) : JP P Γ l.toArray Q S idx G L :=
  JP.do1 i ks S' idx' hc hoi hre (OpS.callV ht hF hL ha) hlt (by rintro s L' ⟨Lc', hR, rfl⟩; exact k s Lc' hR)
end
end Go.Sse
namespace Go.Proofs.YtlfdhkahiaammaaGreatDoor
open Go Go.Sse
set_option linter.unusedVariables false
instance : TSc Tryz.prog 0 := ⟨by kernel_rfl, by kernel_rfl⟩
instance : TSc Tryz.prog 1 := ⟨by kernel_rfl, by kernel_rfl⟩
instance : TInfo Tryz.prog 1 1 8 [.nilFunc] := ⟨by kernel_rfl⟩
instance : TInt Tryz.prog 2 .i64 := ⟨by kernel_rfl⟩
instance : TSc Tryz.prog 2 := ⟨by kernel_rfl, by kernel_rfl⟩
instance : TInfo Tryz.prog 2 1 8 [.int .i64 0] := ⟨by kernel_rfl⟩
instance : TInt Tryz.prog 3 .i64 := ⟨by kernel_rfl⟩
instance : TSc Tryz.prog 3 := ⟨by kernel_rfl, by kernel_rfl⟩
instance : TInfo Tryz.prog 3 1 8 [.int .i64 0] := ⟨by kernel_rfl⟩
instance : TBool Tryz.prog 4 := ⟨by kernel_rfl⟩
instance : TSc Tryz.prog 4 := ⟨by kernel_rfl, by kernel_rfl⟩
instance : TInfo Tryz.prog 4 1 1 [.bool false] := ⟨by kernel_rfl⟩
instance : TInt Tryz.prog 5 .u8 := ⟨by kernel_rfl⟩
instance : TSc Tryz.prog 5 := ⟨by kernel_rfl, by kernel_rfl⟩
instance : TInfo Tryz.prog 5 1 1 [.int .u8 0] := ⟨by kernel_rfl⟩
instance : TInt Tryz.prog 6 .u8 := ⟨by kernel_rfl⟩
instance : TSc Tryz.prog 6 := ⟨by kernel_rfl, by kernel_rfl⟩
instance : TInfo Tryz.prog 6 1 1 [.int .u8 0] := ⟨by kernel_rfl⟩
instance : TFld Tryz.prog 7 0 0 2 1 := ⟨by kernel_rfl, by decide⟩
instance : TFld Tryz.prog 7 1 1 3 1 := ⟨by kernel_rfl, by decide⟩
instance : TFld Tryz.prog 7 2 2 4 1 := ⟨by kernel_rfl, by decide⟩
instance : TFld Tryz.prog 7 3 3 6 1 := ⟨by kernel_rfl, by decide⟩
instance : TBuild Tryz.prog 7 [(0, 1), (1, 1), (2, 1), (3, 1)] := ⟨by kernel_rfl⟩
instance : TAg Tryz.prog 7 4 := ⟨by kernel_rfl, by kernel_rfl⟩
instance : TLeaf Tryz.prog 7 [.i .i64, .i .i64, .b, .i .u8] := ⟨by kernel_rfl, by kernel_rfl, by kernel_rfl⟩
instance : TInfo Tryz.prog 7 4 24 [.int .i64 0, .int .i64 0, .bool false, .int .u8 0] := ⟨by kernel_rfl⟩
instance : TFld Tryz.prog 8 0 0 2 1 := ⟨by kernel_rfl, by decide⟩
instance : TFld Tryz.prog 8 1 1 3 1 := ⟨by kernel_rfl, by decide⟩
instance : TFld Tryz.prog 8 2 2 4 1 := ⟨by kernel_rfl, by decide⟩
instance : TFld Tryz.prog 8 3 3 6 1 := ⟨by kernel_rfl, by decide⟩
instance : TBuild Tryz.prog 8 [(0, 1), (1, 1), (2, 1), (3, 1)] := ⟨by kernel_rfl⟩
instance : TAg Tryz.prog 8 4 := ⟨by kernel_rfl, by kernel_rfl⟩
instance : TLeaf Tryz.prog 8 [.i .i64, .i .i64, .b, .i .u8] := ⟨by kernel_rfl, by kernel_rfl, by kernel_rfl⟩
instance : TInfo Tryz.prog 8 4 24 [.int .i64 0, .int .i64 0, .bool false, .int .u8 0] := ⟨by kernel_rfl⟩
instance : TStr Tryz.prog 9 := ⟨by kernel_rfl⟩
instance : TSc Tryz.prog 9 := ⟨by kernel_rfl, by kernel_rfl⟩
instance : TInfo Tryz.prog 9 1 16 [.string ⟨#[]⟩] := ⟨by kernel_rfl⟩
instance : TStr Tryz.prog 10 := ⟨by kernel_rfl⟩
instance : TSc Tryz.prog 10 := ⟨by kernel_rfl, by kernel_rfl⟩
instance : TInfo Tryz.prog 10 1 16 [.string ⟨#[]⟩] := ⟨by kernel_rfl⟩
instance : TStr Tryz.prog 11 := ⟨by kernel_rfl⟩
instance : TSc Tryz.prog 11 := ⟨by kernel_rfl, by kernel_rfl⟩
instance : TInfo Tryz.prog 11 1 16 [.string ⟨#[]⟩] := ⟨by kernel_rfl⟩
instance : TInt Tryz.prog 12 .u64 := ⟨by kernel_rfl⟩
instance : TSc Tryz.prog 12 := ⟨by kernel_rfl, by kernel_rfl⟩
instance : TInfo Tryz.prog 12 1 8 [.int .u64 0] := ⟨by kernel_rfl⟩
instance : TFld Tryz.prog 13 0 0 9 1 := ⟨by kernel_rfl, by decide⟩
instance : TFld Tryz.prog 13 1 1 12 1 := ⟨by kernel_rfl, by decide⟩
instance : TBuild Tryz.prog 13 [(0, 1), (1, 1)] := ⟨by kernel_rfl⟩
instance : TAg Tryz.prog 13 2 := ⟨by kernel_rfl, by kernel_rfl⟩
instance : TInfo Tryz.prog 13 2 24 [.string ⟨#[]⟩, .int .u64 0] := ⟨by kernel_rfl⟩
instance : TFld Tryz.prog 14 0 0 9 1 := ⟨by kernel_rfl, by decide⟩
instance : TFld Tryz.prog 14 1 1 12 1 := ⟨by kernel_rfl, by decide⟩
instance : TBuild Tryz.prog 14 [(0, 1), (1, 1)] := ⟨by kernel_rfl⟩
instance : TAg Tryz.prog 14 2 := ⟨by kernel_rfl, by kernel_rfl⟩
instance : TInfo Tryz.prog 14 2 24 [.string ⟨#[]⟩, .int .u64 0] := ⟨by kernel_rfl⟩
instance : TPtr Tryz.prog 15 170 := ⟨by kernel_rfl⟩
instance : TSc Tryz.prog 15 := ⟨by kernel_rfl, by kernel_rfl⟩
instance : TInfo Tryz.prog 15 1 8 [.pointer none] := ⟨by kernel_rfl⟩
instance : TPtr Tryz.prog 16 173 := ⟨by kernel_rfl⟩
instance : TSc Tryz.prog 16 := ⟨by kernel_rfl, by kernel_rfl⟩
instance : TInfo Tryz.prog 16 1 8 [.pointer none] := ⟨by kernel_rfl⟩
instance : TPtr Tryz.prog 17 180 := ⟨by kernel_rfl⟩
instance : TSc Tryz.prog 17 := ⟨by kernel_rfl, by kernel_rfl⟩
instance : TInfo Tryz.prog 17 1 8 [.pointer none] := ⟨by kernel_rfl⟩
instance : TFld Tryz.prog 18 0 0 17 1 := ⟨by kernel_rfl, by decide⟩
instance : TBuild Tryz.prog 18 [(0, 1)] := ⟨by kernel_rfl⟩
instance : TAg Tryz.prog 18 1 := ⟨by kernel_rfl, by kernel_rfl⟩
instance : TInfo Tryz.prog 18 1 8 [.pointer none] := ⟨by kernel_rfl⟩
instance : TFld Tryz.prog 19 0 0 17 1 := ⟨by kernel_rfl, by decide⟩
instance : TBuild Tryz.prog 19 [(0, 1)] := ⟨by kernel_rfl⟩
instance : TAg Tryz.prog 19 1 := ⟨by kernel_rfl, by kernel_rfl⟩
instance : TInfo Tryz.prog 19 1 8 [.pointer none] := ⟨by kernel_rfl⟩
instance : TSc Tryz.prog 20 := ⟨by kernel_rfl, by kernel_rfl⟩
instance : TInfo Tryz.prog 20 1 16 [.nilIface] := ⟨by kernel_rfl⟩
instance : TInt Tryz.prog 21 .i32 := ⟨by kernel_rfl⟩
instance : TSc Tryz.prog 21 := ⟨by kernel_rfl, by kernel_rfl⟩
instance : TInfo Tryz.prog 21 1 4 [.int .i32 0] := ⟨by kernel_rfl⟩
instance : TSlice Tryz.prog 22 9 := ⟨by kernel_rfl⟩
instance : TSc Tryz.prog 22 := ⟨by kernel_rfl, by kernel_rfl⟩
instance : TInfo Tryz.prog 22 1 24 [.slice none 0 0] := ⟨by kernel_rfl⟩
instance : TFld Tryz.prog 23 0 0 3 1 := ⟨by kernel_rfl, by decide⟩
instance : TFld Tryz.prog 23 1 1 3 1 := ⟨by kernel_rfl, by decide⟩
instance : TFld Tryz.prog 23 2 2 3 1 := ⟨by kernel_rfl, by decide⟩
instance : TFld Tryz.prog 23 3 3 4 1 := ⟨by kernel_rfl, by decide⟩
instance : TFld Tryz.prog 23 4 4 9 1 := ⟨by kernel_rfl, by decide⟩
instance : TFld Tryz.prog 23 5 5 9 1 := ⟨by kernel_rfl, by decide⟩
instance : TFld Tryz.prog 23 6 6 9 1 := ⟨by kernel_rfl, by decide⟩
instance : TFld Tryz.prog 23 7 7 9 1 := ⟨by kernel_rfl, by decide⟩
instance : TFld Tryz.prog 23 8 8 9 1 := ⟨by kernel_rfl, by decide⟩
instance : TFld Tryz.prog 23 9 9 9 1 := ⟨by kernel_rfl, by decide⟩
instance : TFld Tryz.prog 23 10 10 22 1 := ⟨by kernel_rfl, by decide⟩
instance : TBuild Tryz.prog 23 [(0, 1), (1, 1), (2, 1), (3, 1), (4, 1), (5, 1), (6, 1), (7, 1), (8, 1), (9, 1), (10, 1)] := ⟨by kernel_rfl⟩
instance : TAg Tryz.prog 23 11 := ⟨by kernel_rfl, by kernel_rfl⟩
instance : TInfo Tryz.prog 23 11 152 [.int .i64 0, .int .i64 0, .int .i64 0, .bool false, .string ⟨#[]⟩, .string ⟨#[]⟩, .string ⟨#[]⟩, .string ⟨#[]⟩, .string ⟨#[]⟩, .string ⟨#[]⟩, .slice none 0 0] := ⟨by kernel_rfl⟩
instance : TFld Tryz.prog 24 0 0 3 1 := ⟨by kernel_rfl, by decide⟩
instance : TFld Tryz.prog 24 1 1 3 1 := ⟨by kernel_rfl, by decide⟩
instance : TFld Tryz.prog 24 2 2 3 1 := ⟨by kernel_rfl, by decide⟩
instance : TFld Tryz.prog 24 3 3 4 1 := ⟨by kernel_rfl, by decide⟩
instance : TFld Tryz.prog 24 4 4 9 1 := ⟨by kernel_rfl, by decide⟩
instance : TFld Tryz.prog 24 5 5 9 1 := ⟨by kernel_rfl, by decide⟩
instance : TFld Tryz.prog 24 6 6 9 1 := ⟨by kernel_rfl, by decide⟩
instance : TFld Tryz.prog 24 7 7 9 1 := ⟨by kernel_rfl, by decide⟩
instance : TFld Tryz.prog 24 8 8 9 1 := ⟨by kernel_rfl, by decide⟩
instance : TFld Tryz.prog 24 9 9 9 1 := ⟨by kernel_rfl, by decide⟩
instance : TFld Tryz.prog 24 10 10 22 1 := ⟨by kernel_rfl, by decide⟩
instance : TBuild Tryz.prog 24 [(0, 1), (1, 1), (2, 1), (3, 1), (4, 1), (5, 1), (6, 1), (7, 1), (8, 1), (9, 1), (10, 1)] := ⟨by kernel_rfl⟩
instance : TAg Tryz.prog 24 11 := ⟨by kernel_rfl, by kernel_rfl⟩
instance : TInfo Tryz.prog 24 11 152 [.int .i64 0, .int .i64 0, .int .i64 0, .bool false, .string ⟨#[]⟩, .string ⟨#[]⟩, .string ⟨#[]⟩, .string ⟨#[]⟩, .string ⟨#[]⟩, .string ⟨#[]⟩, .slice none 0 0] := ⟨by kernel_rfl⟩
instance : TSlice Tryz.prog 25 53 := ⟨by kernel_rfl⟩
instance : TSc Tryz.prog 25 := ⟨by kernel_rfl, by kernel_rfl⟩
instance : TInfo Tryz.prog 25 1 24 [.slice none 0 0] := ⟨by kernel_rfl⟩
instance : TFld Tryz.prog 26 0 0 9 1 := ⟨by kernel_rfl, by decide⟩
instance : TFld Tryz.prog 26 1 1 22 1 := ⟨by kernel_rfl, by decide⟩
instance : TBuild Tryz.prog 26 [(0, 1), (1, 1)] := ⟨by kernel_rfl⟩
instance : TAg Tryz.prog 26 2 := ⟨by kernel_rfl, by kernel_rfl⟩
instance : TInfo Tryz.prog 26 2 40 [.string ⟨#[]⟩, .slice none 0 0] := ⟨by kernel_rfl⟩
instance : TFld Tryz.prog 27 0 0 9 1 := ⟨by kernel_rfl, by decide⟩
instance : TFld Tryz.prog 27 1 1 22 1 := ⟨by kernel_rfl, by decide⟩
instance : TBuild Tryz.prog 27 [(0, 1), (1, 1)] := ⟨by kernel_rfl⟩
instance : TAg Tryz.prog 27 2 := ⟨by kernel_rfl, by kernel_rfl⟩
instance : TInfo Tryz.prog 27 2 40 [.string ⟨#[]⟩, .slice none 0 0] := ⟨by kernel_rfl⟩
instance : TFld Tryz.prog 28 0 0 24 11 := ⟨by kernel_rfl, by decide⟩
instance : TFld Tryz.prog 28 1 11 25 1 := ⟨by kernel_rfl, by decide⟩
instance : TFld Tryz.prog 28 2 12 27 2 := ⟨by kernel_rfl, by decide⟩
instance : TBuild Tryz.prog 28 [(0, 11), (11, 1), (12, 2)] := ⟨by kernel_rfl⟩
instance : TAg Tryz.prog 28 14 := ⟨by kernel_rfl, by kernel_rfl⟩
instance : TInfo Tryz.prog 28 14 216 [.int .i64 0, .int .i64 0, .int .i64 0, .bool false, .string ⟨#[]⟩, .string ⟨#[]⟩, .string ⟨#[]⟩, .string ⟨#[]⟩, .string ⟨#[]⟩, .string ⟨#[]⟩, .slice none 0 0, .slice none 0 0, .string ⟨#[]⟩, .slice none 0 0] := ⟨by kernel_rfl⟩
instance : TFld Tryz.prog 29 0 0 24 11 := ⟨by kernel_rfl, by decide⟩
instance : TFld Tryz.prog 29 1 11 25 1 := ⟨by kernel_rfl, by decide⟩
instance : TFld Tryz.prog 29 2 12 27 2 := ⟨by kernel_rfl, by decide⟩
instance : TBuild Tryz.prog 29 [(0, 11), (11, 1), (12, 2)] := ⟨by kernel_rfl⟩
instance : TAg Tryz.prog 29 14 := ⟨by kernel_rfl, by kernel_rfl⟩
instance : TInfo Tryz.prog 29 14 216 [.int .i64 0, .int .i64 0, .int .i64 0, .bool false, .string ⟨#[]⟩, .string ⟨#[]⟩, .string ⟨#[]⟩, .string ⟨#[]⟩, .string ⟨#[]⟩, .string ⟨#[]⟩, .slice none 0 0, .slice none 0 0, .string ⟨#[]⟩, .slice none 0 0] := ⟨by kernel_rfl⟩
instance : TSc Tryz.prog 30 := ⟨by kernel_rfl, by kernel_rfl⟩
instance : TInfo Tryz.prog 30 1 8 [.nilFunc] := ⟨by kernel_rfl⟩
instance : TSc Tryz.prog 31 := ⟨by kernel_rfl, by kernel_rfl⟩
instance : TInfo Tryz.prog 31 1 8 [.nilFunc] := ⟨by kernel_rfl⟩
instance : TInt Tryz.prog 32 .i64 := ⟨by kernel_rfl⟩
instance : TSc Tryz.prog 32 := ⟨by kernel_rfl, by kernel_rfl⟩
instance : TInfo Tryz.prog 32 1 8 [.int .i64 0] := ⟨by kernel_rfl⟩
instance : TSc Tryz.prog 33 := ⟨by kernel_rfl, by kernel_rfl⟩
instance : TSc Tryz.prog 34 := ⟨by kernel_rfl, by kernel_rfl⟩
instance : TInfo Tryz.prog 34 1 8 [.nilFunc] := ⟨by kernel_rfl⟩
instance : TSc Tryz.prog 35 := ⟨by kernel_rfl, by kernel_rfl⟩
instance : TSc Tryz.prog 36 := ⟨by kernel_rfl, by kernel_rfl⟩
instance : TInfo Tryz.prog 36 1 8 [.nilFunc] := ⟨by kernel_rfl⟩
instance : TSc Tryz.prog 37 := ⟨by kernel_rfl, by kernel_rfl⟩
instance : TInfo Tryz.prog 37 1 8 [.nilFunc] := ⟨by kernel_rfl⟩
instance : TSc Tryz.prog 38 := ⟨by kernel_rfl, by kernel_rfl⟩
instance : TInfo Tryz.prog 38 1 8 [.nilFunc] := ⟨by kernel_rfl⟩
instance : TSc Tryz.prog 39 := ⟨by kernel_rfl, by kernel_rfl⟩
instance : TInfo Tryz.prog 39 1 8 [.nilFunc] := ⟨by kernel_rfl⟩
instance : TSc Tryz.prog 40 := ⟨by kernel_rfl, by kernel_rfl⟩
instance : TInfo Tryz.prog 40 1 8 [.nilFunc] := ⟨by kernel_rfl⟩
instance : TFld Tryz.prog 41 0 0 3 1 := ⟨by kernel_rfl, by decide⟩
instance : TFld Tryz.prog 41 1 1 9 1 := ⟨by kernel_rfl, by decide⟩
instance : TFld Tryz.prog 41 2 2 3 1 := ⟨by kernel_rfl, by decide⟩
instance : TFld Tryz.prog 41 3 3 3 1 := ⟨by kernel_rfl, by decide⟩
instance : TFld Tryz.prog 41 4 4 9 1 := ⟨by kernel_rfl, by decide⟩
instance : TFld Tryz.prog 41 5 5 29 14 := ⟨by kernel_rfl, by decide⟩
instance : TFld Tryz.prog 41 6 19 27 2 := ⟨by kernel_rfl, by decide⟩
instance : TBuild Tryz.prog 41 [(0, 1), (1, 1), (2, 1), (3, 1), (4, 1), (5, 14), (19, 2)] := ⟨by kernel_rfl⟩
instance : TAg Tryz.prog 41 21 := ⟨by kernel_rfl, by kernel_rfl⟩
instance : TInfo Tryz.prog 41 21 312 [.int .i64 0, .string ⟨#[]⟩, .int .i64 0, .int .i64 0, .string ⟨#[]⟩, .int .i64 0, .int .i64 0, .int .i64 0, .bool false, .string ⟨#[]⟩, .string ⟨#[]⟩, .string ⟨#[]⟩, .string ⟨#[]⟩, .string ⟨#[]⟩, .string ⟨#[]⟩, .slice none 0 0, .slice none 0 0, .string ⟨#[]⟩, .slice none 0 0, .string ⟨#[]⟩, .slice none 0 0] := ⟨by kernel_rfl⟩
instance : TFld Tryz.prog 42 0 0 3 1 := ⟨by kernel_rfl, by decide⟩
instance : TFld Tryz.prog 42 1 1 9 1 := ⟨by kernel_rfl, by decide⟩
instance : TFld Tryz.prog 42 2 2 3 1 := ⟨by kernel_rfl, by decide⟩
instance : TFld Tryz.prog 42 3 3 3 1 := ⟨by kernel_rfl, by decide⟩
instance : TFld Tryz.prog 42 4 4 9 1 := ⟨by kernel_rfl, by decide⟩
instance : TFld Tryz.prog 42 5 5 29 14 := ⟨by kernel_rfl, by decide⟩
instance : TFld Tryz.prog 42 6 19 27 2 := ⟨by kernel_rfl, by decide⟩
instance : TBuild Tryz.prog 42 [(0, 1), (1, 1), (2, 1), (3, 1), (4, 1), (5, 14), (19, 2)] := ⟨by kernel_rfl⟩
instance : TAg Tryz.prog 42 21 := ⟨by kernel_rfl, by kernel_rfl⟩
instance : TInfo Tryz.prog 42 21 312 [.int .i64 0, .string ⟨#[]⟩, .int .i64 0, .int .i64 0, .string ⟨#[]⟩, .int .i64 0, .int .i64 0, .int .i64 0, .bool false, .string ⟨#[]⟩, .string ⟨#[]⟩, .string ⟨#[]⟩, .string ⟨#[]⟩, .string ⟨#[]⟩, .string ⟨#[]⟩, .slice none 0 0, .slice none 0 0, .string ⟨#[]⟩, .slice none 0 0, .string ⟨#[]⟩, .slice none 0 0] := ⟨by kernel_rfl⟩
instance : TSc Tryz.prog 43 := ⟨by kernel_rfl, by kernel_rfl⟩
instance : TInfo Tryz.prog 43 1 8 [.nilFunc] := ⟨by kernel_rfl⟩
instance : TSc Tryz.prog 44 := ⟨by kernel_rfl, by kernel_rfl⟩
instance : TInfo Tryz.prog 44 1 8 [.nilFunc] := ⟨by kernel_rfl⟩
instance : TSc Tryz.prog 45 := ⟨by kernel_rfl, by kernel_rfl⟩
instance : TSc Tryz.prog 46 := ⟨by kernel_rfl, by kernel_rfl⟩
instance : TInfo Tryz.prog 46 1 8 [.nilFunc] := ⟨by kernel_rfl⟩
instance : TSc Tryz.prog 47 := ⟨by kernel_rfl, by kernel_rfl⟩
instance : TInfo Tryz.prog 47 1 8 [.nilFunc] := ⟨by kernel_rfl⟩
instance : TSc Tryz.prog 48 := ⟨by kernel_rfl, by kernel_rfl⟩
instance : TInfo Tryz.prog 48 1 8 [.nilFunc] := ⟨by kernel_rfl⟩
instance : TSc Tryz.prog 49 := ⟨by kernel_rfl, by kernel_rfl⟩
instance : TInfo Tryz.prog 49 1 8 [.nilFunc] := ⟨by kernel_rfl⟩
instance : TSc Tryz.prog 50 := ⟨by kernel_rfl, by kernel_rfl⟩
instance : TInfo Tryz.prog 50 1 8 [.nilFunc] := ⟨by kernel_rfl⟩
instance : TSlice Tryz.prog 51 148 := ⟨by kernel_rfl⟩
instance : TSc Tryz.prog 51 := ⟨by kernel_rfl, by kernel_rfl⟩
instance : TInfo Tryz.prog 51 1 24 [.slice none 0 0] := ⟨by kernel_rfl⟩
instance : TFld Tryz.prog 52 0 0 3 1 := ⟨by kernel_rfl, by decide⟩
instance : TFld Tryz.prog 52 1 1 9 1 := ⟨by kernel_rfl, by decide⟩
instance : TFld Tryz.prog 52 2 2 3 1 := ⟨by kernel_rfl, by decide⟩
instance : TFld Tryz.prog 52 3 3 9 1 := ⟨by kernel_rfl, by decide⟩
instance : TFld Tryz.prog 52 4 4 3 1 := ⟨by kernel_rfl, by decide⟩
instance : TFld Tryz.prog 52 5 5 9 1 := ⟨by kernel_rfl, by decide⟩
instance : TFld Tryz.prog 52 6 6 9 1 := ⟨by kernel_rfl, by decide⟩
instance : TFld Tryz.prog 52 7 7 51 1 := ⟨by kernel_rfl, by decide⟩
instance : TBuild Tryz.prog 52 [(0, 1), (1, 1), (2, 1), (3, 1), (4, 1), (5, 1), (6, 1), (7, 1)] := ⟨by kernel_rfl⟩
instance : TAg Tryz.prog 52 8 := ⟨by kernel_rfl, by kernel_rfl⟩
instance : TInfo Tryz.prog 52 8 112 [.int .i64 0, .string ⟨#[]⟩, .int .i64 0, .string ⟨#[]⟩, .int .i64 0, .string ⟨#[]⟩, .string ⟨#[]⟩, .slice none 0 0] := ⟨by kernel_rfl⟩
instance : TFld Tryz.prog 53 0 0 3 1 := ⟨by kernel_rfl, by decide⟩
instance : TFld Tryz.prog 53 1 1 9 1 := ⟨by kernel_rfl, by decide⟩
instance : TFld Tryz.prog 53 2 2 3 1 := ⟨by kernel_rfl, by decide⟩
instance : TFld Tryz.prog 53 3 3 9 1 := ⟨by kernel_rfl, by decide⟩
instance : TFld Tryz.prog 53 4 4 3 1 := ⟨by kernel_rfl, by decide⟩
instance : TFld Tryz.prog 53 5 5 9 1 := ⟨by kernel_rfl, by decide⟩
instance : TFld Tryz.prog 53 6 6 9 1 := ⟨by kernel_rfl, by decide⟩
instance : TFld Tryz.prog 53 7 7 51 1 := ⟨by kernel_rfl, by decide⟩
instance : TBuild Tryz.prog 53 [(0, 1), (1, 1), (2, 1), (3, 1), (4, 1), (5, 1), (6, 1), (7, 1)] := ⟨by kernel_rfl⟩
instance : TAg Tryz.prog 53 8 := ⟨by kernel_rfl, by kernel_rfl⟩
instance : TInfo Tryz.prog 53 8 112 [.int .i64 0, .string ⟨#[]⟩, .int .i64 0, .string ⟨#[]⟩, .int .i64 0, .string ⟨#[]⟩, .string ⟨#[]⟩, .slice none 0 0] := ⟨by kernel_rfl⟩
instance : TSc Tryz.prog 54 := ⟨by kernel_rfl, by kernel_rfl⟩
instance : TInfo Tryz.prog 54 1 8 [.nilFunc] := ⟨by kernel_rfl⟩
instance : TSc Tryz.prog 55 := ⟨by kernel_rfl, by kernel_rfl⟩
instance : TInfo Tryz.prog 55 1 8 [.nilFunc] := ⟨by kernel_rfl⟩
instance : TSc Tryz.prog 56 := ⟨by kernel_rfl, by kernel_rfl⟩
instance : TInfo Tryz.prog 56 1 8 [.nilFunc] := ⟨by kernel_rfl⟩
instance : TSc Tryz.prog 57 := ⟨by kernel_rfl, by kernel_rfl⟩
instance : TInfo Tryz.prog 57 1 8 [.nilFunc] := ⟨by kernel_rfl⟩
instance : TSc Tryz.prog 58 := ⟨by kernel_rfl, by kernel_rfl⟩
instance : TInfo Tryz.prog 58 1 8 [.nilFunc] := ⟨by kernel_rfl⟩
instance : TSc Tryz.prog 59 := ⟨by kernel_rfl, by kernel_rfl⟩
instance : TInfo Tryz.prog 59 1 8 [.nilFunc] := ⟨by kernel_rfl⟩
instance : TSc Tryz.prog 60 := ⟨by kernel_rfl, by kernel_rfl⟩
instance : TInfo Tryz.prog 60 1 8 [.nilFunc] := ⟨by kernel_rfl⟩
instance : TSc Tryz.prog 61 := ⟨by kernel_rfl, by kernel_rfl⟩
instance : TInfo Tryz.prog 61 1 8 [.nilFunc] := ⟨by kernel_rfl⟩
instance : TPtr Tryz.prog 62 95 := ⟨by kernel_rfl⟩
instance : TSc Tryz.prog 62 := ⟨by kernel_rfl, by kernel_rfl⟩
instance : TInfo Tryz.prog 62 1 8 [.pointer none] := ⟨by kernel_rfl⟩
instance : TSc Tryz.prog 63 := ⟨by kernel_rfl, by kernel_rfl⟩
instance : TInfo Tryz.prog 63 1 8 [.nilFunc] := ⟨by kernel_rfl⟩
instance : TSc Tryz.prog 64 := ⟨by kernel_rfl, by kernel_rfl⟩
instance : TInfo Tryz.prog 64 1 8 [.nilFunc] := ⟨by kernel_rfl⟩
instance : TFld Tryz.prog 65 0 0 64 1 := ⟨by kernel_rfl, by decide⟩
instance : TBuild Tryz.prog 65 [(0, 1)] := ⟨by kernel_rfl⟩
instance : TAg Tryz.prog 65 1 := ⟨by kernel_rfl, by kernel_rfl⟩
instance : TInfo Tryz.prog 65 1 8 [.nilFunc] := ⟨by kernel_rfl⟩
instance : TFld Tryz.prog 66 0 0 64 1 := ⟨by kernel_rfl, by decide⟩
instance : TBuild Tryz.prog 66 [(0, 1)] := ⟨by kernel_rfl⟩
instance : TAg Tryz.prog 66 1 := ⟨by kernel_rfl, by kernel_rfl⟩
instance : TInfo Tryz.prog 66 1 8 [.nilFunc] := ⟨by kernel_rfl⟩
instance : TSlice Tryz.prog 67 66 := ⟨by kernel_rfl⟩
instance : TSc Tryz.prog 67 := ⟨by kernel_rfl, by kernel_rfl⟩
instance : TInfo Tryz.prog 67 1 24 [.slice none 0 0] := ⟨by kernel_rfl⟩
instance : TSc Tryz.prog 68 := ⟨by kernel_rfl, by kernel_rfl⟩
instance : TInfo Tryz.prog 68 1 8 [.nilFunc] := ⟨by kernel_rfl⟩
instance : TPtr Tryz.prog 69 29 := ⟨by kernel_rfl⟩
instance : TSc Tryz.prog 69 := ⟨by kernel_rfl, by kernel_rfl⟩
instance : TInfo Tryz.prog 69 1 8 [.pointer none] := ⟨by kernel_rfl⟩
instance : TSc Tryz.prog 70 := ⟨by kernel_rfl, by kernel_rfl⟩
instance : TInfo Tryz.prog 70 1 8 [.nilFunc] := ⟨by kernel_rfl⟩
instance : TPtr Tryz.prog 71 73 := ⟨by kernel_rfl⟩
instance : TSc Tryz.prog 71 := ⟨by kernel_rfl, by kernel_rfl⟩
instance : TInfo Tryz.prog 71 1 8 [.pointer none] := ⟨by kernel_rfl⟩
instance : TFld Tryz.prog 72 0 0 9 1 := ⟨by kernel_rfl, by decide⟩
instance : TFld Tryz.prog 72 1 1 32 1 := ⟨by kernel_rfl, by decide⟩
instance : TBuild Tryz.prog 72 [(0, 1), (1, 1)] := ⟨by kernel_rfl⟩
instance : TAg Tryz.prog 72 2 := ⟨by kernel_rfl, by kernel_rfl⟩
instance : TLeaf Tryz.prog 72 [.s, .i .i64] := ⟨by kernel_rfl, by kernel_rfl, by kernel_rfl⟩
instance : TInfo Tryz.prog 72 2 24 [.string ⟨#[]⟩, .int .i64 0] := ⟨by kernel_rfl⟩
instance : TFld Tryz.prog 73 0 0 9 1 := ⟨by kernel_rfl, by decide⟩
instance : TFld Tryz.prog 73 1 1 32 1 := ⟨by kernel_rfl, by decide⟩
instance : TBuild Tryz.prog 73 [(0, 1), (1, 1)] := ⟨by kernel_rfl⟩
instance : TAg Tryz.prog 73 2 := ⟨by kernel_rfl, by kernel_rfl⟩
instance : TLeaf Tryz.prog 73 [.s, .i .i64] := ⟨by kernel_rfl, by kernel_rfl, by kernel_rfl⟩
instance : TInfo Tryz.prog 73 2 24 [.string ⟨#[]⟩, .int .i64 0] := ⟨by kernel_rfl⟩
instance : TSc Tryz.prog 74 := ⟨by kernel_rfl, by kernel_rfl⟩
instance : TSc Tryz.prog 75 := ⟨by kernel_rfl, by kernel_rfl⟩
instance : TInfo Tryz.prog 75 1 8 [.nilFunc] := ⟨by kernel_rfl⟩
instance : TSc Tryz.prog 76 := ⟨by kernel_rfl, by kernel_rfl⟩
instance : TSc Tryz.prog 77 := ⟨by kernel_rfl, by kernel_rfl⟩
instance : TInfo Tryz.prog 77 1 8 [.nilFunc] := ⟨by kernel_rfl⟩
instance : TSc Tryz.prog 78 := ⟨by kernel_rfl, by kernel_rfl⟩
instance : TSc Tryz.prog 79 := ⟨by kernel_rfl, by kernel_rfl⟩
instance : TInfo Tryz.prog 79 1 8 [.nilFunc] := ⟨by kernel_rfl⟩
instance : TSc Tryz.prog 80 := ⟨by kernel_rfl, by kernel_rfl⟩
instance : TInfo Tryz.prog 80 1 8 [.nilFunc] := ⟨by kernel_rfl⟩
instance : TSc Tryz.prog 81 := ⟨by kernel_rfl, by kernel_rfl⟩
instance : TInfo Tryz.prog 81 1 8 [.nilFunc] := ⟨by kernel_rfl⟩
instance : TSc Tryz.prog 82 := ⟨by kernel_rfl, by kernel_rfl⟩
instance : TInfo Tryz.prog 82 1 8 [.nilFunc] := ⟨by kernel_rfl⟩
instance : TSc Tryz.prog 83 := ⟨by kernel_rfl, by kernel_rfl⟩
instance : TInfo Tryz.prog 83 1 8 [.nilFunc] := ⟨by kernel_rfl⟩
instance : TSc Tryz.prog 84 := ⟨by kernel_rfl, by kernel_rfl⟩
instance : TInfo Tryz.prog 84 1 8 [.nilFunc] := ⟨by kernel_rfl⟩
instance : TSlice Tryz.prog 85 5 := ⟨by kernel_rfl⟩
instance : TSc Tryz.prog 85 := ⟨by kernel_rfl, by kernel_rfl⟩
instance : TInfo Tryz.prog 85 1 24 [.slice none 0 0] := ⟨by kernel_rfl⟩
instance : TSc Tryz.prog 86 := ⟨by kernel_rfl, by kernel_rfl⟩
instance : TInfo Tryz.prog 86 1 8 [.nilFunc] := ⟨by kernel_rfl⟩
instance : TSc Tryz.prog 87 := ⟨by kernel_rfl, by kernel_rfl⟩
instance : TInfo Tryz.prog 87 1 8 [.nilFunc] := ⟨by kernel_rfl⟩
instance : TSc Tryz.prog 88 := ⟨by kernel_rfl, by kernel_rfl⟩
instance : TInfo Tryz.prog 88 1 8 [.nilFunc] := ⟨by kernel_rfl⟩
instance : TSc Tryz.prog 89 := ⟨by kernel_rfl, by kernel_rfl⟩
instance : TInfo Tryz.prog 89 1 8 [.nilFunc] := ⟨by kernel_rfl⟩
instance : TSlice Tryz.prog 90 3 := ⟨by kernel_rfl⟩
instance : TSc Tryz.prog 90 := ⟨by kernel_rfl, by kernel_rfl⟩
instance : TInfo Tryz.prog 90 1 24 [.slice none 0 0] := ⟨by kernel_rfl⟩
instance : TSc Tryz.prog 91 := ⟨by kernel_rfl, by kernel_rfl⟩
instance : TInfo Tryz.prog 91 1 8 [.nilFunc] := ⟨by kernel_rfl⟩
instance : TSc Tryz.prog 92 := ⟨by kernel_rfl, by kernel_rfl⟩
instance : TInfo Tryz.prog 92 1 8 [.nilFunc] := ⟨by kernel_rfl⟩
instance : TSc Tryz.prog 93 := ⟨by kernel_rfl, by kernel_rfl⟩
instance : TInfo Tryz.prog 93 1 8 [.nilFunc] := ⟨by kernel_rfl⟩
instance : TFld Tryz.prog 94 0 0 9 1 := ⟨by kernel_rfl, by decide⟩
instance : TFld Tryz.prog 94 1 1 3 1 := ⟨by kernel_rfl, by decide⟩
instance : TFld Tryz.prog 94 2 2 32 1 := ⟨by kernel_rfl, by decide⟩
instance : TBuild Tryz.prog 94 [(0, 1), (1, 1), (2, 1)] := ⟨by kernel_rfl⟩
instance : TAg Tryz.prog 94 3 := ⟨by kernel_rfl, by kernel_rfl⟩
instance : TLeaf Tryz.prog 94 [.s, .i .i64, .i .i64] := ⟨by kernel_rfl, by kernel_rfl, by kernel_rfl⟩
instance : TInfo Tryz.prog 94 3 32 [.string ⟨#[]⟩, .int .i64 0, .int .i64 0] := ⟨by kernel_rfl⟩
instance : TFld Tryz.prog 95 0 0 9 1 := ⟨by kernel_rfl, by decide⟩
instance : TFld Tryz.prog 95 1 1 3 1 := ⟨by kernel_rfl, by decide⟩
instance : TFld Tryz.prog 95 2 2 32 1 := ⟨by kernel_rfl, by decide⟩
instance : TBuild Tryz.prog 95 [(0, 1), (1, 1), (2, 1)] := ⟨by kernel_rfl⟩
instance : TAg Tryz.prog 95 3 := ⟨by kernel_rfl, by kernel_rfl⟩
instance : TLeaf Tryz.prog 95 [.s, .i .i64, .i .i64] := ⟨by kernel_rfl, by kernel_rfl, by kernel_rfl⟩
instance : TInfo Tryz.prog 95 3 32 [.string ⟨#[]⟩, .int .i64 0, .int .i64 0] := ⟨by kernel_rfl⟩
instance : TSc Tryz.prog 96 := ⟨by kernel_rfl, by kernel_rfl⟩
instance : TInfo Tryz.prog 96 1 8 [.nilFunc] := ⟨by kernel_rfl⟩
instance : TSc Tryz.prog 97 := ⟨by kernel_rfl, by kernel_rfl⟩
instance : TInfo Tryz.prog 97 1 8 [.nilFunc] := ⟨by kernel_rfl⟩
instance : TSc Tryz.prog 98 := ⟨by kernel_rfl, by kernel_rfl⟩
instance : TSc Tryz.prog 99 := ⟨by kernel_rfl, by kernel_rfl⟩
instance : TInfo Tryz.prog 99 1 8 [.nilFunc] := ⟨by kernel_rfl⟩
instance : TSc Tryz.prog 100 := ⟨by kernel_rfl, by kernel_rfl⟩
instance : TInfo Tryz.prog 100 1 8 [.nilFunc] := ⟨by kernel_rfl⟩
instance : TSc Tryz.prog 101 := ⟨by kernel_rfl, by kernel_rfl⟩
instance : TSc Tryz.prog 102 := ⟨by kernel_rfl, by kernel_rfl⟩
instance : TInfo Tryz.prog 102 1 8 [.nilFunc] := ⟨by kernel_rfl⟩
instance : TSc Tryz.prog 103 := ⟨by kernel_rfl, by kernel_rfl⟩
instance : TInfo Tryz.prog 103 1 8 [.nilFunc] := ⟨by kernel_rfl⟩
instance : TSc Tryz.prog 104 := ⟨by kernel_rfl, by kernel_rfl⟩
instance : TInfo Tryz.prog 104 1 8 [.nilFunc] := ⟨by kernel_rfl⟩
instance : TSc Tryz.prog 105 := ⟨by kernel_rfl, by kernel_rfl⟩
instance : TInfo Tryz.prog 105 1 8 [.nilFunc] := ⟨by kernel_rfl⟩
instance : TInt Tryz.prog 106 .u64 := ⟨by kernel_rfl⟩
instance : TSc Tryz.prog 106 := ⟨by kernel_rfl, by kernel_rfl⟩
instance : TInfo Tryz.prog 106 1 8 [.int .u64 0] := ⟨by kernel_rfl⟩
instance : TSc Tryz.prog 107 := ⟨by kernel_rfl, by kernel_rfl⟩
instance : TSc Tryz.prog 108 := ⟨by kernel_rfl, by kernel_rfl⟩
instance : TInfo Tryz.prog 108 1 8 [.nilFunc] := ⟨by kernel_rfl⟩
instance : TSc Tryz.prog 109 := ⟨by kernel_rfl, by kernel_rfl⟩
instance : TInfo Tryz.prog 109 1 8 [.nilFunc] := ⟨by kernel_rfl⟩
instance : TPtr Tryz.prog 110 112 := ⟨by kernel_rfl⟩
instance : TSc Tryz.prog 110 := ⟨by kernel_rfl, by kernel_rfl⟩
instance : TInfo Tryz.prog 110 1 8 [.pointer none] := ⟨by kernel_rfl⟩
instance : TFld Tryz.prog 111 0 0 110 1 := ⟨by kernel_rfl, by decide⟩
instance : TFld Tryz.prog 111 1 1 85 1 := ⟨by kernel_rfl, by decide⟩
instance : TBuild Tryz.prog 111 [(0, 1), (1, 1)] := ⟨by kernel_rfl⟩
instance : TAg Tryz.prog 111 2 := ⟨by kernel_rfl, by kernel_rfl⟩
instance : TInfo Tryz.prog 111 2 32 [.pointer none, .slice none 0 0] := ⟨by kernel_rfl⟩
instance : TFld Tryz.prog 112 0 0 110 1 := ⟨by kernel_rfl, by decide⟩
instance : TFld Tryz.prog 112 1 1 85 1 := ⟨by kernel_rfl, by decide⟩
instance : TBuild Tryz.prog 112 [(0, 1), (1, 1)] := ⟨by kernel_rfl⟩
instance : TAg Tryz.prog 112 2 := ⟨by kernel_rfl, by kernel_rfl⟩
instance : TInfo Tryz.prog 112 2 32 [.pointer none, .slice none 0 0] := ⟨by kernel_rfl⟩
instance : TSc Tryz.prog 113 := ⟨by kernel_rfl, by kernel_rfl⟩
instance : TInfo Tryz.prog 113 1 8 [.nilFunc] := ⟨by kernel_rfl⟩
instance : TSc Tryz.prog 114 := ⟨by kernel_rfl, by kernel_rfl⟩
instance : TInfo Tryz.prog 114 1 16 [.nilIface] := ⟨by kernel_rfl⟩
instance : TSc Tryz.prog 115 := ⟨by kernel_rfl, by kernel_rfl⟩
instance : TInfo Tryz.prog 115 1 16 [.nilIface] := ⟨by kernel_rfl⟩
instance : TSc Tryz.prog 116 := ⟨by kernel_rfl, by kernel_rfl⟩
instance : TSc Tryz.prog 117 := ⟨by kernel_rfl, by kernel_rfl⟩
instance : TInfo Tryz.prog 117 1 8 [.nilFunc] := ⟨by kernel_rfl⟩
instance : TSc Tryz.prog 118 := ⟨by kernel_rfl, by kernel_rfl⟩
instance : TInfo Tryz.prog 118 1 8 [.nilFunc] := ⟨by kernel_rfl⟩
instance : TSc Tryz.prog 119 := ⟨by kernel_rfl, by kernel_rfl⟩
instance : TInfo Tryz.prog 119 1 8 [.nilFunc] := ⟨by kernel_rfl⟩
instance : TSc Tryz.prog 120 := ⟨by kernel_rfl, by kernel_rfl⟩
instance : TSc Tryz.prog 121 := ⟨by kernel_rfl, by kernel_rfl⟩
instance : TInfo Tryz.prog 121 1 8 [.nilFunc] := ⟨by kernel_rfl⟩
instance : TSc Tryz.prog 122 := ⟨by kernel_rfl, by kernel_rfl⟩
instance : TSc Tryz.prog 123 := ⟨by kernel_rfl, by kernel_rfl⟩
instance : TInfo Tryz.prog 123 1 8 [.nilFunc] := ⟨by kernel_rfl⟩
instance : TSc Tryz.prog 124 := ⟨by kernel_rfl, by kernel_rfl⟩
instance : TSc Tryz.prog 125 := ⟨by kernel_rfl, by kernel_rfl⟩
instance : TInfo Tryz.prog 125 1 8 [.nilFunc] := ⟨by kernel_rfl⟩
instance : TSc Tryz.prog 126 := ⟨by kernel_rfl, by kernel_rfl⟩
instance : TInfo Tryz.prog 126 1 8 [.nilFunc] := ⟨by kernel_rfl⟩
instance : TSc Tryz.prog 127 := ⟨by kernel_rfl, by kernel_rfl⟩
instance : TInfo Tryz.prog 127 1 8 [.nilFunc] := ⟨by kernel_rfl⟩
instance : TArr Tryz.prog 128 8 5 := ⟨by kernel_rfl⟩
instance : TAg Tryz.prog 128 8 := ⟨by kernel_rfl, by kernel_rfl⟩
instance : TLeaf Tryz.prog 128 [.i .u8, .i .u8, .i .u8, .i .u8, .i .u8, .i .u8, .i .u8, .i .u8] := ⟨by kernel_rfl, by kernel_rfl, by kernel_rfl⟩
instance : TInfo Tryz.prog 128 8 8 [.int .u8 0, .int .u8 0, .int .u8 0, .int .u8 0, .int .u8 0, .int .u8 0, .int .u8 0, .int .u8 0] := ⟨by kernel_rfl⟩
instance : TSc Tryz.prog 129 := ⟨by kernel_rfl, by kernel_rfl⟩
instance : TInfo Tryz.prog 129 1 8 [.nilFunc] := ⟨by kernel_rfl⟩
instance : TSc Tryz.prog 130 := ⟨by kernel_rfl, by kernel_rfl⟩
instance : TInfo Tryz.prog 130 1 8 [.nilFunc] := ⟨by kernel_rfl⟩
instance : TSc Tryz.prog 131 := ⟨by kernel_rfl, by kernel_rfl⟩
instance : TSc Tryz.prog 132 := ⟨by kernel_rfl, by kernel_rfl⟩
instance : TInfo Tryz.prog 132 1 8 [.nilFunc] := ⟨by kernel_rfl⟩
instance : TSc Tryz.prog 133 := ⟨by kernel_rfl, by kernel_rfl⟩
instance : TInfo Tryz.prog 133 1 8 [.nilFunc] := ⟨by kernel_rfl⟩
instance : TInt Tryz.prog 134 .u32 := ⟨by kernel_rfl⟩
instance : TSc Tryz.prog 134 := ⟨by kernel_rfl, by kernel_rfl⟩
instance : TInfo Tryz.prog 134 1 4 [.int .u32 0] := ⟨by kernel_rfl⟩
instance : TSc Tryz.prog 135 := ⟨by kernel_rfl, by kernel_rfl⟩
instance : TSc Tryz.prog 136 := ⟨by kernel_rfl, by kernel_rfl⟩
instance : TInfo Tryz.prog 136 1 8 [.nilFunc] := ⟨by kernel_rfl⟩
instance : TInt Tryz.prog 137 .u64 := ⟨by kernel_rfl⟩
instance : TSc Tryz.prog 137 := ⟨by kernel_rfl, by kernel_rfl⟩
instance : TInfo Tryz.prog 137 1 8 [.int .u64 0] := ⟨by kernel_rfl⟩
instance : TSc Tryz.prog 138 := ⟨by kernel_rfl, by kernel_rfl⟩
instance : TSc Tryz.prog 139 := ⟨by kernel_rfl, by kernel_rfl⟩
instance : TInfo Tryz.prog 139 1 8 [.nilFunc] := ⟨by kernel_rfl⟩
instance : TPtr Tryz.prog 140 5 := ⟨by kernel_rfl⟩
instance : TSc Tryz.prog 140 := ⟨by kernel_rfl, by kernel_rfl⟩
instance : TInfo Tryz.prog 140 1 8 [.pointer none] := ⟨by kernel_rfl⟩
instance : TPtr Tryz.prog 141 158 := ⟨by kernel_rfl⟩
instance : TSc Tryz.prog 141 := ⟨by kernel_rfl, by kernel_rfl⟩
instance : TInfo Tryz.prog 141 1 8 [.pointer none] := ⟨by kernel_rfl⟩
instance : TSc Tryz.prog 142 := ⟨by kernel_rfl, by kernel_rfl⟩
instance : TInfo Tryz.prog 142 1 8 [.nilFunc] := ⟨by kernel_rfl⟩
instance : TSc Tryz.prog 143 := ⟨by kernel_rfl, by kernel_rfl⟩
instance : TInfo Tryz.prog 143 1 8 [.nilFunc] := ⟨by kernel_rfl⟩
instance : TSc Tryz.prog 144 := ⟨by kernel_rfl, by kernel_rfl⟩
instance : TInfo Tryz.prog 144 1 8 [.nilFunc] := ⟨by kernel_rfl⟩
instance : TSc Tryz.prog 145 := ⟨by kernel_rfl, by kernel_rfl⟩
instance : TInfo Tryz.prog 145 1 8 [.nilFunc] := ⟨by kernel_rfl⟩
instance : TSc Tryz.prog 146 := ⟨by kernel_rfl, by kernel_rfl⟩
instance : TInfo Tryz.prog 146 1 8 [.nilFunc] := ⟨by kernel_rfl⟩
instance : TFld Tryz.prog 147 0 0 9 1 := ⟨by kernel_rfl, by decide⟩
instance : TFld Tryz.prog 147 1 1 3 1 := ⟨by kernel_rfl, by decide⟩
instance : TBuild Tryz.prog 147 [(0, 1), (1, 1)] := ⟨by kernel_rfl⟩
instance : TAg Tryz.prog 147 2 := ⟨by kernel_rfl, by kernel_rfl⟩
instance : TLeaf Tryz.prog 147 [.s, .i .i64] := ⟨by kernel_rfl, by kernel_rfl, by kernel_rfl⟩
instance : TInfo Tryz.prog 147 2 24 [.string ⟨#[]⟩, .int .i64 0] := ⟨by kernel_rfl⟩
instance : TFld Tryz.prog 148 0 0 9 1 := ⟨by kernel_rfl, by decide⟩
instance : TFld Tryz.prog 148 1 1 3 1 := ⟨by kernel_rfl, by decide⟩
instance : TBuild Tryz.prog 148 [(0, 1), (1, 1)] := ⟨by kernel_rfl⟩
instance : TAg Tryz.prog 148 2 := ⟨by kernel_rfl, by kernel_rfl⟩
instance : TLeaf Tryz.prog 148 [.s, .i .i64] := ⟨by kernel_rfl, by kernel_rfl, by kernel_rfl⟩
instance : TInfo Tryz.prog 148 2 24 [.string ⟨#[]⟩, .int .i64 0] := ⟨by kernel_rfl⟩
instance : TArr Tryz.prog 149 8 134 := ⟨by kernel_rfl⟩
instance : TAg Tryz.prog 149 8 := ⟨by kernel_rfl, by kernel_rfl⟩
instance : TLeaf Tryz.prog 149 [.i .u32, .i .u32, .i .u32, .i .u32, .i .u32, .i .u32, .i .u32, .i .u32] := ⟨by kernel_rfl, by kernel_rfl, by kernel_rfl⟩
instance : TInfo Tryz.prog 149 8 32 [.int .u32 0, .int .u32 0, .int .u32 0, .int .u32 0, .int .u32 0, .int .u32 0, .int .u32 0, .int .u32 0] := ⟨by kernel_rfl⟩
instance : TSc Tryz.prog 150 := ⟨by kernel_rfl, by kernel_rfl⟩
instance : TInfo Tryz.prog 150 1 8 [.nilFunc] := ⟨by kernel_rfl⟩
instance : TArr Tryz.prog 151 64 5 := ⟨by kernel_rfl⟩
instance : TAg Tryz.prog 151 64 := ⟨by kernel_rfl, by kernel_rfl⟩
instance : TLeaf Tryz.prog 151 [.i .u8, .i .u8, .i .u8, .i .u8, .i .u8, .i .u8, .i .u8, .i .u8, .i .u8, .i .u8, .i .u8, .i .u8, .i .u8, .i .u8, .i .u8, .i .u8, .i .u8, .i .u8, .i .u8, .i .u8, .i .u8, .i .u8, .i .u8, .i .u8, .i .u8, .i .u8, .i .u8, .i .u8, .i .u8, .i .u8, .i .u8, .i .u8, .i .u8, .i .u8, .i .u8, .i .u8, .i .u8, .i .u8, .i .u8, .i .u8, .i .u8, .i .u8, .i .u8, .i .u8, .i .u8, .i .u8, .i .u8, .i .u8, .i .u8, .i .u8, .i .u8, .i .u8, .i .u8, .i .u8, .i .u8, .i .u8, .i .u8, .i .u8, .i .u8, .i .u8, .i .u8, .i .u8, .i .u8, .i .u8] := ⟨by kernel_rfl, by kernel_rfl, by kernel_rfl⟩
instance : TInfo Tryz.prog 151 64 64 [.int .u8 0, .int .u8 0, .int .u8 0, .int .u8 0, .int .u8 0, .int .u8 0, .int .u8 0, .int .u8 0, .int .u8 0, .int .u8 0, .int .u8 0, .int .u8 0, .int .u8 0, .int .u8 0, .int .u8 0, .int .u8 0, .int .u8 0, .int .u8 0, .int .u8 0, .int .u8 0, .int .u8 0, .int .u8 0, .int .u8 0, .int .u8 0, .int .u8 0, .int .u8 0, .int .u8 0, .int .u8 0, .int .u8 0, .int .u8 0, .int .u8 0, .int .u8 0, .int .u8 0, .int .u8 0, .int .u8 0, .int .u8 0, .int .u8 0, .int .u8 0, .int .u8 0, .int .u8 0, .int .u8 0, .int .u8 0, .int .u8 0, .int .u8 0, .int .u8 0, .int .u8 0, .int .u8 0, .int .u8 0, .int .u8 0, .int .u8 0, .int .u8 0, .int .u8 0, .int .u8 0, .int .u8 0, .int .u8 0, .int .u8 0, .int .u8 0, .int .u8 0, .int .u8 0, .int .u8 0, .int .u8 0, .int .u8 0, .int .u8 0, .int .u8 0] := ⟨by kernel_rfl⟩
instance : TSc Tryz.prog 152 := ⟨by kernel_rfl, by kernel_rfl⟩
instance : TInfo Tryz.prog 152 1 8 [.nilFunc] := ⟨by kernel_rfl⟩
instance : TSc Tryz.prog 153 := ⟨by kernel_rfl, by kernel_rfl⟩
instance : TInfo Tryz.prog 153 1 8 [.nilFunc] := ⟨by kernel_rfl⟩
instance : TSc Tryz.prog 154 := ⟨by kernel_rfl, by kernel_rfl⟩
instance : TInfo Tryz.prog 154 1 8 [.pointer none] := ⟨by kernel_rfl⟩
instance : TSc Tryz.prog 155 := ⟨by kernel_rfl, by kernel_rfl⟩
instance : TInfo Tryz.prog 155 1 8 [.nilFunc] := ⟨by kernel_rfl⟩
instance : TSc Tryz.prog 156 := ⟨by kernel_rfl, by kernel_rfl⟩
instance : TInfo Tryz.prog 156 1 8 [.nilFunc] := ⟨by kernel_rfl⟩
instance : TFld Tryz.prog 157 0 0 149 8 := ⟨by kernel_rfl, by decide⟩
instance : TFld Tryz.prog 157 1 8 85 1 := ⟨by kernel_rfl, by decide⟩
instance : TFld Tryz.prog 157 2 9 3 1 := ⟨by kernel_rfl, by decide⟩
instance : TBuild Tryz.prog 157 [(0, 8), (8, 1), (9, 1)] := ⟨by kernel_rfl⟩
instance : TAg Tryz.prog 157 10 := ⟨by kernel_rfl, by kernel_rfl⟩
instance : TInfo Tryz.prog 157 10 64 [.int .u32 0, .int .u32 0, .int .u32 0, .int .u32 0, .int .u32 0, .int .u32 0, .int .u32 0, .int .u32 0, .slice none 0 0, .int .i64 0] := ⟨by kernel_rfl⟩
instance : TFld Tryz.prog 158 0 0 149 8 := ⟨by kernel_rfl, by decide⟩
instance : TFld Tryz.prog 158 1 8 85 1 := ⟨by kernel_rfl, by decide⟩
instance : TFld Tryz.prog 158 2 9 3 1 := ⟨by kernel_rfl, by decide⟩
instance : TBuild Tryz.prog 158 [(0, 8), (8, 1), (9, 1)] := ⟨by kernel_rfl⟩
instance : TAg Tryz.prog 158 10 := ⟨by kernel_rfl, by kernel_rfl⟩
instance : TInfo Tryz.prog 158 10 64 [.int .u32 0, .int .u32 0, .int .u32 0, .int .u32 0, .int .u32 0, .int .u32 0, .int .u32 0, .int .u32 0, .slice none 0 0, .int .i64 0] := ⟨by kernel_rfl⟩
instance : TSc Tryz.prog 159 := ⟨by kernel_rfl, by kernel_rfl⟩
instance : TSc Tryz.prog 160 := ⟨by kernel_rfl, by kernel_rfl⟩
instance : TInfo Tryz.prog 160 1 8 [.nilFunc] := ⟨by kernel_rfl⟩
instance : TSc Tryz.prog 161 := ⟨by kernel_rfl, by kernel_rfl⟩
instance : TInfo Tryz.prog 161 1 8 [.nilFunc] := ⟨by kernel_rfl⟩
instance : TArr Tryz.prog 162 16 134 := ⟨by kernel_rfl⟩
instance : TAg Tryz.prog 162 16 := ⟨by kernel_rfl, by kernel_rfl⟩
instance : TLeaf Tryz.prog 162 [.i .u32, .i .u32, .i .u32, .i .u32, .i .u32, .i .u32, .i .u32, .i .u32, .i .u32, .i .u32, .i .u32, .i .u32, .i .u32, .i .u32, .i .u32, .i .u32] := ⟨by kernel_rfl, by kernel_rfl, by kernel_rfl⟩
instance : TInfo Tryz.prog 162 16 64 [.int .u32 0, .int .u32 0, .int .u32 0, .int .u32 0, .int .u32 0, .int .u32 0, .int .u32 0, .int .u32 0, .int .u32 0, .int .u32 0, .int .u32 0, .int .u32 0, .int .u32 0, .int .u32 0, .int .u32 0, .int .u32 0] := ⟨by kernel_rfl⟩
instance : TSc Tryz.prog 163 := ⟨by kernel_rfl, by kernel_rfl⟩
instance : TInfo Tryz.prog 163 1 8 [.nilFunc] := ⟨by kernel_rfl⟩
instance : TSc Tryz.prog 164 := ⟨by kernel_rfl, by kernel_rfl⟩
instance : TInfo Tryz.prog 164 1 8 [.nilFunc] := ⟨by kernel_rfl⟩
instance : TArr Tryz.prog 165 32 5 := ⟨by kernel_rfl⟩
instance : TAg Tryz.prog 165 32 := ⟨by kernel_rfl, by kernel_rfl⟩
instance : TLeaf Tryz.prog 165 [.i .u8, .i .u8, .i .u8, .i .u8, .i .u8, .i .u8, .i .u8, .i .u8, .i .u8, .i .u8, .i .u8, .i .u8, .i .u8, .i .u8, .i .u8, .i .u8, .i .u8, .i .u8, .i .u8, .i .u8, .i .u8, .i .u8, .i .u8, .i .u8, .i .u8, .i .u8, .i .u8, .i .u8, .i .u8, .i .u8, .i .u8, .i .u8] := ⟨by kernel_rfl, by kernel_rfl, by kernel_rfl⟩
instance : TInfo Tryz.prog 165 32 32 [.int .u8 0, .int .u8 0, .int .u8 0, .int .u8 0, .int .u8 0, .int .u8 0, .int .u8 0, .int .u8 0, .int .u8 0, .int .u8 0, .int .u8 0, .int .u8 0, .int .u8 0, .int .u8 0, .int .u8 0, .int .u8 0, .int .u8 0, .int .u8 0, .int .u8 0, .int .u8 0, .int .u8 0, .int .u8 0, .int .u8 0, .int .u8 0, .int .u8 0, .int .u8 0, .int .u8 0, .int .u8 0, .int .u8 0, .int .u8 0, .int .u8 0, .int .u8 0] := ⟨by kernel_rfl⟩
instance : TArr Tryz.prog 166 64 134 := ⟨by kernel_rfl⟩
instance : TAg Tryz.prog 166 64 := ⟨by kernel_rfl, by kernel_rfl⟩
instance : TLeaf Tryz.prog 166 [.i .u32, .i .u32, .i .u32, .i .u32, .i .u32, .i .u32, .i .u32, .i .u32, .i .u32, .i .u32, .i .u32, .i .u32, .i .u32, .i .u32, .i .u32, .i .u32, .i .u32, .i .u32, .i .u32, .i .u32, .i .u32, .i .u32, .i .u32, .i .u32, .i .u32, .i .u32, .i .u32, .i .u32, .i .u32, .i .u32, .i .u32, .i .u32, .i .u32, .i .u32, .i .u32, .i .u32, .i .u32, .i .u32, .i .u32, .i .u32, .i .u32, .i .u32, .i .u32, .i .u32, .i .u32, .i .u32, .i .u32, .i .u32, .i .u32, .i .u32, .i .u32, .i .u32, .i .u32, .i .u32, .i .u32, .i .u32, .i .u32, .i .u32, .i .u32, .i .u32, .i .u32, .i .u32, .i .u32, .i .u32] := ⟨by kernel_rfl, by kernel_rfl, by kernel_rfl⟩
instance : TInfo Tryz.prog 166 64 256 [.int .u32 0, .int .u32 0, .int .u32 0, .int .u32 0, .int .u32 0, .int .u32 0, .int .u32 0, .int .u32 0, .int .u32 0, .int .u32 0, .int .u32 0, .int .u32 0, .int .u32 0, .int .u32 0, .int .u32 0, .int .u32 0, .int .u32 0, .int .u32 0, .int .u32 0, .int .u32 0, .int .u32 0, .int .u32 0, .int .u32 0, .int .u32 0, .int .u32 0, .int .u32 0, .int .u32 0, .int .u32 0, .int .u32 0, .int .u32 0, .int .u32 0, .int .u32 0, .int .u32 0, .int .u32 0, .int .u32 0, .int .u32 0, .int .u32 0, .int .u32 0, .int .u32 0, .int .u32 0, .int .u32 0, .int .u32 0, .int .u32 0, .int .u32 0, .int .u32 0, .int .u32 0, .int .u32 0, .int .u32 0, .int .u32 0, .int .u32 0, .int .u32 0, .int .u32 0, .int .u32 0, .int .u32 0, .int .u32 0, .int .u32 0, .int .u32 0, .int .u32 0, .int .u32 0, .int .u32 0, .int .u32 0, .int .u32 0, .int .u32 0, .int .u32 0] := ⟨by kernel_rfl⟩
instance : TSc Tryz.prog 167 := ⟨by kernel_rfl, by kernel_rfl⟩
instance : TInfo Tryz.prog 167 1 8 [.nilFunc] := ⟨by kernel_rfl⟩
instance : TSc Tryz.prog 168 := ⟨by kernel_rfl, by kernel_rfl⟩
instance : TInfo Tryz.prog 168 1 8 [.nilFunc] := ⟨by kernel_rfl⟩
instance : TFld Tryz.prog 169 0 0 17 1 := ⟨by kernel_rfl, by decide⟩
instance : TFld Tryz.prog 169 1 1 17 1 := ⟨by kernel_rfl, by decide⟩
instance : TFld Tryz.prog 169 2 2 17 1 := ⟨by kernel_rfl, by decide⟩
instance : TFld Tryz.prog 169 3 3 9 1 := ⟨by kernel_rfl, by decide⟩
instance : TBuild Tryz.prog 169 [(0, 1), (1, 1), (2, 1), (3, 1)] := ⟨by kernel_rfl⟩
instance : TAg Tryz.prog 169 4 := ⟨by kernel_rfl, by kernel_rfl⟩
instance : TInfo Tryz.prog 169 4 40 [.pointer none, .pointer none, .pointer none, .string ⟨#[]⟩] := ⟨by kernel_rfl⟩
instance : TFld Tryz.prog 170 0 0 17 1 := ⟨by kernel_rfl, by decide⟩
instance : TFld Tryz.prog 170 1 1 17 1 := ⟨by kernel_rfl, by decide⟩
instance : TFld Tryz.prog 170 2 2 17 1 := ⟨by kernel_rfl, by decide⟩
instance : TFld Tryz.prog 170 3 3 9 1 := ⟨by kernel_rfl, by decide⟩
instance : TBuild Tryz.prog 170 [(0, 1), (1, 1), (2, 1), (3, 1)] := ⟨by kernel_rfl⟩
instance : TAg Tryz.prog 170 4 := ⟨by kernel_rfl, by kernel_rfl⟩
instance : TInfo Tryz.prog 170 4 40 [.pointer none, .pointer none, .pointer none, .string ⟨#[]⟩] := ⟨by kernel_rfl⟩
instance : TArr Tryz.prog 171 0 16 := ⟨by kernel_rfl⟩
instance : TBuild Tryz.prog 172 [(0, 0)] := ⟨by kernel_rfl⟩
instance : TBuild Tryz.prog 173 [(0, 0)] := ⟨by kernel_rfl⟩
instance : TInt Tryz.prog 174 .u8 := ⟨by kernel_rfl⟩
instance : TSc Tryz.prog 174 := ⟨by kernel_rfl, by kernel_rfl⟩
instance : TInfo Tryz.prog 174 1 1 [.int .u8 0] := ⟨by kernel_rfl⟩
instance : TInt Tryz.prog 175 .u8 := ⟨by kernel_rfl⟩
instance : TSc Tryz.prog 175 := ⟨by kernel_rfl, by kernel_rfl⟩
instance : TInfo Tryz.prog 175 1 1 [.int .u8 0] := ⟨by kernel_rfl⟩
instance : TSc Tryz.prog 176 := ⟨by kernel_rfl, by kernel_rfl⟩
instance : TInfo Tryz.prog 176 1 8 [.nilFunc] := ⟨by kernel_rfl⟩
instance : TInt Tryz.prog 177 .i32 := ⟨by kernel_rfl⟩
instance : TSc Tryz.prog 177 := ⟨by kernel_rfl, by kernel_rfl⟩
instance : TInfo Tryz.prog 177 1 4 [.int .i32 0] := ⟨by kernel_rfl⟩
instance : TInt Tryz.prog 178 .i32 := ⟨by kernel_rfl⟩
instance : TSc Tryz.prog 178 := ⟨by kernel_rfl, by kernel_rfl⟩
instance : TInfo Tryz.prog 178 1 4 [.int .i32 0] := ⟨by kernel_rfl⟩
instance : TFld Tryz.prog 179 0 0 12 1 := ⟨by kernel_rfl, by decide⟩
instance : TFld Tryz.prog 179 1 1 12 1 := ⟨by kernel_rfl, by decide⟩
instance : TFld Tryz.prog 179 2 2 134 1 := ⟨by kernel_rfl, by decide⟩
instance : TFld Tryz.prog 179 3 3 174 1 := ⟨by kernel_rfl, by decide⟩
instance : TFld Tryz.prog 179 4 4 5 1 := ⟨by kernel_rfl, by decide⟩
instance : TFld Tryz.prog 179 5 5 5 1 := ⟨by kernel_rfl, by decide⟩
instance : TFld Tryz.prog 179 6 6 175 1 := ⟨by kernel_rfl, by decide⟩
instance : TFld Tryz.prog 179 7 7 176 1 := ⟨by kernel_rfl, by decide⟩
instance : TFld Tryz.prog 179 8 8 140 1 := ⟨by kernel_rfl, by decide⟩
instance : TFld Tryz.prog 179 9 9 177 1 := ⟨by kernel_rfl, by decide⟩
instance : TFld Tryz.prog 179 10 10 178 1 := ⟨by kernel_rfl, by decide⟩
instance : TBuild Tryz.prog 179 [(0, 1), (1, 1), (2, 1), (3, 1), (4, 1), (5, 1), (6, 1), (7, 1), (8, 1), (9, 1), (10, 1)] := ⟨by kernel_rfl⟩
instance : TAg Tryz.prog 179 11 := ⟨by kernel_rfl, by kernel_rfl⟩
instance : TInfo Tryz.prog 179 11 48 [.int .u64 0, .int .u64 0, .int .u32 0, .int .u8 0, .int .u8 0, .int .u8 0, .int .u8 0, .nilFunc, .pointer none, .int .i32 0, .int .i32 0] := ⟨by kernel_rfl⟩
instance : TFld Tryz.prog 180 0 0 12 1 := ⟨by kernel_rfl, by decide⟩
instance : TFld Tryz.prog 180 1 1 12 1 := ⟨by kernel_rfl, by decide⟩
instance : TFld Tryz.prog 180 2 2 134 1 := ⟨by kernel_rfl, by decide⟩
instance : TFld Tryz.prog 180 3 3 174 1 := ⟨by kernel_rfl, by decide⟩
instance : TFld Tryz.prog 180 4 4 5 1 := ⟨by kernel_rfl, by decide⟩
instance : TFld Tryz.prog 180 5 5 5 1 := ⟨by kernel_rfl, by decide⟩
instance : TFld Tryz.prog 180 6 6 175 1 := ⟨by kernel_rfl, by decide⟩
instance : TFld Tryz.prog 180 7 7 176 1 := ⟨by kernel_rfl, by decide⟩
instance : TFld Tryz.prog 180 8 8 140 1 := ⟨by kernel_rfl, by decide⟩
instance : TFld Tryz.prog 180 9 9 177 1 := ⟨by kernel_rfl, by decide⟩
instance : TFld Tryz.prog 180 10 10 178 1 := ⟨by kernel_rfl, by decide⟩
instance : TBuild Tryz.prog 180 [(0, 1), (1, 1), (2, 1), (3, 1), (4, 1), (5, 1), (6, 1), (7, 1), (8, 1), (9, 1), (10, 1)] := ⟨by kernel_rfl⟩
instance : TAg Tryz.prog 180 11 := ⟨by kernel_rfl, by kernel_rfl⟩
instance : TInfo Tryz.prog 180 11 48 [.int .u64 0, .int .u64 0, .int .u32 0, .int .u8 0, .int .u8 0, .int .u8 0, .int .u8 0, .nilFunc, .pointer none, .int .i32 0, .int .i32 0] := ⟨by kernel_rfl⟩
instance : TFunc Tryz.prog 2 := ⟨by kernel_rfl⟩
instance : TFunc Tryz.prog 3 := ⟨by kernel_rfl⟩
instance : TFunc Tryz.prog 4 := ⟨by kernel_rfl⟩
instance : TFunc Tryz.prog 5 := ⟨by kernel_rfl⟩
instance : TFunc Tryz.prog 6 := ⟨by kernel_rfl⟩
instance : TFunc Tryz.prog 7 := ⟨by kernel_rfl⟩
instance : TFunc Tryz.prog 8 := ⟨by kernel_rfl⟩
instance : TFunc Tryz.prog 9 := ⟨by kernel_rfl⟩
instance : TFunc Tryz.prog 10 := ⟨by kernel_rfl⟩
instance : TFunc Tryz.prog 11 := ⟨by kernel_rfl⟩
instance : TFunc Tryz.prog 12 := ⟨by kernel_rfl⟩
instance : TFunc Tryz.prog 13 := ⟨by kernel_rfl⟩
instance : TFunc Tryz.prog 14 := ⟨by kernel_rfl⟩
instance : TFunc Tryz.prog 15 := ⟨by kernel_rfl⟩
instance : TFunc Tryz.prog 16 := ⟨by kernel_rfl⟩
instance : TFunc Tryz.prog 17 := ⟨by kernel_rfl⟩
instance : TFunc Tryz.prog 18 := ⟨by kernel_rfl⟩
instance : TFunc Tryz.prog 19 := ⟨by kernel_rfl⟩
instance : TFunc Tryz.prog 20 := ⟨by kernel_rfl⟩
instance : TFunc Tryz.prog 21 := ⟨by kernel_rfl⟩
instance : TFunc Tryz.prog 22 := ⟨by kernel_rfl⟩
instance : TFunc Tryz.prog 23 := ⟨by kernel_rfl⟩
instance : TFunc Tryz.prog 24 := ⟨by kernel_rfl⟩
instance : TFunc Tryz.prog 25 := ⟨by kernel_rfl⟩
instance : TFunc Tryz.prog 26 := ⟨by kernel_rfl⟩
instance : TFunc Tryz.prog 27 := ⟨by kernel_rfl⟩
instance : TFunc Tryz.prog 28 := ⟨by kernel_rfl⟩
instance : TFunc Tryz.prog 29 := ⟨by kernel_rfl⟩
instance : TFunc Tryz.prog 30 := ⟨by kernel_rfl⟩
instance : TFunc Tryz.prog 31 := ⟨by kernel_rfl⟩
instance : TFunc Tryz.prog 32 := ⟨by kernel_rfl⟩
instance : TFunc Tryz.prog 33 := ⟨by kernel_rfl⟩
instance : TFunc Tryz.prog 34 := ⟨by kernel_rfl⟩
instance : TFunc Tryz.prog 35 := ⟨by kernel_rfl⟩
instance : TFunc Tryz.prog 36 := ⟨by kernel_rfl⟩
instance : TFunc Tryz.prog 37 := ⟨by kernel_rfl⟩
instance : TFunc Tryz.prog 38 := ⟨by kernel_rfl⟩
instance : TFunc Tryz.prog 39 := ⟨by kernel_rfl⟩
instance : TFunc Tryz.prog 40 := ⟨by kernel_rfl⟩
instance : TFunc Tryz.prog 41 := ⟨by kernel_rfl⟩
instance : TFunc Tryz.prog 42 := ⟨by kernel_rfl⟩
instance : TFunc Tryz.prog 43 := ⟨by kernel_rfl⟩
instance : TFunc Tryz.prog 44 := ⟨by kernel_rfl⟩
instance : TFunc Tryz.prog 45 := ⟨by kernel_rfl⟩
instance : TFunc Tryz.prog 46 := ⟨by kernel_rfl⟩
instance : TFunc Tryz.prog 47 := ⟨by kernel_rfl⟩
instance : TFunc Tryz.prog 48 := ⟨by kernel_rfl⟩
instance : TFunc Tryz.prog 49 := ⟨by kernel_rfl⟩
instance : TFunc Tryz.prog 50 := ⟨by kernel_rfl⟩
instance : TFunc Tryz.prog 51 := ⟨by kernel_rfl⟩
instance : TFunc Tryz.prog 52 := ⟨by kernel_rfl⟩
instance : TFunc Tryz.prog 53 := ⟨by kernel_rfl⟩
instance : TFunc Tryz.prog 54 := ⟨by kernel_rfl⟩
instance : TFunc Tryz.prog 55 := ⟨by kernel_rfl⟩
instance : TFunc Tryz.prog 56 := ⟨by kernel_rfl⟩
instance : TFunc Tryz.prog 57 := ⟨by kernel_rfl⟩
instance : TFunc Tryz.prog 58 := ⟨by kernel_rfl⟩
instance : TFunc Tryz.prog 59 := ⟨by kernel_rfl⟩
instance : TFunc Tryz.prog 60 := ⟨by kernel_rfl⟩
instance : TFunc Tryz.prog 61 := ⟨by kernel_rfl⟩
instance : TFunc Tryz.prog 62 := ⟨by kernel_rfl⟩
instance : TFunc Tryz.prog 63 := ⟨by kernel_rfl⟩
instance : TFunc Tryz.prog 64 := ⟨by kernel_rfl⟩
instance : TFunc Tryz.prog 65 := ⟨by kernel_rfl⟩
instance : TFunc Tryz.prog 66 := ⟨by kernel_rfl⟩
instance : TFunc Tryz.prog 67 := ⟨by kernel_rfl⟩
instance : TFunc Tryz.prog 68 := ⟨by kernel_rfl⟩
instance : TFunc Tryz.prog 69 := ⟨by kernel_rfl⟩
instance : TFunc Tryz.prog 70 := ⟨by kernel_rfl⟩
instance : TFunc Tryz.prog 71 := ⟨by kernel_rfl⟩
instance : TFunc Tryz.prog 72 := ⟨by kernel_rfl⟩
instance : TFunc Tryz.prog 73 := ⟨by kernel_rfl⟩
instance : TFunc Tryz.prog 74 := ⟨by kernel_rfl⟩
instance : TFunc Tryz.prog 75 := ⟨by kernel_rfl⟩
instance : TFunc Tryz.prog 76 := ⟨by kernel_rfl⟩
instance : TFunc Tryz.prog 77 := ⟨by kernel_rfl⟩
instance : TFunc Tryz.prog 78 := ⟨by kernel_rfl⟩
instance : TFunc Tryz.prog 79 := ⟨by kernel_rfl⟩
instance : TFunc Tryz.prog 80 := ⟨by kernel_rfl⟩
instance : TFunc Tryz.prog 81 := ⟨by kernel_rfl⟩
instance : TFunc Tryz.prog 82 := ⟨by kernel_rfl⟩
instance : TFunc Tryz.prog 83 := ⟨by kernel_rfl⟩
instance : TFunc Tryz.prog 84 := ⟨by kernel_rfl⟩
instance : TFunc Tryz.prog 85 := ⟨by kernel_rfl⟩
instance : TFunc Tryz.prog 86 := ⟨by kernel_rfl⟩
instance : TFunc Tryz.prog 87 := ⟨by kernel_rfl⟩
instance : TFunc Tryz.prog 88 := ⟨by kernel_rfl⟩
instance : TFunc Tryz.prog 89 := ⟨by kernel_rfl⟩
instance : TFunc Tryz.prog 90 := ⟨by kernel_rfl⟩
instance : TFunc Tryz.prog 91 := ⟨by kernel_rfl⟩
instance : TFunc Tryz.prog 92 := ⟨by kernel_rfl⟩
instance : TFunc Tryz.prog 93 := ⟨by kernel_rfl⟩
instance : TFunc Tryz.prog 94 := ⟨by kernel_rfl⟩
instance : TFunc Tryz.prog 95 := ⟨by kernel_rfl⟩
instance : TFunc Tryz.prog 96 := ⟨by kernel_rfl⟩
instance : TFunc Tryz.prog 97 := ⟨by kernel_rfl⟩
instance : TFunc Tryz.prog 98 := ⟨by kernel_rfl⟩
instance : TFunc Tryz.prog 99 := ⟨by kernel_rfl⟩
instance : TFunc Tryz.prog 100 := ⟨by kernel_rfl⟩
instance : TFunc Tryz.prog 101 := ⟨by kernel_rfl⟩
instance : TFunc Tryz.prog 102 := ⟨by kernel_rfl⟩
instance : TFunc Tryz.prog 103 := ⟨by kernel_rfl⟩
instance : TFunc Tryz.prog 104 := ⟨by kernel_rfl⟩
instance : TFunc Tryz.prog 105 := ⟨by kernel_rfl⟩
instance : TFunc Tryz.prog 106 := ⟨by kernel_rfl⟩
instance : TFunc Tryz.prog 107 := ⟨by kernel_rfl⟩
instance : TFunc Tryz.prog 108 := ⟨by kernel_rfl⟩
instance : TFunc Tryz.prog 109 := ⟨by kernel_rfl⟩
instance : TFunc Tryz.prog 110 := ⟨by kernel_rfl⟩
instance : TFunc Tryz.prog 111 := ⟨by kernel_rfl⟩
instance : TFunc Tryz.prog 112 := ⟨by kernel_rfl⟩
instance : TFunc Tryz.prog 113 := ⟨by kernel_rfl⟩
instance : TFunc Tryz.prog 114 := ⟨by kernel_rfl⟩
instance : TFunc Tryz.prog 115 := ⟨by kernel_rfl⟩
instance : TFunc Tryz.prog 116 := ⟨by kernel_rfl⟩
instance : TFunc Tryz.prog 117 := ⟨by kernel_rfl⟩
instance : TFunc Tryz.prog 118 := ⟨by kernel_rfl⟩
instance : TFunc Tryz.prog 119 := ⟨by kernel_rfl⟩
instance : TFunc Tryz.prog 120 := ⟨by kernel_rfl⟩
instance : TFunc Tryz.prog 121 := ⟨by kernel_rfl⟩
instance : TFunc Tryz.prog 122 := ⟨by kernel_rfl⟩
instance : TFunc Tryz.prog 123 := ⟨by kernel_rfl⟩
instance : TFunc Tryz.prog 124 := ⟨by kernel_rfl⟩
instance : TFunc Tryz.prog 125 := ⟨by kernel_rfl⟩
instance : TFunc Tryz.prog 126 := ⟨by kernel_rfl⟩
instance : TFunc Tryz.prog 127 := ⟨by kernel_rfl⟩
instance : TFunc Tryz.prog 128 := ⟨by kernel_rfl⟩
instance : TFunc Tryz.prog 129 := ⟨by kernel_rfl⟩
instance : TFunc Tryz.prog 130 := ⟨by kernel_rfl⟩
instance : TFunc Tryz.prog 131 := ⟨by kernel_rfl⟩
instance : TFunc Tryz.prog 132 := ⟨by kernel_rfl⟩
instance : TFunc Tryz.prog 133 := ⟨by kernel_rfl⟩
instance : TFunc Tryz.prog 134 := ⟨by kernel_rfl⟩
instance : TFunc Tryz.prog 135 := ⟨by kernel_rfl⟩
instance : TFunc Tryz.prog 136 := ⟨by kernel_rfl⟩
instance : TFunc Tryz.prog 137 := ⟨by kernel_rfl⟩
instance : TFunc Tryz.prog 138 := ⟨by kernel_rfl⟩
instance : TFunc Tryz.prog 139 := ⟨by kernel_rfl⟩
instance : TFunc Tryz.prog 140 := ⟨by kernel_rfl⟩
instance : TFunc Tryz.prog 141 := ⟨by kernel_rfl⟩
instance : TFunc Tryz.prog 142 := ⟨by kernel_rfl⟩
instance : TFunc Tryz.prog 145 := ⟨by kernel_rfl⟩
instance : TFunc Tryz.prog 146 := ⟨by kernel_rfl⟩
instance : TFunc Tryz.prog 147 := ⟨by kernel_rfl⟩
instance : TFunc Tryz.prog 148 := ⟨by kernel_rfl⟩
instance : TFunc Tryz.prog 149 := ⟨by kernel_rfl⟩
instance : TFunc Tryz.prog 150 := ⟨by kernel_rfl⟩
instance : TFunc Tryz.prog 151 := ⟨by kernel_rfl⟩
instance : TFunc Tryz.prog 152 := ⟨by kernel_rfl⟩
instance : TFunc Tryz.prog 153 := ⟨by kernel_rfl⟩
instance : TFunc Tryz.prog 154 := ⟨by kernel_rfl⟩
instance : TFunc Tryz.prog 176 := ⟨by kernel_rfl⟩
def shaK : List Nat := [1116352408, 1899447441, 3049323471, 3921009573, 961987163, 1508970993, 2453635748, 2870763221, 3624381080, 310598401, 607225278, 1426881987, 1925078388, 2162078206, 2614888103, 3248222580, 3835390401, 4022224774, 264347078, 604807628, 770255983, 1249150122, 1555081692, 1996064986, 2554220882, 2821834349, 2952996808, 3210313671, 3336571891, 3584528711, 113926993, 338241895, 666307205, 773529912, 1294757372, 1396182291, 1695183700, 1986661051, 2177026350, 2456956037, 2730485921, 2820302411, 3259730800, 3345764771, 3516065817, 3600352804, 4094571909, 275423344, 430227734, 506948616, 659060556, 883997877, 958139571, 1322822218, 1537002063, 1747873779, 1955562222, 2024104815, 2227730452, 2361852424, 2428436474, 2756734187, 3204031479, 3329325298]
instance globs : Gl Tryz.prog := ⟨[(1, shaK.map fun (n : Nat) => Value.int .u32 (n : Int))]⟩
theorem follows : Tryz.prog.follows .mixedOrders = true := by kernel_rfl
end Go.Proofs.YtlfdhkahiaammaaGreatDoor
namespace Go.Proofs.YtlfdhkahiaammaaGreatDoor
open Go Go.Sse
set_option maxRecDepth 10000
set_option linter.unusedVariables false
set_option linter.unusedSimpArgs false
def be (n : Nat) : List UInt8 := if h : n = 0 then [] else be (n / 256) ++ [UInt8.ofNat (n % 256)]
termination_by n
decreasing_by omega
theorem be_zero : be 0 = [] := by rw [be, dif_pos rfl]
theorem be_pos {n : Nat} (h : 0 < n) : be n = be (n / 256) ++ [UInt8.ofNat (n % 256)] := by rw [be, dif_neg (by omega)]
theorem be_len : ∀ (k n : Nat), n < 256 ^ k → (be n).length ≤ k
  | 0, n, h => by have : n = 0 := by simpa using h
                  subst this; rw [be_zero]; simp
  | k + 1, n, h => by
    by_cases h0 : n = 0
    · subst h0; rw [be_zero]; simp
    · rw [be_pos (by omega), List.length_append]
      have : n / 256 < 256 ^ k := by rw [Nat.div_lt_iff_lt_mul (by omega), ← Nat.pow_succ]; exact h
      have := be_len k (n / 256) this
      simp only [List.length_cons, List.length_nil]; omega
theorem be_len8 {n : Nat} (h : n < 18446744073709551616) : (be n).length ≤ 8 := be_len 8 n (by simpa using h)
def numB (n : Nat) : List UInt8 := UInt8.ofNat (be n).length :: be n
theorem numB_len {n : Nat} (h : n < 18446744073709551616) : 1 ≤ (numB n).length ∧ (numB n).length ≤ 9 := by
  have := be_len8 h
  simp only [numB, List.length_cons]; omega
def textB (s : List UInt8) : List UInt8 := numB s.length ++ s
def listB (l : List (List UInt8)) : List UInt8 := numB l.length ++ (l.map textB).flatten
def flagB (b : Bool) : List UInt8 := if b then [1] else [0]
theorem list_take {l : List (List UInt8)} (i : Nat) (h : i < l.length) : ((l.take i).map textB).flatten ++ textB (l.getD i []) = ((l.take (i + 1)).map textB).flatten := by
  rw [List.take_add_one, List.getElem?_eq_getElem h, List.getD_eq_getElem?_getD, List.getElem?_eq_getElem h]
  simp only [Option.toList_some, Option.getD_some, List.map_append, List.map_cons, List.map_nil, List.flatten_append, List.flatten_cons, List.flatten_nil, List.append_nil]
end Go.Proofs.YtlfdhkahiaammaaGreatDoor
namespace Go.Proofs.YtlfdhkahiaammaaGreatDoor
open Go Go.Sse
set_option linter.unusedVariables false
set_option linter.unusedSimpArgs false
set_option maxRecDepth 10000
abbrev tU8 : Nat := 5
theorem ref0 {F : List (Nat × SV)} {i : Nat} {s : SV} (h : Sse.look F i = some s) : ∃ t, Sse.look F i = some t ∧ Sub t s := ⟨s, h, .refl _⟩
set_option maxHeartbeats 1000000 in
theorem num_ok (n : Nat) (hn : n < 9223372036854775808) : FnC Tryz.prog 70 [int (n : Int)] [] (fun s L => s = str (numB n) ∧ L = []) := by
  have h8 := be_len8 (n := n) (by omega)
  refine FnC.intro Tryz.func70 rfl Tryz.ntmps70 rfl fun Z w0 hG => ?_
  focus (
 (refine W.seq (W.region (Jx.assign rfl rfl (J.nil (N.seq (W.seq (W.region ?_)))))))
 (refine J.alloc (by simp only [List.map_cons, List.map_nil]; rfl) rfl rfl ?_; intro b')
 (refine J.nil (N.seq (W.seq (W.region (Jx.assign rfl rfl (J.nil (N.seq (W.seq (W.block ?_)))))))))
 (refine id ?_; rotate_left))
  refine W.loop (α := Nat × Nat × List UInt8) (fun x => [(4, int x.1), (3, ptr b'), (0, int (x.2.1 : Int))]) (fun x => [.obj b' 128 (x.2.2.map byte)]) (fun x => x.1 ≤ 8 ∧ x.2.2.length = 8 ∧ x.2.1 ≤ n ∧ be n = be x.2.1 ++ x.2.2.drop x.1) (fun x => x.2.1) (8, n, List.replicate 8 0) ⟨by simp, rfl, by simp, by simp⟩ rfl ⟨ref0 rfl, ref0 rfl, ref0 rfl, trivial⟩ ?_
  rintro ⟨a, m, ws⟩ ⟨ha, hl, hm, hb⟩
  simp only at ha hl hm hb ⊢
  have hlen : (be n).length = (be m).length + (8 - a) := by rw [hb, List.length_append, List.length_drop, hl]
  by_cases h0 : 0 < m
  · have hbm := be_pos h0
    have hlm : 1 ≤ (be m).length := by rw [hbm, List.length_append]; simp
    have ha1 : 1 ≤ a := by omega
    focus (
 (refine W.seq (W.seq (W.region (Jx.move rfl rfl (Jx.gtrI rfl rfl rfl (J.nil (N.seq (W.cT rfl ?_))))))))
 (refine W.skip (N.seq (W.seq (W.block (W.seq (W.region (Jx.move rfl rfl (Jx.sub64 rfl rfl (by omega) rfl ?_))))))))
 (refine Jx.assign rfl rfl (J.nil (N.seq (W.region (Jx.move rfl rfl (Jx.move rfl rfl ?_))))))
 (refine Jx.numByte m rfl rfl rfl rfl ?_)
 (refine Jx.index0 (a - 1) rfl rfl (by omega) (by omega) rfl ?_)
 (refine J.storeA byte (UInt8.ofNat m) rfl rfl (One.val rfl) 0 rfl (by omega) rfl ?_)
 (refine J.nil (N.seq (W.region (Jx.move rfl rfl (Jx.shrN (s := 8) rfl rfl rfl (by decide) rfl ?_)))))
 (refine Jx.assign rfl rfl (J.nil ?_))
 (refine id ?_; rotate_left))
    refine N.round (a - 1, m / 256, ws.set (a - 1) (UInt8.ofNat m)) ⟨by simp only; omega, by simp only [List.length_set]; exact hl, by simp only; omega, ?_⟩ (by simp only; omega) rfl ⟨⟨_, rfl, Sub.of_eq (by simp only; congr 2; omega)⟩, ref0 rfl, ⟨_, rfl, Sub.of_eq (by rfl)⟩, trivial⟩
    simp only
    rw [hb, hbm, List.append_assoc]
    congr 1
    have hlt : a - 1 < (ws.set (a - 1) (UInt8.ofNat m)).length := by rw [List.length_set]; omega
    rw [List.drop_eq_getElem_cons hlt, List.getElem_set_self, show a - 1 + 1 = a by omega, List.drop_set_of_lt (by omega)]
    rw [show UInt8.ofNat (m % 256) = UInt8.ofNat m by apply UInt8.toNat_inj.1; simp]
    rfl
  · have hm0 : m = 0 := by omega
    subst hm0
    rw [be_zero, List.nil_append] at hb
    rw [be_zero] at hlen
    simp only [List.length_nil, Nat.zero_add] at hlen
    have hnum : [UInt8.ofNat (8 - a)] ++ ws.drop a = numB n := by rw [← hb, ← hlen]; rfl
    have hcl : [UInt8.ofNat (8 - a)].length + (ws.drop a).length ≤ 9223372036854775807 := by rw [← hb]; simp only [List.length_cons, List.length_nil]; omega
    focus (
 (refine W.seq (W.seq (W.region (Jx.move rfl rfl (Jx.gtrI rfl rfl rfl (J.nil (N.seq (W.cF rfl ?_))))))))
 (refine W.exit (N.seq (W.seq ?_)))
 (refine W.draw follows ?_)
 (refine JD.calm rfl (by decide +kernel) ?_)
 (refine Cx.move rfl rfl ?_)
 (refine Cx.sub64 rfl rfl (by omega) rfl ?_)
 (refine Cx.numByte (8 - a) rfl rfl (by omega) rfl ?_)
 (refine SegC.q (Qs.buildBytes [UInt8.ofNat (8 - a)] rfl rfl rfl (by decide) (by decide)) rfl ?_)
 (refine Cx.bytesStr rfl rfl ?_)
 (refine Cx.move rfl rfl ?_)
 (refine Cx.arrFrom a rfl rfl rfl ha rfl ?_)
 (refine Cx.arrStr ws rfl 0 rfl hl ha rfl ?_)
 (refine Cx.cat rfl rfl hcl rfl ?_)
 (refine Cx.assign rfl rfl ?_)
 (refine SegC.nil ?_)
 (refine N.seq (W.ret ?_))
 (refine id ?_; rotate_left))
    exact N.retD (rs := [.tmp 2]) (L1 := []) rfl (.tmp rfl .nil) (List.nil_sublist _) ⟨by rw [hnum]; rfl, rfl⟩
theorem number_ok (n : Nat) (hn : n < 9223372036854775808) : FnC Tryz.prog 101 [int (n : Int)] [] (fun s L => s = str (numB n) ∧ L = []) := by
  have h8 := be_len8 (n := n) (by omega)
  refine FnC.intro Tryz.func101 rfl Tryz.ntmps101 rfl fun Z w0 hG => ?_
  focus (
 (refine W.seq (W.region (Jx.assign rfl rfl (J.nil (N.seq (W.seq (W.region (Jx.assign rfl rfl (J.nil (N.seq (W.seq (W.block ?_))))))))))))
 (refine id ?_; rotate_left))
  refine W.loop (α := Nat × List UInt8) (fun x => [(3, str x.2), (0, int (x.1 : Int))]) (fun _ => []) (fun x => x.1 ≤ n ∧ be n = be x.1 ++ x.2) (fun x => x.1) (n, []) ⟨by simp, by simp⟩ rfl ⟨ref0 rfl, ref0 rfl, trivial⟩ ?_
  rintro ⟨m, e⟩ ⟨hm, hb⟩
  simp only at hm hb ⊢
  have hlen : (be n).length = (be m).length + e.length := by rw [hb, List.length_append]
  by_cases h0 : 0 < m
  · focus (
 (refine W.seq (W.seq (W.region (Jx.move rfl rfl (Jx.gtrI rfl rfl rfl (J.nil (N.seq (W.cT rfl ?_))))))))
 (refine W.skip (N.seq (W.block (W.seq (W.region (Jx.move rfl rfl (Jx.rem64 rfl rfl (by omega) (by decide) rfl ?_)))))))
 (refine Jx.numByte (m % 256) rfl rfl (by omega) rfl ?_)
 (refine J.qs (Qs.buildBytes [UInt8.ofNat (m % 256)] rfl rfl rfl (by decide) (by decide)) rfl ?_)
 (refine Jx.bytesStr rfl rfl ?_)
 (refine Jx.move rfl rfl (Jx.cat rfl rfl (by simp only [List.length_cons, List.length_nil]; omega) rfl ?_))
 (refine Jx.assign rfl rfl (J.nil (N.seq (W.region (Jx.move rfl rfl (Jx.quo64 rfl rfl (by omega) (by decide) rfl ?_))))))
 (refine Jx.assign rfl rfl (J.nil (N.blockNormal ?_)))
 (refine id ?_; rotate_left))
    exact N.round (m / 256, [UInt8.ofNat (m % 256)] ++ e) ⟨by simp only; omega, by simp only; rw [hb, be_pos h0, List.append_assoc]⟩ (by simp only; omega) rfl ⟨ref0 rfl, ⟨_, rfl, Sub.of_eq (by congr 2)⟩, trivial⟩
  · have hm0 : m = 0 := by omega
    subst hm0
    rw [be_zero, List.nil_append] at hb
    subst hb
    focus (
 (refine W.seq (W.seq (W.region (Jx.move rfl rfl (Jx.gtrI rfl rfl rfl (J.nil (N.seq (W.cF rfl ?_))))))))
 (refine W.exit (N.seq (W.seq (W.region (Jx.move rfl rfl (Jx.lenS rfl rfl ?_))))))
 (refine Jx.numByte (be n).length rfl rfl rfl rfl ?_)
 (refine J.qs (Qs.buildBytes [UInt8.ofNat (be n).length] rfl rfl rfl (by decide) (by decide)) rfl ?_)
 (refine Jx.bytesStr rfl rfl ?_)
 (refine Jx.move rfl rfl (Jx.cat rfl rfl (by simp only [List.length_cons, List.length_nil]; omega) rfl ?_))
 (refine Jx.assign rfl rfl (J.nil (N.seq (W.ret ?_))))
 (refine id ?_; rotate_left))
    exact N.ret (rs := [.tmp 2]) rfl (.tmp rfl .nil) ⟨rfl, rfl⟩
theorem text_ok (s : List UInt8) (hs : s.length < 4611686018427387904) : FnC Tryz.prog 31 [str s] [] (fun r L => r = str (textB s) ∧ L = []) := by
  have c := num_ok s.length (by omega)
  have h := numB_len (n := s.length) (by omega)
  refine FnC.intro Tryz.func31 rfl Tryz.ntmps31 rfl fun Z w0 hG => ?_
  focus (
 (refine W.seq (W.region (Jx.assign rfl rfl (J.nil (N.seq (W.seq (W.region (Jx.move rfl rfl (Jx.lenS rfl rfl ?_)))))))))
 (refine J.call (c) rfl (evs_args rfl) rfl ?_; rintro _ _ ⟨rfl, rfl⟩; simp only [la1, la2, la3])
 (refine Jx.move rfl rfl (Jx.cat rfl rfl (by omega) rfl ?_))
 (refine Jx.assign rfl rfl (J.nil (N.seq (W.ret ?_))))
 (refine id ?_; rotate_left))
  exact N.ret (rs := [.tmp 2]) rfl (.tmp rfl .nil) ⟨rfl, rfl⟩
theorem rtext_ok (s : List UInt8) (hs : s.length < 4611686018427387904) : FnC Tryz.prog 77 [str s] [] (fun r L => r = str (textB s) ∧ L = []) := by
  have c := number_ok s.length (by omega)
  have h := numB_len (n := s.length) (by omega)
  refine FnC.intro Tryz.func77 rfl Tryz.ntmps77 rfl fun Z w0 hG => ?_
  focus (
 (refine W.seq (W.region (Jx.assign rfl rfl (J.nil (N.seq (W.seq (W.region (Jx.move rfl rfl (Jx.lenS rfl rfl ?_)))))))))
 (refine J.call (c) rfl (evs_args rfl) rfl ?_; rintro _ _ ⟨rfl, rfl⟩; simp only [la1, la2, la3])
 (refine Jx.move rfl rfl (Jx.cat rfl rfl (by omega) rfl ?_))
 (refine Jx.assign rfl rfl (J.nil (N.seq (W.ret ?_))))
 (refine id ?_; rotate_left))
  exact N.ret (rs := [.tmp 2]) rfl (.tmp rfl .nil) ⟨rfl, rfl⟩
def numR (n : Int) : List UInt8 × Int := if n < 0 then ([], 1) else (numB n.toNat, 0)
theorem Num_ok (n : Int) (hn : n ≤ 9223372036854775807) : FnC Tryz.prog 57 [int n] [] (fun r L => r = .tup [str (numR n).1, int (numR n).2] ∧ L = []) := by
  refine FnC.intro Tryz.func57 rfl Tryz.ntmps57 rfl fun Z w0 hG => ?_
  by_cases h : n < 0
  · focus (
 (refine W.seq (W.region (Jx.assign rfl rfl (Jx.assign rfl rfl (J.nil (N.seq (W.seq (W.seq (W.region (Jx.move rfl rfl (Jx.lssI rfl rfl rfl (J.nil (N.seq (W.cT rfl ?_))))))))))))))
 (refine W.seq (W.region (Jx.assign rfl rfl (Jx.assign rfl rfl (J.nil (N.seq (W.ret (N.seqRet ?_))))))))
 (refine id ?_; rotate_left))
    refine N.ret (rs := [.tmp 2, .tmp 3]) rfl (.tmp rfl (.tmp rfl .nil)) ⟨?_, rfl⟩
    simp [numR, h, oneOr]
  · obtain ⟨m, rfl⟩ : ∃ m : Nat, n = m := ⟨n.toNat, by omega⟩
    have c := num_ok m (by omega)
    focus (
 (refine W.seq (W.region (Jx.assign rfl rfl (Jx.assign rfl rfl (J.nil (N.seq (W.seq (W.seq (W.region (Jx.move rfl rfl (Jx.lssI rfl rfl rfl (J.nil (N.seq (W.cF rfl ?_))))))))))))))
 (refine W.skip (N.seq (W.seq (W.region (Jx.move rfl rfl ?_)))))
 (refine J.call (c) rfl (evs_args rfl) rfl ?_; rintro _ _ ⟨rfl, rfl⟩; simp only [la1, la2, la3])
 (refine Jx.assign rfl rfl (Jx.assign rfl rfl (J.nil (N.seq (W.ret ?_)))))
 (refine id ?_; rotate_left))
    refine N.ret (rs := [.tmp 2, .tmp 3]) rfl (.tmp rfl (.tmp rfl .nil)) ⟨?_, rfl⟩
    simp [numR, h, oneOr]
theorem flag_ok (b : Bool) : FnC Tryz.prog 33 [bool b] [] (fun r L => r = str (flagB b) ∧ L = []) := by
  refine FnC.intro Tryz.func33 rfl Tryz.ntmps33 rfl fun Z w0 hG => ?_
  cases b
  · focus (
 (refine W.seq (W.region (Jx.assign rfl rfl (J.nil (N.seq (W.seq (W.seq (W.region (Jx.move rfl rfl (J.nil (N.seq (W.cF rfl ?_))))))))))))
 (refine W.skip (N.seq (W.seq (W.region (Jx.assign rfl rfl (J.nil (N.seq (W.ret ?_))))))))
 (refine id ?_; rotate_left))
    exact N.ret (rs := [.tmp 2]) rfl (.tmp rfl .nil) ⟨rfl, rfl⟩
  · focus (
 (refine W.seq (W.region (Jx.assign rfl rfl (J.nil (N.seq (W.seq (W.seq (W.region (Jx.move rfl rfl (J.nil (N.seq (W.cT rfl ?_))))))))))))
 (refine W.seq (W.region (Jx.assign rfl rfl (J.nil (N.seq (W.ret (N.seqRet ?_)))))))
 (refine id ?_; rotate_left))
    exact N.ret (rs := [.tmp 2]) rfl (.tmp rfl .nil) ⟨rfl, rfl⟩
theorem rflag_ok (b : Bool) : FnC Tryz.prog 79 [bool b] [] (fun r L => r = str (flagB b) ∧ L = []) := by
  refine FnC.intro Tryz.func79 rfl Tryz.ntmps79 rfl fun Z w0 hG => ?_
  cases b
  · focus (
 (refine W.seq (W.region (Jx.assign rfl rfl (J.nil (N.seq (W.seq (W.seq (W.region (Jx.move rfl rfl (J.nil (N.seq (W.cF rfl ?_))))))))))))
 (refine W.skip (N.seq (W.seq (W.region (Jx.assign rfl rfl (J.nil (N.seq (W.ret ?_))))))))
 (refine id ?_; rotate_left))
    exact N.ret (rs := [.tmp 2]) rfl (.tmp rfl .nil) ⟨rfl, rfl⟩
  · focus (
 (refine W.seq (W.region (Jx.assign rfl rfl (J.nil (N.seq (W.seq (W.seq (W.region (Jx.move rfl rfl (J.nil (N.seq (W.cT rfl ?_))))))))))))
 (refine W.seq (W.region (Jx.assign rfl rfl (J.nil (N.seq (W.ret (N.seqRet ?_)))))))
 (refine id ?_; rotate_left))
    exact N.ret (rs := [.tmp 2]) rfl (.tmp rfl .nil) ⟨rfl, rfl⟩
end Go.Proofs.YtlfdhkahiaammaaGreatDoor
namespace Go.Proofs.YtlfdhkahiaammaaGreatDoor
open Go Go.Sse
set_option linter.unusedVariables false
set_option linter.unusedSimpArgs false
set_option maxRecDepth 10000
theorem pre_len {l : List (List UInt8)} (he : ∀ s ∈ l, s.length ≤ 1048576) : ∀ i, ((l.take i).map textB).flatten.length ≤ 1048585 * i := by
  intro i
  induction i with
  | zero => simp
  | succ i ih =>
    by_cases h : i < l.length
    · rw [← list_take i h, List.length_append]
      have h1 : (l.getD i []).length ≤ 1048576 := by
        rw [List.getD_eq_getElem?_getD, List.getElem?_eq_getElem h]; exact he _ (List.getElem_mem _)
      have h2 := (numB_len (n := (l.getD i []).length) (by omega)).2
      simp only [textB, List.length_append]
      omega
    · have e1 : l.take (i + 1) = l.take i := by rw [List.take_of_length_le (by omega), List.take_of_length_le (by omega)]
      rw [e1]; omega
set_option maxHeartbeats 1000000 in
theorem list_ok (l : List (List UInt8)) (hl : l.length ≤ 1048576) (he : ∀ s ∈ l, s.length ≤ 1048576) : FnC Tryz.prog 69 [ssl l] [] (fun r L => r = str (listB l) ∧ L = []) := by
  have c0 := num_ok l.length (by omega)
  have hn := (numB_len (n := l.length) (by omega)).2
  have hmx : (numB l.length).length ≤ maxLen := by simp only [maxLen]; omega
  have hpre := pre_len he
  refine FnC.intro Tryz.func69 rfl Tryz.ntmps69 rfl fun Z w0 hG => ?_
  focus (
 (refine W.seq (W.region (Jx.assign rfl rfl (J.nil (N.seq (W.seq (W.region (Jx.move rfl rfl (Jx.lenSl rfl rfl ?_)))))))))
 (refine J.call (c0) rfl (evs_args rfl) rfl ?_; rintro _ _ ⟨rfl, rfl⟩; simp only [la1, la2, la3])
 (refine J.strBytes rfl hmx rfl ?_; intro v)
 (refine Jx.assign rfl rfl (J.nil (N.seq (W.seq (W.seq (W.region (Jx.move rfl rfl (Jx.lenSl rfl rfl ?_))))))))
 (refine Jx.move rfl rfl (J.nil (N.seq (W.block ?_))))
 (refine id ?_; rotate_left))
  refine W.loop (α := Nat × Value) (fun x => [(12, int x.1), (11, int l.length), (10, ssl l), (3, .val x.2)]) (fun x => [.row x.2 tU8 1 (numB l.length ++ ((l.take x.1).map textB).flatten).length (elOf encB 0 (numB l.length ++ ((l.take x.1).map textB).flatten))]) (fun x => x.1 ≤ l.length) (fun x => l.length - x.1) (0, v) (by simp) (by simp only [List.take_zero, List.map_nil, List.flatten_nil, List.append_nil]) ⟨ref0 rfl, ref0 rfl, ref0 rfl, ref0 rfl, trivial⟩ ?_
  rintro ⟨i, u⟩ hi
  simp only at hi ⊢
  have hal : (numB l.length ++ ((l.take i).map textB).flatten).length ≤ 9 + 1048585 * i := by rw [List.length_append]; have := hpre i; omega
  by_cases h1 : i < l.length
  · have hs : (l.getD i []).length ≤ 1048576 := by
      rw [List.getD_eq_getElem?_getD, List.getElem?_eq_getElem h1]; exact he _ (List.getElem_mem _)
    have c1 := num_ok (l.getD i []).length (by omega)
    have hsn := (numB_len (n := (l.getD i []).length) (by omega)).2
    have hst := list_take i h1
    have hfin : numB l.length ++ ((l.take i).map textB).flatten ++ numB (l.getD i []).length ++ l.getD i [] = numB l.length ++ ((l.take (i + 1)).map textB).flatten := by
      rw [← hst, textB]; simp only [List.append_assoc]
    generalize numB l.length ++ ((l.take i).map textB).flatten = acc at *
    have hb1 : acc.length + (numB (l.getD i []).length).length ≤ maxLen ∧ (acc.length + (numB (l.getD i []).length).length) * 1 ≤ 140737488355328 := by simp only [maxLen]; omega
    have hb2 : (acc ++ numB (l.getD i []).length).length + (l.getD i []).length ≤ maxLen ∧ ((acc ++ numB (l.getD i []).length).length + (l.getD i []).length) * 1 ≤ 140737488355328 := by rw [List.length_append]; simp only [maxLen]; omega
    focus (
 (refine W.seq (W.region (Jx.lssI rfl rfl rfl (J.nil (N.seq (W.seq (W.cT rfl ?_)))))))
 (refine W.skip (N.seq (W.seq (W.block (W.seq (W.region (Jx.indexEl rfl rfl (by assumption) rfl rfl ?_)))))))
 (refine Jx.loadPP rfl rfl ?_)
 (refine Jx.assign rfl rfl (J.nil (N.seq (W.seq (W.region (Jx.move rfl rfl (Jx.move rfl rfl (Jx.lenS rfl rfl ?_))))))))
 (refine J.call (c1) rfl (evs_args rfl) rfl ?_; rintro _ _ ⟨rfl, rfl⟩; simp only [la1, la2, la3])
 (refine J.appendL (l2 := numB (l.getD i []).length) rfl (SrcOK.str rfl) rfl rfl hb1 rfl ?_; intro v2 hv2)
 (refine Jx.assign rfl rfl (J.nil (N.seq (W.region (Jx.move rfl rfl (Jx.move rfl rfl ?_))))))
 (refine J.appendL (l2 := l.getD i []) rfl (SrcOK.str rfl) rfl rfl hb2 rfl ?_; intro v3 hv3)
 (refine Jx.assign rfl rfl (J.nil (N.seq (W.region (Jx.add64 rfl rfl (by omega) rfl ?_)))))
 (refine Jx.move rfl rfl (J.nil ?_))
 (refine id ?_; rotate_left))
    exact N.round (i + 1, v3) h1 (by simp only; omega) (by simp only [hfin]) ⟨ref0 rfl, ref0 rfl, ref0 rfl, ref0 rfl, trivial⟩
  · have hil : i = l.length := by omega
    have hfin : numB l.length ++ ((l.take i).map textB).flatten = listB l := by rw [hil, List.take_length]; rfl
    rw [hfin]
    focus (
 (refine W.seq (W.region (Jx.lssI rfl rfl rfl (J.nil (N.seq (W.seq (W.cF rfl ?_)))))))
 (refine W.exit (N.seq (W.seq (W.region (Jx.move rfl rfl (Jx.bytesStrRow rfl 0 rfl rfl ?_))))))
 (refine Jx.assign rfl rfl (J.nil (N.seq (W.ret ?_))))
 (refine id ?_; rotate_left))
    exact N.retD (rs := [.tmp 2]) (L1 := []) rfl (.tmp rfl .nil) (List.nil_sublist _) ⟨rfl, rfl⟩
theorem rlist_ok (l : List (List UInt8)) (hl : l.length ≤ 1048576) (he : ∀ s ∈ l, s.length ≤ 1048576) : FnC Tryz.prog 115 [ssl l] [] (fun r L => r = str (listB l) ∧ L = []) := by
  have c0 := number_ok l.length (by omega)
  have hn := (numB_len (n := l.length) (by omega)).2
  have hpre := pre_len he
  refine FnC.intro Tryz.func115 rfl Tryz.ntmps115 rfl fun Z w0 hG => ?_
  focus (
 (refine W.seq (W.region (Jx.assign rfl rfl (J.nil (N.seq (W.seq (W.region (Jx.move rfl rfl (Jx.lenSl rfl rfl ?_)))))))))
 (refine J.call (c0) rfl (evs_args rfl) rfl ?_; rintro _ _ ⟨rfl, rfl⟩; simp only [la1, la2, la3])
 (refine Jx.assign rfl rfl (J.nil (N.seq (W.seq (W.seq (W.region (Jx.assign rfl rfl (J.nil (N.seq (W.block ?_))))))))))
 (refine id ?_; rotate_left))
  refine W.loop (α := Nat) (fun i => [(4, int i), (3, str (numB l.length ++ ((l.take i).map textB).flatten)), (0, ssl l)]) (fun _ => []) (fun i => i ≤ l.length) (fun i => l.length - i) 0 (by simp) rfl ⟨ref0 rfl, ⟨_, rfl, Sub.of_eq (by simp only [List.take_zero, List.map_nil, List.flatten_nil, List.append_nil])⟩, ref0 rfl, trivial⟩ ?_
  intro i hi
  have hal : (numB l.length ++ ((l.take i).map textB).flatten).length ≤ 9 + 1048585 * i := by rw [List.length_append]; have := hpre i; omega
  by_cases h1 : i < l.length
  · have hs : (l.getD i []).length ≤ 1048576 := by
      rw [List.getD_eq_getElem?_getD, List.getElem?_eq_getElem h1]; exact he _ (List.getElem_mem _)
    have c1 := rtext_ok (l.getD i []) (by omega)
    have hsn := (numB_len (n := (l.getD i []).length) (by omega)).2
    have htl : (textB (l.getD i [])).length ≤ 1048585 := by simp only [textB, List.length_append]; omega
    have hst := list_take i h1
    have hfin : numB l.length ++ ((l.take i).map textB).flatten ++ textB (l.getD i []) = numB l.length ++ ((l.take (i + 1)).map textB).flatten := by
      rw [← hst]; simp only [List.append_assoc]
    generalize numB l.length ++ ((l.take i).map textB).flatten = acc at *
    focus (
 (refine W.seq (W.seq (W.region (Jx.move rfl rfl (Jx.move rfl rfl (Jx.lenSl rfl rfl ?_))))))
 (refine Jx.lssI rfl rfl rfl (J.nil (N.seq (W.cT rfl ?_))))
 (refine W.skip (N.seq (W.seq (W.block (W.region (Jx.move rfl rfl (Jx.move rfl rfl (Jx.move rfl rfl (Jx.indexEl rfl rfl (by assumption) rfl rfl ?_)))))))))
 (refine Jx.loadPP rfl rfl ?_)
 (refine J.call (c1) rfl (evs_args rfl) rfl ?_; rintro _ _ ⟨rfl, rfl⟩; simp only [la1, la2, la3])
 (refine Jx.cat rfl rfl (by omega) rfl ?_)
 (refine Jx.assign rfl rfl (J.nil (N.seq (W.region (Jx.move rfl rfl (Jx.add64 rfl rfl (by omega) rfl ?_))))))
 (refine Jx.assign rfl rfl (J.nil ?_))
 (refine id ?_; rotate_left))
    exact N.round (i + 1) h1 (by omega) rfl ⟨ref0 rfl, ⟨_, rfl, Sub.of_eq (by rw [hfin])⟩, ref0 rfl, trivial⟩
  · have hil : i = l.length := by omega
    have hfin : numB l.length ++ ((l.take i).map textB).flatten = listB l := by rw [hil, List.take_length]; rfl
    focus (
 (refine W.seq (W.seq (W.region (Jx.move rfl rfl (Jx.move rfl rfl (Jx.lenSl rfl rfl ?_))))))
 (refine Jx.lssI rfl rfl rfl (J.nil (N.seq (W.cF rfl ?_))))
 (refine W.exit (N.seq (W.seq (W.region (Jx.move rfl rfl (Jx.assign rfl rfl (J.nil (N.seq (W.ret ?_)))))))))
 (refine id ?_; rotate_left))
    exact N.ret (rs := [.tmp 2]) rfl (.tmp rfl .nil) ⟨by rw [hfin]; rfl, rfl⟩
def fewB (l : List (List UInt8)) (n e : Int) : Bool := decide ((l.length : Int) ≤ n) && l.all fun s => decide ((s.length : Int) ≤ e)
theorem few_ok (l : List (List UInt8)) (n e : Int) (hn : n ≤ 9223372036854775807) : FnC Tryz.prog 25 [ssl l, int n, int e] [] (fun s L => s = bool (fewB l n e) ∧ L = []) := by
  refine FnC.intro Tryz.func25 rfl Tryz.ntmps25 rfl fun Z w0 hG => ?_
  by_cases h0 : n < (l.length : Int)
  · focus (
 (refine W.seq (W.region (Jx.assign rfl rfl (J.nil (N.seq (W.seq (W.seq (W.region (Jx.move rfl rfl (Jx.lenSl rfl rfl ?_))))))))))
 (refine Jx.move rfl rfl (Jx.gtrI rfl rfl rfl (J.nil (N.seq (W.cT rfl ?_)))))
 (refine W.seq (W.region (Jx.assign rfl rfl (J.nil (N.seq (W.ret (N.seqRet ?_)))))))
 (refine id ?_; rotate_left))
    refine N.ret (rs := [.tmp 6]) rfl (.tmp rfl .nil) ⟨?_, rfl⟩
    simp [oneOr, fewB, show ¬ (l.length : Int) ≤ n by omega]
  · focus (
 (refine W.seq (W.region (Jx.assign rfl rfl (J.nil (N.seq (W.seq (W.seq (W.region (Jx.move rfl rfl (Jx.lenSl rfl rfl ?_))))))))))
 (refine Jx.move rfl rfl (Jx.gtrI rfl rfl rfl (J.nil (N.seq (W.cF rfl ?_)))))
 (refine W.skip (N.seq (W.seq (W.seq (W.region (Jx.assign rfl rfl (J.nil (N.seq (W.block ?_)))))))))
 (refine id ?_; rotate_left))
    refine W.loop (α := Nat) (fun i => [(7, int i), (2, int e), (0, ssl l)]) (fun _ => []) (fun i => i ≤ l.length ∧ ∀ s ∈ l.take i, (s.length : Int) ≤ e) (fun i => l.length - i) 0 ⟨by omega, by simp⟩ rfl ⟨ref0 rfl, ref0 rfl, ref0 rfl, trivial⟩ ?_
    rintro i ⟨hi, hall⟩
    by_cases h1 : i < l.length
    · have hm : l.getD i [] ∈ l := by rw [List.getD_eq_getElem?_getD, List.getElem?_eq_getElem h1]; exact List.getElem_mem _
      have hts : ∀ s ∈ l.take (i + 1), s ∈ l.take i ∨ s = l.getD i [] := fun s hs => by
        rw [List.take_add_one, List.getElem?_eq_getElem h1] at hs
        rw [List.getD_eq_getElem?_getD, List.getElem?_eq_getElem h1]
        simp only [Option.toList_some, List.mem_append, List.mem_singleton] at hs
        exact hs
      by_cases h2 : e < ((l.getD i []).length : Int)
      · focus (
 (refine W.seq (W.seq (W.region (Jx.move rfl rfl (Jx.move rfl rfl (Jx.lenSl rfl rfl ?_))))))
 (refine Jx.lssI rfl rfl rfl (J.nil (N.seq (W.cT rfl ?_))))
 (refine W.skip (N.seq (W.seq (W.block (W.seq (W.region (Jx.move rfl rfl (Jx.move rfl rfl (Jx.indexEl rfl rfl (by assumption) rfl rfl ?_)))))))))
 (refine Jx.loadPP rfl rfl ?_)
 (refine Jx.lenS rfl rfl ?_)
 (refine Jx.move rfl rfl (Jx.gtrI rfl rfl rfl (J.nil (N.seq (W.cT rfl ?_)))))
 (refine W.seq (W.region (Jx.assign rfl rfl (J.nil (N.seq (W.ret (N.blockRet (N.seqRet (N.seqRet (N.blockRet (N.seqRet ?_)))))))))))
 (refine id ?_; rotate_left))
        refine N.ret (rs := [.tmp 6]) rfl (.tmp rfl .nil) ⟨?_, rfl⟩
        have : l.all (fun s => decide ((s.length : Int) ≤ e)) = false := by
          rw [List.all_eq_false]; exact ⟨_, hm, by simp only [decide_eq_true_eq]; omega⟩
        simp [oneOr, fewB, this]
      · focus (
 (refine W.seq (W.seq (W.region (Jx.move rfl rfl (Jx.move rfl rfl (Jx.lenSl rfl rfl ?_))))))
 (refine Jx.lssI rfl rfl rfl (J.nil (N.seq (W.cT rfl ?_))))
 (refine W.skip (N.seq (W.seq (W.block (W.seq (W.region (Jx.move rfl rfl (Jx.move rfl rfl (Jx.indexEl rfl rfl (by assumption) rfl rfl ?_)))))))))
 (refine Jx.loadPP rfl rfl ?_)
 (refine Jx.lenS rfl rfl ?_)
 (refine Jx.move rfl rfl (Jx.gtrI rfl rfl rfl (J.nil (N.seq (W.cF rfl ?_)))))
 (refine W.skip (N.seq (W.region (Jx.move rfl rfl (Jx.add64 rfl rfl (by omega) rfl ?_)))))
 (refine Jx.assign rfl rfl (J.nil ?_))
 (refine id ?_; rotate_left))
        exact N.round (i + 1) ⟨h1, fun s hs => by rcases hts s hs with h | rfl; exact hall s h; omega⟩ (by omega) rfl ⟨ref0 rfl, ref0 rfl, ref0 rfl, trivial⟩
    · have hil : i = l.length := by omega
      focus (
 (refine W.seq (W.seq (W.region (Jx.move rfl rfl (Jx.move rfl rfl (Jx.lenSl rfl rfl ?_))))))
 (refine Jx.lssI rfl rfl rfl (J.nil (N.seq (W.cF rfl ?_))))
 (refine W.exit (N.seq (W.seq (W.region (Jx.assign rfl rfl (J.nil (N.seq (W.ret ?_))))))))
 (refine id ?_; rotate_left))
      refine N.ret (rs := [.tmp 6]) rfl (.tmp rfl .nil) ⟨?_, rfl⟩
      rw [hil, List.take_length] at hall
      have : l.all (fun s => decide ((s.length : Int) ≤ e)) = true := List.all_eq_true.2 fun s hs => by simpa using hall s hs
      simp only [oneOr, fewB, this, Bool.and_true]
      rw [decide_eq_true (by omega)]
theorem few_spec {l : List (List UInt8)} {n e : Nat} (h : fewB l n e = true) : l.length ≤ n ∧ ∀ s ∈ l, s.length ≤ e := by
  unfold fewB at h
  simp only [Bool.and_eq_true, decide_eq_true_eq, List.all_eq_true] at h
  exact ⟨by omega, fun s hs => by have := h.2 s hs; omega⟩
end Go.Proofs.YtlfdhkahiaammaaGreatDoor
namespace Go.Proofs.YtlfdhkahiaammaaGreatDoor
open Go Go.Sse
set_option linter.unusedVariables false
set_option linter.unusedSimpArgs false
set_option maxRecDepth 10000
abbrev tRd : Nat := 95
structure Rdr where
  s : List UInt8
  at_ : Nat
  code : Int
structure Rdr.ok (r : Rdr) : Prop where
  le : r.at_ ≤ r.s.length
  mx : r.s.length ≤ 1099511627776
abbrev rdO (b : Nat) (r : Rdr) : Own := .obj b tRd [str r.s, int (r.at_ : Int), int r.code]
theorem read_ok (s : List UInt8) : FnC Tryz.prog 37 [str s] [] (fun r L => ∃ b, r = ptr b ∧ L = [rdO b ⟨s, 0, 0⟩]) := by
  refine FnC.intro Tryz.func37 rfl Tryz.ntmps37 rfl fun Z w0 hG => ?_
  focus (
 (refine W.seq (W.region (Jx.assign rfl rfl (J.nil (N.seq (W.seq (W.region (Jx.move rfl rfl (Jx.buildB rfl rfl rfl rfl rfl ?_)))))))))
 (refine J.boxAg rfl rfl ?_; intro b')
 (refine Jx.assign rfl rfl (J.nil (N.seq (W.ret ?_))))
 (refine id ?_; rotate_left))
  exact N.ret (rs := [.tmp 2]) rfl (.tmp rfl .nil) ⟨b', rfl, rfl⟩
theorem code_ok (b : Nat) (r : Rdr) : FnC Tryz.prog 149 [ptr b] [rdO b r] (fun s L => s = int r.code ∧ L = [rdO b r]) := by
  refine FnC.intro Tryz.func149 rfl Tryz.ntmps149 rfl fun Z w0 hG => ?_
  focus (
 (refine W.seq (W.region (Jx.assign rfl rfl (J.nil (N.seq (W.seq (W.region (Jx.move rfl rfl (Jx.nilCheck rfl rfl ?_)))))))))
 (refine Jx.fieldAddr rfl rfl ?_)
 (refine Jx.load rfl 0 rfl rfl rfl ?_)
 (refine Jx.assign rfl rfl (J.nil (N.seq (W.ret ?_))))
 (refine id ?_; rotate_left))
  exact N.ret (rs := [.tmp 2]) rfl (.tmp rfl .nil) ⟨rfl, rfl⟩
theorem left_ok (b : Nat) (r : Rdr) (h : r.ok) : FnC Tryz.prog 85 [ptr b] [rdO b r] (fun s L => s = int ((r.s.length : Int) - r.at_) ∧ L = [rdO b r]) := by
  have h1 := h.le; have h2 := h.mx
  refine FnC.intro Tryz.func85 rfl Tryz.ntmps85 rfl fun Z w0 hG => ?_
  focus (
 (refine W.seq (W.region (Jx.assign rfl rfl (J.nil (N.seq (W.seq ?_))))))
 (refine W.draw follows ?_)
 (refine JD.calm rfl (by decide +kernel) ?_)
 (refine Cx.move rfl rfl ?_)
 (refine Cx.nilCheck rfl rfl ?_)
 (refine Cx.fieldAddr rfl rfl ?_)
 (refine Cx.load rfl 0 rfl rfl rfl ?_)
 (refine Cx.lenS rfl rfl ?_)
 (refine Cx.move rfl rfl ?_)
 (refine Cx.nilCheck rfl rfl ?_)
 (refine Cx.fieldAddr rfl rfl ?_)
 (refine Cx.load rfl 0 rfl rfl rfl ?_)
 (refine Cx.sub64 rfl rfl (by omega) rfl ?_)
 (refine Cx.assign rfl rfl ?_)
 (refine SegC.nil ?_)
 (refine N.seq (W.ret ?_))
 (refine id ?_; rotate_left))
  exact N.ret (rs := [.tmp 2]) rfl (.tmp rfl .nil) ⟨rfl, rfl⟩
def Rdr.refuse (r : Rdr) (from_ : Nat) (e : Int) : Rdr := if r.code = 0 then { r with at_ := from_, code := e } else r
theorem refused_ok (b : Nat) (r : Rdr) (n : Nat) (e : Int) : FnC Tryz.prog 84 [ptr b, int (n : Int), int e] [rdO b r] (fun s L => L = [rdO b (r.refuse n e)]) := by
  refine FnC.intro Tryz.func84 rfl Tryz.ntmps84 rfl fun Z w0 hG => ?_
  by_cases h : r.code = 0
  · focus (
 (refine W.seq (W.region (Jx.move rfl rfl (Jx.nilCheck rfl rfl ?_))))
 (refine Jx.fieldAddr rfl rfl ?_)
 (refine Jx.load rfl 0 rfl rfl rfl ?_)
 (refine Jx.eqlI rfl rfl rfl (J.nil (N.seq (W.cT rfl ?_))))
 (refine W.region (Jx.move rfl rfl (Jx.move rfl rfl (Jx.move rfl rfl (Jx.move rfl rfl (Jx.nilCheck rfl rfl ?_))))))
 (refine Jx.fieldAddr rfl rfl ?_)
 (refine J.store rfl rfl (by first | exact One.val rfl | exact One.sl | exact One.pp | exact One.slc) 0 rfl rfl rfl rfl ?_)
 (refine Jx.nilCheck rfl rfl ?_)
 (refine Jx.fieldAddr rfl rfl ?_)
 (refine J.store rfl rfl (by first | exact One.val rfl | exact One.sl | exact One.pp | exact One.slc) 0 rfl rfl rfl rfl ?_)
 (refine J.nil ?_)
 (refine id ?_; rotate_left))
    refine N.fin (rs := []) rfl .nil ?_
    simp [Rdr.refuse, h]
  · focus (
 (refine W.seq (W.region (Jx.move rfl rfl (Jx.nilCheck rfl rfl ?_))))
 (refine Jx.fieldAddr rfl rfl ?_)
 (refine Jx.load rfl 0 rfl rfl rfl ?_)
 (refine Jx.eqlI rfl rfl rfl (J.nil (N.seq (W.cF rfl ?_))))
 (refine W.skip ?_)
 (refine id ?_; rotate_left))
    refine N.fin (rs := []) rfl .nil ?_
    simp [Rdr.refuse, h]
theorem take_no (b : Nat) (r : Rdr) (n : Nat) (h : r.ok) (hn : r.s.length < r.at_ + n) : FnC Tryz.prog 102 [ptr b, int (n : Int)] [rdO b r] (fun s L => s = .tup [str [], bool false] ∧ L = [rdO b r]) := by
  have h1 := h.le; have h2 := h.mx
  refine FnC.intro Tryz.func102 rfl Tryz.ntmps102 rfl fun Z w0 hG => ?_
  focus (
 (refine W.seq (W.region (Jx.assign rfl rfl (Jx.assign rfl rfl (J.nil (N.seq (W.seq (W.seq ?_))))))))
 (refine W.draw follows ?_)
 (refine JD.calm rfl (by decide +kernel) ?_)
 (refine Cx.move rfl rfl ?_)
 (refine Cx.move rfl rfl ?_)
 (refine Cx.nilCheck rfl rfl ?_)
 (refine Cx.fieldAddr rfl rfl ?_)
 (refine Cx.load rfl 0 rfl rfl rfl ?_)
 (refine Cx.lenS rfl rfl ?_)
 (refine Cx.move rfl rfl ?_)
 (refine Cx.nilCheck rfl rfl ?_)
 (refine Cx.fieldAddr rfl rfl ?_)
 (refine Cx.load rfl 0 rfl rfl rfl ?_)
 (refine Cx.sub64 rfl rfl (by omega) rfl ?_)
 (refine Cx.gtrI rfl rfl rfl ?_)
 (refine SegC.nil ?_)
 (refine N.seq (W.cT rfl ?_))
 (refine W.seq (W.region (Jx.assign rfl rfl (Jx.assign rfl rfl (J.nil (N.seq (W.ret (N.seqRet ?_))))))))
 (refine id ?_; rotate_left))
  exact N.ret (rs := [.tmp 4, .tmp 5]) rfl (.tmp rfl (.tmp rfl .nil)) ⟨rfl, rfl⟩
theorem take_yes (b : Nat) (r : Rdr) (n : Nat) (h : r.ok) (hn : r.at_ + n ≤ r.s.length) : FnC Tryz.prog 102 [ptr b, int (n : Int)] [rdO b r] (fun s L => s = .tup [str ((r.s.drop r.at_).take n), bool true] ∧ L = [rdO b { r with at_ := r.at_ + n }]) := by
  have h1 := h.le; have h2 := h.mx
  have e : (r.s.take (((r.at_ : Int) + (n : Int))).toNat).drop ((r.at_ : Int)).toNat = (r.s.drop r.at_).take n := by
    rw [show ((r.at_ : Int) + (n : Int)).toNat = r.at_ + n by omega, Int.toNat_natCast, List.drop_take]; congr 1; omega
  refine FnC.intro Tryz.func102 rfl Tryz.ntmps102 rfl fun Z w0 hG => ?_
  focus (
 (refine W.seq (W.region (Jx.assign rfl rfl (Jx.assign rfl rfl (J.nil (N.seq (W.seq (W.seq ?_))))))))
 (refine W.draw follows ?_)
 (refine JD.calm rfl (by decide +kernel) ?_)
 (refine Cx.move rfl rfl ?_)
 (refine Cx.move rfl rfl ?_)
 (refine Cx.nilCheck rfl rfl ?_)
 (refine Cx.fieldAddr rfl rfl ?_)
 (refine Cx.load rfl 0 rfl rfl rfl ?_)
 (refine Cx.lenS rfl rfl ?_)
 (refine Cx.move rfl rfl ?_)
 (refine Cx.nilCheck rfl rfl ?_)
 (refine Cx.fieldAddr rfl rfl ?_)
 (refine Cx.load rfl 0 rfl rfl rfl ?_)
 (refine Cx.sub64 rfl rfl (by omega) rfl ?_)
 (refine Cx.gtrI rfl rfl rfl ?_)
 (refine SegC.nil ?_)
 (refine N.seq (W.cF rfl ?_))
 (refine W.skip (N.seq (W.seq ?_)))
 (refine W.draw follows ?_)
 (refine JD.calm rfl (by decide +kernel) ?_)
 (refine Cx.move rfl rfl ?_)
 (refine Cx.nilCheck rfl rfl ?_)
 (refine Cx.fieldAddr rfl rfl ?_)
 (refine Cx.load rfl 0 rfl rfl rfl ?_)
 (refine Cx.move rfl rfl ?_)
 (refine Cx.nilCheck rfl rfl ?_)
 (refine Cx.fieldAddr rfl rfl ?_)
 (refine Cx.load rfl 0 rfl rfl rfl ?_)
 (refine Cx.move rfl rfl ?_)
 (refine Cx.nilCheck rfl rfl ?_)
 (refine Cx.fieldAddr rfl rfl ?_)
 (refine Cx.load rfl 0 rfl rfl rfl ?_)
 (refine Cx.move rfl rfl ?_)
 (refine Cx.add64 rfl rfl (by omega) rfl ?_)
 (refine Cx.sliceSlh rfl rfl rfl (by omega) (by omega) (by omega) rfl ?_)
 (refine Cx.assign rfl rfl ?_)
 (refine SegC.nil ?_)
 (refine N.seq (W.seq (W.region (Jx.move rfl rfl (Jx.nilCheck rfl rfl ?_)))))
 (refine Jx.fieldAddr rfl rfl ?_)
 (refine Jx.load rfl 0 rfl rfl rfl ?_)
 (refine Jx.move rfl rfl (Jx.add64 rfl rfl (by omega) rfl ?_))
 (refine Jx.nilCheck rfl rfl ?_)
 (refine Jx.fieldAddr rfl rfl ?_)
 (refine J.store rfl rfl (by first | exact One.val rfl | exact One.sl | exact One.pp | exact One.slc) 0 rfl rfl rfl rfl ?_)
 (refine J.nil (N.seq (W.seq (W.region (Jx.move rfl rfl (Jx.assign rfl rfl (Jx.assign rfl rfl (J.nil (N.seq (W.ret ?_))))))))))
 (refine id ?_; rotate_left))
  exact N.ret (rs := [.tmp 4, .tmp 5]) rfl (.tmp rfl (.tmp rfl .nil)) ⟨by rw [e]; rfl, rfl⟩
def valB (l : List UInt8) : Nat := l.foldl (fun n b => n * 256 + b.toNat) 0
theorem valB_snoc (l : List UInt8) (b : UInt8) : valB (l ++ [b]) = valB l * 256 + b.toNat := by simp [valB]
theorem valB_lt : ∀ (k : Nat) (l : List UInt8), l.length = k → valB l < 256 ^ k
  | 0, l, h => by rw [List.eq_nil_of_length_eq_zero h]; simp [valB]
  | k + 1, l, h => by
    obtain ⟨m, b, rfl⟩ : ∃ m b, l = m ++ [b] := ⟨l.dropLast, l.getLast (by intro e; subst e; simp at h), (List.dropLast_concat_getLast _).symm⟩
    rw [valB_snoc, Nat.pow_succ]
    have := valB_lt k m (by simpa using h)
    have hb := b.toNat_lt
    omega
theorem valB_cons : ∀ (k : Nat) (b : UInt8) (l : List UInt8), l.length = k → valB (b :: l) = b.toNat * 256 ^ k + valB l
  | 0, b, l, h => by rw [List.eq_nil_of_length_eq_zero h]; simp [valB]
  | k + 1, b, l, h => by
    obtain ⟨m, c, rfl⟩ : ∃ m c, l = m ++ [c] := ⟨l.dropLast, l.getLast (by intro e; subst e; simp at h), (List.dropLast_concat_getLast _).symm⟩
    rw [← List.cons_append, valB_snoc, valB_snoc, valB_cons k b m (by simpa using h), Nat.pow_succ]
    rw [Nat.add_mul, Nat.mul_assoc]; omega
theorem valB_take (l : List UInt8) (i : Nat) (h : i < l.length) : valB (l.take (i + 1)) = valB (l.take i) * 256 + (l.getD i 0).toNat := by
  rw [List.take_add_one, List.getElem?_eq_getElem h, List.getD_eq_getElem?_getD, List.getElem?_eq_getElem h]
  exact valB_snoc _ _
theorem valB_mono (l : List UInt8) : ∀ (j i : Nat), i + j = l.length → valB (l.take i) ≤ valB l
  | 0, i, h => by rw [List.take_of_length_le (by omega)]; exact Nat.le_refl _
  | j + 1, i, h => by
    have := valB_mono l j (i + 1) (by omega)
    rw [valB_take l i (by omega)] at this
    omega
def readN : List UInt8 → Nat × Nat × Int
  | [] => (0, 0, 20)
  | h :: t =>
    if 8 < h.toNat then (0, 0, 3) else if t.length < h.toNat then (0, 0, 20) else
    if (0 < h.toNat ∧ (t.getD 0 0).toNat = 0) ∨ (h.toNat = 8 ∧ 128 ≤ (t.getD 0 0).toNat) then (0, 0, 3) else (valB (t.take h.toNat), 1 + h.toNat, 0)
theorem getD_take0 (t : List UInt8) (n : Nat) (h : 0 < n) : (t.take n).getD 0 0 = t.getD 0 0 := by
  simp [List.getD_eq_getElem?_getD, List.getElem?_take, h]
theorem val_bound (t : List UInt8) (n : Nat) (h8 : n ≤ 8) (hl : n ≤ t.length) (h : ¬ (n = 8 ∧ 128 ≤ (t.getD 0 0).toNat)) : valB (t.take n) < 9223372036854775808 := by
  have hlen : (t.take n).length = n := by rw [List.length_take]; omega
  by_cases h7 : n ≤ 7
  · have := valB_lt n (t.take n) hlen
    have : 256 ^ n ≤ 256 ^ 7 := Nat.pow_le_pow_right (by omega) h7
    omega
  · obtain rfl : n = 8 := by omega
    match ht : t with
    | [] => simp at hl
    | x :: r =>
      simp only [List.take_succ_cons] at hlen ⊢
      rw [valB_cons 7 x (r.take 7) (by simpa using hlen)]
      have h1 := valB_lt 7 (r.take 7) (by simpa using hlen)
      simp only [List.getD_cons_zero, true_and] at h
      omega
end Go.Proofs.YtlfdhkahiaammaaGreatDoor
