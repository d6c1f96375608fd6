/-
  Lemmas for the claim, part 2.
-/
import Derived.Test.YtbdkenlkimiddaaDoorJournalPlaysPa
namespace Go.Sse
open Go Go.Sse
set_option linter.unusedVariables false
set_option linter.unusedSimpArgs false
section
variable {P : Program} {Γ : Ctx} {ops : Array Oper} {Q : Exit → Act → World → Prop} {F G : List (Nat × SV)} {L : List Own}
def depsOf (o : Oper) : List Nat := (o.after.toList.filter (Region.binds .any)).map (·.on)
def okIdx (ops : Array Oper) (S idx : List Nat) : Bool :=
  idx.all fun b => match ops[b]? with
    | none => false
    | some o => o.dst.isSome && ((depsOf o).all fun e => Nat.blt e b && (S.contains e || idx.contains e)) &&
      (idx.all fun q => match dstAt ops q with
        | none => false
        | some t => (Nat.beq q b && !(rd ops o).contains t) || (!Nat.beq q b && !(dstAt ops b == some t) && (!(rd ops o).contains t || (depsOf o).contains q)))
def okStep (ops : Array Oper) (S idx : List Nat) (i : Nat) (ks S' idx' : List Nat) : Bool :=
  match ops[i]? with
  | none => false
  | some o => !S.contains i && !idx.contains i && o.guard.isNone && ((depsOf o).all fun e => Nat.blt e ops.size && (S.contains e || idx.contains e)) &&
    ((List.range ops.size).all fun j => S.contains j || idx.contains j || Nat.beq j i || (match ops[j]? with | none => false | some oj => (depsOf oj).any fun e => !S.contains e && !idx.contains e)) &&
    (o.op.operands.toList.all fun x => match x with | .tmp t => ks.contains t | _ => true) &&
    (idx'.all fun b => idx.contains b && (match dstAt ops b with | none => false | some t => !ks.contains t && !(o.dst == some t)) && (match ops[b]? with | none => false | some ob => match o.dst with | none => true | some t => !(rd ops ob).contains t)) &&
    (idx.all fun c => idx'.contains c || (S'.contains c && ((Region.before ops).getD i 0).testBit c)) &&
    (S.all fun s => S'.contains s) && S'.contains i && (S'.all fun s => S.contains s || Nat.beq s i || (idx.contains s && !idx'.contains s))
structure PSt (Γ : Ctx) (ops : Array Oper) (S idx : List Nat) (G : List (Nat × SV)) (L : List Own) (listed : Array Bool) (a : Act) (w : World) : Prop where
  sz : listed.size = ops.size
  lo : ∀ i, i < ops.size → i ∈ S → listed.getD i false = true
  hi : ∀ i, listed.getD i false = true → i ∈ S ∨ i ∈ idx
  cl : Closed ops (fun i => listed.getD i false)
  ws : WSt Γ L w
  nt : a.tmps.size = Γ.nt
  df : a.defers = Γ.df
  fr : ∀ x s, look G x = some s → (∀ b ∈ idx, listed.getD b false = false → dstAt ops b ≠ some x) → Rel (ZL Γ.Z L) w s (a.tmps.getD x undef)
def unl (ops : Array Oper) (listed : Array Bool) : Nat := ((List.range ops.size).filter fun i => !listed.getD i true).length
structure JP (P : Program) (Γ : Ctx) (ops : Array Oper) (Q : Exit → Act → World → Prop) (S idx : List Nat) (G : List (Nat × SV)) (L : List Own) : Prop where
  go : ∀ k listed a w, PSt Γ ops S idx G L listed a w → unl ops listed = k → wpAny P .any ops Q k listed a w
def Ag (G : List (Nat × SV)) : Nat → List (Nat × SV) → Prop
  | 0, _ => True
  | _ + 1, [] => False
  | n + 1, p :: r => look G p.1 = some p.2 ∧ Ag G n r
theorem Ag.nil {R : List (Nat × SV)} : Ag G 0 R := trivial
theorem Ag.cons {n d : Nat} {s : SV} {r : List (Nat × SV)} (h : look G d = some s) (hr : Ag G n r) : Ag G (n + 1) ((d, s) :: r) := ⟨h, hr⟩
theorem pushAll_eq : ∀ (items F : List (Nat × SV)), pushAll F items = items.reverse ++ F
  | [], F => rfl
  | p :: r, F => by simp [pushAll, pushAll_eq r]
theorem Ag.mem : ∀ {n : Nat} {R T : List (Nat × SV)}, R.length = n → Ag G n (R ++ T) → ∀ p ∈ R, look G p.1 = some p.2
  | _, [], _, _, _, p, hp => by simp at hp
  | n, q :: R, T, hn, h, p, hp => by
    subst hn
    simp only [List.length_cons, List.cons_append] at h
    rcases List.mem_cons.1 hp with rfl | hp
    · exact h.1
    · exact Ag.mem rfl h.2 p hp
theorem SegL.at : ∀ {l : List Oper} {items F : List (Nat × SV)}, SegL P Γ ops L F l items → items.length = l.length ∧ ∀ j o, l[j]? = some o → ∃ p, items[j]? = some p ∧ o.dst = some p.1 ∧ Nat.blt p.1 Γ.nt = true ∧ Item P Γ ops (pushAll F (items.take j)) L o p.2
  | _, _, _, .nil => ⟨rfl, by simp⟩
  | _, _, _, .cons hd hlt hi hr => by
    obtain ⟨h1, h2⟩ := hr.at
    refine ⟨by simp [h1], fun j o ho => ?_⟩
    cases j with
    | zero => simp at ho; subst ho; exact ⟨_, rfl, hd, hlt, hi⟩
    | succ j =>
      obtain ⟨p, hp, e1, e2, e3⟩ := h2 j o (by simpa using ho)
      exact ⟨p, by simpa using hp, e1, e2, by simpa [pushAll] using e3⟩
theorem getD_tf {l : Array Bool} {i : Nat} (h : i < l.size) : l.getD i true = l.getD i false := by
  simp [Array.getD_eq_getD_getElem?, Array.getElem?_eq_getElem h]
theorem getD_setB (l : Array Bool) (i : Nat) (hi : i < l.size) (d : Bool) (j : Nat) : (l.setIfInBounds i true).getD j d = if j = i then true else l.getD j d := by
  simp only [Array.getD_eq_getD_getElem?, Array.getElem?_setIfInBounds]
  by_cases hji : i = j
  · subst hji; simp [hi]
  · have : ¬ j = i := fun e => hji e.symm
    simp [hji, this]
theorem ready_iff {listed : Array Bool} (i : Nat) : i ∈ Region.ready .any ops listed ↔ i < ops.size ∧ listed.getD i true = false ∧ ∃ o, ops[i]? = some o ∧ ∀ e ∈ depsOf o, listed.getD e false = true := by
  unfold Region.ready
  simp only [List.mem_filter, List.mem_range, Bool.and_eq_true, Bool.not_eq_true']
  constructor
  · rintro ⟨h1, h2, h3⟩
    refine ⟨h1, h2, ?_⟩
    cases ho : ops[i]? with
    | none => simp [ho] at h3
    | some o =>
      simp only [ho, Option.map_some, Option.getD_some] at h3
      refine ⟨o, rfl, fun e he => ?_⟩
      obtain ⟨ed, hed, rfl⟩ := List.mem_map.1 he
      rw [List.mem_filter] at hed
      have := (Array.all_eq_true_iff_forall_mem.1 h3) ed (Array.mem_toList_iff.1 hed.1)
      simpa [hed.2] using this
  · rintro ⟨h1, h2, o, ho, h3⟩
    refine ⟨h1, h2, ?_⟩
    simp only [ho, Option.map_some, Option.getD_some]
    refine Array.all_eq_true_iff_forall_mem.2 fun e he => ?_
    cases hb : Region.binds .any e with
    | false => simp
    | true => simpa using h3 e.on (List.mem_map.2 ⟨e, List.mem_filter.2 ⟨Array.mem_toList_iff.2 he, hb⟩, rfl⟩)
theorem unl_set {listed : Array Bool} {i k : Nat} (hsz : listed.size = ops.size) (hi : i < ops.size) (hf : listed.getD i true = false) (hk : unl ops listed = k) : ∃ k', k = k' + 1 ∧ unl ops (listed.setIfInBounds i true) = k' := by
  unfold unl at *
  have hmem : i ∈ (List.range ops.size).filter fun i => !listed.getD i true := by
    rw [List.mem_filter, List.mem_range]; exact ⟨hi, by simp [hf]⟩
  have hnd : ((List.range ops.size).filter fun i => !listed.getD i true).Nodup := List.Sublist.nodup List.filter_sublist List.nodup_range
  have hfe2 : ((List.range ops.size).filter fun j => !(listed.setIfInBounds i true).getD j true) = ((List.range ops.size).filter fun i => !listed.getD i true).erase i := by
    rw [hnd.erase_eq_filter, List.filter_filter]
    refine List.filter_congr fun j _ => ?_
    rw [getD_setB _ _ (by omega)]
    by_cases hji : j = i
    · subst hji; simp
    · simp [hji]
  have hpos := List.length_pos_of_mem hmem
  refine ⟨k - 1, by omega, ?_⟩
  rw [hfe2, List.length_erase_of_mem hmem, hk]
theorem Closed.set {listed : Array Bool} {i : Nat} (h : Closed ops (fun i => listed.getD i false)) (hi : i < listed.size) {o : Oper} (ho : ops[i]? = some o) (hd : ∀ e ∈ depsOf o, listed.getD e false = true) : Closed ops (fun j => (listed.setIfInBounds i true).getD j false) := by
  intro j oj hoj hS e hem hbe
  simp only [getD_setB _ _ hi] at hS ⊢
  split
  · rfl
  · by_cases hji : j = i
    · subst hji
      rw [ho] at hoj; cases hoj
      exact hd e.on (List.mem_map.2 ⟨e, List.mem_filter.2 ⟨Array.mem_toList_iff.2 hem, hbe⟩, rfl⟩)
    · rw [if_neg hji] at hS
      exact h j oj hoj hS e hem hbe
theorem jp_run {S idx : List Nat} {lp : List Oper} (hok : okIdx ops S idx = true) (hlp : idx.map (ops[·]?) = lp.map some) (hre : SegC P Γ ops L G lp (Ag G lp.length))
    (hother : ∀ j k listed a w, PSt Γ ops S idx G L listed a w → unl ops listed = k + 1 → j ∈ Region.ready .any ops listed → j ∉ idx → wpOp P ops Q j (wpAny P .any ops Q k (listed.setIfInBounds j true)) a w)
    (hall : ∀ k listed a w, PSt Γ ops S idx G L listed a w → unl ops listed = k → (∀ b ∈ idx, listed.getD b false = true) → wpAny P .any ops Q k listed a w) : JP P Γ ops Q S idx G L := by
  obtain ⟨items, hseg, hag⟩ := hre
  obtain ⟨hlen, hat⟩ := hseg.at
  rw [pushAll_eq] at hag
  have hag' : ∀ p ∈ items, look G p.1 = some p.2 := fun p hp => Ag.mem (by simp [hlen]) hag p (by simpa using hp)
  have hokb := List.all_eq_true.1 hok
  have hspec : ∀ b ∈ idx, ∃ o, ops[b]? = some o ∧ o.dst.isSome = true ∧ (∀ e ∈ depsOf o, e < b ∧ (e ∈ S ∨ e ∈ idx)) ∧ ∀ q ∈ idx, ∃ t, dstAt ops q = some t ∧ (q = b ∧ t ∉ rd ops o ∨ q ≠ b ∧ dstAt ops b ≠ some t ∧ (t ∈ rd ops o → q ∈ depsOf o)) := by
    intro b hb
    have h1 := hokb b hb
    cases ho : ops[b]? with
    | none => simp [ho] at h1
    | some o =>
      simp only [ho, Bool.and_eq_true, List.all_eq_true] at h1
      obtain ⟨⟨h2, h3⟩, h4⟩ := h1
      refine ⟨o, rfl, h2, fun e he => ?_, fun q hq => ?_⟩
      · have := h3 e he
        simp only [Bool.or_eq_true, List.contains_iff_mem] at this
        exact ⟨Nat.le_of_ble_eq_true this.1, this.2⟩
      · have := h4 q hq
        cases ht : dstAt ops q with
        | none => simp [ht] at this
        | some t =>
          refine ⟨t, rfl, ?_⟩
          simp only [ht, Bool.or_eq_true, Bool.and_eq_true, Bool.not_eq_true', Nat.beq_eq_true_eq, List.contains_iff_mem] at this
          rcases this with ⟨h5, h6⟩ | ⟨⟨h5, h6⟩, h7⟩
          · exact .inl ⟨by simpa using h5, by simpa using h6⟩
          · refine .inr ⟨by intro e; subst e; simp at h5, by intro e; rw [e] at h6; simp at h6, fun hm => ?_⟩
            rcases h7 with h7 | h7
            · exact absurd hm (by simpa using h7)
            · exact h7
  have hpos : ∀ b ∈ idx, ∃ j, idx[j]? = some b := fun b hb => List.mem_iff_getElem?.1 hb
  refine ⟨fun k => ?_⟩
  induction k with
  | zero =>
    intro listed a w hp hk
    refine hall 0 listed a w hp hk fun b hb => ?_
    obtain ⟨o, ho, _⟩ := hspec b hb
    have hbs : b < ops.size := (Array.getElem?_eq_some_iff.1 ho).1
    cases hq : listed.getD b false with
    | true => rfl
    | false =>
      obtain ⟨k', h, _⟩ := unl_set hp.sz hbs (by rw [getD_tf (by rw [hp.sz]; exact hbs)]; exact hq) hk
      omega
  | succ k ih =>
    intro listed a w hp hk
    by_cases hal : ∀ b ∈ idx, listed.getD b false = true
    · exact hall _ listed a w hp hk hal
    have hex : ∃ b ∈ idx, listed.getD b false = false := by
      refine Classical.byContradiction fun hn => hal fun b hb => ?_
      cases hq : listed.getD b false with
      | true => rfl
      | false => exact absurd ⟨b, hb, hq⟩ hn
    constructor
    · intro hnil
      exfalso
      have : ∃ b ∈ idx, listed.getD b false = false ∧ ∀ c ∈ idx, c < b → listed.getD c false = true := by
        obtain ⟨b, hb⟩ := hex
        induction b using Nat.strongRecOn with
        | _ b ih2 =>
          by_cases hl : ∃ c ∈ idx, c < b ∧ listed.getD c false = false
          · obtain ⟨c, hc, hcb, hcf⟩ := hl
            exact ih2 c hcb ⟨hc, hcf⟩
          · refine ⟨b, hb.1, hb.2, fun c hc hcb => ?_⟩
            cases hq : listed.getD c false with
            | true => rfl
            | false => exact absurd ⟨c, hc, hcb, hq⟩ hl
      obtain ⟨b, hb, hbf, hmin⟩ := this
      obtain ⟨o, ho, _, hde, _⟩ := hspec b hb
      have hbs : b < ops.size := (Array.getElem?_eq_some_iff.1 ho).1
      have : b ∈ Region.ready .any ops listed := (ready_iff b).2 ⟨hbs, by rw [getD_tf (by rw [hp.sz]; exact hbs)]; exact hbf, o, ho, fun e he => by
        obtain ⟨h1, h2⟩ := hde e he
        rcases h2 with h2 | h2
        · exact hp.lo e (by omega) h2
        · exact hmin e h2 h1⟩
      rw [hnil] at this
      simp at this
    · intro b hb
      by_cases hbi : b ∈ idx
      · obtain ⟨hbs, hbf, o, ho, hed⟩ := (ready_iff b).1 hb
        obtain ⟨o', ho', hdst, hde, hrds⟩ := hspec b hbi
        rw [ho] at ho'; cases ho'
        obtain ⟨j, hj⟩ := hpos b hbi
        have hlj : lp[j]? = some o := by
          have := congrArg (·[j]?) hlp
          simp only [List.getElem?_map, hj, Option.map_some, ho] at this
          cases hq : lp[j]? with
          | none => rw [hq] at this; simp at this
          | some x => rw [hq] at this; simp at this; rw [this]
        obtain ⟨p, hpj, hd, hlt, hitm⟩ := hat j o hlj
        have hdb : dstAt ops b = some p.1 := by simp [dstAt, ho, hd]
        have hGp := hag' p (List.mem_of_getElem? hpj)
        have hpd : p.1 < a.tmps.size := by rw [hp.nt]; exact Nat.le_of_ble_eq_true hlt
        have hslot : ∀ t s, t ∈ rd ops o → look (pushAll G (items.take j)) t = some s → Rel (ZL Γ.Z L) w s (a.tmps.getD t undef) := by
          intro t s ht hl
          have hlG : look G t = some s := by
            rcases look_pushAll _ G t s hl with ⟨j', q, hq, rfl, rfl, _⟩ | ⟨_, h3⟩
            · rw [List.getElem?_take] at hq
              split at hq
              · exact hag' q (List.mem_of_getElem? hq)
              · simp at hq
            · exact h3
          refine hp.fr t s hlG fun q hq hqf hqt => ?_
          obtain ⟨t', ht', h4⟩ := hrds q hq
          rw [hqt] at ht'; cases ht'
          rcases h4 with ⟨_, h4⟩ | ⟨_, _, h4⟩
          · exact h4 ht
          · have := hed q (h4 ht); rw [hqf] at this; cases this
        have hops : ∀ x, x ∈ o.op.operands.toList → ∀ s, ev (pushAll G (items.take j)) x = some s → Rel (ZL Γ.Z L) w s (a.eval x) := by
          intro x hx s hs
          cases x with
          | tmp t => exact hslot t s (by unfold rd; exact List.mem_append_left _ (List.mem_filterMap.2 ⟨.tmp t, hx, rfl⟩)) hs
          | const v => simp only [ev, Option.some.injEq] at hs; subst hs; exact .val v
          | global g => simp only [ev, Option.some.injEq] at hs; subst hs; exact .val _
          | func f => simp only [ev, Option.some.injEq] at hs; subst hs; exact .val _
        have hls : b < listed.size := by rw [hp.sz]; exact hbs
        have next : ∀ v w', Step Γ L L w w' → Rel (ZL Γ.Z L) w' p.2 v → wpAny P .any ops Q k (listed.setIfInBounds b true) (a.put o.dst v) w' := by
          intro v w' hs hrel
          obtain ⟨k', e1, e2⟩ := unl_set hp.sz hbs hbf hk
          obtain rfl : k = k' := by omega
          refine ih _ _ _ ⟨by simpa using hp.sz, fun i hi hiS => ?_, fun i hi => ?_, hp.cl.set hls ho hed, hs.ws, ?_, ?_, fun x s hx hno => ?_⟩ e2
          · rw [getD_setB _ _ hls]; split
            · rfl
            · exact hp.lo i hi hiS
          · rw [getD_setB _ _ hls] at hi
            split at hi
            · rename_i e; subst e; exact .inr hbi
            · exact hp.hi i hi
          · rw [hd]; simpa [Act.put] using hp.nt
          · rw [hd]; exact hp.df
          · rw [hd]
            show Rel _ _ _ ((a.tmps.setIfInBounds p.1 v).getD x undef)
            rw [getD_set _ _ _ _ hpd]
            by_cases hxp : x = p.1
            · subst hxp
              rw [hGp] at hx; cases hx
              simpa using hrel
            · rw [if_neg hxp]
              refine hs.rel (hp.fr x s hx fun q hq hqf hqt => ?_)
              by_cases hqb : q = b
              · subst hqb; rw [hdb] at hqt; cases hqt; exact hxp rfl
              · exact hno q hq (by rw [getD_setB _ _ hls, if_neg hqb]; exact hqf) hqt
        unfold wpOp
        simp only [ho]
        have hgslot : ∀ {j' d : Nat} {want b' : Bool} {og : Oper}, o.guard = some (j', want) → ops[j']? = some og → og.dst = some d → look (pushAll G (items.take j)) d = some (.val (.bool b')) → a.tmps.getD d undef = .bool b' := by
          intro j' d want b' og hg hoj hdj hv
          refine (hslot d _ ?_ hv).val_eq
          unfold rd
          refine List.mem_append_right _ ?_
          simp [hg, hoj, hdj]
        have hgslotU : ∀ {j' d : Nat} {want : Bool} {og : Oper}, o.guard = some (j', want) → ops[j']? = some og → og.dst = some d → look (pushAll G (items.take j)) d = some (.val undef) → a.tmps.getD d undef = undef := by
          intro j' d want og hg hoj hdj hv
          refine (hslot d _ ?_ hv).val_eq
          unfold rd
          refine List.mem_append_right _ ?_
          simp [hg, hoj, hdj]
        cases hitm with
        | run hg hq =>
          rw [if_pos (by simp [Region.wanted, hg])]
          exact .inl (hq a w _ Q hp.ws hops next)
        | yes hg hoj hdj hv hb hq =>
          rw [if_pos (by rw [wanted_guard hg hoj hdj (hgslot hg hoj hdj hv)]; subst hb; simp)]
          exact .inl (hq a w _ Q hp.ws hops next)
        | no hg hoj hdj hv hb hsv =>
          rw [if_neg (by rw [wanted_guard hg hoj hdj (hgslot hg hoj hdj hv)]; subst hb; simp)]
          exact next undef w (Step.refl hp.ws) (by rcases hsv with h | h <;> rw [h] <;> first | exact .any _ | exact .val _)
        | skip hg hoj hdj hv hsv =>
          rw [if_neg (by rw [wanted_undef hg hoj hdj (hgslotU hg hoj hdj hv)]; simp)]
          exact next undef w (Step.refl hp.ws) (by rcases hsv with h | h <;> rw [h] <;> first | exact .any _ | exact .val _)
      · exact hother b k listed a w hp hk hb hbi
theorem JD.start (h : JP P Γ ops Q [] [] F L) : JD P Γ ops Q 0 F L := by
  refine ⟨fun a w listed hup hst => h.go _ listed a w ⟨hup.1, by simp, fun i hi => ?_, fun i o ho hS => ?_, hst.ws, hst.nt, hst.df, fun x s hx _ => hst.fr x s hx⟩ ?_⟩
  · exfalso
    by_cases his : i < ops.size
    · rw [← getD_tf (by rw [hup.1]; exact his), hup.2 i his] at hi; simp at hi
    · rw [Array.getD_eq_getD_getElem?, Array.getElem?_eq_none (by rw [hup.1]; omega)] at hi; simp at hi
  · exfalso
    have his : i < ops.size := (Array.getElem?_eq_some_iff.1 ho).1
    simp only at hS
    rw [← getD_tf (by rw [hup.1]; exact his), hup.2 i his] at hS; simp at hS
  · unfold unl
    rw [List.filter_eq_self.2]
    · simp
    · intro i hi
      rw [hup.2 i (List.mem_range.1 hi)]; simp
theorem JD.begin (n : Nat) (hn : Nat.beq ops.size n = true) (h : JP P Γ ops Q [] [] F L) : JD P Γ ops Q 0 F L := JD.start h
theorem JP.add {S idx : List Nat} {lnew : List Oper} (new : List Nat) (idx' : List Nat) (hi : idx ++ new = idx') (hc : (new.all fun b => !S.contains b && !idx.contains b) = true) (hl : new.map (ops[·]?) = lnew.map some)
    (h : SegC P Γ ops L G lnew (fun G' => JP P Γ ops Q S idx' G' L)) : JP P Γ ops Q S idx G L := by
  subst hi
  obtain ⟨items, hseg, hj⟩ := h
  obtain ⟨hlen, hat⟩ := hseg.at
  refine ⟨fun k listed a w hp hk => hj.go k listed a w ⟨hp.sz, hp.lo, fun i hi => (hp.hi i hi).imp id (fun h => List.mem_append_left _ h), hp.cl, hp.ws, hp.nt, hp.df, fun x s hx hno => ?_⟩ hk⟩
  rcases look_pushAll items G x s hx with ⟨j, q, hq, rfl, rfl, _⟩ | ⟨h2, h3⟩
  · exfalso
    have hjl : j < items.length := by
      rcases Nat.lt_or_ge j items.length with h | h
      · exact h
      · simp [List.getElem?_eq_none h] at hq
    have hjn : j < lnew.length := by omega
    obtain ⟨p, hp', hd, _⟩ := hat j _ (List.getElem?_eq_getElem hjn)
    rw [hq] at hp'; cases hp'
    have hb := congrArg (·[j]?) hl
    simp only [List.getElem?_map, List.getElem?_eq_getElem hjn, Option.map_some] at hb
    cases hnj : new[j]? with
    | none => rw [hnj] at hb; simp at hb
    | some b =>
      rw [hnj] at hb
      simp only [Option.map_some, Option.some.injEq] at hb
      have hbm := List.mem_of_getElem? hnj
      have := List.all_eq_true.1 hc b hbm
      simp only [Bool.and_eq_true, Bool.not_eq_true'] at this
      refine hno b (List.mem_append_right _ hbm) ?_ (by simp [dstAt, hb, hd])
      cases hqq : listed.getD b false with
      | false => rfl
      | true =>
        rcases hp.hi b hqq with h | h
        · simp [h] at this
        · simp [h] at this
  · exact hp.fr x s h3 fun b hb hbf => hno b (List.mem_append_left _ hb) hbf
def keep (ks : List Nat) (G : List (Nat × SV)) : List (Nat × SV) := G.filter fun p => ks.contains p.1
theorem look_keep {ks : List Nat} : ∀ {G : List (Nat × SV)} {x : Nat} {s : SV}, look (keep ks G) x = some s → x ∈ ks ∧ look G x = some s
  | [], x, s, h => by simp [keep, look] at h
  | p :: r, x, s, h => by
    unfold keep at h
    rw [List.filter_cons] at h
    by_cases hk : ks.contains p.1 = true
    · rw [if_pos hk] at h
      simp only [look] at h ⊢
      cases hb : Nat.beq p.1 x with
      | true =>
        rw [hb] at h
        have := Nat.eq_of_beq_eq_true hb
        subst this
        exact ⟨by simpa using hk, h⟩
      | false => rw [hb] at h; exact look_keep h
    · rw [if_neg hk] at h
      obtain ⟨h1, h2⟩ := look_keep (G := r) h
      refine ⟨h1, ?_⟩
      simp only [look]
      cases hb : Nat.beq p.1 x with
      | true =>
        have := Nat.eq_of_beq_eq_true hb
        subst this
        exact absurd (by simpa using h1) hk
      | false => exact h2
theorem JP.op {S idx : List Nat} {lp : List Oper} {o : Oper} {R : SV → List Own → Prop} (i : Nat) (ks S' idx' : List Nat) (hc : (okIdx ops S idx && okStep ops S idx i ks S' idx') = true) (hlp : idx.map (ops[·]?) = lp.map some) (hoi : ops[i]? = some o)
    (hre : SegC P Γ ops L G lp (Ag G lp.length)) (hop : OpS P Γ o (keep ks G) L R) (hlt : ∀ d, o.dst = some d → Nat.blt d Γ.nt = true)
    (h : ∀ sv L', R sv L' → JP P Γ ops Q S' idx' (match o.dst with | some d => (d, sv) :: G | none => G) L') : JP P Γ ops Q S idx G L := by
  rw [Bool.and_eq_true] at hc
  obtain ⟨hok, hst⟩ := hc
  unfold okStep at hst
  simp only [hoi, Bool.and_eq_true, Bool.not_eq_true', List.all_eq_true] at hst
  obtain ⟨⟨⟨⟨⟨⟨⟨⟨⟨⟨hiS, hii⟩, hg⟩, hdi⟩, honly⟩, hks⟩, hidx⟩, hforce⟩, hSS⟩, hiS'⟩, hS'⟩ := hst
  have his : i < ops.size := (Array.getElem?_eq_some_iff.1 hoi).1
  have hgn : o.guard = none := by simpa using hg
  have turn : ∀ k listed a w, PSt Γ ops S idx G L listed a w → unl ops listed = k + 1 → i ∈ Region.ready .any ops listed → wpOp P ops Q i (wpAny P .any ops Q k (listed.setIfInBounds i true)) a w := by
    intro k listed a w hp hk hir
    obtain ⟨_, hif, o', ho', hed⟩ := (ready_iff i).1 hir
    rw [hoi] at ho'; cases ho'
    have hls : i < listed.size := by rw [hp.sz]; exact his
    obtain ⟨k', e1, e2⟩ := unl_set hp.sz his hif hk
    obtain rfl : k = k' := by omega
    have hforced : ∀ c ∈ idx, c ∉ idx' → listed.getD c false = true := by
      intro c hc hn
      have := hforce c hc
      simp only [Bool.or_eq_true, Bool.and_eq_true, List.contains_iff_mem] at this
      rcases this with h1 | ⟨_, h1⟩
      · exact absurd h1 hn
      · exact before_done hp.cl i (fun o' ho' e he hb => by
          rw [hoi] at ho'; cases ho'
          exact hed e.on (List.mem_map.2 ⟨e, List.mem_filter.2 ⟨Array.mem_toList_iff.2 he, hb⟩, rfl⟩)) c h1
    have hidx' : ∀ b ∈ idx', b ∈ idx ∧ ∃ t ob, dstAt ops b = some t ∧ ops[b]? = some ob ∧ t ∉ ks ∧ o.dst ≠ some t ∧ ∀ d, o.dst = some d → d ∉ rd ops ob := by
      intro b hb
      have := hidx b hb
      rw [List.contains_iff_mem] at this
      obtain ⟨⟨h1, h2⟩, h3⟩ := this
      cases ht : dstAt ops b with
      | none => simp [ht] at h2
      | some t =>
        cases hob : ops[b]? with
        | none => simp [hob] at h3
        | some ob =>
          simp only [ht, hob, Bool.and_eq_true, Bool.not_eq_true'] at h2 h3
          refine ⟨h1, t, ob, rfl, rfl, by simpa using h2.1, fun e => by rw [e] at h2; simp at h2, fun d hd => by rw [hd] at h3; simpa using h3⟩
    have hstK : St Γ (keep ks G) L a w := by
      refine ⟨hp.ws, hp.nt, hp.df, fun x s hx => ?_⟩
      obtain ⟨h1, h2⟩ := look_keep hx
      refine hp.fr x s h2 fun b hb hbf hbx => ?_
      by_cases hbi : b ∈ idx'
      · obtain ⟨_, t, _, ht, _, h3, _⟩ := hidx' b hbi
        rw [hbx] at ht; cases ht
        exact h3 h1
      · rw [hforced b hb hbi] at hbf; cases hbf
    unfold wpOp
    simp only [hoi]
    rw [if_pos (by simp [Region.wanted, hgn])]
    refine .inl (hop a w _ Q hstK fun v w' sv L' hR hs hrel => ?_)
    refine (h sv L' hR).go k _ _ _ ⟨by simpa using hp.sz, fun j hj hjS => ?_, fun j hj => ?_, hp.cl.set hls hoi hed, hs.ws, ?_, ?_, fun x s hx hno => ?_⟩ e2
    · rw [getD_setB _ _ hls]
      split
      · rfl
      · have := hS' j (by simpa using hjS)
        simp only [Bool.or_eq_true, Bool.and_eq_true, List.contains_iff_mem, Nat.beq_eq_true_eq, Bool.not_eq_true'] at this
        rcases this with (h1 | h1) | h1
        · exact hp.lo j hj h1
        · rename_i hne; exact absurd (by simpa using h1) hne
        · exact hforced j h1.1 (by have := h1.2; simpa using this)
    · rw [getD_setB _ _ hls] at hj
      split at hj
      · rename_i e; subst e; exact .inl (by simpa using hiS')
      · rcases hp.hi j hj with h1 | h1
        · have := hSS j h1; exact .inl (by simpa using this)
        · by_cases hji : j ∈ idx'
          · exact .inr hji
          · have := hforce j h1
            simp only [Bool.or_eq_true, Bool.and_eq_true, List.contains_iff_mem] at this
            rcases this with h2 | h2
            · exact absurd h2 hji
            · exact .inl h2.1
    · cases hd : o.dst with
      | none => exact hp.nt
      | some d => simpa [Act.put] using hp.nt
    · cases hd : o.dst with
      | none => exact hp.df
      | some d => exact hp.df
    · have hold : ∀ x s, look G x = some s → o.dst ≠ some x → (∀ b ∈ idx', (listed.setIfInBounds i true).getD b false = false → dstAt ops b ≠ some x) → Rel (ZL Γ.Z L') w' s (a.tmps.getD x undef) := by
        intro x s hx hne hno
        refine hs.rel (hp.fr x s hx fun b hb hbf hbx => ?_)
        by_cases hbi : b ∈ idx'
        · refine hno b hbi ?_ hbx
          rw [getD_setB _ _ hls]
          split
          · rename_i e; subst e; simp [hb] at hii
          · exact hbf
        · rw [hforced b hb hbi] at hbf; cases hbf
      cases hd : o.dst with
      | none =>
        rw [hd] at hx
        exact hold x s hx (by simp [hd]) hno
      | some d =>
        rw [hd] at hx
        have hpd : d < a.tmps.size := by rw [hp.nt]; exact Nat.le_of_ble_eq_true (hlt d hd)
        show Rel _ _ _ ((a.tmps.setIfInBounds d v).getD x undef)
        rw [getD_set _ _ _ _ hpd]
        simp only [look] at hx
        cases hb : Nat.beq d x with
        | true =>
          rw [hb] at hx
          simp only [cond_true, Option.some.injEq] at hx
          subst hx
          have := Nat.eq_of_beq_eq_true hb
          subst this
          simpa using hrel
        | false =>
          rw [hb] at hx
          have hne : ¬ x = d := fun e => by subst e; simp at hb
          rw [if_neg hne]
          exact hold x s hx (by rw [hd]; intro e; cases e; exact hne rfl) hno
  refine jp_run hok hlp hre (fun j k listed a w hp hk hj hji => ?_) (fun k listed a w hp hk hal => ?_)
  · obtain ⟨hjs, hjf, oj, hoj, hed⟩ := (ready_iff j).1 hj
    have hjS : j ∉ S := fun hm => by
      have := hp.lo j hjs hm
      rw [← getD_tf (by rw [hp.sz]; exact hjs), hjf] at this; cases this
    by_cases hji' : j = i
    · subst hji'; exact turn k listed a w hp hk hj
    · exfalso
      have := honly j (List.mem_range.2 hjs)
      simp only [Bool.or_eq_true, List.contains_iff_mem, Nat.beq_eq_true_eq, hoj] at this
      rcases this with ((h1 | h1) | h1) | h1
      · exact hjS h1
      · exact hji h1
      · exact hji' (by simpa using h1)
      · obtain ⟨e, he, h2⟩ := List.any_eq_true.1 h1
        simp only [Bool.and_eq_true, Bool.not_eq_true'] at h2
        rcases hp.hi e (hed e he) with h3 | h3
        · simp [h3] at h2
        · simp [h3] at h2
  · have hiF : listed.getD i false = false := by
      cases hq : listed.getD i false with
      | false => rfl
      | true =>
        rcases hp.hi i hq with h1 | h1
        · simp [h1] at hiS
        · simp [h1] at hii
    have hir : i ∈ Region.ready .any ops listed := (ready_iff i).2 ⟨his, by rw [getD_tf (by rw [hp.sz]; exact his)]; exact hiF, o, hoi, fun e he => by
      have := hdi e he
      simp only [Bool.and_eq_true, Bool.or_eq_true, List.contains_iff_mem] at this
      rcases this.2 with h1 | h1
      · exact hp.lo e (Nat.le_of_ble_eq_true this.1) h1
      · exact hal e h1⟩
    obtain ⟨k', e1, _⟩ := unl_set hp.sz his (by rw [getD_tf (by rw [hp.sz]; exact his)]; exact hiF) hk
    subst e1
    refine ⟨fun hnil => by rw [hnil] at hir; simp at hir, fun j hj => ?_⟩
    obtain ⟨hjs, hjf, oj, hoj, hed⟩ := (ready_iff j).1 hj
    have hjS : j ∉ S := fun hm => by
      have := hp.lo j hjs hm
      rw [← getD_tf (by rw [hp.sz]; exact hjs), hjf] at this; cases this
    have hji : j ∉ idx := fun hm => by
      have := hal j hm
      rw [← getD_tf (by rw [hp.sz]; exact hjs), hjf] at this; cases this
    by_cases hji' : j = i
    · subst hji'; exact turn _ listed a w hp hk hj
    · exfalso
      have := honly j (List.mem_range.2 hjs)
      simp only [Bool.or_eq_true, List.contains_iff_mem, Nat.beq_eq_true_eq, hoj] at this
      rcases this with ((h1 | h1) | h1) | h1
      · exact hjS h1
      · exact hji h1
      · exact hji' (by simpa using h1)
      · obtain ⟨e, he, h2⟩ := List.any_eq_true.1 h1
        simp only [Bool.and_eq_true, Bool.not_eq_true'] at h2
        rcases hp.hi e (hed e he) with h3 | h3
        · simp [h3] at h2
        · simp [h3] at h2
def okClose (ops : Array Oper) (S idx : List Nat) (n : Nat) : Bool :=
  Nat.ble n ops.size && ((List.range n).all fun i => S.contains i || idx.contains i) && (S.all fun i => Nat.blt i n) && (idx.all fun i => Nat.blt i n) &&
  ((List.range' n (ops.size - n)).all fun j => idx.all fun b => ((Region.before ops).getD j 0).testBit b)
theorem JP.close {S idx : List Nat} {lp : List Oper} (n : Nat) (hc : (okIdx ops S idx && okClose ops S idx n) = true) (hlp : idx.map (ops[·]?) = lp.map some) (hre : SegC P Γ ops L G lp (Ag G lp.length)) (h : JD P Γ ops Q n G L) : JP P Γ ops Q S idx G L := by
  rw [Bool.and_eq_true] at hc
  obtain ⟨hok, hcl⟩ := hc
  unfold okClose at hcl
  simp only [Bool.and_eq_true, List.all_eq_true] at hcl
  obtain ⟨⟨⟨⟨h1, h2⟩, h3⟩, h4⟩, h5⟩ := hcl
  have hn := Nat.le_of_ble_eq_true h1
  have fin : ∀ k listed a w, PSt Γ ops S idx G L listed a w → unl ops listed = k → (∀ b ∈ idx, listed.getD b false = true) → wpAny P .any ops Q k listed a w := by
    intro k listed a w hp hk hal
    have hup : Up ops n listed := by
      refine ⟨hp.sz, fun i hi => ?_⟩
      rw [getD_tf (by rw [hp.sz]; exact hi)]
      by_cases hin : i < n
      · have := h2 i (List.mem_range.2 hin)
        simp only [Bool.or_eq_true, List.contains_iff_mem] at this
        rw [decide_eq_true hin]
        rcases this with h | h
        · exact hp.lo i hi h
        · exact hal i h
      · rw [decide_eq_false hin]
        cases hq : listed.getD i false with
        | false => rfl
        | true =>
          exfalso
          rcases hp.hi i hq with h | h
          · exact hin (Nat.le_of_ble_eq_true (h3 i h))
          · exact hin (Nat.le_of_ble_eq_true (h4 i h))
    have hk' : k = ops.size - n := by
      rw [← hk]
      unfold unl
      have : ((List.range ops.size).filter fun i => !listed.getD i true) = (List.range ops.size).filter fun i => decide (n ≤ i) := by
        refine List.filter_congr fun i hi => ?_
        rw [hup.2 i (List.mem_range.1 hi)]
        by_cases h : i < n <;> simp [h] <;> omega
      rw [this]
      have h6 : List.range ops.size = List.range n ++ List.range' n (ops.size - n) := by
        rw [List.range_eq_range', List.range_eq_range']
        have := List.range'_append_1 (s := 0) (m := n) (n := ops.size - n)
        rw [Nat.zero_add] at this
        rw [this]; congr 1; omega
      rw [h6, List.filter_append, List.filter_eq_nil_iff.2, List.filter_eq_self.2]
      · simp
      · intro i hi; rw [List.mem_range'_1] at hi; simp; omega
      · intro i hi; have := List.mem_range.1 hi; simp; omega
    rw [hk']
    exact h.go a w listed hup ⟨hp.ws, hp.nt, hp.df, fun x s hx => hp.fr x s hx fun b hb hbf _ => by rw [hal b hb] at hbf; cases hbf⟩
  refine jp_run hok hlp hre (fun j k listed a w hp hk hj hji => ?_) fin
  obtain ⟨hjs, hjf, oj, hoj, hed⟩ := (ready_iff j).1 hj
  have hjn : n ≤ j := by
    apply Nat.le_of_not_lt
    intro hlt
    have := h2 j (List.mem_range.2 hlt)
    simp only [Bool.or_eq_true, List.contains_iff_mem] at this
    rcases this with h | h
    · have := hp.lo j hjs h
      rw [← getD_tf (by rw [hp.sz]; exact hjs), hjf] at this; cases this
    · exact hji h
  have hallidx : ∀ b ∈ idx, listed.getD b false = true := fun b hb => by
    have := h5 j (by rw [List.mem_range'_1]; omega) b hb
    exact before_done hp.cl j (fun o' ho' e he hb => by
      rw [hoj] at ho'; cases ho'
      exact hed e.on (List.mem_map.2 ⟨e, List.mem_filter.2 ⟨Array.mem_toList_iff.2 he, hb⟩, rfl⟩)) b this
  exact (fin (k + 1) listed a w hp hk hallidx).2 j hj
def opsAt (l : List Oper) : List Nat → List Oper
  | [] => []
  | i :: r => match l[i]? with
    | some o => o :: opsAt l r
    | none => opsAt l r
theorem opsAt_map {l : List Oper} : ∀ {idx : List Nat}, (idx.all fun b => (l[b]?).isSome) = true → idx.map (l.toArray[·]?) = (opsAt l idx).map some ∧ (opsAt l idx).length = idx.length
  | [], _ => ⟨rfl, rfl⟩
  | i :: r, h => by
    simp only [List.all_cons, Bool.and_eq_true] at h
    obtain ⟨h1, h2⟩ := opsAt_map h.2
    cases ho : l[i]? with
    | none => rw [ho] at h; simp at h
    | some o =>
      simp only [List.getElem?_toArray] at h1 ⊢
      exact ⟨by simp only [opsAt, ho, List.map_cons, h1], by simp only [opsAt, ho, List.length_cons, h2]⟩
theorem okIdx_some {l : List Oper} {S idx : List Nat} (h : okIdx l.toArray S idx = true) : (idx.all fun b => (l[b]?).isSome) = true := by
  refine List.all_eq_true.2 fun b hb => ?_
  have := List.all_eq_true.1 h b hb
  cases ho : l[b]? with
  | none => simp [ho] at this
  | some o => rfl
variable {l : List Oper} {S idx : List Nat}
theorem JP.more (new : List Nat) (idx' : List Nat) (hi : idx ++ new = idx') (hc : (new.all fun b => !S.contains b && !idx.contains b && (l[b]?).isSome) = true) (h : SegC P Γ l.toArray L G (opsAt l new) (fun G' => JP P Γ l.toArray Q S idx' G' L)) : JP P Γ l.toArray Q S idx G L := by
  have hc' := List.all_eq_true.1 hc
  refine JP.add new idx' hi (List.all_eq_true.2 fun b hb => ?_) (opsAt_map (List.all_eq_true.2 fun b hb => ?_)).1 h
  · have := hc' b hb; rw [Bool.and_eq_true] at this; exact this.1
  · have := hc' b hb; rw [Bool.and_eq_true] at this; exact this.2
theorem JP.do1 {d : Nat} {op : Op} {ty : TypeId} {pos : String} {aft : Array Edge} {g : Option (Nat × Bool)} {R : SV → List Own → Prop} (i : Nat) (ks S' idx' : List Nat) (hc : (okIdx l.toArray S idx && okStep l.toArray S idx i ks S' idx') = true) (hoi : l[i]? = some ⟨some d, op, ty, pos, aft, g⟩)
    (hre : SegC P Γ l.toArray L G (opsAt l idx) (Ag G idx.length)) (hop : OpS P Γ ⟨some d, op, ty, pos, aft, g⟩ (keep ks G) L R) (hlt : Nat.blt d Γ.nt = true)
    (h : ∀ sv L', R sv L' → JP P Γ l.toArray Q S' idx' ((d, sv) :: G) L') : JP P Γ l.toArray Q S idx G L := by
  obtain ⟨h1, h2⟩ := opsAt_map (okIdx_some (Bool.and_eq_true_iff.1 hc).1)
  exact JP.op i ks S' idx' hc h1 (by simpa using hoi) (by rw [h2]; exact hre) hop (fun d' hd => by cases hd; exact hlt) h
theorem JP.do0 {op : Op} {ty : TypeId} {pos : String} {aft : Array Edge} {g : Option (Nat × Bool)} {R : SV → List Own → Prop} (i : Nat) (ks S' idx' : List Nat) (hc : (okIdx l.toArray S idx && okStep l.toArray S idx i ks S' idx') = true) (hoi : l[i]? = some ⟨none, op, ty, pos, aft, g⟩)
    (hre : SegC P Γ l.toArray L G (opsAt l idx) (Ag G idx.length)) (hop : OpS P Γ ⟨none, op, ty, pos, aft, g⟩ (keep ks G) L R)
    (h : ∀ sv L', R sv L' → JP P Γ l.toArray Q S' idx' G L') : JP P Γ l.toArray Q S idx G L := by
  obtain ⟨h1, h2⟩ := opsAt_map (okIdx_some (Bool.and_eq_true_iff.1 hc).1)
  exact JP.op i ks S' idx' hc h1 (by simpa using hoi) (by rw [h2]; exact hre) hop (fun d' hd => by cases hd) h
theorem JP.store {ty : TypeId} {pos : String} {aft : Array Edge} {g : Option (Nat × Bool)} {T b o : Nat} [hT : TSc P T] {x y : Operand} (i : Nat) (ks S' idx' : List Nat) (hc : (okIdx l.toArray S idx && okStep l.toArray S idx i ks S' idx') = true) (hoi : l[i]? = some ⟨none, .store T x y, ty, pos, aft, g⟩)
    (hre : SegC P Γ l.toArray L G (opsAt l idx) (Ag G idx.length)) (hx : ev (keep ks G) x = some (.val (.pointer (some ⟨b, o, none⟩)))) {s : SV} (hy : ev (keep ks G) y = some s) (h1 : One s) (j : Nat) {T' : TypeId} {cs cs' : List SV} {L' : List Own}
    (hj : L[j]? = some (.obj b T' cs)) (ho : Nat.blt o cs.length = true) (hcs : cs.set o s = cs') (hL : L.set j (.obj b T' cs') = L') (k : JP P Γ l.toArray Q S' idx' G L') : JP P Γ l.toArray Q S idx G L :=
  JP.do0 i ks S' idx' hc hoi hre (OpS.store hx hy h1 j hj (Nat.le_of_ble_eq_true ho)) (by rintro sv L'' rfl; rw [hcs, hL]; exact k)
theorem JP.storeAll {ty : TypeId} {pos : String} {aft : Array Edge} {g : Option (Nat × Bool)} {T b n : Nat} [hT : TAg P T n] {x y : Operand} (i : Nat) (ks S' idx' : List Nat) (hc : (okIdx l.toArray S idx && okStep l.toArray S idx i ks S' idx') = true) (hoi : l[i]? = some ⟨none, .store T x y, ty, pos, aft, g⟩)
    (hre : SegC P Γ l.toArray L G (opsAt l idx) (Ag G idx.length)) (hx : ev (keep ks G) x = some (.val (.pointer (some ⟨b, 0, none⟩)))) {ds : List SV} (hy : ev (keep ks G) y = some (.agg ds)) (hn' : Nat.beq ds.length n = true) (j : Nat) {T' : TypeId} {cs : List SV} {L' : List Own}
    (hj : L[j]? = some (.obj b T' cs)) (hcs : Nat.beq cs.length n = true) (hL : L.set j (.obj b T' ds) = L') (k : JP P Γ l.toArray Q S' idx' G L') : JP P Γ l.toArray Q S idx G L := by
  have hn := Nat.eq_of_beq_eq_true hn'
  have hcn := Nat.eq_of_beq_eq_true hcs
  refine JP.do0 i ks S' idx' hc hoi hre (OpS.storeAg hx hy hn j hj (by omega)) (by
    rintro sv L'' rfl
    have : cs.take 0 ++ ds ++ cs.drop (0 + ds.length) = ds := by
      rw [List.take_zero, List.nil_append, Nat.zero_add, List.drop_eq_nil_of_le (by omega), List.append_nil]
    rw [this, hL]; exact k)
theorem JP.tail {l' : List Oper} (n : Nat) (hc : (okIdx l.toArray S idx && okClose l.toArray S idx n) = true) (hc2 : chkTail l.toArray n = true) (hle : Nat.ble n l.length = true) (hl : l.drop n = l')
    (hre : SegC P Γ l.toArray L G (opsAt l idx) (Ag G idx.length)) (h : J P Γ l.toArray Q G L l') : JP P Γ l.toArray Q S idx G L := by
  obtain ⟨h1, h2⟩ := opsAt_map (okIdx_some (Bool.and_eq_true_iff.1 hc).1)
  exact JP.close n hc h1 (by rw [h2]; exact hre) (JD.tail hc2 (by simpa using hle) (by simpa using hl) h)
theorem JP.freeze (i : Nat) {v : Value} {E sz n : Nat} {el : Nat → List SV} (hi : look G i = some (.val v)) (hfr : (idx.all fun b => !(dstAt l.toArray b == some i)) = true) (hmax : n ≤ maxLen) (h : JP P Γ l.toArray Q S idx ((i, .sl sz n el) :: G) L) : JP P Γ l.toArray Q S idx G (.row v E sz n el :: L) := by
  refine ⟨fun k listed a w hp hk => ?_⟩
  have hst : St Γ [(i, .val v)] (.row v E sz n el :: L) a w := by
    refine ⟨hp.ws, hp.nt, hp.df, fun x s hx => ?_⟩
    simp only [look] at hx
    cases hb : Nat.beq i x with
    | false => rw [hb] at hx; simp at hx
    | true =>
      rw [hb] at hx
      simp only [cond_true, Option.some.injEq] at hx
      subst hx
      obtain rfl := Nat.eq_of_beq_eq_true hb
      refine hp.fr i _ hi fun b hb _ he => ?_
      have := List.all_eq_true.1 hfr b hb
      rw [he] at this; simp at this
  have hst' := St.freeze (i := i) hst (by simp [look]) hmax
  have hd : Step Γ (.row v E sz n el :: L) L w w := Step.drop hp.ws (List.sublist_cons_self _ _)
  refine h.go k listed a w ⟨hp.sz, hp.lo, hp.hi, hp.cl, hd.ws, hp.nt, hp.df, fun x s hx hno => ?_⟩ hk
  simp only [look] at hx
  cases hb : Nat.beq i x with
  | false =>
    rw [hb] at hx
    exact hd.rel (hp.fr x s hx hno)
  | true =>
    rw [hb] at hx
    obtain rfl := Nat.eq_of_beq_eq_true hb
    exact hst'.fr i s (by simp only [look, hb]; exact hx)
end
end Go.Sse
namespace Go.Sse
open Go Go.Sse
set_option linter.unusedVariables false
set_option linter.unusedSimpArgs false
section
variable {P : Program} {Γ : Ctx} {ops : Array Oper} {Q : Exit → Act → World → Prop} {F : List (Nat × SV)} {L : List Own} {rest : List Oper}
variable {dst : Option Tmp} {ty : TypeId} {pos : String} {aft : Array Edge} {g : Option (Nat × Bool)}
theorem Pv.loadG [Gl P] [Globs P Γ] {T b o : Nat} [h : TSc P T] {x : Operand} (hx : ev F x = some (.val (.pointer (some ⟨b, o, none⟩)))) (i : Nat) {vs : List Value} {v : Value} (hi : (Gl.gl P)[i]? = some (b, vs)) (hv : vs[o]? = some v) :
    Pv P Γ F L ⟨dst, .load T x, ty, pos, aft, g⟩ (.val v) := fun ρ w hst => by
  obtain ⟨_, _, h3⟩ := Globs.at (P := P) hst.ws (List.mem_of_getElem? hi)
  refine ⟨v, ?_, .val _⟩
  have := run_loadVar_sc h w ⟨b, o, none⟩ v (h3 o v hv)
  simp [execOp, hst.evv (x := x) (by simp [Op.operands]) hx, Instr.loadAt, Instr.sureAddr, this]
theorem Cx.loadG [Gl P] [Globs P Γ] {T b o : Nat} [h : TSc P T] {x : Operand} (hx : ev F x = some (.val (.pointer (some ⟨b, o, none⟩)))) (i : Nat) {vs : List Value} {v : Value} (hi : (Gl.gl P)[i]? = some (b, vs)) (hv : vs[o]? = some v) {d0 : Nat} {K : List (Nat × SV) → Prop} (hlt : Nat.blt d0 Γ.nt = true) (hr : SegC P Γ ops L ((d0, (.val v)) :: F) rest K) : SegC P Γ ops L F (⟨some d0, .load T x, ty, pos, aft, none⟩ :: rest) K :=
  SegC.q (Qs.pv (by apply Pv.loadG <;> assumption)) hlt hr
abbrev u32 (x : BitVec 32) : SV := .val (.int .u32 (x.toNat : Int))
abbrev u64 (n : Nat) : SV := .val (.int .u64 (n : Int))
theorem wrap_u32 (n : Nat) : IntKind.u32.wrap (n : Int) = ((BitVec.ofNat 32 n).toNat : Int) := by
  simp only [IntKind.wrap, IntKind.bits, IntKind.signed, Bool.false_and, Bool.false_eq_true, if_false, BitVec.toNat_ofNat]
  norm_cast
theorem wrap_u8 (n : Nat) : IntKind.u8.wrap (n : Int) = ((UInt8.ofNat n).toNat : Int) := by
  simp only [IntKind.wrap, IntKind.bits, IntKind.signed, Bool.false_and, Bool.false_eq_true, if_false, UInt8.toNat_ofNat']
  norm_cast
theorem wrap_u64 {n : Nat} (h : n < 18446744073709551616) : IntKind.u64.wrap (n : Int) = n := by
  simp only [IntKind.wrap, IntKind.bits, IntKind.signed, Bool.false_and, Bool.false_eq_true, if_false]
  norm_cast
  exact Nat.mod_eq_of_lt h
theorem ofNat_toNat32 (a : BitVec 32) : BitVec.ofNat 32 a.toNat = a := by simp
theorem ofInt_u32 (a : BitVec 32) : BitVec.ofInt 32 (a.toNat : Int) = a := by simp
section
variable {t t2 : TypeId} {x y : Operand} {a b : BitVec 32} (hx : ev F x = some (u32 a))
include hx
theorem Pv.notU : Pv P Γ F L ⟨dst, .unOp .xor t x, ty, pos, aft, g⟩ (u32 (~~~a)) :=
  fun ρ w hst => ⟨_, by
    have h1 : (Op.unary .xor (.int .u32 (a.toNat : Int))).run P w = .ok (.int .u32 ((~~~a).toNat : Int)) w := by
      simp only [Op.unary, IntKind.signed, Bool.false_eq_true, if_false, Op.intBits, IntKind.bits, ofInt_u32, wrap_u32, Sem.run_pure, ofNat_toNat32]
      rw [show BitVec.ofInt 32 IntKind.u32.max = BitVec.allOnes 32 by decide]
      show Result.ok (Value.int .u32 ((BitVec.allOnes 32 ^^^ a).toNat : Int)) w = _
      rw [BitVec.allOnes_xor]
    simp [execOp, hst.evv (by simp [Op.operands]) hx, h1], .val _⟩
theorem Cx.notU  {d0 : Nat} {K : List (Nat × SV) → Prop} (hlt : Nat.blt d0 Γ.nt = true) (hr : SegC P Γ ops L ((d0, (u32 (~~~a))) :: F) rest K) : SegC P Γ ops L F (⟨some d0, .unOp .xor t x, ty, pos, aft, none⟩ :: rest) K :=
  SegC.q (Qs.pv (by apply Pv.notU <;> assumption)) hlt hr
theorem Pv.shrU {k : IntKind} {n : Nat} (hy : ev F y = some (.val (.int k (n : Int)))) (hn : n ≤ 32) : Pv P Γ F L ⟨dst, .binOp .shr t x y t2, ty, pos, aft, g⟩ (u32 (a >>> n)) := by
  have := Pv.shr (P := P) (Γ := Γ) (L := L) (dst := dst) (ty := ty) (pos := pos) (aft := aft) (g := g) (t := t) (t2 := t2) hx hy (Int.natCast_nonneg n)
  have e : (a.toNat : Int).fdiv (2 ^ Min.min (n : Int).toNat IntKind.u32.bits) = ((a >>> n).toNat : Int) := by
    rw [Int.fdiv_eq_ediv_of_nonneg _ (by exact_mod_cast Nat.zero_le _)]
    simp only [IntKind.bits, Int.toNat_natCast, Nat.min_eq_left hn, BitVec.toNat_ushiftRight, Nat.shiftRight_eq_div_pow]
    norm_cast
  rwa [e] at this
theorem Cx.shrU {k : IntKind} {n : Nat} (hy : ev F y = some (.val (.int k (n : Int)))) (hn : n ≤ 32) {d0 : Nat} {K : List (Nat × SV) → Prop} (hlt : Nat.blt d0 Γ.nt = true) (hr : SegC P Γ ops L ((d0, (u32 (a >>> n))) :: F) rest K) : SegC P Γ ops L F (⟨some d0, .binOp .shr t x y t2, ty, pos, aft, none⟩ :: rest) K :=
  SegC.q (Qs.pv (by apply Pv.shrU <;> assumption)) hlt hr
theorem Jx.shrU {k : IntKind} {n : Nat} (hy : ev F y = some (.val (.int k (n : Int)))) (hn : n ≤ 32) {d0 : Nat} (hlt : Nat.blt d0 Γ.nt = true) (k : J P Γ ops Q ((d0, (u32 (a >>> n))) :: F) L rest) : J P Γ ops Q F L (⟨some d0, .binOp .shr t x y t2, ty, pos, aft, none⟩ :: rest) :=
  J.pv (by apply Pv.shrU <;> assumption) hlt k
theorem Pv.shlU {k : IntKind} {n : Nat} (hy : ev F y = some (.val (.int k (n : Int)))) (hn : n ≤ 32) : Pv P Γ F L ⟨dst, .binOp .shl t x y t2, ty, pos, aft, g⟩ (u32 (a <<< n)) := by
  have := Pv.shl (P := P) (Γ := Γ) (L := L) (dst := dst) (ty := ty) (pos := pos) (aft := aft) (g := g) (t := t) (t2 := t2) hx hy (Int.natCast_nonneg n)
  have e : IntKind.u32.wrap ((a.toNat : Int) * 2 ^ Min.min (n : Int).toNat IntKind.u32.bits) = ((a <<< n).toNat : Int) := by
    simp only [IntKind.bits, Int.toNat_natCast, Nat.min_eq_left hn]
    have : (a.toNat : Int) * 2 ^ n = ((a.toNat * 2 ^ n : Nat) : Int) := by push_cast; rfl
    rw [this, wrap_u32]
    simp [BitVec.toNat_shiftLeft, Nat.shiftLeft_eq]
  rwa [e] at this
theorem Cx.shlU {k : IntKind} {n : Nat} (hy : ev F y = some (.val (.int k (n : Int)))) (hn : n ≤ 32) {d0 : Nat} {K : List (Nat × SV) → Prop} (hlt : Nat.blt d0 Γ.nt = true) (hr : SegC P Γ ops L ((d0, (u32 (a <<< n))) :: F) rest K) : SegC P Γ ops L F (⟨some d0, .binOp .shl t x y t2, ty, pos, aft, none⟩ :: rest) K :=
  SegC.q (Qs.pv (by apply Pv.shlU <;> assumption)) hlt hr
theorem Jx.shlU {k : IntKind} {n : Nat} (hy : ev F y = some (.val (.int k (n : Int)))) (hn : n ≤ 32) {d0 : Nat} (hlt : Nat.blt d0 Γ.nt = true) (k : J P Γ ops Q ((d0, (u32 (a <<< n))) :: F) L rest) : J P Γ ops Q F L (⟨some d0, .binOp .shl t x y t2, ty, pos, aft, none⟩ :: rest) :=
  J.pv (by apply Pv.shlU <;> assumption) hlt k
theorem Pv.convByte {src d : Nat} [h : TInt P d .u8] (hs : (P.underlying src).isSome = true) : Pv P Γ F L ⟨dst, .convert src d x, ty, pos, aft, g⟩ (byte (UInt8.ofNat a.toNat)) := by
  have := Pv.convI (P := P) (Γ := Γ) (L := L) (dst := dst) (ty := ty) (pos := pos) (aft := aft) (g := g) (d := d) hs hx
  rwa [wrap_u8] at this
theorem Cx.convByte {src d : Nat} [h : TInt P d .u8] (hs : (P.underlying src).isSome = true) {d0 : Nat} {K : List (Nat × SV) → Prop} (hlt : Nat.blt d0 Γ.nt = true) (hr : SegC P Γ ops L ((d0, (byte (UInt8.ofNat a.toNat))) :: F) rest K) : SegC P Γ ops L F (⟨some d0, .convert src d x, ty, pos, aft, none⟩ :: rest) K :=
  SegC.q (Qs.pv (by apply Pv.convByte <;> assumption)) hlt hr
theorem Jx.convByte {src d : Nat} [h : TInt P d .u8] (hs : (P.underlying src).isSome = true) {d0 : Nat} (hlt : Nat.blt d0 Γ.nt = true) (k : J P Γ ops Q ((d0, (byte (UInt8.ofNat a.toNat))) :: F) L rest) : J P Γ ops Q F L (⟨some d0, .convert src d x, ty, pos, aft, none⟩ :: rest) :=
  J.pv (by apply Pv.convByte <;> assumption) hlt k
variable (hy : ev F y = some (u32 b))
include hy
theorem Pv.addU : Pv P Γ F L ⟨dst, .binOp .add t x y t2, ty, pos, aft, g⟩ (u32 (a + b)) := by
  have := Pv.add (P := P) (Γ := Γ) (L := L) (dst := dst) (ty := ty) (pos := pos) (aft := aft) (g := g) (t := t) (t2 := t2) hx hy
  have e : IntKind.u32.wrap ((a.toNat : Int) + b.toNat) = ((a + b).toNat : Int) := by
    rw [show ((a.toNat : Int) + b.toNat) = ((a.toNat + b.toNat : Nat) : Int) by push_cast; rfl, wrap_u32]
    simp [BitVec.toNat_add]
  rwa [e] at this
theorem Cx.addU  {d0 : Nat} {K : List (Nat × SV) → Prop} (hlt : Nat.blt d0 Γ.nt = true) (hr : SegC P Γ ops L ((d0, (u32 (a + b))) :: F) rest K) : SegC P Γ ops L F (⟨some d0, .binOp .add t x y t2, ty, pos, aft, none⟩ :: rest) K :=
  SegC.q (Qs.pv (by apply Pv.addU <;> assumption)) hlt hr
theorem Jx.addU  {d0 : Nat} (hlt : Nat.blt d0 Γ.nt = true) (k : J P Γ ops Q ((d0, (u32 (a + b))) :: F) L rest) : J P Γ ops Q F L (⟨some d0, .binOp .add t x y t2, ty, pos, aft, none⟩ :: rest) :=
  J.pv (by apply Pv.addU <;> assumption) hlt k
theorem Pv.xorU : Pv P Γ F L ⟨dst, .binOp .xor t x y t2, ty, pos, aft, g⟩ (u32 (a ^^^ b)) := by
  have := Pv.bxor (P := P) (Γ := Γ) (L := L) (dst := dst) (ty := ty) (pos := pos) (aft := aft) (g := g) (t := t) (t2 := t2) hx hy
  simp only [IntKind.bits, ofInt_u32, wrap_u32, ofNat_toNat32] at this
  exact this
theorem Cx.xorU  {d0 : Nat} {K : List (Nat × SV) → Prop} (hlt : Nat.blt d0 Γ.nt = true) (hr : SegC P Γ ops L ((d0, (u32 (a ^^^ b))) :: F) rest K) : SegC P Γ ops L F (⟨some d0, .binOp .xor t x y t2, ty, pos, aft, none⟩ :: rest) K :=
  SegC.q (Qs.pv (by apply Pv.xorU <;> assumption)) hlt hr
theorem Jx.xorU  {d0 : Nat} (hlt : Nat.blt d0 Γ.nt = true) (k : J P Γ ops Q ((d0, (u32 (a ^^^ b))) :: F) L rest) : J P Γ ops Q F L (⟨some d0, .binOp .xor t x y t2, ty, pos, aft, none⟩ :: rest) :=
  J.pv (by apply Pv.xorU <;> assumption) hlt k
theorem Pv.andU : Pv P Γ F L ⟨dst, .binOp .and t x y t2, ty, pos, aft, g⟩ (u32 (a &&& b)) := by
  have := Pv.band (P := P) (Γ := Γ) (L := L) (dst := dst) (ty := ty) (pos := pos) (aft := aft) (g := g) (t := t) (t2 := t2) hx hy
  simp only [IntKind.bits, ofInt_u32, wrap_u32, ofNat_toNat32] at this
  exact this
theorem Cx.andU  {d0 : Nat} {K : List (Nat × SV) → Prop} (hlt : Nat.blt d0 Γ.nt = true) (hr : SegC P Γ ops L ((d0, (u32 (a &&& b))) :: F) rest K) : SegC P Γ ops L F (⟨some d0, .binOp .and t x y t2, ty, pos, aft, none⟩ :: rest) K :=
  SegC.q (Qs.pv (by apply Pv.andU <;> assumption)) hlt hr
theorem Jx.andU  {d0 : Nat} (hlt : Nat.blt d0 Γ.nt = true) (k : J P Γ ops Q ((d0, (u32 (a &&& b))) :: F) L rest) : J P Γ ops Q F L (⟨some d0, .binOp .and t x y t2, ty, pos, aft, none⟩ :: rest) :=
  J.pv (by apply Pv.andU <;> assumption) hlt k
theorem Pv.orU : Pv P Γ F L ⟨dst, .binOp .or t x y t2, ty, pos, aft, g⟩ (u32 (a ||| b)) := by
  have := Pv.bor (P := P) (Γ := Γ) (L := L) (dst := dst) (ty := ty) (pos := pos) (aft := aft) (g := g) (t := t) (t2 := t2) hx hy
  simp only [IntKind.bits, ofInt_u32, wrap_u32, ofNat_toNat32] at this
  exact this
theorem Cx.orU  {d0 : Nat} {K : List (Nat × SV) → Prop} (hlt : Nat.blt d0 Γ.nt = true) (hr : SegC P Γ ops L ((d0, (u32 (a ||| b))) :: F) rest K) : SegC P Γ ops L F (⟨some d0, .binOp .or t x y t2, ty, pos, aft, none⟩ :: rest) K :=
  SegC.q (Qs.pv (by apply Pv.orU <;> assumption)) hlt hr
theorem Jx.orU  {d0 : Nat} (hlt : Nat.blt d0 Γ.nt = true) (k : J P Γ ops Q ((d0, (u32 (a ||| b))) :: F) L rest) : J P Γ ops Q F L (⟨some d0, .binOp .or t x y t2, ty, pos, aft, none⟩ :: rest) :=
  J.pv (by apply Pv.orU <;> assumption) hlt k
end
theorem Pv.mulU {t t2 : TypeId} {x y : Operand} {a : BitVec 32} (c : Nat) (hx : ev F x = some (u32 a)) (hy : ev F y = some (.val (.int .u32 (c : Int)))) : Pv P Γ F L ⟨dst, .binOp .mul t x y t2, ty, pos, aft, g⟩ (u32 (a * BitVec.ofNat 32 c)) := by
  have := Pv.mul (P := P) (Γ := Γ) (L := L) (dst := dst) (ty := ty) (pos := pos) (aft := aft) (g := g) (t := t) (t2 := t2) hx hy
  have e : IntKind.u32.wrap ((a.toNat : Int) * (c : Int)) = ((a * BitVec.ofNat 32 c).toNat : Int) := by
    rw [show ((a.toNat : Int) * (c : Int)) = ((a.toNat * c : Nat) : Int) by push_cast; rfl, wrap_u32]
    simp [BitVec.toNat_mul]
  rwa [e] at this
theorem Cx.mulU {t t2 : TypeId} {x y : Operand} {a : BitVec 32} (c : Nat) (hx : ev F x = some (u32 a)) (hy : ev F y = some (.val (.int .u32 (c : Int)))) {d0 : Nat} {K : List (Nat × SV) → Prop} (hlt : Nat.blt d0 Γ.nt = true) (hr : SegC P Γ ops L ((d0, (u32 (a * BitVec.ofNat 32 c))) :: F) rest K) : SegC P Γ ops L F (⟨some d0, .binOp .mul t x y t2, ty, pos, aft, none⟩ :: rest) K :=
  SegC.q (Qs.pv (by apply Pv.mulU <;> assumption)) hlt hr
theorem Pv.byteWord {src d : Nat} [h : TInt P d .u32] {x : Operand} {b : UInt8} (hs : (P.underlying src).isSome = true) (hx : ev F x = some (byte b)) : Pv P Γ F L ⟨dst, .convert src d x, ty, pos, aft, g⟩ (u32 (BitVec.ofNat 32 b.toNat)) := by
  have := Pv.convI (P := P) (Γ := Γ) (L := L) (dst := dst) (ty := ty) (pos := pos) (aft := aft) (g := g) (d := d) hs hx
  rwa [wrap_u32] at this
theorem Cx.byteWord {src d : Nat} [h : TInt P d .u32] {x : Operand} {b : UInt8} (hs : (P.underlying src).isSome = true) (hx : ev F x = some (byte b)) {d0 : Nat} {K : List (Nat × SV) → Prop} (hlt : Nat.blt d0 Γ.nt = true) (hr : SegC P Γ ops L ((d0, (u32 (BitVec.ofNat 32 b.toNat))) :: F) rest K) : SegC P Γ ops L F (⟨some d0, .convert src d x, ty, pos, aft, none⟩ :: rest) K :=
  SegC.q (Qs.pv (by apply Pv.byteWord <;> assumption)) hlt hr
theorem Pv.numByte {src d : Nat} [h : TInt P d .u8] {x : Operand} {k : IntKind} (n : Nat) {m : Int} (hs : (P.underlying src).isSome = true) (hx : ev F x = some (.val (.int k m))) (hm : m = (n : Int)) : Pv P Γ F L ⟨dst, .convert src d x, ty, pos, aft, g⟩ (byte (UInt8.ofNat n)) := by
  subst hm
  have := Pv.convI (P := P) (Γ := Γ) (L := L) (dst := dst) (ty := ty) (pos := pos) (aft := aft) (g := g) (d := d) hs hx
  rwa [wrap_u8] at this
theorem Cx.numByte {src d : Nat} [h : TInt P d .u8] {x : Operand} {k : IntKind} (n : Nat) {m : Int} (hs : (P.underlying src).isSome = true) (hx : ev F x = some (.val (.int k m))) (hm : m = (n : Int)) {d0 : Nat} {K : List (Nat × SV) → Prop} (hlt : Nat.blt d0 Γ.nt = true) (hr : SegC P Γ ops L ((d0, (byte (UInt8.ofNat n))) :: F) rest K) : SegC P Γ ops L F (⟨some d0, .convert src d x, ty, pos, aft, none⟩ :: rest) K :=
  SegC.q (Qs.pv (by apply Pv.numByte <;> assumption)) hlt hr
theorem Jx.numByte {src d : Nat} [h : TInt P d .u8] {x : Operand} {k : IntKind} (n : Nat) {m : Int} (hs : (P.underlying src).isSome = true) (hx : ev F x = some (.val (.int k m))) (hm : m = (n : Int)) {d0 : Nat} (hlt : Nat.blt d0 Γ.nt = true) (k : J P Γ ops Q ((d0, (byte (UInt8.ofNat n))) :: F) L rest) : J P Γ ops Q F L (⟨some d0, .convert src d x, ty, pos, aft, none⟩ :: rest) :=
  J.pv (by apply Pv.numByte <;> assumption) hlt k
theorem Pv.byteNum {src d : Nat} [h : TInt P d .i64] {x : Operand} {b : UInt8} (hs : (P.underlying src).isSome = true) (hx : ev F x = some (byte b)) : Pv P Γ F L ⟨dst, .convert src d x, ty, pos, aft, g⟩ (int b.toNat) := by
  have := Pv.convI (P := P) (Γ := Γ) (L := L) (dst := dst) (ty := ty) (pos := pos) (aft := aft) (g := g) (d := d) hs hx
  have hb := b.toNat_lt
  rwa [wrap_i64 (by omega)] at this
theorem Jx.byteNum {src d : Nat} [h : TInt P d .i64] {x : Operand} {b : UInt8} (hs : (P.underlying src).isSome = true) (hx : ev F x = some (byte b)) {d0 : Nat} (hlt : Nat.blt d0 Γ.nt = true) (k : J P Γ ops Q ((d0, (int b.toNat)) :: F) L rest) : J P Γ ops Q F L (⟨some d0, .convert src d x, ty, pos, aft, none⟩ :: rest) :=
  J.pv (by apply Pv.byteNum <;> assumption) hlt k
theorem Pv.convU64 {src d : Nat} [h : TInt P d .u64] {x : Operand} {k : IntKind} (n : Nat) {m : Int} (hs : (P.underlying src).isSome = true) (hx : ev F x = some (.val (.int k m))) (hm : m = (n : Int)) (hn : n < 18446744073709551616) : Pv P Γ F L ⟨dst, .convert src d x, ty, pos, aft, g⟩ (u64 n) := by
  subst hm
  have := Pv.convI (P := P) (Γ := Γ) (L := L) (dst := dst) (ty := ty) (pos := pos) (aft := aft) (g := g) (d := d) hs hx
  rwa [wrap_u64 hn] at this
theorem Jx.convU64 {src d : Nat} [h : TInt P d .u64] {x : Operand} {k : IntKind} (n : Nat) {m : Int} (hs : (P.underlying src).isSome = true) (hx : ev F x = some (.val (.int k m))) (hm : m = (n : Int)) (hn : n < 18446744073709551616) {d0 : Nat} (hlt : Nat.blt d0 Γ.nt = true) (k : J P Γ ops Q ((d0, (u64 n)) :: F) L rest) : J P Γ ops Q F L (⟨some d0, .convert src d x, ty, pos, aft, none⟩ :: rest) :=
  J.pv (by apply Pv.convU64 <;> assumption) hlt k
theorem Pv.mulU64 {t t2 : TypeId} {x y : Operand} {n : Nat} (c : Nat) (hx : ev F x = some (u64 n)) (hy : ev F y = some (.val (.int .u64 (c : Int)))) (hn : n * c < 18446744073709551616) : Pv P Γ F L ⟨dst, .binOp .mul t x y t2, ty, pos, aft, g⟩ (u64 (n * c)) := by
  have := Pv.mul (P := P) (Γ := Γ) (L := L) (dst := dst) (ty := ty) (pos := pos) (aft := aft) (g := g) (t := t) (t2 := t2) hx hy
  rwa [show ((n : Int) * (c : Int)) = ((n * c : Nat) : Int) by push_cast; rfl, wrap_u64 hn] at this
theorem Jx.mulU64 {t t2 : TypeId} {x y : Operand} {n : Nat} (c : Nat) (hx : ev F x = some (u64 n)) (hy : ev F y = some (.val (.int .u64 (c : Int)))) (hn : n * c < 18446744073709551616) {d0 : Nat} (hlt : Nat.blt d0 Γ.nt = true) (k : J P Γ ops Q ((d0, (u64 (n * c))) :: F) L rest) : J P Γ ops Q F L (⟨some d0, .binOp .mul t x y t2, ty, pos, aft, none⟩ :: rest) :=
  J.pv (by apply Pv.mulU64 <;> assumption) hlt k
theorem Pv.subU64 {t t2 : TypeId} {x y : Operand} {n c : Nat} (hx : ev F x = some (.val (.int .u64 (c : Int)))) (hy : ev F y = some (u64 n)) (hn : n ≤ c) (hc : c < 18446744073709551616) : Pv P Γ F L ⟨dst, .binOp .sub t x y t2, ty, pos, aft, g⟩ (u64 (c - n)) := by
  have := Pv.sub' (P := P) (Γ := Γ) (L := L) (dst := dst) (ty := ty) (pos := pos) (aft := aft) (g := g) (t := t) (t2 := t2) hx hy
  rwa [show ((c : Int) - (n : Int)) = ((c - n : Nat) : Int) by omega, wrap_u64 (by omega)] at this
theorem Jx.subU64 {t t2 : TypeId} {x y : Operand} {n c : Nat} (hx : ev F x = some (.val (.int .u64 (c : Int)))) (hy : ev F y = some (u64 n)) (hn : n ≤ c) (hc : c < 18446744073709551616) {d0 : Nat} (hlt : Nat.blt d0 Γ.nt = true) (k : J P Γ ops Q ((d0, (u64 (c - n))) :: F) L rest) : J P Γ ops Q F L (⟨some d0, .binOp .sub t x y t2, ty, pos, aft, none⟩ :: rest) :=
  J.pv (by apply Pv.subU64 <;> assumption) hlt k
theorem Pv.shrN {t t2 : TypeId} {x y : Operand} {k k2 : IntKind} {n s : Nat} {m : Int} (hx : ev F x = some (.val (.int k (n : Int)))) (hy : ev F y = some (.val (.int k2 m))) (hm : m = (s : Int)) (hs : s ≤ k.bits) : Pv P Γ F L ⟨dst, .binOp .shr t x y t2, ty, pos, aft, g⟩ (.val (.int k ((n / 2 ^ s : Nat) : Int))) := by
  subst hm
  have := Pv.shr (P := P) (Γ := Γ) (L := L) (dst := dst) (ty := ty) (pos := pos) (aft := aft) (g := g) (t := t) (t2 := t2) hx hy (Int.natCast_nonneg s)
  have e : (n : Int).fdiv (2 ^ Min.min (s : Int).toNat k.bits) = ((n / 2 ^ s : Nat) : Int) := by
    rw [Int.fdiv_eq_ediv_of_nonneg _ (by exact_mod_cast Nat.zero_le _), Int.toNat_natCast, Nat.min_eq_left hs]
    norm_cast
  rwa [e] at this
theorem Jx.shrN {t t2 : TypeId} {x y : Operand} {k k2 : IntKind} {n s : Nat} {m : Int} (hx : ev F x = some (.val (.int k (n : Int)))) (hy : ev F y = some (.val (.int k2 m))) (hm : m = (s : Int)) (hs : s ≤ k.bits) {d0 : Nat} (hlt : Nat.blt d0 Γ.nt = true) (k : J P Γ ops Q ((d0, (.val (.int k ((n / 2 ^ s : Nat) : Int)))) :: F) L rest) : J P Γ ops Q F L (⟨some d0, .binOp .shr t x y t2, ty, pos, aft, none⟩ :: rest) :=
  J.pv (by apply Pv.shrN <;> assumption) hlt k
theorem getElem?_map_lt {α : Type} (f : α → SV) (ws : List α) (d : α) (i : Nat) (h : i < ws.length) : (ws.map f)[i]? = some (f (ws.getD i d)) := by
  simp [List.getElem?_map, List.getD_eq_getElem?_getD, List.getElem?_eq_getElem h]
theorem Pv.indexA {T E by' n : Nat} {z : List Value} [h : TArr P T n E] [hI : TInfo P E 1 by' z] {x i : Operand} {k : IntKind} {b o : Nat} {m : Int} (j : Nat) (hx : ev F x = some (.val (.pointer (some ⟨b, o, none⟩))))
    (hi : ev F i = some (.val (.int k m))) (hm : m = (j : Int)) (h1 : j < n) : Pv P Γ F L ⟨dst, .indexAddr T x i, ty, pos, aft, g⟩ (.val (.pointer (some ⟨b, o + j, none⟩))) := by
  subst hm
  have := Pv.indexArr (P := P) (Γ := Γ) (L := L) (dst := dst) (ty := ty) (pos := pos) (aft := aft) (g := g) (T := T) hx hi (by omega) (by omega)
  simpa using this
theorem Pv.index0 {T E by' n : Nat} {z : List Value} [h : TArr P T n E] [hI : TInfo P E 1 by' z] {x i : Operand} {k : IntKind} {b : Nat} {m : Int} (j : Nat) (hx : ev F x = some (.val (.pointer (some ⟨b, 0, none⟩))))
    (hi : ev F i = some (.val (.int k m))) (hm : m = (j : Int)) (h1 : j < n) : Pv P Γ F L ⟨dst, .indexAddr T x i, ty, pos, aft, g⟩ (.val (.pointer (some ⟨b, j, none⟩))) := by
  have := Pv.indexA (P := P) (Γ := Γ) (L := L) (dst := dst) (ty := ty) (pos := pos) (aft := aft) (g := g) (T := T) j hx hi hm h1
  rwa [Nat.zero_add] at this
theorem Cx.index0 {T E by' n : Nat} {z : List Value} [h : TArr P T n E] [hI : TInfo P E 1 by' z] {x i : Operand} {k : IntKind} {b : Nat} {m : Int} (j : Nat) (hx : ev F x = some (.val (.pointer (some ⟨b, 0, none⟩))))
    (hi : ev F i = some (.val (.int k m))) (hm : m = (j : Int)) (h1 : j < n) {d0 : Nat} {K : List (Nat × SV) → Prop} (hlt : Nat.blt d0 Γ.nt = true) (hr : SegC P Γ ops L ((d0, (.val (.pointer (some ⟨b, j, none⟩)))) :: F) rest K) : SegC P Γ ops L F (⟨some d0, .indexAddr T x i, ty, pos, aft, none⟩ :: rest) K :=
  SegC.q (Qs.pv (by apply Pv.index0 <;> assumption)) hlt hr
theorem Jx.index0 {T E by' n : Nat} {z : List Value} [h : TArr P T n E] [hI : TInfo P E 1 by' z] {x i : Operand} {k : IntKind} {b : Nat} {m : Int} (j : Nat) (hx : ev F x = some (.val (.pointer (some ⟨b, 0, none⟩))))
    (hi : ev F i = some (.val (.int k m))) (hm : m = (j : Int)) (h1 : j < n) {d0 : Nat} (hlt : Nat.blt d0 Γ.nt = true) (k : J P Γ ops Q ((d0, (.val (.pointer (some ⟨b, j, none⟩)))) :: F) L rest) : J P Γ ops Q F L (⟨some d0, .indexAddr T x i, ty, pos, aft, none⟩ :: rest) :=
  J.pv (by apply Pv.index0 <;> assumption) hlt k
theorem Pv.loadA {α : Type} {T b j : Nat} [h : TSc P T] {x : Operand} (enc : α → SV) (d : α) (hx : ev F x = some (.val (.pointer (some ⟨b, j, none⟩)))) (i : Nat) {T' : TypeId} {ws : List α} (hi : L[i]? = some (.obj b T' (ws.map enc))) (hj : j < ws.length) :
    Pv P Γ F L ⟨dst, .load T x, ty, pos, aft, g⟩ (enc (ws.getD j d)) := Pv.load hx i hi (getElem?_map_lt enc ws d j hj)
theorem Cx.loadA {α : Type} {T b j : Nat} [h : TSc P T] {x : Operand} (enc : α → SV) (d : α) (hx : ev F x = some (.val (.pointer (some ⟨b, j, none⟩)))) (i : Nat) {T' : TypeId} {ws : List α} (hi : L[i]? = some (.obj b T' (ws.map enc))) (hj : j < ws.length) {d0 : Nat} {K : List (Nat × SV) → Prop} (hlt : Nat.blt d0 Γ.nt = true) (hr : SegC P Γ ops L ((d0, (enc (ws.getD j d))) :: F) rest K) : SegC P Γ ops L F (⟨some d0, .load T x, ty, pos, aft, none⟩ :: rest) K :=
  SegC.q (Qs.pv (by apply Pv.loadA <;> assumption)) hlt hr
theorem Jx.loadA {α : Type} {T b j : Nat} [h : TSc P T] {x : Operand} (enc : α → SV) (d : α) (hx : ev F x = some (.val (.pointer (some ⟨b, j, none⟩)))) (i : Nat) {T' : TypeId} {ws : List α} (hi : L[i]? = some (.obj b T' (ws.map enc))) (hj : j < ws.length) {d0 : Nat} (hlt : Nat.blt d0 Γ.nt = true) (k : J P Γ ops Q ((d0, (enc (ws.getD j d))) :: F) L rest) : J P Γ ops Q F L (⟨some d0, .load T x, ty, pos, aft, none⟩ :: rest) :=
  J.pv (by apply Pv.loadA <;> assumption) hlt k
theorem J.storeA {α : Type} {T b j : Nat} [h : TSc P T] {x y : Operand} (enc : α → SV) (v : α) (hx : ev F x = some (.val (.pointer (some ⟨b, j, none⟩)))) (hy : ev F y = some (enc v)) (h1 : One (enc v)) (i : Nat) {T' : TypeId} {ws : List α} {L' : List Own}
    (hi : L[i]? = some (.obj b T' (ws.map enc))) (hj : j < ws.length) (hL : L.set i (.obj b T' ((ws.set j v).map enc)) = L') (k : J P Γ ops Q F L' rest) : J P Γ ops Q F L (⟨none, .store T x y, ty, pos, aft, none⟩ :: rest) :=
  J.store hx hy h1 i hi (by simp only [List.length_map]; exact Nat.ble_eq_true_of_le hj) (by rw [List.map_set]) hL k
theorem Pv.loadArr {T b n : Nat} [h : TAg P T n] {x : Operand} {cs : List SV} (hn : cs.length = n) (hx : ev F x = some (.val (.pointer (some ⟨b, 0, none⟩)))) (i : Nat) {T' : TypeId} (hi : L[i]? = some (.obj b T' cs)) :
    Pv P Γ F L ⟨dst, .load T x, ty, pos, aft, g⟩ (.agg cs) := Pv.loadAg hx i hi (by rw [List.drop_zero, ← hn, List.take_length]) hn
theorem Jx.loadArr {T b n : Nat} [h : TAg P T n] {x : Operand} {cs : List SV} (hn : cs.length = n) (hx : ev F x = some (.val (.pointer (some ⟨b, 0, none⟩)))) (i : Nat) {T' : TypeId} (hi : L[i]? = some (.obj b T' cs)) {d0 : Nat} (hlt : Nat.blt d0 Γ.nt = true) (k : J P Γ ops Q ((d0, (.agg cs)) :: F) L rest) : J P Γ ops Q F L (⟨some d0, .load T x, ty, pos, aft, none⟩ :: rest) :=
  J.pv (by apply Pv.loadArr <;> assumption) hlt k
theorem J.storeArr {T b n : Nat} [h : TAg P T n] {x y : Operand} {ds : List SV} (hn : ds.length = n) (hx : ev F x = some (.val (.pointer (some ⟨b, 0, none⟩)))) (hy : ev F y = some (.agg ds)) (i : Nat) {T' : TypeId} {cs : List SV} {L' : List Own}
    (hi : L[i]? = some (.obj b T' cs)) (ho : cs.length = n) (hL : L.set i (.obj b T' ds) = L') (k : J P Γ ops Q F L' rest) : J P Γ ops Q F L (⟨none, .store T x y, ty, pos, aft, none⟩ :: rest) :=
  J.storeAg hx hy hn i hi (by rw [ho]; simp) (by rw [hn, ← ho]; simp) hL k
theorem Pv.indexAg {α : Type} {T E by' n : Nat} {z : List Value} [h : TArr P T n E] [hI : TInfo P E 1 by' z] [hs : TSc P E] {x i : Operand} {k : IntKind} {m : Int} (enc : α → SV) (d : α) {ws : List α} (j : Nat) (hx : ev F x = some (.agg (ws.map enc)))
    (hi : ev F i = some (.val (.int k m))) (hm : m = (j : Int)) (h1 : j < n) (h2 : j < ws.length) : Pv P Γ F L ⟨dst, .index T x i, ty, pos, aft, g⟩ (enc (ws.getD j d)) := fun ρ w hst => by
  subst hm
  have hr := hst.ev x (by simp [Op.operands]) _ hx
  have hiv := hst.evv (x := i) (by simp [Op.operands]) hi
  generalize hv : ρ x = v at hr
  cases hr with
  | agg _ vs hl h1' hr =>
    obtain ⟨u, hu, hru, _⟩ := RelL.at ⟨hl, h1', hr⟩ (getElem?_map_lt enc ws d j h2)
    refine ⟨u, ?_, hru⟩
    have hsz : (sizeOf E).run P w = .ok 1 w := sizeOf_of (by have := hI.ok; cases hq : P.info? E <;> simp_all) w
    have := run_part_sc hs w vs.toArray j u (by simpa using hu)
    simp [execOp, hv, hiv, Instr.index, asIntOf, run_underlying h.ok, hsz, h1, this]
theorem Jx.indexAg {α : Type} {T E by' n : Nat} {z : List Value} [h : TArr P T n E] [hI : TInfo P E 1 by' z] [hs : TSc P E] {x i : Operand} {k : IntKind} {m : Int} (enc : α → SV) (d : α) {ws : List α} (j : Nat) (hx : ev F x = some (.agg (ws.map enc)))
    (hi : ev F i = some (.val (.int k m))) (hm : m = (j : Int)) (h1 : j < n) (h2 : j < ws.length) {d0 : Nat} (hlt : Nat.blt d0 Γ.nt = true) (k : J P Γ ops Q ((d0, (enc (ws.getD j d))) :: F) L rest) : J P Γ ops Q F L (⟨some d0, .index T x i, ty, pos, aft, none⟩ :: rest) :=
  J.pv (by apply Pv.indexAg <;> assumption) hlt k
theorem Pv.sliceArrPtr {T E n N : Nat} [h : TArr P T N E] {x : Operand} {el : Nat → List SV} (cs : List SV) (hx : ev F x = some (.sl 1 n el)) (hn : N ≤ n) (h0 : 0 < N) (hl : cs.length = N) (hc : ∀ j, j < N → (el j).getD 0 .any = cs.getD j .any) :
    Pv P Γ F L ⟨dst, .sliceToArrayPointer T x, ty, pos, aft, g⟩ (.pp cs) := fun ρ w hst => by
  have hr := hst.ev x (by simp [Op.operands]) _ hx
  generalize hv : ρ x = v at hr
  cases hr with
  | sl _ _ _ a cap vs hcap hmax hb h1 hl' hr =>
    rcases hb with hb | ⟨b, off, rfl, hz, hcell⟩
    · omega
    · refine ⟨.pointer (some ⟨b, off, none⟩), ?_, ?_⟩
      · simp [execOp, hv, Instr.arrayAt, run_underlying h.ok, Nat.not_lt.2 hn]
      · refine .pp cs b off vs (by omega) hz (fun j hj => hcell j (by omega)) (fun j hj => h1 j (by omega)) (fun j hj => ?_)
        have := hr j 0 (by omega) (by omega)
        rw [hc j (by omega)] at this
        simpa using this
theorem Cx.sliceArrPtr {T E n N : Nat} [h : TArr P T N E] {x : Operand} {el : Nat → List SV} (cs : List SV) (hx : ev F x = some (.sl 1 n el)) (hn : N ≤ n) (h0 : 0 < N) (hl : cs.length = N) (hc : ∀ j, j < N → (el j).getD 0 .any = cs.getD j .any) {d0 : Nat} {K : List (Nat × SV) → Prop} (hlt : Nat.blt d0 Γ.nt = true) (hr : SegC P Γ ops L ((d0, (.pp cs)) :: F) rest K) : SegC P Γ ops L F (⟨some d0, .sliceToArrayPointer T x, ty, pos, aft, none⟩ :: rest) K :=
  SegC.q (Qs.pv (by apply Pv.sliceArrPtr <;> assumption)) hlt hr
theorem Pv.buildA {T E n sz sz' by' by2 : Nat} {z z2 : List Value} [hI : TInfo P T sz by' z] [hA : TArr P T n E] [hE : TInfo P E sz' by2 z2] {parts : List (Nat × Operand)} {ss cs' : List SV} (ha' : evs F (parts.map (·.2)) = some ss) (hok' : partsB ss = true)
    (hz1 : z.all (·.oneCell') = true) (hf : fillS ((List.range n).map fun i => (i * sz', sz')) (z.map .val) ((parts.map (·.1)).zip ss) = some cs') : Pv P Γ F L ⟨dst, .build T parts.toArray, ty, pos, aft, g⟩ (.agg cs') := fun ρ w hst => by
    have ha := evs_args ha'
    have hok := partsB_ok hok'
    obtain ⟨zv, hzr, hzc, i, hi, rfl, rfl, hiz⟩ := run_zero hI w
    have hsE : (sizeOf E).run P w = .ok sz' w := sizeOf_of (by have := hE.ok; cases hq : P.info? E <;> simp_all) w
    have hrel : ∀ {xs : List Operand} {ss : List SV}, Args F xs ss → (∀ x ∈ xs, x ∈ parts.map (·.2)) → xs.length = ss.length ∧ ∀ (j : Nat) (s : SV) (x : Operand), ss[j]? = some s → xs[j]? = some x → Rel (ZL Γ.Z L) w s (ρ x) := by
      intro xs ss h
      induction h with
      | nil => exact fun _ => ⟨rfl, by simp⟩
      | @cons x s xs ss h hr ih =>
        intro hm
        obtain ⟨i1, i2⟩ := ih (fun y hy => hm y (List.mem_cons_of_mem _ hy))
        refine ⟨by simp [i1], fun j s' x' hs hx => ?_⟩
        cases j with
        | zero =>
          simp at hs hx; subst hs; subst hx
          exact hst.ev _ (by simp only [Op.operands, List.map_toArray, List.toList_toArray]; exact hm _ (List.mem_cons_self ..)) _ h
        | succ j => exact i2 j s' x' (by simpa using hs) (by simpa using hx)
      | @sub x s t xs ss h hsub hr ih =>
        intro hm
        obtain ⟨i1, i2⟩ := ih (fun y hy => hm y (List.mem_cons_of_mem _ hy))
        refine ⟨by simp [i1], fun j s' x' hs hx => ?_⟩
        cases j with
        | zero =>
          simp at hs hx; subst hs; subst hx
          exact hsub _ _ _ (hst.ev _ (by simp only [Op.operands, List.map_toArray, List.toList_toArray]; exact hm _ (List.mem_cons_self ..)) _ h)
        | succ j => exact i2 j s' x' (by simpa using hs) (by simpa using hx)
    obtain ⟨hl, hall⟩ := hrel ha (fun x hx => hx)
    have hzrel : RelL (ZL Γ.Z L) w (z.map .val) zv.cells.toList := by rw [hzc]; exact RelL.vals z (by simpa [List.all_eq_true] using hz1)
    obtain ⟨cells', hfill, hr'⟩ := fill_rel (pl := (List.range n).map fun i => (i * sz', sz')) (place := fun i => some (i * sz', sz')) (fun k q hq => by
      simp only [List.getElem?_map] at hq
      cases hk : (List.range n)[k]? with
      | none => rw [hk] at hq; simp at hq
      | some m =>
        rw [hk] at hq
        obtain ⟨hlt, hm⟩ := List.getElem?_eq_some_iff.1 hk
        simp only [List.getElem_range] at hm
        subst hm
        simpa using hq) ((parts.map (·.1)).zip ss) (parts.map fun p => (p.1, ρ p.2)) (z.map .val) zv.cells cs' (by simp at hl ⊢; omega) (by
      intro j p v hp hv
      rw [List.getElem?_zip_eq_some] at hp
      simp only [List.getElem?_map] at hp hv
      cases hq : parts[j]? with
      | none => rw [hq] at hv; simp at hv
      | some q =>
        rw [hq] at hp hv
        simp only [Option.map_some, Option.some.injEq] at hp hv
        subst hv
        exact ⟨hp.1.symm, hok.mem _ (List.mem_of_getElem? hp.2), hall j p.2 q.2 hp.2 (by simp [hq])⟩) hzrel hf
    refine ⟨.agg cells', ?_, ?_⟩
    · have hpm : (parts.toArray.map fun (p : Nat × Operand) => (p.1, ρ p.2)).toList = parts.map fun p => (p.1, ρ p.2) := by simp
      simp only [execOp, Instr.build, Sem.run_bind, hzr, Result.andThen_ok, run_underlying hA.ok, Sem.run_pure, hsE]
      rw [hpm, hfill]
      rfl
    · have := hr'.agg
      simpa using this
theorem Jx.buildA {T E n sz sz' by' by2 : Nat} {z z2 : List Value} [hI : TInfo P T sz by' z] [hA : TArr P T n E] [hE : TInfo P E sz' by2 z2] {parts : List (Nat × Operand)} {ss cs' : List SV} (ha' : evs F (parts.map (·.2)) = some ss) (hok' : partsB ss = true)
    (hz1 : z.all (·.oneCell') = true) (hf : fillS ((List.range n).map fun i => (i * sz', sz')) (z.map .val) ((parts.map (·.1)).zip ss) = some cs') {d0 : Nat} (hlt : Nat.blt d0 Γ.nt = true) (k : J P Γ ops Q ((d0, (.agg cs')) :: F) L rest) : J P Γ ops Q F L (⟨some d0, .build T parts.toArray, ty, pos, aft, none⟩ :: rest) :=
  J.pv (by apply Pv.buildA <;> assumption) hlt k
theorem perm_erase : ∀ {L : List Own} {i : Nat} {o : Own}, L[i]? = some o → L.Perm (o :: L.eraseIdx i)
  | [], i, o, h => by simp at h
  | x :: L, 0, o, h => by simp at h; subst h; simp
  | x :: L, i + 1, o, h => by
    simp only [List.getElem?_cons_succ] at h
    simp only [List.eraseIdx_cons_succ]
    exact (List.Perm.cons x (perm_erase h)).trans (List.Perm.swap ..)
theorem perm_set {L : List Own} {i : Nat} {o o' : Own} (h : L[i]? = some o) : (o' :: L.eraseIdx i).Perm (L.set i o') := by
  have h1 : (L.set i o')[i]? = some o' := by
    obtain ⟨hlt, rfl⟩ := List.getElem?_eq_some_iff.1 h
    simp [hlt]
  have := perm_erase h1
  rw [List.eraseIdx_set_eq] at this
  exact this.symm
theorem J.call1 [Gl P] [Globs P Γ] {d f : Nat} [hT : TFunc P f] {xs : List Operand} {ts : Array TypeId} {args : List SV} {o : Own} {R : SV → List Own → Prop} (i : Nat) (hF : FnC P f args [o] R) (hi : L[i]? = some o) (ha : Args F xs args)
    (hlt : Nat.blt d Γ.nt = true) (hone : ∀ s Lc', R s Lc' → ∃ o', Lc' = [o']) (h : ∀ s o', R s [o'] → J P Γ ops Q ((d, s) :: F) (L.set i o') rest) :
    J P Γ ops Q F L (⟨some d, .call { callee := .value (.func f), args := xs.toArray, argTypes := ts }, ty, pos, aft, none⟩ :: rest) :=
  J.perm (perm_erase hi) (J.call (Lr := L.eraseIdx i) hF rfl ha hlt fun s Lc' hR => by
    obtain ⟨o', rfl⟩ := hone s Lc' hR
    exact J.perm (perm_set hi) (h s o' hR))
end
end Go.Sse
namespace Go.Sse
open Go Go.Sse
set_option linter.unusedVariables false
set_option linter.unusedSimpArgs false
section
variable {P : Program} {Γ : Ctx} {ops : Array Oper} {Q : Exit → Act → World → Prop} {F : List (Nat × SV)} {L : List Own} {rest : List Oper}
variable {dst : Option Tmp} {ty : TypeId} {pos : String} {aft : Array Edge} {g : Option (Nat × Bool)}
theorem Qs.sub {o : Oper} {s t : SV} (h : Qs P Γ F L o s) (hs : Sub s t) : Qs P Γ F L o t :=
  fun a w K Q hws hx hK => h a w K Q hws hx fun v w' hst hr => hK v w' hst (hs _ _ _ hr)
theorem parts_of : ∀ {k : Nat} {parts : List (Nat × Operand)} {ss : List SV}, evs F (parts.map (·.2)) = some ss → parts.map (·.1) = List.range' k parts.length → (∀ s ∈ ss, PartOK s) → Parts F k parts ss
  | k, [], ss, h, _, _ => by
    simp only [List.map_nil, evs, Option.some.injEq] at h
    subst h; exact .nil
  | k, (i, x) :: r, ss, h, hi, hok => by
    simp only [List.map_cons, evs] at h
    simp only [List.map_cons, List.length_cons, List.range'_succ, List.cons.injEq] at hi
    obtain ⟨rfl, hi⟩ := hi
    cases hx : ev F x with
    | none => rw [hx] at h; simp at h
    | some s =>
      rw [hx] at h
      cases hr : evs F (r.map (·.2)) with
      | none => rw [hr] at h; simp at h
      | some ss' =>
        rw [hr] at h
        simp only [Option.some.injEq] at h
        subst h
        exact .cons hx (hok s (List.mem_cons_self ..)) (parts_of hr hi fun s hs => hok s (List.mem_cons_of_mem _ hs))
theorem One.cells {s : SV} (h : One s) : cellsS s = [s] := by cases h <;> rfl
theorem Qs.buildL {α : Type} {t E by' len : Nat} {z0 : Value} [ht : TSlice P t E] [hI : TInfo P E 1 by' [z0]] {parts : List (Nat × Operand)} (enc1 : α → SV) (d : α) (l : List α) (h1 : ∀ a, One (enc1 a)) (ha : evs F (parts.map (·.2)) = some (l.map enc1)) (hi : parts.map (·.1) = List.range' 0 parts.length)
    (hl : l.length = len) (h0 : 0 < len) (hmax : len ≤ 16777216) (hz : z0.oneCell' = true) : Qs P Γ F L ⟨dst, .buildSlice t len parts.toArray, ty, pos, aft, g⟩ (.sl 1 l.length (elOf (fun a => [enc1 a]) d l)) := by
  have hp := parts_of ha hi (fun s hs => by obtain ⟨a, _, rfl⟩ := List.mem_map.1 hs; exact .one (h1 a))
  have hc : ∀ a, cellsS (enc1 a) = [enc1 a] := fun a => (h1 a).cells
  refine (Qs.buildSlice (sz := 1) (z := [z0]) hp (by simpa using hl) (fun s hs => by obtain ⟨a, _, rfl⟩ := List.mem_map.1 hs; rw [hc]; rfl) rfl (by omega) (by omega) (by simpa using hz)).sub ?_
  subst hl
  refine Sub.sl fun i hi => ?_
  simp only [elOf, List.getD_eq_getElem?_getD, List.getElem?_map, List.getElem?_eq_getElem hi, Option.map_some, Option.getD_some, hc]
theorem Qs.buildBytes {t E by' len : Nat} [ht : TSlice P t E] [hI : TInfo P E 1 by' [.int .u8 0]] {parts : List (Nat × Operand)} (l : List UInt8) (ha : evs F (parts.map (·.2)) = some (l.map byte)) (hi : parts.map (·.1) = List.range' 0 parts.length)
    (hl : l.length = len) (h0 : 0 < len) (hmax : len ≤ 16777216) : Qs P Γ F L ⟨dst, .buildSlice t len parts.toArray, ty, pos, aft, g⟩ (bsl l) := Qs.buildL byte 0 l (fun _ => .val rfl) ha hi hl h0 hmax rfl
theorem Qs.buildTexts {t E by' len : Nat} [ht : TSlice P t E] [hI : TInfo P E 1 by' [.string ⟨#[]⟩]] {parts : List (Nat × Operand)} (l : List (List UInt8)) (ha : evs F (parts.map (·.2)) = some (l.map str)) (hi : parts.map (·.1) = List.range' 0 parts.length)
    (hl : l.length = len) (h0 : 0 < len) (hmax : len ≤ 16777216) : Qs P Γ F L ⟨dst, .buildSlice t len parts.toArray, ty, pos, aft, g⟩ (ssl l) := Qs.buildL str [] l (fun _ => .val rfl) ha hi hl h0 hmax rfl
theorem SrcOK.row {xt E E' sz m : Nat} [h : TSlice P xt E] {x : Operand} {v : Value} {el2 : Nat → List SV} (hx : ev F x = some (.val v)) (i : Nat) (hi : L[i]? = some (.row v E' sz m el2)) : SrcOK P Γ F L sz xt x m el2 := by
  intro ρ w hws hev
  have hv : ρ x = v := (hev _ hx).val_eq
  rcases hws.holds _ (mem_of_idx hi) with ⟨rfl, rfl⟩ | ⟨b, cap, cur, fz, rfl, hbk, hu, hnc, hcm, hcs, hone, hell, hrel⟩
  · refine ⟨[], ⟨⟨_, h.ok, by simp⟩, fun w' => by rw [hv]; simp [Builtin.lenOf], ?_, ?_, by simp, by simp⟩, by intro i hi; omega, by intro i j hi; omega⟩
    · rw [hv]; simp [Builtin.firstCells]
    · rw [hv]; simp [Builtin.firstCells]
  · have hle : m * sz ≤ cur.size := by rw [hcs]; exact Nat.mul_le_mul_right _ hnc
    have hcell : ∀ w' : World, w'.heap = w.heap → (Builtin.firstCells sz m (.slice (some ⟨b, 0, none⟩) m cap)).run P w' = .ok (cur.toList.take (m * sz)).toArray w' := by
      intro w' hw
      refine run_firstCells_some (P := P) w' sz m ⟨b, 0, none⟩ m cap _ (by simp only [List.length_take, Array.length_toList]; omega) ?_
      intro j u hu
      have hj : j < m * sz := by
        rcases Nat.lt_or_ge j (m * sz) with h | h
        · exact h
        · rw [List.getElem?_eq_none (by simp only [List.length_take]; omega)] at hu; simp at hu
      rw [List.getElem?_take, if_pos hj] at hu
      rw [add_plain, Nat.zero_add]
      have : w'.cell? ⟨b, j, none⟩ = w.cell? ⟨b, j, none⟩ := by simp [World.cell?, hw]
      rw [this, obj_cell hbk]
      simpa using hu
    refine ⟨cur.toList.take (m * sz), ⟨⟨_, h.ok, by simp⟩, fun w' => by rw [hv]; simp [Builtin.lenOf], ?_, ?_, by simp only [List.length_take, Array.length_toList]; omega, fun u hu => hone u (List.mem_of_mem_take hu)⟩, hell, fun i' j hi' hj => ?_⟩
    · rw [hv]; exact hcell w rfl
    · rw [hv]; exact hcell w.drew rfl
    · have := idx_lt hi' hj
      have e : (cur.toList.take (m * sz)).getD (i' * sz + j) undef = cur.toList.getD (i' * sz + j) undef := by
        simp only [List.getD_eq_getElem?_getD, List.getElem?_take, this, if_true]
      rw [e]; exact hrel i' j hi' hj
theorem J.appendNil {α : Type} {d t xt E sz by' : Nat} {z : List Value} [ht : TSlice P t E] [hI : TInfo P E sz by' z] {x : Operand} {enc : α → List SV} {dd : α} {l2 : List α}
    (hx : SrcOK P Γ F (.row (.slice none 0 0) E sz 0 (elOf enc dd []) :: L) sz xt x l2.length (elOf enc dd l2)) (hz : z.length = sz) (hz1 : z.all (·.oneCell') = true)
    (hb : l2.length ≤ maxLen ∧ l2.length * by' ≤ 140737488355328) (hlt : Nat.blt d Γ.nt = true) (k : ∀ v', v'.oneCell' = true → J P Γ ops Q ((d, .val v') :: F) (.row v' E sz l2.length (elOf enc dd l2) :: L) rest) :
    J P Γ ops Q F L (⟨some d, .call { callee := .builtin .append, args := #[.const (.slice none 0 0), x], argTypes := #[t, xt] }, ty, pos, aft, none⟩ :: rest) :=
  J.rowNil E sz (elOf enc dd []) (J.appendL (l := []) (s := .const (.slice none 0 0)) rfl hx hz hz1 (by simpa using hb) hlt k)
theorem WSt.rowNil {w : World} (E sz : Nat) (el : Nat → List SV) (h : WSt Γ L w) : WSt Γ (.row (.slice none 0 0) E sz 0 el :: L) w :=
  ⟨h.os, h.tape, h.output, h.size, h.keep, h.zlt, h.nodup, h.foot, fun o ho => by
    rcases List.mem_cons.1 ho with rfl | ho
    · exact .inl ⟨rfl, rfl⟩
    · exact h.holds o ho⟩
theorem St.rowNil {a : Act} {w : World} (E sz : Nat) (el : Nat → List SV) (h : St Γ F L a w) : St Γ F (.row (.slice none 0 0) E sz 0 el :: L) a w := ⟨h.ws.rowNil E sz el, h.nt, h.df, h.fr⟩
theorem W.rowNil {c : Code} (E sz : Nat) (el : Nat → List SV) (h : W P Γ Q F (.row (.slice none 0 0) E sz 0 el :: L) c) : W P Γ Q F L c := ⟨fun a w hst => h.go a w (hst.rowNil E sz el)⟩
theorem N.rowNil {K : Act → World → Prop} (E sz : Nat) (el : Nat → List SV) (h : N Γ K F (.row (.slice none 0 0) E sz 0 el :: L)) : N Γ K F L := ⟨fun a w hst => h.go a w (hst.rowNil E sz el)⟩
theorem JP.rowNil {S idx : List Nat} (E sz : Nat) (el : Nat → List SV) (h : JP P Γ ops Q S idx F (.row (.slice none 0 0) E sz 0 el :: L)) : JP P Γ ops Q S idx F L :=
  ⟨fun k listed a w hp hk => h.go k listed a w ⟨hp.sz, hp.lo, hp.hi, hp.cl, hp.ws.rowNil E sz el, hp.nt, hp.df, hp.fr⟩ hk⟩
theorem JP.append {α : Type} {l : List Oper} {S idx : List Nat} {G : List (Nat × SV)} {d t xt E sz by' : Nat} {z : List Value} [ht : TSlice P t E] [hI : TInfo P E sz by' z] {s x : Operand} {v : Value} {enc : α → List SV} {dd : α} {m m2 : List α} (i : Nat) (ks S' idx' : List Nat) (hc : (okIdx l.toArray S idx && okStep l.toArray S idx i ks S' idx') = true)
    (hoi : l[i]? = some ⟨some d, .call { callee := .builtin .append, args := #[s, x], argTypes := #[t, xt] }, ty, pos, aft, g⟩) (hre : SegC P Γ l.toArray (.row v E sz m.length (elOf enc dd m) :: L) G (opsAt l idx) (Ag G idx.length))
    (hsv : ev (keep ks G) s = some (.val v)) (hx : SrcOK P Γ (keep ks G) (.row v E sz m.length (elOf enc dd m) :: L) sz xt x m2.length (elOf enc dd m2)) (hz : z.length = sz) (hz1 : z.all (·.oneCell') = true)
    (hb : m.length + m2.length ≤ maxLen ∧ (m.length + m2.length) * by' ≤ 140737488355328) (hlt : Nat.blt d Γ.nt = true)
    (k : ∀ v', v'.oneCell' = true → JP P Γ l.toArray Q S' idx' ((d, .val v') :: G) (.row v' E sz (m ++ m2).length (elOf enc dd (m ++ m2)) :: L)) : JP P Γ l.toArray Q S idx G (.row v E sz m.length (elOf enc dd m) :: L) :=
  JP.do1 i ks S' idx' hc hoi hre (OpS.appendRow hsv hx hz hz1 hb.1 hb.2 (el' := elOf enc dd (m ++ m2)) (fun i hi => elOf_append_left enc dd m m2 i hi) (fun i _ => elOf_append_right enc dd m m2 i)) hlt (by
    rintro r L' ⟨v', hv', rfl, rfl⟩
    have := k v' hv'
    rwa [List.length_append] at this)
theorem JP.call [Gl P] [Globs P Γ] {l : List Oper} {S idx : List Nat} {G : List (Nat × SV)} {d f : Nat} [hT : TFunc P f] {xs : List Operand} {ts : Array TypeId} {args : List SV} {Lc Lr : List Own} {R : SV → List Own → Prop} (i : Nat) (ks S' idx' : List Nat) (hF : FnC P f args Lc R) (hL : L = Lc ++ Lr) (hc : (okIdx l.toArray S idx && okStep l.toArray S idx i ks S' idx') = true)
    (hoi : l[i]? = some ⟨some d, .call { callee := .value (.func f), args := xs.toArray, argTypes := ts }, ty, pos, aft, g⟩) (hre : SegC P Γ l.toArray L G (opsAt l idx) (Ag G idx.length)) (ha : Args (keep ks G) xs args) (hlt : Nat.blt d Γ.nt = true)
    (k : ∀ s Lc', R s Lc' → JP P Γ l.toArray Q S' idx' ((d, s) :: G) (Lc' ++ Lr)) : JP P Γ l.toArray Q S idx G L :=
  JP.do1 i ks S' idx' hc hoi hre (OpS.call hF hL ha) hlt (by rintro s L' ⟨Lc', hR, rfl⟩; exact k s Lc' hR)
theorem JP.storeAg {l : List Oper} {S idx : List Nat} {G : List (Nat × SV)} {T b o n : Nat} [hT : TAg P T n] {x y : Operand} (i : Nat) (ks S' idx' : List Nat) (hc : (okIdx l.toArray S idx && okStep l.toArray S idx i ks S' idx') = true) (hoi : l[i]? = some ⟨none, .store T x y, ty, pos, aft, g⟩)
    (hre : SegC P Γ l.toArray L G (opsAt l idx) (Ag G idx.length)) (hx : ev (keep ks G) x = some (.val (.pointer (some ⟨b, o, none⟩)))) {ds : List SV} (hy : ev (keep ks G) y = some (.agg ds)) (hn : ds.length = n) (j : Nat) {T' : TypeId} {cs cs' : List SV} {L' : List Own}
    (hj : L[j]? = some (.obj b T' cs)) (ho : Nat.ble (o + n) cs.length = true) (hcs : cs.take o ++ ds ++ cs.drop (o + ds.length) = cs') (hL : L.set j (.obj b T' cs') = L') (k : JP P Γ l.toArray Q S' idx' G L') : JP P Γ l.toArray Q S idx G L :=
  JP.do0 i ks S' idx' hc hoi hre (OpS.storeAg hx hy hn j hj (Nat.le_of_ble_eq_true ho)) (by rintro sv L'' rfl; rw [hcs, hL]; exact k)
theorem J.appendAt {α : Type} {d t xt E sz by' : Nat} {z : List Value} [ht : TSlice P t E] [hI : TInfo P E sz by' z] {s x : Operand} {v : Value} {enc : α → List SV} {dd : α} {l l2 : List α} (i : Nat)
    (hi : L[i]? = some (.row v E sz l.length (elOf enc dd l)))
    (hsv : ev (F := F) s = some (.val v)) (hx : SrcOK P Γ F (.row v E sz l.length (elOf enc dd l) :: L.eraseIdx i) sz xt x l2.length (elOf enc dd l2)) (hz : z.length = sz) (hz1 : z.all (·.oneCell') = true)
    (hb : l.length + l2.length ≤ maxLen ∧ (l.length + l2.length) * by' ≤ 140737488355328) (hlt : Nat.blt d Γ.nt = true) (k : ∀ v', v'.oneCell' = true → J P Γ ops Q ((d, .val v') :: F) (L.set i (.row v' E sz (l ++ l2).length (elOf enc dd (l ++ l2)))) rest) :
    J P Γ ops Q F L (⟨some d, .call { callee := .builtin .append, args := #[s, x], argTypes := #[t, xt] }, ty, pos, aft, none⟩ :: rest) :=
  J.perm (perm_erase hi) (J.appendL hsv hx hz hz1 hb hlt fun v' hv' => J.perm (perm_set hi) (k v' hv'))
theorem W.freezeAt {c : Code} (j i : Nat) {v : Value} {E sz n : Nat} {el : Nat → List SV} (hj : L[j]? = some (.row v E sz n el)) (hi : look F i = some (.val v)) (hmax : n ≤ maxLen) (h : W P Γ Q ((i, .sl sz n el) :: F) (L.eraseIdx j) c) : W P Γ Q F L c :=
  W.perm (perm_erase hj) (W.freeze i hi hmax h)
theorem Sub.slOf {α : Type} {sz n : Nat} {el : Nat → List SV} {enc : α → List SV} {d : α} {l : List α} (hn : n = l.length) (h : ∀ i, i < n → el i = enc (l.getD i d)) : Sub (.sl sz n el) (.sl sz l.length (elOf enc d l)) := by
  subst hn; exact Sub.sl h
theorem Pv.takeL {α : Type} {T E sz by' : Nat} {z : List Value} [h : TSlice P T E] [hI : TInfo P E sz by' z] {x j : Operand} {k : IntKind} {m : Int} {enc : α → List SV} {d : α} {l : List α} (c : Nat) (hx : ev F x = some (.sl sz l.length (elOf enc d l))) (hj : ev F j = some (.val (.int k m))) (hm : m = (c : Int)) (hc : c ≤ l.length) :
    Pv P Γ F L ⟨dst, .slice T x none (some j) none, ty, pos, aft, g⟩ (.sl sz (l.take c).length (elOf enc d (l.take c))) := by
  subst hm
  refine (Pv.slSh hx hj (by omega) (by omega)).sub (Sub.slOf (by rw [List.length_take, Int.toNat_natCast]; omega) fun i hi => ?_)
  simp only [Int.toNat_natCast] at hi
  simp only [elOf, List.getD_eq_getElem?_getD, List.getElem?_take, hi, if_true]
theorem Cx.takeL {α : Type} {T E sz by' : Nat} {z : List Value} [h : TSlice P T E] [hI : TInfo P E sz by' z] {x j : Operand} {k : IntKind} {m : Int} {enc : α → List SV} {d : α} {l : List α} (c : Nat) (hx : ev F x = some (.sl sz l.length (elOf enc d l))) (hj : ev F j = some (.val (.int k m))) (hm : m = (c : Int)) (hc : c ≤ l.length) {d0 : Nat} {K : List (Nat × SV) → Prop} (hlt : Nat.blt d0 Γ.nt = true) (hr : SegC P Γ ops L ((d0, (.sl sz (l.take c).length (elOf enc d (l.take c)))) :: F) rest K) : SegC P Γ ops L F (⟨some d0, .slice T x none (some j) none, ty, pos, aft, none⟩ :: rest) K :=
  SegC.q (Qs.pv (by apply Pv.takeL <;> assumption)) hlt hr
theorem Pv.dropL {α : Type} {T E sz by' : Nat} {z : List Value} [h : TSlice P T E] [hI : TInfo P E sz by' z] {x j : Operand} {k : IntKind} {m : Int} {enc : α → List SV} {d : α} {l : List α} (c : Nat) (hx : ev F x = some (.sl sz l.length (elOf enc d l))) (hj : ev F j = some (.val (.int k m))) (hm : m = (c : Int)) (hc : c ≤ l.length) :
    Pv P Γ F L ⟨dst, .slice T x (some j) none none, ty, pos, aft, g⟩ (.sl sz (l.drop c).length (elOf enc d (l.drop c))) := by
  subst hm
  refine (Pv.slSl hx hj (by omega) (by omega)).sub (Sub.slOf (by rw [List.length_drop, Int.toNat_natCast]) fun i hi => ?_)
  simp only [elOf, List.getD_eq_getElem?_getD, List.getElem?_drop, Int.toNat_natCast]
theorem Jx.dropL {α : Type} {T E sz by' : Nat} {z : List Value} [h : TSlice P T E] [hI : TInfo P E sz by' z] {x j : Operand} {k : IntKind} {m : Int} {enc : α → List SV} {d : α} {l : List α} (c : Nat) (hx : ev F x = some (.sl sz l.length (elOf enc d l))) (hj : ev F j = some (.val (.int k m))) (hm : m = (c : Int)) (hc : c ≤ l.length) {d0 : Nat} (hlt : Nat.blt d0 Γ.nt = true) (k : J P Γ ops Q ((d0, (.sl sz (l.drop c).length (elOf enc d (l.drop c)))) :: F) L rest) : J P Γ ops Q F L (⟨some d0, .slice T x (some j) none none, ty, pos, aft, none⟩ :: rest) :=
  J.pv (by apply Pv.dropL <;> assumption) hlt k
theorem Pv.lenRow {T E : Nat} [h : TSlice P T E] {x : Operand} {v : Value} {E' sz n : Nat} {el : Nat → List SV} (hx : ev F x = some (.val v)) (i : Nat) (hi : L[i]? = some (.row v E' sz n el)) :
    Pv P Γ F L ⟨dst, .call { callee := .builtin .len, args := #[x], argTypes := #[T] }, ty, pos, aft, g⟩ (int n) := fun ρ w hst => by
  have hv := hst.evv (x := x) (by simp [Op.operands, Call.operands]) hx
  rcases hst.ws.holds _ (mem_of_idx hi) with ⟨rfl, rfl⟩ | ⟨b, cap, cur, fz, rfl, _⟩
  · exact ⟨_, by simp [execOp, resolve, invoke, builtin, hv, Builtin.len_, run_underlying h.ok, goInt], .val _⟩
  · exact ⟨_, by simp [execOp, resolve, invoke, builtin, hv, Builtin.len_, run_underlying h.ok, goInt], .val _⟩
theorem Jx.lenRow {T E : Nat} [h : TSlice P T E] {x : Operand} {v : Value} {E' sz n : Nat} {el : Nat → List SV} (hx : ev F x = some (.val v)) (i : Nat) (hi : L[i]? = some (.row v E' sz n el)) {d0 : Nat} (hlt : Nat.blt d0 Γ.nt = true) (k : J P Γ ops Q ((d0, (int n)) :: F) L rest) : J P Γ ops Q F L (⟨some d0, .call { callee := .builtin .len, args := #[x], argTypes := #[T] }, ty, pos, aft, none⟩ :: rest) :=
  J.pv (by apply Pv.lenRow <;> assumption) hlt k
end
end Go.Sse
namespace Go.Sse
open Go Go.Sse
set_option linter.unusedVariables false
set_option linter.unusedSimpArgs false
inductive Leaf where
  | b | i (k : IntKind) | s
def leafFields (P : Program) (g : TypeId → Option (List Leaf)) : List Field → Nat → Option (List Leaf)
  | [], _ => some []
  | f :: fs, off => if f.offset = off ∧ f.name ≠ "_" then
      match g f.type with
      | some l => if P.cellsOf f.type = l.length then (leafFields P g fs (off + l.length)).map (l ++ ·) else none
      | none => none
    else none
def leavesAt (P : Program) : Nat → TypeId → Option (List Leaf)
  | 0, _ => none
  | d + 1, t => match P.underlying t with
    | some .bool => some [.b]
    | some (.int k) => some [.i k]
    | some .string => some [.s]
    | some (.array n e) => match leavesAt P d e with
      | some l => if P.cellsOf e = l.length then some (List.replicate n l).flatten else none
      | none => none
    | some (.struct fs) => if P.stoodInHeld t = true then none else leafFields P (leavesAt P d) fs.toList 0
    | _ => none
def isAggD : Option TypeDesc → Bool
  | some (.struct _) | some (.array _ _) => true
  | _ => false
section
variable {P : Program}
end
class TLeaf (P : Program) (t : Nat) (ls : outParam (List Leaf)) : Prop where
  ok : leavesAt P 20 t = some ls ∧ isAggD (P.underlying t) = true ∧ P.eqGuardType P.depth t = false
section
variable {P : Program} {Γ : Ctx} {ops : Array Oper} {Q : Exit → Act → World → Prop} {F : List (Nat × SV)} {L : List Own} {rest : List Oper}
variable {dst : Option Tmp} {ty : TypeId} {pos : String} {aft : Array Edge} {g : Option (Nat × Bool)}
section
variable {t t2 : TypeId} {ls : List Leaf} [h : TLeaf P t ls] {x y : Operand} {cs ds : List SV} {us vs : List Value} (b : Bool)
end
end
end Go.Sse
namespace Go.Sse
open Go Go.Sse
set_option linter.unusedVariables false
set_option linter.unusedSimpArgs false
set_option maxRecDepth 10000
section
variable {P : Program} {Γ : Ctx} {ops : Array Oper} {Q : Exit → Act → World → Prop} {F : List (Nat × SV)} {L : List Own} {rest : List Oper}
variable {dst : Option Tmp} {ty : TypeId} {pos : String} {aft : Array Edge} {g : Option (Nat × Bool)}
theorem Pv.shl8 {t t2 : TypeId} {x y : Operand} {k : IntKind} {n : Nat} (hx : ev F x = some (int (n : Int))) (hy : ev F y = some (.val (.int k 8))) (h : n * 256 < 9223372036854775808) : Pv P Γ F L ⟨dst, .binOp .shl t x y t2, ty, pos, aft, g⟩ (int ((n * 256 : Nat) : Int)) := by
  have := Pv.shl (P := P) (Γ := Γ) (L := L) (dst := dst) (ty := ty) (pos := pos) (aft := aft) (g := g) (t := t) (t2 := t2) hx hy (by decide)
  have e : IntKind.i64.wrap ((n : Int) * 2 ^ Min.min (8 : Int).toNat IntKind.i64.bits) = ((n * 256 : Nat) : Int) := by
    rw [show (2 : Int) ^ Min.min (8 : Int).toNat IntKind.i64.bits = 256 by decide, wrap_i64 (by omega)]
    omega
  rwa [e] at this
theorem Jx.shl8 {t t2 : TypeId} {x y : Operand} {k : IntKind} {n : Nat} (hx : ev F x = some (int (n : Int))) (hy : ev F y = some (.val (.int k 8))) (h : n * 256 < 9223372036854775808) {d0 : Nat} (hlt : Nat.blt d0 Γ.nt = true) (k : J P Γ ops Q ((d0, (int ((n * 256 : Nat) : Int))) :: F) L rest) : J P Γ ops Q F L (⟨some d0, .binOp .shl t x y t2, ty, pos, aft, none⟩ :: rest) :=
  J.pv (by apply Pv.shl8 <;> assumption) hlt k
theorem or_byte {n b : Nat} (hb : b < 256) (h : n * 256 + b < 9223372036854775808) : IntKind.i64.wrap ((BitVec.ofInt 64 ((n * 256 : Nat) : Int) ||| BitVec.ofInt 64 (b : Int)).toNat : Int) = ((n * 256 + b : Nat) : Int) := by
  rw [BitVec.toNat_or, BitVec.ofInt_natCast, BitVec.ofInt_natCast, BitVec.toNat_ofNat, BitVec.toNat_ofNat, Nat.mod_eq_of_lt (by omega), Nat.mod_eq_of_lt (by omega)]
  have : n * 256 ||| b = n * 256 + b := by
    have := Nat.shiftLeft_add_eq_or_of_lt (i := 8) (b := b) (by omega) n
    rw [Nat.shiftLeft_eq] at this
    exact this.symm
  rw [this, wrap_i64 (by omega)]
theorem Pv.orByte {t t2 : TypeId} {x y : Operand} {n b : Nat} (hx : ev F x = some (int ((n * 256 : Nat) : Int))) (hy : ev F y = some (int (b : Int))) (hb : b < 256) (h : n * 256 + b < 9223372036854775808) : Pv P Γ F L ⟨dst, .binOp .or t x y t2, ty, pos, aft, g⟩ (int ((n * 256 + b : Nat) : Int)) := by
  have := Pv.bor (P := P) (Γ := Γ) (L := L) (dst := dst) (ty := ty) (pos := pos) (aft := aft) (g := g) (t := t) (t2 := t2) hx hy
  exact (congrArg (fun z => Pv P Γ F L ⟨dst, .binOp .or t x y t2, ty, pos, aft, g⟩ (SV.val (.int .i64 z))) (or_byte hb h)).mp this
theorem Jx.orByte {t t2 : TypeId} {x y : Operand} {n b : Nat} (hx : ev F x = some (int ((n * 256 : Nat) : Int))) (hy : ev F y = some (int (b : Int))) (hb : b < 256) (h : n * 256 + b < 9223372036854775808) {d0 : Nat} (hlt : Nat.blt d0 Γ.nt = true) (k : J P Γ ops Q ((d0, (int ((n * 256 + b : Nat) : Int))) :: F) L rest) : J P Γ ops Q F L (⟨some d0, .binOp .or t x y t2, ty, pos, aft, none⟩ :: rest) :=
  J.pv (by apply Pv.orByte <;> assumption) hlt k
theorem Pv.arrFrom {T E by' n : Nat} {z : List Value} [h : TArr P T n E] [hI : TInfo P E 1 by' z] {x i : Operand} {k : IntKind} {b : Nat} {m : Int} (j : Nat) (hx : ev F x = some (.val (.pointer (some ⟨b, 0, none⟩))))
    (hi : ev F i = some (.val (.int k m))) (hm : m = (j : Int)) (h1 : j ≤ n) : Pv P Γ F L ⟨dst, .slice T x (some i) none none, ty, pos, aft, g⟩ (.val (.slice (some ⟨b, if n = j then 0 else j, none⟩) (n - j) (n - j))) := by
  subst hm
  have := Pv.sliceArrL (P := P) (Γ := Γ) (L := L) (dst := dst) (ty := ty) (pos := pos) (aft := aft) (g := g) (T := T) hx hi (by omega) (by omega)
  rw [Int.toNat_natCast] at this
  by_cases e : n = j
  · simp only [e, if_true] at this ⊢; exact this
  · simp only [e, if_false, Nat.zero_add, Nat.mul_one] at this ⊢; exact this
theorem Cx.arrFrom {T E by' n : Nat} {z : List Value} [h : TArr P T n E] [hI : TInfo P E 1 by' z] {x i : Operand} {k : IntKind} {b : Nat} {m : Int} (j : Nat) (hx : ev F x = some (.val (.pointer (some ⟨b, 0, none⟩))))
    (hi : ev F i = some (.val (.int k m))) (hm : m = (j : Int)) (h1 : j ≤ n) {d0 : Nat} {K : List (Nat × SV) → Prop} (hlt : Nat.blt d0 Γ.nt = true) (hr : SegC P Γ ops L ((d0, (.val (.slice (some ⟨b, if n = j then 0 else j, none⟩) (n - j) (n - j)))) :: F) rest K) : SegC P Γ ops L F (⟨some d0, .slice T x (some i) none none, ty, pos, aft, none⟩ :: rest) K :=
  SegC.q (Qs.pv (by apply Pv.arrFrom <;> assumption)) hlt hr
theorem Pv.arrStr {src d e : TypeId} [hs : TSlice P src e] [he : TInt P e .u8] [hd : TStr P d] {x : Operand} {b j n : Nat} {T : TypeId} (ws : List UInt8) (hx : ev F x = some (.val (.slice (some ⟨b, if n = j then 0 else j, none⟩) (n - j) (n - j)))) (i : Nat) (hi : L[i]? = some (.obj b T (ws.map byte)))
    (hl : ws.length = n) (hj : j ≤ n) : Pv P Γ F L ⟨dst, .convert src d x, ty, pos, aft, g⟩ (str (ws.drop j)) := by
  refine Pv.bytesStrObj (ws.drop j) hx i hi (by rw [List.length_drop, hl]) fun k hk => ?_
  have hn : ¬ n = j := by omega
  rw [if_neg hn, getElem?_map_lt byte ws 0 (j + k) (by omega)]
  simp [List.getD_eq_getElem?_getD, List.getElem?_drop]
theorem Cx.arrStr {src d e : TypeId} [hs : TSlice P src e] [he : TInt P e .u8] [hd : TStr P d] {x : Operand} {b j n : Nat} {T : TypeId} (ws : List UInt8) (hx : ev F x = some (.val (.slice (some ⟨b, if n = j then 0 else j, none⟩) (n - j) (n - j)))) (i : Nat) (hi : L[i]? = some (.obj b T (ws.map byte)))
    (hl : ws.length = n) (hj : j ≤ n) {d0 : Nat} {K : List (Nat × SV) → Prop} (hlt : Nat.blt d0 Γ.nt = true) (hr : SegC P Γ ops L ((d0, (str (ws.drop j))) :: F) rest K) : SegC P Γ ops L F (⟨some d0, .convert src d x, ty, pos, aft, none⟩ :: rest) K :=
  SegC.q (Qs.pv (by apply Pv.arrStr <;> assumption)) hlt hr
theorem J.guardNoU {dst : Tmp} {op : Op} {ty : TypeId} {pos : String} {aft : Array Edge} {j d : Nat} {want b : Bool} {og : Oper}
    (ho : ops[j]? = some og) (hd : og.dst = some d) (hv : look F d = some (.val (.bool b))) (hb : b = !want) (hlt : Nat.blt dst Γ.nt = true)
    (h : J P Γ ops Q ((dst, .val undef) :: F) L rest) : J P Γ ops Q F L (⟨some dst, op, ty, pos, aft, some (j, want)⟩ :: rest) :=
  ⟨fun a w hst => by
    have hw := wanted_guard (o := ⟨some dst, op, ty, pos, aft, some (j, want)⟩) rfl ho hd (hst.fr d _ hv).val_eq
    unfold wpList
    rw [if_neg (by rw [hw]; subst hb; cases want <;> simp)]
    exact h.go _ _ (hst.put (Step.refl hst.ws) hlt (.val _))⟩
theorem J.guardSkip {dst : Tmp} {op : Op} {ty : TypeId} {pos : String} {aft : Array Edge} {j d : Nat} {want : Bool} {og : Oper}
    (ho : ops[j]? = some og) (hd : og.dst = some d) (hv : look F d = some (.val undef)) (hlt : Nat.blt dst Γ.nt = true)
    (h : J P Γ ops Q ((dst, .val undef) :: F) L rest) : J P Γ ops Q F L (⟨some dst, op, ty, pos, aft, some (j, want)⟩ :: rest) :=
  ⟨fun a w hst => by
    have hw := wanted_undef (o := ⟨some dst, op, ty, pos, aft, some (j, want)⟩) rfl ho hd (hst.fr d _ hv).val_eq
    unfold wpList
    rw [if_neg (by rw [hw]; simp)]
    exact h.go _ _ (hst.put (Step.refl hst.ws) hlt (.val _))⟩
end
end Go.Sse
namespace Go.Sse
open Go Go.Sse
set_option linter.unusedVariables false
set_option linter.unusedSimpArgs false
set_option maxRecDepth 10000
section
variable {P : Program} {Γ : Ctx} {ops : Array Oper} {Q : Exit → Act → World → Prop} {F : List (Nat × SV)} {L : List Own} {rest : List Oper}
variable {dst : Option Tmp} {ty : TypeId} {pos : String} {aft : Array Edge} {g : Option (Nat × Bool)}
end
end Go.Sse
namespace Go.Sse
open Go Go.Sse
set_option linter.unusedVariables false
set_option linter.unusedSimpArgs false
set_option maxRecDepth 10000
class TZero (P : Program) (E : Nat) (zv : outParam Value) : Prop where ok : (P.info? E).bind (·.zero) = some zv
section
variable {P : Program} {Γ : Ctx} {ops : Array Oper} {Q : Exit → Act → World → Prop} {F : List (Nat × SV)} {L : List Own} {rest : List Oper}
variable {dst : Option Tmp} {ty : TypeId} {pos : String} {aft : Array Edge} {g : Option (Nat × Bool)}
end
end Go.Sse
namespace Go.Sse
open Go Go.Sse
set_option linter.unusedVariables false
set_option linter.unusedSimpArgs false
set_option maxRecDepth 10000
section
variable {P : Program} {Γ : Ctx} {ops : Array Oper} {Q : Exit → Act → World → Prop} {F : List (Nat × SV)} {L : List Own} {rest : List Oper}
variable {dst : Option Tmp} {ty : TypeId} {pos : String} {aft : Array Edge} {g : Option (Nat × Bool)}
theorem J.rowView {l : List Oper} {v : Value} {E sz n : Nat} {el : Nat → List SV} (i : Nat) (hi : L[i]? = some (.row v E sz n el)) (hn : 0 < n) (h : ∀ b cap, v = .slice (some ⟨b, 0, none⟩) n cap → n ≤ cap → cap ≤ maxLen → J P Γ ops Q F L l) : J P Γ ops Q F L l :=
  ⟨fun a w hst => by
    rcases hst.ws.holds _ (mem_of_idx hi) with ⟨_, h0⟩ | ⟨b, cap, cur, fz, hv, _, _, h1, h2, _⟩
    · omega
    · exact (h b cap hv h1 h2).go a w hst⟩
end
end Go.Sse
namespace Go.Sse
open Go Go.Sse
set_option linter.unusedVariables false
set_option linter.unusedSimpArgs false
set_option maxRecDepth 10000
section
variable {P : Program} {Γ : Ctx} {ops : Array Oper} {Q : Exit → Act → World → Prop} {F : List (Nat × SV)} {L : List Own} {rest : List Oper}
variable {dst : Option Tmp} {ty : TypeId} {pos : String} {aft : Array Edge} {g : Option (Nat × Bool)}
end
end Go.Sse
namespace Go.Sse
open Go Go.Sse
set_option linter.unusedVariables false
set_option linter.unusedSimpArgs false
set_option maxRecDepth 10000
section
variable {P : Program} {Γ : Ctx} {l : List Oper} {Q : Exit → Act → World → Prop} {G : List (Nat × SV)} {L : List Own} {S idx : List Nat}
theorem JP.alloc {d E sz by' : Nat} {z : List Value} [h : TInfo P E sz by' z] {cs : List SV} {ty : TypeId} {pos : String} {aft : Array Edge} {g : Option (Nat × Bool)} (i : Nat) (ks S' idx' : List Nat) (hc : (okIdx l.toArray S idx && okStep l.toArray S idx i ks S' idx') = true)
    (hoi : l[i]? = some ⟨some d, .alloc E, ty, pos, aft, g⟩) (hre : SegC P Γ l.toArray L G (opsAt l idx) (Ag G idx.length)) (hz : z.map .val = cs) (h1 : z.all (·.oneCell') = true) (hlt : Nat.blt d Γ.nt = true)
    (k : ∀ b, JP P Γ l.toArray Q S' idx' ((d, .val (.pointer (some ⟨b, 0, none⟩))) :: G) (.obj b E cs :: L)) : JP P Γ l.toArray Q S idx G L :=
  JP.do1 i ks S' idx' hc hoi hre (OpS.newObj (ρ' := fun _ => True) (E := E) (cs := cs) (fun a w hst => by
    obtain ⟨v, hv, hc, _⟩ := run_zero h w
    refine ⟨z, ?_, hz ▸ RelL.vals z (by simpa [List.all_eq_true] using h1)⟩
    have : v.cells = z.toArray := by rw [← hc]
    simp [execOp, Instr.alloc, hv, newVar, newRow, this])) hlt (by rintro s L' ⟨b, rfl, rfl⟩; exact k b)
end
end Go.Sse
namespace Go.Sse
open Go Go.Sse
set_option linter.unusedVariables false
set_option linter.unusedSimpArgs false
set_option maxRecDepth 10000
theorem Sub.agg {cs ds : List SV} (h : SubL cs ds) : Sub (.agg cs) (.agg ds) := by
  intro Z w v hr
  obtain ⟨h1, h2⟩ := h.spec
  cases hr with
  | agg _ vs hl hone hrel => exact .agg ds vs (by omega) hone fun j hj => h2 j Z w _ (hrel j (by omega))
theorem SubL.refl : ∀ (cs : List SV), SubL cs cs
  | [] => .nil
  | s :: cs => .cons (Sub.refl s) (SubL.refl cs)
section
variable {P : Program} {Γ : Ctx} {ops : Array Oper} {Q : Exit → Act → World → Prop} {F : List (Nat × SV)} {L : List Own} {rest : List Oper}
variable {dst : Option Tmp} {ty : TypeId} {pos : String} {aft : Array Edge} {g : Option (Nat × Bool)}
end
end Go.Sse
namespace Go.Sse
open Go Go.Sse
set_option linter.unusedVariables false
set_option linter.unusedSimpArgs false
set_option maxRecDepth 10000
section
variable {P : Program} {Γ : Ctx} {ops : Array Oper} {Q : Exit → Act → World → Prop} {F : List (Nat × SV)} {L : List Own} {rest l : List Oper}
variable {dst : Option Tmp} {op : Op} {ty ty0 : TypeId} {pos pos0 : String} {aft aft0 : Array Edge} {g : Option (Nat × Bool)}
theorem J.gY {dst : Option Tmp} {op : Op} {ty : TypeId} {pos : String} {aft : Array Edge} {j d : Nat} {want b : Bool} {og : Oper}
    (ho : ops[j]? = some og) (hd : og.dst = some d) (hv : look F d = some (.val (.bool b)))
    (h : J P Γ ops Q F L (⟨dst, op, ty, pos, aft, none⟩ :: rest)) (hb : b = want := by first | rfl | assumption | (exact decide_eq_true (by first | assumption | omega | rfl)) | (exact decide_eq_false (by first | assumption | omega | rfl)) | (simp; done) | (simp; omega)) : J P Γ ops Q F L (⟨dst, op, ty, pos, aft, some (j, want)⟩ :: rest) := J.guardYes ho hd hv hb h
theorem J.gN {dst : Tmp} {op : Op} {ty : TypeId} {pos : String} {aft : Array Edge} {j d : Nat} {want b : Bool} {og : Oper}
    (ho : ops[j]? = some og) (hd : og.dst = some d) (hv : look F d = some (.val (.bool b))) (hlt : Nat.blt dst Γ.nt = true)
    (h : J P Γ ops Q ((dst, .val undef) :: F) L rest) (hb : b = !want := by first | rfl | assumption | (exact decide_eq_true (by first | assumption | omega | rfl)) | (exact decide_eq_false (by first | assumption | omega | rfl)) | (simp; done) | (simp; omega)) : J P Γ ops Q F L (⟨some dst, op, ty, pos, aft, some (j, want)⟩ :: rest) := J.guardNoU ho hd hv hb hlt h
theorem Jx.pT {c x y : Operand} {s : SV} {b : Bool} {d0 : Nat} (hc : ev F c = some (.val (.bool b))) (hx : ev F x = some s) (hlt : Nat.blt d0 Γ.nt = true) (k : J P Γ ops Q ((d0, s) :: F) L rest) (hb : b = true := by first | rfl | assumption | (exact decide_eq_true (by first | assumption | omega | rfl)) | (exact decide_eq_false (by first | assumption | omega | rfl)) | (simp; done) | (simp; omega)) :
    J P Γ ops Q F L (⟨some d0, .pick c x y, ty, pos, aft, none⟩ :: rest) := Jx.pickT hc hb hx hlt k
theorem Jx.pF {c x y : Operand} {s : SV} {b : Bool} {d0 : Nat} (hc : ev F c = some (.val (.bool b))) (hy : ev F y = some s) (hlt : Nat.blt d0 Γ.nt = true) (k : J P Γ ops Q ((d0, s) :: F) L rest) (hb : b = false := by first | rfl | assumption | (exact decide_eq_true (by first | assumption | omega | rfl)) | (exact decide_eq_false (by first | assumption | omega | rfl)) | (simp; done) | (simp; omega)) :
    J P Γ ops Q F L (⟨some d0, .pick c x y, ty, pos, aft, none⟩ :: rest) := Jx.pickF hc hb hy hlt k
theorem W.cT {c : Operand} {x y : Code} {b : Bool} (hc : ev F c = some (.val (.bool b))) (ht : W P Γ Q F L x) (hb : b = true := by first | rfl | assumption | (exact decide_eq_true (by first | assumption | omega | rfl)) | (exact decide_eq_false (by first | assumption | omega | rfl)) | (simp; done) | (simp; omega)) : W P Γ Q F L (.cond c x y) := W.condT hc hb ht
theorem W.cF {c : Operand} {x y : Code} {b : Bool} (hc : ev F c = some (.val (.bool b))) (hf : W P Γ Q F L y) (hb : b = false := by first | rfl | assumption | (exact decide_eq_true (by first | assumption | omega | rfl)) | (exact decide_eq_false (by first | assumption | omega | rfl)) | (simp; done) | (simp; omega)) : W P Γ Q F L (.cond c x y) := W.condF hc hb hf
theorem J.st {T b o : Nat} [h : TSc P T] {x y : Operand} {s : SV} (i : Nat) (hx : ev F x = some (.val (.pointer (some ⟨b, o, none⟩)))) (hy : ev F y = some s) {T' : TypeId} {cs cs' : List SV} {L' : List Own}
    (hi : L[i]? = some (.obj b T' cs)) (ho : Nat.blt o cs.length = true) (hcs : cs.set o s = cs') (hL : L.set i (.obj b T' cs') = L') (k : J P Γ ops Q F L' rest) (h1 : One s := by first | exact One.val rfl | exact One.sl | exact One.pp | exact One.slc) :
    J P Γ ops Q F L (⟨none, .store T x y, ty, pos, aft, none⟩ :: rest) := J.store hx hy h1 i hi ho hcs hL k
theorem SegC.gY {K : List (Nat × SV) → Prop} {dst : Option Tmp} {j e : Nat} {want b : Bool} {og : Oper}
    (hog : ops[j]? = some og) (hod : og.dst = some e) (hv : look F e = some (.val (.bool b))) (h : SegC P Γ ops L F (⟨dst, op, ty, pos, aft, none⟩ :: l) K) (hb : b = want := by first | rfl | assumption | (exact decide_eq_true (by first | assumption | omega | rfl)) | (exact decide_eq_false (by first | assumption | omega | rfl)) | (simp; done) | (simp; omega)) : SegC P Γ ops L F (⟨dst, op, ty, pos, aft, some (j, want)⟩ :: l) K := SegC.yes hog hod hv hb h
end
section
variable {P : Program} {Γ : Ctx} {Q : Exit → Act → World → Prop} {F : List (Nat × SV)} {L : List Own} {α : Type}
end
section
variable {P : Program} {Γ : Ctx} {Q : Exit → Act → World → Prop} {F : List (Nat × SV)} {L : List Own} {α : Type}
end
end Go.Sse
namespace Go.Sse
open Go Go.Sse
set_option linter.unusedVariables false
set_option linter.unusedSimpArgs false
set_option maxRecDepth 10000
section
variable {P : Program} {Γ : Ctx} {Q : Exit → Act → World → Prop} {F : List (Nat × SV)} {L : List Own} {α : Type}
theorem W.label {l : Nat} (h : N Γ (Q .normal) F L) : W P Γ Q F L (.label l) := ⟨fun a w hst => wp_label (h.go a w hst)⟩
theorem W.scopeS {c : Code} (h : W P Γ (Exit.noGoto Q) F L c) : W P Γ Q F L (.scope c) := ⟨fun a w hst => wp_scope_straight (h.go a w hst)⟩
theorem N.noGotoRet (h : N Γ (Q .ret) F L) : N Γ (Exit.noGoto Q .ret) F L := ⟨fun a w hst => h.go a w hst⟩
theorem N.noGotoNormal (h : N Γ (Q .normal) F L) : N Γ (Exit.noGoto Q .normal) F L := ⟨fun a w hst => h.go a w hst⟩
end
section
variable {P : Program} {Γ : Ctx} {ops : Array Oper} {Q : Exit → Act → World → Prop} {F G : List (Nat × SV)} {L L' : List Own}
theorem JP.perm {S idx : List Nat} (hp : L.Perm L') (h : JP P Γ ops Q S idx G L') : JP P Γ ops Q S idx G L :=
  ⟨fun k listed a w hq hk => by
    have hin : ∀ b, inF L' b ↔ inF L b := fun b => (hp.flatMap_right _).mem_iff.symm
    exact h.go k listed a w ⟨hq.sz, hq.lo, hq.hi, hq.cl, hq.ws.perm hp, hq.nt, hq.df, fun x s hx hb => (hq.fr x s hx hb).stable fun b _ hn => ⟨rfl, fun hc => hn (by rcases hc with hc | hc; exact .inl hc; exact .inr ((hin b).1 hc))⟩⟩ hk⟩
theorem WSt.rowRel {v : Value} {E sz n : Nat} {el : Nat → List SV} {w : World} (hws : WSt Γ (.row v E sz n el :: L) w) (hmax : n ≤ maxLen) : Rel (ZL Γ.Z L) w (.sl sz n el) v := by
  rcases hws.holds _ (List.mem_cons_self ..) with ⟨rfl, rfl⟩ | ⟨b, cap, cur, fz, rfl, hbk, hu, hnc, hcm, hcs, hone, hell, hrel⟩
  · exact .sl sz 0 el none 0 (fun _ => undef) (Nat.le_refl _) (Nat.zero_le _) (.inl (by simp)) (by simp) (by simp) (by simp)
  · have hle : n * sz ≤ cur.size := by rw [hcs]; exact Nat.mul_le_mul_right _ hnc
    have hnz : ¬ ZL Γ.Z L b := by
      have hnd := hws.nodup
      rw [foots_cons, List.nodup_append] at hnd
      rintro (h | h)
      · exact (hws.foot b (by simp [inF, foots_cons, Own.foot])).1 h
      · exact hnd.2.2 b (by simp [Own.foot]) b h rfl
    refine .sl sz n el (some ⟨b, 0, none⟩) cap (fun k => cur.toList.getD k undef) hnc hcm (.inr ⟨b, 0, rfl, hnz, fun k hk => ?_⟩) (fun k hk => ?_) hell (fun i j hi hj => (hrel i j hi hj).stable fun b' _ hn => ⟨rfl, fun hc => hn ?_⟩)
    · rw [Nat.zero_add, obj_cell hbk]
      have : k < cur.size := by omega
      simp [List.getD_eq_getElem?_getD, this]
    · have : k < cur.size := by omega
      refine hone _ ?_
      simp only [List.getD_eq_getElem?_getD, Array.getElem?_toList, Array.getElem?_eq_getElem this, Option.getD_some]
      exact Array.getElem_mem_toList this
    · rcases hc with hc | hc
      · exact .inl hc
      · refine .inr ?_
        simp only [inF, foots_cons, List.mem_append]
        exact .inr hc
end
end Go.Sse
namespace Go.Sse
open Go Go.Sse
set_option linter.unusedVariables false
set_option linter.unusedSimpArgs false
section
variable {P : Program} {Γ : Ctx} {ops : Array Oper} {Q : Exit → Act → World → Prop} {F : List (Nat × SV)} {L : List Own} {rest : List Oper}
variable {dst : Option Tmp} {ty : TypeId} {pos : String} {aft : Array Edge} {g : Option (Nat × Bool)}
end
end Go.Sse
namespace Go.Sse
open Go
set_option linter.unusedVariables false
set_option linter.unusedSimpArgs false
structure FnD (P : Program) [Gl P] (f : Nat) (args : List SV) (L : List Own) (R : SV → List Own → Prop) : Prop where
  go : ∀ (Z : Nat → Prop) (w : World) (vs : List Value), vs.length = args.length → (∀ j, j < args.length → Rel (ZL Z L) w (args.getD j .any) (vs.getD j undef)) →
    (∀ b, Z b → b < w.heap.size) → (foots L).Nodup → (∀ b, inF L b → ¬ Z b) → (∀ o ∈ L, o.holds (ZL Z L) w) →
    (∀ x ∈ Gl.gl P, x.1 < w.heap.size ∧ ¬ inF L x.1 ∧ ∀ i v, x.2[i]? = some v → w.cell? ⟨x.1, i, none⟩ = some v) → ∀ u, CallsD P f vs.toArray u w (fun e u' w' => u' = u ∧ RetP Z w L R e w')
instance {P : Program} [Gl P] {Z Fp : Nat → Prop} {w0 : World} {n : Nat} {d : Deferred} {df : List Deferred} [h : Globs P ⟨Z, w0, Fp, n, []⟩] : Globs P ⟨Z, w0, Fp, n, d :: df⟩ := ⟨h.ok⟩
theorem WSt.df {Z Fp : Nat → Prop} {w0 : World} {n : Nat} {df df' : List Deferred} {L : List Own} {w : World} (h : WSt ⟨Z, w0, Fp, n, df⟩ L w) : WSt ⟨Z, w0, Fp, n, df'⟩ L w :=
  ⟨h.os, h.tape, h.output, h.size, h.keep, h.zlt, h.nodup, h.foot, h.holds⟩
section
variable {P : Program} {ops : Array Oper} {Q : Exit → Act → World → Prop} {F : List (Nat × SV)} {L : List Own} {rest : List Oper} {Z Fp : Nat → Prop} {w0 : World} {n : Nat} {df : List Deferred}
variable {L0 : List Own} {R : SV → List Own → Prop} {fn : Func}
end
end Go.Sse
namespace Go.Sse
open Go Go.Sse
set_option linter.unusedVariables false
set_option linter.unusedSimpArgs false
set_option maxRecDepth 10000
def leafTy (P : Program) (t : TypeId) : Leaf → Bool
  | .b => match P.underlying t with | some .bool => true | _ => false
  | .i k => match P.underlying t with | some (.int k') => decide (k = k') | _ => false
  | .s => match P.underlying t with | some .string => true | _ => false
def flatF (P : Program) : List Field → Nat → List Leaf → Bool
  | [], _, [] => true
  | f :: fs, off, l :: ls => decide (f.offset = off) && (decide (f.name ≠ "_") && (leafTy P f.type l && flatF P fs (off + 1) ls))
  | _, _, _ => false
class TKey (P : Program) (K : Nat) (ls : outParam (List Leaf)) : Prop where
  leaf : TLeaf P K ls
  ok : (match P.underlying K with | some (.struct fs) => flatF P fs.toList 0 ls | _ => false) = true
section
variable {P : Program} {α : Type} [DecidableEq α] (enc : α → List Value) (inj : ∀ a b, enc a = enc b → a = b)
end
section
variable {P : Program} {Γ : Ctx} {ops : Array Oper} {Q : Exit → Act → World → Prop} {F : List (Nat × SV)} {L : List Own} {rest : List Oper}
variable {dst : Option Tmp} {ty : TypeId} {pos : String} {aft : Array Edge} {g : Option (Nat × Bool)}
variable {α : Type} [DecidableEq α] (enc : α → List Value)
end
end Go.Sse
namespace Go.Sse
open Go Go.Sse
set_option linter.unusedVariables false
set_option linter.unusedSimpArgs false
set_option maxRecDepth 10000
section
variable {P : Program} {Γ : Ctx} {ops : Array Oper} {Q : Exit → Act → World → Prop} {F : List (Nat × SV)} {L : List Own} {rest : List Oper}
variable {dst : Option Tmp} {ty : TypeId} {pos : String} {aft : Array Edge} {g : Option (Nat × Bool)}
end
end Go.Sse
namespace Go.Sse
open Go Go.Sse
set_option linter.unusedVariables false
set_option linter.unusedSimpArgs false
set_option maxRecDepth 10000
section
variable {P : Program} {Γ : Ctx} {ops : Array Oper} {Q : Exit → Act → World → Prop} {F G : List (Nat × SV)} {L : List Own} {l rest : List Oper} {S idx : List Nat}
variable {dst : Option Tmp} {ty : TypeId} {pos : String} {aft : Array Edge} {g : Option (Nat × Bool)}
end
end Go.Sse
namespace Go.Proofs.YtbdkenlkimiddaaDoor
open Go Go.Sse
set_option linter.unusedVariables false
instance : TSc Tryd.prog 0 := ⟨by kernel_rfl, by kernel_rfl⟩
instance : TSc Tryd.prog 1 := ⟨by kernel_rfl, by kernel_rfl⟩
instance : TInfo Tryd.prog 1 1 8 [.nilFunc] := ⟨by kernel_rfl⟩
instance : TInt Tryd.prog 2 .i64 := ⟨by kernel_rfl⟩
instance : TSc Tryd.prog 2 := ⟨by kernel_rfl, by kernel_rfl⟩
instance : TInfo Tryd.prog 2 1 8 [.int .i64 0] := ⟨by kernel_rfl⟩
instance : TInt Tryd.prog 3 .i64 := ⟨by kernel_rfl⟩
instance : TSc Tryd.prog 3 := ⟨by kernel_rfl, by kernel_rfl⟩
instance : TInfo Tryd.prog 3 1 8 [.int .i64 0] := ⟨by kernel_rfl⟩
instance : TBool Tryd.prog 4 := ⟨by kernel_rfl⟩
instance : TSc Tryd.prog 4 := ⟨by kernel_rfl, by kernel_rfl⟩
instance : TInfo Tryd.prog 4 1 1 [.bool false] := ⟨by kernel_rfl⟩
instance : TInt Tryd.prog 5 .u8 := ⟨by kernel_rfl⟩
instance : TSc Tryd.prog 5 := ⟨by kernel_rfl, by kernel_rfl⟩
instance : TInfo Tryd.prog 5 1 1 [.int .u8 0] := ⟨by kernel_rfl⟩
instance : TInt Tryd.prog 6 .u8 := ⟨by kernel_rfl⟩
instance : TSc Tryd.prog 6 := ⟨by kernel_rfl, by kernel_rfl⟩
instance : TInfo Tryd.prog 6 1 1 [.int .u8 0] := ⟨by kernel_rfl⟩
instance : TFld Tryd.prog 7 0 0 2 1 := ⟨by kernel_rfl, by decide⟩
instance : TFld Tryd.prog 7 1 1 3 1 := ⟨by kernel_rfl, by decide⟩
instance : TFld Tryd.prog 7 2 2 4 1 := ⟨by kernel_rfl, by decide⟩
instance : TFld Tryd.prog 7 3 3 6 1 := ⟨by kernel_rfl, by decide⟩
instance : TBuild Tryd.prog 7 [(0, 1), (1, 1), (2, 1), (3, 1)] := ⟨by kernel_rfl⟩
instance : TAg Tryd.prog 7 4 := ⟨by kernel_rfl, by kernel_rfl⟩
instance : TLeaf Tryd.prog 7 [.i .i64, .i .i64, .b, .i .u8] := ⟨by kernel_rfl, by kernel_rfl, by kernel_rfl⟩
instance : TInfo Tryd.prog 7 4 24 [.int .i64 0, .int .i64 0, .bool false, .int .u8 0] := ⟨by kernel_rfl⟩
instance : TFld Tryd.prog 8 0 0 2 1 := ⟨by kernel_rfl, by decide⟩
instance : TFld Tryd.prog 8 1 1 3 1 := ⟨by kernel_rfl, by decide⟩
instance : TFld Tryd.prog 8 2 2 4 1 := ⟨by kernel_rfl, by decide⟩
instance : TFld Tryd.prog 8 3 3 6 1 := ⟨by kernel_rfl, by decide⟩
instance : TBuild Tryd.prog 8 [(0, 1), (1, 1), (2, 1), (3, 1)] := ⟨by kernel_rfl⟩
instance : TAg Tryd.prog 8 4 := ⟨by kernel_rfl, by kernel_rfl⟩
instance : TLeaf Tryd.prog 8 [.i .i64, .i .i64, .b, .i .u8] := ⟨by kernel_rfl, by kernel_rfl, by kernel_rfl⟩
instance : TInfo Tryd.prog 8 4 24 [.int .i64 0, .int .i64 0, .bool false, .int .u8 0] := ⟨by kernel_rfl⟩
instance : TStr Tryd.prog 9 := ⟨by kernel_rfl⟩
instance : TSc Tryd.prog 9 := ⟨by kernel_rfl, by kernel_rfl⟩
instance : TInfo Tryd.prog 9 1 16 [.string ⟨#[]⟩] := ⟨by kernel_rfl⟩
instance : TStr Tryd.prog 10 := ⟨by kernel_rfl⟩
instance : TSc Tryd.prog 10 := ⟨by kernel_rfl, by kernel_rfl⟩
instance : TInfo Tryd.prog 10 1 16 [.string ⟨#[]⟩] := ⟨by kernel_rfl⟩
instance : TStr Tryd.prog 11 := ⟨by kernel_rfl⟩
instance : TSc Tryd.prog 11 := ⟨by kernel_rfl, by kernel_rfl⟩
instance : TInfo Tryd.prog 11 1 16 [.string ⟨#[]⟩] := ⟨by kernel_rfl⟩
instance : TInt Tryd.prog 12 .u64 := ⟨by kernel_rfl⟩
instance : TSc Tryd.prog 12 := ⟨by kernel_rfl, by kernel_rfl⟩
instance : TInfo Tryd.prog 12 1 8 [.int .u64 0] := ⟨by kernel_rfl⟩
instance : TFld Tryd.prog 13 0 0 9 1 := ⟨by kernel_rfl, by decide⟩
instance : TFld Tryd.prog 13 1 1 12 1 := ⟨by kernel_rfl, by decide⟩
instance : TBuild Tryd.prog 13 [(0, 1), (1, 1)] := ⟨by kernel_rfl⟩
instance : TAg Tryd.prog 13 2 := ⟨by kernel_rfl, by kernel_rfl⟩
instance : TInfo Tryd.prog 13 2 24 [.string ⟨#[]⟩, .int .u64 0] := ⟨by kernel_rfl⟩
instance : TFld Tryd.prog 14 0 0 9 1 := ⟨by kernel_rfl, by decide⟩
instance : TFld Tryd.prog 14 1 1 12 1 := ⟨by kernel_rfl, by decide⟩
instance : TBuild Tryd.prog 14 [(0, 1), (1, 1)] := ⟨by kernel_rfl⟩
instance : TAg Tryd.prog 14 2 := ⟨by kernel_rfl, by kernel_rfl⟩
instance : TInfo Tryd.prog 14 2 24 [.string ⟨#[]⟩, .int .u64 0] := ⟨by kernel_rfl⟩
instance : TPtr Tryd.prog 15 125 := ⟨by kernel_rfl⟩
instance : TSc Tryd.prog 15 := ⟨by kernel_rfl, by kernel_rfl⟩
instance : TInfo Tryd.prog 15 1 8 [.pointer none] := ⟨by kernel_rfl⟩
instance : TPtr Tryd.prog 16 128 := ⟨by kernel_rfl⟩
instance : TSc Tryd.prog 16 := ⟨by kernel_rfl, by kernel_rfl⟩
instance : TInfo Tryd.prog 16 1 8 [.pointer none] := ⟨by kernel_rfl⟩
instance : TPtr Tryd.prog 17 136 := ⟨by kernel_rfl⟩
instance : TSc Tryd.prog 17 := ⟨by kernel_rfl, by kernel_rfl⟩
instance : TInfo Tryd.prog 17 1 8 [.pointer none] := ⟨by kernel_rfl⟩
instance : TFld Tryd.prog 18 0 0 17 1 := ⟨by kernel_rfl, by decide⟩
instance : TBuild Tryd.prog 18 [(0, 1)] := ⟨by kernel_rfl⟩
instance : TAg Tryd.prog 18 1 := ⟨by kernel_rfl, by kernel_rfl⟩
instance : TInfo Tryd.prog 18 1 8 [.pointer none] := ⟨by kernel_rfl⟩
instance : TFld Tryd.prog 19 0 0 17 1 := ⟨by kernel_rfl, by decide⟩
instance : TBuild Tryd.prog 19 [(0, 1)] := ⟨by kernel_rfl⟩
instance : TAg Tryd.prog 19 1 := ⟨by kernel_rfl, by kernel_rfl⟩
instance : TInfo Tryd.prog 19 1 8 [.pointer none] := ⟨by kernel_rfl⟩
instance : TSc Tryd.prog 20 := ⟨by kernel_rfl, by kernel_rfl⟩
instance : TInfo Tryd.prog 20 1 16 [.nilIface] := ⟨by kernel_rfl⟩
instance : TInt Tryd.prog 21 .i32 := ⟨by kernel_rfl⟩
instance : TSc Tryd.prog 21 := ⟨by kernel_rfl, by kernel_rfl⟩
instance : TInfo Tryd.prog 21 1 4 [.int .i32 0] := ⟨by kernel_rfl⟩
instance : TSlice Tryd.prog 22 43 := ⟨by kernel_rfl⟩
instance : TSc Tryd.prog 22 := ⟨by kernel_rfl, by kernel_rfl⟩
instance : TInfo Tryd.prog 22 1 24 [.slice none 0 0] := ⟨by kernel_rfl⟩
instance : TSc Tryd.prog 23 := ⟨by kernel_rfl, by kernel_rfl⟩
instance : TInfo Tryd.prog 23 1 8 [.nilFunc] := ⟨by kernel_rfl⟩
instance : TSlice Tryd.prog 24 3 := ⟨by kernel_rfl⟩
instance : TSc Tryd.prog 24 := ⟨by kernel_rfl, by kernel_rfl⟩
instance : TInfo Tryd.prog 24 1 24 [.slice none 0 0] := ⟨by kernel_rfl⟩
instance : TSc Tryd.prog 25 := ⟨by kernel_rfl, by kernel_rfl⟩
instance : TSc Tryd.prog 26 := ⟨by kernel_rfl, by kernel_rfl⟩
instance : TInfo Tryd.prog 26 1 8 [.nilFunc] := ⟨by kernel_rfl⟩
instance : TSc Tryd.prog 27 := ⟨by kernel_rfl, by kernel_rfl⟩
instance : TSc Tryd.prog 28 := ⟨by kernel_rfl, by kernel_rfl⟩
instance : TInfo Tryd.prog 28 1 8 [.nilFunc] := ⟨by kernel_rfl⟩
instance : TSc Tryd.prog 29 := ⟨by kernel_rfl, by kernel_rfl⟩
instance : TInfo Tryd.prog 29 1 8 [.nilFunc] := ⟨by kernel_rfl⟩
instance : TSc Tryd.prog 30 := ⟨by kernel_rfl, by kernel_rfl⟩
instance : TInfo Tryd.prog 30 1 8 [.nilFunc] := ⟨by kernel_rfl⟩
instance : TSc Tryd.prog 31 := ⟨by kernel_rfl, by kernel_rfl⟩
instance : TInfo Tryd.prog 31 1 8 [.nilFunc] := ⟨by kernel_rfl⟩
instance : TSlice Tryd.prog 32 5 := ⟨by kernel_rfl⟩
instance : TSc Tryd.prog 32 := ⟨by kernel_rfl, by kernel_rfl⟩
instance : TInfo Tryd.prog 32 1 24 [.slice none 0 0] := ⟨by kernel_rfl⟩
instance : TSc Tryd.prog 33 := ⟨by kernel_rfl, by kernel_rfl⟩
instance : TInfo Tryd.prog 33 1 8 [.nilFunc] := ⟨by kernel_rfl⟩
instance : TArr Tryd.prog 34 2 3 := ⟨by kernel_rfl⟩
instance : TAg Tryd.prog 34 2 := ⟨by kernel_rfl, by kernel_rfl⟩
instance : TLeaf Tryd.prog 34 [.i .i64, .i .i64] := ⟨by kernel_rfl, by kernel_rfl, by kernel_rfl⟩
instance : TInfo Tryd.prog 34 2 16 [.int .i64 0, .int .i64 0] := ⟨by kernel_rfl⟩
instance : TPtr Tryd.prog 35 71 := ⟨by kernel_rfl⟩
instance : TSc Tryd.prog 35 := ⟨by kernel_rfl, by kernel_rfl⟩
instance : TInfo Tryd.prog 35 1 8 [.pointer none] := ⟨by kernel_rfl⟩
instance : TInt Tryd.prog 36 .i64 := ⟨by kernel_rfl⟩
instance : TSc Tryd.prog 36 := ⟨by kernel_rfl, by kernel_rfl⟩
instance : TInfo Tryd.prog 36 1 8 [.int .i64 0] := ⟨by kernel_rfl⟩
instance : TSc Tryd.prog 37 := ⟨by kernel_rfl, by kernel_rfl⟩
instance : TSc Tryd.prog 38 := ⟨by kernel_rfl, by kernel_rfl⟩
instance : TInfo Tryd.prog 38 1 8 [.nilFunc] := ⟨by kernel_rfl⟩
instance : TPtr Tryd.prog 39 75 := ⟨by kernel_rfl⟩
instance : TSc Tryd.prog 39 := ⟨by kernel_rfl, by kernel_rfl⟩
instance : TInfo Tryd.prog 39 1 8 [.pointer none] := ⟨by kernel_rfl⟩
instance : TSc Tryd.prog 40 := ⟨by kernel_rfl, by kernel_rfl⟩
instance : TSc Tryd.prog 41 := ⟨by kernel_rfl, by kernel_rfl⟩
instance : TInfo Tryd.prog 41 1 8 [.nilFunc] := ⟨by kernel_rfl⟩
instance : TSc Tryd.prog 42 := ⟨by kernel_rfl, by kernel_rfl⟩
instance : TInfo Tryd.prog 42 1 8 [.nilFunc] := ⟨by kernel_rfl⟩
instance : TSlice Tryd.prog 43 9 := ⟨by kernel_rfl⟩
instance : TSc Tryd.prog 43 := ⟨by kernel_rfl, by kernel_rfl⟩
instance : TInfo Tryd.prog 43 1 24 [.slice none 0 0] := ⟨by kernel_rfl⟩
instance : TSc Tryd.prog 44 := ⟨by kernel_rfl, by kernel_rfl⟩
instance : TInfo Tryd.prog 44 1 8 [.nilFunc] := ⟨by kernel_rfl⟩
instance : TSc Tryd.prog 45 := ⟨by kernel_rfl, by kernel_rfl⟩
instance : TInfo Tryd.prog 45 1 8 [.nilFunc] := ⟨by kernel_rfl⟩
instance : TSlice Tryd.prog 46 55 := ⟨by kernel_rfl⟩
instance : TSc Tryd.prog 46 := ⟨by kernel_rfl, by kernel_rfl⟩
instance : TInfo Tryd.prog 46 1 24 [.slice none 0 0] := ⟨by kernel_rfl⟩
instance : TSc Tryd.prog 47 := ⟨by kernel_rfl, by kernel_rfl⟩
instance : TInfo Tryd.prog 47 1 8 [.nilFunc] := ⟨by kernel_rfl⟩
instance : TFld Tryd.prog 48 0 0 9 1 := ⟨by kernel_rfl, by decide⟩
instance : TFld Tryd.prog 48 1 1 3 1 := ⟨by kernel_rfl, by decide⟩
instance : TFld Tryd.prog 48 2 2 3 1 := ⟨by kernel_rfl, by decide⟩
instance : TFld Tryd.prog 48 3 3 3 1 := ⟨by kernel_rfl, by decide⟩
instance : TFld Tryd.prog 48 4 4 4 1 := ⟨by kernel_rfl, by decide⟩
instance : TBuild Tryd.prog 48 [(0, 1), (1, 1), (2, 1), (3, 1), (4, 1)] := ⟨by kernel_rfl⟩
instance : TAg Tryd.prog 48 5 := ⟨by kernel_rfl, by kernel_rfl⟩
instance : TLeaf Tryd.prog 48 [.s, .i .i64, .i .i64, .i .i64, .b] := ⟨by kernel_rfl, by kernel_rfl, by kernel_rfl⟩
instance : TInfo Tryd.prog 48 5 48 [.string ⟨#[]⟩, .int .i64 0, .int .i64 0, .int .i64 0, .bool false] := ⟨by kernel_rfl⟩
instance : TFld Tryd.prog 49 0 0 9 1 := ⟨by kernel_rfl, by decide⟩
instance : TFld Tryd.prog 49 1 1 3 1 := ⟨by kernel_rfl, by decide⟩
instance : TFld Tryd.prog 49 2 2 3 1 := ⟨by kernel_rfl, by decide⟩
instance : TFld Tryd.prog 49 3 3 3 1 := ⟨by kernel_rfl, by decide⟩
instance : TFld Tryd.prog 49 4 4 4 1 := ⟨by kernel_rfl, by decide⟩
instance : TBuild Tryd.prog 49 [(0, 1), (1, 1), (2, 1), (3, 1), (4, 1)] := ⟨by kernel_rfl⟩
instance : TAg Tryd.prog 49 5 := ⟨by kernel_rfl, by kernel_rfl⟩
instance : TLeaf Tryd.prog 49 [.s, .i .i64, .i .i64, .i .i64, .b] := ⟨by kernel_rfl, by kernel_rfl, by kernel_rfl⟩
instance : TInfo Tryd.prog 49 5 48 [.string ⟨#[]⟩, .int .i64 0, .int .i64 0, .int .i64 0, .bool false] := ⟨by kernel_rfl⟩
instance : TSc Tryd.prog 50 := ⟨by kernel_rfl, by kernel_rfl⟩
instance : TSc Tryd.prog 51 := ⟨by kernel_rfl, by kernel_rfl⟩
instance : TInfo Tryd.prog 51 1 8 [.nilFunc] := ⟨by kernel_rfl⟩
instance : TSc Tryd.prog 52 := ⟨by kernel_rfl, by kernel_rfl⟩
instance : TSc Tryd.prog 53 := ⟨by kernel_rfl, by kernel_rfl⟩
instance : TInfo Tryd.prog 53 1 8 [.nilFunc] := ⟨by kernel_rfl⟩
instance : TFld Tryd.prog 54 0 0 3 1 := ⟨by kernel_rfl, by decide⟩
instance : TFld Tryd.prog 54 1 1 3 1 := ⟨by kernel_rfl, by decide⟩
instance : TFld Tryd.prog 54 2 2 43 1 := ⟨by kernel_rfl, by decide⟩
instance : TBuild Tryd.prog 54 [(0, 1), (1, 1), (2, 1)] := ⟨by kernel_rfl⟩
instance : TAg Tryd.prog 54 3 := ⟨by kernel_rfl, by kernel_rfl⟩
instance : TInfo Tryd.prog 54 3 40 [.int .i64 0, .int .i64 0, .slice none 0 0] := ⟨by kernel_rfl⟩
instance : TFld Tryd.prog 55 0 0 3 1 := ⟨by kernel_rfl, by decide⟩
instance : TFld Tryd.prog 55 1 1 3 1 := ⟨by kernel_rfl, by decide⟩
instance : TFld Tryd.prog 55 2 2 43 1 := ⟨by kernel_rfl, by decide⟩
instance : TBuild Tryd.prog 55 [(0, 1), (1, 1), (2, 1)] := ⟨by kernel_rfl⟩
instance : TAg Tryd.prog 55 3 := ⟨by kernel_rfl, by kernel_rfl⟩
instance : TInfo Tryd.prog 55 3 40 [.int .i64 0, .int .i64 0, .slice none 0 0] := ⟨by kernel_rfl⟩
instance : TSc Tryd.prog 56 := ⟨by kernel_rfl, by kernel_rfl⟩
instance : TInfo Tryd.prog 56 1 8 [.nilFunc] := ⟨by kernel_rfl⟩
instance : TSc Tryd.prog 57 := ⟨by kernel_rfl, by kernel_rfl⟩
instance : TSc Tryd.prog 58 := ⟨by kernel_rfl, by kernel_rfl⟩
instance : TInfo Tryd.prog 58 1 8 [.nilFunc] := ⟨by kernel_rfl⟩
instance : TSc Tryd.prog 59 := ⟨by kernel_rfl, by kernel_rfl⟩
instance : TInfo Tryd.prog 59 1 8 [.nilFunc] := ⟨by kernel_rfl⟩
instance : TSc Tryd.prog 60 := ⟨by kernel_rfl, by kernel_rfl⟩
instance : TInfo Tryd.prog 60 1 8 [.nilFunc] := ⟨by kernel_rfl⟩
instance : TSc Tryd.prog 61 := ⟨by kernel_rfl, by kernel_rfl⟩
instance : TInfo Tryd.prog 61 1 8 [.nilFunc] := ⟨by kernel_rfl⟩
instance : TSc Tryd.prog 62 := ⟨by kernel_rfl, by kernel_rfl⟩
instance : TInfo Tryd.prog 62 1 8 [.nilFunc] := ⟨by kernel_rfl⟩
instance : TSc Tryd.prog 63 := ⟨by kernel_rfl, by kernel_rfl⟩
instance : TInfo Tryd.prog 63 1 8 [.nilFunc] := ⟨by kernel_rfl⟩
instance : TSc Tryd.prog 64 := ⟨by kernel_rfl, by kernel_rfl⟩
instance : TSc Tryd.prog 65 := ⟨by kernel_rfl, by kernel_rfl⟩
instance : TInfo Tryd.prog 65 1 8 [.nilFunc] := ⟨by kernel_rfl⟩
instance : TSc Tryd.prog 66 := ⟨by kernel_rfl, by kernel_rfl⟩
instance : TInfo Tryd.prog 66 1 8 [.nilFunc] := ⟨by kernel_rfl⟩
instance : TSc Tryd.prog 67 := ⟨by kernel_rfl, by kernel_rfl⟩
instance : TInfo Tryd.prog 67 1 8 [.nilFunc] := ⟨by kernel_rfl⟩
instance : TSc Tryd.prog 68 := ⟨by kernel_rfl, by kernel_rfl⟩
instance : TSc Tryd.prog 69 := ⟨by kernel_rfl, by kernel_rfl⟩
instance : TInfo Tryd.prog 69 1 8 [.nilFunc] := ⟨by kernel_rfl⟩
instance : TFld Tryd.prog 70 0 0 32 1 := ⟨by kernel_rfl, by decide⟩
instance : TFld Tryd.prog 70 1 1 3 1 := ⟨by kernel_rfl, by decide⟩
instance : TFld Tryd.prog 70 2 2 3 1 := ⟨by kernel_rfl, by decide⟩
instance : TFld Tryd.prog 70 3 3 3 1 := ⟨by kernel_rfl, by decide⟩
instance : TFld Tryd.prog 70 4 4 4 1 := ⟨by kernel_rfl, by decide⟩
instance : TBuild Tryd.prog 70 [(0, 1), (1, 1), (2, 1), (3, 1), (4, 1)] := ⟨by kernel_rfl⟩
instance : TAg Tryd.prog 70 5 := ⟨by kernel_rfl, by kernel_rfl⟩
instance : TInfo Tryd.prog 70 5 56 [.slice none 0 0, .int .i64 0, .int .i64 0, .int .i64 0, .bool false] := ⟨by kernel_rfl⟩
instance : TFld Tryd.prog 71 0 0 32 1 := ⟨by kernel_rfl, by decide⟩
instance : TFld Tryd.prog 71 1 1 3 1 := ⟨by kernel_rfl, by decide⟩
instance : TFld Tryd.prog 71 2 2 3 1 := ⟨by kernel_rfl, by decide⟩
instance : TFld Tryd.prog 71 3 3 3 1 := ⟨by kernel_rfl, by decide⟩
instance : TFld Tryd.prog 71 4 4 4 1 := ⟨by kernel_rfl, by decide⟩
instance : TBuild Tryd.prog 71 [(0, 1), (1, 1), (2, 1), (3, 1), (4, 1)] := ⟨by kernel_rfl⟩
instance : TAg Tryd.prog 71 5 := ⟨by kernel_rfl, by kernel_rfl⟩
instance : TInfo Tryd.prog 71 5 56 [.slice none 0 0, .int .i64 0, .int .i64 0, .int .i64 0, .bool false] := ⟨by kernel_rfl⟩
instance : TSc Tryd.prog 72 := ⟨by kernel_rfl, by kernel_rfl⟩
instance : TInfo Tryd.prog 72 1 8 [.nilFunc] := ⟨by kernel_rfl⟩
instance : TSc Tryd.prog 73 := ⟨by kernel_rfl, by kernel_rfl⟩
instance : TInfo Tryd.prog 73 1 8 [.nilFunc] := ⟨by kernel_rfl⟩
instance : TFld Tryd.prog 74 0 0 35 1 := ⟨by kernel_rfl, by decide⟩
instance : TFld Tryd.prog 74 1 1 4 1 := ⟨by kernel_rfl, by decide⟩
instance : TBuild Tryd.prog 74 [(0, 1), (1, 1)] := ⟨by kernel_rfl⟩
instance : TAg Tryd.prog 74 2 := ⟨by kernel_rfl, by kernel_rfl⟩
instance : TInfo Tryd.prog 74 2 16 [.pointer none, .bool false] := ⟨by kernel_rfl⟩
instance : TFld Tryd.prog 75 0 0 35 1 := ⟨by kernel_rfl, by decide⟩
instance : TFld Tryd.prog 75 1 1 4 1 := ⟨by kernel_rfl, by decide⟩
instance : TBuild Tryd.prog 75 [(0, 1), (1, 1)] := ⟨by kernel_rfl⟩
instance : TAg Tryd.prog 75 2 := ⟨by kernel_rfl, by kernel_rfl⟩
instance : TInfo Tryd.prog 75 2 16 [.pointer none, .bool false] := ⟨by kernel_rfl⟩
instance : TSc Tryd.prog 76 := ⟨by kernel_rfl, by kernel_rfl⟩
instance : TInfo Tryd.prog 76 1 8 [.nilFunc] := ⟨by kernel_rfl⟩
instance : TSc Tryd.prog 77 := ⟨by kernel_rfl, by kernel_rfl⟩
instance : TInfo Tryd.prog 77 1 8 [.nilFunc] := ⟨by kernel_rfl⟩
instance : TSc Tryd.prog 78 := ⟨by kernel_rfl, by kernel_rfl⟩
instance : TSc Tryd.prog 79 := ⟨by kernel_rfl, by kernel_rfl⟩
instance : TInfo Tryd.prog 79 1 8 [.nilFunc] := ⟨by kernel_rfl⟩
instance : TSc Tryd.prog 80 := ⟨by kernel_rfl, by kernel_rfl⟩
instance : TInfo Tryd.prog 80 1 8 [.nilFunc] := ⟨by kernel_rfl⟩
instance : TSc Tryd.prog 81 := ⟨by kernel_rfl, by kernel_rfl⟩
instance : TInfo Tryd.prog 81 1 8 [.nilFunc] := ⟨by kernel_rfl⟩
instance : TPtr Tryd.prog 82 98 := ⟨by kernel_rfl⟩
instance : TSc Tryd.prog 82 := ⟨by kernel_rfl, by kernel_rfl⟩
instance : TInfo Tryd.prog 82 1 8 [.pointer none] := ⟨by kernel_rfl⟩
instance : TSc Tryd.prog 83 := ⟨by kernel_rfl, by kernel_rfl⟩
instance : TInfo Tryd.prog 83 1 8 [.nilFunc] := ⟨by kernel_rfl⟩
instance : TSc Tryd.prog 84 := ⟨by kernel_rfl, by kernel_rfl⟩
instance : TInfo Tryd.prog 84 1 8 [.nilFunc] := ⟨by kernel_rfl⟩
instance : TPtr Tryd.prog 85 104 := ⟨by kernel_rfl⟩
instance : TSc Tryd.prog 85 := ⟨by kernel_rfl, by kernel_rfl⟩
instance : TInfo Tryd.prog 85 1 8 [.pointer none] := ⟨by kernel_rfl⟩
instance : TSc Tryd.prog 86 := ⟨by kernel_rfl, by kernel_rfl⟩
instance : TInfo Tryd.prog 86 1 8 [.nilFunc] := ⟨by kernel_rfl⟩
instance : TSc Tryd.prog 87 := ⟨by kernel_rfl, by kernel_rfl⟩
instance : TInfo Tryd.prog 87 1 8 [.nilFunc] := ⟨by kernel_rfl⟩
instance : TSc Tryd.prog 88 := ⟨by kernel_rfl, by kernel_rfl⟩
instance : TInfo Tryd.prog 88 1 8 [.nilFunc] := ⟨by kernel_rfl⟩
instance : TPtr Tryd.prog 89 91 := ⟨by kernel_rfl⟩
instance : TSc Tryd.prog 89 := ⟨by kernel_rfl, by kernel_rfl⟩
instance : TInfo Tryd.prog 89 1 8 [.pointer none] := ⟨by kernel_rfl⟩
instance : TFld Tryd.prog 90 0 0 9 1 := ⟨by kernel_rfl, by decide⟩
instance : TFld Tryd.prog 90 1 1 36 1 := ⟨by kernel_rfl, by decide⟩
instance : TBuild Tryd.prog 90 [(0, 1), (1, 1)] := ⟨by kernel_rfl⟩
instance : TAg Tryd.prog 90 2 := ⟨by kernel_rfl, by kernel_rfl⟩
instance : TLeaf Tryd.prog 90 [.s, .i .i64] := ⟨by kernel_rfl, by kernel_rfl, by kernel_rfl⟩
instance : TInfo Tryd.prog 90 2 24 [.string ⟨#[]⟩, .int .i64 0] := ⟨by kernel_rfl⟩
instance : TFld Tryd.prog 91 0 0 9 1 := ⟨by kernel_rfl, by decide⟩
instance : TFld Tryd.prog 91 1 1 36 1 := ⟨by kernel_rfl, by decide⟩
instance : TBuild Tryd.prog 91 [(0, 1), (1, 1)] := ⟨by kernel_rfl⟩
instance : TAg Tryd.prog 91 2 := ⟨by kernel_rfl, by kernel_rfl⟩
instance : TLeaf Tryd.prog 91 [.s, .i .i64] := ⟨by kernel_rfl, by kernel_rfl, by kernel_rfl⟩
instance : TInfo Tryd.prog 91 2 24 [.string ⟨#[]⟩, .int .i64 0] := ⟨by kernel_rfl⟩
instance : TArr Tryd.prog 92 8 5 := ⟨by kernel_rfl⟩
instance : TAg Tryd.prog 92 8 := ⟨by kernel_rfl, by kernel_rfl⟩
instance : TLeaf Tryd.prog 92 [.i .u8, .i .u8, .i .u8, .i .u8, .i .u8, .i .u8, .i .u8, .i .u8] := ⟨by kernel_rfl, by kernel_rfl, by kernel_rfl⟩
instance : TInfo Tryd.prog 92 8 8 [.int .u8 0, .int .u8 0, .int .u8 0, .int .u8 0, .int .u8 0, .int .u8 0, .int .u8 0, .int .u8 0] := ⟨by kernel_rfl⟩
instance : TInt Tryd.prog 93 .u64 := ⟨by kernel_rfl⟩
instance : TSc Tryd.prog 93 := ⟨by kernel_rfl, by kernel_rfl⟩
instance : TInfo Tryd.prog 93 1 8 [.int .u64 0] := ⟨by kernel_rfl⟩
instance : TInt Tryd.prog 94 .u32 := ⟨by kernel_rfl⟩
instance : TSc Tryd.prog 94 := ⟨by kernel_rfl, by kernel_rfl⟩
instance : TInfo Tryd.prog 94 1 4 [.int .u32 0] := ⟨by kernel_rfl⟩
instance : TArr Tryd.prog 95 8 94 := ⟨by kernel_rfl⟩
instance : TAg Tryd.prog 95 8 := ⟨by kernel_rfl, by kernel_rfl⟩
instance : TLeaf Tryd.prog 95 [.i .u32, .i .u32, .i .u32, .i .u32, .i .u32, .i .u32, .i .u32, .i .u32] := ⟨by kernel_rfl, by kernel_rfl, by kernel_rfl⟩
instance : TInfo Tryd.prog 95 8 32 [.int .u32 0, .int .u32 0, .int .u32 0, .int .u32 0, .int .u32 0, .int .u32 0, .int .u32 0, .int .u32 0] := ⟨by kernel_rfl⟩
instance : TSc Tryd.prog 96 := ⟨by kernel_rfl, by kernel_rfl⟩
instance : TInfo Tryd.prog 96 1 8 [.nilFunc] := ⟨by kernel_rfl⟩
instance : TFld Tryd.prog 97 0 0 95 8 := ⟨by kernel_rfl, by decide⟩
instance : TFld Tryd.prog 97 1 8 32 1 := ⟨by kernel_rfl, by decide⟩
instance : TFld Tryd.prog 97 2 9 3 1 := ⟨by kernel_rfl, by decide⟩
instance : TBuild Tryd.prog 97 [(0, 8), (8, 1), (9, 1)] := ⟨by kernel_rfl⟩
instance : TAg Tryd.prog 97 10 := ⟨by kernel_rfl, by kernel_rfl⟩
instance : TInfo Tryd.prog 97 10 64 [.int .u32 0, .int .u32 0, .int .u32 0, .int .u32 0, .int .u32 0, .int .u32 0, .int .u32 0, .int .u32 0, .slice none 0 0, .int .i64 0] := ⟨by kernel_rfl⟩
instance : TFld Tryd.prog 98 0 0 95 8 := ⟨by kernel_rfl, by decide⟩
instance : TFld Tryd.prog 98 1 8 32 1 := ⟨by kernel_rfl, by decide⟩
instance : TFld Tryd.prog 98 2 9 3 1 := ⟨by kernel_rfl, by decide⟩
instance : TBuild Tryd.prog 98 [(0, 8), (8, 1), (9, 1)] := ⟨by kernel_rfl⟩
instance : TAg Tryd.prog 98 10 := ⟨by kernel_rfl, by kernel_rfl⟩
instance : TInfo Tryd.prog 98 10 64 [.int .u32 0, .int .u32 0, .int .u32 0, .int .u32 0, .int .u32 0, .int .u32 0, .int .u32 0, .int .u32 0, .slice none 0 0, .int .i64 0] := ⟨by kernel_rfl⟩
instance : TSc Tryd.prog 99 := ⟨by kernel_rfl, by kernel_rfl⟩
instance : TSc Tryd.prog 100 := ⟨by kernel_rfl, by kernel_rfl⟩
instance : TInfo Tryd.prog 100 1 8 [.nilFunc] := ⟨by kernel_rfl⟩
instance : TInt Tryd.prog 101 .u64 := ⟨by kernel_rfl⟩
instance : TSc Tryd.prog 101 := ⟨by kernel_rfl, by kernel_rfl⟩
instance : TInfo Tryd.prog 101 1 8 [.int .u64 0] := ⟨by kernel_rfl⟩
instance : TSc Tryd.prog 102 := ⟨by kernel_rfl, by kernel_rfl⟩
instance : TInfo Tryd.prog 102 1 8 [.nilFunc] := ⟨by kernel_rfl⟩
instance : TFld Tryd.prog 103 0 0 9 1 := ⟨by kernel_rfl, by decide⟩
instance : TFld Tryd.prog 103 1 1 3 1 := ⟨by kernel_rfl, by decide⟩
instance : TFld Tryd.prog 103 2 2 36 1 := ⟨by kernel_rfl, by decide⟩
instance : TBuild Tryd.prog 103 [(0, 1), (1, 1), (2, 1)] := ⟨by kernel_rfl⟩
instance : TAg Tryd.prog 103 3 := ⟨by kernel_rfl, by kernel_rfl⟩
instance : TLeaf Tryd.prog 103 [.s, .i .i64, .i .i64] := ⟨by kernel_rfl, by kernel_rfl, by kernel_rfl⟩
instance : TInfo Tryd.prog 103 3 32 [.string ⟨#[]⟩, .int .i64 0, .int .i64 0] := ⟨by kernel_rfl⟩
instance : TFld Tryd.prog 104 0 0 9 1 := ⟨by kernel_rfl, by decide⟩
instance : TFld Tryd.prog 104 1 1 3 1 := ⟨by kernel_rfl, by decide⟩
instance : TFld Tryd.prog 104 2 2 36 1 := ⟨by kernel_rfl, by decide⟩
instance : TBuild Tryd.prog 104 [(0, 1), (1, 1), (2, 1)] := ⟨by kernel_rfl⟩
instance : TAg Tryd.prog 104 3 := ⟨by kernel_rfl, by kernel_rfl⟩
instance : TLeaf Tryd.prog 104 [.s, .i .i64, .i .i64] := ⟨by kernel_rfl, by kernel_rfl, by kernel_rfl⟩
instance : TInfo Tryd.prog 104 3 32 [.string ⟨#[]⟩, .int .i64 0, .int .i64 0] := ⟨by kernel_rfl⟩
instance : TSc Tryd.prog 105 := ⟨by kernel_rfl, by kernel_rfl⟩
instance : TInfo Tryd.prog 105 1 8 [.nilFunc] := ⟨by kernel_rfl⟩
instance : TSc Tryd.prog 106 := ⟨by kernel_rfl, by kernel_rfl⟩
instance : TInfo Tryd.prog 106 1 8 [.nilFunc] := ⟨by kernel_rfl⟩
instance : TSc Tryd.prog 107 := ⟨by kernel_rfl, by kernel_rfl⟩
instance : TSc Tryd.prog 108 := ⟨by kernel_rfl, by kernel_rfl⟩
instance : TInfo Tryd.prog 108 1 8 [.nilFunc] := ⟨by kernel_rfl⟩
instance : TSc Tryd.prog 109 := ⟨by kernel_rfl, by kernel_rfl⟩
instance : TSc Tryd.prog 110 := ⟨by kernel_rfl, by kernel_rfl⟩
instance : TInfo Tryd.prog 110 1 8 [.nilFunc] := ⟨by kernel_rfl⟩
instance : TSc Tryd.prog 111 := ⟨by kernel_rfl, by kernel_rfl⟩
instance : TSc Tryd.prog 112 := ⟨by kernel_rfl, by kernel_rfl⟩
instance : TInfo Tryd.prog 112 1 8 [.nilFunc] := ⟨by kernel_rfl⟩
instance : TSc Tryd.prog 113 := ⟨by kernel_rfl, by kernel_rfl⟩
instance : TSc Tryd.prog 114 := ⟨by kernel_rfl, by kernel_rfl⟩
instance : TInfo Tryd.prog 114 1 8 [.nilFunc] := ⟨by kernel_rfl⟩
instance : TArr Tryd.prog 115 64 5 := ⟨by kernel_rfl⟩
instance : TAg Tryd.prog 115 64 := ⟨by kernel_rfl, by kernel_rfl⟩
instance : TLeaf Tryd.prog 115 [.i .u8, .i .u8, .i .u8, .i .u8, .i .u8, .i .u8, .i .u8, .i .u8, .i .u8, .i .u8, .i .u8, .i .u8, .i .u8, .i .u8, .i .u8, .i .u8, .i .u8, .i .u8, .i .u8, .i .u8, .i .u8, .i .u8, .i .u8, .i .u8, .i .u8, .i .u8, .i .u8, .i .u8, .i .u8, .i .u8, .i .u8, .i .u8, .i .u8, .i .u8, .i .u8, .i .u8, .i .u8, .i .u8, .i .u8, .i .u8, .i .u8, .i .u8, .i .u8, .i .u8, .i .u8, .i .u8, .i .u8, .i .u8, .i .u8, .i .u8, .i .u8, .i .u8, .i .u8, .i .u8, .i .u8, .i .u8, .i .u8, .i .u8, .i .u8, .i .u8, .i .u8, .i .u8, .i .u8, .i .u8] := ⟨by kernel_rfl, by kernel_rfl, by kernel_rfl⟩
instance : TInfo Tryd.prog 115 64 64 [.int .u8 0, .int .u8 0, .int .u8 0, .int .u8 0, .int .u8 0, .int .u8 0, .int .u8 0, .int .u8 0, .int .u8 0, .int .u8 0, .int .u8 0, .int .u8 0, .int .u8 0, .int .u8 0, .int .u8 0, .int .u8 0, .int .u8 0, .int .u8 0, .int .u8 0, .int .u8 0, .int .u8 0, .int .u8 0, .int .u8 0, .int .u8 0, .int .u8 0, .int .u8 0, .int .u8 0, .int .u8 0, .int .u8 0, .int .u8 0, .int .u8 0, .int .u8 0, .int .u8 0, .int .u8 0, .int .u8 0, .int .u8 0, .int .u8 0, .int .u8 0, .int .u8 0, .int .u8 0, .int .u8 0, .int .u8 0, .int .u8 0, .int .u8 0, .int .u8 0, .int .u8 0, .int .u8 0, .int .u8 0, .int .u8 0, .int .u8 0, .int .u8 0, .int .u8 0, .int .u8 0, .int .u8 0, .int .u8 0, .int .u8 0, .int .u8 0, .int .u8 0, .int .u8 0, .int .u8 0, .int .u8 0, .int .u8 0, .int .u8 0, .int .u8 0] := ⟨by kernel_rfl⟩
instance : TSc Tryd.prog 116 := ⟨by kernel_rfl, by kernel_rfl⟩
instance : TInfo Tryd.prog 116 1 8 [.nilFunc] := ⟨by kernel_rfl⟩
instance : TArr Tryd.prog 117 32 5 := ⟨by kernel_rfl⟩
instance : TAg Tryd.prog 117 32 := ⟨by kernel_rfl, by kernel_rfl⟩
instance : TLeaf Tryd.prog 117 [.i .u8, .i .u8, .i .u8, .i .u8, .i .u8, .i .u8, .i .u8, .i .u8, .i .u8, .i .u8, .i .u8, .i .u8, .i .u8, .i .u8, .i .u8, .i .u8, .i .u8, .i .u8, .i .u8, .i .u8, .i .u8, .i .u8, .i .u8, .i .u8, .i .u8, .i .u8, .i .u8, .i .u8, .i .u8, .i .u8, .i .u8, .i .u8] := ⟨by kernel_rfl, by kernel_rfl, by kernel_rfl⟩
instance : TInfo Tryd.prog 117 32 32 [.int .u8 0, .int .u8 0, .int .u8 0, .int .u8 0, .int .u8 0, .int .u8 0, .int .u8 0, .int .u8 0, .int .u8 0, .int .u8 0, .int .u8 0, .int .u8 0, .int .u8 0, .int .u8 0, .int .u8 0, .int .u8 0, .int .u8 0, .int .u8 0, .int .u8 0, .int .u8 0, .int .u8 0, .int .u8 0, .int .u8 0, .int .u8 0, .int .u8 0, .int .u8 0, .int .u8 0, .int .u8 0, .int .u8 0, .int .u8 0, .int .u8 0, .int .u8 0] := ⟨by kernel_rfl⟩
instance : TArr Tryd.prog 118 16 94 := ⟨by kernel_rfl⟩
instance : TAg Tryd.prog 118 16 := ⟨by kernel_rfl, by kernel_rfl⟩
instance : TLeaf Tryd.prog 118 [.i .u32, .i .u32, .i .u32, .i .u32, .i .u32, .i .u32, .i .u32, .i .u32, .i .u32, .i .u32, .i .u32, .i .u32, .i .u32, .i .u32, .i .u32, .i .u32] := ⟨by kernel_rfl, by kernel_rfl, by kernel_rfl⟩
instance : TInfo Tryd.prog 118 16 64 [.int .u32 0, .int .u32 0, .int .u32 0, .int .u32 0, .int .u32 0, .int .u32 0, .int .u32 0, .int .u32 0, .int .u32 0, .int .u32 0, .int .u32 0, .int .u32 0, .int .u32 0, .int .u32 0, .int .u32 0, .int .u32 0] := ⟨by kernel_rfl⟩
instance : TSc Tryd.prog 119 := ⟨by kernel_rfl, by kernel_rfl⟩
instance : TInfo Tryd.prog 119 1 8 [.nilFunc] := ⟨by kernel_rfl⟩
instance : TSc Tryd.prog 120 := ⟨by kernel_rfl, by kernel_rfl⟩
instance : TInfo Tryd.prog 120 1 8 [.nilFunc] := ⟨by kernel_rfl⟩
instance : TArr Tryd.prog 121 64 94 := ⟨by kernel_rfl⟩
instance : TAg Tryd.prog 121 64 := ⟨by kernel_rfl, by kernel_rfl⟩
instance : TLeaf Tryd.prog 121 [.i .u32, .i .u32, .i .u32, .i .u32, .i .u32, .i .u32, .i .u32, .i .u32, .i .u32, .i .u32, .i .u32, .i .u32, .i .u32, .i .u32, .i .u32, .i .u32, .i .u32, .i .u32, .i .u32, .i .u32, .i .u32, .i .u32, .i .u32, .i .u32, .i .u32, .i .u32, .i .u32, .i .u32, .i .u32, .i .u32, .i .u32, .i .u32, .i .u32, .i .u32, .i .u32, .i .u32, .i .u32, .i .u32, .i .u32, .i .u32, .i .u32, .i .u32, .i .u32, .i .u32, .i .u32, .i .u32, .i .u32, .i .u32, .i .u32, .i .u32, .i .u32, .i .u32, .i .u32, .i .u32, .i .u32, .i .u32, .i .u32, .i .u32, .i .u32, .i .u32, .i .u32, .i .u32, .i .u32, .i .u32] := ⟨by kernel_rfl, by kernel_rfl, by kernel_rfl⟩
instance : TInfo Tryd.prog 121 64 256 [.int .u32 0, .int .u32 0, .int .u32 0, .int .u32 0, .int .u32 0, .int .u32 0, .int .u32 0, .int .u32 0, .int .u32 0, .int .u32 0, .int .u32 0, .int .u32 0, .int .u32 0, .int .u32 0, .int .u32 0, .int .u32 0, .int .u32 0, .int .u32 0, .int .u32 0, .int .u32 0, .int .u32 0, .int .u32 0, .int .u32 0, .int .u32 0, .int .u32 0, .int .u32 0, .int .u32 0, .int .u32 0, .int .u32 0, .int .u32 0, .int .u32 0, .int .u32 0, .int .u32 0, .int .u32 0, .int .u32 0, .int .u32 0, .int .u32 0, .int .u32 0, .int .u32 0, .int .u32 0, .int .u32 0, .int .u32 0, .int .u32 0, .int .u32 0, .int .u32 0, .int .u32 0, .int .u32 0, .int .u32 0, .int .u32 0, .int .u32 0, .int .u32 0, .int .u32 0, .int .u32 0, .int .u32 0, .int .u32 0, .int .u32 0, .int .u32 0, .int .u32 0, .int .u32 0, .int .u32 0, .int .u32 0, .int .u32 0, .int .u32 0, .int .u32 0] := ⟨by kernel_rfl⟩
instance : TSc Tryd.prog 122 := ⟨by kernel_rfl, by kernel_rfl⟩
instance : TInfo Tryd.prog 122 1 8 [.nilFunc] := ⟨by kernel_rfl⟩
instance : TSc Tryd.prog 123 := ⟨by kernel_rfl, by kernel_rfl⟩
instance : TInfo Tryd.prog 123 1 8 [.nilFunc] := ⟨by kernel_rfl⟩
instance : TFld Tryd.prog 124 0 0 17 1 := ⟨by kernel_rfl, by decide⟩
instance : TFld Tryd.prog 124 1 1 17 1 := ⟨by kernel_rfl, by decide⟩
instance : TFld Tryd.prog 124 2 2 17 1 := ⟨by kernel_rfl, by decide⟩
instance : TFld Tryd.prog 124 3 3 9 1 := ⟨by kernel_rfl, by decide⟩
instance : TBuild Tryd.prog 124 [(0, 1), (1, 1), (2, 1), (3, 1)] := ⟨by kernel_rfl⟩
instance : TAg Tryd.prog 124 4 := ⟨by kernel_rfl, by kernel_rfl⟩
instance : TInfo Tryd.prog 124 4 40 [.pointer none, .pointer none, .pointer none, .string ⟨#[]⟩] := ⟨by kernel_rfl⟩
instance : TFld Tryd.prog 125 0 0 17 1 := ⟨by kernel_rfl, by decide⟩
instance : TFld Tryd.prog 125 1 1 17 1 := ⟨by kernel_rfl, by decide⟩
instance : TFld Tryd.prog 125 2 2 17 1 := ⟨by kernel_rfl, by decide⟩
instance : TFld Tryd.prog 125 3 3 9 1 := ⟨by kernel_rfl, by decide⟩
instance : TBuild Tryd.prog 125 [(0, 1), (1, 1), (2, 1), (3, 1)] := ⟨by kernel_rfl⟩
instance : TAg Tryd.prog 125 4 := ⟨by kernel_rfl, by kernel_rfl⟩
instance : TInfo Tryd.prog 125 4 40 [.pointer none, .pointer none, .pointer none, .string ⟨#[]⟩] := ⟨by kernel_rfl⟩
instance : TArr Tryd.prog 126 0 16 := ⟨by kernel_rfl⟩
instance : TBuild Tryd.prog 127 [(0, 0)] := ⟨by kernel_rfl⟩
instance : TBuild Tryd.prog 128 [(0, 0)] := ⟨by kernel_rfl⟩
instance : TInt Tryd.prog 129 .u8 := ⟨by kernel_rfl⟩
instance : TSc Tryd.prog 129 := ⟨by kernel_rfl, by kernel_rfl⟩
instance : TInfo Tryd.prog 129 1 1 [.int .u8 0] := ⟨by kernel_rfl⟩
instance : TInt Tryd.prog 130 .u8 := ⟨by kernel_rfl⟩
instance : TSc Tryd.prog 130 := ⟨by kernel_rfl, by kernel_rfl⟩
instance : TInfo Tryd.prog 130 1 1 [.int .u8 0] := ⟨by kernel_rfl⟩
instance : TSc Tryd.prog 131 := ⟨by kernel_rfl, by kernel_rfl⟩
instance : TInfo Tryd.prog 131 1 8 [.nilFunc] := ⟨by kernel_rfl⟩
instance : TPtr Tryd.prog 132 5 := ⟨by kernel_rfl⟩
instance : TSc Tryd.prog 132 := ⟨by kernel_rfl, by kernel_rfl⟩
instance : TInfo Tryd.prog 132 1 8 [.pointer none] := ⟨by kernel_rfl⟩
instance : TInt Tryd.prog 133 .i32 := ⟨by kernel_rfl⟩
instance : TSc Tryd.prog 133 := ⟨by kernel_rfl, by kernel_rfl⟩
instance : TInfo Tryd.prog 133 1 4 [.int .i32 0] := ⟨by kernel_rfl⟩
instance : TInt Tryd.prog 134 .i32 := ⟨by kernel_rfl⟩
instance : TSc Tryd.prog 134 := ⟨by kernel_rfl, by kernel_rfl⟩
instance : TInfo Tryd.prog 134 1 4 [.int .i32 0] := ⟨by kernel_rfl⟩
instance : TFld Tryd.prog 135 0 0 12 1 := ⟨by kernel_rfl, by decide⟩
instance : TFld Tryd.prog 135 1 1 12 1 := ⟨by kernel_rfl, by decide⟩
instance : TFld Tryd.prog 135 2 2 94 1 := ⟨by kernel_rfl, by decide⟩
instance : TFld Tryd.prog 135 3 3 129 1 := ⟨by kernel_rfl, by decide⟩
instance : TFld Tryd.prog 135 4 4 5 1 := ⟨by kernel_rfl, by decide⟩
instance : TFld Tryd.prog 135 5 5 5 1 := ⟨by kernel_rfl, by decide⟩
instance : TFld Tryd.prog 135 6 6 130 1 := ⟨by kernel_rfl, by decide⟩
instance : TFld Tryd.prog 135 7 7 131 1 := ⟨by kernel_rfl, by decide⟩
instance : TFld Tryd.prog 135 8 8 132 1 := ⟨by kernel_rfl, by decide⟩
instance : TFld Tryd.prog 135 9 9 133 1 := ⟨by kernel_rfl, by decide⟩
instance : TFld Tryd.prog 135 10 10 134 1 := ⟨by kernel_rfl, by decide⟩
instance : TBuild Tryd.prog 135 [(0, 1), (1, 1), (2, 1), (3, 1), (4, 1), (5, 1), (6, 1), (7, 1), (8, 1), (9, 1), (10, 1)] := ⟨by kernel_rfl⟩
instance : TAg Tryd.prog 135 11 := ⟨by kernel_rfl, by kernel_rfl⟩
instance : TInfo Tryd.prog 135 11 48 [.int .u64 0, .int .u64 0, .int .u32 0, .int .u8 0, .int .u8 0, .int .u8 0, .int .u8 0, .nilFunc, .pointer none, .int .i32 0, .int .i32 0] := ⟨by kernel_rfl⟩
instance : TFld Tryd.prog 136 0 0 12 1 := ⟨by kernel_rfl, by decide⟩
instance : TFld Tryd.prog 136 1 1 12 1 := ⟨by kernel_rfl, by decide⟩
instance : TFld Tryd.prog 136 2 2 94 1 := ⟨by kernel_rfl, by decide⟩
instance : TFld Tryd.prog 136 3 3 129 1 := ⟨by kernel_rfl, by decide⟩
instance : TFld Tryd.prog 136 4 4 5 1 := ⟨by kernel_rfl, by decide⟩
instance : TFld Tryd.prog 136 5 5 5 1 := ⟨by kernel_rfl, by decide⟩
instance : TFld Tryd.prog 136 6 6 130 1 := ⟨by kernel_rfl, by decide⟩
instance : TFld Tryd.prog 136 7 7 131 1 := ⟨by kernel_rfl, by decide⟩
instance : TFld Tryd.prog 136 8 8 132 1 := ⟨by kernel_rfl, by decide⟩
instance : TFld Tryd.prog 136 9 9 133 1 := ⟨by kernel_rfl, by decide⟩
instance : TFld Tryd.prog 136 10 10 134 1 := ⟨by kernel_rfl, by decide⟩
instance : TBuild Tryd.prog 136 [(0, 1), (1, 1), (2, 1), (3, 1), (4, 1), (5, 1), (6, 1), (7, 1), (8, 1), (9, 1), (10, 1)] := ⟨by kernel_rfl⟩
instance : TAg Tryd.prog 136 11 := ⟨by kernel_rfl, by kernel_rfl⟩
instance : TInfo Tryd.prog 136 11 48 [.int .u64 0, .int .u64 0, .int .u32 0, .int .u8 0, .int .u8 0, .int .u8 0, .int .u8 0, .nilFunc, .pointer none, .int .i32 0, .int .i32 0] := ⟨by kernel_rfl⟩
instance : TSc Tryd.prog 137 := ⟨by kernel_rfl, by kernel_rfl⟩
instance : TInfo Tryd.prog 137 1 8 [.pointer none] := ⟨by kernel_rfl⟩
instance : TFunc Tryd.prog 2 := ⟨by kernel_rfl⟩
instance : TFunc Tryd.prog 3 := ⟨by kernel_rfl⟩
instance : TFunc Tryd.prog 4 := ⟨by kernel_rfl⟩
instance : TFunc Tryd.prog 5 := ⟨by kernel_rfl⟩
instance : TFunc Tryd.prog 6 := ⟨by kernel_rfl⟩
instance : TFunc Tryd.prog 7 := ⟨by kernel_rfl⟩
instance : TFunc Tryd.prog 8 := ⟨by kernel_rfl⟩
instance : TFunc Tryd.prog 9 := ⟨by kernel_rfl⟩
instance : TFunc Tryd.prog 10 := ⟨by kernel_rfl⟩
instance : TFunc Tryd.prog 11 := ⟨by kernel_rfl⟩
instance : TFunc Tryd.prog 12 := ⟨by kernel_rfl⟩
instance : TFunc Tryd.prog 13 := ⟨by kernel_rfl⟩
instance : TFunc Tryd.prog 14 := ⟨by kernel_rfl⟩
instance : TFunc Tryd.prog 15 := ⟨by kernel_rfl⟩
instance : TFunc Tryd.prog 16 := ⟨by kernel_rfl⟩
instance : TFunc Tryd.prog 17 := ⟨by kernel_rfl⟩
instance : TFunc Tryd.prog 18 := ⟨by kernel_rfl⟩
instance : TFunc Tryd.prog 19 := ⟨by kernel_rfl⟩
instance : TFunc Tryd.prog 20 := ⟨by kernel_rfl⟩
instance : TFunc Tryd.prog 21 := ⟨by kernel_rfl⟩
instance : TFunc Tryd.prog 22 := ⟨by kernel_rfl⟩
instance : TFunc Tryd.prog 23 := ⟨by kernel_rfl⟩
instance : TFunc Tryd.prog 24 := ⟨by kernel_rfl⟩
instance : TFunc Tryd.prog 25 := ⟨by kernel_rfl⟩
instance : TFunc Tryd.prog 26 := ⟨by kernel_rfl⟩
instance : TFunc Tryd.prog 27 := ⟨by kernel_rfl⟩
instance : TFunc Tryd.prog 28 := ⟨by kernel_rfl⟩
instance : TFunc Tryd.prog 29 := ⟨by kernel_rfl⟩
instance : TFunc Tryd.prog 30 := ⟨by kernel_rfl⟩
instance : TFunc Tryd.prog 31 := ⟨by kernel_rfl⟩
instance : TFunc Tryd.prog 32 := ⟨by kernel_rfl⟩
instance : TFunc Tryd.prog 33 := ⟨by kernel_rfl⟩
instance : TFunc Tryd.prog 34 := ⟨by kernel_rfl⟩
instance : TFunc Tryd.prog 35 := ⟨by kernel_rfl⟩
instance : TFunc Tryd.prog 36 := ⟨by kernel_rfl⟩
instance : TFunc Tryd.prog 37 := ⟨by kernel_rfl⟩
instance : TFunc Tryd.prog 38 := ⟨by kernel_rfl⟩
instance : TFunc Tryd.prog 39 := ⟨by kernel_rfl⟩
instance : TFunc Tryd.prog 40 := ⟨by kernel_rfl⟩
instance : TFunc Tryd.prog 41 := ⟨by kernel_rfl⟩
instance : TFunc Tryd.prog 42 := ⟨by kernel_rfl⟩
instance : TFunc Tryd.prog 43 := ⟨by kernel_rfl⟩
instance : TFunc Tryd.prog 44 := ⟨by kernel_rfl⟩
instance : TFunc Tryd.prog 45 := ⟨by kernel_rfl⟩
instance : TFunc Tryd.prog 46 := ⟨by kernel_rfl⟩
instance : TFunc Tryd.prog 47 := ⟨by kernel_rfl⟩
instance : TFunc Tryd.prog 48 := ⟨by kernel_rfl⟩
instance : TFunc Tryd.prog 49 := ⟨by kernel_rfl⟩
instance : TFunc Tryd.prog 50 := ⟨by kernel_rfl⟩
instance : TFunc Tryd.prog 51 := ⟨by kernel_rfl⟩
instance : TFunc Tryd.prog 52 := ⟨by kernel_rfl⟩
instance : TFunc Tryd.prog 53 := ⟨by kernel_rfl⟩
instance : TFunc Tryd.prog 54 := ⟨by kernel_rfl⟩
instance : TFunc Tryd.prog 55 := ⟨by kernel_rfl⟩
instance : TFunc Tryd.prog 56 := ⟨by kernel_rfl⟩
instance : TFunc Tryd.prog 57 := ⟨by kernel_rfl⟩
instance : TFunc Tryd.prog 58 := ⟨by kernel_rfl⟩
instance : TFunc Tryd.prog 59 := ⟨by kernel_rfl⟩
instance : TFunc Tryd.prog 60 := ⟨by kernel_rfl⟩
instance : TFunc Tryd.prog 61 := ⟨by kernel_rfl⟩
instance : TFunc Tryd.prog 62 := ⟨by kernel_rfl⟩
instance : TFunc Tryd.prog 63 := ⟨by kernel_rfl⟩
instance : TFunc Tryd.prog 64 := ⟨by kernel_rfl⟩
instance : TFunc Tryd.prog 65 := ⟨by kernel_rfl⟩
instance : TFunc Tryd.prog 66 := ⟨by kernel_rfl⟩
instance : TFunc Tryd.prog 67 := ⟨by kernel_rfl⟩
instance : TFunc Tryd.prog 68 := ⟨by kernel_rfl⟩
instance : TFunc Tryd.prog 69 := ⟨by kernel_rfl⟩
instance : TFunc Tryd.prog 70 := ⟨by kernel_rfl⟩
instance : TFunc Tryd.prog 71 := ⟨by kernel_rfl⟩
instance : TFunc Tryd.prog 72 := ⟨by kernel_rfl⟩
instance : TFunc Tryd.prog 73 := ⟨by kernel_rfl⟩
instance : TFunc Tryd.prog 74 := ⟨by kernel_rfl⟩
instance : TFunc Tryd.prog 75 := ⟨by kernel_rfl⟩
instance : TFunc Tryd.prog 76 := ⟨by kernel_rfl⟩
instance : TFunc Tryd.prog 77 := ⟨by kernel_rfl⟩
instance : TFunc Tryd.prog 78 := ⟨by kernel_rfl⟩
instance : TFunc Tryd.prog 101 := ⟨by kernel_rfl⟩
def shaK : List Nat := [1116352408, 1899447441, 3049323471, 3921009573, 961987163, 1508970993, 2453635748, 2870763221, 3624381080, 310598401, 607225278, 1426881987, 1925078388, 2162078206, 2614888103, 3248222580, 3835390401, 4022224774, 264347078, 604807628, 770255983, 1249150122, 1555081692, 1996064986, 2554220882, 2821834349, 2952996808, 3210313671, 3336571891, 3584528711, 113926993, 338241895, 666307205, 773529912, 1294757372, 1396182291, 1695183700, 1986661051, 2177026350, 2456956037, 2730485921, 2820302411, 3259730800, 3345764771, 3516065817, 3600352804, 4094571909, 275423344, 430227734, 506948616, 659060556, 883997877, 958139571, 1322822218, 1537002063, 1747873779, 1955562222, 2024104815, 2227730452, 2361852424, 2428436474, 2756734187, 3204031479, 3329325298]
instance globs : Gl Tryd.prog := ⟨[(0, shaK.map fun (n : Nat) => Value.int .u32 (n : Int))]⟩
theorem follows : Tryd.prog.follows .mixedOrders = true := by kernel_rfl
end Go.Proofs.YtbdkenlkimiddaaDoor
namespace Go.Proofs.YtbdkenlkimiddaaDoor.Sha
open Go Go.Sse
set_option maxRecDepth 10000
set_option linter.unusedVariables false
set_option linter.unusedSimpArgs false
abbrev Wd := BitVec 32
def rot (x : Wd) (n : Nat) : Wd := x >>> n ||| x <<< (32 - n)
def sig0 (x : Wd) : Wd := rot x 7 ^^^ rot x 18 ^^^ x >>> 3
def sig1 (x : Wd) : Wd := rot x 17 ^^^ rot x 19 ^^^ x >>> 10
def byteAt (b : List UInt8) (i : Nat) : Wd := BitVec.ofNat 32 (b.getD i 0).toNat
def word (b : List UInt8) (i : Nat) : Wd := byteAt b (4 * i) <<< 24 ||| byteAt b (4 * i + 1) <<< 16 ||| byteAt b (4 * i + 2) <<< 8 ||| byteAt b (4 * i + 3)
def nextW (l : List Wd) (n : Nat) : Wd := l.getD (n - 16) 0 + sig0 (l.getD (n - 15) 0) + l.getD (n - 7) 0 + sig1 (l.getD (n - 2) 0)
def sched (b : List UInt8) : Nat → List Wd
  | 0 => []
  | n + 1 => sched b n ++ [if n < 16 then word b n else nextW (sched b n) n]
def W (b : List UInt8) (n : Nat) : Wd := (sched b (n + 1)).getD n 0
theorem sched_len (b : List UInt8) : ∀ n, (sched b n).length = n
  | 0 => rfl
  | n + 1 => by simp [sched, sched_len b n]
theorem sched_get (b : List UInt8) : ∀ n i, i < n → (sched b n).getD i 0 = W b i
  | 0, i, h => by omega
  | n + 1, i, h => by
    by_cases hi : i = n
    · subst hi; rfl
    · have : i < n := by omega
      rw [← sched_get b n i this]
      simp only [sched, List.getD_eq_getElem?_getD]
      rw [List.getElem?_append_left (by rw [sched_len]; exact this)]
theorem W_low (b : List UInt8) (n : Nat) (h : n < 16) : W b n = word b n := by
  unfold W; simp only [sched, List.getD_eq_getElem?_getD, if_pos h]
  rw [List.getElem?_append_right (by rw [sched_len]; exact Nat.le_refl _), sched_len, Nat.sub_self]; rfl
theorem W_high (b : List UInt8) (n : Nat) (h : 16 ≤ n) : W b n = W b (n - 16) + sig0 (W b (n - 15)) + W b (n - 7) + sig1 (W b (n - 2)) := by
  have e : W b n = nextW (sched b n) n := by
    unfold W; simp only [sched, List.getD_eq_getElem?_getD, if_neg (show ¬ n < 16 by omega)]
    rw [List.getElem?_append_right (by rw [sched_len]; exact Nat.le_refl _), sched_len, Nat.sub_self]; rfl
  rw [e]; unfold nextW
  rw [sched_get b n _ (by omega), sched_get b n _ (by omega), sched_get b n _ (by omega), sched_get b n _ (by omega)]
structure S8 where
  a : Wd
  b : Wd
  c : Wd
  d : Wd
  e : Wd
  f : Wd
  g : Wd
  h : Wd
def S8.list (s : S8) : List Wd := [s.a, s.b, s.c, s.d, s.e, s.f, s.g, s.h]
abbrev S8.cells (s : S8) : List SV := [u32 s.a, u32 s.b, u32 s.c, u32 s.d, u32 s.e, u32 s.f, u32 s.g, u32 s.h]
def S8.one (s : S8) (k w : Wd) : Wd := s.h + (rot s.e 6 ^^^ rot s.e 11 ^^^ rot s.e 25) + (s.e &&& s.f ^^^ ~~~s.e &&& s.g) + k + w
def S8.two (s : S8) : Wd := (rot s.a 2 ^^^ rot s.a 13 ^^^ rot s.a 22) + (s.a &&& s.b ^^^ s.a &&& s.c ^^^ s.b &&& s.c)
def S8.round (s : S8) (k w : Wd) : S8 := ⟨s.one k w + s.two, s.a, s.b, s.c, s.d + s.one k w, s.e, s.f, s.g⟩
def kAt (i : Nat) : Wd := BitVec.ofNat 32 (shaK.getD i 0)
def rounds (s : S8) (b : List UInt8) : Nat → S8
  | 0 => s
  | n + 1 => (rounds s b n).round (kAt n) (W b n)
def S8.add (s t : S8) : S8 := ⟨s.a + t.a, s.b + t.b, s.c + t.c, s.d + t.d, s.e + t.e, s.f + t.f, s.g + t.g, s.h + t.h⟩
def blockS (s : S8) (b : List UInt8) : S8 := (rounds s b 64).add s
def first8 : S8 := ⟨0x6a09e667#32, 0xbb67ae85#32, 0x3c6ef372#32, 0xa54ff53a#32, 0x510e527f#32, 0x9b05688c#32, 0x1f83d9ab#32, 0x5be0cd19#32⟩
def wordB (w : Wd) : List UInt8 := [UInt8.ofNat (w >>> 24).toNat, UInt8.ofNat (w >>> 16).toNat, UInt8.ofNat (w >>> 8).toNat, UInt8.ofNat w.toNat]
def toldS (s : S8) : List UInt8 := s.list.flatMap wordB
theorem told_len (s : S8) : (toldS s).length = 32 := rfl
def blocksS (s : S8) (l : List UInt8) : S8 × List UInt8 :=
  if h : 64 ≤ l.length then blocksS (blockS s (l.take 64)) (l.drop 64) else (s, l)
termination_by l.length
decreasing_by simp only [List.length_drop]; omega
theorem blocksS_lt {s : S8} {l : List UInt8} (h : l.length < 64) : blocksS s l = (s, l) := by
  rw [blocksS, dif_neg (by omega)]
theorem blocksS_ge {s : S8} {l : List UInt8} (h : 64 ≤ l.length) : blocksS s l = blocksS (blockS s (l.take 64)) (l.drop 64) := by
  rw [blocksS, dif_pos h]
theorem blocksS_app : ∀ (n : Nat) (s : S8) (l t : List UInt8), l.length ≤ n → blocksS s (l ++ t) = blocksS (blocksS s l).1 ((blocksS s l).2 ++ t) := by
  intro n
  induction n with
  | zero => intro s l t h; have : l = [] := List.eq_nil_of_length_eq_zero (by omega); subst this; rw [blocksS_lt (s := s) (l := []) (by simp)]
  | succ n ih =>
    intro s l t h
    by_cases h64 : 64 ≤ l.length
    · rw [blocksS_ge (l := l) h64, blocksS_ge (l := l ++ t) (by simp; omega), List.take_append_of_le_length h64, List.drop_append_of_le_length h64]
      exact ih _ _ _ (by simp only [List.length_drop]; omega)
    · rw [blocksS_lt (l := l) (by omega)]
theorem blocksS_left : ∀ (n : Nat) (s : S8) (l : List UInt8), l.length ≤ n → (blocksS s l).2.length = l.length % 64 := by
  intro n
  induction n with
  | zero => intro s l h; rw [blocksS_lt (by omega)]; simp only; omega
  | succ n ih =>
    intro s l h
    by_cases h64 : 64 ≤ l.length
    · rw [blocksS_ge h64, ih _ _ (by simp only [List.length_drop]; omega), List.length_drop]; omega
    · rw [blocksS_lt (by omega)]; simp only; omega
def zerosOf (n : Nat) : Nat := (119 - n % 64) % 64
def lenB (n : Nat) : List UInt8 := (List.range 8).map fun i => UInt8.ofNat (n * 8 / 2 ^ (56 - 8 * i))
theorem lenB_len (n : Nat) : (lenB n).length = 8 := rfl
def padS (n : Nat) : List UInt8 := [128] ++ List.replicate (zerosOf n) 0 ++ lenB n
def shaS (l : List UInt8) : List UInt8 := toldS (blocksS first8 (l ++ padS l.length)).1
theorem shaS_len (l : List UInt8) : (shaS l).length = 32 := rfl
end Go.Proofs.YtbdkenlkimiddaaDoor.Sha
namespace Go.Proofs.YtbdkenlkimiddaaDoor.Sha
open Go Go.Sse
set_option maxRecDepth 10000
set_option linter.unusedVariables false
set_option linter.unusedSimpArgs false
theorem ref0 {F : List (Nat × SV)} {i : Nat} {s : SV} (h : Sse.look F i = some s) : ∃ t, Sse.look F i = some t ∧ Sub t s := ⟨s, h, .refl _⟩
theorem rot_ok (x : Wd) (n : Nat) (hn : n ≤ 32) : FnC Tryd.prog 78 [u32 x, u64 n] [] (fun s L => s = u32 (rot x n) ∧ L = []) := by
  refine FnC.intro Tryd.func78 rfl Tryd.ntmps78 rfl fun Z w0 hG => ?_
  focus (
 (refine W.seq (W.region (Jx.assign rfl rfl (J.nil (N.seq (W.seq (W.region (Jx.move rfl rfl (Jx.move rfl rfl ?_)))))))))
 (refine Jx.shrU rfl rfl hn rfl ?_)
 (refine Jx.move rfl rfl (Jx.move rfl rfl ?_))
 (refine Jx.subU64 (c := 32) rfl rfl hn (by decide) rfl ?_)
 (refine Jx.shlU rfl rfl (by omega) rfl ?_)
 (refine Jx.orU rfl rfl rfl ?_)
 (refine Jx.assign rfl rfl (J.nil (N.seq (W.ret ?_))))
 (refine id ?_; rotate_left))
  exact N.ret (rs := [.tmp 4]) rfl (.tmp rfl .nil) ⟨rfl, rfl⟩
theorem first_ok : FnC Tryd.prog 61 [] [] (fun s L => s = .agg first8.cells ∧ L = []) := by
  refine FnC.intro Tryd.func61 rfl Tryd.ntmps61 rfl fun Z w0 hG => ?_
  focus (
 (refine W.seq (W.region ?_))
 (refine J.alloc (by simp only [List.map_cons, List.map_nil]; rfl) rfl rfl ?_; intro b')
 (refine J.nil (N.seq (W.seq (W.region (Jx.buildA rfl rfl rfl rfl rfl ?_)))))
 (refine J.storeAll rfl rfl rfl 0 rfl rfl rfl ?_)
 (refine J.nil (N.seq (W.ret ?_)))
 (refine id ?_; rotate_left))
  exact N.retD (rs := [.cell 0 95]) (L1 := []) rfl (.cell rfl 0 rfl inferInstance .nil) (List.nil_sublist _) ⟨rfl, rfl⟩
end Go.Proofs.YtbdkenlkimiddaaDoor.Sha
namespace Go.Proofs.YtbdkenlkimiddaaDoor.Sha
open Go Go.Sse
set_option maxRecDepth 10000
set_option linter.unusedVariables false
set_option linter.unusedSimpArgs false
def tab (b : List UInt8) (i : Nat) : List Wd := sched b i ++ List.replicate (64 - i) 0
theorem tab_len (b : List UInt8) (i : Nat) (h : i ≤ 64) : (tab b i).length = 64 := by simp [tab, sched_len]; omega
theorem tab_get (b : List UInt8) (i j : Nat) (h : j < i) : (tab b i).getD j 0 = (sched b i).getD j 0 := by
  simp only [tab, List.getD_eq_getElem?_getD]; rw [List.getElem?_append_left (by rw [sched_len]; exact h)]
theorem tab_set (b : List UInt8) (i : Nat) (h : i < 64) (v : Wd) (hv : v = if i < 16 then word b i else nextW (sched b i) i) : (tab b i).set i v = tab b (i + 1) := by
  subst hv
  unfold tab
  rw [List.set_append_right _ _ (by rw [sched_len]; exact Nat.le_refl _), sched_len, Nat.sub_self, show 64 - i = (64 - (i + 1)) + 1 by omega, List.replicate_succ, List.set_cons_zero]
  simp [sched]
theorem tab_next (b : List UInt8) (i : Nat) (h : 16 ≤ i) : (tab b i).getD (i - 16) 0 + (rot ((tab b i).getD (i - 15) 0) 7 ^^^ rot ((tab b i).getD (i - 15) 0) 18 ^^^ (tab b i).getD (i - 15) 0 >>> 3) + (tab b i).getD (i - 7) 0 + (rot ((tab b i).getD (i - 2) 0) 17 ^^^ rot ((tab b i).getD (i - 2) 0) 19 ^^^ (tab b i).getD (i - 2) 0 >>> 10) = nextW (sched b i) i := by
  rw [tab_get _ _ _ (by omega), tab_get _ _ _ (by omega), tab_get _ _ _ (by omega), tab_get _ _ _ (by omega)]; rfl
abbrev tabO (p : Nat) (ws : List Wd) : Own := .obj p 121 (ws.map u32)
abbrev blkO (p : Nat) (bs : List UInt8) : Own := .obj p 115 (bs.map byte)
set_option maxHeartbeats 2000000 in
theorem spread_ok (bs : List UInt8) (hb : bs.length = 64) : FnC Tryd.prog 77 [.agg (bs.map byte)] [] (fun s L => s = .agg ((sched bs 64).map u32) ∧ L = []) := by
  refine FnC.intro Tryd.func77 rfl Tryd.ntmps77 rfl fun Z w0 hG => ?_
  focus (
 (refine W.seq (W.region ?_))
 (refine J.boxAg rfl rfl ?_; intro b')
 (refine J.alloc (by simp only [List.map_cons, List.map_nil]; rfl) rfl rfl ?_; intro b')
 (refine J.nil (N.seq (W.seq (W.region ?_))))
 (refine J.alloc (by simp only [List.map_cons, List.map_nil]; rfl) rfl rfl ?_; intro b')
 (refine J.nil (N.seq (W.seq (W.seq (W.region (Jx.move rfl rfl (J.nil (N.seq (W.block ?_)))))))))
 (refine id ?_; rotate_left))
  rename_i p1 p2
  refine W.loop (α := Nat × List Wd) (fun x => [(8, int x.1), (3, ptr b'), (2, ptr p2), (1, ptr p1)]) (fun x => [tabO b' x.2, tabO p2 (tab bs 0), blkO p1 bs]) (fun x => x.1 ≤ 16 ∧ x.2 = tab bs x.1) (fun x => 16 - x.1) (0, tab bs 0) ⟨by omega, rfl⟩ rfl ⟨ref0 rfl, ref0 rfl, ref0 rfl, ref0 rfl, trivial⟩ ?_
  have hz : (tab bs 0).length = 64 := tab_len bs 0 (by omega)
  generalize tab bs 0 = zs at *
  rintro ⟨i, ws⟩ ⟨hi, hw⟩
  simp only at hi hw ⊢
  have hl : ws.length = 64 := by rw [hw]; exact tab_len bs i (by omega)
  by_cases h : i < 16
  · focus (
 (refine W.seq (W.region (Jx.lssI rfl rfl rfl (J.nil (N.seq (W.seq (W.cT rfl ?_)))))))
 (refine W.skip (N.seq (W.seq (W.block (W.seq (W.region (Jx.move rfl rfl (Jx.assign rfl rfl (J.nil (N.seq ?_))))))))))
 (refine W.draw follows ?_)
 (refine JD.upto (n := 31) rfl (by decide +kernel) (by decide +kernel) rfl rfl ?_)
 (refine Cx.move rfl rfl ?_)
 (refine Cx.move rfl rfl ?_)
 (refine Cx.mul64 rfl rfl (by omega) rfl ?_)
 (refine Cx.index0 (4 * i) rfl rfl (by omega) (by omega) rfl ?_)
 (refine Cx.loadA byte 0 rfl 2 rfl (by omega) rfl ?_)
 (refine Cx.byteWord rfl rfl rfl ?_)
 (refine Cx.shlU rfl rfl (by decide) rfl ?_)
 (refine Cx.move rfl rfl ?_)
 (refine Cx.mul64 rfl rfl (by omega) rfl ?_)
 (refine Cx.add64 rfl rfl (by omega) rfl ?_)
 (refine Cx.index0 (4 * i + 1) rfl rfl (by omega) (by omega) rfl ?_)
 (refine Cx.loadA byte 0 rfl 2 rfl (by omega) rfl ?_)
 (refine Cx.byteWord rfl rfl rfl ?_)
 (refine Cx.shlU rfl rfl (by decide) rfl ?_)
 (refine Cx.orU rfl rfl rfl ?_)
 (refine Cx.move rfl rfl ?_)
 (refine Cx.mul64 rfl rfl (by omega) rfl ?_)
 (refine Cx.add64 rfl rfl (by omega) rfl ?_)
 (refine Cx.index0 (4 * i + 2) rfl rfl (by omega) (by omega) rfl ?_)
 (refine Cx.loadA byte 0 rfl 2 rfl (by omega) rfl ?_)
 (refine Cx.byteWord rfl rfl rfl ?_)
 (refine Cx.shlU rfl rfl (by decide) rfl ?_)
 (refine Cx.orU rfl rfl rfl ?_)
 (refine Cx.move rfl rfl ?_)
 (refine Cx.mul64 rfl rfl (by omega) rfl ?_)
 (refine Cx.add64 rfl rfl (by omega) rfl ?_)
 (refine Cx.index0 (4 * i + 3) rfl rfl (by omega) (by omega) rfl ?_)
 (refine Cx.loadA byte 0 rfl 2 rfl (by omega) rfl ?_)
 (refine Cx.byteWord rfl rfl rfl ?_)
 (refine Cx.orU rfl rfl rfl ?_)
 (refine Cx.index0 i rfl rfl (by omega) (by omega) rfl ?_)
 (refine SegC.nil ?_)
 (refine J.storeA u32 (word bs i) rfl rfl (One.val rfl) 0 rfl (by omega) rfl ?_)
 (refine J.nil (N.seq (W.region (Jx.add64 rfl rfl (by omega) rfl ?_))))
 (refine Jx.move rfl rfl (J.nil ?_))
 (refine id ?_; rotate_left))
    exact N.round (i + 1, ws.set i (word bs i)) ⟨by omega, by rw [hw]; exact tab_set bs i (by omega) (word bs i) (by rw [if_pos h])⟩ (by simp only; omega) rfl ⟨ref0 rfl, ref0 rfl, ref0 rfl, ref0 rfl, trivial⟩
  · have h16 : i = 16 := by omega
    focus (
 (refine W.seq (W.region (Jx.lssI rfl rfl rfl (J.nil (N.seq (W.seq (W.cF rfl ?_)))))))
 (refine W.exit (N.seq (W.seq (W.seq (W.region (Jx.assign rfl rfl (J.nil (N.seq (W.block ?_)))))))))
 (refine id ?_; rotate_left))
    refine W.loop (α := Nat × List Wd) (fun x => [(5, int x.1), (3, ptr b'), (2, ptr p2), (1, ptr p1)]) (fun x => [tabO b' x.2, tabO p2 zs, blkO p1 bs]) (fun x => 16 ≤ x.1 ∧ x.1 ≤ 64 ∧ x.2 = tab bs x.1) (fun x => 64 - x.1) (16, ws) ⟨by simp, by simp, by rw [hw, h16]⟩ rfl ⟨ref0 rfl, ref0 rfl, ref0 rfl, ref0 rfl, trivial⟩ ?_
    clear hi hw hl h h16
    rintro ⟨i, ws⟩ ⟨hi0, hi1, hw⟩
    simp only at hi0 hi1 hw ⊢
    have hl : ws.length = 64 := by rw [hw]; exact tab_len bs i (by omega)
    by_cases h : i < 64
    · focus (
 (refine W.seq (W.seq (W.region (Jx.move rfl rfl (Jx.lssI rfl rfl rfl (J.nil (N.seq (W.cT rfl ?_))))))))
 (refine W.skip (N.seq (W.seq (W.block (W.seq ?_)))))
 (refine W.draw follows ?_)
 (refine JD.calm rfl (by decide +kernel) ?_)
 (refine Cx.move rfl rfl ?_)
 (refine Cx.sub64 rfl rfl (by omega) rfl ?_)
 (refine Cx.index0 (i - 15) rfl rfl (by omega) (by omega) rfl ?_)
 (refine Cx.loadA u32 0 rfl 0 rfl (by omega) rfl ?_)
 (refine Cx.move rfl rfl ?_)
 (refine Cx.sub64 rfl rfl (by omega) rfl ?_)
 (refine Cx.index0 (i - 2) rfl rfl (by omega) (by omega) rfl ?_)
 (refine Cx.loadA u32 0 rfl 0 rfl (by omega) rfl ?_)
 (refine Cx.assign rfl rfl ?_)
 (refine Cx.assign rfl rfl ?_)
 (refine SegC.nil ?_)
 (refine N.seq ?_)
 (refine W.draw follows ?_)
 (refine JD.upto (n := 29) rfl (by decide +kernel) (by decide +kernel) rfl rfl ?_)
 (refine Cx.move rfl rfl ?_)
 (refine Cx.move rfl rfl ?_)
 (refine Cx.sub64 rfl rfl (by omega) rfl ?_)
 (refine Cx.index0 (i - 16) rfl rfl (by omega) (by omega) rfl ?_)
 (refine Cx.loadA u32 0 rfl 0 rfl (by omega) rfl ?_)
 (refine Cx.move rfl rfl ?_)
 (refine SegC.q (Qs.call (Lc := []) (rot_ok _ 7 (by decide)) (fun s L' h => h) (List.Perm.refl _) (evs_args rfl)) rfl ?_)
 (refine Cx.move rfl rfl ?_)
 (refine SegC.q (Qs.call (Lc := []) (rot_ok _ 18 (by decide)) (fun s L' h => h) (List.Perm.refl _) (evs_args rfl)) rfl ?_)
 (refine Cx.xorU rfl rfl rfl ?_)
 (refine Cx.move rfl rfl ?_)
 (refine Cx.shrU rfl rfl (by decide) rfl ?_)
 (refine Cx.xorU rfl rfl rfl ?_)
 (refine Cx.addU rfl rfl rfl ?_)
 (refine Cx.move rfl rfl ?_)
 (refine Cx.sub64 rfl rfl (by omega) rfl ?_)
 (refine Cx.index0 (i - 7) rfl rfl (by omega) (by omega) rfl ?_)
 (refine Cx.loadA u32 0 rfl 0 rfl (by omega) rfl ?_)
 (refine Cx.addU rfl rfl rfl ?_)
 (refine Cx.move rfl rfl ?_)
 (refine SegC.q (Qs.call (Lc := []) (rot_ok _ 17 (by decide)) (fun s L' h => h) (List.Perm.refl _) (evs_args rfl)) rfl ?_)
 (refine Cx.move rfl rfl ?_)
 (refine SegC.q (Qs.call (Lc := []) (rot_ok _ 19 (by decide)) (fun s L' h => h) (List.Perm.refl _) (evs_args rfl)) rfl ?_)
 (refine Cx.xorU rfl rfl rfl ?_)
 (refine Cx.move rfl rfl ?_)
 (refine Cx.shrU rfl rfl (by decide) rfl ?_)
 (refine Cx.xorU rfl rfl rfl ?_)
 (refine Cx.addU rfl rfl rfl ?_)
 (refine Cx.index0 i rfl rfl (by omega) (by omega) rfl ?_)
 (refine SegC.nil ?_)
 (refine J.storeA u32 (ws.getD (i - 16) 0 + sig0 (ws.getD (i - 15) 0) + ws.getD (i - 7) 0 + sig1 (ws.getD (i - 2) 0)) rfl rfl (One.val rfl) 0 rfl (by omega) rfl ?_)
 (refine J.nil (N.seq (W.region (Jx.move rfl rfl (Jx.add64 rfl rfl (by omega) rfl ?_)))))
 (refine Jx.assign rfl rfl (J.nil ?_))
 (refine id ?_; rotate_left))
      refine N.round (i + 1, ws.set i (ws.getD (i - 16) 0 + sig0 (ws.getD (i - 15) 0) + ws.getD (i - 7) 0 + sig1 (ws.getD (i - 2) 0))) ⟨by simp only; omega, by simp only; omega, ?_⟩ (by simp only; omega) rfl ⟨ref0 rfl, ref0 rfl, ref0 rfl, ref0 rfl, trivial⟩
      simp only
      rw [hw]
      exact tab_set bs i (by omega) _ (by rw [if_neg (by omega), ← tab_next bs i hi0]; rfl)
    · have h64 : i = 64 := by omega
      focus (
 (refine W.seq (W.seq (W.region (Jx.move rfl rfl (Jx.lssI rfl rfl rfl (J.nil (N.seq (W.cF rfl ?_))))))))
 (refine W.exit (N.seq (W.seq (W.region (Jx.loadArr (by rw [List.length_map]; exact hl) rfl 0 rfl rfl ?_)))))
 (refine J.storeArr (by rw [List.length_map]; exact hl) rfl rfl 1 rfl (by rw [List.length_map]; exact hz) rfl ?_)
 (refine J.nil (N.seq (W.ret ?_)))
 (refine id ?_; rotate_left))
      refine N.retD (rs := [.cell 2 121]) (L1 := []) rfl (.cell rfl 1 rfl (by rw [List.length_map, hl]; infer_instance) .nil) (List.nil_sublist _) ⟨?_, rfl⟩
      rw [hw, h64]; simp [oneOr, tab]
end Go.Proofs.YtbdkenlkimiddaaDoor.Sha
namespace Go.Proofs.YtbdkenlkimiddaaDoor.Sha
open Go Go.Sse
set_option maxRecDepth 10000
set_option linter.unusedVariables false
set_option linter.unusedSimpArgs false
theorem shaK_lt : shaK.all (fun n => decide (n < 4294967296)) = true := by decide
theorem kAt_nat (i : Nat) : (kAt i).toNat = shaK.getD i 0 := by
  unfold kAt
  rw [BitVec.toNat_ofNat]
  refine Nat.mod_eq_of_lt ?_
  rw [List.getD_eq_getElem?_getD]
  cases h : shaK[i]? with
  | none => simp
  | some v => simpa using (List.all_eq_true.1 shaK_lt) v (List.mem_of_getElem? h)
theorem k_get (i : Nat) (h : i < 64) : (shaK.map fun (n : Nat) => Value.int .u32 (n : Int))[i]? = some (.int .u32 ((kAt i).toNat : Int)) := by
  have hl : i < shaK.length := h
  rw [List.getElem?_map, List.getElem?_eq_getElem hl, kAt_nat]
  simp [List.getD_eq_getElem?_getD, List.getElem?_eq_getElem hl]
theorem list8 {ws : List Wd} (t : S8) (hl : ws.length = 8) (h : ∀ j, j < 8 → ws.getD j 0 = t.list.getD j 0) : ws = t.list := by
  refine List.ext_getElem (by rw [hl]; rfl) fun j h1 h2 => ?_
  have := h j (by omega)
  simpa [List.getD_eq_getElem?_getD, List.getElem?_eq_getElem h1, List.getElem?_eq_getElem h2] using this
theorem add_step (s h vs : List Wd) (j : Nat) (h8 : j < 8) (hl : vs.length = 8) (hv : ∀ m, m < 8 → vs.getD m 0 = if m < j then s.getD m 0 + h.getD m 0 else s.getD m 0) (m : Nat) (hm : m < 8) :
    (vs.set j (vs.getD j 0 + h.getD j 0)).getD m 0 = if m < j + 1 then s.getD m 0 + h.getD m 0 else s.getD m 0 := by
  have e1 : (vs.set j (vs.getD j 0 + h.getD j 0)).getD m 0 = if m = j then vs.getD j 0 + h.getD j 0 else vs.getD m 0 := by
    simp only [List.getD_eq_getElem?_getD, List.getElem?_set]
    by_cases e : j = m
    · subst e; simp [hl, hm]
    · rw [if_neg e, if_neg (fun h => e h.symm)]
  rw [e1]
  by_cases e : m = j
  · subst e; rw [if_pos rfl, hv m hm, if_neg (Nat.lt_irrefl m), if_pos (Nat.lt_succ_self m)]
  · rw [if_neg e, hv m hm]
    by_cases hlt : m < j
    · rw [if_pos hlt, if_pos (by omega)]
    · rw [if_neg hlt, if_neg (by omega)]
set_option maxHeartbeats 4000000 in
theorem block_ok (h : S8) (bs : List UInt8) (hb : bs.length = 64) : FnC Tryd.prog 74 [.agg h.cells, .agg (bs.map byte)] [] (fun s L => s = .agg (blockS h bs).cells ∧ L = []) := by
  have c1 := spread_ok bs hb
  have hs := sched_len bs 64
  have hW : ∀ i, i < 64 → (sched bs 64).getD i 0 = W bs i := fun i hi => sched_get bs 64 i hi
  generalize sched bs 64 = ws at *
  refine FnC.intro Tryd.func74 rfl Tryd.ntmps74 rfl fun Z w0 hG => ?_
  focus (
 (refine W.seq (W.region ?_))
 (refine J.boxAg rfl rfl ?_; intro b')
 (refine J.boxAg rfl rfl ?_; intro b')
 (refine J.alloc (by simp only [List.map_cons, List.map_nil]; rfl) rfl rfl ?_; intro b')
 (refine J.nil (N.seq (W.seq (W.region (Jx.loadArr (by rw [List.length_map]; exact hb) rfl 1 rfl rfl ?_)))))
 (refine J.call (c1) rfl (evs_args rfl) rfl ?_; rintro _ _ ⟨rfl, rfl⟩; simp only [la1, la2, la3])
 (refine J.alloc (by simp only [List.map_cons, List.map_nil]; rfl) rfl rfl ?_; intro b')
 (refine J.storeArr (by rw [List.length_map]; exact hs) rfl rfl 0 rfl rfl rfl ?_)
 (refine J.nil (N.seq (W.seq (W.region (Jx.loadAll rfl 3 rfl rfl rfl ?_)))))
 (refine J.alloc (by simp only [List.map_cons, List.map_nil]; rfl) rfl rfl ?_; intro b')
 (refine J.storeAll rfl rfl rfl 0 rfl rfl rfl ?_)
 (refine J.nil (N.seq (W.seq (W.seq (W.region (Jx.move rfl rfl (J.nil (N.seq (W.block ?_)))))))))
 (refine id ?_; rotate_left))
  rename_i p2 p3 p4 p5
  refine W.loop (α := Nat × S8) (fun x => [(16, int x.1), (6, ptr b'), (5, ptr p5), (4, ptr p4), (2, ptr p2)]) (fun x => [.obj b' 95 x.2.cells, tabO p5 ws, .obj p4 95 (S8.cells ⟨0, 0, 0, 0, 0, 0, 0, 0⟩), blkO p3 bs, .obj p2 95 h.cells]) (fun x => x.1 ≤ 64 ∧ x.2 = rounds h bs x.1) (fun x => 64 - x.1) (0, h) ⟨by simp, rfl⟩ rfl ⟨ref0 rfl, ref0 rfl, ref0 rfl, ref0 rfl, ref0 rfl, trivial⟩ ?_
  rintro ⟨i, s⟩ ⟨hi, hst⟩
  simp only at hi hst ⊢
  by_cases h1 : i < 64
  · have hk := k_get i h1
    focus (
 (refine W.seq (W.region (Jx.lssI rfl rfl rfl (J.nil (N.seq (W.seq (W.cT rfl ?_)))))))
 (refine W.skip (N.seq (W.seq (W.block (W.seq (W.region (Jx.move rfl rfl (Jx.assign rfl rfl (J.nil (N.seq (W.seq ?_)))))))))))
 (refine W.draw follows ?_)
 (refine JD.calm rfl (by decide +kernel) ?_)
 (refine Cx.indexArr rfl rfl (by decide) (by decide) rfl ?_)
 (refine Cx.load rfl 0 rfl rfl rfl ?_)
 (refine Cx.indexArr rfl rfl (by decide) (by decide) rfl ?_)
 (refine Cx.load rfl 0 rfl rfl rfl ?_)
 (refine Cx.assign rfl rfl ?_)
 (refine Cx.assign rfl rfl ?_)
 (refine SegC.nil ?_)
 (refine N.seq (W.seq ?_))
 (refine W.draw follows ?_)
 (refine JD.calm rfl (by decide +kernel) ?_)
 (refine Cx.indexArr rfl rfl (by decide) (by decide) rfl ?_)
 (refine Cx.load rfl 0 rfl rfl rfl ?_)
 (refine Cx.move rfl rfl ?_)
 (refine SegC.q (Qs.call (Lc := []) (rot_ok _ 6 (by decide)) (fun s L' h => h) (List.Perm.refl _) (evs_args rfl)) rfl ?_)
 (refine Cx.move rfl rfl ?_)
 (refine SegC.q (Qs.call (Lc := []) (rot_ok _ 11 (by decide)) (fun s L' h => h) (List.Perm.refl _) (evs_args rfl)) rfl ?_)
 (refine Cx.xorU rfl rfl rfl ?_)
 (refine Cx.move rfl rfl ?_)
 (refine SegC.q (Qs.call (Lc := []) (rot_ok _ 25 (by decide)) (fun s L' h => h) (List.Perm.refl _) (evs_args rfl)) rfl ?_)
 (refine Cx.xorU rfl rfl rfl ?_)
 (refine Cx.addU rfl rfl rfl ?_)
 (refine Cx.move rfl rfl ?_)
 (refine Cx.indexArr rfl rfl (by decide) (by decide) rfl ?_)
 (refine Cx.load rfl 0 rfl rfl rfl ?_)
 (refine Cx.andU rfl rfl rfl ?_)
 (refine Cx.move rfl rfl ?_)
 (refine Cx.notU rfl rfl ?_)
 (refine Cx.indexArr rfl rfl (by decide) (by decide) rfl ?_)
 (refine Cx.load rfl 0 rfl rfl rfl ?_)
 (refine Cx.andU rfl rfl rfl ?_)
 (refine Cx.xorU rfl rfl rfl ?_)
 (refine Cx.addU rfl rfl rfl ?_)
 (refine Cx.move rfl rfl ?_)
 (refine Cx.index0 i rfl rfl rfl (by omega) rfl ?_)
 (refine Cx.loadG rfl 0 rfl hk rfl ?_)
 (refine Cx.addU rfl rfl rfl ?_)
 (refine Cx.move rfl rfl ?_)
 (refine Cx.index0 i rfl rfl rfl (by omega) rfl ?_)
 (refine Cx.loadA u32 0 rfl 1 rfl (by omega) rfl ?_)
 (refine Cx.addU rfl rfl rfl ?_)
 (refine Cx.assign rfl rfl ?_)
 (refine SegC.nil ?_)
 (refine N.seq (W.seq ?_))
 (refine W.draw follows ?_)
 (refine JD.calm rfl (by decide +kernel) ?_)
 (refine Cx.move rfl rfl ?_)
 (refine SegC.q (Qs.call (Lc := []) (rot_ok _ 2 (by decide)) (fun s L' h => h) (List.Perm.refl _) (evs_args rfl)) rfl ?_)
 (refine Cx.move rfl rfl ?_)
 (refine SegC.q (Qs.call (Lc := []) (rot_ok _ 13 (by decide)) (fun s L' h => h) (List.Perm.refl _) (evs_args rfl)) rfl ?_)
 (refine Cx.xorU rfl rfl rfl ?_)
 (refine Cx.move rfl rfl ?_)
 (refine SegC.q (Qs.call (Lc := []) (rot_ok _ 22 (by decide)) (fun s L' h => h) (List.Perm.refl _) (evs_args rfl)) rfl ?_)
 (refine Cx.xorU rfl rfl rfl ?_)
 (refine Cx.move rfl rfl ?_)
 (refine Cx.indexArr rfl rfl (by decide) (by decide) rfl ?_)
 (refine Cx.load rfl 0 rfl rfl rfl ?_)
 (refine Cx.andU rfl rfl rfl ?_)
 (refine Cx.move rfl rfl ?_)
 (refine Cx.indexArr rfl rfl (by decide) (by decide) rfl ?_)
 (refine Cx.load rfl 0 rfl rfl rfl ?_)
 (refine Cx.andU rfl rfl rfl ?_)
 (refine Cx.xorU rfl rfl rfl ?_)
 (refine Cx.indexArr rfl rfl (by decide) (by decide) rfl ?_)
 (refine Cx.load rfl 0 rfl rfl rfl ?_)
 (refine Cx.indexArr rfl rfl (by decide) (by decide) rfl ?_)
 (refine Cx.load rfl 0 rfl rfl rfl ?_)
 (refine Cx.andU rfl rfl rfl ?_)
 (refine Cx.xorU rfl rfl rfl ?_)
 (refine Cx.addU rfl rfl rfl ?_)
 (refine Cx.assign rfl rfl ?_)
 (refine SegC.nil ?_)
 (refine N.seq (W.region (Jx.move rfl rfl (Jx.move rfl rfl (Jx.addU rfl rfl rfl ?_)))))
 (refine Jx.move rfl rfl (Jx.indexArr rfl rfl (by decide) (by decide) rfl ?_))
 (refine Jx.load rfl 0 rfl rfl rfl ?_)
 (refine Jx.indexArr rfl rfl (by decide) (by decide) rfl ?_)
 (refine Jx.load rfl 0 rfl rfl rfl ?_)
 (refine Jx.indexArr rfl rfl (by decide) (by decide) rfl ?_)
 (refine Jx.load rfl 0 rfl rfl rfl ?_)
 (refine Jx.move rfl rfl (Jx.addU rfl rfl rfl ?_))
 (refine Jx.move rfl rfl (Jx.indexArr rfl rfl (by decide) (by decide) rfl ?_))
 (refine Jx.load rfl 0 rfl rfl rfl ?_)
 (refine Jx.indexArr rfl rfl (by decide) (by decide) rfl ?_)
 (refine Jx.load rfl 0 rfl rfl rfl ?_)
 (refine Jx.buildA rfl rfl rfl rfl rfl ?_)
 (refine J.storeAll rfl rfl rfl 0 rfl rfl rfl ?_)
 (refine J.nil (N.seq (W.region (Jx.add64 rfl rfl (by omega) rfl ?_))))
 (refine Jx.move rfl rfl (J.nil ?_))
 (refine id ?_; rotate_left))
    exact N.round (i + 1, s.round (kAt i) (ws.getD i 0)) ⟨by simp only; omega, by simp only; rw [hst, hW i h1]; rfl⟩ (by simp only; omega) rfl ⟨ref0 rfl, ref0 rfl, ref0 rfl, ref0 rfl, ref0 rfl, trivial⟩
  · have h64 : i = 64 := by omega
    rw [h64] at hst
    focus (
 (refine W.seq (W.region (Jx.lssI rfl rfl rfl (J.nil (N.seq (W.seq (W.cF rfl ?_)))))))
 (refine W.exit (N.seq (W.seq (W.seq (W.region (Jx.move rfl rfl (J.nil (N.seq (W.block ?_)))))))))
 (refine id ?_; rotate_left))
    refine W.loop (α := Nat × List Wd) (fun x => [(96, int x.1), (6, ptr b'), (4, ptr p4), (2, ptr p2)]) (fun x => [.obj b' 95 (x.2.map u32), tabO p5 ws, .obj p4 95 (S8.cells ⟨0, 0, 0, 0, 0, 0, 0, 0⟩), blkO p3 bs, .obj p2 95 (h.list.map u32)])
      (fun x => x.1 ≤ 8 ∧ x.2.length = 8 ∧ ∀ j, j < 8 → x.2.getD j 0 = if j < x.1 then s.list.getD j 0 + h.list.getD j 0 else s.list.getD j 0) (fun x => 8 - x.1) (0, s.list) ⟨by simp, rfl, fun j hj => by simp⟩ rfl ⟨ref0 rfl, ref0 rfl, ref0 rfl, ref0 rfl, trivial⟩ ?_
    rintro ⟨j, vs⟩ ⟨hj, hl, hv⟩
    simp only at hj hl hv ⊢
    by_cases h8 : j < 8
    · focus (
 (refine W.seq (W.region (Jx.lssI rfl rfl rfl (J.nil (N.seq (W.seq (W.cT rfl ?_)))))))
 (refine W.skip (N.seq (W.seq (W.block (W.seq (W.region (Jx.move rfl rfl (Jx.assign rfl rfl (J.nil (N.seq ?_))))))))))
 (refine W.draw follows ?_)
 (refine JD.upto (n := 8) rfl (by decide +kernel) (by decide +kernel) rfl rfl ?_)
 (refine Cx.move rfl rfl ?_)
 (refine Cx.index0 j rfl rfl rfl (by omega) rfl ?_)
 (refine Cx.loadA u32 0 rfl 0 rfl (by omega) rfl ?_)
 (refine Cx.move rfl rfl ?_)
 (refine Cx.index0 j rfl rfl rfl (by omega) rfl ?_)
 (refine Cx.loadA u32 0 rfl 4 rfl h8 rfl ?_)
 (refine Cx.addU rfl rfl rfl ?_)
 (refine Cx.index0 j rfl rfl rfl (by omega) rfl ?_)
 (refine SegC.nil ?_)
 (refine J.storeA u32 (vs.getD j 0 + h.list.getD j 0) rfl rfl (One.val rfl) 0 rfl (by omega) rfl ?_)
 (refine J.nil (N.seq (W.region (Jx.add64 rfl rfl (by omega) rfl ?_))))
 (refine Jx.move rfl rfl (J.nil ?_))
 (refine id ?_; rotate_left))
      refine N.round (j + 1, vs.set j (vs.getD j 0 + h.list.getD j 0)) ⟨by simp only; omega, by simp only [List.length_set]; exact hl, fun m hm => ?_⟩ (by simp only; omega) rfl ⟨ref0 rfl, ref0 rfl, ref0 rfl, ref0 rfl, trivial⟩
      exact add_step s.list h.list vs j h8 hl hv m hm
    · have e : vs = ((rounds h bs 64).add h).list := by
        rw [← hst]
        refine list8 (s.add h) hl fun m hm => ?_
        rw [hv m hm, if_pos (by omega)]
        match m, hm with
        | 0, _ => rfl
        | 1, _ => rfl
        | 2, _ => rfl
        | 3, _ => rfl
        | 4, _ => rfl
        | 5, _ => rfl
        | 6, _ => rfl
        | 7, _ => rfl
      focus (
 (refine W.seq (W.region (Jx.lssI rfl rfl rfl (J.nil (N.seq (W.seq (W.cF rfl ?_)))))))
 (refine W.exit (N.seq (W.seq (W.region (Jx.loadArr (by rw [List.length_map]; exact hl) rfl 0 rfl rfl ?_)))))
 (refine J.storeArr (by rw [List.length_map]; exact hl) rfl rfl 2 rfl rfl rfl ?_)
 (refine J.nil (N.seq (W.ret ?_)))
 (refine id ?_; rotate_left))
      refine N.retD (rs := [.cell 4 95]) (L1 := []) rfl (.cell rfl 2 rfl (by rw [List.length_map, hl]; infer_instance) .nil) (List.nil_sublist _) ⟨?_, rfl⟩
      rw [e]
      unfold blockS
      generalize rounds h bs 64 = r
      rfl
end Go.Proofs.YtbdkenlkimiddaaDoor.Sha
namespace Go.Proofs.YtbdkenlkimiddaaDoor.Sha
open Go Go.Sse
set_option linter.unusedVariables false
set_option linter.unusedSimpArgs false
set_option maxRecDepth 10000
theorem turned_ok (x : Wd) (n : Nat) (hn : n ≤ 32) : FnC Tryd.prog 75 [u32 x, int n] [] (fun s L => s = u32 (rot x n) ∧ L = []) := by
  refine FnC.intro Tryd.func75 rfl Tryd.ntmps75 rfl fun Z w0 hG => ?_
  focus (
 (refine W.seq (W.region (Jx.assign rfl rfl (J.nil (N.seq (W.seq (W.region (Jx.move rfl rfl (Jx.move rfl rfl ?_)))))))))
 (refine Jx.convU64 n rfl rfl rfl (by omega) rfl ?_)
 (refine Jx.shrU rfl rfl hn rfl ?_)
 (refine Jx.move rfl rfl (Jx.move rfl rfl (Jx.sub64 rfl rfl (by omega) rfl ?_)))
 (refine Jx.convU64 (32 - n) rfl rfl (by omega) (by omega) rfl ?_)
 (refine Jx.shlU rfl rfl (by omega) rfl ?_)
 (refine Jx.orU rfl rfl rfl ?_)
 (refine Jx.assign rfl rfl (J.nil (N.seq (W.ret ?_))))
 (refine id ?_; rotate_left))
  exact N.ret (rs := [.tmp 4]) rfl (.tmp rfl .nil) ⟨rfl, rfl⟩
theorem rfirst_ok : FnC Tryd.prog 71 [] [] (fun s L => s = .agg first8.cells ∧ L = []) := by
  refine FnC.intro Tryd.func71 rfl Tryd.ntmps71 rfl fun Z w0 hG => ?_
  focus (
 (refine W.seq (W.region ?_))
 (refine J.alloc (by simp only [List.map_cons, List.map_nil]; rfl) rfl rfl ?_; intro b')
 (refine J.nil (N.seq (W.seq (W.region (Jx.buildA rfl rfl rfl rfl rfl ?_)))))
 (refine J.storeAll rfl rfl rfl 0 rfl rfl rfl ?_)
 (refine J.nil (N.seq (W.ret ?_)))
 (refine id ?_; rotate_left))
  exact N.retD (rs := [.cell 0 95]) (L1 := []) rfl (.cell rfl 0 rfl inferInstance .nil) (List.nil_sublist _) ⟨rfl, rfl⟩
theorem kC_get (i : Nat) (h : i < 64) : (shaK.map fun (n : Nat) => SV.val (.int .u32 (n : Int)))[i]? = some (u32 (kAt i)) := by
  have hl : i < shaK.length := h
  rw [List.getElem?_map, List.getElem?_eq_getElem hl]
  simp only [u32, kAt_nat]
  simp [List.getD_eq_getElem?_getD, List.getElem?_eq_getElem hl]
set_option maxHeartbeats 4000000 in
theorem const_ok (i : Nat) (h : i < 64) : FnC Tryd.prog 76 [int i] [] (fun s L => s = u32 (kAt i) ∧ L = []) := by
  have hk := kC_get i h
  refine FnC.intro Tryd.func76 rfl Tryd.ntmps76 rfl fun Z w0 hG => ?_
  focus (
 (refine W.seq (W.region (Jx.assign rfl rfl (J.nil (N.seq (W.seq (W.region (Jx.buildA rfl rfl rfl rfl rfl ?_))))))))
 (refine J.alloc (by simp only [List.map_cons, List.map_nil]; rfl) rfl rfl ?_; intro b')
 (refine J.storeAll rfl rfl rfl 0 rfl rfl rfl ?_)
 (refine J.nil (N.seq (W.seq (W.region (Jx.move rfl rfl ?_)))))
 (refine Jx.index0 i rfl rfl rfl (by omega) rfl ?_)
 (refine Jx.load rfl 0 rfl hk rfl ?_)
 (refine Jx.assign rfl rfl (J.nil (N.seq (W.ret ?_))))
 (refine id ?_; rotate_left))
  exact N.retD (rs := [.tmp 2]) (L1 := []) rfl (.tmp rfl .nil) (List.nil_sublist _) ⟨rfl, rfl⟩
def part (b : List UInt8) (j : Nat) : Nat → Wd
  | 0 => 0
  | n + 1 => part b j n * 256#32 + byteAt b (4 * j + n)
theorem part_word (b : List UInt8) (j : Nat) : part b j 4 = word b j := by
  have hb : ∀ i, (byteAt b i).toNat < 256 := fun i => by
    unfold byteAt
    rw [BitVec.toNat_ofNat]
    exact Nat.lt_of_le_of_lt (Nat.mod_le _ _) (UInt8.toNat_lt _)
  simp only [part, word, Nat.add_zero]
  generalize hx : byteAt b (4 * j) = x; generalize hy : byteAt b (4 * j + 1) = y; generalize hz : byteAt b (4 * j + 2) = z; generalize hw : byteAt b (4 * j + 3) = w
  have h1 := hb (4 * j); have h2 := hb (4 * j + 1); have h3 := hb (4 * j + 2); have h4 := hb (4 * j + 3)
  rw [hx] at h1; rw [hy] at h2; rw [hz] at h3; rw [hw] at h4
  apply BitVec.eq_of_toNat_eq
  have e1 : (x <<< 24 ||| y <<< 16).toNat = x.toNat * 16777216 + y.toNat * 65536 := by
    rw [BitVec.toNat_or, BitVec.toNat_shiftLeft, BitVec.toNat_shiftLeft, Nat.mod_eq_of_lt (by rw [Nat.shiftLeft_eq]; omega), Nat.mod_eq_of_lt (by rw [Nat.shiftLeft_eq]; omega), ← Nat.shiftLeft_add_eq_or_of_lt (by rw [Nat.shiftLeft_eq]; omega)]
    rw [Nat.shiftLeft_eq, Nat.shiftLeft_eq]
  have e2 : (x <<< 24 ||| y <<< 16 ||| z <<< 8).toNat = x.toNat * 16777216 + y.toNat * 65536 + z.toNat * 256 := by
    rw [BitVec.toNat_or, e1, BitVec.toNat_shiftLeft, Nat.mod_eq_of_lt (by rw [Nat.shiftLeft_eq]; omega)]
    have : x.toNat * 16777216 + y.toNat * 65536 = (x.toNat * 256 + y.toNat) <<< 16 := by rw [Nat.shiftLeft_eq]; omega
    rw [this, ← Nat.shiftLeft_add_eq_or_of_lt (by rw [Nat.shiftLeft_eq]; omega), Nat.shiftLeft_eq z.toNat]
  have e3 : (x <<< 24 ||| y <<< 16 ||| z <<< 8 ||| w).toNat = x.toNat * 16777216 + y.toNat * 65536 + z.toNat * 256 + w.toNat := by
    rw [BitVec.toNat_or, e2]
    have : x.toNat * 16777216 + y.toNat * 65536 + z.toNat * 256 = (x.toNat * 65536 + y.toNat * 256 + z.toNat) <<< 8 := by rw [Nat.shiftLeft_eq]; omega
    rw [this, ← Nat.shiftLeft_add_eq_or_of_lt (by omega)]
  rw [e3]
  simp only [BitVec.toNat_add, BitVec.toNat_mul, BitVec.toNat_ofNat]
  omega
theorem part_step (b : List UInt8) (ws : List Wd) (i : Nat) (hi : i < 64) (hl : ws.length = 16) (h : ∀ j, j < 16 → ws.getD j 0 = part b j (min 4 (i - 4 * j))) (j : Nat) (hj : j < 16) :
    (ws.set (i / 4) (ws.getD (i / 4) 0 * 256#32 + byteAt b i)).getD j 0 = part b j (min 4 (i + 1 - 4 * j)) := by
  have e1 : (ws.set (i / 4) (ws.getD (i / 4) 0 * 256#32 + byteAt b i)).getD j 0 = if j = i / 4 then ws.getD (i / 4) 0 * 256#32 + byteAt b i else ws.getD j 0 := by
    simp only [List.getD_eq_getElem?_getD, List.getElem?_set]
    by_cases e : i / 4 = j
    · subst e; simp [hl, hj]
    · rw [if_neg e, if_neg (fun h => e h.symm)]
  rw [e1]
  by_cases e : j = i / 4
  · rw [if_pos e, ← e, h j hj]
    have h1 : min 4 (i - 4 * j) = i - 4 * j := by omega
    have h2 : min 4 (i + 1 - 4 * j) = (i - 4 * j) + 1 := by omega
    rw [h1, h2]
    simp only [part]
    congr 2; omega
  · rw [if_neg e, h j hj]
    congr 1
    omega
def Win (b : List UInt8) (ws : List Wd) (i : Nat) : Prop := ws.length = 16 ∧ ∀ t, t < max i 16 → max i 16 ≤ t + 16 → ws.getD (t % 16) 0 = W b t
theorem win_step (b : List UInt8) (ws : List Wd) (i : Nat) (h16 : 16 ≤ i) (h : Win b ws i) :
    Win b (ws.set (i % 16) (ws.getD (i % 16) 0 + sig0 (ws.getD ((i + 1) % 16) 0) + ws.getD ((i + 9) % 16) 0 + sig1 (ws.getD ((i + 14) % 16) 0))) (i + 1) ∧
    (ws.set (i % 16) (ws.getD (i % 16) 0 + sig0 (ws.getD ((i + 1) % 16) 0) + ws.getD ((i + 9) % 16) 0 + sig1 (ws.getD ((i + 14) % 16) 0))).getD (i % 16) 0 = W b i := by
  obtain ⟨hl, hw⟩ := h
  have g0 := hw (i - 16) (by omega) (by omega)
  have g1 := hw (i - 15) (by omega) (by omega)
  have g2 := hw (i - 7) (by omega) (by omega)
  have g3 := hw (i - 2) (by omega) (by omega)
  rw [show (i - 16) % 16 = i % 16 by omega] at g0
  rw [show (i - 15) % 16 = (i + 1) % 16 by omega] at g1
  rw [show (i - 7) % 16 = (i + 9) % 16 by omega] at g2
  rw [show (i - 2) % 16 = (i + 14) % 16 by omega] at g3
  rw [g0, g1, g2, g3, ← W_high b i h16]
  have hi : i % 16 < ws.length := by omega
  have hs : (ws.set (i % 16) (W b i)).getD (i % 16) 0 = W b i := by
    simp [List.getD_eq_getElem?_getD, List.getElem?_set, hi]
  refine ⟨⟨by simpa using hl, fun t ht ht2 => ?_⟩, hs⟩
  by_cases e : t = i
  · subst e; exact hs
  · rw [← hw t (by omega) (by omega)]
    have hne : ¬ i % 16 = t % 16 := by omega
    simp only [List.getD_eq_getElem?_getD, List.getElem?_set, if_neg hne]
theorem add_comm8 (s h : S8) : h.add s = s.add h := by simp only [S8.add, BitVec.add_comm]
end Go.Proofs.YtbdkenlkimiddaaDoor.Sha
namespace Go.Proofs.YtbdkenlkimiddaaDoor.Sha
open Go Go.Sse
set_option maxRecDepth 10000
set_option linter.unusedVariables false
set_option linter.unusedSimpArgs false
abbrev winO (p : Nat) (ws : List Wd) : Own := .obj p 118 (ws.map u32)
theorem zeros_get (bs : List UInt8) (j : Nat) : (List.replicate 16 (0 : Wd)).getD j 0 = part bs j (min 4 (0 - 4 * j)) := by
  rw [List.getD_eq_getElem?_getD, List.getElem?_replicate, show min 4 (0 - 4 * j) = 0 by omega]
  split <;> rfl
set_option maxHeartbeats 4000000 in
theorem rblock_ok (h : S8) (bs : List UInt8) (hb : bs.length = 64) : FnC Tryd.prog 72 [.agg h.cells, .agg (bs.map byte)] [] (fun s L => s = .agg (blockS h bs).cells ∧ L = []) := by
  refine FnC.intro Tryd.func72 rfl Tryd.ntmps72 rfl fun Z w0 hG => ?_
  focus (
 (refine W.seq (W.region ?_))
 (refine J.boxAg rfl rfl ?_; intro b')
 (refine J.boxAg rfl rfl ?_; intro b')
 (refine J.alloc (by simp only [List.map_cons, List.map_nil]; rfl) rfl rfl ?_; intro b')
 (refine J.nil (N.seq (W.seq (W.region ?_))))
 (refine J.alloc (by simp only [List.map_cons, List.map_nil]; rfl) rfl rfl ?_; intro b')
 (refine J.nil (N.seq (W.seq (W.seq (W.region (Jx.assign rfl rfl (J.nil (N.seq (W.block ?_)))))))))
 (refine id ?_; rotate_left))
  rename_i p2 p3 p4
  refine W.loop (α := Nat × List Wd) (fun x => [(6, int x.1), (5, ptr b'), (4, ptr p4), (3, ptr p3), (2, ptr p2)]) (fun x => [winO b' x.2, .obj p4 95 (S8.cells ⟨0, 0, 0, 0, 0, 0, 0, 0⟩), blkO p3 bs, .obj p2 95 h.cells])
    (fun x => x.1 ≤ 64 ∧ x.2.length = 16 ∧ ∀ j, j < 16 → x.2.getD j 0 = part bs j (min 4 (x.1 - 4 * j))) (fun x => 64 - x.1) (0, List.replicate 16 0) ⟨by simp, rfl, fun j hj => zeros_get bs j⟩ rfl ⟨ref0 rfl, ref0 rfl, ref0 rfl, ref0 rfl, ref0 rfl, trivial⟩ ?_
  rintro ⟨i, ws⟩ ⟨hi, hl, hp⟩
  simp only at hi hl hp ⊢
  by_cases h1 : i < 64
  · focus (
 (refine W.seq (W.seq (W.region (Jx.move rfl rfl (Jx.lssI rfl rfl rfl (J.nil (N.seq (W.cT rfl ?_))))))))
 (refine W.skip (N.seq (W.seq (W.block ?_))))
 (refine W.draw follows ?_)
 (refine JD.upto (n := 13) rfl (by decide +kernel) (by decide +kernel) rfl rfl ?_)
 (refine Cx.move rfl rfl ?_)
 (refine Cx.quo64 rfl rfl (by omega) (by decide) rfl ?_)
 (refine Cx.move rfl rfl ?_)
 (refine Cx.quo64 rfl rfl (by omega) (by decide) rfl ?_)
 (refine Cx.index0 (i / 4) rfl rfl (by omega) (by omega) rfl ?_)
 (refine Cx.loadA u32 0 rfl 0 rfl (by omega) rfl ?_)
 (refine Cx.mulU 256 rfl rfl rfl ?_)
 (refine Cx.move rfl rfl ?_)
 (refine Cx.index0 i rfl rfl rfl (by omega) rfl ?_)
 (refine Cx.loadA byte 0 rfl 2 rfl (by omega) rfl ?_)
 (refine Cx.byteWord rfl rfl rfl ?_)
 (refine Cx.addU rfl rfl rfl ?_)
 (refine Cx.index0 (i / 4) rfl rfl (by omega) (by omega) rfl ?_)
 (refine SegC.nil ?_)
 (refine J.storeA u32 (ws.getD (i / 4) 0 * 256#32 + byteAt bs i) rfl rfl (One.val rfl) 0 rfl (by omega) rfl ?_)
 (refine J.nil (N.seq (W.region (Jx.move rfl rfl (Jx.add64 rfl rfl (by omega) rfl ?_)))))
 (refine Jx.assign rfl rfl (J.nil ?_))
 (refine id ?_; rotate_left))
    exact N.round (i + 1, ws.set (i / 4) (ws.getD (i / 4) 0 * 256#32 + byteAt bs i)) ⟨by simp only; omega, by simp only [List.length_set]; exact hl, fun j hj => part_step bs ws i h1 hl hp j hj⟩ (by simp only; omega) rfl ⟨ref0 rfl, ref0 rfl, ref0 rfl, ref0 rfl, ref0 rfl, trivial⟩
  · have h64 : i = 64 := by omega
    have hwin : Win bs ws 0 := ⟨hl, fun t ht _ => by
      have ht' : t < 16 := by omega
      rw [Nat.mod_eq_of_lt ht', hp t ht', show min 4 (i - 4 * t) = 4 by omega, part_word, W_low bs t ht']⟩
    clear hi hp
    focus (
 (refine W.seq (W.seq (W.region (Jx.move rfl rfl (Jx.lssI rfl rfl rfl (J.nil (N.seq (W.cF rfl ?_))))))))
 (refine W.exit (N.seq (W.seq ?_)))
 (refine W.draw follows ?_)
 (refine JD.calm rfl (by decide +kernel) ?_)
 (refine Cx.indexArr rfl rfl (by decide) (by decide) rfl ?_)
 (refine Cx.load rfl 3 rfl rfl rfl ?_)
 (refine Cx.indexArr rfl rfl (by decide) (by decide) rfl ?_)
 (refine Cx.load rfl 3 rfl rfl rfl ?_)
 (refine Cx.indexArr rfl rfl (by decide) (by decide) rfl ?_)
 (refine Cx.load rfl 3 rfl rfl rfl ?_)
 (refine Cx.indexArr rfl rfl (by decide) (by decide) rfl ?_)
 (refine Cx.load rfl 3 rfl rfl rfl ?_)
 (refine Cx.assign rfl rfl ?_)
 (refine Cx.assign rfl rfl ?_)
 (refine Cx.assign rfl rfl ?_)
 (refine Cx.assign rfl rfl ?_)
 (refine SegC.nil ?_)
 (refine N.seq (W.seq ?_))
 (refine W.draw follows ?_)
 (refine JD.calm rfl (by decide +kernel) ?_)
 (refine Cx.indexArr rfl rfl (by decide) (by decide) rfl ?_)
 (refine Cx.load rfl 3 rfl rfl rfl ?_)
 (refine Cx.indexArr rfl rfl (by decide) (by decide) rfl ?_)
 (refine Cx.load rfl 3 rfl rfl rfl ?_)
 (refine Cx.indexArr rfl rfl (by decide) (by decide) rfl ?_)
 (refine Cx.load rfl 3 rfl rfl rfl ?_)
 (refine Cx.indexArr rfl rfl (by decide) (by decide) rfl ?_)
 (refine Cx.load rfl 3 rfl rfl rfl ?_)
 (refine Cx.assign rfl rfl ?_)
 (refine Cx.assign rfl rfl ?_)
 (refine Cx.assign rfl rfl ?_)
 (refine Cx.assign rfl rfl ?_)
 (refine SegC.nil ?_)
 (refine N.seq (W.seq (W.seq (W.region (Jx.assign rfl rfl (J.nil (N.seq (W.block ?_))))))))
 (refine id ?_; rotate_left))
    refine W.loop (α := Nat × S8 × List Wd) (fun x => [(15, int x.1), (14, u32 x.2.1.h), (13, u32 x.2.1.g), (12, u32 x.2.1.f), (11, u32 x.2.1.e), (10, u32 x.2.1.d), (9, u32 x.2.1.c), (8, u32 x.2.1.b), (7, u32 x.2.1.a), (5, ptr b'), (4, ptr p4), (2, ptr p2)])
      (fun x => [winO b' x.2.2, .obj p4 95 (S8.cells ⟨0, 0, 0, 0, 0, 0, 0, 0⟩), blkO p3 bs, .obj p2 95 h.cells]) (fun x => x.1 ≤ 64 ∧ x.2.1 = rounds h bs x.1 ∧ Win bs x.2.2 x.1) (fun x => 64 - x.1) (0, h, ws) ⟨by simp, rfl, hwin⟩ rfl
      ⟨ref0 rfl, ref0 rfl, ref0 rfl, ref0 rfl, ref0 rfl, ref0 rfl, ref0 rfl, ref0 rfl, ref0 rfl, ref0 rfl, ref0 rfl, ref0 rfl, trivial⟩ ?_
    clear hwin hl h64 h1
    rintro ⟨i, s, ws⟩ ⟨hi, hst, hwin⟩
    simp only at hi hst hwin ⊢
    have hl := hwin.1
    by_cases h1 : i < 64
    · by_cases h16 : 16 ≤ i
      · obtain ⟨hn, hg⟩ := win_step bs ws i h16 hwin
        have hl2 : (ws.set (i % 16) (ws.getD (i % 16) 0 + sig0 (ws.getD ((i + 1) % 16) 0) + ws.getD ((i + 9) % 16) 0 + sig1 (ws.getD ((i + 14) % 16) 0))).length = 16 := by rw [List.length_set]; exact hl
        generalize hnew : ws.getD (i % 16) 0 + sig0 (ws.getD ((i + 1) % 16) 0) + ws.getD ((i + 9) % 16) 0 + sig1 (ws.getD ((i + 14) % 16) 0) = new at *
        have hst1 : ws.getD (i % 16) 0 + (rot (ws.getD ((i + 1) % 16) 0) 7 ^^^ rot (ws.getD ((i + 1) % 16) 0) 18 ^^^ ws.getD ((i + 1) % 16) 0 >>> 3) + ws.getD ((i + 9) % 16) 0 + (rot (ws.getD ((i + 14) % 16) 0) 17 ^^^ rot (ws.getD ((i + 14) % 16) 0) 19 ^^^ ws.getD ((i + 14) % 16) 0 >>> 10) = new := hnew
        generalize hws2 : ws.set (i % 16) new = ws2 at *
        focus (
 (refine W.seq (W.seq (W.region (Jx.move rfl rfl (Jx.lssI rfl rfl rfl (J.nil (N.seq (W.cT rfl ?_))))))))
 (refine W.skip (N.seq (W.seq (W.block (W.seq (W.seq (W.region (Jx.move rfl rfl (Jx.geqI rfl rfl rfl (J.nil (N.seq (W.cT rfl ?_))))))))))))
 (refine W.seq (W.region (Jx.move rfl rfl (Jx.add64 rfl rfl (by omega) rfl ?_))))
 (refine Jx.rem64 rfl rfl (by omega) (by decide) rfl ?_)
 (refine Jx.index0 ((i + 1) % 16) rfl rfl (by omega) (by omega) rfl ?_)
 (refine Jx.loadA u32 0 rfl 0 rfl (by omega) rfl ?_)
 (refine Jx.assign rfl rfl (J.nil (N.seq (W.seq (W.region (Jx.move rfl rfl (Jx.add64 rfl rfl (by omega) rfl ?_)))))))
 (refine Jx.rem64 rfl rfl (by omega) (by decide) rfl ?_)
 (refine Jx.index0 ((i + 14) % 16) rfl rfl (by omega) (by omega) rfl ?_)
 (refine Jx.loadA u32 0 rfl 0 rfl (by omega) rfl ?_)
 (refine Jx.assign rfl rfl (J.nil (N.seq (W.seq (W.region (Jx.move rfl rfl ?_))))))
 (refine J.call (turned_ok _ 7 (by decide)) rfl (evs_args rfl) rfl ?_; rintro _ _ ⟨rfl, rfl⟩; simp only [la1, la2, la3])
 (refine Jx.move rfl rfl ?_)
 (refine J.call (turned_ok _ 18 (by decide)) rfl (evs_args rfl) rfl ?_; rintro _ _ ⟨rfl, rfl⟩; simp only [la1, la2, la3])
 (refine Jx.xorU rfl rfl rfl ?_)
 (refine Jx.move rfl rfl (Jx.shrU rfl rfl (by decide) rfl ?_))
 (refine Jx.xorU rfl rfl rfl ?_)
 (refine Jx.assign rfl rfl (J.nil (N.seq (W.seq (W.region (Jx.move rfl rfl ?_))))))
 (refine J.call (turned_ok _ 17 (by decide)) rfl (evs_args rfl) rfl ?_; rintro _ _ ⟨rfl, rfl⟩; simp only [la1, la2, la3])
 (refine Jx.move rfl rfl ?_)
 (refine J.call (turned_ok _ 19 (by decide)) rfl (evs_args rfl) rfl ?_; rintro _ _ ⟨rfl, rfl⟩; simp only [la1, la2, la3])
 (refine Jx.xorU rfl rfl rfl ?_)
 (refine Jx.move rfl rfl (Jx.shrU rfl rfl (by decide) rfl ?_))
 (refine Jx.xorU rfl rfl rfl ?_)
 (refine Jx.assign rfl rfl (J.nil (N.seq ?_)))
 (refine W.draw follows ?_)
 (refine JD.upto (n := 17) rfl (by decide +kernel) (by decide +kernel) rfl rfl ?_)
 (refine Cx.move rfl rfl ?_)
 (refine Cx.rem64 rfl rfl (by omega) (by decide) rfl ?_)
 (refine Cx.move rfl rfl ?_)
 (refine Cx.rem64 rfl rfl (by omega) (by decide) rfl ?_)
 (refine Cx.index0 (i % 16) rfl rfl (by omega) (by omega) rfl ?_)
 (refine Cx.loadA u32 0 rfl 0 rfl (by omega) rfl ?_)
 (refine Cx.move rfl rfl ?_)
 (refine Cx.addU rfl rfl rfl ?_)
 (refine Cx.move rfl rfl ?_)
 (refine Cx.add64 rfl rfl (by omega) rfl ?_)
 (refine Cx.rem64 rfl rfl (by omega) (by decide) rfl ?_)
 (refine Cx.index0 ((i + 9) % 16) rfl rfl (by omega) (by omega) rfl ?_)
 (refine Cx.loadA u32 0 rfl 0 rfl (by omega) rfl ?_)
 (refine Cx.addU rfl rfl rfl ?_)
 (refine Cx.move rfl rfl ?_)
 (refine Cx.addU rfl rfl rfl ?_)
 (refine Cx.index0 (i % 16) rfl rfl (by omega) (by omega) rfl ?_)
 (refine SegC.nil ?_)
 (refine J.storeA u32 new rfl (by rw [← hst1]; rfl) (One.val rfl) 0 rfl (by omega) (by rw [List.set_cons_zero, hws2]) ?_)
 (refine J.nil (N.seq (W.seq ?_)))
 (refine W.draw follows ?_)
 (refine JD.calm rfl (by decide +kernel) ?_)
 (refine Cx.move rfl rfl ?_)
 (refine Cx.move rfl rfl ?_)
 (refine SegC.q (Qs.call (Lc := []) (turned_ok _ 6 (by decide)) (fun s L' h => h) (List.Perm.refl _) (evs_args rfl)) rfl ?_)
 (refine Cx.move rfl rfl ?_)
 (refine SegC.q (Qs.call (Lc := []) (turned_ok _ 11 (by decide)) (fun s L' h => h) (List.Perm.refl _) (evs_args rfl)) rfl ?_)
 (refine Cx.xorU rfl rfl rfl ?_)
 (refine Cx.move rfl rfl ?_)
 (refine SegC.q (Qs.call (Lc := []) (turned_ok _ 25 (by decide)) (fun s L' h => h) (List.Perm.refl _) (evs_args rfl)) rfl ?_)
 (refine Cx.xorU rfl rfl rfl ?_)
 (refine Cx.addU rfl rfl rfl ?_)
 (refine Cx.move rfl rfl ?_)
 (refine Cx.move rfl rfl ?_)
 (refine Cx.andU rfl rfl rfl ?_)
 (refine Cx.move rfl rfl ?_)
 (refine Cx.notU rfl rfl ?_)
 (refine Cx.move rfl rfl ?_)
 (refine Cx.andU rfl rfl rfl ?_)
 (refine Cx.xorU rfl rfl rfl ?_)
 (refine Cx.addU rfl rfl rfl ?_)
 (refine Cx.move rfl rfl ?_)
 (refine SegC.q (Qs.call (Lc := []) (const_ok i (by omega)) (fun s L' h => h) (List.Perm.refl _) (evs_args rfl)) rfl ?_)
 (refine Cx.addU rfl rfl rfl ?_)
 (refine Cx.move rfl rfl ?_)
 (refine Cx.rem64 rfl rfl (by omega) (by decide) rfl ?_)
 (refine Cx.index0 (i % 16) rfl rfl (by omega) (by omega) rfl ?_)
 (refine Cx.loadA u32 0 rfl 0 rfl (by omega) rfl ?_)
 (refine Cx.addU rfl rfl rfl ?_)
 (refine Cx.assign rfl rfl ?_)
 (refine SegC.nil ?_)
 (refine N.seq (W.seq (W.region (Jx.move rfl rfl ?_))))
 (refine J.call (turned_ok _ 2 (by decide)) rfl (evs_args rfl) rfl ?_; rintro _ _ ⟨rfl, rfl⟩; simp only [la1, la2, la3])
 (refine Jx.move rfl rfl ?_)
 (refine J.call (turned_ok _ 13 (by decide)) rfl (evs_args rfl) rfl ?_; rintro _ _ ⟨rfl, rfl⟩; simp only [la1, la2, la3])
 (refine Jx.xorU rfl rfl rfl ?_)
 (refine Jx.move rfl rfl ?_)
 (refine J.call (turned_ok _ 22 (by decide)) rfl (evs_args rfl) rfl ?_; rintro _ _ ⟨rfl, rfl⟩; simp only [la1, la2, la3])
 (refine Jx.xorU rfl rfl rfl ?_)
 (refine Jx.move rfl rfl (Jx.move rfl rfl (Jx.andU rfl rfl rfl ?_)))
 (refine Jx.move rfl rfl (Jx.move rfl rfl (Jx.andU rfl rfl rfl ?_)))
 (refine Jx.xorU rfl rfl rfl ?_)
 (refine Jx.move rfl rfl (Jx.move rfl rfl (Jx.andU rfl rfl rfl ?_)))
 (refine Jx.xorU rfl rfl rfl ?_)
 (refine Jx.addU rfl rfl rfl ?_)
 (refine Jx.assign rfl rfl (J.nil (N.seq (W.seq (W.region (Jx.move rfl rfl (Jx.move rfl rfl (Jx.move rfl rfl (Jx.assign rfl rfl (Jx.assign rfl rfl (Jx.assign rfl rfl (J.nil (N.seq (W.seq ?_))))))))))))))
 (refine W.region (Jx.move rfl rfl (Jx.move rfl rfl (Jx.addU rfl rfl rfl ?_))))
 (refine Jx.assign rfl rfl (J.nil (N.seq (W.seq (W.region (Jx.move rfl rfl (Jx.move rfl rfl (Jx.move rfl rfl (Jx.assign rfl rfl (Jx.assign rfl rfl (Jx.assign rfl rfl (J.nil (N.seq (W.region ?_))))))))))))))
 (refine Jx.move rfl rfl (Jx.move rfl rfl (Jx.addU rfl rfl rfl ?_)))
 (refine Jx.assign rfl rfl (J.nil (N.seq (W.region (Jx.move rfl rfl (Jx.add64 rfl rfl (by omega) rfl ?_))))))
 (refine Jx.assign rfl rfl (J.nil ?_))
 (refine id ?_; rotate_left))
        exact N.round (i + 1, s.round (kAt i) (ws2.getD (i % 16) 0), ws2) ⟨by simp only; omega, by simp only; rw [hst, hg]; rfl, hn⟩ (by simp only; omega) rfl ⟨ref0 rfl, ref0 rfl, ref0 rfl, ref0 rfl, ref0 rfl, ref0 rfl, ref0 rfl, ref0 rfl, ref0 rfl, ref0 rfl, ref0 rfl, ref0 rfl, trivial⟩
      · have hg : ws.getD (i % 16) 0 = W bs i := hwin.2 i (by omega) (by omega)
        have hn : Win bs ws (i + 1) := ⟨hl, fun t ht ht2 => hwin.2 t (by omega) (by omega)⟩
        focus (
 (refine W.seq (W.seq (W.region (Jx.move rfl rfl (Jx.lssI rfl rfl rfl (J.nil (N.seq (W.cT rfl ?_))))))))
 (refine W.skip (N.seq (W.seq (W.block (W.seq (W.seq (W.region (Jx.move rfl rfl (Jx.geqI rfl rfl rfl (J.nil (N.seq (W.cF rfl ?_))))))))))))
 (refine W.skip (N.seq (W.seq ?_)))
 (refine W.draw follows ?_)
 (refine JD.calm rfl (by decide +kernel) ?_)
 (refine Cx.move rfl rfl ?_)
 (refine Cx.move rfl rfl ?_)
 (refine SegC.q (Qs.call (Lc := []) (turned_ok _ 6 (by decide)) (fun s L' h => h) (List.Perm.refl _) (evs_args rfl)) rfl ?_)
 (refine Cx.move rfl rfl ?_)
 (refine SegC.q (Qs.call (Lc := []) (turned_ok _ 11 (by decide)) (fun s L' h => h) (List.Perm.refl _) (evs_args rfl)) rfl ?_)
 (refine Cx.xorU rfl rfl rfl ?_)
 (refine Cx.move rfl rfl ?_)
 (refine SegC.q (Qs.call (Lc := []) (turned_ok _ 25 (by decide)) (fun s L' h => h) (List.Perm.refl _) (evs_args rfl)) rfl ?_)
 (refine Cx.xorU rfl rfl rfl ?_)
 (refine Cx.addU rfl rfl rfl ?_)
 (refine Cx.move rfl rfl ?_)
 (refine Cx.move rfl rfl ?_)
 (refine Cx.andU rfl rfl rfl ?_)
 (refine Cx.move rfl rfl ?_)
 (refine Cx.notU rfl rfl ?_)
 (refine Cx.move rfl rfl ?_)
 (refine Cx.andU rfl rfl rfl ?_)
 (refine Cx.xorU rfl rfl rfl ?_)
 (refine Cx.addU rfl rfl rfl ?_)
 (refine Cx.move rfl rfl ?_)
 (refine SegC.q (Qs.call (Lc := []) (const_ok i (by omega)) (fun s L' h => h) (List.Perm.refl _) (evs_args rfl)) rfl ?_)
 (refine Cx.addU rfl rfl rfl ?_)
 (refine Cx.move rfl rfl ?_)
 (refine Cx.rem64 rfl rfl (by omega) (by decide) rfl ?_)
 (refine Cx.index0 (i % 16) rfl rfl (by omega) (by omega) rfl ?_)
 (refine Cx.loadA u32 0 rfl 0 rfl (by omega) rfl ?_)
 (refine Cx.addU rfl rfl rfl ?_)
 (refine Cx.assign rfl rfl ?_)
 (refine SegC.nil ?_)
 (refine N.seq (W.seq (W.region (Jx.move rfl rfl ?_))))
 (refine J.call (turned_ok _ 2 (by decide)) rfl (evs_args rfl) rfl ?_; rintro _ _ ⟨rfl, rfl⟩; simp only [la1, la2, la3])
 (refine Jx.move rfl rfl ?_)
 (refine J.call (turned_ok _ 13 (by decide)) rfl (evs_args rfl) rfl ?_; rintro _ _ ⟨rfl, rfl⟩; simp only [la1, la2, la3])
 (refine Jx.xorU rfl rfl rfl ?_)
 (refine Jx.move rfl rfl ?_)
 (refine J.call (turned_ok _ 22 (by decide)) rfl (evs_args rfl) rfl ?_; rintro _ _ ⟨rfl, rfl⟩; simp only [la1, la2, la3])
 (refine Jx.xorU rfl rfl rfl ?_)
 (refine Jx.move rfl rfl (Jx.move rfl rfl (Jx.andU rfl rfl rfl ?_)))
 (refine Jx.move rfl rfl (Jx.move rfl rfl (Jx.andU rfl rfl rfl ?_)))
 (refine Jx.xorU rfl rfl rfl ?_)
 (refine Jx.move rfl rfl (Jx.move rfl rfl (Jx.andU rfl rfl rfl ?_)))
 (refine Jx.xorU rfl rfl rfl ?_)
 (refine Jx.addU rfl rfl rfl ?_)
 (refine Jx.assign rfl rfl (J.nil (N.seq (W.seq (W.region (Jx.move rfl rfl (Jx.move rfl rfl (Jx.move rfl rfl (Jx.assign rfl rfl (Jx.assign rfl rfl (Jx.assign rfl rfl (J.nil (N.seq (W.seq ?_))))))))))))))
 (refine W.region (Jx.move rfl rfl (Jx.move rfl rfl (Jx.addU rfl rfl rfl ?_))))
 (refine Jx.assign rfl rfl (J.nil (N.seq (W.seq (W.region (Jx.move rfl rfl (Jx.move rfl rfl (Jx.move rfl rfl (Jx.assign rfl rfl (Jx.assign rfl rfl (Jx.assign rfl rfl (J.nil (N.seq (W.region ?_))))))))))))))
 (refine Jx.move rfl rfl (Jx.move rfl rfl (Jx.addU rfl rfl rfl ?_)))
 (refine Jx.assign rfl rfl (J.nil (N.seq (W.region (Jx.move rfl rfl (Jx.add64 rfl rfl (by omega) rfl ?_))))))
 (refine Jx.assign rfl rfl (J.nil ?_))
 (refine id ?_; rotate_left))
        exact N.round (i + 1, s.round (kAt i) (ws.getD (i % 16) 0), ws) ⟨by simp only; omega, by simp only; rw [hst, hg]; rfl, hn⟩ (by simp only; omega) rfl ⟨ref0 rfl, ref0 rfl, ref0 rfl, ref0 rfl, ref0 rfl, ref0 rfl, ref0 rfl, ref0 rfl, ref0 rfl, ref0 rfl, ref0 rfl, ref0 rfl, trivial⟩
    · have h64 : i = 64 := by omega
      rw [h64] at hst
      focus (
 (refine W.seq (W.seq (W.region (Jx.move rfl rfl (Jx.lssI rfl rfl rfl (J.nil (N.seq (W.cF rfl ?_))))))))
 (refine W.exit (N.seq (W.seq (W.region (Jx.indexArr rfl rfl (by decide) (by decide) rfl ?_)))))
 (refine Jx.load rfl 3 rfl rfl rfl ?_)
 (refine Jx.move rfl rfl (Jx.addU rfl rfl rfl ?_))
 (refine Jx.indexArr rfl rfl (by decide) (by decide) rfl ?_)
 (refine Jx.load rfl 3 rfl rfl rfl ?_)
 (refine Jx.move rfl rfl (Jx.addU rfl rfl rfl ?_))
 (refine Jx.indexArr rfl rfl (by decide) (by decide) rfl ?_)
 (refine Jx.load rfl 3 rfl rfl rfl ?_)
 (refine Jx.move rfl rfl (Jx.addU rfl rfl rfl ?_))
 (refine Jx.indexArr rfl rfl (by decide) (by decide) rfl ?_)
 (refine Jx.load rfl 3 rfl rfl rfl ?_)
 (refine Jx.move rfl rfl (Jx.addU rfl rfl rfl ?_))
 (refine Jx.indexArr rfl rfl (by decide) (by decide) rfl ?_)
 (refine Jx.load rfl 3 rfl rfl rfl ?_)
 (refine Jx.move rfl rfl (Jx.addU rfl rfl rfl ?_))
 (refine Jx.indexArr rfl rfl (by decide) (by decide) rfl ?_)
 (refine Jx.load rfl 3 rfl rfl rfl ?_)
 (refine Jx.move rfl rfl (Jx.addU rfl rfl rfl ?_))
 (refine Jx.indexArr rfl rfl (by decide) (by decide) rfl ?_)
 (refine Jx.load rfl 3 rfl rfl rfl ?_)
 (refine Jx.move rfl rfl (Jx.addU rfl rfl rfl ?_))
 (refine Jx.indexArr rfl rfl (by decide) (by decide) rfl ?_)
 (refine Jx.load rfl 3 rfl rfl rfl ?_)
 (refine Jx.move rfl rfl (Jx.addU rfl rfl rfl ?_))
 (refine Jx.buildA rfl rfl rfl rfl rfl ?_)
 (refine J.storeAll rfl rfl rfl 1 rfl rfl rfl ?_)
 (refine J.nil (N.seq (W.ret ?_)))
 (refine id ?_; rotate_left))
      refine N.retD (rs := [.cell 4 95]) (L1 := []) rfl (.cell rfl 1 rfl inferInstance .nil) (List.nil_sublist _) ⟨?_, rfl⟩
      have : blockS h bs = h.add s := by rw [add_comm8 s h, hst]; rfl
      rw [this]
      rfl
end Go.Proofs.YtbdkenlkimiddaaDoor.Sha
namespace Go.Proofs.YtbdkenlkimiddaaDoor.Sha
open Go Go.Sse
set_option maxRecDepth 10000
set_option linter.unusedVariables false
set_option linter.unusedSimpArgs false
abbrev tU8 : Nat := 5
theorem told_take_succ (h : S8) (i : Nat) (h8 : i < 8) : (h.list.take i).flatMap wordB ++ wordB (h.list.getD i 0) = (h.list.take (i + 1)).flatMap wordB := by
  have hl : i < h.list.length := h8
  rw [List.take_add_one, List.flatMap_append, List.getElem?_eq_getElem hl, List.getD_eq_getElem?_getD, List.getElem?_eq_getElem hl]
  simp
theorem told_take_len (h : S8) : ∀ (i : Nat), i ≤ 8 → ((h.list.take i).flatMap wordB).length = 4 * i
  | 0, _ => rfl
  | i + 1, hi => by
    rw [← told_take_succ h i (by omega), List.length_append, told_take_len h i (by omega)]
    simp only [wordB, List.length_cons, List.length_nil]; omega
set_option maxHeartbeats 4000000 in
theorem rtold_ok (h : S8) : FnC Tryd.prog 73 [.agg h.cells] [] (fun s L => s = str (toldS h) ∧ L = []) := by
  refine FnC.intro Tryd.func73 rfl Tryd.ntmps73 rfl fun Z w0 hG => ?_
  focus (
 (refine W.seq (W.region ?_))
 (refine J.boxAg rfl rfl ?_; intro b')
 (refine Jx.assign rfl rfl (J.nil (N.seq (W.seq (W.region (Jx.assign rfl rfl (J.nil (N.seq (W.seq (W.seq (W.region (Jx.assign rfl rfl (J.nil (N.seq ?_))))))))))))))
 (refine W.block ?_)
 (refine id ?_; rotate_left))
  refine W.loop (α := Nat × List UInt8) (fun x => [(4, int x.1), (3, str x.2), (1, ptr b')]) (fun x => [.obj b' 95 (h.list.map u32)]) (fun x => x.1 ≤ 8 ∧ x.2 = (h.list.take x.1).flatMap wordB) (fun x => 8 - x.1) (0, []) ⟨by simp, by simp⟩ rfl ⟨ref0 rfl, ref0 rfl, ref0 rfl, trivial⟩ ?_
  rintro ⟨i, acc⟩ ⟨hi, ha⟩
  simp only at hi ha ⊢
  have hlen : acc.length = 4 * i := by rw [ha]; exact told_take_len h i hi
  by_cases h1 : i < 8
  · focus (
 (refine W.seq (W.seq (W.region (Jx.move rfl rfl (Jx.lssI rfl rfl rfl (J.nil (N.seq (W.cT rfl ?_))))))))
 (refine W.skip (N.seq (W.seq (W.block ?_))))
 (refine W.draw follows ?_)
 (refine JD.calm rfl (by decide +kernel) ?_)
 (refine Cx.move rfl rfl ?_)
 (refine Cx.move rfl rfl ?_)
 (refine Cx.index0 i rfl rfl rfl (by omega) rfl ?_)
 (refine Cx.loadA u32 0 rfl 0 rfl h1 rfl ?_)
 (refine Cx.shrU rfl rfl (by decide) rfl ?_)
 (refine Cx.convByte rfl rfl rfl ?_)
 (refine Cx.move rfl rfl ?_)
 (refine Cx.index0 i rfl rfl rfl (by omega) rfl ?_)
 (refine Cx.loadA u32 0 rfl 0 rfl h1 rfl ?_)
 (refine Cx.shrU rfl rfl (by decide) rfl ?_)
 (refine Cx.convByte rfl rfl rfl ?_)
 (refine Cx.move rfl rfl ?_)
 (refine Cx.index0 i rfl rfl rfl (by omega) rfl ?_)
 (refine Cx.loadA u32 0 rfl 0 rfl h1 rfl ?_)
 (refine Cx.shrU rfl rfl (by decide) rfl ?_)
 (refine Cx.convByte rfl rfl rfl ?_)
 (refine Cx.move rfl rfl ?_)
 (refine Cx.index0 i rfl rfl rfl (by omega) rfl ?_)
 (refine Cx.loadA u32 0 rfl 0 rfl h1 rfl ?_)
 (refine Cx.convByte rfl rfl rfl ?_)
 (refine SegC.q (Qs.buildBytes (wordB (h.list.getD i 0)) rfl rfl rfl (by decide) (by decide)) rfl ?_)
 (refine Cx.bytesStr rfl rfl ?_)
 (refine Cx.cat rfl rfl (by rw [hlen]; simp only [wordB, List.length_cons, List.length_nil]; omega) rfl ?_)
 (refine Cx.assign rfl rfl ?_)
 (refine SegC.nil ?_)
 (refine N.seq (W.region (Jx.move rfl rfl (Jx.add64 rfl rfl (by omega) rfl ?_))))
 (refine Jx.assign rfl rfl (J.nil ?_))
 (refine id ?_; rotate_left))
    exact N.round (i + 1, acc ++ wordB (h.list.getD i 0)) ⟨by simp only; omega, by simp only; rw [ha, told_take_succ h i h1]⟩ (by simp only; omega) rfl ⟨ref0 rfl, ref0 rfl, ref0 rfl, trivial⟩
  · have h8 : i = 8 := by omega
    focus (
 (refine W.seq (W.seq (W.region (Jx.move rfl rfl (Jx.lssI rfl rfl rfl (J.nil (N.seq (W.cF rfl ?_))))))))
 (refine W.exit (N.seq (W.seq (W.region (Jx.move rfl rfl (Jx.assign rfl rfl (J.nil (N.seq (W.ret ?_)))))))))
 (refine id ?_; rotate_left))
    refine N.retD (rs := [.tmp 2]) (L1 := []) rfl (.tmp rfl .nil) (List.nil_sublist _) ⟨?_, rfl⟩
    rw [ha, h8]; rfl
theorem told_get (h : S8) (i k : Nat) (hi : i < 8) (hk : k < 4) : (toldS h).getD (4 * i + k) 0 = (wordB (h.list.getD i 0)).getD k 0 := by
  match i, hi, k, hk with
  | 0, _, 0, _ => rfl
  | 0, _, 1, _ => rfl
  | 0, _, 2, _ => rfl
  | 0, _, 3, _ => rfl
  | 1, _, 0, _ => rfl
  | 1, _, 1, _ => rfl
  | 1, _, 2, _ => rfl
  | 1, _, 3, _ => rfl
  | 2, _, 0, _ => rfl
  | 2, _, 1, _ => rfl
  | 2, _, 2, _ => rfl
  | 2, _, 3, _ => rfl
  | 3, _, 0, _ => rfl
  | 3, _, 1, _ => rfl
  | 3, _, 2, _ => rfl
  | 3, _, 3, _ => rfl
  | 4, _, 0, _ => rfl
  | 4, _, 1, _ => rfl
  | 4, _, 2, _ => rfl
  | 4, _, 3, _ => rfl
  | 5, _, 0, _ => rfl
  | 5, _, 1, _ => rfl
  | 5, _, 2, _ => rfl
  | 5, _, 3, _ => rfl
  | 6, _, 0, _ => rfl
  | 6, _, 1, _ => rfl
  | 6, _, 2, _ => rfl
  | 6, _, 3, _ => rfl
  | 7, _, 0, _ => rfl
  | 7, _, 1, _ => rfl
  | 7, _, 2, _ => rfl
  | 7, _, 3, _ => rfl
theorem set4_get (bs : List UInt8) (i : Nat) (a b c d : UInt8) (hl : bs.length = 32) (hi : i < 8) (m : Nat) :
    ((((bs.set (4 * i) a).set (4 * i + 1) b).set (4 * i + 2) c).set (4 * i + 3) d).getD m 0 = if m = 4 * i then a else if m = 4 * i + 1 then b else if m = 4 * i + 2 then c else if m = 4 * i + 3 then d else bs.getD m 0 := by
  simp only [List.getD_eq_getElem?_getD, List.getElem?_set, List.length_set, hl]
  by_cases h0 : m = 4 * i
  · subst h0; simp [show ¬ 4 * i + 1 = 4 * i by omega, show ¬ 4 * i + 2 = 4 * i by omega, show ¬ 4 * i + 3 = 4 * i by omega, show 4 * i < 32 by omega]
  · by_cases h1 : m = 4 * i + 1
    · subst h1; simp [show ¬ 4 * i + 2 = 4 * i + 1 by omega, show ¬ 4 * i + 3 = 4 * i + 1 by omega, show 4 * i + 1 < 32 by omega]
    · by_cases h2 : m = 4 * i + 2
      · subst h2; simp [show ¬ 4 * i + 3 = 4 * i + 2 by omega, show 4 * i + 2 < 32 by omega]
      · by_cases h3 : m = 4 * i + 3
        · subst h3; simp [show 4 * i + 3 < 32 by omega]
        · simp [h0, h1, h2, h3, show ¬ 4 * i = m by omega, show ¬ 4 * i + 1 = m by omega, show ¬ 4 * i + 2 = m by omega, show ¬ 4 * i + 3 = m by omega]
theorem told_step (h : S8) (bs : List UInt8) (i : Nat) (hi : i < 8) (hl : bs.length = 32) (hb : ∀ m, m < 4 * i → bs.getD m 0 = (toldS h).getD m 0) (m : Nat) (hm : m < 4 * (i + 1)) :
    ((((bs.set (4 * i) ((wordB (h.list.getD i 0)).getD 0 0)).set (4 * i + 1) ((wordB (h.list.getD i 0)).getD 1 0)).set (4 * i + 2) ((wordB (h.list.getD i 0)).getD 2 0)).set (4 * i + 3) ((wordB (h.list.getD i 0)).getD 3 0)).getD m 0 = (toldS h).getD m 0 := by
  rw [set4_get _ _ _ _ _ _ hl hi]
  by_cases h0 : m = 4 * i
  · rw [if_pos h0, h0, ← told_get h i 0 hi (by omega)]; rfl
  · rw [if_neg h0]
    by_cases h1 : m = 4 * i + 1
    · rw [if_pos h1, h1, ← told_get h i 1 hi (by omega)]
    · rw [if_neg h1]
      by_cases h2 : m = 4 * i + 2
      · rw [if_pos h2, h2, ← told_get h i 2 hi (by omega)]
      · rw [if_neg h2]
        by_cases h3 : m = 4 * i + 3
        · rw [if_pos h3, h3, ← told_get h i 3 hi (by omega)]
        · rw [if_neg h3]; exact hb m (by omega)
theorem told_ext (h : S8) (bs : List UInt8) (hl : bs.length = 32) (hb : ∀ m, m < 32 → bs.getD m 0 = (toldS h).getD m 0) : bs = toldS h := by
  refine List.ext_getElem (by rw [hl, told_len]) fun m h1 h2 => ?_
  have := hb m (by omega)
  simpa [List.getD_eq_getElem?_getD, List.getElem?_eq_getElem h1, List.getElem?_eq_getElem h2] using this
set_option maxHeartbeats 4000000 in
theorem told_ok (h : S8) : FnC Tryd.prog 63 [.agg h.cells] [] (fun s L => s = str (toldS h) ∧ L = []) := by
  refine FnC.intro Tryd.func63 rfl Tryd.ntmps63 rfl fun Z w0 hG => ?_
  focus (
 (refine W.seq (W.region ?_))
 (refine J.boxAg rfl rfl ?_; intro b')
 (refine Jx.assign rfl rfl (J.nil (N.seq (W.seq (W.region ?_)))))
 (refine J.alloc (by simp only [List.map_cons, List.map_nil]; rfl) rfl rfl ?_; intro b')
 (refine J.nil (N.seq (W.seq (W.seq (W.region (Jx.loadAll rfl 1 rfl rfl rfl ?_))))))
 (refine Jx.move rfl rfl (J.nil (N.seq (W.block ?_))))
 (refine id ?_; rotate_left))
  rename_i p1
  refine W.loop (α := Nat × List UInt8) (fun x => [(7, int x.1), (6, .agg (h.list.map u32)), (3, ptr b'), (1, ptr p1)]) (fun x => [.obj b' 117 (x.2.map byte), .obj p1 95 h.cells]) (fun x => x.1 ≤ 8 ∧ x.2.length = 32 ∧ ∀ m, m < 4 * x.1 → x.2.getD m 0 = (toldS h).getD m 0) (fun x => 8 - x.1) (0, List.replicate 32 0) ⟨by simp, rfl, fun m hm => by simp at hm⟩ rfl ⟨ref0 rfl, ref0 rfl, ref0 rfl, ref0 rfl, trivial⟩ ?_
  rintro ⟨i, bs⟩ ⟨hi, hl, hb⟩
  simp only at hi hl hb ⊢
  by_cases h1 : i < 8
  · focus (
 (refine W.seq (W.region (Jx.lssI rfl rfl rfl (J.nil (N.seq (W.seq (W.cT rfl ?_)))))))
 (refine W.skip (N.seq (W.seq (W.block (W.seq (W.region (Jx.move rfl rfl ?_)))))))
 (refine Jx.indexAg u32 0 i rfl rfl rfl (by omega) (by exact h1) rfl ?_)
 (refine Jx.assign rfl rfl (Jx.assign rfl rfl (J.nil (N.seq (W.region (Jx.move rfl rfl (Jx.mul64 rfl rfl (by omega) rfl ?_)))))))
 (refine Jx.move rfl rfl (Jx.mul64 rfl rfl (by omega) rfl ?_))
 (refine Jx.add64 rfl rfl (by omega) rfl ?_)
 (refine Jx.move rfl rfl (Jx.mul64 rfl rfl (by omega) rfl ?_))
 (refine Jx.add64 rfl rfl (by omega) rfl ?_)
 (refine Jx.move rfl rfl (Jx.mul64 rfl rfl (by omega) rfl ?_))
 (refine Jx.add64 rfl rfl (by omega) rfl ?_)
 (refine Jx.move rfl rfl (Jx.shrU rfl rfl (by decide) rfl ?_))
 (refine Jx.convByte rfl rfl rfl ?_)
 (refine Jx.move rfl rfl (Jx.shrU rfl rfl (by decide) rfl ?_))
 (refine Jx.convByte rfl rfl rfl ?_)
 (refine Jx.move rfl rfl (Jx.shrU rfl rfl (by decide) rfl ?_))
 (refine Jx.convByte rfl rfl rfl ?_)
 (refine Jx.move rfl rfl (Jx.convByte rfl rfl rfl ?_))
 (refine Jx.index0 (4 * i) rfl rfl (by omega) (by omega) rfl ?_)
 (refine J.storeA byte ((wordB (h.list.getD i 0)).getD 0 0) rfl rfl (One.val rfl) 0 rfl (by (try simp only [List.length_set]); omega) rfl ?_)
 (refine Jx.index0 (4 * i + 1) rfl rfl (by omega) (by omega) rfl ?_)
 (refine J.storeA byte ((wordB (h.list.getD i 0)).getD 1 0) rfl rfl (One.val rfl) 0 rfl (by (try simp only [List.length_set]); omega) rfl ?_)
 (refine Jx.index0 (4 * i + 2) rfl rfl (by omega) (by omega) rfl ?_)
 (refine J.storeA byte ((wordB (h.list.getD i 0)).getD 2 0) rfl rfl (One.val rfl) 0 rfl (by (try simp only [List.length_set]); omega) rfl ?_)
 (refine Jx.index0 (4 * i + 3) rfl rfl (by omega) (by omega) rfl ?_)
 (refine J.storeA byte ((wordB (h.list.getD i 0)).getD 3 0) rfl rfl (One.val rfl) 0 rfl (by (try simp only [List.length_set]); omega) rfl ?_)
 (refine J.nil (N.seq (W.region (Jx.add64 rfl rfl (by omega) rfl ?_))))
 (refine Jx.move rfl rfl (J.nil ?_))
 (refine id ?_; rotate_left))
    exact N.round (i + 1, (((bs.set (4 * i) ((wordB (h.list.getD i 0)).getD 0 0)).set (4 * i + 1) ((wordB (h.list.getD i 0)).getD 1 0)).set (4 * i + 2) ((wordB (h.list.getD i 0)).getD 2 0)).set (4 * i + 3) ((wordB (h.list.getD i 0)).getD 3 0)) ⟨by simp only; omega, by simp only [List.length_set]; exact hl, fun m hm => told_step h bs i h1 hl hb m hm⟩ (by simp only; omega) rfl ⟨ref0 rfl, ref0 rfl, ref0 rfl, ref0 rfl, trivial⟩
  · have h8 : i = 8 := by omega
    have e : bs = toldS h := told_ext h bs hl fun m hm => hb m (by omega)
    focus (
 (refine W.seq (W.region (Jx.lssI rfl rfl rfl (J.nil (N.seq (W.seq (W.cF rfl ?_)))))))
 (refine W.exit (N.seq (W.seq (W.region (Jx.sliceArr rfl rfl ?_)))))
 (refine Jx.bytesStrObj bs rfl 0 rfl hl (fun k hk => by rw [Nat.zero_add]; exact getElem?_map_lt byte bs 0 k (by omega)) rfl ?_)
 (refine Jx.assign rfl rfl (J.nil (N.seq (W.ret ?_))))
 (refine id ?_; rotate_left))
    exact N.retD (rs := [.tmp 2]) (L1 := []) rfl (.tmp rfl .nil) (List.nil_sublist _) ⟨by rw [e]; rfl, rfl⟩
theorem el_byte (m : List UInt8) (j : Nat) (hj : j < m.length) : (elOf encB 0 m j).getD 0 .any = (m.map byte).getD j .any := by
  simp [elOf, encB, List.getD_eq_getElem?_getD, List.getElem?_map, List.getElem?_eq_getElem hj]
set_option maxHeartbeats 4000000 in
theorem blocks_ok (s0 : S8) (l0 : List UInt8) (hl0 : l0.length ≤ 4294967296) : FnC Tryd.prog 62 [.agg s0.cells, bsl l0] [] (fun s L => ∃ v, v.oneCell' = true ∧ s = .tup [.agg (blocksS s0 l0).1.cells, .val v] ∧ L = [.row v tU8 1 (blocksS s0 l0).2.length (elOf encB 0 (blocksS s0 l0).2)]) := by
  refine FnC.intro Tryd.func62 rfl Tryd.ntmps62 rfl fun Z w0 hG => ?_
  focus (
 (refine W.seq (W.region ?_))
 (refine J.boxAg rfl rfl ?_; intro b')
 (refine J.alloc (by simp only [List.map_cons, List.map_nil]; rfl) rfl rfl ?_; intro b')
 (refine Jx.assign rfl rfl (J.nil (N.seq (W.seq (W.block ?_)))))
 (refine id ?_; rotate_left))
  rename_i p2
  refine W.loop (α := S8 × List UInt8) (fun x => [(1, bsl x.2), (2, ptr p2), (4, ptr b')]) (fun x => [.obj b' 95 (S8.cells ⟨0, 0, 0, 0, 0, 0, 0, 0⟩), .obj p2 95 x.1.cells]) (fun x => blocksS x.1 x.2 = blocksS s0 l0 ∧ x.2.length ≤ 4294967296) (fun x => x.2.length) (s0, l0) ⟨rfl, hl0⟩ rfl ⟨ref0 rfl, ref0 rfl, ref0 rfl, trivial⟩ ?_
  rintro ⟨s, l⟩ ⟨he, hl⟩
  simp only at he hl ⊢
  by_cases h1 : 64 ≤ l.length
  · have hlen : (l.take 64).length = 64 := by rw [List.length_take]; omega
    focus (
 (refine W.seq (W.seq (W.region (Jx.move rfl rfl (Jx.lenSl rfl rfl ?_)))))
 (refine Jx.geqI rfl rfl rfl (J.nil (N.seq (W.cT rfl ?_))))
 (refine W.skip (N.seq (W.block (W.seq ?_))))
 (refine W.draw follows ?_)
 (refine JD.upto (n := 6) rfl (by decide +kernel) (by decide +kernel) rfl rfl ?_)
 (refine Cx.loadAll rfl 1 rfl rfl rfl ?_)
 (refine Cx.move rfl rfl ?_)
 (refine Cx.takeL 64 rfl rfl rfl h1 rfl ?_)
 (refine Cx.sliceArrPtr ((l.take 64).map byte) rfl (by omega) (by decide) (by rw [List.length_map]; exact hlen) (fun j hj => el_byte (l.take 64) j (by omega)) rfl ?_)
 (refine Cx.loadPPag rfl (List.take_of_length_le (by rw [List.length_map]; omega)) (by rw [List.length_map]; exact hlen) rfl ?_)
 (refine SegC.q (Qs.call (Lc := []) (block_ok s (l.take 64) hlen) (fun s L' h => h) (List.Perm.refl _) (evs_args rfl)) rfl ?_)
 (refine SegC.nil ?_)
 (refine J.storeAll rfl rfl rfl 1 rfl rfl rfl ?_)
 (refine J.nil (N.seq (W.region (Jx.move rfl rfl ?_))))
 (refine Jx.dropL 64 rfl rfl rfl h1 rfl ?_)
 (refine Jx.assign rfl rfl (J.nil (N.blockNormal ?_)))
 (refine id ?_; rotate_left))
    exact N.round (blockS s (l.take 64), l.drop 64) ⟨by simp only; rw [← blocksS_ge h1, he], by simp only [List.length_drop]; omega⟩ (by simp only [List.length_drop]; omega) rfl ⟨ref0 rfl, ref0 rfl, ref0 rfl, trivial⟩
  · have e2 : blocksS s l = (s, l) := blocksS_lt (by omega)
    rw [e2] at he
    focus (
 (refine W.seq (W.seq (W.region (Jx.move rfl rfl (Jx.lenSl rfl rfl ?_)))))
 (refine Jx.geqI rfl rfl rfl (J.nil (N.seq (W.cF rfl ?_))))
 (refine W.exit (N.seq (W.seq ?_)))
 (refine W.draw follows ?_)
 (refine JD.begin 5 rfl ?_; refine JP.more [0, 1] _ rfl (by decide +kernel) ?_)
 (refine Cx.loadAll rfl 1 rfl rfl rfl ?_)
 (refine Cx.move rfl rfl ?_)
 (refine SegC.nil ?_)
 (refine JP.rowNil tU8 1 (elOf encB 0 []) ?_; refine JP.append (idx := [0, 1]) (m := []) (m2 := l) 2 [18] [1, 2] [0] (by decide +kernel) rfl ?_ rfl (SrcOK.sl rfl) rfl rfl (by simp only [maxLen, List.length_nil]; omega) rfl ?_; rotate_left; intro v' hv'; simp only [List.nil_append]; rotate_left)
 (refine Cx.loadAll rfl 2 rfl rfl rfl ?_)
 (refine Cx.move rfl rfl ?_)
 (refine SegC.nil ?_)
 (refine Ag.cons rfl ?_)
 (refine Ag.cons rfl ?_)
 (refine Ag.nil)
 (refine JP.storeAll (idx := [0]) 3 [4, 17] [0, 1, 2, 3] [] (by decide +kernel) rfl ?_ rfl rfl rfl 1 rfl rfl rfl ?_)
 (refine Cx.loadAll rfl 2 rfl rfl rfl ?_)
 (refine SegC.nil ?_)
 (refine Ag.cons rfl ?_)
 (refine Ag.nil)
 (refine JP.tail (idx := []) 4 (by decide +kernel) (by decide +kernel) rfl rfl ?_ ?_)
 (refine SegC.nil ?_)
 (refine Ag.nil)
 (refine Jx.assign rfl rfl (J.nil (N.seq (W.ret ?_))))
 (refine id ?_; rotate_left))
    refine N.retD (rs := [.cell 4 95, .tmp 5]) (L1 := [.row v' tU8 1 l.length (elOf encB 0 l)]) rfl (.cell rfl 1 rfl inferInstance (.tmp rfl .nil)) (by simp) ⟨v', hv', ?_, ?_⟩
    · rw [← he]; rfl
    · rw [← he]
end Go.Proofs.YtbdkenlkimiddaaDoor.Sha
namespace Go.Proofs.YtbdkenlkimiddaaDoor.Sha
open Go Go.Sse
set_option maxRecDepth 10000
set_option linter.unusedVariables false
set_option linter.unusedSimpArgs false
abbrev tHash : Nat := 98
abbrev hraw (b : Nat) (v : Value) (s : S8) (tail : List UInt8) (n : Nat) : List Own :=
  [.row v tU8 1 tail.length (elOf encB 0 tail), .obj b tHash [u32 s.a, u32 s.b, u32 s.c, u32 s.d, u32 s.e, u32 s.f, u32 s.g, u32 s.h, .val v, int n]]
theorem new_ok : FnC Tryd.prog 45 [] [] (fun r L => ∃ b v, r = ptr b ∧ L = hraw b v first8 [] 0) := by
  refine FnC.intro Tryd.func45 rfl Tryd.ntmps45 rfl fun Z w0 hG => ?_
  focus (
 (refine W.seq (W.region (Jx.assign rfl rfl (J.nil (N.seq (W.seq (W.region ?_)))))))
 (refine J.call (first_ok) rfl (evs_args rfl) rfl ?_; rintro _ _ ⟨rfl, rfl⟩; simp only [la1, la2, la3])
 (refine Jx.buildB rfl rfl rfl rfl rfl ?_)
 (refine J.boxAg rfl rfl ?_; intro b')
 (refine Jx.assign rfl rfl (J.nil (N.seq (W.ret ?_))))
 (refine id ?_; rotate_left))
  refine N.rowNil tU8 1 (elOf encB 0 []) ?_
  exact N.ret (rs := [.tmp 0]) rfl (.tmp rfl .nil) ⟨b', .slice none 0 0, rfl, rfl⟩
set_option maxHeartbeats 4000000 in
theorem write_ok (b : Nat) (v : Value) (s : S8) (tail : List UInt8) (n : Nat) (x : List UInt8) (h1 : tail.length < 64) (h2 : n ≤ 2147483648) (h3 : x.length ≤ 2147483648) :
    FnC Tryd.prog 46 [ptr b, str x] (hraw b v s tail n) (fun r L => ∃ v', L = hraw b v' (blocksS s (tail ++ x)).1 (blocksS s (tail ++ x)).2 (n + x.length)) := by
  have c := blocks_ok s (tail ++ x) (by simp only [List.length_append]; omega)
  have hmax : (tail ++ x).length ≤ maxLen := by simp only [List.length_append, maxLen]; omega
  have hb : tail.length + x.length ≤ maxLen ∧ (tail.length + x.length) * 1 ≤ 140737488355328 := by simp only [maxLen]; omega
  generalize blocksS s (tail ++ x) = p at *
  obtain ⟨s2, tl2⟩ := p
  refine FnC.intro Tryd.func46 rfl Tryd.ntmps46 rfl fun Z w0 hG => ?_
  focus (
 (refine W.seq (W.region (Jx.move rfl rfl (Jx.nilCheck rfl rfl ?_))))
 (refine Jx.fieldAddr rfl rfl ?_)
 (refine Jx.load rfl 1 rfl rfl rfl ?_)
 (refine Jx.move rfl rfl (Jx.lenS rfl rfl ?_))
 (refine Jx.add64 rfl rfl (by omega) rfl ?_)
 (refine Jx.nilCheck rfl rfl ?_)
 (refine Jx.fieldAddr rfl rfl ?_)
 (refine J.store rfl rfl (One.val rfl) 1 rfl rfl rfl rfl ?_)
 (refine J.nil (N.seq ?_))
 (refine W.draw follows ?_)
 (refine JD.begin 22 rfl ?_; refine JP.more [0, 1, 2, 3, 4, 5, 6, 7, 8, 9, 10] _ rfl (by decide +kernel) ?_)
 (refine Cx.move rfl rfl ?_)
 (refine Cx.move rfl rfl ?_)
 (refine Cx.move rfl rfl ?_)
 (refine Cx.nilCheck rfl rfl ?_)
 (refine Cx.fieldAddr rfl rfl ?_)
 (refine Cx.loadAg rfl 1 rfl rfl rfl rfl ?_)
 (refine Cx.move rfl rfl ?_)
 (refine Cx.nilCheck rfl rfl ?_)
 (refine Cx.fieldAddr rfl rfl ?_)
 (refine Cx.load rfl 1 rfl rfl rfl ?_)
 (refine Cx.move rfl rfl ?_)
 (refine SegC.nil ?_)
 (refine JP.append (idx := [0, 1, 2, 3, 4, 5, 6, 7, 8, 9, 10]) (m := tail) (m2 := x) 11 [23, 24] [6, 7, 8, 9, 10, 11] [0, 1, 2, 3, 4, 5] (by decide +kernel) rfl ?_ rfl (SrcOK.str rfl) rfl rfl hb rfl ?_; rotate_left; intro v' hv'; refine JP.freeze 25 rfl (by decide +kernel) hmax ?_; rotate_left)
 (refine Cx.move rfl rfl ?_)
 (refine Cx.move rfl rfl ?_)
 (refine Cx.move rfl rfl ?_)
 (refine Cx.nilCheck rfl rfl ?_)
 (refine Cx.fieldAddr rfl rfl ?_)
 (refine Cx.loadAg rfl 1 rfl rfl rfl rfl ?_)
 (refine Cx.move rfl rfl ?_)
 (refine Cx.nilCheck rfl rfl ?_)
 (refine Cx.fieldAddr rfl rfl ?_)
 (refine Cx.load rfl 1 rfl rfl rfl ?_)
 (refine Cx.move rfl rfl ?_)
 (refine SegC.nil ?_)
 (refine Ag.cons rfl ?_)
 (refine Ag.cons rfl ?_)
 (refine Ag.cons rfl ?_)
 (refine Ag.cons rfl ?_)
 (refine Ag.cons rfl ?_)
 (refine Ag.cons rfl ?_)
 (refine Ag.cons rfl ?_)
 (refine Ag.cons rfl ?_)
 (refine Ag.cons rfl ?_)
 (refine Ag.cons rfl ?_)
 (refine Ag.cons rfl ?_)
 (refine Ag.nil)
 (refine JP.call (idx := [0, 1, 2, 3, 4, 5]) (Lc := []) 12 [19, 25] [2, 3, 4, 5, 6, 7, 8, 9, 10, 11, 12] [0, 1] c rfl (by decide +kernel) rfl ?_ (evs_args rfl) rfl ?_; rotate_left; rintro _ _ ⟨v2, hv2, rfl, rfl⟩; simp only [List.cons_append, List.nil_append]; refine JP.more [13, 14, 15, 16, 17] _ rfl (by decide +kernel) ?_; rotate_left)
 (refine Cx.move rfl rfl ?_)
 (refine Cx.move rfl rfl ?_)
 (refine Cx.move rfl rfl ?_)
 (refine Cx.nilCheck rfl rfl ?_)
 (refine Cx.fieldAddr rfl rfl ?_)
 (refine Cx.loadAg rfl 0 rfl rfl rfl rfl ?_)
 (refine SegC.nil ?_)
 (refine Ag.cons rfl ?_)
 (refine Ag.cons rfl ?_)
 (refine Ag.cons rfl ?_)
 (refine Ag.cons rfl ?_)
 (refine Ag.cons rfl ?_)
 (refine Ag.cons rfl ?_)
 (refine Ag.nil)
 (refine Cx.move rfl rfl ?_)
 (refine Cx.extract rfl rfl rfl ?_)
 (refine Cx.extract rfl rfl rfl ?_)
 (refine Cx.nilCheck rfl rfl ?_)
 (refine Cx.fieldAddr rfl rfl ?_)
 (refine SegC.nil ?_)
 (refine JP.storeAg (idx := [0, 1, 13, 14, 15, 16, 17]) 18 [30, 27] [0, 2, 3, 4, 5, 6, 7, 8, 9, 10, 11, 12, 13, 14, 16, 17, 18] [1, 15] (by decide +kernel) rfl ?_ rfl rfl rfl 1 rfl rfl rfl rfl ?_; rotate_left; refine JP.more [19, 20] _ rfl (by decide +kernel) ?_; rotate_left)
 (refine Cx.move rfl rfl ?_)
 (refine Cx.move rfl rfl ?_)
 (refine Cx.move rfl rfl ?_)
 (refine Cx.extract rfl rfl rfl ?_)
 (refine Cx.extract rfl rfl rfl ?_)
 (refine Cx.nilCheck rfl rfl ?_)
 (refine Cx.fieldAddr rfl rfl ?_)
 (refine SegC.nil ?_)
 (refine Ag.cons rfl ?_)
 (refine Ag.cons rfl ?_)
 (refine Ag.cons rfl ?_)
 (refine Ag.cons rfl ?_)
 (refine Ag.cons rfl ?_)
 (refine Ag.cons rfl ?_)
 (refine Ag.cons rfl ?_)
 (refine Ag.nil)
 (refine Cx.nilCheck rfl rfl ?_)
 (refine Cx.fieldAddr rfl rfl ?_)
 (refine SegC.nil ?_)
 (refine JP.store (idx := [1, 15, 19, 20]) 21 [32, 28] [0, 1, 2, 3, 4, 5, 6, 7, 8, 9, 10, 11, 12, 13, 14, 15, 16, 17, 18, 19, 20, 21] [] (by decide +kernel) rfl ?_ rfl rfl (One.val hv2) 1 rfl rfl rfl rfl ?_)
 (refine Cx.move rfl rfl ?_)
 (refine Cx.extract rfl rfl rfl ?_)
 (refine Cx.nilCheck rfl rfl ?_)
 (refine Cx.fieldAddr rfl rfl ?_)
 (refine SegC.nil ?_)
 (refine Ag.cons rfl ?_)
 (refine Ag.cons rfl ?_)
 (refine Ag.cons rfl ?_)
 (refine Ag.cons rfl ?_)
 (refine Ag.nil)
 (refine JP.tail (idx := []) 22 (by decide +kernel) (by decide +kernel) rfl rfl ?_ ?_)
 (refine SegC.nil ?_)
 (refine Ag.nil)
 (refine J.nil ?_)
 (refine id ?_; rotate_left))
  exact N.fin (rs := []) rfl .nil ⟨v2, rfl⟩
end Go.Proofs.YtbdkenlkimiddaaDoor.Sha
namespace Go.Proofs.YtbdkenlkimiddaaDoor.Sha
open Go Go.Sse
set_option maxRecDepth 10000
set_option linter.unusedVariables false
set_option linter.unusedSimpArgs false
theorem zeros_stop (n k : Nat) (hk : k ≤ zerosOf n) (r : Nat) (hr : r = n % 64) : ((((r + 1 + k : Nat) : Int)) % 64 = 56) ↔ k = zerosOf n := by
  unfold zerosOf at *
  subst hr
  constructor
  · intro h; omega
  · intro h; subst h; omega
theorem lenB_take (n i : Nat) (h : i < 8) : (lenB n).take i ++ [UInt8.ofNat (n * 8 / 2 ^ (56 - 8 * i))] = (lenB n).take (i + 1) := by
  have hl : i < (lenB n).length := by rw [lenB_len]; exact h
  rw [List.take_add_one, List.getElem?_eq_getElem hl]
  simp [lenB]
theorem zerosOf_lt (n : Nat) : zerosOf n < 64 := Nat.mod_lt _ (by omega)
set_option maxHeartbeats 4000000 in
theorem sum_ok (b : Nat) (v : Value) (s : S8) (tail : List UInt8) (n : Nat) (h1 : tail.length = n % 64) (h2 : n ≤ 4294967296) :
    FnC Tryd.prog 47 [ptr b] (hraw b v s tail n) (fun r L => r = str (toldS (blocksS s (tail ++ padS n)).1) ∧ L = hraw b v s tail n) := by
  have hz := zerosOf_lt n
  have ht : tail.length < 64 := by omega
  have c := blocks_ok s (tail ++ padS n) (by simp only [padS, List.length_append, List.length_cons, List.length_nil, List.length_replicate, lenB_len]; omega)
  have hb0 : tail.length ≤ maxLen ∧ tail.length * 1 ≤ 140737488355328 := by simp only [maxLen]; omega
  have hb1 : tail.length + [(128 : UInt8)].length ≤ maxLen ∧ (tail.length + [(128 : UInt8)].length) * 1 ≤ 140737488355328 := by simp only [maxLen, List.length_cons, List.length_nil]; omega
  have hpad : tail ++ [128] ++ List.replicate (zerosOf n) 0 ++ lenB n = tail ++ padS n := by simp [padS]
  generalize hp : blocksS s (tail ++ padS n) = p at *
  obtain ⟨s2, tl2⟩ := p
  refine FnC.intro Tryd.func47 rfl Tryd.ntmps47 rfl fun Z w0 hG => ?_
  focus (
 (refine W.seq (W.region (Jx.assign rfl rfl (J.nil (N.seq (W.seq (W.region (Jx.move rfl rfl (Jx.nilCheck rfl rfl ?_)))))))))
 (refine Jx.fieldAddr rfl rfl ?_)
 (refine Jx.load rfl 1 rfl rfl rfl ?_)
 (refine J.appendNil (l2 := tail) (SrcOK.row rfl 1 rfl) rfl rfl hb0 rfl ?_; intro v1 hv1)
 (refine Jx.assign rfl rfl (J.nil (N.seq (W.seq (W.region (Jx.move rfl rfl ?_))))))
 (refine J.qs (Qs.buildBytes [128] rfl rfl rfl (by decide) (by decide)) rfl ?_)
 (refine J.appendL (l2 := [128]) rfl (SrcOK.sl rfl) rfl rfl hb1 rfl ?_; intro v2 hv2)
 (refine Jx.assign rfl rfl (J.nil (N.seq (W.seq (W.block ?_)))))
 (refine id ?_; rotate_left))
  refine W.loop (α := Nat × Value) (fun x => [(3, .val x.2), (0, ptr b)]) (fun x => .row x.2 tU8 1 (tail ++ [128] ++ List.replicate x.1 0).length (elOf encB 0 (tail ++ [128] ++ List.replicate x.1 0)) :: hraw b v s tail n) (fun x => x.1 ≤ zerosOf n) (fun x => zerosOf n - x.1) (0, v2) (by simp) (by simp only [List.replicate_zero, List.append_nil]) ⟨ref0 rfl, ref0 rfl, trivial⟩ ?_
  rintro ⟨k, u⟩ hk
  simp only at hk ⊢
  have hst := zeros_stop n k hk tail.length h1
  have hel : (tail ++ [128] ++ List.replicate k (0 : UInt8)).length = tail.length + 1 + k := by simp only [List.length_append, List.length_cons, List.length_nil, List.length_replicate]
  have hb2 : (tail ++ [128] ++ List.replicate k (0 : UInt8)).length + [(0 : UInt8)].length ≤ maxLen ∧ ((tail ++ [128] ++ List.replicate k (0 : UInt8)).length + [(0 : UInt8)].length) * 1 ≤ 140737488355328 := by rw [hel]; simp only [maxLen, List.length_cons, List.length_nil]; omega
  have hnext : tail ++ [128] ++ List.replicate k (0 : UInt8) ++ [0] = tail ++ [128] ++ List.replicate (k + 1) 0 := by rw [List.replicate_succ']; simp
  by_cases hkz : k = zerosOf n
  · have hc : (((tail ++ [128] ++ List.replicate k (0 : UInt8)).length : Nat) : Int) % 64 = 56 := by rw [hel]; exact hst.2 hkz
    rw [hkz] at hc hel ⊢
    generalize hE : tail ++ [128] ++ List.replicate (zerosOf n) (0 : UInt8) = e at *
    focus (
 (refine W.seq (W.seq (W.region (Jx.move rfl rfl (Jx.lenRow rfl 0 rfl rfl ?_)))))
 (refine Jx.rem64 rfl rfl (by omega) (by decide) rfl ?_)
 (refine Jx.neqI rfl rfl rfl (J.nil (N.seq (W.cF rfl ?_))))
 (refine W.exit (N.seq (W.seq (W.region (Jx.move rfl rfl (Jx.nilCheck rfl rfl ?_))))))
 (refine Jx.fieldAddr rfl rfl ?_)
 (refine Jx.load rfl 2 rfl rfl rfl ?_)
 (refine Jx.convU64 n rfl rfl rfl (by omega) rfl ?_)
 (refine Jx.mulU64 8 rfl rfl (by omega) rfl ?_)
 (refine Jx.assign rfl rfl (J.nil (N.seq (W.seq (W.seq (W.region (Jx.move rfl rfl (J.nil (N.seq (W.block ?_))))))))))
 (refine id ?_; rotate_left))
    refine W.loop (α := Nat × Value) (fun x => [(29, int x.1), (3, .val x.2), (4, u64 (n * 8)), (0, ptr b)]) (fun x => .row x.2 tU8 1 (e ++ (lenB n).take x.1).length (elOf encB 0 (e ++ (lenB n).take x.1)) :: hraw b v s tail n) (fun x => x.1 ≤ 8) (fun x => 8 - x.1) (0, u) (by simp) (by simp only [List.take_zero, List.append_nil]) ⟨ref0 rfl, ref0 rfl, ref0 rfl, ref0 rfl, trivial⟩ ?_
    rintro ⟨i, u⟩ hi
    simp only at hi ⊢
    have hlt : ((lenB n).take i).length ≤ 8 := by rw [List.length_take]; omega
    have hel2 : (e ++ (lenB n).take i).length ≤ 200 := by rw [List.length_append]; omega
    by_cases h8 : i < 8
    · have hb3 : (e ++ (lenB n).take i).length + [UInt8.ofNat (n * 8 / 2 ^ (56 - 8 * i))].length ≤ maxLen ∧ ((e ++ (lenB n).take i).length + [UInt8.ofNat (n * 8 / 2 ^ (56 - 8 * i))].length) * 1 ≤ 140737488355328 := by simp only [maxLen, List.length_cons, List.length_nil]; omega
      have hn2 : e ++ (lenB n).take i ++ [UInt8.ofNat (n * 8 / 2 ^ (56 - 8 * i))] = e ++ (lenB n).take (i + 1) := by rw [List.append_assoc, lenB_take n i h8]
      generalize hm : e ++ (lenB n).take i = m at *
      focus (
 (refine W.seq (W.region (Jx.lssI rfl rfl rfl (J.nil (N.seq (W.seq (W.cT rfl ?_)))))))
 (refine W.skip (N.seq (W.seq (W.block (W.seq (W.region (Jx.move rfl rfl (Jx.assign rfl rfl (J.nil (N.seq (W.region (Jx.move rfl rfl (Jx.move rfl rfl (Jx.move rfl rfl ?_))))))))))))))
 (refine Jx.mul64 rfl rfl (by omega) rfl ?_)
 (refine Jx.sub64 rfl rfl (by omega) rfl ?_)
 (refine Jx.shrN (s := 56 - 8 * i) rfl rfl (by omega) (by simp only [IntKind.bits]; omega) rfl ?_)
 (refine Jx.numByte (n * 8 / 2 ^ (56 - 8 * i)) rfl rfl rfl rfl ?_)
 (refine J.qs (Qs.buildBytes [UInt8.ofNat (n * 8 / 2 ^ (56 - 8 * i))] rfl rfl rfl (by decide) (by decide)) rfl ?_)
 (refine J.appendL (l2 := [UInt8.ofNat (n * 8 / 2 ^ (56 - 8 * i))]) rfl (SrcOK.sl rfl) rfl rfl hb3 rfl ?_; intro v3 hv3)
 (refine Jx.assign rfl rfl (J.nil (N.seq (W.region (Jx.add64 rfl rfl (by omega) rfl ?_)))))
 (refine Jx.move rfl rfl (J.nil ?_))
 (refine id ?_; rotate_left))
      exact N.round (i + 1, v3) (by simp only; omega) (by simp only; omega) (by simp only [hn2]) ⟨ref0 rfl, ref0 rfl, ref0 rfl, ref0 rfl, trivial⟩
    · have h8' : i = 8 := by omega
      have hall : e ++ (lenB n).take i = tail ++ padS n := by rw [h8', List.take_of_length_le (by rw [lenB_len]; omega), hpad]
      rw [hall]
      rw [hall] at hel2
      refine W.freeze 3 rfl (by simp only [maxLen]; omega) ?_
      focus (
 (refine W.seq (W.region (Jx.lssI rfl rfl rfl (J.nil (N.seq (W.seq (W.cF rfl ?_)))))))
 (refine W.exit (N.seq (W.seq (W.region (Jx.move rfl rfl (Jx.nilCheck rfl rfl ?_))))))
 (refine Jx.fieldAddr rfl rfl ?_)
 (refine Jx.loadAg rfl 1 rfl rfl rfl rfl ?_)
 (refine Jx.move rfl rfl ?_)
 (refine J.call c rfl (evs_args rfl) rfl ?_; rintro _ _ ⟨v4, hv4, rfl, rfl⟩; simp only [List.cons_append, List.nil_append])
 (refine Jx.move rfl rfl (Jx.extract rfl rfl rfl ?_))
 (refine Jx.extract rfl rfl rfl ?_)
 (refine J.alloc (by simp only [List.map_cons, List.map_nil]; rfl) rfl rfl ?_; intro b')
 (refine J.storeAll rfl rfl rfl 0 rfl rfl rfl ?_)
 (refine Jx.assign rfl rfl (J.nil (N.seq (W.seq (W.region (Jx.loadAll rfl 0 rfl rfl rfl ?_))))))
 (refine J.call (told_ok s2) rfl (evs_args rfl) rfl ?_; rintro _ _ ⟨rfl, rfl⟩; simp only [la1, la2, la3])
 (refine Jx.assign rfl rfl (J.nil (N.seq (W.ret ?_))))
 (refine id ?_; rotate_left))
      exact N.retD (rs := [.tmp 2]) (L1 := hraw b v s tail n) rfl (.tmp rfl .nil) (by simp) ⟨rfl, rfl⟩
  · have hc : ¬ (((tail ++ [128] ++ List.replicate k (0 : UInt8)).length : Nat) : Int) % 64 = 56 := by rw [hel]; exact fun h => hkz (hst.1 h)
    generalize hE : tail ++ [128] ++ List.replicate k (0 : UInt8) = e at *
    focus (
 (refine W.seq (W.seq (W.region (Jx.move rfl rfl (Jx.lenRow rfl 0 rfl rfl ?_)))))
 (refine Jx.rem64 rfl rfl (by omega) (by decide) rfl ?_)
 (refine Jx.neqI rfl rfl rfl (J.nil (N.seq (W.cT rfl ?_))))
 (refine W.skip (N.seq (W.block (W.region (Jx.move rfl rfl ?_)))))
 (refine J.qs (Qs.buildBytes [0] rfl rfl rfl (by decide) (by decide)) rfl ?_)
 (refine J.appendL (l2 := [0]) rfl (SrcOK.sl rfl) rfl rfl hb2 rfl ?_; intro v3 hv3)
 (refine Jx.assign rfl rfl (J.nil (N.blockNormal ?_)))
 (refine id ?_; rotate_left))
    exact N.round (k + 1, v3) (by simp only; omega) (by simp only; omega) (by simp only [hnext]) ⟨ref0 rfl, ref0 rfl, trivial⟩
theorem hsum_ok (x : List UInt8) (hx : x.length ≤ 2147483648) : FnC Tryd.prog 31 [str x] [] (fun r L => r = str (shaS x) ∧ L = []) := by
  have hl := blocksS_left x.length first8 x (Nat.le_refl _)
  have happ := blocksS_app x.length first8 x (padS x.length) (Nat.le_refl _)
  have c2 : ∀ b v, FnC Tryd.prog 46 [ptr b, str x] (hraw b v first8 [] 0) (fun r L => ∃ v', L = hraw b v' (blocksS first8 x).1 (blocksS first8 x).2 x.length) := fun b v => by
    have := write_ok b v first8 [] 0 x (by simp) (by omega) hx
    simpa using this
  have c3 := fun b v => sum_ok b v (blocksS first8 x).1 (blocksS first8 x).2 x.length hl (by omega)
  rw [← happ] at c3
  change ∀ b v, FnC Tryd.prog 47 [ptr b] (hraw b v (blocksS first8 x).1 (blocksS first8 x).2 x.length) (fun r L => r = str (shaS x) ∧ L = hraw b v (blocksS first8 x).1 (blocksS first8 x).2 x.length) at c3
  generalize blocksS first8 x = p at *
  refine FnC.intro Tryd.func31 rfl Tryd.ntmps31 rfl fun Z w0 hG => ?_
  focus (
 (refine W.seq (W.region (Jx.assign rfl rfl (J.nil (N.seq (W.seq (W.region ?_)))))))
 (refine J.call new_ok rfl (evs_args rfl) rfl ?_; rintro _ _ ⟨b, v, rfl, rfl⟩; simp only [la1, la2, la3])
 (refine Jx.assign rfl rfl (J.nil (N.seq (W.seq (W.region (Jx.move rfl rfl (Jx.move rfl rfl ?_)))))))
 (refine J.call (c2 b v) rfl (evs_args rfl) rfl ?_; rintro _ _ ⟨v2, rfl⟩; simp only [la1, la2, la3])
 (refine J.nil (N.seq (W.seq (W.region (Jx.move rfl rfl ?_)))))
 (refine J.call (c3 b v2) rfl (evs_args rfl) rfl ?_; rintro _ _ ⟨rfl, rfl⟩; simp only [la1, la2, la3])
 (refine Jx.assign rfl rfl (J.nil (N.seq (W.ret ?_))))
 (refine id ?_; rotate_left))
  exact N.retD (rs := [.tmp 2]) (L1 := []) rfl (.tmp rfl .nil) (List.nil_sublist _) ⟨rfl, rfl⟩
end Go.Proofs.YtbdkenlkimiddaaDoor.Sha
namespace Go.Proofs.YtbdkenlkimiddaaDoor.Sha
open Go Go.Sse
set_option linter.unusedVariables false
set_option linter.unusedSimpArgs false
set_option maxRecDepth 100000
theorem endB_step (n i : Nat) (h : i < 8) : [UInt8.ofNat (n * 8 / 256 ^ i % 256)] ++ (lenB n).drop (8 - i) = (lenB n).drop (8 - (i + 1)) := by
  have hl : 8 - (i + 1) < (lenB n).length := by rw [lenB_len]; omega
  rw [List.drop_eq_getElem_cons hl, show 8 - (i + 1) + 1 = 8 - i by omega]
  simp only [List.singleton_append, List.cons.injEq, and_true]
  simp only [lenB, List.getElem_map, List.getElem_range]
  rw [show 56 - 8 * (8 - (i + 1)) = 8 * i by omega, Nat.pow_mul]
  apply UInt8.toNat_inj.1
  simp
theorem take_drop_ext (all bs : List UInt8) (i : Nat) (hl : bs.length = 64) (hi : i + 64 ≤ all.length) (h : ∀ m, m < 64 → bs.getD m 0 = all.getD (i + m) 0) : bs = (all.drop i).take 64 := by
  refine List.ext_getElem (by rw [hl, List.length_take, List.length_drop]; omega) fun m h1 h2 => ?_
  have := h m (by omega)
  rw [List.getElem_take, List.getElem_drop]
  simpa [List.getD_eq_getElem?_getD, List.getElem?_eq_getElem h1, List.getElem?_eq_getElem (show i + m < all.length by omega)] using this
theorem set_step (all bs : List UInt8) (i k : Nat) (hk : k < 64) (hl : bs.length = 64) (h : ∀ m, m < k → bs.getD m 0 = all.getD (i + m) 0) (m : Nat) (hm : m < k + 1) : (bs.set k (all.getD (i + k) 0)).getD m 0 = all.getD (i + m) 0 := by
  simp only [List.getD_eq_getElem?_getD, List.getElem?_set]
  by_cases e : k = m
  · subst e; simp [hl, hk]
  · rw [if_neg e]
    have := h m (by omega)
    simpa only [List.getD_eq_getElem?_getD] using this
set_option maxHeartbeats 4000000 in
theorem rsum_ok (x : List UInt8) (hx : x.length ≤ 2147483648) : FnC Tryd.prog 60 [str x] [] (fun r L => r = str (shaS x) ∧ L = []) := by
  have hz := zerosOf_lt x.length
  have hze : (119 - (x.length : Int) % 64) % 64 = (zerosOf x.length : Int) := by unfold zerosOf; omega
  have hzl : (List.replicate (zerosOf x.length) (0 : UInt8)).length = zerosOf x.length := by simp
  refine FnC.intro Tryd.func60 rfl Tryd.ntmps60 rfl fun Z w0 hG => ?_
  focus (
 (refine W.seq (W.region (Jx.assign rfl rfl (J.nil (N.seq (W.seq (W.region (Jx.move rfl rfl (Jx.lenS rfl rfl ?_)))))))))
 (refine Jx.rem64 rfl rfl (by omega) (by decide) rfl ?_)
 (refine Jx.sub64 rfl rfl (by omega) rfl ?_)
 (refine Jx.rem64 rfl rfl (by omega) (by decide) rfl ?_)
 (refine Jx.assign rfl rfl (J.nil (N.seq (W.seq (W.region (Jx.move rfl rfl (Jx.lenS rfl rfl ?_)))))))
 (refine Jx.mul64 rfl rfl (by omega) rfl ?_)
 (refine Jx.assign rfl rfl (J.nil (N.seq (W.seq (W.region (Jx.assign rfl rfl (J.nil (N.seq (W.seq (W.seq (W.region (Jx.assign rfl rfl (J.nil (N.seq ?_))))))))))))))
 (refine W.block ?_)
 (refine id ?_; rotate_left))
  refine W.loop (α := Nat) (fun i => [(6, int i), (5, str ((lenB x.length).drop (8 - i))), (4, int ((x.length * 8 / 256 ^ i : Nat) : Int)), (3, int (zerosOf x.length)), (0, str x)]) (fun _ => []) (fun i => i ≤ 8) (fun i => 8 - i) 0 (by omega) rfl ⟨ref0 rfl, ref0 rfl, ⟨_, rfl, Sub.of_eq (by simp)⟩, ⟨_, rfl, Sub.of_eq (by rw [hze])⟩, ref0 rfl, trivial⟩ ?_
  intro i hi
  have hel : ((lenB x.length).drop (8 - i)).length ≤ 8 := by rw [List.length_drop, lenB_len]; omega
  by_cases h1 : i < 8
  · have hst := endB_step x.length i h1
    have hdiv : x.length * 8 / 256 ^ i ≤ x.length * 8 := Nat.div_le_self _ _
    have hnx : x.length * 8 / 256 ^ i / 256 = x.length * 8 / 256 ^ (i + 1) := by rw [Nat.div_div_eq_div_mul, Nat.pow_succ]
    generalize x.length * 8 / 256 ^ i = q at *
    generalize (lenB x.length).drop (8 - i) = e at *
    focus (
 (refine W.seq (W.seq (W.region (Jx.move rfl rfl (Jx.lssI rfl rfl rfl (J.nil (N.seq (W.cT rfl ?_))))))))
 (refine W.skip (N.seq (W.seq (W.block (W.seq (W.region (Jx.move rfl rfl (Jx.rem64 rfl rfl (by omega) (by decide) rfl ?_))))))))
 (refine Jx.numByte (q % 256) rfl rfl (by omega) rfl ?_)
 (refine J.qs (Qs.buildBytes [UInt8.ofNat (q % 256)] rfl rfl rfl (by decide) (by decide)) rfl ?_)
 (refine Jx.bytesStr rfl rfl ?_)
 (refine Jx.move rfl rfl (Jx.cat rfl rfl (by simp only [List.length_cons, List.length_nil]; omega) rfl ?_))
 (refine Jx.assign rfl rfl (J.nil (N.seq (W.region (Jx.move rfl rfl (Jx.quo64 rfl rfl (by omega) (by decide) rfl ?_))))))
 (refine Jx.assign rfl rfl (J.nil (N.seq (W.region (Jx.move rfl rfl (Jx.add64 rfl rfl (by omega) rfl ?_))))))
 (refine Jx.assign rfl rfl (J.nil ?_))
 (refine id ?_; rotate_left))
    exact N.round (i + 1) (by omega) (by omega) rfl ⟨ref0 rfl, ⟨_, rfl, Sub.of_eq (by rw [hst])⟩, ⟨_, rfl, Sub.of_eq (by rw [← hnx]; congr 2)⟩, ref0 rfl, ref0 rfl, trivial⟩
  · have h8 : i = 8 := by omega
    have hall : x ++ [128] ++ List.replicate (zerosOf x.length) 0 ++ (lenB x.length).drop (8 - i) = x ++ padS x.length := by rw [h8]; simp [padS]
    have hlen : (x ++ padS x.length).length ≤ 4294967296 := by simp only [padS, List.length_append, List.length_cons, List.length_nil, List.length_replicate, lenB_len]; omega
    generalize hE : (lenB x.length).drop (8 - i) = e at *
    generalize hZ : List.replicate (zerosOf x.length) (0 : UInt8) = zs at *
    focus (
 (refine W.seq (W.seq (W.region (Jx.move rfl rfl (Jx.lssI rfl rfl rfl (J.nil (N.seq (W.cF rfl ?_))))))))
 (refine W.exit (N.seq (W.seq (W.region (Jx.move rfl rfl (Jx.cat rfl rfl (by simp only [List.length_append, List.length_cons, List.length_nil]; omega) rfl ?_))))))
 (refine Jx.move rfl rfl ?_)
 (refine J.qs (Qs.zeros (n := zerosOf x.length) rfl rfl (by simp only [maxLen]; omega) (by omega)) rfl ?_; refine J.as 36 (bsl zs) rfl (Sub.of_eq (by rw [← hZ])) ?_)
 (refine Jx.bytesStr rfl rfl ?_)
 (refine Jx.cat rfl rfl (by simp only [List.length_append, List.length_cons, List.length_nil]; omega) rfl ?_)
 (refine Jx.move rfl rfl (Jx.cat rfl rfl (by simp only [List.length_append, List.length_cons, List.length_nil]; omega) rfl ?_))
 (refine Jx.assign rfl rfl (J.nil (N.seq (W.seq (W.region ?_)))))
 (refine J.call (rfirst_ok) rfl (evs_args rfl) rfl ?_; rintro _ _ ⟨rfl, rfl⟩; simp only [la1, la2, la3])
 (refine J.alloc (by simp only [List.map_cons, List.map_nil]; rfl) rfl rfl ?_; intro b')
 (refine J.storeAll rfl rfl rfl 0 rfl rfl rfl ?_)
 (refine J.nil (N.seq (W.seq (W.seq (W.region (Jx.assign rfl rfl (J.nil (N.seq (W.block ?_)))))))))
 (refine id ?_; rotate_left))
    generalize hA : x ++ padS x.length = all at *
    refine W.loop (α := Nat × S8) (fun y => [(9, int y.1), (8, ptr b'), (7, str all)]) (fun y => [.obj b' 95 y.2.cells]) (fun y => y.1 ≤ all.length ∧ blocksS y.2 (all.drop y.1) = blocksS first8 all) (fun y => all.length - y.1) (0, first8) ⟨by simp, by simp⟩ rfl ⟨ref0 rfl, ref0 rfl, ⟨_, rfl, Sub.of_eq (by rw [← hall])⟩, trivial⟩ ?_
    rintro ⟨j, s⟩ ⟨hj, hs⟩
    simp only at hj hs ⊢
    by_cases h2 : j + 64 ≤ all.length
    · focus (
 (refine W.seq (W.seq (W.region (Jx.move rfl rfl (Jx.add64 rfl rfl (by omega) rfl ?_)))))
 (refine Jx.move rfl rfl (Jx.lenS rfl rfl ?_))
 (refine Jx.leqI rfl rfl rfl (J.nil (N.seq (W.cT rfl ?_))))
 (refine W.skip (N.seq (W.seq (W.block (W.seq (W.region ?_))))))
 (refine J.alloc (by simp only [List.map_cons, List.map_nil]; rfl) rfl rfl ?_; intro b')
 (refine J.nil (N.seq (W.seq (W.seq (W.region (Jx.assign rfl rfl (J.nil (N.seq (W.block ?_)))))))))
 (refine id ?_; rotate_left))
      rename_i p8
      refine W.loop (α := Nat × List UInt8) (fun y => [(11, int y.1), (10, ptr b'), (9, int j), (8, ptr p8), (7, str all)]) (fun y => [.obj b' 115 (y.2.map byte), .obj p8 95 s.cells]) (fun y => y.1 ≤ 64 ∧ y.2.length = 64 ∧ ∀ m, m < y.1 → y.2.getD m 0 = all.getD (j + m) 0) (fun y => 64 - y.1) (0, List.replicate 64 0) ⟨by simp, rfl, fun m hm => by simp at hm⟩ rfl ⟨ref0 rfl, ref0 rfl, ref0 rfl, ref0 rfl, ref0 rfl, trivial⟩ ?_
      rintro ⟨k, bs⟩ ⟨hk, hl, hb⟩
      simp only at hk hl hb ⊢
      by_cases h3 : k < 64
      · focus (
 (refine W.seq (W.seq (W.region (Jx.move rfl rfl (Jx.lssI rfl rfl rfl (J.nil (N.seq (W.cT rfl ?_))))))))
 (refine W.skip (N.seq (W.seq (W.block (W.region (Jx.move rfl rfl (Jx.move rfl rfl (Jx.move rfl rfl (Jx.move rfl rfl (Jx.add64 rfl rfl (by omega) rfl ?_))))))))))
 (refine Jx.indexS rfl rfl (by omega) (by omega) rfl ?_)
 (refine Jx.index0 k rfl rfl rfl (by omega) rfl ?_)
 (refine J.storeA byte (all.getD (j + k) 0) rfl rfl (One.val rfl) 0 rfl (by omega) rfl ?_)
 (refine J.nil (N.seq (W.region (Jx.move rfl rfl (Jx.add64 rfl rfl (by omega) rfl ?_)))))
 (refine Jx.assign rfl rfl (J.nil ?_))
 (refine id ?_; rotate_left))
        exact N.round (k + 1, bs.set k (all.getD (j + k) 0)) ⟨by simp only; omega, by simp only [List.length_set]; exact hl, fun m hm => set_step all bs j k h3 hl hb m hm⟩ (by simp only; omega) rfl ⟨ref0 rfl, ref0 rfl, ref0 rfl, ref0 rfl, ref0 rfl, trivial⟩
      · have h64 : k = 64 := by omega
        have e : bs = (all.drop j).take 64 := take_drop_ext all bs j hl h2 fun m hm => hb m (by omega)
        focus (
 (refine W.seq (W.seq (W.region (Jx.move rfl rfl (Jx.lssI rfl rfl rfl (J.nil (N.seq (W.cF rfl ?_))))))))
 (refine W.exit (N.seq (W.region (Jx.loadAll rfl 1 rfl rfl rfl ?_))))
 (refine Jx.loadArr (by rw [List.length_map]; exact hl) rfl 0 rfl rfl ?_)
 (refine J.call (rblock_ok s bs hl) rfl (evs_args rfl) rfl ?_; rintro _ _ ⟨rfl, rfl⟩; simp only [la1, la2, la3])
 (refine J.storeAll rfl rfl rfl 1 rfl rfl rfl ?_)
 (refine J.nil (N.seq (W.region (Jx.move rfl rfl (Jx.add64 rfl rfl (by omega) rfl ?_)))))
 (refine Jx.assign rfl rfl (J.nil ?_))
 (refine id ?_; rotate_left))
        refine N.drop (List.sublist_cons_self _ _) ?_
        exact N.round (j + 64, blockS s bs) ⟨by simp only; omega, by simp only; rw [e, ← hs, blocksS_ge (l := all.drop j) (by rw [List.length_drop]; omega), List.drop_drop]⟩ (by simp only; omega) rfl ⟨ref0 rfl, ref0 rfl, ref0 rfl, trivial⟩
    · have e2 : blocksS s (all.drop j) = (s, all.drop j) := blocksS_lt (by rw [List.length_drop]; omega)
      rw [e2] at hs
      focus (
 (refine W.seq (W.seq (W.region (Jx.move rfl rfl (Jx.add64 rfl rfl (by omega) rfl ?_)))))
 (refine Jx.move rfl rfl (Jx.lenS rfl rfl ?_))
 (refine Jx.leqI rfl rfl rfl (J.nil (N.seq (W.cF rfl ?_))))
 (refine W.exit (N.seq (W.seq (W.region (Jx.loadAll rfl 0 rfl rfl rfl ?_)))))
 (refine J.call (rtold_ok s) rfl (evs_args rfl) rfl ?_; rintro _ _ ⟨rfl, rfl⟩; simp only [la1, la2, la3])
 (refine Jx.assign rfl rfl (J.nil (N.seq (W.ret ?_))))
 (refine id ?_; rotate_left))
      refine N.retD (rs := [.tmp 2]) (L1 := []) rfl (.tmp rfl .nil) (List.nil_sublist _) ⟨?_, rfl⟩
      show str (toldS s) = str (shaS x)
      unfold shaS
      rw [hA, ← hs]
def fewB (l : List (List UInt8)) (n e : Int) : Bool := decide ((l.length : Int) ≤ n) && l.all fun s => decide ((s.length : Int) ≤ e)
theorem few_ok (l : List (List UInt8)) (n e : Int) (hn : n ≤ 9223372036854775807) : FnC Tryd.prog 32 [ssl l, int n, int e] [] (fun s L => s = bool (fewB l n e) ∧ L = []) := by
  refine FnC.intro Tryd.func32 rfl Tryd.ntmps32 rfl fun Z w0 hG => ?_
  by_cases h0 : n < (l.length : Int)
  · focus (
 (refine W.seq (W.region (Jx.assign rfl rfl (J.nil (N.seq (W.seq (W.seq (W.region (Jx.move rfl rfl (Jx.lenSl rfl rfl ?_))))))))))
 (refine Jx.move rfl rfl (Jx.gtrI rfl rfl rfl (J.nil (N.seq (W.cT rfl ?_)))))
 (refine W.seq (W.region (Jx.assign rfl rfl (J.nil (N.seq (W.ret (N.seqRet ?_)))))))
 (refine id ?_; rotate_left))
    refine N.ret (rs := [.tmp 6]) rfl (.tmp rfl .nil) ⟨?_, rfl⟩
    simp [oneOr, fewB, show ¬ (l.length : Int) ≤ n by omega]
  · focus (
 (refine W.seq (W.region (Jx.assign rfl rfl (J.nil (N.seq (W.seq (W.seq (W.region (Jx.move rfl rfl (Jx.lenSl rfl rfl ?_))))))))))
 (refine Jx.move rfl rfl (Jx.gtrI rfl rfl rfl (J.nil (N.seq (W.cF rfl ?_)))))
 (refine W.skip (N.seq (W.seq (W.seq (W.region (Jx.assign rfl rfl (J.nil (N.seq (W.block ?_)))))))))
 (refine id ?_; rotate_left))
    refine W.loop (α := Nat) (fun i => [(7, int i), (2, int e), (0, ssl l)]) (fun _ => []) (fun i => i ≤ l.length ∧ ∀ s ∈ l.take i, (s.length : Int) ≤ e) (fun i => l.length - i) 0 ⟨by omega, by simp⟩ rfl ⟨ref0 rfl, ref0 rfl, ref0 rfl, trivial⟩ ?_
    rintro i ⟨hi, hall⟩
    by_cases h1 : i < l.length
    · have hm : l.getD i [] ∈ l := by rw [List.getD_eq_getElem?_getD, List.getElem?_eq_getElem h1]; exact List.getElem_mem _
      have hts : ∀ s ∈ l.take (i + 1), s ∈ l.take i ∨ s = l.getD i [] := fun s hs => by
        rw [List.take_add_one, List.getElem?_eq_getElem h1] at hs
        rw [List.getD_eq_getElem?_getD, List.getElem?_eq_getElem h1]
        simp only [Option.toList_some, List.mem_append, List.mem_singleton] at hs
        exact hs
      by_cases h2 : e < ((l.getD i []).length : Int)
      · focus (
 (refine W.seq (W.seq (W.region (Jx.move rfl rfl (Jx.move rfl rfl (Jx.lenSl rfl rfl ?_))))))
 (refine Jx.lssI rfl rfl rfl (J.nil (N.seq (W.cT rfl ?_))))
 (refine W.skip (N.seq (W.seq (W.block (W.seq (W.region (Jx.move rfl rfl (Jx.move rfl rfl (Jx.indexEl rfl rfl (by assumption) rfl rfl ?_)))))))))
 (refine Jx.loadPP rfl rfl ?_)
 (refine Jx.lenS rfl rfl ?_)
 (refine Jx.move rfl rfl (Jx.gtrI rfl rfl rfl (J.nil (N.seq (W.cT rfl ?_)))))
 (refine W.seq (W.region (Jx.assign rfl rfl (J.nil (N.seq (W.ret (N.blockRet (N.seqRet (N.seqRet (N.blockRet (N.seqRet ?_)))))))))))
 (refine id ?_; rotate_left))
        refine N.ret (rs := [.tmp 6]) rfl (.tmp rfl .nil) ⟨?_, rfl⟩
        have : l.all (fun s => decide ((s.length : Int) ≤ e)) = false := by
          rw [List.all_eq_false]; exact ⟨_, hm, by simp only [decide_eq_true_eq]; omega⟩
        simp [oneOr, fewB, this]
      · focus (
 (refine W.seq (W.seq (W.region (Jx.move rfl rfl (Jx.move rfl rfl (Jx.lenSl rfl rfl ?_))))))
 (refine Jx.lssI rfl rfl rfl (J.nil (N.seq (W.cT rfl ?_))))
 (refine W.skip (N.seq (W.seq (W.block (W.seq (W.region (Jx.move rfl rfl (Jx.move rfl rfl (Jx.indexEl rfl rfl (by assumption) rfl rfl ?_)))))))))
 (refine Jx.loadPP rfl rfl ?_)
 (refine Jx.lenS rfl rfl ?_)
 (refine Jx.move rfl rfl (Jx.gtrI rfl rfl rfl (J.nil (N.seq (W.cF rfl ?_)))))
 (refine W.skip (N.seq (W.region (Jx.move rfl rfl (Jx.add64 rfl rfl (by omega) rfl ?_)))))
 (refine Jx.assign rfl rfl (J.nil ?_))
 (refine id ?_; rotate_left))
        exact N.round (i + 1) ⟨h1, fun s hs => by rcases hts s hs with h | rfl; exact hall s h; omega⟩ (by omega) rfl ⟨ref0 rfl, ref0 rfl, ref0 rfl, trivial⟩
    · have hil : i = l.length := by omega
      focus (
 (refine W.seq (W.seq (W.region (Jx.move rfl rfl (Jx.move rfl rfl (Jx.lenSl rfl rfl ?_))))))
 (refine Jx.lssI rfl rfl rfl (J.nil (N.seq (W.cF rfl ?_))))
 (refine W.exit (N.seq (W.seq (W.region (Jx.assign rfl rfl (J.nil (N.seq (W.ret ?_))))))))
 (refine id ?_; rotate_left))
      refine N.ret (rs := [.tmp 6]) rfl (.tmp rfl .nil) ⟨?_, rfl⟩
      rw [hil, List.take_length] at hall
      have : l.all (fun s => decide ((s.length : Int) ≤ e)) = true := List.all_eq_true.2 fun s hs => by simpa using hall s hs
      simp only [oneOr, fewB, this, Bool.and_true]
      rw [decide_eq_true (by omega)]
end Go.Proofs.YtbdkenlkimiddaaDoor.Sha
