/-
  Bytes and texts that are built; rows that grow, from what is owned, from nothing.
-/
import Derived.Test.YtjlpknligekfeaaDoorSseK
namespace Go.Sse
open Go Go.Sse
set_option linter.unusedVariables false
set_option linter.unusedSimpArgs false

section
variable {P : Program} {Γ : Ctx} {ops : Array Oper} {Q : Exit → Act → World → Prop} {F : List (Nat × SV)} {L : List Own} {rest : List Oper}
variable {dst : Option Tmp} {ty : TypeId} {pos : String} {aft : Array Edge} {g : Option (Nat × Bool)}

theorem Qs.sub {o : Oper} {s t : SV} (h : Qs P Γ F L o s) (hs : Sub s t) : Qs P Γ F L o t :=
  fun a w K Q hws hx hK => h a w K Q hws hx fun v w' hst hr => hK v w' hst (hs _ _ _ hr)

theorem parts_of : ∀ {k : Nat} {parts : List (Nat × Operand)} {ss : List SV}, evs F (parts.map (·.2)) = some ss → parts.map (·.1) = List.range' k parts.length → (∀ s ∈ ss, PartOK s) → Parts F k parts ss
  | k, [], ss, h, _, _ => by
    simp only [List.map_nil, evs, Option.some.injEq] at h
    subst h; exact .nil
  | k, (i, x) :: r, ss, h, hi, hok => by
    simp only [List.map_cons, evs] at h
    simp only [List.map_cons, List.length_cons, List.range'_succ, List.cons.injEq] at hi
    obtain ⟨rfl, hi⟩ := hi
    cases hx : ev F x with
    | none => rw [hx] at h; simp at h
    | some s =>
      rw [hx] at h
      cases hr : evs F (r.map (·.2)) with
      | none => rw [hr] at h; simp at h
      | some ss' =>
        rw [hr] at h
        simp only [Option.some.injEq] at h
        subst h
        exact .cons hx (hok s (List.mem_cons_self ..)) (parts_of hr hi fun s hs => hok s (List.mem_cons_of_mem _ hs))

theorem One.cells {s : SV} (h : One s) : cellsS s = [s] := by cases h <;> rfl

/-- A slice that is built of members of one cell each. -/
theorem Qs.buildL {α : Type} {t E by' len : Nat} {z0 : Value} [ht : TSlice P t E] [hI : TInfo P E 1 by' [z0]] {parts : List (Nat × Operand)} (enc1 : α → SV) (d : α) (l : List α) (h1 : ∀ a, One (enc1 a)) (ha : evs F (parts.map (·.2)) = some (l.map enc1)) (hi : parts.map (·.1) = List.range' 0 parts.length)
    (hl : l.length = len) (h0 : 0 < len) (hmax : len ≤ 16777216) (hz : z0.oneCell' = true) : Qs P Γ F L ⟨dst, .buildSlice t len parts.toArray, ty, pos, aft, g⟩ (.sl 1 l.length (elOf (fun a => [enc1 a]) d l)) := by
  have hp := parts_of ha hi (fun s hs => by obtain ⟨a, _, rfl⟩ := List.mem_map.1 hs; exact .one (h1 a))
  have hc : ∀ a, cellsS (enc1 a) = [enc1 a] := fun a => (h1 a).cells
  refine (Qs.buildSlice (sz := 1) (z := [z0]) hp (by simpa using hl) (fun s hs => by obtain ⟨a, _, rfl⟩ := List.mem_map.1 hs; rw [hc]; rfl) rfl (by omega) (by omega) (by simpa using hz)).sub ?_
  subst hl
  refine Sub.sl fun i hi => ?_
  simp only [elOf, List.getD_eq_getElem?_getD, List.getElem?_map, List.getElem?_eq_getElem hi, Option.map_some, Option.getD_some, hc]
theorem Qs.buildBytes {t E by' len : Nat} [ht : TSlice P t E] [hI : TInfo P E 1 by' [.int .u8 0]] {parts : List (Nat × Operand)} (l : List UInt8) (ha : evs F (parts.map (·.2)) = some (l.map byte)) (hi : parts.map (·.1) = List.range' 0 parts.length)
    (hl : l.length = len) (h0 : 0 < len) (hmax : len ≤ 16777216) : Qs P Γ F L ⟨dst, .buildSlice t len parts.toArray, ty, pos, aft, g⟩ (bsl l) := Qs.buildL byte 0 l (fun _ => .val rfl) ha hi hl h0 hmax rfl
theorem Qs.buildTexts {t E by' len : Nat} [ht : TSlice P t E] [hI : TInfo P E 1 by' [.string ⟨#[]⟩]] {parts : List (Nat × Operand)} (l : List (List UInt8)) (ha : evs F (parts.map (·.2)) = some (l.map str)) (hi : parts.map (·.1) = List.range' 0 parts.length)
    (hl : l.length = len) (h0 : 0 < len) (hmax : len ≤ 16777216) : Qs P Γ F L ⟨dst, .buildSlice t len parts.toArray, ty, pos, aft, g⟩ (ssl l) := Qs.buildL str [] l (fun _ => .val rfl) ha hi hl h0 hmax rfl

/-- What is appended is a row of one's own. -/
theorem SrcOK.row {xt E E' sz m : Nat} [h : TSlice P xt E] {x : Operand} {v : Value} {el2 : Nat → List SV} (hx : ev F x = some (.val v)) (i : Nat) (hi : L[i]? = some (.row v E' sz m el2)) : SrcOK P Γ F L sz xt x m el2 := by
  intro ρ w hws hev
  have hv : ρ x = v := (hev _ hx).val_eq
  rcases hws.holds _ (mem_of_idx hi) with ⟨rfl, rfl⟩ | ⟨b, cap, cur, fz, rfl, hbk, hu, hnc, hcm, hcs, hone, hell, hrel⟩
  · refine ⟨[], ⟨⟨_, h.ok, by simp⟩, fun w' => by rw [hv]; simp [Builtin.lenOf], ?_, ?_, by simp, by simp⟩, by intro i hi; omega, by intro i j hi; omega⟩
    · rw [hv]; simp [Builtin.firstCells]
    · rw [hv]; simp [Builtin.firstCells]
  · have hle : m * sz ≤ cur.size := by rw [hcs]; exact Nat.mul_le_mul_right _ hnc
    have hcell : ∀ w' : World, w'.heap = w.heap → (Builtin.firstCells sz m (.slice (some ⟨b, 0, none⟩) m cap)).run P w' = .ok (cur.toList.take (m * sz)).toArray w' := by
      intro w' hw
      refine run_firstCells_some (P := P) w' sz m ⟨b, 0, none⟩ m cap _ (by simp only [List.length_take, Array.length_toList]; omega) ?_
      intro j u hu
      have hj : j < m * sz := by
        rcases Nat.lt_or_ge j (m * sz) with h | h
        · exact h
        · rw [List.getElem?_eq_none (by simp only [List.length_take]; omega)] at hu; simp at hu
      rw [List.getElem?_take, if_pos hj] at hu
      rw [add_plain, Nat.zero_add]
      have : w'.cell? ⟨b, j, none⟩ = w.cell? ⟨b, j, none⟩ := by simp [World.cell?, hw]
      rw [this, obj_cell hbk]
      simpa using hu
    refine ⟨cur.toList.take (m * sz), ⟨⟨_, h.ok, by simp⟩, fun w' => by rw [hv]; simp [Builtin.lenOf], ?_, ?_, by simp only [List.length_take, Array.length_toList]; omega, fun u hu => hone u (List.mem_of_mem_take hu)⟩, hell, fun i' j hi' hj => ?_⟩
    · rw [hv]; exact hcell w rfl
    · rw [hv]; exact hcell w.drew rfl
    · have := idx_lt hi' hj
      have e : (cur.toList.take (m * sz)).getD (i' * sz + j) undef = cur.toList.getD (i' * sz + j) undef := by
        simp only [List.getD_eq_getElem?_getD, List.getElem?_take, this, if_true]
      rw [e]; exact hrel i' j hi' hj

/-- An append to nothing. -/
theorem J.appendNil {α : Type} {d t xt E sz by' : Nat} {z : List Value} [ht : TSlice P t E] [hI : TInfo P E sz by' z] {x : Operand} {enc : α → List SV} {dd : α} {l2 : List α}
    (hx : SrcOK P Γ F (.row (.slice none 0 0) E sz 0 (elOf enc dd []) :: L) sz xt x l2.length (elOf enc dd l2)) (hz : z.length = sz) (hz1 : z.all (·.oneCell') = true)
    (hb : l2.length ≤ maxLen ∧ l2.length * by' ≤ 140737488355328) (hlt : Nat.blt d Γ.nt = true) (k : ∀ v', v'.oneCell' = true → J P Γ ops Q ((d, .val v') :: F) (.row v' E sz l2.length (elOf enc dd l2) :: L) rest) :
    J P Γ ops Q F L (⟨some d, .call { callee := .builtin .append, args := #[.const (.slice none 0 0), x], argTypes := #[t, xt] }, ty, pos, aft, none⟩ :: rest) :=
  J.rowNil E sz (elOf enc dd []) (J.appendL (l := []) (s := .const (.slice none 0 0)) rfl hx hz hz1 (by simpa using hb) hlt k)

theorem WSt.rowNil {w : World} (E sz : Nat) (el : Nat → List SV) (h : WSt Γ L w) : WSt Γ (.row (.slice none 0 0) E sz 0 el :: L) w :=
  ⟨h.os, h.tape, h.output, h.size, h.keep, h.zlt, h.nodup, h.foot, fun o ho => by
    rcases List.mem_cons.1 ho with rfl | ho
    · exact .inl ⟨rfl, rfl⟩
    · exact h.holds o ho⟩
theorem St.rowNil {a : Act} {w : World} (E sz : Nat) (el : Nat → List SV) (h : St Γ F L a w) : St Γ F (.row (.slice none 0 0) E sz 0 el :: L) a w := ⟨h.ws.rowNil E sz el, h.nt, h.df, h.fr⟩
theorem W.rowNil {c : Code} (E sz : Nat) (el : Nat → List SV) (h : W P Γ Q F (.row (.slice none 0 0) E sz 0 el :: L) c) : W P Γ Q F L c := ⟨fun a w hst => h.go a w (hst.rowNil E sz el)⟩
theorem N.rowNil {K : Act → World → Prop} (E sz : Nat) (el : Nat → List SV) (h : N Γ K F (.row (.slice none 0 0) E sz 0 el :: L)) : N Γ K F L := ⟨fun a w hst => h.go a w (hst.rowNil E sz el)⟩
theorem JP.rowNil {S idx : List Nat} (E sz : Nat) (el : Nat → List SV) (h : JP P Γ ops Q S idx F (.row (.slice none 0 0) E sz 0 el :: L)) : JP P Γ ops Q S idx F L :=
  ⟨fun k listed a w hp hk => h.go k listed a w ⟨hp.sz, hp.lo, hp.hi, hp.cl, hp.ws.rowNil E sz el, hp.nt, hp.df, hp.fr⟩ hk⟩

/-- An append in a drawn region. -/
theorem JP.append {α : Type} {l : List Oper} {S idx : List Nat} {G : List (Nat × SV)} {d t xt E sz by' : Nat} {z : List Value} [ht : TSlice P t E] [hI : TInfo P E sz by' z] {s x : Operand} {v : Value} {enc : α → List SV} {dd : α} {m m2 : List α} (i : Nat) (ks S' idx' : List Nat) (hc : (okIdx l.toArray S idx && okStep l.toArray S idx i ks S' idx') = true)
    (hoi : l[i]? = some ⟨some d, .call { callee := .builtin .append, args := #[s, x], argTypes := #[t, xt] }, ty, pos, aft, g⟩) (hre : SegC P Γ l.toArray (.row v E sz m.length (elOf enc dd m) :: L) G (opsAt l idx) (Ag G idx.length))
    (hsv : ev (keep ks G) s = some (.val v)) (hx : SrcOK P Γ (keep ks G) (.row v E sz m.length (elOf enc dd m) :: L) sz xt x m2.length (elOf enc dd m2)) (hz : z.length = sz) (hz1 : z.all (·.oneCell') = true)
    (hb : m.length + m2.length ≤ maxLen ∧ (m.length + m2.length) * by' ≤ 140737488355328) (hlt : Nat.blt d Γ.nt = true)
    (k : ∀ v', v'.oneCell' = true → JP P Γ l.toArray Q S' idx' ((d, .val v') :: G) (.row v' E sz (m ++ m2).length (elOf enc dd (m ++ m2)) :: L)) : JP P Γ l.toArray Q S idx G (.row v E sz m.length (elOf enc dd m) :: L) :=
  JP.do1 i ks S' idx' hc hoi hre (OpS.appendRow hsv hx hz hz1 hb.1 hb.2 (el' := elOf enc dd (m ++ m2)) (fun i hi => elOf_append_left enc dd m m2 i hi) (fun i _ => elOf_append_right enc dd m m2 i)) hlt (by
    rintro r L' ⟨v', hv', rfl, rfl⟩
    have := k v' hv'
    rwa [List.length_append] at this)

/-- A call in a drawn region. -/
theorem JP.call [Gl P] [Globs P Γ] {l : List Oper} {S idx : List Nat} {G : List (Nat × SV)} {d f : Nat} [hT : TFunc P f] {xs : List Operand} {ts : Array TypeId} {args : List SV} {Lc Lr : List Own} {R : SV → List Own → Prop} (i : Nat) (ks S' idx' : List Nat) (hF : FnC P f args Lc R) (hL : L = Lc ++ Lr) (hc : (okIdx l.toArray S idx && okStep l.toArray S idx i ks S' idx') = true)
    (hoi : l[i]? = some ⟨some d, .call { callee := .value (.func f), args := xs.toArray, argTypes := ts }, ty, pos, aft, g⟩) (hre : SegC P Γ l.toArray L G (opsAt l idx) (Ag G idx.length)) (ha : Args (keep ks G) xs args) (hlt : Nat.blt d Γ.nt = true)
    (k : ∀ s Lc', R s Lc' → JP P Γ l.toArray Q S' idx' ((d, s) :: G) (Lc' ++ Lr)) : JP P Γ l.toArray Q S idx G L :=
  JP.do1 i ks S' idx' hc hoi hre (OpS.call hF hL ha) hlt (by rintro s L' ⟨Lc', hR, rfl⟩; exact k s Lc' hR)

/-- A part of a struct is written in a drawn region. -/
theorem JP.storeAg {l : List Oper} {S idx : List Nat} {G : List (Nat × SV)} {T b o n : Nat} [hT : TAg P T n] {x y : Operand} (i : Nat) (ks S' idx' : List Nat) (hc : (okIdx l.toArray S idx && okStep l.toArray S idx i ks S' idx') = true) (hoi : l[i]? = some ⟨none, .store T x y, ty, pos, aft, g⟩)
    (hre : SegC P Γ l.toArray L G (opsAt l idx) (Ag G idx.length)) (hx : ev (keep ks G) x = some (.val (.pointer (some ⟨b, o, none⟩)))) {ds : List SV} (hy : ev (keep ks G) y = some (.agg ds)) (hn : ds.length = n) (j : Nat) {T' : TypeId} {cs cs' : List SV} {L' : List Own}
    (hj : L[j]? = some (.obj b T' cs)) (ho : Nat.ble (o + n) cs.length = true) (hcs : cs.take o ++ ds ++ cs.drop (o + ds.length) = cs') (hL : L.set j (.obj b T' cs') = L') (k : JP P Γ l.toArray Q S' idx' G L') : JP P Γ l.toArray Q S idx G L :=
  JP.do0 i ks S' idx' hc hoi hre (OpS.storeAg hx hy hn j hj (Nat.le_of_ble_eq_true ho)) (by rintro sv L'' rfl; rw [hcs, hL]; exact k)

/-- The row that grows stands anywhere among what is owned. -/
theorem J.appendAt {α : Type} {d t xt E sz by' : Nat} {z : List Value} [ht : TSlice P t E] [hI : TInfo P E sz by' z] {s x : Operand} {v : Value} {enc : α → List SV} {dd : α} {l l2 : List α} (i : Nat)
    (hi : L[i]? = some (.row v E sz l.length (elOf enc dd l)))
    (hsv : ev (F := F) s = some (.val v)) (hx : SrcOK P Γ F (.row v E sz l.length (elOf enc dd l) :: L.eraseIdx i) sz xt x l2.length (elOf enc dd l2)) (hz : z.length = sz) (hz1 : z.all (·.oneCell') = true)
    (hb : l.length + l2.length ≤ maxLen ∧ (l.length + l2.length) * by' ≤ 140737488355328) (hlt : Nat.blt d Γ.nt = true) (k : ∀ v', v'.oneCell' = true → J P Γ ops Q ((d, .val v') :: F) (L.set i (.row v' E sz (l ++ l2).length (elOf enc dd (l ++ l2)))) rest) :
    J P Γ ops Q F L (⟨some d, .call { callee := .builtin .append, args := #[s, x], argTypes := #[t, xt] }, ty, pos, aft, none⟩ :: rest) :=
  J.perm (perm_erase hi) (J.appendL hsv hx hz hz1 hb hlt fun v' hv' => J.perm (perm_set hi) (k v' hv'))

/-- A row of one's own, let go wherever it stands. -/
theorem J.freezeAt {l : List Oper} (j i : Nat) {v : Value} {E sz n : Nat} {el : Nat → List SV} (hj : L[j]? = some (.row v E sz n el)) (hi : look F i = some (.val v)) (hmax : n ≤ maxLen) (h : J P Γ ops Q ((i, .sl sz n el) :: F) (L.eraseIdx j) l) : J P Γ ops Q F L l :=
  J.perm (perm_erase hj) (J.freeze i hi hmax h)
theorem W.freezeAt {c : Code} (j i : Nat) {v : Value} {E sz n : Nat} {el : Nat → List SV} (hj : L[j]? = some (.row v E sz n el)) (hi : look F i = some (.val v)) (hmax : n ≤ maxLen) (h : W P Γ Q ((i, .sl sz n el) :: F) (L.eraseIdx j) c) : W P Γ Q F L c :=
  W.perm (perm_erase hj) (W.freeze i hi hmax h)

theorem Sub.slOf {α : Type} {sz n : Nat} {el : Nat → List SV} {enc : α → List SV} {d : α} {l : List α} (hn : n = l.length) (h : ∀ i, i < n → el i = enc (l.getD i d)) : Sub (.sl sz n el) (.sl sz l.length (elOf enc d l)) := by
  subst hn; exact Sub.sl h
/-- The first members; those behind them. -/
theorem Pv.takeL {α : Type} {T E sz by' : Nat} {z : List Value} [h : TSlice P T E] [hI : TInfo P E sz by' z] {x j : Operand} {k : IntKind} {m : Int} {enc : α → List SV} {d : α} {l : List α} (c : Nat) (hx : ev F x = some (.sl sz l.length (elOf enc d l))) (hj : ev F j = some (.val (.int k m))) (hm : m = (c : Int)) (hc : c ≤ l.length) :
    Pv P Γ F L ⟨dst, .slice T x none (some j) none, ty, pos, aft, g⟩ (.sl sz (l.take c).length (elOf enc d (l.take c))) := by
  subst hm
  refine (Pv.slSh hx hj (by omega) (by omega)).sub (Sub.slOf (by rw [List.length_take, Int.toNat_natCast]; omega) fun i hi => ?_)
  simp only [Int.toNat_natCast] at hi
  simp only [elOf, List.getD_eq_getElem?_getD, List.getElem?_take, hi, if_true]
theorem Cx.takeL {α : Type} {T E sz by' : Nat} {z : List Value} [h : TSlice P T E] [hI : TInfo P E sz by' z] {x j : Operand} {k : IntKind} {m : Int} {enc : α → List SV} {d : α} {l : List α} (c : Nat) (hx : ev F x = some (.sl sz l.length (elOf enc d l))) (hj : ev F j = some (.val (.int k m))) (hm : m = (c : Int)) (hc : c ≤ l.length) {d0 : Nat} {K : List (Nat × SV) → Prop} (hlt : Nat.blt d0 Γ.nt = true) (hr : SegC P Γ ops L ((d0, (.sl sz (l.take c).length (elOf enc d (l.take c)))) :: F) rest K) : SegC P Γ ops L F (⟨some d0, .slice T x none (some j) none, ty, pos, aft, none⟩ :: rest) K :=
  SegC.q (Qs.pv (by apply Pv.takeL <;> assumption)) hlt hr
theorem Jx.takeL {α : Type} {T E sz by' : Nat} {z : List Value} [h : TSlice P T E] [hI : TInfo P E sz by' z] {x j : Operand} {k : IntKind} {m : Int} {enc : α → List SV} {d : α} {l : List α} (c : Nat) (hx : ev F x = some (.sl sz l.length (elOf enc d l))) (hj : ev F j = some (.val (.int k m))) (hm : m = (c : Int)) (hc : c ≤ l.length) {d0 : Nat} (hlt : Nat.blt d0 Γ.nt = true) (k : J P Γ ops Q ((d0, (.sl sz (l.take c).length (elOf enc d (l.take c)))) :: F) L rest) : J P Γ ops Q F L (⟨some d0, .slice T x none (some j) none, ty, pos, aft, none⟩ :: rest) :=
  J.pv (by apply Pv.takeL <;> assumption) hlt k

theorem Pv.dropL {α : Type} {T E sz by' : Nat} {z : List Value} [h : TSlice P T E] [hI : TInfo P E sz by' z] {x j : Operand} {k : IntKind} {m : Int} {enc : α → List SV} {d : α} {l : List α} (c : Nat) (hx : ev F x = some (.sl sz l.length (elOf enc d l))) (hj : ev F j = some (.val (.int k m))) (hm : m = (c : Int)) (hc : c ≤ l.length) :
    Pv P Γ F L ⟨dst, .slice T x (some j) none none, ty, pos, aft, g⟩ (.sl sz (l.drop c).length (elOf enc d (l.drop c))) := by
  subst hm
  refine (Pv.slSl hx hj (by omega) (by omega)).sub (Sub.slOf (by rw [List.length_drop, Int.toNat_natCast]) fun i hi => ?_)
  simp only [elOf, List.getD_eq_getElem?_getD, List.getElem?_drop, Int.toNat_natCast]
theorem Cx.dropL {α : Type} {T E sz by' : Nat} {z : List Value} [h : TSlice P T E] [hI : TInfo P E sz by' z] {x j : Operand} {k : IntKind} {m : Int} {enc : α → List SV} {d : α} {l : List α} (c : Nat) (hx : ev F x = some (.sl sz l.length (elOf enc d l))) (hj : ev F j = some (.val (.int k m))) (hm : m = (c : Int)) (hc : c ≤ l.length) {d0 : Nat} {K : List (Nat × SV) → Prop} (hlt : Nat.blt d0 Γ.nt = true) (hr : SegC P Γ ops L ((d0, (.sl sz (l.drop c).length (elOf enc d (l.drop c)))) :: F) rest K) : SegC P Γ ops L F (⟨some d0, .slice T x (some j) none none, ty, pos, aft, none⟩ :: rest) K :=
  SegC.q (Qs.pv (by apply Pv.dropL <;> assumption)) hlt hr
theorem Jx.dropL {α : Type} {T E sz by' : Nat} {z : List Value} [h : TSlice P T E] [hI : TInfo P E sz by' z] {x j : Operand} {k : IntKind} {m : Int} {enc : α → List SV} {d : α} {l : List α} (c : Nat) (hx : ev F x = some (.sl sz l.length (elOf enc d l))) (hj : ev F j = some (.val (.int k m))) (hm : m = (c : Int)) (hc : c ≤ l.length) {d0 : Nat} (hlt : Nat.blt d0 Γ.nt = true) (k : J P Γ ops Q ((d0, (.sl sz (l.drop c).length (elOf enc d (l.drop c)))) :: F) L rest) : J P Γ ops Q F L (⟨some d0, .slice T x (some j) none none, ty, pos, aft, none⟩ :: rest) :=
  J.pv (by apply Pv.dropL <;> assumption) hlt k

/-- How many there are in a row of one's own. -/
theorem Pv.lenRow {T E : Nat} [h : TSlice P T E] {x : Operand} {v : Value} {E' sz n : Nat} {el : Nat → List SV} (hx : ev F x = some (.val v)) (i : Nat) (hi : L[i]? = some (.row v E' sz n el)) :
    Pv P Γ F L ⟨dst, .call { callee := .builtin .len, args := #[x], argTypes := #[T] }, ty, pos, aft, g⟩ (int n) := fun ρ w hst => by
  have hv := hst.evv (x := x) (by simp [Op.operands, Call.operands]) hx
  rcases hst.ws.holds _ (mem_of_idx hi) with ⟨rfl, rfl⟩ | ⟨b, cap, cur, fz, rfl, _⟩
  · exact ⟨_, by simp [execOp, resolve, invoke, builtin, hv, Builtin.len_, run_underlying h.ok, goInt], .val _⟩
  · exact ⟨_, by simp [execOp, resolve, invoke, builtin, hv, Builtin.len_, run_underlying h.ok, goInt], .val _⟩
theorem Cx.lenRow {T E : Nat} [h : TSlice P T E] {x : Operand} {v : Value} {E' sz n : Nat} {el : Nat → List SV} (hx : ev F x = some (.val v)) (i : Nat) (hi : L[i]? = some (.row v E' sz n el)) {d0 : Nat} {K : List (Nat × SV) → Prop} (hlt : Nat.blt d0 Γ.nt = true) (hr : SegC P Γ ops L ((d0, (int n)) :: F) rest K) : SegC P Γ ops L F (⟨some d0, .call { callee := .builtin .len, args := #[x], argTypes := #[T] }, ty, pos, aft, none⟩ :: rest) K :=
  SegC.q (Qs.pv (by apply Pv.lenRow <;> assumption)) hlt hr
theorem Jx.lenRow {T E : Nat} [h : TSlice P T E] {x : Operand} {v : Value} {E' sz n : Nat} {el : Nat → List SV} (hx : ev F x = some (.val v)) (i : Nat) (hi : L[i]? = some (.row v E' sz n el)) {d0 : Nat} (hlt : Nat.blt d0 Γ.nt = true) (k : J P Γ ops Q ((d0, (int n)) :: F) L rest) : J P Γ ops Q F L (⟨some d0, .call { callee := .builtin .len, args := #[x], argTypes := #[T] }, ty, pos, aft, none⟩ :: rest) :=
  J.pv (by apply Pv.lenRow <;> assumption) hlt k

end
end Go.Sse
