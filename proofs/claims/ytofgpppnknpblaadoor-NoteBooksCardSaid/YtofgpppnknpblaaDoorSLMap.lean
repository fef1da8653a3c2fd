/- Maps whose keys are whole numbers. No condition. -/
import Derived.Test.YtofgpppnknpblaaDoorSLKit
import Derived.MapKept
set_option linter.unusedSimpArgs false
set_option linter.unusedVariables false
namespace Go.SL
open Go Go.RowKit Go.MapKept

/-- A map's type: z: what an element is at first. -/
class MapOf (P : Program) (t : TypeId) (z : outParam Value) : Prop where
  eq : ∃ kt e i, P.underlying t = some (.map kt e) ∧ P.underlying kt = some (.int .i64) ∧ P.info? e = some i ∧ i.zero = some z
theorem MapOf.of {P : Program} {t kt e : TypeId} {z : Value} (h1 : P.underlying t = some (.map kt e)) (h2 : P.underlying kt = some (.int .i64)) (h3 : (P.info? e).bind (·.zero) = some z) : MapOf P t z := ⟨by
  cases hi : P.info? e with
  | none => rw [hi] at h3; cases h3
  | some i => rw [hi] at h3; exact ⟨kt, e, i, h1, h2, hi, h3⟩⟩
abbrev Assoc := List (Int × Value)
def midx : Assoc → Int → Option (Nat × Value)
  | [], _ => none
  | (a, v) :: l, k => if k = a then some (0, v) else (midx l k).map fun p => (p.1 + 1, p.2)
def mget (m : Assoc) (k : Int) : Option Value := (midx m k).map (·.2)
def mset : Assoc → Int → Value → Assoc
  | [], k, v => [(k, v)]
  | (a, u) :: l, k, v => if k = a then (k, v) :: l else (a, u) :: mset l k v
def mdel : Assoc → Int → Assoc
  | [], _ => []
  | (a, u) :: l, k => if k = a then l else (a, u) :: mdel l k
def mkeys (m : Assoc) : List Int := m.map (·.1)
theorem mget_nil (k : Int) : mget [] k = none := rfl
theorem mget_cons (a : Int) (v : Value) (l : Assoc) (k : Int) : mget ((a, v) :: l) k = if k = a then some v else mget l k := by
  have e : midx ((a, v) :: l) k = if k = a then some (0, v) else (midx l k).map fun p => (p.1 + 1, p.2) := rfl
  unfold mget
  rw [e]
  split
  · rfl
  · cases midx l k <;> rfl
theorem mget_mset (m : Assoc) (k j : Int) (v : Value) : mget (mset m k v) j = if j = k then some v else mget m j := by
  induction m with
  | nil => simp only [mset, mget_cons, mget_nil]
  | cons p m ih =>
    obtain ⟨a, u⟩ := p
    unfold mset
    by_cases h : k = a
    · subst h
      rw [if_pos rfl, mget_cons, mget_cons]
      by_cases hj : j = k <;> simp [hj]
    · rw [if_neg h, mget_cons, mget_cons, ih]
      by_cases hj : j = a
      · subst hj
        have : ¬ j = k := fun e => h e.symm
        simp [this]
      · simp [hj]
theorem mget_of_mem {m : Assoc} {k : Int} : mget m k = none ↔ k ∉ mkeys m := by
  induction m with
  | nil => simp [mget_nil, mkeys]
  | cons p m ih =>
    obtain ⟨a, u⟩ := p
    rw [mget_cons]
    by_cases h : k = a
    · simp [h, mkeys]
    · simp only [if_neg h, ih, mkeys, List.map_cons, List.mem_cons, not_or]
      exact ⟨fun x => ⟨h, x⟩, fun x => x.2⟩
theorem mkeys_mset (m : Assoc) (k : Int) (v : Value) : mkeys (mset m k v) = if (mget m k).isSome then mkeys m else mkeys m ++ [k] := by
  induction m with
  | nil => simp [mset, mkeys, mget_nil]
  | cons p m ih =>
    obtain ⟨a, u⟩ := p
    unfold mset
    rw [mget_cons]
    by_cases h : k = a
    · simp [h, mkeys]
    · rw [if_neg h, if_neg h]
      have e : mkeys ((a, u) :: mset m k v) = a :: mkeys (mset m k v) := rfl
      rw [e, ih]
      split <;> rfl
theorem mkeys_mdel (m : Assoc) (k : Int) : mkeys (mdel m k) = (mkeys m).erase k := by
  induction m with
  | nil => rfl
  | cons p m ih =>
    obtain ⟨a, u⟩ := p
    unfold mdel
    by_cases h : k = a
    · subst h; simp [mkeys]
    · have e : mkeys ((a, u) :: m) = a :: mkeys m := rfl
      have e2 : mkeys ((a, u) :: mdel m k) = a :: mkeys (mdel m k) := rfl
      rw [if_neg h, e2, ih, e, List.erase_cons]
      have : ¬ (a == k) = true := by simpa using fun x => h x.symm
      rw [if_neg this]
theorem mget_mdel {m : Assoc} (hn : (mkeys m).Nodup) (k j : Int) : mget (mdel m k) j = if j = k then none else mget m j := by
  induction m with
  | nil => simp [mdel, mget_nil]
  | cons p m ih =>
    obtain ⟨a, u⟩ := p
    have hn' : a ∉ mkeys m ∧ (mkeys m).Nodup := by simpa [mkeys] using hn
    unfold mdel
    by_cases h : k = a
    · subst h
      rw [if_pos rfl, mget_cons]
      by_cases hj : j = k
      · subst hj; simp [mget_of_mem.2 hn'.1]
      · simp [hj]
    · rw [if_neg h, mget_cons, mget_cons, ih hn'.2]
      by_cases hj : j = a
      · subst hj
        have : ¬ j = k := fun e => h e.symm
        simp [this]
      · simp [hj]

abbrev eView (e : MapEntry) : Value × Value := (e.key, e.val)
abbrev mView (p : Int × Value) : Value × Value := (.int .i64 p.1, p.2)
def MRep (l : List MapEntry) (m : Assoc) : Prop := l.map eView = m.map mView
theorem MRep.nil : MRep [] [] := rfl
theorem MRep.len {l : List MapEntry} {m : Assoc} (h : MRep l m) : l.length = m.length := by have := congrArg List.length h; simpa using this
theorem MRep.cons_inv {e : MapEntry} {l : List MapEntry} {m : Assoc} (h : MRep (e :: l) m) : ∃ a m', m = (a, e.val) :: m' ∧ e.key = .int .i64 a ∧ MRep l m' := by
  cases m with
  | nil => simp [MRep] at h
  | cons p m =>
    obtain ⟨a, u⟩ := p
    simp only [MRep, List.map_cons, List.cons.injEq, eView, mView, Prod.mk.injEq] at h
    obtain ⟨⟨h1, h2⟩, h3⟩ := h
    exact ⟨a, m, by rw [h2], h1, h3⟩
theorem MRep.find {k : Int} : ∀ (l : List MapEntry) (m : Assoc) (i : Nat), MRep l m → Instr.findNow (.int .i64) (.int .i64 k) l i = some ((midx m k).map fun p => (i + p.1, p.2))
  | [], m, i, h => by
    have : m = [] := by have := h.len; simpa using this.symm
    subst this; rfl
  | e :: l, m, i, h => by
    obtain ⟨a, m', rfl, hk, h'⟩ := h.cons_inv
    have ih := MRep.find (k := k) l m' (i + 1) h'
    unfold midx
    by_cases hka : k = a
    · subst hka; simp [Instr.findNow, hk, Instr.sameNow]
    · have : (k == a) = false := by simpa using hka
      simp only [Instr.findNow, hk, Instr.sameNow, this, if_neg hka, if_true]
      rw [ih]
      cases midx m' k with
      | none => rfl
      | some p => simp; omega
theorem MRep.push {l : List MapEntry} {m : Assoc} {k : Int} {v : Value} {c : Nat} (h : MRep l m) (hn : midx m k = none) : MRep (l ++ [⟨.int .i64 k, v, c⟩]) (mset m k v) := by
  have : mset m k v = m ++ [(k, v)] := by
    clear h
    induction m with
    | nil => rfl
    | cons p m ih =>
      obtain ⟨a, u⟩ := p
      unfold midx at hn
      by_cases hka : k = a
      · rw [if_pos hka] at hn; cases hn
      · rw [if_neg hka] at hn
        unfold mset
        rw [if_neg hka, ih (by cases hm : midx m k with | none => rfl | some p => rw [hm] at hn; cases hn)]
        rfl
  rw [this]
  simp only [MRep, List.map_append, List.map_cons, List.map_nil] at h ⊢
  rw [h]
theorem MRep.modify {k : Int} {v : Value} : ∀ (l : List MapEntry) (m : Assoc) (j : Nat) (u : Value), MRep l m → midx m k = some (j, u) →
    MRep (l.modify j fun e => { e with key := .int .i64 k, val := v }) (mset m k v) ∧ ∃ e, l[j]? = some e ∧ e.key = .int .i64 k
  | [], m, j, u, h, hm => by
    have : m = [] := by have := h.len; simpa using this.symm
    subst this; cases hm
  | e :: l, m, j, u, h, hm => by
    obtain ⟨a, m', rfl, hk, h'⟩ := h.cons_inv
    unfold midx at hm
    unfold mset
    by_cases hka : k = a
    · subst hka
      rw [if_pos rfl] at hm
      cases hm
      rw [if_pos rfl]
      refine ⟨?_, e, rfl, hk⟩
      simp only [MRep, List.modify_zero_cons, List.map_cons, eView, mView] at h' ⊢
      rw [h']
    · rw [if_neg hka] at hm ⊢
      cases hx : midx m' k with
      | none => rw [hx] at hm; cases hm
      | some p =>
        obtain ⟨j', u'⟩ := p
        rw [hx] at hm
        cases hm
        obtain ⟨h1, e', h2, h3⟩ := MRep.modify (v := v) l m' j' _ h' hx
        refine ⟨?_, e', by simpa using h2, h3⟩
        simp only [MRep, List.modify_succ_cons, List.map_cons, eView, mView] at h1 ⊢
        rw [h1, hk]
theorem MRep.val {k : Int} : ∀ (l : List MapEntry) (m : Assoc) (j : Nat) (u : Value) (e : MapEntry), MRep l m → midx m k = some (j, u) → l[j]? = some e → e.val = u
  | [], m, j, u, e, h, hm, he => by simp at he
  | e0 :: l, m, j, u, e, h, hm, he => by
    obtain ⟨a, m', rfl, hk, h'⟩ := h.cons_inv
    unfold midx at hm
    by_cases hka : k = a
    · rw [if_pos hka] at hm
      cases hm
      simp at he; rw [he]
    · rw [if_neg hka] at hm
      cases hx : midx m' k with
      | none => rw [hx] at hm; cases hm
      | some p =>
        obtain ⟨j', u'⟩ := p
        rw [hx] at hm
        cases hm
        exact MRep.val l m' j' _ e h' hx (by simpa using he)
theorem MRep.erase {k : Int} : ∀ (l : List MapEntry) (m : Assoc) (j : Nat) (u : Value), MRep l m → midx m k = some (j, u) → MRep (l.eraseIdx j) (mdel m k) ∧ j < l.length
  | [], m, j, u, h, hm => by
    have : m = [] := by have := h.len; simpa using this.symm
    subst this; cases hm
  | e :: l, m, j, u, h, hm => by
    obtain ⟨a, m', rfl, hk, h'⟩ := h.cons_inv
    unfold midx at hm
    unfold mdel
    by_cases hka : k = a
    · subst hka
      rw [if_pos rfl] at hm
      cases hm
      rw [if_pos rfl]
      exact ⟨h', by simp⟩
    · rw [if_neg hka] at hm ⊢
      cases hx : midx m' k with
      | none => rw [hx] at hm; cases hm
      | some p =>
        obtain ⟨j', u'⟩ := p
        rw [hx] at hm
        cases hm
        obtain ⟨h1, h2⟩ := MRep.erase l m' j' _ h' hx
        refine ⟨?_, by simpa using h2⟩
        simp only [MRep, List.eraseIdx_cons_succ, List.map_cons, eView, mView] at h1 ⊢
        rw [h1, hk]
theorem mdel_none {m : Assoc} {k : Int} (h : midx m k = none) : mdel m k = m := by
  induction m with
  | nil => rfl
  | cons p m ih =>
    obtain ⟨a, u⟩ := p
    unfold midx at h
    by_cases hka : k = a
    · rw [if_pos hka] at h; cases h
    · rw [if_neg hka] at h
      unfold mdel
      rw [if_neg hka, ih (by cases hm : midx m k with | none => rfl | some p => rw [hm] at h; cases h)]

/-- Each entry has a stamp of its own. -/
def Stamp (l : List MapEntry) (c : Nat) : Prop := (∀ e ∈ l, e.born < c) ∧ (l.map (·.born)).Nodup
theorem Stamp.nil (c : Nat) : Stamp [] c := ⟨by simp, by simp⟩
theorem Stamp.push {l : List MapEntry} {c : Nat} {k v : Value} (h : Stamp l c) : Stamp (l ++ [⟨k, v, c⟩]) (c + 1) := by
  refine ⟨fun e he => ?_, ?_⟩
  · rcases List.mem_append.1 he with h' | h'
    · have := h.1 e h'; omega
    · simp at h'; subst h'; simp
  · rw [List.map_append, List.nodup_append]
    refine ⟨h.2, by simp, fun a ha b hb e => ?_⟩
    obtain ⟨x, hx, rfl⟩ := List.mem_map.1 ha
    simp at hb
    have := h.1 x hx
    omega
theorem Stamp.same {l l' : List MapEntry} {c : Nat} (h : Stamp l c) (e : l'.map (·.born) = l.map (·.born)) : Stamp l' c := by
  refine ⟨fun x hx => ?_, e ▸ h.2⟩
  have : x.born ∈ l.map (·.born) := e ▸ List.mem_map.2 ⟨x, hx, rfl⟩
  obtain ⟨y, hy, hyx⟩ := List.mem_map.1 this
  rw [← hyx]; exact h.1 y hy
theorem born_modify (f : MapEntry → MapEntry) (hf : ∀ e, (f e).born = e.born) : ∀ (l : List MapEntry) (j : Nat), (l.modify j f).map (·.born) = l.map (·.born)
  | [], j => by cases j <;> rfl
  | a :: l, 0 => by simp [hf]
  | a :: l, j + 1 => by simp [born_modify f hf l j]
theorem Stamp.sub {l l' : List MapEntry} {c : Nat} (h : Stamp l c) (e : l'.Sublist l) : Stamp l' c := ⟨fun x hx => h.1 x (e.subset hx), h.2.sublist (e.map _)⟩
theorem findIdx_stamp {l : List MapEntry} (hn : (l.map (·.born)).Nodup) {j : Nat} {e0 : MapEntry} (h : l[j]? = some e0) : l.findIdx? (fun e => ((e.born : Nat) : Int) == ((e0.born : Nat) : Int)) = some j := by
  induction l generalizing j with
  | nil => simp at h
  | cons a r ih =>
    simp only [List.map_cons, List.nodup_cons] at hn
    cases j with
    | zero =>
      simp only [List.getElem?_cons_zero, Option.some.injEq] at h
      subst h
      simp [List.findIdx?_cons]
    | succ j =>
      simp only [List.getElem?_cons_succ] at h
      have hne : a.born ≠ e0.born := fun e1 => hn.1 (List.mem_map.2 ⟨e0, List.mem_of_getElem? h, e1.symm⟩)
      have hb : (((a.born : Nat) : Int) == ((e0.born : Nat) : Int)) = false := by
        simp only [beq_eq_false_iff_ne, ne_eq, Int.natCast_inj]
        exact hne
      rw [List.findIdx?_cons, hb]
      simp [ih hn.2 h]
theorem mset_mset (m : Assoc) (k : Int) (u v : Value) : mset (mset m k u) k v = mset m k v := by
  induction m with
  | nil => simp [mset]
  | cons p m ih =>
    obtain ⟨a, x⟩ := p
    by_cases h : k = a
    · subst h; simp [mset]
    · have e : ∀ (l : Assoc) (y : Value), mset ((a, x) :: l) k y = (a, x) :: mset l k y := fun l y => by
        show (if k = a then _ else _) = _
        rw [if_neg h]
      rw [e, e, e, ih]
/-- A map in memory. -/
def MapAt (b : Nat) (m : Assoc) : HProp := ex fun x : Array MapEntry × Nat => fact (MRep x.1.toList m ∧ Stamp x.1.toList x.2) (SL.obj b (.map x.1 x.2))
/-- A map, and an entry's stamp. -/
def MapHold (b : Nat) (q : Assoc × Int × Nat) : HProp := ex fun x : Array MapEntry × Nat => fact ((MRep x.1.toList q.1 ∧ Stamp x.1.toList x.2) ∧ ∃ j e, x.1.toList[j]? = some e ∧ e.born = q.2.2 ∧ ∃ u, midx q.1 q.2.1 = some (j, u)) (SL.obj b (.map x.1 x.2))
theorem Holds.map {B : World} {b : Nat} {m : Assoc} {F : HProp} {w : World} (h : Holds B (MapAt b m + F) w) : ∃ es c, MRep es.toList m ∧ w.heap[b]? = some (.map es c) ∧ Holds B (SL.obj b (.map es c) + F) w ∧ Stamp es.toList c := by
  unfold MapAt at h
  rw [ex_add] at h
  obtain ⟨⟨es, c⟩, h⟩ := h.ex_out
  rw [fact_add] at h
  obtain ⟨h1, h2⟩ := h.fact_out
  exact ⟨es, c, h1.1, h2.obj.1, h2, h1.2⟩
theorem Holds.mapIn {B : World} {b : Nat} {m : Assoc} {F : HProp} {w : World} {es : Array MapEntry} {c : Nat} (hr : MRep es.toList m) (hs : Stamp es.toList c) (h : Holds B (SL.obj b (.map es c) + F) w) : Holds B (MapAt b m + F) w := by
  unfold MapAt
  rw [ex_add]
  refine Holds.ex_in (es, c) ?_
  rw [fact_add]
  exact Holds.fact_in ⟨hr, hs⟩ h
theorem Holds.mapUpd {B : World} {b : Nat} {m m' : Assoc} {F : HProp} {w : World} {es es' : Array MapEntry} {c c' : Nat} (h : Holds B (SL.obj b (.map es c) + F) w) (hr : MRep es'.toList m') (hs : Stamp es'.toList c') :
    Holds B (MapAt b m' + F) { w with heap := w.heap.setIfInBounds b (.map es' c') } := by
  have hb := h.obj.1
  exact Holds.mapIn hr hs (h.upd (o' := .map es' c') rfl rfl rfl (by simp) (heap_set hb).1 fun k hk => (heap_set hb).2 k hk)

section
variable {ro : Option Nat} {P : Program} {B : World} {n : Nat} {ops : Array Oper} {rest : List Oper} {fr : Fr} {H F : HProp} {Q : Post}
variable {d : Nat} {ty : TypeId} {pos : String} {after : Array Edge}
theorem s_makeMap {t : TypeId} (hd : Nat.blt d n = true) (k : ∀ b, WPL ro P B n ops rest (fr.put d (.map (some b))) (MapAt b [] + H) Q) :
    WPL ro P B n ops (⟨some d, .makeMap t none, ty, pos, after, none⟩ :: rest) fr H Q := step_val hd fun w hw => by
  refine ⟨.map (some w.heap.size), w.alloc (.map #[] 0), MapAt w.heap.size [] + H, ?_, Holds.mapIn MRep.nil (Stamp.nil _) (hw.alloc _), k _⟩
  simp [execOp, Instr.makeMap, Result.andThen]
theorem s_mget {t : TypeId} {z v : Value} {b : Nat} {m : Assoc} {x y : Operand} {k : Int} [i : MapOf P t z] [h : HasAt MapAt H b m F] (hx : ev fr x = .map (some b)) (hy : ev fr y = .int .i64 k) (hv : (mget m k).getD z = v) (hd : Nat.blt d n = true)
    (k' : WPL ro P B n ops rest (fr.put d v) H Q) : WPL ro P B n ops (⟨some d, .lookup t x y false, ty, pos, after, none⟩ :: rest) fr H Q := step_look hd (fun w hw => by
  rw [h.eq] at hw
  obtain ⟨es, c, hr, hb, _⟩ := hw.map
  obtain ⟨kt, e, inf, hu, hk, hi, hz⟩ := i.eq
  subst hv
  have hf := run_findKey (P := P) (w := w) hk (MRep.find (k := k) es.toList m 0 hr)
  have hck := run_checkKey (P := P) (w := w) (k := .int .i64 k) hk rfl es.isEmpty 9999
  have e1 : execOp (ev fr) ⟨some d, .lookup t x y false, ty, pos, after, none⟩ = (do Pure.pure (Next.value (← Instr.lookup t (ev fr x) (ev fr y) false))) := rfl
  rw [e1, hx, hy]
  simp [Instr.lookup, run_underlying hu, MapKept.run_getObj_map hb, hck, hf, Result.andThen, mget]
  cases midx m k <;> simp [zeroValue, typeInfo, hi, hz]) k'
theorem s_mget2 {t : TypeId} {z v : Value} {b : Nat} {m : Assoc} {x y : Operand} {k : Int} {bo : Bool} [i : MapOf P t z] [h : HasAt MapAt H b m F] (hx : ev fr x = .map (some b)) (hy : ev fr y = .int .i64 k) (hv : (mget m k).getD z = v) (hbo : (mget m k).isSome = bo) (hd : Nat.blt d n = true)
    (k' : WPL ro P B n ops rest (fr.put d (.tuple #[v, .bool bo])) H Q) : WPL ro P B n ops (⟨some d, .lookup t x y true, ty, pos, after, none⟩ :: rest) fr H Q := step_look hd (fun w hw => by
  rw [h.eq] at hw
  obtain ⟨es, c, hr, hb, _⟩ := hw.map
  obtain ⟨kt, e, inf, hu, hk, hi, hz⟩ := i.eq
  subst hv hbo
  have hf := run_findKey (P := P) (w := w) hk (MRep.find (k := k) es.toList m 0 hr)
  have hck := run_checkKey (P := P) (w := w) (k := .int .i64 k) hk rfl es.isEmpty 9999
  have e1 : execOp (ev fr) ⟨some d, .lookup t x y true, ty, pos, after, none⟩ = (do Pure.pure (Next.value (← Instr.lookup t (ev fr x) (ev fr y) true))) := rfl
  rw [e1, hx, hy]
  simp [Instr.lookup, run_underlying hu, MapKept.run_getObj_map hb, hck, hf, Result.andThen, mget]
  cases midx m k <;> simp [zeroValue, typeInfo, hi, hz]) k'
theorem s_mgetN {t : TypeId} {z : Value} {x y : Operand} {k : Int} [i : MapOf P t z] (hx : ev fr x = .map none) (hy : ev fr y = .int .i64 k) (hd : Nat.blt d n = true)
    (k' : WPL ro P B n ops rest (fr.put d z) H Q) : WPL ro P B n ops (⟨some d, .lookup t x y false, ty, pos, after, none⟩ :: rest) fr H Q := step_look hd (fun w hw => by
  obtain ⟨kt, e, inf, hu, hk, hi, hz⟩ := i.eq
  have hf := run_findKey (P := P) (w := w) (l := []) (k := .int .i64 k) hk rfl
  have hck := run_checkKey (P := P) (w := w) (k := .int .i64 k) hk rfl true 9999
  have e1 : execOp (ev fr) ⟨some d, .lookup t x y false, ty, pos, after, none⟩ = (do Pure.pure (Next.value (← Instr.lookup t (ev fr x) (ev fr y) false))) := rfl
  rw [e1, hx, hy]
  simp [Instr.lookup, run_underlying hu, hck, hf, Result.andThen, zeroValue, typeInfo, hi, hz]) k'
theorem s_mgetN2 {t : TypeId} {z : Value} {x y : Operand} {k : Int} [i : MapOf P t z] (hx : ev fr x = .map none) (hy : ev fr y = .int .i64 k) (hd : Nat.blt d n = true)
    (k' : WPL ro P B n ops rest (fr.put d (.tuple #[z, .bool false])) H Q) : WPL ro P B n ops (⟨some d, .lookup t x y true, ty, pos, after, none⟩ :: rest) fr H Q := step_look hd (fun w hw => by
  obtain ⟨kt, e, inf, hu, hk, hi, hz⟩ := i.eq
  have hf := run_findKey (P := P) (w := w) (l := []) (k := .int .i64 k) hk rfl
  have hck := run_checkKey (P := P) (w := w) (k := .int .i64 k) hk rfl true 9999
  have e1 : execOp (ev fr) ⟨some d, .lookup t x y true, ty, pos, after, none⟩ = (do Pure.pure (Next.value (← Instr.lookup t (ev fr x) (ev fr y) true))) := rfl
  rw [e1, hx, hy]
  simp [Instr.lookup, run_underlying hu, hck, hf, Result.andThen, zeroValue, typeInfo, hi, hz]) k'
theorem s_mset {t : TypeId} {z v : Value} {b : Nat} {m : Assoc} {x y u : Operand} {k : Int} [i : MapOf P t z] [h : HasAt MapAt H b m F] (hx : ev fr x = .map (some b)) (hy : ev fr y = .int .i64 k) (hu' : ev fr u = v)
    (k' : WPL ro P B n ops rest fr (MapAt b (mset m k v) + F) Q) : WPL ro P B n ops (⟨none, .mapUpdate t x y u, ty, pos, after, none⟩ :: rest) fr H Q := step_act fun w hw => by
  rw [h.eq] at hw
  obtain ⟨es, c, hr, hb, ho, hs⟩ := hw.map
  obtain ⟨kt, e, inf, hu, hk, hi, hz⟩ := i.eq
  subst hu'
  have hf := run_findKey (P := P) (w := w) hk (MRep.find (k := k) es.toList m 0 hr)
  have hck := run_checkKey (P := P) (w := w) (k := .int .i64 k) hk rfl false 9999
  have e1 : execOp (ev fr) ⟨none, .mapUpdate t x y u, ty, pos, after, none⟩ = (do Instr.mapUpdate t (ev fr x) (ev fr y) (ev fr u); Pure.pure Next.skip) := rfl
  rw [e1, hx, hy]
  cases hm : midx m k with
  | none =>
    rw [hm] at hf
    refine ⟨_, _, ?_, ho.mapUpd (m := m) (es' := es.push ⟨.int .i64 k, ev fr u, c⟩) (c' := c + 1) (m' := mset m k (ev fr u)) ?_ ?_, k'⟩
    · simp [Instr.mapUpdate, run_underlying hu, MapKept.run_getObj_map hb, hck, hf, run_setObj_map _ hb, Result.andThen]
    · rw [Array.toList_push]; exact hr.push hm
    · rw [Array.toList_push]; exact hs.push
  | some p =>
    obtain ⟨j, u'⟩ := p
    rw [hm] at hf
    obtain ⟨h1, e', h2, h3⟩ := MRep.modify (v := ev fr u) es.toList m j u' hr hm
    have h2' : es[j]? = some e' := by simpa using h2
    have hst := run_keyThatStays (P := P) (w := w) (d := .int .i64) (k := .int .i64 k) rfl
    refine ⟨_, _, ?_, ho.mapUpd (m := m) (es' := es.modify j fun e => { e with key := .int .i64 k, val := ev fr u }) (c' := c) (m' := mset m k (ev fr u)) ?_ ?_, k'⟩
    · simp [Instr.mapUpdate, run_underlying hu, MapKept.run_getObj_map hb, hck, hf, h2', h3, hst, run_setObj_map _ hb, Result.andThen]
    · rw [Array.toList_modify]; exact h1
    · rw [Array.toList_modify]; exact hs.same (born_modify (fun e => { e with key := .int .i64 k, val := ev fr u }) (fun _ => rfl) _ _)
theorem s_mdel {t t2 : TypeId} {z : Value} {b : Nat} {m : Assoc} {x y : Operand} {k : Int} [i : MapOf P t z] [h : HasAt MapAt H b m F] (hx : ev fr x = .map (some b)) (hy : ev fr y = .int .i64 k) (hd : Nat.blt d n = true)
    (k' : WPL ro P B n ops rest (fr.put d (.tuple #[])) (MapAt b (mdel m k) + F) Q) : WPL ro P B n ops (⟨some d, .call ⟨.builtin .delete, #[x, y], #[t, t2]⟩, ty, pos, after, none⟩ :: rest) fr H Q := step_val hd fun w hw => by
  rw [h.eq] at hw
  obtain ⟨es, c, hr, hb, ho, hs⟩ := hw.map
  obtain ⟨kt, e, inf, hu, hk, hi, hz⟩ := i.eq
  have hf := run_findKey (P := P) (w := w) hk (MRep.find (k := k) es.toList m 0 hr)
  have hck := run_checkKey (P := P) (w := w) (k := .int .i64 k) hk rfl es.isEmpty 9999
  cases hm : midx m k with
  | none =>
    rw [hm] at hf
    refine ⟨.tuple #[], _, _, ?_, ho.mapUpd (m := m) (es' := es) (c' := c) (m' := mdel m k) ?_ ?_, k'⟩
    · simp [execOp, resolve, invoke, builtin, hx, hy, Builtin.delete_, run_underlying hu, MapKept.run_getObj_map hb, hck, hf, run_setObj_map _ hb, Result.andThen]
    · rw [mdel_none hm]; exact hr
    · exact hs
  | some p =>
    obtain ⟨j, u'⟩ := p
    rw [hm] at hf
    obtain ⟨h1, h2⟩ := MRep.erase es.toList m j u' hr hm
    refine ⟨.tuple #[], _, _, ?_, ho.mapUpd (m := m) (es' := es.eraseIdxIfInBounds j) (c' := c) (m' := mdel m k) ?_ ?_, k'⟩
    · simp [execOp, resolve, invoke, builtin, hx, hy, Builtin.delete_, run_underlying hu, MapKept.run_getObj_map hb, hck, hf, run_setObj_map _ hb, Result.andThen]
    · have hj : j < es.size := by simpa using h2
      unfold Array.eraseIdxIfInBounds
      rw [dif_pos hj, Array.toList_eraseIdx]
      exact h1
    · have hj : j < es.size := by simpa using h2
      unfold Array.eraseIdxIfInBounds
      rw [dif_pos hj, Array.toList_eraseIdx]
      exact hs.sub (List.eraseIdx_sublist _ _)
theorem s_mlen {t : TypeId} {z : Value} {b : Nat} {m : Assoc} {x : Operand} [i : MapOf P t z] [h : HasAt MapAt H b m F] (hx : ev fr x = .map (some b)) (hd : Nat.blt d n = true)
    (k' : WPL ro P B n ops rest (fr.put d (.int .i64 (m.length : Int))) H Q) : WPL ro P B n ops (⟨some d, .call ⟨.builtin .len, #[x], #[t]⟩, ty, pos, after, none⟩ :: rest) fr H Q := step_look hd (fun w hw => by
  rw [h.eq] at hw
  obtain ⟨es, c, hr, hb, _⟩ := hw.map
  obtain ⟨kt, e, inf, hu, hk, hi, hz⟩ := i.eq
  have hl := hr.len
  simp at hl
  simp [execOp, resolve, invoke, builtin, hx, Builtin.len_, run_underlying hu, MapKept.run_getObj_map hb, goInt, hl, Result.andThen]) k'
theorem s_mlenN {t : TypeId} {z : Value} {x : Operand} [i : MapOf P t z] (hx : ev fr x = .map none) (hd : Nat.blt d n = true)
    (k' : WPL ro P B n ops rest (fr.put d (.int .i64 0)) H Q) : WPL ro P B n ops (⟨some d, .call ⟨.builtin .len, #[x], #[t]⟩, ty, pos, after, none⟩ :: rest) fr H Q := step_look hd (fun w hw => by
  obtain ⟨kt, e, inf, hu, hk, hi, hz⟩ := i.eq
  simp [execOp, resolve, invoke, builtin, hx, Builtin.len_, run_underlying hu, goInt, Result.andThen]) k'
/-- An entry is found, or laid. -/
theorem s_mentry {t : TypeId} {z v : Value} {b : Nat} {m : Assoc} {x y : Operand} {k : Int} [i : MapOf P t z] [h : HasAt MapAt H b m F] (hx : ev fr x = .map (some b)) (hy : ev fr y = .int .i64 k) (hv : (mget m k).getD z = v) (hd : Nat.blt d n = true)
    (k' : ∀ st : Nat, WPL ro P B n ops rest (fr.put d (.tuple #[v, .int .i64 st])) (MapHold b (mset m k v, k, st) + F) Q) : WPL ro P B n ops (⟨some d, .mapEntry t x y, ty, pos, after, none⟩ :: rest) fr H Q := step_val hd fun w hw => by
  rw [h.eq] at hw
  obtain ⟨es, c, hr, hb, ho, hs⟩ := hw.map
  obtain ⟨kt, e, inf, hu, hk, hi, hz⟩ := i.eq
  subst hv
  have hf := run_findKey (P := P) (w := w) hk (MRep.find (k := k) es.toList m 0 hr)
  have hck := run_checkKey (P := P) (w := w) (k := .int .i64 k) hk rfl false 9999
  have e1 : execOp (ev fr) ⟨some d, .mapEntry t x y, ty, pos, after, none⟩ = (do Pure.pure (Next.value (← Instr.mapEntry t (ev fr x) (ev fr y)))) := rfl
  have hold : ∀ (es' : Array MapEntry) (c' st : Nat) (m' : Assoc), MRep es'.toList m' → Stamp es'.toList c' → (∃ j e, es'.toList[j]? = some e ∧ e.born = st ∧ ∃ u, midx m' k = some (j, u)) → Holds B (MapHold b (m', k, st) + F) { w with heap := w.heap.setIfInBounds b (.map es' c') } := by
    intro es' c' st m' h1 h2 h3
    unfold MapHold
    rw [ex_add]
    refine Holds.ex_in (es', c') ?_
    rw [fact_add]
    exact Holds.fact_in ⟨⟨h1, h2⟩, h3⟩ (ho.upd (o' := .map es' c') rfl rfl rfl (by simp) (heap_set hb).1 fun k hk => (heap_set hb).2 k hk)
  have hself : ∀ (m : Assoc) (k : Int) (v : Value) (j : Nat), midx m k = some (j, v) → ∃ u, midx (mset m k v) k = some (j, u) := by
    intro m k v
    induction m with
    | nil => intro j hj; cases hj
    | cons p m ih =>
      obtain ⟨a, x⟩ := p
      intro j hj
      unfold midx at hj
      unfold mset
      by_cases hka : k = a
      · rw [if_pos hka] at hj ⊢; cases hj
        unfold midx; rw [if_pos rfl]; exact ⟨_, rfl⟩
      · rw [if_neg hka] at hj ⊢
        cases hx : midx m k with
        | none => rw [hx] at hj; cases hj
        | some p =>
          obtain ⟨j', u'⟩ := p
          rw [hx] at hj
          cases hj
          obtain ⟨u, hu⟩ := ih j' hx
          unfold midx
          rw [if_neg hka, hu]
          exact ⟨_, rfl⟩
  have hnew : ∀ (m : Assoc) (k : Int) (v : Value), midx m k = none → midx (mset m k v) k = some (m.length, v) := by
    intro m k v
    induction m with
    | nil => intro _; simp [mset, midx]
    | cons p m ih =>
      obtain ⟨a, x⟩ := p
      intro hj
      unfold midx at hj
      unfold mset
      by_cases hka : k = a
      · rw [if_pos hka] at hj; cases hj
      · rw [if_neg hka] at hj ⊢
        unfold midx
        rw [if_neg hka, ih (by cases hx : midx m k with | none => rfl | some p => rw [hx] at hj; cases hj)]
        rfl
  rw [e1, hx, hy]
  cases hm : midx m k with
  | none =>
    rw [hm] at hf
    refine ⟨.tuple #[z, .int .i64 (c : Int)], _, _, ?_, hold (es.push ⟨.int .i64 k, z, c⟩) (c + 1) c (mset m k z) ?_ ?_ ?_, ?_⟩
    · simp [Instr.mapEntry, run_underlying hu, MapKept.run_getObj_map hb, hck, hf, run_setObj_map _ hb, Result.andThen, zeroValue, typeInfo, hi, hz, goInt]
    · rw [Array.toList_push]; exact hr.push hm
    · rw [Array.toList_push]; exact hs.push
    · refine ⟨es.toList.length, ⟨.int .i64 k, z, c⟩, by simp, rfl, z, ?_⟩
      rw [hnew m k z hm, hr.len]
    · have := k' c
      simpa [mget, hm] using this
  | some p =>
    obtain ⟨j, u'⟩ := p
    rw [hm] at hf
    obtain ⟨h1, e', h2, h3⟩ := MRep.modify (v := u') es.toList m j u' hr hm
    have h2' : es[j]? = some e' := by simpa using h2
    have hst := run_keyThatStays (P := P) (w := w) (d := .int .i64) (k := .int .i64 k) rfl
    refine ⟨.tuple #[u', .int .i64 (e'.born : Int)], _, _, ?_, hold (es.modify j fun e => { e with key := .int .i64 k }) c e'.born (mset m k u') ?_ ?_ ?_, ?_⟩
    · simp [Instr.mapEntry, run_underlying hu, MapKept.run_getObj_map hb, hck, hf, h2', h3, hst, run_setObj_map _ hb, Result.andThen, goInt]
    · rw [Array.toList_modify]
      have hv : e'.val = u' := by
        have := (MRep.find (k := k) es.toList m 0 hr)
        have hmm := hr
        clear hf
        exact MRep.val es.toList m j u' e' hr hm h2
      have : (es.toList.modify j fun e => { e with key := .int .i64 k }) = es.toList.modify j fun e => { e with key := .int .i64 k, val := u' } := by
        apply List.ext_getElem?
        intro i
        simp only [List.getElem?_modify]
        by_cases hij : j = i
        · subst hij; simp [h2, hv]
        · simp [hij]
      rw [this]; exact h1
    · rw [Array.toList_modify]; exact hs.same (born_modify (fun e => { e with key := .int .i64 k }) (fun _ => rfl) _ _)
    · obtain ⟨u, hu2⟩ := hself m k u' j hm
      exact ⟨j, { e' with key := .int .i64 k }, by rw [Array.toList_modify]; simp [h2, List.getElem?_modify], rfl, u, hu2⟩
    · have := k' e'.born
      simpa [mget, hm] using this
theorem s_mestore {t : TypeId} {v : Value} {b : Nat} {m : Assoc} {x y u : Operand} {k : Int} {st : Nat} [h : HasAt MapHold H b (m, k, st) F] (hx : ev fr x = .map (some b)) (hy : ev fr y = .int .i64 st) (hu' : ev fr u = v)
    (k' : WPL ro P B n ops rest fr (MapAt b (mset m k v) + F) Q) : WPL ro P B n ops (⟨none, .entryStore t x y u, ty, pos, after, none⟩ :: rest) fr H Q := step_act fun w hw => by
  rw [h.eq] at hw
  unfold MapHold at hw
  rw [ex_add] at hw
  obtain ⟨⟨es, c⟩, hw⟩ := hw.ex_out
  rw [fact_add] at hw
  obtain ⟨⟨⟨hr, hs⟩, j, e', h2, h3, u', hm⟩, ho⟩ := hw.fact_out
  have hb := ho.obj.1
  subst hu' h3
  have e1 : execOp (ev fr) ⟨none, .entryStore t x y u, ty, pos, after, none⟩ = (do Instr.entryStore t (ev fr x) (ev fr y) (ev fr u); Pure.pure Next.skip) := rfl
  obtain ⟨h1, e2, h4, h5⟩ := MRep.modify (v := ev fr u) es.toList m j u' hr hm
  have ee : e2 = e' := by simp only at h2; rw [h2] at h4; exact (Option.some.inj h4).symm
  subst ee
  have hidx : es.findIdx? (fun e => ((e.born : Nat) : Int) == ((e2.born : Nat) : Int)) = some j := by
    have : es.findIdx? (fun e => ((e.born : Nat) : Int) == ((e2.born : Nat) : Int)) = es.toList.findIdx? (fun e => ((e.born : Nat) : Int) == ((e2.born : Nat) : Int)) := by cases es; simp
    rw [this]
    exact findIdx_stamp hs.2 h2
  rw [e1, hx, hy]
  refine ⟨_, _, ?_, ho.mapUpd (m := m) (es' := es.modify j fun e => { e with val := ev fr u }) (c' := c) (m' := mset m k (ev fr u)) ?_ ?_, k'⟩
  · simp [Instr.entryStore, MapKept.run_getObj_map hb, asInt, asIntOf, hidx, run_setObj_map _ hb, Result.andThen]
  · rw [Array.toList_modify]
    have : (es.toList.modify j fun e => { e with val := ev fr u }) = es.toList.modify j fun e => { e with key := .int .i64 k, val := ev fr u } := by
      apply List.ext_getElem?
      intro i
      simp only [List.getElem?_modify]
      by_cases hij : j = i
      · subst hij; simp only at h2; simp [h2, ← h5]
      · simp [hij]
    rw [this]; exact h1
  · rw [Array.toList_modify]; exact hs.same (born_modify (fun e => { e with val := ev fr u }) (fun _ => rfl) _ _)
end
end Go.SL
