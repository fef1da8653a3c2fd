/- Heaplets and assertions over them: a small separation logic over the model's worlds. No condition. -/
import Derived.WalkKit
set_option linter.unusedSimpArgs false
set_option linter.unusedVariables false
namespace Go.SL
open Go Go.RowKit

/-- A part of memory: what is one's own (false), and what nobody writes to any more (true). -/
abbrev Hp := Nat → Option (Bool × Obj)
def Hp.disj (a b : Hp) : Prop := ∀ k, a k = none ∨ b k = none ∨ ∃ o, a k = some (true, o) ∧ b k = some (true, o)
def Hp.join (a b : Hp) : Hp := fun k => (a k).or (b k)
def Hp.none : Hp := fun _ => Option.none
/-- A part of it, where what is one's own may be given up. -/
def Hp.le (a b : Hp) : Prop := ∀ k x, a k = some x → ∃ y, b k = some y ∧ y.2 = x.2 ∧ (y.1 = true → x.1 = true)

theorem Hp.disj_comm {a b : Hp} (h : a.disj b) : b.disj a := fun k => by
  rcases h k with h | h | ⟨o, h, h'⟩
  · exact .inr (.inl h)
  · exact .inl h
  · exact .inr (.inr ⟨o, h', h⟩)
theorem Hp.join_comm {a b : Hp} (h : a.disj b) : a.join b = b.join a := by
  funext k
  unfold Hp.join
  rcases h k with h | h | ⟨o, h, h'⟩
  · simp [h]
  · simp [h]
  · simp [h, h']
theorem Hp.join_assoc (a b c : Hp) : (a.join b).join c = a.join (b.join c) := by
  funext k; unfold Hp.join; cases a k <;> simp
theorem Hp.none_join (a : Hp) : Hp.none.join a = a := by funext k; simp [Hp.join, Hp.none]
theorem Hp.disj_join_left {a b c : Hp} (d : a.disj b) (h : (a.join b).disj c) : a.disj c ∧ b.disj c := by
  refine ⟨fun k => ?_, fun k => ?_⟩ <;> rcases h k with h | h | ⟨o, h, h'⟩
  · left; unfold Hp.join at h; cases ha : a k <;> simp_all
  · right; left; exact h
  · unfold Hp.join at h
    cases ha : a k with
    | none => exact .inl rfl
    | some x => rw [ha] at h; exact .inr (.inr ⟨o, by simpa using h, h'⟩)
  · left; unfold Hp.join at h; cases ha : a k <;> simp_all
  · right; left; exact h
  · unfold Hp.join at h
    cases hb : b k with
    | none => exact .inl rfl
    | some y =>
      rcases d k with e | e | ⟨u, e, e'⟩
      · rw [e, hb] at h; exact .inr (.inr ⟨o, by simpa using h, h'⟩)
      · rw [hb] at e; cases e
      · rw [e] at h
        have : u = o := by simpa using h
        subst this
        rw [hb] at e'
        exact .inr (.inr ⟨u, e', h'⟩)
theorem Hp.disj_of_both {a b c : Hp} (h1 : a.disj c) (h2 : b.disj c) : (a.join b).disj c := by
  intro k
  rcases h1 k with h | h | ⟨o, h, h'⟩
  · rcases h2 k with e | e | ⟨o, e, e'⟩
    · left; simp [Hp.join, h, e]
    · right; left; exact e
    · right; right; exact ⟨o, by simp [Hp.join, h, e], e'⟩
  · right; left; exact h
  · right; right; exact ⟨o, by simp [Hp.join, h], h'⟩
theorem Hp.le_refl (a : Hp) : a.le a := fun _ x h => ⟨x, h, rfl, id⟩
theorem Hp.le_trans {a b c : Hp} (h : a.le b) (k : b.le c) : a.le c := fun i x e => by
  obtain ⟨y, e1, e2, e3⟩ := h i x e
  obtain ⟨z, f1, f2, f3⟩ := k i y e1
  exact ⟨z, f1, f2.trans e2, fun g => e3 (f3 g)⟩
theorem Hp.le_join_left (a b : Hp) : a.le (a.join b) := by intro k x h; exact ⟨x, by simp [Hp.join, h], rfl, id⟩
theorem Hp.le_join_right {a b : Hp} (d : a.disj b) : b.le (a.join b) := by
  rw [Hp.join_comm d]; exact Hp.le_join_left b a
theorem Hp.disj_of_le {a b a' : Hp} (h : a.disj b) (l : a'.le a) : a'.disj b := by
  intro k
  cases ha : a' k with
  | none => exact .inl rfl
  | some x =>
    obtain ⟨y, e1, e2, e3⟩ := l k x ha
    rcases h k with h | h | ⟨o, h, h'⟩
    · rw [h] at e1; cases e1
    · exact .inr (.inl h)
    · rw [h] at e1
      cases e1
      refine .inr (.inr ⟨o, ?_, h'⟩)
      obtain ⟨x1, x2⟩ := x
      have h2 : x2 = o := e2.symm
      have h1 : x1 = true := e3 rfl
      rw [h1, h2]
theorem Hp.join_le {a b a' : Hp} (l : a'.le a) (d : a.disj b) : (a'.join b).le (a.join b) := by
  intro k x h
  unfold Hp.join at *
  cases ha : a' k with
  | some u =>
    rw [ha] at h
    have hu : u = x := by simpa using h
    subst hu
    obtain ⟨y, e1, e2, e3⟩ := l k u ha
    exact ⟨y, by simp [e1], e2, e3⟩
  | none =>
    rw [ha] at h
    have hb : b k = some x := by simpa using h
    rcases d k with e | e | ⟨o, e, e'⟩
    · exact ⟨x, by simp [e, hb], rfl, id⟩
    · rw [hb] at e; cases e
    · rw [hb] at e'; cases e'
      exact ⟨(true, o), by simp [e], rfl, id⟩

/-- An assertion on a part of memory. -/
def HProp := Hp → Prop
def star (P Q : HProp) : HProp := fun h => ∃ a b : Hp, a.disj b ∧ h = a.join b ∧ P a ∧ Q b
instance : Add HProp := ⟨star⟩
def emp : HProp := fun h => h = Hp.none
theorem star_def (P Q : HProp) (h : Hp) : (P + Q) h ↔ ∃ a b : Hp, a.disj b ∧ h = a.join b ∧ P a ∧ Q b := Iff.rfl

theorem HProp.add_comm (P Q : HProp) : P + Q = Q + P := by
  funext h
  apply propext
  constructor <;> rintro ⟨a, b, d, rfl, p, q⟩ <;> exact ⟨b, a, Hp.disj_comm d, Hp.join_comm d, q, p⟩
theorem HProp.add_assoc (P Q R : HProp) : P + Q + R = P + (Q + R) := by
  funext h
  apply propext
  constructor
  · rintro ⟨ab, c, d, rfl, ⟨a, b, d', rfl, p, q⟩, r⟩
    obtain ⟨dac, dbc⟩ := Hp.disj_join_left d' d
    exact ⟨a, b.join c, Hp.disj_comm (Hp.disj_of_both (Hp.disj_comm d') (Hp.disj_comm dac)), Hp.join_assoc a b c, p, b, c, dbc, rfl, q, r⟩
  · rintro ⟨a, bc, d, rfl, p, b, c, d', rfl, q, r⟩
    obtain ⟨dba, dca⟩ := Hp.disj_join_left d' (Hp.disj_comm d)
    exact ⟨a.join b, c, Hp.disj_of_both (Hp.disj_comm dca) d', (Hp.join_assoc a b c).symm, ⟨a, b, Hp.disj_comm dba, rfl, p, q⟩, r⟩
instance : Std.Commutative (α := HProp) (· + ·) := ⟨HProp.add_comm⟩
instance : Std.Associative (α := HProp) (· + ·) := ⟨HProp.add_assoc⟩
theorem HProp.emp_add (P : HProp) : emp + P = P := by
  funext h
  apply propext
  constructor
  · rintro ⟨a, b, _, rfl, rfl, q⟩; rw [Hp.none_join]; exact q
  · intro p; exact ⟨Hp.none, h, fun _ => .inl rfl, (Hp.none_join h).symm, rfl, p⟩
theorem HProp.add_emp (P : HProp) : P + emp = P := by rw [HProp.add_comm, HProp.emp_add]
theorem HProp.add_left_comm (P Q R : HProp) : P + (Q + R) = Q + (P + R) := by
  rw [← HProp.add_assoc, HProp.add_comm P Q, HProp.add_assoc]

/-- Where the first holds, the second does of a part. -/
def Ent (P Q : HProp) : Prop := ∀ h, P h → ∃ h' : Hp, h'.le h ∧ Q h'
theorem Ent.refl (P : HProp) : Ent P P := fun h p => ⟨h, Hp.le_refl h, p⟩
theorem Ent.trans {P Q R : HProp} (h : Ent P Q) (k : Ent Q R) : Ent P R := fun x p =>
  let ⟨y, l, q⟩ := h x p; let ⟨z, l', r⟩ := k y q; ⟨z, Hp.le_trans l' l, r⟩
theorem Ent.of_eq {P Q : HProp} (h : P = Q) : Ent P Q := h ▸ Ent.refl P
theorem Ent.drop_right (P Q : HProp) : Ent (P + Q) P := by
  rintro h ⟨a, b, _, rfl, p, _⟩; exact ⟨a, Hp.le_join_left a b, p⟩
theorem Ent.drop_left (P Q : HProp) : Ent (P + Q) Q := by
  rintro h ⟨a, b, d, rfl, _, q⟩; exact ⟨b, Hp.le_join_right d, q⟩
theorem Ent.frame_right {P Q : HProp} (h : Ent P Q) (F : HProp) : Ent (P + F) (Q + F) := by
  rintro x ⟨a, b, d, rfl, p, f⟩
  obtain ⟨a', l, q⟩ := h a p
  exact ⟨a'.join b, Hp.join_le l d, a', b, Hp.disj_of_le d l, rfl, q, f⟩
theorem Ent.frame_left {P Q : HProp} (h : Ent P Q) (F : HProp) : Ent (F + P) (F + Q) := by
  rw [HProp.add_comm F P, HProp.add_comm F Q]; exact h.frame_right F
theorem Ent.add {P Q P' Q' : HProp} (h : Ent P P') (k : Ent Q Q') : Ent (P + Q) (P' + Q') := (h.frame_right Q).trans (k.frame_left P')

/-- One object. -/
def obj (b : Nat) (o : Obj) : HProp := fun h => h = fun k => if k = b then some (false, o) else none
/-- One object that nobody writes to any more. -/
def sobj (b : Nat) (o : Obj) : HProp := fun h => h = fun k => if k = b then some (true, o) else none
theorem sobj_dup (b : Nat) (o : Obj) : sobj b o + sobj b o = sobj b o := by
  funext h
  apply propext
  constructor
  · rintro ⟨a, c, d, rfl, p, q⟩
    have p' : a = fun k => if k = b then some (true, o) else none := p
    have q' : c = fun k => if k = b then some (true, o) else none := q
    show _ = _
    subst p' q'
    funext k
    by_cases hk : k = b <;> simp [Hp.join, hk]
  · intro p
    have p' : h = fun k => if k = b then some (true, o) else none := p
    subst p'
    refine ⟨_, _, ?_, ?_, rfl, rfl⟩
    · intro k
      by_cases hk : k = b
      · right; right; exact ⟨o, by simp [hk], by simp [hk]⟩
      · left; simp [hk]
    · funext k
      by_cases hk : k = b <;> simp [Hp.join, hk]
/-- What is one's own may be given up. -/
theorem Ent.freeze (b : Nat) (o : Obj) : Ent (obj b o) (sobj b o) := by
  intro h p
  have p' : h = fun k => if k = b then some (false, o) else none := p
  subst p'
  refine ⟨_, ?_, rfl⟩
  intro k x hx
  by_cases hk : k = b
  · subst hk
    have : (true, o) = x := by simpa using hx
    subst this
    exact ⟨(false, o), by simp, rfl, fun h => by cases h⟩
  · simp [hk] at hx
/-- A row of cells. -/
def blk (b : Nat) (cs : List Value) (e : TypeId) : HProp := obj b (.cells cs.toArray e (0, 0))
/-- Something of which there is one. -/
def ex {α : Type} (P : α → HProp) : HProp := fun h => ∃ x, P x h
/-- A plain fact beside an assertion. -/
def fact (p : Prop) (P : HProp) : HProp := fun h => p ∧ P h

theorem ex_add {α : Type} (P : α → HProp) (F : HProp) : ex P + F = ex fun x => P x + F := by
  funext h
  apply propext
  constructor
  · rintro ⟨a, b, d, rfl, ⟨x, p⟩, f⟩; exact ⟨x, a, b, d, rfl, p, f⟩
  · rintro ⟨x, a, b, d, rfl, p, f⟩; exact ⟨a, b, d, rfl, ⟨x, p⟩, f⟩
theorem fact_add (p : Prop) (P F : HProp) : fact p P + F = fact p (P + F) := by
  funext h
  apply propext
  constructor
  · rintro ⟨a, b, d, rfl, ⟨x, p⟩, f⟩; exact ⟨x, a, b, d, rfl, p, f⟩
  · rintro ⟨x, a, b, d, rfl, p, f⟩; exact ⟨a, b, d, rfl, ⟨x, p⟩, f⟩

/-- What was there in the world B is there as it was; and of the rest of memory the assertion holds of a part. -/
structure Holds (B : World) (H : HProp) (w : World) : Prop where
  below : Below B.heap.size B w
  heap : ∃ h : Hp, (∀ k x, h k = some x → w.heap[k]? = some x.2 ∧ (x.1 = false → B.heap.size ≤ k)) ∧ H h

variable {B : World} {H G F : HProp} {w : World}

theorem Holds.ent (h : Holds B H w) (e : Ent H G) : Holds B G w :=
  ⟨h.below, let ⟨x, hx, p⟩ := h.heap; let ⟨y, l, q⟩ := e x p; ⟨y, fun k o hy => let ⟨z, e1, e2, e3⟩ := l k o hy; ⟨e2 ▸ (hx k z e1).1, fun g => (hx k z e1).2 (by cases hz : z.1 with | false => rfl | true => rw [e3 hz] at g; cases g)⟩, q⟩⟩
theorem Holds.drop_left (h : Holds B (H + G) w) : Holds B G w := h.ent (Ent.drop_left H G)
theorem Holds.drop_right (h : Holds B (H + G) w) : Holds B H w := h.ent (Ent.drop_right H G)
theorem Holds.drew (h : Holds B H w) : Holds B H w.drew := ⟨h.below.drew, h.heap⟩
theorem Holds.start (B : World) : Holds B emp B := ⟨Below.refl _ _, Hp.none, by simp [Hp.none], rfl⟩
theorem Holds.ex_out {α : Type} {P : α → HProp} (h : Holds B (ex P) w) : ∃ x, Holds B (P x) w :=
  let ⟨y, hy, x, p⟩ := h.heap; ⟨x, h.below, y, hy, p⟩
theorem Holds.ex_in {α : Type} {P : α → HProp} (x : α) (h : Holds B (P x) w) : Holds B (ex P) w :=
  ⟨h.below, let ⟨y, hy, p⟩ := h.heap; ⟨y, hy, x, p⟩⟩
theorem Holds.fact_out {p : Prop} (h : Holds B (fact p H) w) : p ∧ Holds B H w :=
  let ⟨y, hy, x, p⟩ := h.heap; ⟨x, h.below, y, hy, p⟩
theorem Holds.fact_in {p : Prop} (x : p) (h : Holds B H w) : Holds B (fact p H) w :=
  ⟨h.below, let ⟨y, hy, p⟩ := h.heap; ⟨y, hy, x, p⟩⟩

theorem Holds.obj {b : Nat} {o : Obj} (h : Holds B (obj b o + F) w) : w.heap[b]? = some o ∧ B.heap.size ≤ b := by
  obtain ⟨x, hx, a, c, d, rfl, p, _⟩ := h.heap
  have p' : a = fun k => if k = b then some (false, o) else none := p
  have := hx b (false, o) (by simp [Hp.join, p'])
  exact ⟨this.1, this.2 rfl⟩
theorem Holds.sobj {b : Nat} {o : Obj} (h : Holds B (sobj b o + F) w) : w.heap[b]? = some o := by
  obtain ⟨x, hx, a, c, d, rfl, p, _⟩ := h.heap
  have p' : a = fun k => if k = b then some (true, o) else none := p
  exact (hx b (true, o) (by simp [Hp.join, p'])).1
/-- Two objects of one assertion are two. -/
theorem Holds.ne {b c : Nat} {o u : Obj} (h : Holds B (SL.obj b o + (SL.obj c u + F)) w) : b ≠ c := by
  obtain ⟨x, _, a, r, d, rfl, p, s, t, d', rfl, q, _⟩ := h.heap
  have p' : a = fun k => if k = b then some (false, o) else none := p
  have q' : s = fun k => if k = c then some (false, u) else none := q
  rintro rfl
  have := d b
  simp [p', q', Hp.join] at this
/-- What lay there at the start may be looked at. -/
theorem Holds.share {b : Nat} {o : Obj} (hb : B.heap[b]? = some o) (h : Holds B H w) : Holds B (SL.sobj b o + H) w := by
  obtain ⟨hl, x, hx, p⟩ := h
  have hlt : b < B.heap.size := by
    rcases Nat.lt_or_ge b B.heap.size with h | h
    · exact h
    · simp [Array.getElem?_eq_none h] at hb
  have hw : w.heap[b]? = some o := by obtain ⟨_, _, _, _, e5⟩ := hl; rw [e5 b hlt]; exact hb
  have hsz := hl.size
  refine ⟨hl, Hp.join (fun k => if k = b then some (true, o) else none) x, ?_, _, _, ?_, rfl, rfl, p⟩
  · intro k y hy
    by_cases hk : k = b
    · subst hk
      have : (true, o) = y := by simpa [Hp.join] using hy
      subst this
      exact ⟨hw, fun h => by cases h⟩
    · exact hx k y (by simpa [Hp.join, hk] using hy)
  · intro k
    by_cases hk : k = b
    · subst hk
      cases hxk : x k with
      | none => exact .inr (.inl rfl)
      | some y =>
        obtain ⟨y1, y2⟩ := y
        obtain ⟨h1, h2⟩ := hx k _ hxk
        cases y1 with
        | false => have := h2 rfl; omega
        | true =>
          simp only at h1
          rw [hw] at h1
          cases h1
          exact .inr (.inr ⟨o, by simp, rfl⟩)
    · left; simp [hk]

theorem obj_upd {b : Nat} {o o' : Obj} {h : Hp} (p : (obj b o + F) h) : (obj b o' + F) (fun k => if k = b then some (false, o') else h k) := by
  obtain ⟨a, c, d, rfl, p, f⟩ := p
  have p' : a = fun k => if k = b then some (false, o) else none := p
  refine ⟨fun k => if k = b then some (false, o') else none, c, ?_, ?_, rfl, f⟩
  · intro k
    by_cases hk : k = b
    · subst hk
      rcases d k with h | h | ⟨u, h, _⟩
      · simp [p'] at h
      · exact .inr (.inl h)
      · simp [p'] at h
    · left; simp [hk]
  · funext k
    by_cases hk : k = b
    · subst hk; simp [Hp.join]
    · simp [Hp.join, hk, p']

/-- A world in which one object has turned. -/
theorem Holds.upd {b : Nat} {o o' : Obj} {w' : World} (h : Holds B (SL.obj b o + F) w) (hos : w'.os = w.os) (ht : w'.tape = w.tape) (ho : w'.output = w.output)
    (hs : w'.heap.size = w.heap.size) (hb : w'.heap[b]? = some o') (hk : ∀ k, k ≠ b → w'.heap[k]? = w.heap[k]?) : Holds B (SL.obj b o' + F) w' := by
  have hB := h.obj.2
  obtain ⟨⟨e1, e2, e3, e4, e5⟩, x, hx, p⟩ := h
  refine ⟨⟨hos.trans e1, ht.trans e2, ho.trans e3, by omega, fun k hlt => (hk k (by omega)).trans (e5 k hlt)⟩, _, ?_, obj_upd p⟩
  intro k u hu
  by_cases hkb : k = b
  · subst hkb
    have : (false, o') = u := by simpa using hu
    subst this
    exact ⟨hb, fun _ => hB⟩
  · have hu' : x k = some u := by simpa [hkb] using hu
    exact ⟨(hk k hkb).trans (hx k u hu').1, (hx k u hu').2⟩

theorem Holds.alloc (h : Holds B H w) (o : Obj) : Holds B (SL.obj w.heap.size o + H) (w.alloc o) := by
  obtain ⟨hb, x, hx, p⟩ := h
  have hsz := hb.size
  refine ⟨hb.alloc hsz o, (fun k => if k = w.heap.size then some (false, o) else x k), ?_, ?_⟩
  · intro k u hu
    by_cases hk : k = w.heap.size
    · subst hk
      have : (false, o) = u := by simpa using hu
      subst this
      exact ⟨heap_alloc_new w o, fun _ => hsz⟩
    · have hu' : x k = some u := by simpa [hk] using hu
      obtain ⟨h1, h2⟩ := hx k u hu'
      have hlt : k < w.heap.size := by
        rcases Nat.lt_or_ge k w.heap.size with h | h
        · exact h
        · simp [Array.getElem?_eq_none h] at h1
      exact ⟨(Below.heap_alloc w o k hlt).trans h1, h2⟩
  · have hnew : x w.heap.size = none := by
      cases hxw : x w.heap.size with
      | none => rfl
      | some u => have := (hx _ u hxw).1; simp at this
    refine ⟨fun k => if k = w.heap.size then some (false, o) else none, x, ?_, ?_, rfl, p⟩
    · intro k
      by_cases hk : k = w.heap.size
      · right; left; rw [hk]; exact hnew
      · left; simp [hk]
    · funext k
      by_cases hk : k = w.heap.size
      · simp [Hp.join, hk]
      · simp [Hp.join, hk]

theorem blk_cell {b o : Nat} {cs : List Value} {e : TypeId} {v : Value} (h : Holds B (blk b cs e + F) w) (hv : cs[o]? = some v) : w.cell? ⟨b, o, none⟩ = some v := by
  rw [cell_of_row w b o cs.toArray e (0, 0) h.obj.1]; simpa using hv
theorem blk_frozen {b o : Nat} {cs : List Value} {e : TypeId} (h : Holds B (blk b cs e + F) w) : w.frozen? ⟨b, o, none⟩ = false :=
  frozen_of_row w b o cs.toArray e h.obj.1
theorem blk_set {b o : Nat} {cs : List Value} {e : TypeId} {v : Value} (h : Holds B (blk b cs e + F) w) : Holds B (blk b (cs.set o v) e + F) (w.setCell ⟨b, o, none⟩ v) := by
  refine Holds.upd (o' := .cells (cs.set o v).toArray e (0, 0)) h rfl rfl rfl (by simp) ?_ ?_
  · rw [heap_setCell_same w b o cs.toArray e v h.obj.1]; simp
  · intro k hk; exact heap_setCell_other w ⟨b, o, none⟩ k v hk
theorem blk_new (h : Holds B H w) (cs : List Value) (e : TypeId) : Holds B (blk w.heap.size cs e + H) (w.alloc (.cells cs.toArray e)) := h.alloc _

/-- A cell that an assertion knows. -/
def Cell (B : World) (H : HProp) (b o : Nat) (v : Value) : Prop := ∀ w, Holds B H w → w.cell? ⟨b, o, none⟩ = some v
theorem Cell.ent {b o : Nat} {v : Value} (h : Cell B G b o v) (e : Ent H G) : Cell B H b o v := fun w hw => h w (hw.ent e)
theorem Cell.left {b o : Nat} {v : Value} (h : Cell B G b o v) (F : HProp) : Cell B (F + G) b o v := h.ent (Ent.drop_left F G)
theorem Cell.right {b o : Nat} {v : Value} (h : Cell B G b o v) (F : HProp) : Cell B (G + F) b o v := h.ent (Ent.drop_right G F)
/-- A cell of the world at the start. -/
theorem Cell.base {b o : Nat} {v : Value} (h : B.cell? ⟨b, o, none⟩ = some v) : Cell B H b o v := fun _ hw =>
  (hw.below.cell (p := ⟨b, o, none⟩) (block_lt_of_cell h)).trans h

/-- The block b stands in the assertion. -/
class HasBlk (H : HProp) (b : Nat) (cs : outParam (List Value)) (e : outParam TypeId) (F : outParam HProp) : Prop where
  eq : H = blk b cs e + F
instance (b : Nat) (cs : List Value) (e : TypeId) (F : HProp) : HasBlk (blk b cs e + F) b cs e F := ⟨rfl⟩
instance (b : Nat) (cs : List Value) (e : TypeId) (P Q F : HProp) [h : HasBlk Q b cs e F] : HasBlk (P + Q) b cs e (P + F) :=
  ⟨by rw [h.eq, HProp.add_left_comm]⟩
instance (b : Nat) (cs : List Value) (e : TypeId) (P Q F : HProp) [h : HasBlk P b cs e F] : HasBlk (P + Q) b cs e (F + Q) :=
  ⟨by rw [h.eq, HProp.add_assoc]⟩
theorem Cell.blk {b o : Nat} {v : Value} {cs : List Value} {e : TypeId} [i : HasBlk H b cs e F] (hv : cs[o]? = some v) : Cell B H b o v :=
  fun w hw => blk_cell (F := F) (e := e) (by rw [← i.eq]; exact hw) hv

/-- An assertion that stands in another one. -/
class InH (G H : HProp) : Prop where
  ent : Ent H G
instance (H : HProp) : InH H H := ⟨Ent.refl H⟩
instance (G P Q : HProp) [h : InH G Q] : InH G (P + Q) := ⟨(Ent.drop_left P Q).trans h.ent⟩
instance (G P Q : HProp) [h : InH G P] : InH G (P + Q) := ⟨(Ent.drop_right P Q).trans h.ent⟩
theorem Cell.sub {b o : Nat} {v : Value} [i : InH G H] (h : Cell B G b o v) : Cell B H b o v := h.ent i.ent

/-- A part of an assertion, and what is left. -/
class Split (H A : HProp) (F : outParam HProp) : Prop where
  eq : H = A + F
instance (A F : HProp) : Split (A + F) A F := ⟨rfl⟩
instance (A P Q F : HProp) [h : Split Q A F] : Split (P + Q) A (P + F) := ⟨by rw [h.eq, HProp.add_left_comm]⟩
instance (A P Q F : HProp) [h : Split P A F] : Split (P + Q) A (F + Q) := ⟨by rw [h.eq, HProp.add_assoc]⟩
end Go.SL
