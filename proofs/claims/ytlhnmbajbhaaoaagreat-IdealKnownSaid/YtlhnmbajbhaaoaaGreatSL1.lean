/- Rules for walks: what one's own memory is, and what each operation does. No condition. -/
import Derived.WalkKit
import Derived.RangeFuncLeaves
import Derived.RangeFuncCalls
import Derived.RangeFuncRecord
import Derived.TacticsIn
set_option linter.unusedSimpArgs false
set_option linter.unusedVariables false
namespace Go.SL
open Go Go.RowKit

/-- A part of memory: what is one's own (false), and what nobody writes to any more (true). -/
abbrev Hp := Nat → Option (Bool × Obj)
def Hp.disj (a b : Hp) : Prop := ∀ k, a k = none ∨ b k = none ∨ ∃ o, a k = some (true, o) ∧ b k = some (true, o)
def Hp.join (a b : Hp) : Hp := fun k => (a k).or (b k)
def Hp.none : Hp := fun _ => Option.none
/-- A part of it, where what is one's own may be given up. -/
def Hp.le (a b : Hp) : Prop := ∀ k x, a k = some x → ∃ y, b k = some y ∧ y.2 = x.2 ∧ (y.1 = true → x.1 = true)

theorem Hp.disj_comm {a b : Hp} (h : a.disj b) : b.disj a := fun k => by
  rcases h k with h | h | ⟨o, h, h'⟩
  · exact .inr (.inl h)
  · exact .inl h
  · exact .inr (.inr ⟨o, h', h⟩)
theorem Hp.join_comm {a b : Hp} (h : a.disj b) : a.join b = b.join a := by
  funext k
  unfold Hp.join
  rcases h k with h | h | ⟨o, h, h'⟩
  · simp [h]
  · simp [h]
  · simp [h, h']
theorem Hp.join_assoc (a b c : Hp) : (a.join b).join c = a.join (b.join c) := by
  funext k; unfold Hp.join; cases a k <;> simp
theorem Hp.none_join (a : Hp) : Hp.none.join a = a := by funext k; simp [Hp.join, Hp.none]
theorem Hp.disj_join_left {a b c : Hp} (d : a.disj b) (h : (a.join b).disj c) : a.disj c ∧ b.disj c := by
  refine ⟨fun k => ?_, fun k => ?_⟩ <;> rcases h k with h | h | ⟨o, h, h'⟩
  · left; unfold Hp.join at h; cases ha : a k <;> simp_all
  · right; left; exact h
  · unfold Hp.join at h
    cases ha : a k with
    | none => exact .inl rfl
    | some x => rw [ha] at h; exact .inr (.inr ⟨o, by simpa using h, h'⟩)
  · left; unfold Hp.join at h; cases ha : a k <;> simp_all
  · right; left; exact h
  · unfold Hp.join at h
    cases hb : b k with
    | none => exact .inl rfl
    | some y =>
      rcases d k with e | e | ⟨u, e, e'⟩
      · rw [e, hb] at h; exact .inr (.inr ⟨o, by simpa using h, h'⟩)
      · rw [hb] at e; cases e
      · rw [e] at h
        have : u = o := by simpa using h
        subst this
        rw [hb] at e'
        exact .inr (.inr ⟨u, e', h'⟩)
theorem Hp.disj_of_both {a b c : Hp} (h1 : a.disj c) (h2 : b.disj c) : (a.join b).disj c := by
  intro k
  rcases h1 k with h | h | ⟨o, h, h'⟩
  · rcases h2 k with e | e | ⟨o, e, e'⟩
    · left; simp [Hp.join, h, e]
    · right; left; exact e
    · right; right; exact ⟨o, by simp [Hp.join, h, e], e'⟩
  · right; left; exact h
  · right; right; exact ⟨o, by simp [Hp.join, h], h'⟩
theorem Hp.le_refl (a : Hp) : a.le a := fun _ x h => ⟨x, h, rfl, id⟩
theorem Hp.le_trans {a b c : Hp} (h : a.le b) (k : b.le c) : a.le c := fun i x e => by
  obtain ⟨y, e1, e2, e3⟩ := h i x e
  obtain ⟨z, f1, f2, f3⟩ := k i y e1
  exact ⟨z, f1, f2.trans e2, fun g => e3 (f3 g)⟩
theorem Hp.le_join_left (a b : Hp) : a.le (a.join b) := by intro k x h; exact ⟨x, by simp [Hp.join, h], rfl, id⟩
theorem Hp.le_join_right {a b : Hp} (d : a.disj b) : b.le (a.join b) := by
  rw [Hp.join_comm d]; exact Hp.le_join_left b a
theorem Hp.disj_of_le {a b a' : Hp} (h : a.disj b) (l : a'.le a) : a'.disj b := by
  intro k
  cases ha : a' k with
  | none => exact .inl rfl
  | some x =>
    obtain ⟨y, e1, e2, e3⟩ := l k x ha
    rcases h k with h | h | ⟨o, h, h'⟩
    · rw [h] at e1; cases e1
    · exact .inr (.inl h)
    · rw [h] at e1
      cases e1
      refine .inr (.inr ⟨o, ?_, h'⟩)
      obtain ⟨x1, x2⟩ := x
      have h2 : x2 = o := e2.symm
      have h1 : x1 = true := e3 rfl
      rw [h1, h2]
theorem Hp.join_le {a b a' : Hp} (l : a'.le a) (d : a.disj b) : (a'.join b).le (a.join b) := by
  intro k x h
  unfold Hp.join at *
  cases ha : a' k with
  | some u =>
    rw [ha] at h
    have hu : u = x := by simpa using h
    subst hu
    obtain ⟨y, e1, e2, e3⟩ := l k u ha
    exact ⟨y, by simp [e1], e2, e3⟩
  | none =>
    rw [ha] at h
    have hb : b k = some x := by simpa using h
    rcases d k with e | e | ⟨o, e, e'⟩
    · exact ⟨x, by simp [e, hb], rfl, id⟩
    · rw [hb] at e; cases e
    · rw [hb] at e'; cases e'
      exact ⟨(true, o), by simp [e], rfl, id⟩

/-- An assertion on a part of memory. -/
def HProp := Hp → Prop
def star (P Q : HProp) : HProp := fun h => ∃ a b : Hp, a.disj b ∧ h = a.join b ∧ P a ∧ Q b
instance : Add HProp := ⟨star⟩
def emp : HProp := fun h => h = Hp.none
theorem HProp.add_comm (P Q : HProp) : P + Q = Q + P := by
  funext h
  apply propext
  constructor <;> rintro ⟨a, b, d, rfl, p, q⟩ <;> exact ⟨b, a, Hp.disj_comm d, Hp.join_comm d, q, p⟩
theorem HProp.add_assoc (P Q R : HProp) : P + Q + R = P + (Q + R) := by
  funext h
  apply propext
  constructor
  · rintro ⟨ab, c, d, rfl, ⟨a, b, d', rfl, p, q⟩, r⟩
    obtain ⟨dac, dbc⟩ := Hp.disj_join_left d' d
    exact ⟨a, b.join c, Hp.disj_comm (Hp.disj_of_both (Hp.disj_comm d') (Hp.disj_comm dac)), Hp.join_assoc a b c, p, b, c, dbc, rfl, q, r⟩
  · rintro ⟨a, bc, d, rfl, p, b, c, d', rfl, q, r⟩
    obtain ⟨dba, dca⟩ := Hp.disj_join_left d' (Hp.disj_comm d)
    exact ⟨a.join b, c, Hp.disj_of_both (Hp.disj_comm dca) d', (Hp.join_assoc a b c).symm, ⟨a, b, Hp.disj_comm dba, rfl, p, q⟩, r⟩
instance : Std.Commutative (α := HProp) (· + ·) := ⟨HProp.add_comm⟩
instance : Std.Associative (α := HProp) (· + ·) := ⟨HProp.add_assoc⟩
theorem HProp.emp_add (P : HProp) : emp + P = P := by
  funext h
  apply propext
  constructor
  · rintro ⟨a, b, _, rfl, rfl, q⟩; rw [Hp.none_join]; exact q
  · intro p; exact ⟨Hp.none, h, fun _ => .inl rfl, (Hp.none_join h).symm, rfl, p⟩
theorem HProp.add_emp (P : HProp) : P + emp = P := by rw [HProp.add_comm, HProp.emp_add]
theorem HProp.add_left_comm (P Q R : HProp) : P + (Q + R) = Q + (P + R) := by
  rw [← HProp.add_assoc, HProp.add_comm P Q, HProp.add_assoc]

/-- Where the first holds, the second does of a part. -/
def Ent (P Q : HProp) : Prop := ∀ h, P h → ∃ h' : Hp, h'.le h ∧ Q h'
theorem Ent.refl (P : HProp) : Ent P P := fun h p => ⟨h, Hp.le_refl h, p⟩
theorem Ent.trans {P Q R : HProp} (h : Ent P Q) (k : Ent Q R) : Ent P R := fun x p =>
  let ⟨y, l, q⟩ := h x p; let ⟨z, l', r⟩ := k y q; ⟨z, Hp.le_trans l' l, r⟩
theorem Ent.of_eq {P Q : HProp} (h : P = Q) : Ent P Q := h ▸ Ent.refl P
theorem Ent.drop_right (P Q : HProp) : Ent (P + Q) P := by
  rintro h ⟨a, b, _, rfl, p, _⟩; exact ⟨a, Hp.le_join_left a b, p⟩
theorem Ent.drop_left (P Q : HProp) : Ent (P + Q) Q := by
  rintro h ⟨a, b, d, rfl, _, q⟩; exact ⟨b, Hp.le_join_right d, q⟩
theorem Ent.frame_right {P Q : HProp} (h : Ent P Q) (F : HProp) : Ent (P + F) (Q + F) := by
  rintro x ⟨a, b, d, rfl, p, f⟩
  obtain ⟨a', l, q⟩ := h a p
  exact ⟨a'.join b, Hp.join_le l d, a', b, Hp.disj_of_le d l, rfl, q, f⟩
theorem Ent.frame_left {P Q : HProp} (h : Ent P Q) (F : HProp) : Ent (F + P) (F + Q) := by
  rw [HProp.add_comm F P, HProp.add_comm F Q]; exact h.frame_right F
theorem Ent.add {P Q P' Q' : HProp} (h : Ent P P') (k : Ent Q Q') : Ent (P + Q) (P' + Q') := (h.frame_right Q).trans (k.frame_left P')

/-- One object. -/
def obj (b : Nat) (o : Obj) : HProp := fun h => h = fun k => if k = b then some (false, o) else none
/-- One object that nobody writes to any more. -/
def sobj (b : Nat) (o : Obj) : HProp := fun h => h = fun k => if k = b then some (true, o) else none
/-- A row of cells. -/
def blk (b : Nat) (cs : List Value) (e : TypeId) : HProp := obj b (.cells cs.toArray e (0, 0))
/-- Something of which there is one. -/
def ex {α : Type} (P : α → HProp) : HProp := fun h => ∃ x, P x h
/-- A plain fact beside an assertion. -/
def fact (p : Prop) (P : HProp) : HProp := fun h => p ∧ P h

theorem ex_add {α : Type} (P : α → HProp) (F : HProp) : ex P + F = ex fun x => P x + F := by
  funext h
  apply propext
  constructor
  · rintro ⟨a, b, d, rfl, ⟨x, p⟩, f⟩; exact ⟨x, a, b, d, rfl, p, f⟩
  · rintro ⟨x, a, b, d, rfl, p, f⟩; exact ⟨a, b, d, rfl, ⟨x, p⟩, f⟩
theorem fact_add (p : Prop) (P F : HProp) : fact p P + F = fact p (P + F) := by
  funext h
  apply propext
  constructor
  · rintro ⟨a, b, d, rfl, ⟨x, p⟩, f⟩; exact ⟨x, a, b, d, rfl, p, f⟩
  · rintro ⟨x, a, b, d, rfl, p, f⟩; exact ⟨a, b, d, rfl, ⟨x, p⟩, f⟩

/-- What was there in the world B is there as it was; and of the rest of memory the assertion holds of a part. -/
structure Holds (B : World) (H : HProp) (w : World) : Prop where
  below : Below B.heap.size B w
  heap : ∃ h : Hp, (∀ k x, h k = some x → w.heap[k]? = some x.2 ∧ (x.1 = false → B.heap.size ≤ k)) ∧ H h

variable {B : World} {H G F : HProp} {w : World}

theorem Holds.ent (h : Holds B H w) (e : Ent H G) : Holds B G w :=
  ⟨h.below, let ⟨x, hx, p⟩ := h.heap; let ⟨y, l, q⟩ := e x p; ⟨y, fun k o hy => let ⟨z, e1, e2, e3⟩ := l k o hy; ⟨e2 ▸ (hx k z e1).1, fun g => (hx k z e1).2 (by cases hz : z.1 with | false => rfl | true => rw [e3 hz] at g; cases g)⟩, q⟩⟩
theorem Holds.drop_left (h : Holds B (H + G) w) : Holds B G w := h.ent (Ent.drop_left H G)
theorem Holds.drop_right (h : Holds B (H + G) w) : Holds B H w := h.ent (Ent.drop_right H G)
theorem Holds.drew (h : Holds B H w) : Holds B H w.drew := ⟨h.below.drew, h.heap⟩
theorem Holds.start (B : World) : Holds B emp B := ⟨Below.refl _ _, Hp.none, by simp [Hp.none], rfl⟩
theorem Holds.ex_out {α : Type} {P : α → HProp} (h : Holds B (ex P) w) : ∃ x, Holds B (P x) w :=
  let ⟨y, hy, x, p⟩ := h.heap; ⟨x, h.below, y, hy, p⟩
theorem Holds.ex_in {α : Type} {P : α → HProp} (x : α) (h : Holds B (P x) w) : Holds B (ex P) w :=
  ⟨h.below, let ⟨y, hy, p⟩ := h.heap; ⟨y, hy, x, p⟩⟩
theorem Holds.fact_out {p : Prop} (h : Holds B (fact p H) w) : p ∧ Holds B H w :=
  let ⟨y, hy, x, p⟩ := h.heap; ⟨x, h.below, y, hy, p⟩
theorem Holds.fact_in {p : Prop} (x : p) (h : Holds B H w) : Holds B (fact p H) w :=
  ⟨h.below, let ⟨y, hy, p⟩ := h.heap; ⟨y, hy, x, p⟩⟩

theorem Holds.obj {b : Nat} {o : Obj} (h : Holds B (obj b o + F) w) : w.heap[b]? = some o ∧ B.heap.size ≤ b := by
  obtain ⟨x, hx, a, c, d, rfl, p, _⟩ := h.heap
  have p' : a = fun k => if k = b then some (false, o) else none := p
  have := hx b (false, o) (by simp [Hp.join, p'])
  exact ⟨this.1, this.2 rfl⟩
theorem Holds.sobj {b : Nat} {o : Obj} (h : Holds B (sobj b o + F) w) : w.heap[b]? = some o := by
  obtain ⟨x, hx, a, c, d, rfl, p, _⟩ := h.heap
  have p' : a = fun k => if k = b then some (true, o) else none := p
  exact (hx b (true, o) (by simp [Hp.join, p'])).1
theorem obj_upd {b : Nat} {o o' : Obj} {h : Hp} (p : (obj b o + F) h) : (obj b o' + F) (fun k => if k = b then some (false, o') else h k) := by
  obtain ⟨a, c, d, rfl, p, f⟩ := p
  have p' : a = fun k => if k = b then some (false, o) else none := p
  refine ⟨fun k => if k = b then some (false, o') else none, c, ?_, ?_, rfl, f⟩
  · intro k
    by_cases hk : k = b
    · subst hk
      rcases d k with h | h | ⟨u, h, _⟩
      · simp [p'] at h
      · exact .inr (.inl h)
      · simp [p'] at h
    · left; simp [hk]
  · funext k
    by_cases hk : k = b
    · subst hk; simp [Hp.join]
    · simp [Hp.join, hk, p']

/-- A world in which one object has turned. -/
theorem Holds.upd {b : Nat} {o o' : Obj} {w' : World} (h : Holds B (SL.obj b o + F) w) (hos : w'.os = w.os) (ht : w'.tape = w.tape) (ho : w'.output = w.output)
    (hs : w'.heap.size = w.heap.size) (hb : w'.heap[b]? = some o') (hk : ∀ k, k ≠ b → w'.heap[k]? = w.heap[k]?) : Holds B (SL.obj b o' + F) w' := by
  have hB := h.obj.2
  obtain ⟨⟨e1, e2, e3, e4, e5⟩, x, hx, p⟩ := h
  refine ⟨⟨hos.trans e1, ht.trans e2, ho.trans e3, by omega, fun k hlt => (hk k (by omega)).trans (e5 k hlt)⟩, _, ?_, obj_upd p⟩
  intro k u hu
  by_cases hkb : k = b
  · subst hkb
    have : (false, o') = u := by simpa using hu
    subst this
    exact ⟨hb, fun _ => hB⟩
  · have hu' : x k = some u := by simpa [hkb] using hu
    exact ⟨(hk k hkb).trans (hx k u hu').1, (hx k u hu').2⟩

theorem Holds.alloc (h : Holds B H w) (o : Obj) : Holds B (SL.obj w.heap.size o + H) (w.alloc o) := by
  obtain ⟨hb, x, hx, p⟩ := h
  have hsz := hb.size
  refine ⟨hb.alloc hsz o, (fun k => if k = w.heap.size then some (false, o) else x k), ?_, ?_⟩
  · intro k u hu
    by_cases hk : k = w.heap.size
    · subst hk
      have : (false, o) = u := by simpa using hu
      subst this
      exact ⟨heap_alloc_new w o, fun _ => hsz⟩
    · have hu' : x k = some u := by simpa [hk] using hu
      obtain ⟨h1, h2⟩ := hx k u hu'
      have hlt : k < w.heap.size := by
        rcases Nat.lt_or_ge k w.heap.size with h | h
        · exact h
        · simp [Array.getElem?_eq_none h] at h1
      exact ⟨(Below.heap_alloc w o k hlt).trans h1, h2⟩
  · have hnew : x w.heap.size = none := by
      cases hxw : x w.heap.size with
      | none => rfl
      | some u => have := (hx _ u hxw).1; simp at this
    refine ⟨fun k => if k = w.heap.size then some (false, o) else none, x, ?_, ?_, rfl, p⟩
    · intro k
      by_cases hk : k = w.heap.size
      · right; left; rw [hk]; exact hnew
      · left; simp [hk]
    · funext k
      by_cases hk : k = w.heap.size
      · simp [Hp.join, hk]
      · simp [Hp.join, hk]

theorem blk_cell {b o : Nat} {cs : List Value} {e : TypeId} {v : Value} (h : Holds B (blk b cs e + F) w) (hv : cs[o]? = some v) : w.cell? ⟨b, o, none⟩ = some v := by
  rw [cell_of_row w b o cs.toArray e (0, 0) h.obj.1]; simpa using hv
theorem blk_frozen {b o : Nat} {cs : List Value} {e : TypeId} (h : Holds B (blk b cs e + F) w) : w.frozen? ⟨b, o, none⟩ = false :=
  frozen_of_row w b o cs.toArray e h.obj.1
theorem blk_set {b o : Nat} {cs : List Value} {e : TypeId} {v : Value} (h : Holds B (blk b cs e + F) w) : Holds B (blk b (cs.set o v) e + F) (w.setCell ⟨b, o, none⟩ v) := by
  refine Holds.upd (o' := .cells (cs.set o v).toArray e (0, 0)) h rfl rfl rfl (by simp) ?_ ?_
  · rw [heap_setCell_same w b o cs.toArray e v h.obj.1]; simp
  · intro k hk; exact heap_setCell_other w ⟨b, o, none⟩ k v hk
theorem blk_new (h : Holds B H w) (cs : List Value) (e : TypeId) : Holds B (blk w.heap.size cs e + H) (w.alloc (.cells cs.toArray e)) := h.alloc _

/-- A cell that an assertion knows. -/
def Cell (B : World) (H : HProp) (b o : Nat) (v : Value) : Prop := ∀ w, Holds B H w → w.cell? ⟨b, o, none⟩ = some v
theorem Cell.ent {b o : Nat} {v : Value} (h : Cell B G b o v) (e : Ent H G) : Cell B H b o v := fun w hw => h w (hw.ent e)
theorem Cell.left {b o : Nat} {v : Value} (h : Cell B G b o v) (F : HProp) : Cell B (F + G) b o v := h.ent (Ent.drop_left F G)
theorem Cell.right {b o : Nat} {v : Value} (h : Cell B G b o v) (F : HProp) : Cell B (G + F) b o v := h.ent (Ent.drop_right G F)
/-- A cell of the world at the start. -/
theorem Cell.base {b o : Nat} {v : Value} (h : B.cell? ⟨b, o, none⟩ = some v) : Cell B H b o v := fun _ hw =>
  (hw.below.cell (p := ⟨b, o, none⟩) (block_lt_of_cell h)).trans h

/-- The block b stands in the assertion. -/
class HasBlk (H : HProp) (b : Nat) (cs : outParam (List Value)) (e : outParam TypeId) (F : outParam HProp) : Prop where
  eq : H = blk b cs e + F
instance (b : Nat) (cs : List Value) (e : TypeId) (F : HProp) : HasBlk (blk b cs e + F) b cs e F := ⟨rfl⟩
instance (b : Nat) (cs : List Value) (e : TypeId) (P Q F : HProp) [h : HasBlk Q b cs e F] : HasBlk (P + Q) b cs e (P + F) :=
  ⟨by rw [h.eq, HProp.add_left_comm]⟩
instance (b : Nat) (cs : List Value) (e : TypeId) (P Q F : HProp) [h : HasBlk P b cs e F] : HasBlk (P + Q) b cs e (F + Q) :=
  ⟨by rw [h.eq, HProp.add_assoc]⟩
theorem Cell.blk {b o : Nat} {v : Value} {cs : List Value} {e : TypeId} [i : HasBlk H b cs e F] (hv : cs[o]? = some v) : Cell B H b o v :=
  fun w hw => blk_cell (F := F) (e := e) (by rw [← i.eq]; exact hw) hv

/-- An assertion that stands in another one. -/
class InH (G H : HProp) : Prop where
  ent : Ent H G
instance (H : HProp) : InH H H := ⟨Ent.refl H⟩
instance (G P Q : HProp) [h : InH G Q] : InH G (P + Q) := ⟨(Ent.drop_left P Q).trans h.ent⟩
instance (G P Q : HProp) [h : InH G P] : InH G (P + Q) := ⟨(Ent.drop_right P Q).trans h.ent⟩
theorem Cell.sub {b o : Nat} {v : Value} [i : InH G H] (h : Cell B G b o v) : Cell B H b o v := h.ent i.ent

/-- A part of an assertion, and what is left. -/
class Split (H A : HProp) (F : outParam HProp) : Prop where
  eq : H = A + F
instance (A F : HProp) : Split (A + F) A F := ⟨rfl⟩
instance (A P Q F : HProp) [h : Split Q A F] : Split (P + Q) A (P + F) := ⟨by rw [h.eq, HProp.add_left_comm]⟩
instance (A P Q F : HProp) [h : Split P A F] : Split (P + Q) A (F + Q) := ⟨by rw [h.eq, HProp.add_assoc]⟩
end Go.SL
set_option linter.unusedSimpArgs false
set_option linter.unusedVariables false
namespace Go.SL
open Go Go.RowKit

/-- A frame: its slots; the blocks of deferred calls that its loops over functions have laid. -/
structure Fr where
  f : Nat → Value
  ds : List Nat
instance : CoeFun Fr (fun _ => Nat → Value) := ⟨Fr.f⟩
theorem Fr.ext' {f g : Fr} (h : ∀ t, f t = g t) (hd : f.ds = g.ds) : f = g := by
  obtain ⟨a, b⟩ := f
  obtain ⟨c, d⟩ := g
  simp only at h hd
  rw [funext h, hd]
def Fr.put (fr : Fr) (d : Nat) (v : Value) : Fr := ⟨fun t => bif Nat.beq t d then v else fr t, fr.ds⟩
def Fr.putO (fr : Fr) (d : Option Nat) (v : Value) : Fr := match d with | some d => fr.put d v | none => fr
/-- The values of the first slots. -/
def Fr.slots : List Value → Nat → Value
  | [], _ => undef
  | v :: _, 0 => v
  | _ :: l, t + 1 => Fr.slots l t
def Fr.init (l : List Value) : Fr := ⟨Fr.slots l, []⟩
theorem Fr.init_eq (l : List Value) : ∀ t, Fr.init l t = l.getD t undef := by
  show ∀ t, Fr.slots l t = l.getD t undef
  induction l with
  | nil => intro t; simp [Fr.slots]
  | cons v l ih =>
    intro t
    cases t with
    | zero => simp [Fr.slots]
    | succ t => simp only [Fr.slots, List.getD_cons_succ]; exact ih t
def memB : List Nat → Nat → Bool
  | [], _ => false
  | d :: l, t => bif Nat.beq t d then true else memB l t
/-- The slots of M hold whatever they hold. -/
def Fr.havoc (fr : Fr) (M : List Nat) (g : Fr) : Fr := ⟨fun t => bif memB M t then g t else fr t, fr.ds⟩
theorem beq_eq (a b : Nat) : Nat.beq a b = decide (a = b) := by
  by_cases h : a = b
  · subst h; simp
  · rw [decide_eq_false h]
    cases hb : Nat.beq a b with
    | false => rfl
    | true => exact absurd (Nat.eq_of_beq_eq_true hb) h
theorem put_same (fr : Fr) (d : Nat) (v : Value) : fr.put d v d = v := by simp [Fr.put]
theorem put_ne (fr : Fr) (d t : Nat) (v : Value) (h : t ≠ d) : fr.put d v t = fr t := by simp [Fr.put, beq_eq, h]
theorem havoc_out (fr g : Fr) (M : List Nat) (t : Nat) (h : memB M t = false) : fr.havoc M g t = fr t := by unfold Fr.havoc; simp only [h]; rfl
theorem put_ds (fr : Fr) (d : Nat) (v : Value) : (fr.put d v).ds = fr.ds := rfl
theorem putO_ds (fr : Fr) (d : Option Nat) (v : Value) : (fr.putO d v).ds = fr.ds := by cases d <;> rfl
/-- Two frames that part in the slots of M alone. -/
def Aside (M : List Nat) (f base : Fr) : Prop := (∀ t, memB M t = false → f t = base t) ∧ f.ds = base.ds
theorem Aside.refl (M : List Nat) (f : Fr) : Aside M f f := ⟨fun _ _ => rfl, rfl⟩
theorem Aside.put {M : List Nat} {f base : Fr} {d : Nat} {v : Value} (hd : memB M d = true) (h : Aside M f base) : Aside M (f.put d v) base := by
  refine ⟨fun t ht => ?_, h.2⟩
  by_cases e : t = d
  · subst e; rw [hd] at ht; cases ht
  · rw [put_ne _ _ _ _ e]; exact h.1 t ht
def subB (N M : List Nat) : Bool := N.all (memB M ·)
theorem memB_iff (M : List Nat) (t : Nat) : memB M t = true ↔ t ∈ M := by
  induction M with
  | nil => simp [memB]
  | cons d l ih =>
    unfold memB
    rw [beq_eq]
    by_cases h : t = d <;> simp [h, ih]
theorem Aside.havoc {M N : List Nat} {f base g : Fr} (hd : subB N M = true) (h : Aside M f base) : Aside M (f.havoc N g) base := by
  refine ⟨fun t ht => ?_, h.2⟩
  have : memB N t = false := by
    cases hb : memB N t with
    | false => rfl
    | true =>
      have := (List.all_eq_true.1 hd) t ((memB_iff N t).1 hb)
      rw [this] at ht
      cases ht
  rw [havoc_out _ _ _ _ this]; exact h.1 t ht
theorem Aside.self {M : List Nat} {f base : Fr} (h : Aside M f base) : f = base.havoc M f := by
  refine Fr.ext' (fun t => ?_) h.2
  unfold Fr.havoc
  cases hb : memB M t with
  | true => simp [hb]
  | false => simp only [hb]; exact h.1 t hb
theorem put_self (f : Fr) (d : Nat) (v : Value) (h : f d = v) : f = f.put d v := by
  refine Fr.ext' (fun t => ?_) rfl
  by_cases e : t = d
  · subst e; rw [put_same]; exact h
  · rw [put_ne _ _ _ _ e]

def ev (fr : Fr) : Operand → Value
  | .tmp t => fr t
  | .const v => v
  | .global g => .pointer (some ⟨g, 0, none⟩)
  | .func f => .func (.func f) #[] #[]
def markOf (D : Nat) : Deferred := { target := .collected D, args := #[] }
/-- An activation of n slots that holds the frame. -/
structure Models (n : Nat) (a : Act) (fr : Fr) : Prop where
  size : a.tmps.size = n
  defers : a.defers = fr.ds.map markOf
  slot : ∀ t, a.tmps.getD t undef = fr t
theorem Models.eval {n : Nat} {a : Act} {fr : Fr} (h : Models n a fr) : a.eval = ev fr := by
  funext x
  cases x <;> simp [Act.eval, ev, h.slot]
theorem Models.put {n : Nat} {a : Act} {fr : Fr} (h : Models n a fr) {d : Nat} (hd : d < n) (v : Value) : Models n (a.put (some d) v) (fr.put d v) := by
  refine ⟨by simp [Act.put, h.size], by simp [Act.put, h.defers, put_ds], fun t => ?_⟩
  have hs := h.slot t
  simp only [Act.put, Array.getD_eq_getD_getElem?, Array.getElem?_setIfInBounds] at hs ⊢
  by_cases ht : d = t
  · subst ht; rw [put_same]; simp [h.size, hd]
  · rw [put_ne _ _ _ _ (fun e => ht e.symm)]; simp [ht, hs]
theorem Models.putO {n : Nat} {a : Act} {fr : Fr} (h : Models n a fr) {d : Option Nat} (hd : ∀ k, d = some k → k < n) (v : Value) : Models n (a.put d v) (fr.putO d v) := by
  cases d with
  | none => exact h
  | some d => exact h.put (hd d rfl) v

/-- The fence within which code is walked: ro: the record of the loop over a function whose round this is. -/
def FW (ro : Option Nat) : Fence := { Fence.wide with round := ro }
theorem FW_calls {ro : Option Nat} {P : Program} {f : FuncId} {args : Array Value} {w : World} {R : Ending → World → Prop} : CallsIn (FW ro) 0 P f args w R ↔ Calls P f args w R := (callsIn_wide (n := 0))
abbrev Post := Exit → Fr → HProp → Prop
def lift (B : World) (n : Nat) (Q : Post) : Exit → Act → World → Prop :=
  fun e a w => ∃ fr H, Models n a fr ∧ Holds B H w ∧ Q e fr H
def WP (ro : Option Nat) (P : Program) (B : World) (n : Nat) (c : Code) (fr : Fr) (H : HProp) (Q : Post) : Prop :=
  ∀ a w, Models n a fr → Holds B H w → c.wpIn (FW ro) 0 P (lift B n Q) a w
def WPL (ro : Option Nat) (P : Program) (B : World) (n : Nat) (ops : Array Oper) (l : List Oper) (fr : Fr) (H : HProp) (Q : Post) : Prop :=
  ∀ a w, Models n a fr → Holds B H w → wpListIn (FW ro) 0 P ops (lift B n Q) l a w

def QSeq (next : Fr → HProp → Prop) (Q : Post) : Post
  | .normal, fr, H => next fr H
  | e, fr, H => Q e fr H
def QBlk (id : Nat) (Q : Post) : Post
  | .exit id', fr, H => if id' = id then Q .normal fr H else Q (.exit id') fr H
  | e, fr, H => Q e fr H

section control
variable {ro : Option Nat} {P : Program} {B : World} {n : Nat} {fr : Fr} {H : HProp} {Q : Post}

theorem WP.ent {c : Code} {G : HProp} (e : Ent H G) (h : WP ro P B n c fr G Q) : WP ro P B n c fr H Q := fun a w hm hh => h a w hm (hh.ent e)
theorem WP.mono {c : Code} {Q' : Post} (h : WP ro P B n c fr H Q) (q : ∀ e fr H, Q e fr H → Q' e fr H) : WP ro P B n c fr H Q' :=
  fun a w hm hh => wpIn_mono (h a w hm hh) (fun _ _ _ ⟨f, G, m, g, x⟩ => ⟨f, G, m, g, q _ _ _ x⟩)
theorem wp_seq' {x y : Code} (h : WP ro P B n x fr H (QSeq (fun fr H => WP ro P B n y fr H Q) Q)) : WP ro P B n (.seq x y) fr H Q := by
  intro a w hm hh
  refine Go.wpIn_seq (wpIn_mono (h a w hm hh) ?_)
  rintro e a w ⟨f, G, m, g, q⟩
  cases e with
  | normal => exact q a w m g
  | _ => exact ⟨f, G, m, g, q⟩
theorem wp_block' {id : Nat} {c : Code} (h : WP ro P B n c fr H (QBlk id Q)) : WP ro P B n (.block id c) fr H Q := by
  intro a w hm hh
  refine Go.wpIn_block (wpIn_mono (h a w hm hh) ?_)
  rintro e a w ⟨f, G, m, g, q⟩
  cases e with
  | exit id' =>
    simp only [Exit.inBlock]
    have q' : if id' = id then Q .normal f G else Q (.exit id') f G := q
    split
    · rename_i hid; rw [if_pos hid] at q'; exact ⟨f, G, m, g, q'⟩
    · rename_i hid; rw [if_neg hid] at q'; exact ⟨f, G, m, g, q'⟩
  | _ => exact ⟨f, G, m, g, q⟩
theorem wp_skip' (h : Q .normal fr H) : WP ro P B n .skip fr H Q := fun a w hm hh => Go.wpIn_skip ⟨fr, H, hm, hh, h⟩
theorem wp_ret' (h : Q .ret fr H) : WP ro P B n .ret fr H Q := fun a w hm hh => Go.wpIn_ret ⟨fr, H, hm, hh, h⟩
theorem wp_exit' {id : Nat} (h : Q (.exit id) fr H) : WP ro P B n (.exit id) fr H Q := fun a w hm hh => Go.wpIn_exit ⟨fr, H, hm, hh, h⟩
theorem wp_cond_t {c : Operand} {x y : Code} (hc : ev fr c = .bool true) (h : WP ro P B n x fr H Q) : WP ro P B n (.cond c x y) fr H Q :=
  fun a w hm hh => Go.wpIn_cond_true (by rw [hm.eval]; exact hc) (h a w hm hh)
theorem wp_cond_f {c : Operand} {x y : Code} (hc : ev fr c = .bool false) (h : WP ro P B n y fr H Q) : WP ro P B n (.cond c x y) fr H Q :=
  fun a w hm hh => Go.wpIn_cond_false (by rw [hm.eval]; exact hc) (h a w hm hh)
theorem wp_cond_b {c : Operand} {x y : Code} {b : Bool} (hc : ev fr c = .bool b) (ht : b = true → WP ro P B n x fr H Q) (hf : b = false → WP ro P B n y fr H Q) :
    WP ro P B n (.cond c x y) fr H Q := by
  cases b
  · exact wp_cond_f hc (hf rfl)
  · exact wp_cond_t hc (ht rfl)
theorem wp_region' {id : Nat} {l : List Oper} (h : WPL ro P B n l.toArray l fr H Q) : WP ro P B n (.region id l.toArray false) fr H Q :=
  fun a w hm hh => wpIn_region_lit (h a w hm hh)
theorem wpl_nil {ops : Array Oper} (h : Q .normal fr H) : WPL ro P B n ops [] fr H Q := fun a w hm hh => wpListIn_nil ⟨fr, H, hm, hh, h⟩
theorem wpl_nil_seq {ops : Array Oper} {next : Fr → HProp → Prop} (h : next fr H) : WPL ro P B n ops [] fr H (QSeq next Q) := wpl_nil h
theorem WPL.ent {ops : Array Oper} {l : List Oper} {G : HProp} (e : Ent H G) (h : WPL ro P B n ops l fr G Q) : WPL ro P B n ops l fr H Q := fun a w hm hh => h a w hm (hh.ent e)
theorem WPL.ex_out {ops : Array Oper} {l : List Oper} {α : Type} {G : α → HProp} (h : ∀ x, WPL ro P B n ops l fr (G x) Q) : WPL ro P B n ops l fr (ex G) Q :=
  fun a w hm hh => let ⟨x, hx⟩ := hh.ex_out; h x a w hm hx

theorem q_seq {next : Fr → HProp → Prop} (h : next fr H) : QSeq next Q .normal fr H := h
theorem q_seq_ret {next : Fr → HProp → Prop} (h : Q .ret fr H) : QSeq next Q .ret fr H := h
theorem q_seq_exit {next : Fr → HProp → Prop} {id : Nat} (h : Q (.exit id) fr H) : QSeq next Q (.exit id) fr H := h
theorem q_blk {id : Nat} (h : Q .normal fr H) : QBlk id Q .normal fr H := h
theorem q_blk_ret {id : Nat} (h : Q .ret fr H) : QBlk id Q .ret fr H := h
theorem q_blk_here {id : Nat} (h : Q .normal fr H) : QBlk id Q (.exit id) fr H := by show if id = id then Q .normal fr H else Q (.exit id) fr H; rw [if_pos rfl]; exact h
theorem q_blk_exit {id id' : Nat} (hne : (id' == id) = false) (h : Q (.exit id') fr H) : QBlk id Q (.exit id') fr H := by
  show if id' = id then Q .normal fr H else Q (.exit id') fr H; rw [if_neg (by simpa using hne)]; exact h

/-- A loop: x tells all that turns from round to round. -/
theorem wp_loop' {α : Type} {c : Code} (F : α → Fr) (G : α → HProp) (ok : α → Prop) (μ : α → Nat) (x0 : α) (hF : fr = F x0) (hG : Ent H (G x0)) (hok : ok x0)
    (round : ∀ x, ok x → WP ro P B n c (F x) (G x) (QSeq (fun fr' H' => ∃ y, fr' = F y ∧ Ent H' (G y) ∧ ok y ∧ μ y < μ x) Q)) : WP ro P B n (.loop c) fr H Q := by
  intro a w hm hh
  subst hF
  have key : ∀ m x a w, μ x = m → ok x → Models n a (F x) → Holds B (G x) w → (Code.loop c).wpIn (FW ro) 0 P (lift B n Q) a w := by
    intro m x a w _ hx hmx hgx
    let I : Act → World → Prop := fun a w => ∃ x, ok x ∧ Models n a (F x) ∧ Holds B (G x) w
    let M : Act → World → Nat → Prop := fun a w k => ∃ x, ok x ∧ Models n a (F x) ∧ Holds B (G x) w ∧ μ x = k
    classical
    let ν : Act → World → Nat := fun a w => if h : ∃ k, M a w k ∧ ∀ j, M a w j → k ≤ j then Classical.choose h else 0
    have least : ∀ a w, I a w → M a w (ν a w) ∧ ∀ j, M a w j → ν a w ≤ j := by
      rintro a w ⟨x, h1, h2, h3⟩
      have hex : ∃ k, M a w k ∧ ∀ j, M a w j → k ≤ j := by
        have hst : ∀ k, M a w k → ∃ k', M a w k' ∧ ∀ j, M a w j → k' ≤ j := by
          intro k
          induction k using Nat.strongRecOn with
          | _ k ih =>
            intro hk
            by_cases hl : ∀ j, M a w j → k ≤ j
            · exact ⟨k, hk, hl⟩
            · simp only [Classical.not_forall] at hl
              obtain ⟨j, hj, hlt⟩ := hl
              exact ih j (by omega) hj
        exact hst _ ⟨x, h1, h2, h3, rfl⟩
      show M a w (if h : ∃ k, M a w k ∧ ∀ j, M a w j → k ≤ j then Classical.choose h else 0) ∧ ∀ j, M a w j → (if h : ∃ k, M a w k ∧ ∀ j, M a w j → k ≤ j then Classical.choose h else 0) ≤ j
      rw [dif_pos hex]
      exact Classical.choose_spec hex
    refine Go.wpIn_loop I ν ⟨x, hx, hmx, hgx⟩ ?_
    intro a w hI
    obtain ⟨x, h1, h2, h3, h4⟩ := (least a w hI).1
    refine wpIn_mono (round x h1 a w h2 h3) ?_
    rintro e a' w' ⟨f, G', m', g', q⟩
    cases e with
    | normal =>
      obtain ⟨y, rfl, hy, hoky, hlt⟩ := q
      have hI' : I a' w' := ⟨y, hoky, m', g'.ent hy⟩
      refine ⟨hI', ?_⟩
      have := (least a' w' hI').2 (μ y) ⟨y, hoky, m', g'.ent hy, rfl⟩
      omega
    | _ => exact ⟨f, G', m', g', q⟩
  exact key _ x0 a w rfl hok hm (hh.ent hG)
/-- Slots that hold what is told. -/
def Agrees (f : Fr) : List (Nat × Value) → Prop
  | [] => True
  | (d, v) :: l => f d = v ∧ Agrees f l
def putAll (f : Fr) : List (Nat × Value) → Fr
  | [] => f
  | (d, v) :: l => (putAll f l).put d v
theorem putAll_self (f : Fr) (l : List (Nat × Value)) (h : Agrees f l) : putAll f l = f := by
  induction l with
  | nil => rfl
  | cons p l ih =>
    obtain ⟨d, v⟩ := p
    obtain ⟨h1, h2⟩ := h
    unfold putAll
    rw [ih h2]
    exact (put_self f d v h1).symm
/-- A loop: M: the slots that its body writes; S: those of them that are read at the head, and what they hold; x: what turns from round to round. -/
theorem wp_loopF {α : Type} {c : Code} (M : List Nat) (S : α → List (Nat × Value)) (G : α → HProp) (ok : α → Prop) (μ : α → Nat) (x0 : α)
    (h0 : Agrees fr (S x0)) (hG : Ent H (G x0)) (hok : ok x0)
    (round : ∀ x g, ok x → WP ro P B n c (putAll (fr.havoc M g) (S x)) (G x)
      (QSeq (fun fr' H' => ∃ y, Aside M fr' fr ∧ Agrees fr' (S y) ∧ Ent H' (G y) ∧ ok y ∧ μ y < μ x) Q)) : WP ro P B n (.loop c) fr H Q := by
  refine wp_loop' (α := α × Fr) (fun x => putAll (fr.havoc M x.2) (S x.1)) (fun x => G x.1) (fun x => ok x.1) (fun x => μ x.1) (x0, fr) ?_ hG hok ?_
  · have e : fr.havoc M fr = fr := ((Aside.refl M fr).self).symm
    simp only [e]
    exact (putAll_self fr _ h0).symm
  · intro x hx
    refine (round x.1 x.2 hx).mono ?_
    intro e f K q
    cases e with
    | normal =>
      obtain ⟨y, ho, ha, he, hy, hm⟩ := q
      refine ⟨(y, f), ?_, he, hy, hm⟩
      show f = putAll (fr.havoc M f) (S y)
      rw [← ho.self]
      exact (putAll_self f _ ha).symm
    | _ => exact q
end control

/-- What a call of a function answers, and leaves. -/
def Does (P : Program) (B : World) (f : FuncId) (args : List Value) (H : HProp) (R : Value → HProp → Prop) : Prop :=
  ∀ w, Holds B H w → Calls P f args.toArray w fun e w' => ∃ v H', e = .returned v ∧ Holds B H' w' ∧ R v H'
theorem Does.mono {P : Program} {B : World} {f : FuncId} {args : List Value} {H : HProp} {R R' : Value → HProp → Prop} (h : Does P B f args H R) (k : ∀ v H, R v H → R' v H) : Does P B f args H R' :=
  fun w hw => (h w hw).mono fun _ _ ⟨v, G, e, g, r⟩ => ⟨v, G, e, g, k _ _ r⟩
theorem Does.ent {P : Program} {B : World} {f : FuncId} {args : List Value} {H G : HProp} {R : Value → HProp → Prop} (e : Ent H G) (h : Does P B f args G R) : Does P B f args H R :=
  fun w hw => h w (hw.ent e)

/-- The blocks of deferred calls that an activation's loops over functions have laid. -/
def marks : List Nat → HProp
  | [] => emp
  | D :: l => obj D (.deferred (some [])) + marks l
/-- What stands behind a body. -/
def QRet (P : Program) (B : World) (fn : Func) (R : Value → HProp → Prop) : Post := fun e fr H =>
  (e = .normal ∨ e = .ret) ∧ ∃ v G G', Ent H (marks fr.ds + G) ∧ (∀ a w, (∀ t, a.getD t undef = fr t) → Holds B G w → (results fn a).run P w = .ok v w) ∧ Ent G G' ∧ R v G'
theorem leaves_marks {P : Program} {B : World} {fn : Func} {tmps : Array Value} {G : HProp} {R : Ending → World → Prop} (h : ∀ w, Holds B G w → LeavesIn (FW none) 0 P fn tmps R [] .returning w) :
    ∀ (ds : List Nat) (w : World), Holds B (marks ds + G) w → LeavesInM (FW none) 0 P fn tmps R (ds.map markOf) .returning w
  | [], w, hw => by
    unfold marks at hw
    rw [HProp.emp_add] at hw
    exact h w hw
  | D :: ds, w, hw => by
    unfold marks at hw
    rw [HProp.add_assoc] at hw
    refine ⟨by simp, .inl ⟨D, _, rfl, run_takeDeferred hw.obj.1, leaves_marks h ds _ ?_⟩⟩
    have hlt : D < w.heap.size := (Array.getElem?_eq_some_iff.1 hw.obj.1).1
    exact (Holds.upd (o' := .deferred none) (w' := w.putObj D (.deferred none)) hw rfl rfl rfl (by simp [World.putObj]) (World.putObj_heap_same hlt) fun k hk => World.putObj_heap_other hk).drop_left
theorem fn_intro (n : Nat) {P : Program} {B : World} {f : FuncId} {fn : Func} {c : Code} {args : List Value} {H : HProp} {R : Value → HProp → Prop}
    (hf : P.funcs[f]? = some fn) (hb : fn.body = some c) (hnn : fn.ntmps = n) (hn : Nat.ble args.length n = true)
    (h : WP none P B n c (Fr.init args) H (QRet P B fn R)) : Does P B f args H R := by
  intro w hw
  subst hnn
  have hn := Nat.le_of_ble_eq_true hn
  refine FW_calls.1 (callsIn_of_wp_marks hf hb trivial ?_)
  have hm : Models fn.ntmps { tmps := args.toArray ++ Array.replicate (fn.ntmps - args.toArray.size) undef, defers := [] } (Fr.init args) := by
    refine ⟨by simp; omega, rfl, fun t => ?_⟩
    simp only [Fr.init_eq, Array.getD_eq_getD_getElem?, List.getD_eq_getElem?_getD, Array.getElem?_append, List.size_toArray, List.getElem?_toArray, Array.getElem?_replicate]
    by_cases ht : t < args.length
    · simp [ht]
    · simp only [ht, if_false]
      split <;> simp [List.getElem?_eq_none (Nat.le_of_not_lt ht)]
  refine wpIn_mono (h _ w hm hw) ?_
  rintro e a w' ⟨f, G0, m, g, he, v, G, G', hG, hr, hG', hR⟩
  have key : LeavesInM (FW none) 0 P fn a.tmps (fun e w' => ∃ v H', e = .returned v ∧ Holds B H' w' ∧ R v H') a.defers .returning w' := by
    rw [m.defers]
    refine leaves_marks (G := G) (fun w hw => ?_) f.ds w' (g.ent hG)
    exact ⟨v, hr a.tmps w m.slot hw, v, G', rfl, hw.ent hG', hR⟩
  rcases he with rfl | rfl
  · exact key
  · exact key

theorem ret1 {P : Program} {B : World} {fn : Func} {R : Value → HProp → Prop} {e : Exit} {fr : Fr} {H : HProp} {t : Nat} {v : Value} (he : e = .normal ∨ e = .ret)
    (hr : fn.results = #[.tmp t]) (hv : fr t = v) (h : R v H) (hds : fr.ds = [] := by rfl) : QRet P B fn R e fr H :=
  ⟨he, v, H, H, by rw [hds]; unfold marks; rw [HProp.emp_add]; exact Ent.refl _, fun a w ha _ => by rw [results_tmp hr, ha, hv], Ent.refl _, h⟩
theorem ret0 {P : Program} {B : World} {fn : Func} {R : Value → HProp → Prop} {e : Exit} {fr : Fr} {H : HProp} (he : e = .normal ∨ e = .ret)
    (hr : fn.results = #[]) (h : R (.tuple #[]) H) (hds : fr.ds = [] := by rfl) : QRet P B fn R e fr H :=
  ⟨he, _, H, H, by rw [hds]; unfold marks; rw [HProp.emp_add]; exact Ent.refl _, fun a w _ _ => by rw [results_none hr], Ent.refl _, h⟩
theorem ret2 {P : Program} {B : World} {fn : Func} {R : Value → HProp → Prop} {e : Exit} {fr : Fr} {H : HProp} {t u : Nat} {v x : Value} (he : e = .normal ∨ e = .ret)
    (hr : fn.results = #[.tmp t, .tmp u]) (hv : fr t = v) (hx : fr u = x) (h : R (.tuple #[v, x]) H) (hds : fr.ds = [] := by rfl) : QRet P B fn R e fr H :=
  ⟨he, _, H, H, by rw [hds]; unfold marks; rw [HProp.emp_add]; exact Ent.refl _, fun a w ha _ => by rw [results_tmp2 hr, ha, ha, hv, hx], Ent.refl _, h⟩
theorem ret3 {P : Program} {B : World} {fn : Func} {R : Value → HProp → Prop} {e : Exit} {fr : Fr} {H : HProp} {t u s : Nat} {v x y : Value} (he : e = .normal ∨ e = .ret)
    (hr : fn.results = #[.tmp t, .tmp u, .tmp s]) (hv : fr t = v) (hx : fr u = x) (hy : fr s = y) (h : R (.tuple #[v, x, y]) H) (hds : fr.ds = [] := by rfl) : QRet P B fn R e fr H :=
  ⟨he, _, H, H, by rw [hds]; unfold marks; rw [HProp.emp_add]; exact Ent.refl _, fun a w ha _ => by rw [results_tmp3 hr, ha, ha, ha, hv, hx, hy], Ent.refl _, h⟩
end Go.SL
set_option linter.unusedSimpArgs false
set_option linter.unusedVariables false
namespace Go.SL
open Go Go.RowKit

section
variable {ro : Option Nat} {P : Program} {B : World} {n : Nat} {ops : Array Oper} {rest : List Oper} {fr : Fr} {H : HProp} {Q : Post}
variable {d : Nat} {ty : TypeId} {pos : String} {after : Array Edge}

theorem semAt_of {ro : Option Nat} {ρ : Operand → Value} {o : Oper} {w w' : World} {r : Next} (h : (execOp ρ o).run P w = .ok r w') (hr : ∀ d, r ≠ .defer d) : (o.semAt ro ρ).run P w = .ok r w' := by
  by_cases hd : ∀ c, o.op ≠ .defer c
  · rw [Oper.semAt_eq ro ρ o hd]; exact h
  · exfalso
    obtain ⟨c, hc⟩ : ∃ c, o.op = .defer c := by
      cases ho : o.op <;> first | exact ⟨_, rfl⟩ | exact absurd (fun c e => by rw [ho] at e; cases e) hd
    obtain ⟨dst, op, ty, pos, after, g⟩ := o
    simp only at hc
    subst hc
    have e : execOp ρ ⟨dst, .defer c, ty, pos, after, g⟩ = (do Pure.pure (Next.defer (← resolve ρ c ty)) : Sem Next) := rfl
    rw [e] at h
    simp only [Sem.run_bind] at h
    cases hres : (resolve ρ c ty).run P w with
    | halt x w'' => rw [hres] at h; simp [Result.andThen] at h
    | ok x w'' => rw [hres] at h; simp [Result.andThen] at h; exact hr x h.1.symm
theorem step_val {op : Op} (hd : Nat.blt d n = true)
    (h : ∀ w, Holds B H w → ∃ v w' H', (execOp (ev fr) ⟨some d, op, ty, pos, after, none⟩).run P w = .ok (.value v) w' ∧ Holds B H' w' ∧ WPL ro P B n ops rest (fr.put d v) H' Q) :
    WPL ro P B n ops (⟨some d, op, ty, pos, after, none⟩ :: rest) fr H Q := by
  intro a w hm hh
  obtain ⟨v, w', H', hr, hh', hk⟩ := h w hh
  unfold wpListIn
  rw [if_pos (by simp [Region.wanted])]
  refine ⟨fun f _ => trivial, ?_⟩
  rw [hm.eval, semAt_of hr (by simp)]
  exact hk _ _ (hm.put (by simpa [Nat.blt_eq] using hd) v) hh'
/-- An operation that looks at no memory. -/
theorem step_pure {op : Op} {v : Value} (hd : Nat.blt d n = true) (hr : ∀ w, (execOp (ev fr) ⟨some d, op, ty, pos, after, none⟩).run P w = .ok (.value v) w)
    (k : WPL ro P B n ops rest (fr.put d v) H Q) : WPL ro P B n ops (⟨some d, op, ty, pos, after, none⟩ :: rest) fr H Q :=
  step_val hd fun w hw => ⟨v, w, H, hr w, hw, k⟩
/-- An operation that only looks. -/
theorem step_look {op : Op} {v : Value} (hd : Nat.blt d n = true) (hr : ∀ w, Holds B H w → (execOp (ev fr) ⟨some d, op, ty, pos, after, none⟩).run P w = .ok (.value v) w)
    (k : WPL ro P B n ops rest (fr.put d v) H Q) : WPL ro P B n ops (⟨some d, op, ty, pos, after, none⟩ :: rest) fr H Q :=
  step_val hd fun w hw => ⟨v, w, H, hr w hw, hw, k⟩
theorem step_act {op : Op}
    (h : ∀ w, Holds B H w → ∃ w' H', (execOp (ev fr) ⟨none, op, ty, pos, after, none⟩).run P w = .ok .skip w' ∧ Holds B H' w' ∧ WPL ro P B n ops rest fr H' Q) :
    WPL ro P B n ops (⟨none, op, ty, pos, after, none⟩ :: rest) fr H Q := by
  intro a w hm hh
  obtain ⟨w', H', hr, hh', hk⟩ := h w hh
  unfold wpListIn
  rw [if_pos (by simp [Region.wanted])]
  refine ⟨fun f _ => trivial, ?_⟩
  rw [hm.eval, semAt_of hr (by simp)]
  exact hk _ _ hm hh'

theorem yielded_of {j s : Nat} {b : Bool} {a : Act} (hm : Models n a fr) (hj : (ops[j]?).bind (·.dst) = some s) (hb : fr s = .bool b) : yielded ops a.tmps j = some b := by
  unfold yielded
  have hs := hm.slot s
  rw [hb] at hs
  rw [hj]
  simp only [Option.bind_some]
  cases ht : a.tmps[s]? with
  | none => simp [Array.getD_eq_getD_getElem?, ht, undef] at hs
  | some v =>
    have : v = .bool b := by simpa [Array.getD_eq_getD_getElem?, ht] using hs
    subst this; rfl
/-- A guarded operation that is wanted. -/
theorem step_wanted {dst : Option Nat} {op : Op} {j s : Nat} {want : Bool} (hj : (ops[j]?).bind (·.dst) = some s) (hb : fr s = .bool want)
    (k : WPL ro P B n ops (⟨dst, op, ty, pos, after, none⟩ :: rest) fr H Q) : WPL ro P B n ops (⟨dst, op, ty, pos, after, some (j, want)⟩ :: rest) fr H Q := by
  intro a w hm hh
  have hk := k a w hm hh
  have hy := yielded_of hm hj hb
  unfold wpListIn at hk ⊢
  rw [if_pos (by simp [Region.wanted])] at hk
  rw [if_pos (by simp [Region.wanted, hy])]
  exact hk
/-- A guarded operation that is not. -/
theorem step_unwanted {op : Op} {j s : Nat} {want b : Bool} (hj : (ops[j]?).bind (·.dst) = some s) (hb : fr s = .bool b) (hne : (b == want) = false) (hd : Nat.blt d n = true)
    (k : WPL ro P B n ops rest (fr.put d undef) H Q) : WPL ro P B n ops (⟨some d, op, ty, pos, after, some (j, want)⟩ :: rest) fr H Q := by
  intro a w hm hh
  have hy := yielded_of hm hj hb
  unfold wpListIn
  rw [if_neg (by simpa [Region.wanted, hy] using hne)]
  exact ⟨fun f _ => trivial, k _ _ (hm.put (by simpa [Nat.blt_eq] using hd) undef) hh⟩
theorem step_unwanted0 {op : Op} {j s : Nat} {want b : Bool} (hj : (ops[j]?).bind (·.dst) = some s) (hb : fr s = .bool b) (hne : (b == want) = false)
    (k : WPL ro P B n ops rest fr H Q) : WPL ro P B n ops (⟨none, op, ty, pos, after, some (j, want)⟩ :: rest) fr H Q := by
  intro a w hm hh
  have hy := yielded_of hm hj hb
  unfold wpListIn
  rw [if_neg (by simpa [Region.wanted, hy] using hne)]
  exact ⟨fun f _ => trivial, k _ _ hm hh⟩

theorem yielded_undef {j s : Nat} {a : Act} (hm : Models n a fr) (hj : (ops[j]?).bind (·.dst) = some s) (hb : fr s = undef) : yielded ops a.tmps j = none := by
  unfold yielded
  have hs := hm.slot s
  rw [hb] at hs
  rw [hj]
  simp only [Option.bind_some]
  cases ht : a.tmps[s]? with
  | none => rfl
  | some v =>
    have : v = undef := by simpa [Array.getD_eq_getD_getElem?, ht] using hs
    subst this; rfl
/-- An operation whose guard was not asked for itself. -/
theorem step_unwantedU {op : Op} {j s : Nat} {want : Bool} (hj : (ops[j]?).bind (·.dst) = some s) (hb : fr s = undef) (hd : Nat.blt d n = true)
    (k : WPL ro P B n ops rest (fr.put d undef) H Q) : WPL ro P B n ops (⟨some d, op, ty, pos, after, some (j, want)⟩ :: rest) fr H Q := by
  intro a w hm hh
  have hy := yielded_undef hm hj hb
  unfold wpListIn
  rw [if_neg (by simp [Region.wanted, hy])]
  exact ⟨fun f _ => trivial, k _ _ (hm.put (by simpa [Nat.blt_eq] using hd) undef) hh⟩
theorem step_unwantedU0 {op : Op} {j s : Nat} {want : Bool} (hj : (ops[j]?).bind (·.dst) = some s) (hb : fr s = undef)
    (k : WPL ro P B n ops rest fr H Q) : WPL ro P B n ops (⟨none, op, ty, pos, after, some (j, want)⟩ :: rest) fr H Q := by
  intro a w hm hh
  have hy := yielded_undef hm hj hb
  unfold wpListIn
  rw [if_neg (by simp [Region.wanted, hy])]
  exact ⟨fun f _ => trivial, k _ _ hm hh⟩

theorem s_move {x : Operand} {v : Value} (hx : ev fr x = v) (hd : Nat.blt d n = true) (k : WPL ro P B n ops rest (fr.put d v) H Q) :
    WPL ro P B n ops (⟨some d, .move x, ty, pos, after, none⟩ :: rest) fr H Q := step_pure hd (fun w => by simp [execOp, hx]) k
theorem s_assign {x : Operand} {v : Value} (hx : ev fr x = v) (hd : Nat.blt d n = true) (k : WPL ro P B n ops rest (fr.put d v) H Q) :
    WPL ro P B n ops (⟨some d, .assign x, ty, pos, after, none⟩ :: rest) fr H Q := step_pure hd (fun w => by simp [execOp, hx]) k
theorem s_pick_t {c x y : Operand} {v : Value} (hc : ev fr c = .bool true) (hx : ev fr x = v) (hd : Nat.blt d n = true) (k : WPL ro P B n ops rest (fr.put d v) H Q) :
    WPL ro P B n ops (⟨some d, .pick c x y, ty, pos, after, none⟩ :: rest) fr H Q := step_pure hd (fun w => by simp [execOp, hc, hx, asBool]) k
theorem s_pick_f {c x y : Operand} {v : Value} (hc : ev fr c = .bool false) (hy : ev fr y = v) (hd : Nat.blt d n = true) (k : WPL ro P B n ops rest (fr.put d v) H Q) :
    WPL ro P B n ops (⟨some d, .pick c x y, ty, pos, after, none⟩ :: rest) fr H Q := step_pure hd (fun w => by simp [execOp, hc, hy, asBool]) k
theorem s_not {x : Operand} {b c : Bool} {t : TypeId} (hx : ev fr x = .bool b) (hb : (!b) = c) (hd : Nat.blt d n = true) (k : WPL ro P B n ops rest (fr.put d (.bool c)) H Q) :
    WPL ro P B n ops (⟨some d, .unOp .not t x, ty, pos, after, none⟩ :: rest) fr H Q := step_pure hd (fun w => by subst hb; simp [execOp, hx, Op.unary]) k
theorem s_extract {x : Operand} {i : Nat} {l : List Value} {v : Value} (hx : ev fr x = .tuple l.toArray) (hi : l[i]? = some v) (hd : Nat.blt d n = true) (k : WPL ro P B n ops rest (fr.put d v) H Q) :
    WPL ro P B n ops (⟨some d, .extract x i, ty, pos, after, none⟩ :: rest) fr H Q :=
  step_pure hd (fun w => by
    have : execOp (ev fr) ⟨some d, .extract x i, ty, pos, after, none⟩ = (do Pure.pure (Next.value (← Instr.extract (ev fr x) i))) := rfl
    rw [this, hx]
    simp [Instr.extract, hi]) k

/-- Arithmetic of whole numbers. -/
theorem s_bin {op : BinOp} {t yt : TypeId} {x y : Operand} {kd : IntKind} {p q : Int} {v : Value} (hx : ev fr x = .int kd p) (hy : ev fr y = .int kd q)
    (hr : ∀ w, (binOp op t (.int kd p) (.int kd q)).run P w = .ok v w) (hd : Nat.blt d n = true) (k : WPL ro P B n ops rest (fr.put d v) H Q) :
    WPL ro P B n ops (⟨some d, .binOp op t x y yt, ty, pos, after, none⟩ :: rest) fr H Q :=
  step_pure hd (fun w => by
    have : execOp (ev fr) ⟨some d, .binOp op t x y yt, ty, pos, after, none⟩ = (do Pure.pure (Next.value (← (do eqGuard op t x y (ev fr x) (ev fr y); binOp op t (ev fr x) (ev fr y))))) := rfl
    rw [this, hx, hy]
    simp [eqGuard_at_int, hr]) k
theorem s_add {t yt : TypeId} {x y : Operand} {p q r : Int} (hx : ev fr x = .int .i64 p) (hy : ev fr y = .int .i64 q) (hr : p + q = r)
    (hb : -9223372036854775808 ≤ r ∧ r ≤ 9223372036854775807) (hd : Nat.blt d n = true) (k : WPL ro P B n ops rest (fr.put d (.int .i64 r)) H Q) :
    WPL ro P B n ops (⟨some d, .binOp .add t x y yt, ty, pos, after, none⟩ :: rest) fr H Q :=
  s_bin hx hy (fun w => by subst hr; simp [binOp_add, Op.intArith, IntWalk.i64_in _ hb]) hd k
theorem s_sub {t yt : TypeId} {x y : Operand} {p q r : Int} (hx : ev fr x = .int .i64 p) (hy : ev fr y = .int .i64 q) (hr : p - q = r)
    (hb : -9223372036854775808 ≤ r ∧ r ≤ 9223372036854775807) (hd : Nat.blt d n = true) (k : WPL ro P B n ops rest (fr.put d (.int .i64 r)) H Q) :
    WPL ro P B n ops (⟨some d, .binOp .sub t x y yt, ty, pos, after, none⟩ :: rest) fr H Q :=
  s_bin hx hy (fun w => by subst hr; simp [binOp_sub, Op.intArith, IntWalk.i64_in _ hb]) hd k
theorem s_mul {t yt : TypeId} {x y : Operand} {p q r : Int} (hx : ev fr x = .int .i64 p) (hy : ev fr y = .int .i64 q) (hr : p * q = r)
    (hb : -9223372036854775808 ≤ r ∧ r ≤ 9223372036854775807) (hd : Nat.blt d n = true) (k : WPL ro P B n ops rest (fr.put d (.int .i64 r)) H Q) :
    WPL ro P B n ops (⟨some d, .binOp .mul t x y yt, ty, pos, after, none⟩ :: rest) fr H Q :=
  s_bin hx hy (fun w => by subst hr; simp [binOp_mul, Op.intArith, IntWalk.i64_in _ hb]) hd k
theorem s_addw {t yt : TypeId} {x y : Operand} {kd : IntKind} {p q r : Int} (hx : ev fr x = .int kd p) (hy : ev fr y = .int kd q) (hr : kd.wrap (p + q) = r)
    (hd : Nat.blt d n = true) (k : WPL ro P B n ops rest (fr.put d (.int kd r)) H Q) :
    WPL ro P B n ops (⟨some d, .binOp .add t x y yt, ty, pos, after, none⟩ :: rest) fr H Q :=
  s_bin hx hy (fun w => by subst hr; simp [binOp_add, Op.intArith]) hd k
theorem s_subw {t yt : TypeId} {x y : Operand} {kd : IntKind} {p q r : Int} (hx : ev fr x = .int kd p) (hy : ev fr y = .int kd q) (hr : kd.wrap (p - q) = r)
    (hd : Nat.blt d n = true) (k : WPL ro P B n ops rest (fr.put d (.int kd r)) H Q) :
    WPL ro P B n ops (⟨some d, .binOp .sub t x y yt, ty, pos, after, none⟩ :: rest) fr H Q :=
  s_bin hx hy (fun w => by subst hr; simp [binOp_sub, Op.intArith]) hd k
theorem s_mulw {t yt : TypeId} {x y : Operand} {kd : IntKind} {p q r : Int} (hx : ev fr x = .int kd p) (hy : ev fr y = .int kd q) (hr : kd.wrap (p * q) = r)
    (hd : Nat.blt d n = true) (k : WPL ro P B n ops rest (fr.put d (.int kd r)) H Q) :
    WPL ro P B n ops (⟨some d, .binOp .mul t x y yt, ty, pos, after, none⟩ :: rest) fr H Q :=
  s_bin hx hy (fun w => by subst hr; simp [binOp_mul, Op.intArith]) hd k
theorem s_quo {t yt : TypeId} {x y : Operand} {kd : IntKind} {p q r : Int} (hx : ev fr x = .int kd p) (hy : ev fr y = .int kd q) (hq : q ≠ 0) (hr : kd.wrap (p.tdiv q) = r)
    (hd : Nat.blt d n = true) (k : WPL ro P B n ops rest (fr.put d (.int kd r)) H Q) :
    WPL ro P B n ops (⟨some d, .binOp .quo t x y yt, ty, pos, after, none⟩ :: rest) fr H Q :=
  s_bin hx hy (fun w => by subst hr; simp [binOp_quo, Op.intDiv, hq]) hd k
theorem s_rem {t yt : TypeId} {x y : Operand} {kd : IntKind} {p q r : Int} (hx : ev fr x = .int kd p) (hy : ev fr y = .int kd q) (hq : q ≠ 0) (hr : p.tmod q = r)
    (hd : Nat.blt d n = true) (k : WPL ro P B n ops rest (fr.put d (.int kd r)) H Q) :
    WPL ro P B n ops (⟨some d, .binOp .rem t x y yt, ty, pos, after, none⟩ :: rest) fr H Q :=
  s_bin hx hy (fun w => by subst hr; simp [binOp_rem, Op.intDiv, hq]) hd k
/-- Comparisons: the answer as a test; known to hold; known not to; either. -/
theorem s_lss {t yt : TypeId} {x y : Operand} {kd : IntKind} {p q : Int} {b : Bool} (hx : ev fr x = .int kd p) (hy : ev fr y = .int kd q) (hr : decide (p < q) = b)
    (hd : Nat.blt d n = true) (k : WPL ro P B n ops rest (fr.put d (.bool b)) H Q) :
    WPL ro P B n ops (⟨some d, .binOp .lss t x y yt, ty, pos, after, none⟩ :: rest) fr H Q :=
  s_bin hx hy (fun w => by subst hr; simp [binOp_lss]) hd k
theorem s_leq {t yt : TypeId} {x y : Operand} {kd : IntKind} {p q : Int} {b : Bool} (hx : ev fr x = .int kd p) (hy : ev fr y = .int kd q) (hr : decide (p ≤ q) = b)
    (hd : Nat.blt d n = true) (k : WPL ro P B n ops rest (fr.put d (.bool b)) H Q) :
    WPL ro P B n ops (⟨some d, .binOp .leq t x y yt, ty, pos, after, none⟩ :: rest) fr H Q :=
  s_bin hx hy (fun w => by subst hr; simp [binOp_leq]) hd k
theorem s_gtr {t yt : TypeId} {x y : Operand} {kd : IntKind} {p q : Int} {b : Bool} (hx : ev fr x = .int kd p) (hy : ev fr y = .int kd q) (hr : decide (q < p) = b)
    (hd : Nat.blt d n = true) (k : WPL ro P B n ops rest (fr.put d (.bool b)) H Q) :
    WPL ro P B n ops (⟨some d, .binOp .gtr t x y yt, ty, pos, after, none⟩ :: rest) fr H Q :=
  s_bin hx hy (fun w => by subst hr; simp [binOp_gtr]) hd k
theorem s_geq {t yt : TypeId} {x y : Operand} {kd : IntKind} {p q : Int} {b : Bool} (hx : ev fr x = .int kd p) (hy : ev fr y = .int kd q) (hr : decide (q ≤ p) = b)
    (hd : Nat.blt d n = true) (k : WPL ro P B n ops rest (fr.put d (.bool b)) H Q) :
    WPL ro P B n ops (⟨some d, .binOp .geq t x y yt, ty, pos, after, none⟩ :: rest) fr H Q :=
  s_bin hx hy (fun w => by subst hr; simp [binOp_geq]) hd k
theorem s_eql {t yt : TypeId} {x y : Operand} {kd : IntKind} {p q : Int} {b : Bool} (hx : ev fr x = .int kd p) (hy : ev fr y = .int kd q) (hr : decide (p = q) = b)
    (hd : Nat.blt d n = true) (k : WPL ro P B n ops rest (fr.put d (.bool b)) H Q) :
    WPL ro P B n ops (⟨some d, .binOp .eql t x y yt, ty, pos, after, none⟩ :: rest) fr H Q :=
  s_bin hx hy (fun w => by
    subst hr; rw [binOp_eql, show (p == q) = decide (p = q) from by by_cases h : p = q <;> simp [h]]; rfl) hd k
theorem s_neq {t yt : TypeId} {x y : Operand} {kd : IntKind} {p q : Int} {b : Bool} (hx : ev fr x = .int kd p) (hy : ev fr y = .int kd q) (hr : decide (p ≠ q) = b)
    (hd : Nat.blt d n = true) (k : WPL ro P B n ops rest (fr.put d (.bool b)) H Q) :
    WPL ro P B n ops (⟨some d, .binOp .neq t x y yt, ty, pos, after, none⟩ :: rest) fr H Q :=
  s_bin hx hy (fun w => by
    subst hr; rw [binOp_neq, show (p != q) = decide (p ≠ q) from by by_cases h : p = q <;> simp [h]]; rfl) hd k
theorem s_lss_t {t yt : TypeId} {x y : Operand} {kd : IntKind} {p q : Int} (hx : ev fr x = .int kd p) (hy : ev fr y = .int kd q) (h : p < q)
    (hd : Nat.blt d n = true) (k : WPL ro P B n ops rest (fr.put d (.bool true)) H Q) :
    WPL ro P B n ops (⟨some d, .binOp .lss t x y yt, ty, pos, after, none⟩ :: rest) fr H Q := s_lss hx hy (decide_eq_true h) hd k
theorem s_lss_f {t yt : TypeId} {x y : Operand} {kd : IntKind} {p q : Int} (hx : ev fr x = .int kd p) (hy : ev fr y = .int kd q) (h : ¬ (p < q))
    (hd : Nat.blt d n = true) (k : WPL ro P B n ops rest (fr.put d (.bool false)) H Q) :
    WPL ro P B n ops (⟨some d, .binOp .lss t x y yt, ty, pos, after, none⟩ :: rest) fr H Q := s_lss hx hy (decide_eq_false h) hd k
theorem s_leq_t {t yt : TypeId} {x y : Operand} {kd : IntKind} {p q : Int} (hx : ev fr x = .int kd p) (hy : ev fr y = .int kd q) (h : p ≤ q)
    (hd : Nat.blt d n = true) (k : WPL ro P B n ops rest (fr.put d (.bool true)) H Q) :
    WPL ro P B n ops (⟨some d, .binOp .leq t x y yt, ty, pos, after, none⟩ :: rest) fr H Q := s_leq hx hy (decide_eq_true h) hd k
theorem s_leq_f {t yt : TypeId} {x y : Operand} {kd : IntKind} {p q : Int} (hx : ev fr x = .int kd p) (hy : ev fr y = .int kd q) (h : ¬ (p ≤ q))
    (hd : Nat.blt d n = true) (k : WPL ro P B n ops rest (fr.put d (.bool false)) H Q) :
    WPL ro P B n ops (⟨some d, .binOp .leq t x y yt, ty, pos, after, none⟩ :: rest) fr H Q := s_leq hx hy (decide_eq_false h) hd k
theorem s_gtr_t {t yt : TypeId} {x y : Operand} {kd : IntKind} {p q : Int} (hx : ev fr x = .int kd p) (hy : ev fr y = .int kd q) (h : q < p)
    (hd : Nat.blt d n = true) (k : WPL ro P B n ops rest (fr.put d (.bool true)) H Q) :
    WPL ro P B n ops (⟨some d, .binOp .gtr t x y yt, ty, pos, after, none⟩ :: rest) fr H Q := s_gtr hx hy (decide_eq_true h) hd k
theorem s_gtr_f {t yt : TypeId} {x y : Operand} {kd : IntKind} {p q : Int} (hx : ev fr x = .int kd p) (hy : ev fr y = .int kd q) (h : ¬ (q < p))
    (hd : Nat.blt d n = true) (k : WPL ro P B n ops rest (fr.put d (.bool false)) H Q) :
    WPL ro P B n ops (⟨some d, .binOp .gtr t x y yt, ty, pos, after, none⟩ :: rest) fr H Q := s_gtr hx hy (decide_eq_false h) hd k
theorem s_geq_t {t yt : TypeId} {x y : Operand} {kd : IntKind} {p q : Int} (hx : ev fr x = .int kd p) (hy : ev fr y = .int kd q) (h : q ≤ p)
    (hd : Nat.blt d n = true) (k : WPL ro P B n ops rest (fr.put d (.bool true)) H Q) :
    WPL ro P B n ops (⟨some d, .binOp .geq t x y yt, ty, pos, after, none⟩ :: rest) fr H Q := s_geq hx hy (decide_eq_true h) hd k
theorem s_geq_f {t yt : TypeId} {x y : Operand} {kd : IntKind} {p q : Int} (hx : ev fr x = .int kd p) (hy : ev fr y = .int kd q) (h : ¬ (q ≤ p))
    (hd : Nat.blt d n = true) (k : WPL ro P B n ops rest (fr.put d (.bool false)) H Q) :
    WPL ro P B n ops (⟨some d, .binOp .geq t x y yt, ty, pos, after, none⟩ :: rest) fr H Q := s_geq hx hy (decide_eq_false h) hd k
theorem s_eql_t {t yt : TypeId} {x y : Operand} {kd : IntKind} {p q : Int} (hx : ev fr x = .int kd p) (hy : ev fr y = .int kd q) (h : p = q)
    (hd : Nat.blt d n = true) (k : WPL ro P B n ops rest (fr.put d (.bool true)) H Q) :
    WPL ro P B n ops (⟨some d, .binOp .eql t x y yt, ty, pos, after, none⟩ :: rest) fr H Q := s_eql hx hy (decide_eq_true h) hd k
theorem s_eql_f {t yt : TypeId} {x y : Operand} {kd : IntKind} {p q : Int} (hx : ev fr x = .int kd p) (hy : ev fr y = .int kd q) (h : ¬ (p = q))
    (hd : Nat.blt d n = true) (k : WPL ro P B n ops rest (fr.put d (.bool false)) H Q) :
    WPL ro P B n ops (⟨some d, .binOp .eql t x y yt, ty, pos, after, none⟩ :: rest) fr H Q := s_eql hx hy (decide_eq_false h) hd k
theorem s_neq_t {t yt : TypeId} {x y : Operand} {kd : IntKind} {p q : Int} (hx : ev fr x = .int kd p) (hy : ev fr y = .int kd q) (h : p ≠ q)
    (hd : Nat.blt d n = true) (k : WPL ro P B n ops rest (fr.put d (.bool true)) H Q) :
    WPL ro P B n ops (⟨some d, .binOp .neq t x y yt, ty, pos, after, none⟩ :: rest) fr H Q := s_neq hx hy (decide_eq_true h) hd k
theorem s_neq_f {t yt : TypeId} {x y : Operand} {kd : IntKind} {p q : Int} (hx : ev fr x = .int kd p) (hy : ev fr y = .int kd q) (h : ¬ (p ≠ q))
    (hd : Nat.blt d n = true) (k : WPL ro P B n ops rest (fr.put d (.bool false)) H Q) :
    WPL ro P B n ops (⟨some d, .binOp .neq t x y yt, ty, pos, after, none⟩ :: rest) fr H Q := s_neq hx hy (decide_eq_false h) hd k
/-- Facts on a program's types. -/
class UnderPtr (P : Program) (t : TypeId) : Prop where
  eq : P.underlying t = some (.pointer (P.pointee t))
class UnderBool (P : Program) (t : TypeId) : Prop where
  eq : P.underlying t = some .bool
class FieldOff (P : Program) (t : TypeId) (f : Nat) (o : outParam Nat) : Prop where
  eq : ∃ fs, P.underlying t = some (.struct fs) ∧ ∃ x, fs[f]? = some x ∧ x.offset = o ∧ 0 < ((P.info? x.type).map (·.size)).getD 0
class SliceOf (P : Program) (t : TypeId) (e : outParam TypeId) (sz bytes : outParam Nat) (z : outParam (List Value)) : Prop where
  eq : P.underlying t = some (.slice e) ∧ ∃ i zv, P.info? e = some i ∧ i.size = sz ∧ i.bytes = bytes ∧ i.zero = some zv ∧ zv.cells = z.toArray ∧ z.length = sz
class ArrayOf (P : Program) (t : TypeId) (len : outParam Nat) (e : outParam TypeId) (sz : outParam Nat) : Prop where
  eq : P.underlying t = some (.array len e) ∧ ∃ i, P.info? e = some i ∧ i.size = sz
class Plain (P : Program) (t : TypeId) : Prop where
  eq : ∃ i ds, P.info? t = some i ∧ P.underlying t = some ds ∧ i.size = 1 ∧ (match ds with | .struct _ | .array _ _ => False | _ => True)
class Aggr (P : Program) (t : TypeId) (sz : outParam Nat) : Prop where
  eq : ∃ i ds, P.info? t = some i ∧ P.underlying t = some ds ∧ i.size = sz ∧ (match ds with | .struct _ | .array _ _ => True | _ => False)
class ZeroOf (P : Program) (t : TypeId) (cs : outParam (List Value)) : Prop where
  eq : ∃ i z, P.info? t = some i ∧ i.zero = some z ∧ z.cells = cs.toArray
class Callable (P : Program) (f : FuncId) : Prop where
  eq : ∃ fn c, P.funcs[f]? = some fn ∧ (fn.name == "runtime.NumGoroutine") = false ∧ fn.body = some c

theorem FieldOff.of {t : TypeId} {f o : Nat} (h : (match P.underlying t with
    | some (.struct fs) => (fs[f]?).bind fun x => if 0 < ((P.info? x.type).map (·.size)).getD 0 then some x.offset else none
    | _ => none) = some o) : FieldOff P t f o := ⟨by
  split at h
  · rename_i fs hu
    cases hx : fs[f]? with
    | none => rw [hx] at h; cases h
    | some x =>
      rw [hx] at h
      simp only [Option.bind_some] at h
      split at h
      · rename_i hs; cases h; exact ⟨fs, hu, x, hx, rfl, hs⟩
      · cases h
  · cases h⟩
theorem SliceOf.of {t e : TypeId} {sz b : Nat} {z : List Value} (h : P.underlying t = some (.slice e)) (h2 : (P.info? e).map (fun i => (i.size, i.bytes, i.zero.map (·.cells))) = some (sz, b, some z.toArray))
    (h3 : z.length = sz) : SliceOf P t e sz b z := ⟨h, by
  cases hi : P.info? e with
  | none => rw [hi] at h2; cases h2
  | some i =>
    rw [hi] at h2
    simp only [Option.map_some, Option.some.injEq, Prod.mk.injEq] at h2
    obtain ⟨h4, h5, h6⟩ := h2
    cases hz : i.zero with
    | none => rw [hz] at h6; cases h6
    | some zv => rw [hz] at h6; exact ⟨i, zv, rfl, h4, h5, hz, by simpa using h6, h3⟩⟩
theorem ArrayOf.of {t e : TypeId} {len sz : Nat} (h : P.underlying t = some (.array len e)) (h2 : (P.info? e).map (·.size) = some sz) : ArrayOf P t len e sz := ⟨h, by
  cases hi : P.info? e with
  | none => rw [hi] at h2; cases h2
  | some i => rw [hi] at h2; exact ⟨i, rfl, by simpa using h2⟩⟩
theorem Plain.of {t : TypeId} (h : (P.info? t).map (·.size) = some 1) (h2 : (match P.underlying t with | some (.struct _) | some (.array _ _) | none => false | _ => true) = true) : Plain P t := ⟨by
  cases hi : P.info? t with
  | none => rw [hi] at h; cases h
  | some i =>
    rw [hi] at h
    cases hu : P.underlying t with
    | none => rw [hu] at h2; cases h2
    | some ds =>
      rw [hu] at h2
      refine ⟨i, ds, rfl, rfl, by simpa using h, ?_⟩
      cases ds <;> first | trivial | cases h2⟩
theorem Aggr.of {t : TypeId} {sz : Nat} (h : (P.info? t).map (·.size) = some sz) (h2 : (match P.underlying t with | some (.struct _) | some (.array _ _) => true | _ => false) = true) : Aggr P t sz := ⟨by
  cases hi : P.info? t with
  | none => rw [hi] at h; cases h
  | some i =>
    rw [hi] at h
    cases hu : P.underlying t with
    | none => rw [hu] at h2; cases h2
    | some ds =>
      rw [hu] at h2
      refine ⟨i, ds, rfl, rfl, by simpa using h, ?_⟩
      cases ds <;> first | trivial | cases h2⟩
theorem ZeroOf.of {t : TypeId} {cs : List Value} (h : (P.info? t).map (fun i => i.zero.map (·.cells)) = some (some cs.toArray)) : ZeroOf P t cs := ⟨by
  cases hi : P.info? t with
  | none => rw [hi] at h; cases h
  | some i =>
    rw [hi] at h
    cases hz : i.zero with
    | none => simp [hz] at h
    | some z => exact ⟨i, z, rfl, hz, by simpa [hz] using h⟩⟩
theorem Callable.of {f : FuncId} (h : (P.funcs[f]?).map (fun fn => (fn.name == "runtime.NumGoroutine", fn.body.isSome)) = some (false, true)) : Callable P f := ⟨by
  cases hf : P.funcs[f]? with
  | none => rw [hf] at h; cases h
  | some fn =>
    rw [hf] at h
    simp only [Option.map_some, Option.some.injEq, Prod.mk.injEq] at h
    cases hb : fn.body with
    | none => rw [hb] at h; simp at h
    | some c => exact ⟨fn, c, rfl, h.1, hb⟩⟩

theorem s_eqbool {t yt : TypeId} [u : UnderBool P t] {x y : Operand} {p q b : Bool} (hx : ev fr x = .bool p) (hy : ev fr y = .bool q) (hr : (p == q) = b)
    (hd : Nat.blt d n = true) (k : WPL ro P B n ops rest (fr.put d (.bool b)) H Q) :
    WPL ro P B n ops (⟨some d, .binOp .eql t x y yt, ty, pos, after, none⟩ :: rest) fr H Q :=
  step_pure hd (fun w => by
    have : execOp (ev fr) ⟨some d, .binOp .eql t x y yt, ty, pos, after, none⟩ = (do Pure.pure (Next.value (← (do eqGuard .eql t x y (ev fr x) (ev fr y); binOp .eql t (ev fr x) (ev fr y))))) := rfl
    rw [this, hx, hy]
    subst hr
    simp [eqGuard_at_bool, run_eql_bool w t p q u.eq]) k
theorem s_nebool {t yt : TypeId} [u : UnderBool P t] {x y : Operand} {p q b : Bool} (hx : ev fr x = .bool p) (hy : ev fr y = .bool q) (hr : (!(p == q)) = b)
    (hd : Nat.blt d n = true) (k : WPL ro P B n ops rest (fr.put d (.bool b)) H Q) :
    WPL ro P B n ops (⟨some d, .binOp .neq t x y yt, ty, pos, after, none⟩ :: rest) fr H Q :=
  step_pure hd (fun w => by
    have : execOp (ev fr) ⟨some d, .binOp .neq t x y yt, ty, pos, after, none⟩ = (do Pure.pure (Next.value (← (do eqGuard .neq t x y (ev fr x) (ev fr y); binOp .neq t (ev fr x) (ev fr y))))) := rfl
    rw [this, hx, hy]
    subst hr
    simp [eqGuard_at_bool, run_neq_bool w t p q u.eq]) k
/-- A pointer against nil. -/
theorem s_eqnil {t yt : TypeId} [u : UnderPtr P t] {x y : Operand} {p : Option Addr} {b : Bool} (hx : ev fr x = .pointer p) (hy : ev fr y = .pointer none) (hr : p.isNone = b)
    (hd : Nat.blt d n = true) (k : WPL ro P B n ops rest (fr.put d (.bool b)) H Q) :
    WPL ro P B n ops (⟨some d, .binOp .eql t x y yt, ty, pos, after, none⟩ :: rest) fr H Q :=
  step_pure hd (fun w => by
    have : execOp (ev fr) ⟨some d, .binOp .eql t x y yt, ty, pos, after, none⟩ = (do Pure.pure (Next.value (← (do eqGuard .eql t x y (ev fr x) (ev fr y); binOp .eql t (ev fr x) (ev fr y))))) := rfl
    rw [this, hx, hy]
    subst hr
    simp [eqGuard_at_pointer, run_eql_pointer_nil w t p u.eq]) k
theorem s_nenil {t yt : TypeId} [u : UnderPtr P t] {x y : Operand} {p : Option Addr} {b : Bool} (hx : ev fr x = .pointer p) (hy : ev fr y = .pointer none) (hr : (!p.isNone) = b)
    (hd : Nat.blt d n = true) (k : WPL ro P B n ops rest (fr.put d (.bool b)) H Q) :
    WPL ro P B n ops (⟨some d, .binOp .neq t x y yt, ty, pos, after, none⟩ :: rest) fr H Q :=
  step_pure hd (fun w => by
    have : execOp (ev fr) ⟨some d, .binOp .neq t x y yt, ty, pos, after, none⟩ = (do Pure.pure (Next.value (← (do eqGuard .neq t x y (ev fr x) (ev fr y); binOp .neq t (ev fr x) (ev fr y))))) := rfl
    rw [this, hx, hy]
    subst hr
    simp [eqGuard_at_pointer, run_neq_pointer_nil w t p u.eq]) k
theorem s_nilCheck {x : Operand} {a : Addr} (hx : ev fr x = .pointer (some a)) (hd : Nat.blt d n = true) (k : WPL ro P B n ops rest (fr.put d (.pointer (some a))) H Q) :
    WPL ro P B n ops (⟨some d, .nilCheck x, ty, pos, after, none⟩ :: rest) fr H Q := step_pure hd (fun w => by simp [execOp, hx]) k
end
end Go.SL
set_option linter.unusedSimpArgs false
set_option linter.unusedVariables false
namespace Go.SL
open Go Go.RowKit

/-- A row of cells that an assertion knows. -/
def Cells (B : World) (H : HProp) (b o : Nat) (vs : List Value) : Prop := ∀ w, Holds B H w → ∀ j v, vs[j]? = some v → w.cell? ⟨b, o + j, none⟩ = some v
theorem Cells.nil {B : World} {H : HProp} {b o : Nat} : Cells B H b o [] := fun _ _ j v h => by simp at h
theorem Cells.ent {B : World} {H G : HProp} {b o : Nat} {vs : List Value} (h : Cells B G b o vs) (e : Ent H G) : Cells B H b o vs := fun w hw => h w (hw.ent e)
theorem Cells.sub {B : World} {H G : HProp} [i : InH G H] {b o : Nat} {vs : List Value} (h : Cells B G b o vs) : Cells B H b o vs := h.ent i.ent
theorem Cells.blk {B : World} {H F : HProp} {b o : Nat} {cs vs : List Value} {e : TypeId} [i : HasBlk H b cs e F] (hv : ∀ j v, vs[j]? = some v → cs[o + j]? = some v) : Cells B H b o vs :=
  fun w hw j v h => blk_cell (F := F) (e := e) (by rw [← i.eq]; exact hw) (hv j v h)
theorem Cells.blk0 {B : World} {H F : HProp} {b : Nat} {cs : List Value} {e : TypeId} [i : HasBlk H b cs e F] : Cells B H b 0 cs :=
  Cells.blk fun j v h => by rw [Nat.zero_add]; exact h
theorem Cells.cell {B : World} {H : HProp} {b o j : Nat} {vs : List Value} {v : Value} (h : Cells B H b o vs) (hj : vs[j]? = some v) : Cell B H b (o + j) v := fun w hw => h w hw j v hj
theorem Cells.base {B : World} {H : HProp} {b o : Nat} {vs : List Value} (h : ∀ j v, vs[j]? = some v → B.cell? ⟨b, o + j, none⟩ = some v) : Cells B H b o vs := fun w hw j v hj => Cell.base (h j v hj) w hw
theorem Cells.take {B : World} {H : HProp} {b o : Nat} {vs : List Value} (h : Cells B H b o vs) (k : Nat) : Cells B H b o (vs.take k) := fun w hw j v hj => h w hw j v (by
  rw [List.getElem?_take] at hj; split at hj
  · exact hj
  · cases hj)
theorem Cells.drop {B : World} {H : HProp} {b o : Nat} {vs : List Value} (h : Cells B H b o vs) (k : Nat) : Cells B H b (o + k) (vs.drop k) := fun w hw j v hj => by
  rw [Nat.add_assoc]; exact h w hw (k + j) v (by rw [List.getElem?_drop] at hj; exact hj)

/-- A slice that can be read: m elements of sz cells each. -/
def Rd (B : World) (H : HProp) (sz : Nat) (v : Value) (m : Nat) (cs : List Value) : Prop :=
  ∃ ao cap, v = .slice ao m cap ∧ cs.length = m * sz ∧ m ≤ maxLen ∧ (cs = [] ∨ ∃ b o, ao = some ⟨b, o, none⟩ ∧ Cells B H b o cs)
theorem Rd.ent {B : World} {H G : HProp} {sz m : Nat} {v : Value} {cs : List Value} (h : Rd B G sz v m cs) (e : Ent H G) : Rd B H sz v m cs := by
  obtain ⟨ao, cap, rfl, hl, hm, hc⟩ := h
  exact ⟨ao, cap, rfl, hl, hm, hc.imp id fun ⟨b, o, ha, h⟩ => ⟨b, o, ha, h.ent e⟩⟩
theorem Rd.sub {B : World} {H G : HProp} [i : InH G H] {sz m : Nat} {v : Value} {cs : List Value} (h : Rd B G sz v m cs) : Rd B H sz v m cs := h.ent i.ent
theorem Rd.nil {B : World} {H : HProp} {sz : Nat} : Rd B H sz (.slice none 0 0) 0 [] := ⟨none, 0, rfl, by simp, Nat.zero_le _, .inl rfl⟩

theorem Rd.addr {B : World} {H : HProp} {m : Nat} {ao : Option Addr} {cs : List Value} (hl : cs.length = m * 1) (h : cs = [] ∨ ∃ b o, ao = some ⟨b, o, none⟩ ∧ Cells B H b o cs) {k : Nat} (hk : k < m) :
    ∃ b o, ao = some ⟨b, o, none⟩ ∧ Cells B H b o cs := by
  rcases h with h | h
  · subst h; simp at hl; omega
  · exact h
/-- A slice of one's own, that may grow. -/
def Mine (e : TypeId) (sz : Nat) (v : Value) (n : Nat) (cs : List Value) : HProp := fun h =>
  cs.length = n * sz ∧ ((v = .slice none 0 0 ∧ n = 0 ∧ h = Hp.none) ∨
    ∃ g cap spare, v = .slice (some ⟨g, 0, none⟩) n cap ∧ n ≤ cap ∧ cap ≤ maxLen ∧ (cs ++ spare).length = cap * sz ∧ blk g (cs ++ spare) e h)
theorem Mine.nil (e : TypeId) (sz : Nat) : Mine e sz (.slice none 0 0) 0 [] = emp := by
  funext h
  apply propext
  constructor
  · rintro ⟨_, ⟨_, _, hh⟩ | ⟨g, cap, sp, hv, _⟩⟩
    · exact hh
    · cases hv
  · intro hh; exact ⟨by simp, .inl ⟨rfl, rfl, hh⟩⟩
theorem Mine.of_blk {e : TypeId} {sz g n cap : Nat} {cs spare all : List Value} (hall : all = cs ++ spare) (hl : cs.length = n * sz) (hn : n ≤ cap) (hc : cap ≤ maxLen) (hs : all.length = cap * sz) :
    Ent (blk g all e) (Mine e sz (.slice (some ⟨g, 0, none⟩) n cap) n cs) := fun h p =>
  ⟨h, Hp.le_refl h, hl, .inr ⟨g, cap, spare, rfl, hn, hc, hall ▸ hs, hall ▸ p⟩⟩
/-- What is known of a slice of one's own. -/
theorem Mine.open {B : World} {w : World} {e : TypeId} {sz n : Nat} {v : Value} {cs : List Value} {F : HProp} (h : Holds B (Mine e sz v n cs + F) w) :
    cs.length = n * sz ∧ ((v = .slice none 0 0 ∧ n = 0 ∧ Holds B F w) ∨
    ∃ g cap spare, v = .slice (some ⟨g, 0, none⟩) n cap ∧ n ≤ cap ∧ cap ≤ maxLen ∧ (cs ++ spare).length = cap * sz ∧ Holds B (blk g (cs ++ spare) e + F) w) := by
  obtain ⟨hb, x, hx, a, c, d, rfl, ⟨hl, p⟩, f⟩ := h
  refine ⟨hl, ?_⟩
  rcases p with ⟨hv, hn, rfl⟩ | ⟨g, cap, sp, hv, h1, h2, h3, h4⟩
  · left; rw [Hp.none_join] at hx; exact ⟨hv, hn, hb, c, hx, f⟩
  · right; exact ⟨g, cap, sp, hv, h1, h2, h3, hb, _, hx, a, c, d, rfl, h4, f⟩
theorem Mine.rd {B : World} {e : TypeId} {sz n : Nat} {v : Value} {cs : List Value} (hz : ∃ w, Holds B (Mine e sz v n cs) w) : Rd B (Mine e sz v n cs) sz v n cs := by
  have key : ∀ w, Holds B (Mine e sz v n cs) w → Holds B (Mine e sz v n cs + emp) w := fun w hw => by rw [HProp.add_emp]; exact hw
  obtain ⟨w0, h0⟩ := hz
  obtain ⟨hl, ⟨rfl, rfl, _⟩ | ⟨g, cap, sp, rfl, h1, h2, h3, _⟩⟩ := Mine.open (key w0 h0)
  · have : cs = [] := List.eq_nil_of_length_eq_zero (by simpa using hl)
    subst this; exact Rd.nil
  · refine ⟨_, cap, rfl, hl, Nat.le_trans h1 h2, .inr ⟨g, 0, rfl, fun w hw j u hj => ?_⟩⟩
    obtain ⟨_, ⟨hv, _, _⟩ | ⟨g', cap', sp', hv, _, _, _, h4⟩⟩ := Mine.open (key w hw)
    · cases hv
    · cases hv
      rw [Nat.zero_add]
      exact blk_cell h4 (by rw [List.getElem?_append_left (by have := (List.getElem?_eq_some_iff.1 hj).1; omega)]; exact hj)

section
variable {ro : Option Nat} {P : Program} {B : World} {n : Nat} {ops : Array Oper} {rest : List Oper} {fr : Fr} {H : HProp} {Q : Post}
variable {d : Nat} {ty : TypeId} {pos : String} {after : Array Edge}

theorem addr_add (b o k : Nat) : (⟨b, o, none⟩ : Addr).add k = ⟨b, o + k, none⟩ := Addr.add_lit b o k

theorem s_fieldAddr {t : TypeId} {x : Operand} {f b o k : Nat} [i : FieldOff P t f k] (hx : ev fr x = .pointer (some ⟨b, o, none⟩)) {o' : Nat} (ho : o + k = o') (hd : Nat.blt d n = true)
    (k' : WPL ro P B n ops rest (fr.put d (.pointer (some ⟨b, o', none⟩))) H Q) :
    WPL ro P B n ops (⟨some d, .fieldAddr t x f, ty, pos, after, none⟩ :: rest) fr H Q := step_pure hd (fun w => by
    obtain ⟨fs, hu, y, hy, hof, hs⟩ := i.eq
    have : execOp (ev fr) ⟨some d, .fieldAddr t x f, ty, pos, after, none⟩ = (do Pure.pure (Next.value (← Instr.fieldAt t (ev fr x) f))) := rfl
    rw [this, hx]
    cases hi : P.info? y.type with
    | none => rw [hi] at hs; simp at hs
    | some inf =>
      rw [hi] at hs
      have hs' : inf.size ≠ 0 := by simp at hs; omega
      subst ho
      simp [Instr.fieldAt, run_underlying hu, hy, Instr.sureAddr, fieldPlace, sizeOf, typeInfo, hi, hs', hof, addr_add]) k'
theorem s_fieldAddr0 {t : TypeId} {x : Operand} {f b k : Nat} [i : FieldOff P t f k] (hx : ev fr x = .pointer (some ⟨b, 0, none⟩)) (hd : Nat.blt d n = true)
    (k' : WPL ro P B n ops rest (fr.put d (.pointer (some ⟨b, k, none⟩))) H Q) :
    WPL ro P B n ops (⟨some d, .fieldAddr t x f, ty, pos, after, none⟩ :: rest) fr H Q := s_fieldAddr hx (Nat.zero_add k) hd k'
theorem s_indexAddr {t e : TypeId} {sz by' : Nat} {z : List Value} {x ix : Operand} {b o len cap j : Nat} {kd : IntKind} {p : Int} [i : SliceOf P t e sz by' z]
    (hx : ev fr x = .slice (some ⟨b, o, none⟩) len cap) (hix : ev fr ix = .int kd p) (hp : p = (j : Int)) (hlt : j < len) {o' : Nat} (ho : o + j * sz = o') (hd : Nat.blt d n = true)
    (k : WPL ro P B n ops rest (fr.put d (.pointer (some ⟨b, o', none⟩))) H Q) :
    WPL ro P B n ops (⟨some d, .indexAddr t x ix, ty, pos, after, none⟩ :: rest) fr H Q := step_pure hd (fun w => by
    obtain ⟨hu, inf, zv, hi, hs, _⟩ := i.eq
    have : execOp (ev fr) ⟨some d, .indexAddr t x ix, ty, pos, after, none⟩ = (do Pure.pure (Next.value (← Instr.indexAt t (ev fr x) (ev fr ix)))) := rfl
    subst ho hp
    rw [this, hx, hix]
    simp [Instr.indexAt, run_underlying hu, asIntOf, hlt, sizeOf, typeInfo, hi, hs, addr_add]) k
/-- The same, at elements of one cell, from the array's head on. -/
theorem s_indexAddr0 {t e : TypeId} {by' : Nat} {z : List Value} {x ix : Operand} {b len cap j : Nat} {kd : IntKind} [i : SliceOf P t e 1 by' z]
    (hx : ev fr x = .slice (some ⟨b, 0, none⟩) len cap) (hix : ev fr ix = .int kd (j : Int)) (hlt : j < len) (hd : Nat.blt d n = true)
    (k : WPL ro P B n ops rest (fr.put d (.pointer (some ⟨b, j, none⟩))) H Q) :
    WPL ro P B n ops (⟨some d, .indexAddr t x ix, ty, pos, after, none⟩ :: rest) fr H Q := s_indexAddr hx hix rfl hlt (by simp) hd k
theorem s_indexAddr1 {t e : TypeId} {by' : Nat} {z : List Value} {x ix : Operand} {b o len cap j : Nat} {kd : IntKind} [i : SliceOf P t e 1 by' z]
    (hx : ev fr x = .slice (some ⟨b, o, none⟩) len cap) (hix : ev fr ix = .int kd (j : Int)) (hlt : j < len) (hd : Nat.blt d n = true)
    (k : WPL ro P B n ops rest (fr.put d (.pointer (some ⟨b, o + j, none⟩))) H Q) :
    WPL ro P B n ops (⟨some d, .indexAddr t x ix, ty, pos, after, none⟩ :: rest) fr H Q := s_indexAddr hx hix rfl hlt (by simp) hd k
theorem s_indexAddrA {t e : TypeId} {alen sz : Nat} {x ix : Operand} {b o j : Nat} {kd : IntKind} {p : Int} [i : ArrayOf P t alen e sz]
    (hx : ev fr x = .pointer (some ⟨b, o, none⟩)) (hix : ev fr ix = .int kd p) (hp : p.toNat = j) (hlt : 0 ≤ p ∧ j < alen) {o' : Nat} (ho : o + j * sz = o') (hd : Nat.blt d n = true)
    (k : WPL ro P B n ops rest (fr.put d (.pointer (some ⟨b, o', none⟩))) H Q) :
    WPL ro P B n ops (⟨some d, .indexAddr t x ix, ty, pos, after, none⟩ :: rest) fr H Q := step_pure hd (fun w => by
    obtain ⟨hu, inf, hi, hs⟩ := i.eq
    have : execOp (ev fr) ⟨some d, .indexAddr t x ix, ty, pos, after, none⟩ = (do Pure.pure (Next.value (← Instr.indexAt t (ev fr x) (ev fr ix)))) := rfl
    have hp' : 0 ≤ p ∧ p < (alen : Int) := by omega
    subst ho hp
    rw [this, hx, hix]
    simp [Instr.indexAt, run_underlying hu, asIntOf, hp', sizeOf, typeInfo, hi, hs, addr_add, Instr.sureAddr]) k
theorem s_load {t : TypeId} {x : Operand} {b o : Nat} {v : Value} [i : Plain P t] (hx : ev fr x = .pointer (some ⟨b, o, none⟩)) (hc : Cell B H b o v) (hd : Nat.blt d n = true)
    (k : WPL ro P B n ops rest (fr.put d v) H Q) : WPL ro P B n ops (⟨some d, .load t x, ty, pos, after, none⟩ :: rest) fr H Q := step_look hd (fun w hw => by
    obtain ⟨inf, ds, hi, hu, _, hds⟩ := i.eq
    have : execOp (ev fr) ⟨some d, .load t x, ty, pos, after, none⟩ = (do Pure.pure (Next.value (← Instr.loadAt t (ev fr x)))) := rfl
    rw [this, hx]
    have hl := hc w hw
    have hagg : (isAgg t).run P w = .ok false w := by cases ds <;> first | exact hds.elim | simp [isAgg, run_underlying hu]
    simp [Instr.loadAt, Instr.sureAddr, loadVar, hagg, run_load, hl]) k
theorem s_loadA {t : TypeId} {sz : Nat} {x : Operand} {b o : Nat} {vs : List Value} [i : Aggr P t sz] (hx : ev fr x = .pointer (some ⟨b, o, none⟩)) (hc : Cells B H b o vs) (hl : vs.length = sz) (hd : Nat.blt d n = true)
    (k : WPL ro P B n ops rest (fr.put d (.agg vs.toArray)) H Q) : WPL ro P B n ops (⟨some d, .load t x, ty, pos, after, none⟩ :: rest) fr H Q := step_look hd (fun w hw => by
    obtain ⟨inf, ds, hi, hu, hs, hds⟩ := i.eq
    have : execOp (ev fr) ⟨some d, .load t x, ty, pos, after, none⟩ = (do Pure.pure (Next.value (← Instr.loadAt t (ev fr x)))) := rfl
    rw [this, hx]
    have hld := run_loadCells_list (P := P) w ⟨b, o, none⟩ vs (fun j v hv => by rw [addr_add]; exact hc w hw j v hv)
    have hagg : (isAgg t).run P w = .ok true w := by cases ds <;> first | exact hds.elim | simp [isAgg, run_underlying hu]
    rw [hl] at hld
    simp [Instr.loadAt, Instr.sureAddr, loadVar, hagg, sizeOf, typeInfo, hi, hs, hld]) k
theorem s_store {t e : TypeId} {x y : Operand} {b o : Nat} {v : Value} {cs : List Value} {F : HProp} [i : Plain P t] (hx : ev fr x = .pointer (some ⟨b, o, none⟩)) [hb : HasBlk H b cs e F] (hy : ev fr y = v)
    (h1 : v.oneCell' = true) (ho : o < cs.length) {cs' : List Value} (hcs : cs.set o v = cs')
    (k : WPL ro P B n ops rest fr (blk b cs' e + F) Q) : WPL ro P B n ops (⟨none, .store t x y, ty, pos, after, none⟩ :: rest) fr H Q := step_act (fun w hw => by
    obtain ⟨inf, ds, hi, hu, hs, _⟩ := i.eq
    have hw' : Holds B (blk b cs e + F) w := by rw [← hb.eq]; exact hw
    have : execOp (ev fr) ⟨none, .store t x y, ty, pos, after, none⟩ = (do Instr.storeAt t (ev fr x) (ev fr y); Pure.pure Next.skip) := rfl
    refine ⟨w.setCell ⟨b, o, none⟩ v, blk b cs' e + F, ?_, hcs ▸ blk_set hw', k⟩
    rw [this, hx, hy]
    have hc : w.cell? ⟨b, o, none⟩ = some cs[o] := blk_cell hw' (by simp [ho])
    have hf := blk_frozen (o := o) hw'
    have hcells : v.cells = #[v] := by cases v <;> first | rfl | (simp [Value.oneCell'] at h1)
    simp [Instr.storeAt, Instr.sureAddr, storeVar, hcells, sizeOf, typeInfo, hi, hs, storeCells, addr_add, run_store P w _ _ _ h1, hc, hf])
theorem s_storeA {t e : TypeId} {sz : Nat} {x y : Operand} {b o : Nat} {vs cs : List Value} {F : HProp} [i : Aggr P t sz] (hx : ev fr x = .pointer (some ⟨b, o, none⟩)) [hb : HasBlk H b cs e F] (hy : ev fr y = .agg vs.toArray)
    (h1 : vs.all Value.oneCell' = true) (hl : vs.length = sz) (ho : o + sz ≤ cs.length) {cs' : List Value} (hcs : cs.take o ++ vs ++ cs.drop (o + sz) = cs')
    (k : WPL ro P B n ops rest fr (blk b cs' e + F) Q) : WPL ro P B n ops (⟨none, .store t x y, ty, pos, after, none⟩ :: rest) fr H Q := step_act (fun w hw => by
    obtain ⟨inf, ds, hi, hu, hs, _⟩ := i.eq
    have hw' : Holds B (blk b cs e + F) w := by rw [← hb.eq]; exact hw
    have : execOp (ev fr) ⟨none, .store t x y, ty, pos, after, none⟩ = (do Instr.storeAt t (ev fr x) (ev fr y); Pure.pure Next.skip) := rfl
    have hst := run_storeCells_at P b o e vs 0 cs.toArray w hw'.obj.1 (by simp; omega) (by simpa using h1)
    simp only [Nat.add_zero] at hst
    refine ⟨w.setRow b cs'.toArray, blk b cs' e + F, ?_, ?_, k⟩
    · rw [this, hx, hy]
      subst hcs
      simp [Instr.storeAt, Instr.sureAddr, storeVar, Value.cells, sizeOf, typeInfo, hi, hs, hl]
      simp [hl] at hst
      rw [hst]; simp
    · refine Holds.upd (o' := .cells cs'.toArray e (0, 0)) hw' rfl rfl rfl (by simp) (setRow_heap w b cs.toArray cs'.toArray e (0, 0) hw'.obj.1) fun k hk => setRow_other w b k _ hk)
theorem s_alloc {t : TypeId} {z : List Value} [i : ZeroOf P t z] (hd : Nat.blt d n = true)
    (k : ∀ b, WPL ro P B n ops rest (fr.put d (.pointer (some ⟨b, 0, none⟩))) (blk b z t + H) Q) : WPL ro P B n ops (⟨some d, .alloc t, ty, pos, after, none⟩ :: rest) fr H Q := step_val hd fun w hw => by
  obtain ⟨inf, zv, hi, hz, hc⟩ := i.eq
  refine ⟨_, _, _, ?_, blk_new hw z t, k w.heap.size⟩
  simp [execOp, Instr.alloc, zeroValue, typeInfo, hi, hz, newVar, newRow, hc]
theorem s_box {t : TypeId} {x : Operand} {v : Value} {cs : List Value} (hx : ev fr x = v) (hv : v.cells = cs.toArray) (hd : Nat.blt d n = true)
    (k : ∀ b, WPL ro P B n ops rest (fr.put d (.pointer (some ⟨b, 0, none⟩))) (blk b cs t + H) Q) : WPL ro P B n ops (⟨some d, .box t x, ty, pos, after, none⟩ :: rest) fr H Q := step_val hd fun w hw => by
  refine ⟨_, _, _, ?_, blk_new hw cs t, k w.heap.size⟩
  simp [execOp, Instr.box, hx, newVar, newRow, hv]
theorem s_len {t : TypeId} {e : TypeId} {sz by' : Nat} {z : List Value} {x : Operand} {ao : Option Addr} {len cap : Nat} [i : SliceOf P t e sz by' z] (hx : ev fr x = .slice ao len cap) (hd : Nat.blt d n = true)
    (k : WPL ro P B n ops rest (fr.put d (.int .i64 (len : Int))) H Q) : WPL ro P B n ops (⟨some d, .call ⟨.builtin .len, #[x], #[t]⟩, ty, pos, after, none⟩ :: rest) fr H Q := step_pure hd (fun w => by
    obtain ⟨hu, _⟩ := i.eq
    simp [execOp, resolve, invoke, builtin, hx, Builtin.len_, run_underlying hu, goInt]) k
theorem s_min2 {t u : TypeId} {x y : Operand} {kd kd' : IntKind} {p q r : Int} (hx : ev fr x = .int kd p) (hy : ev fr y = .int kd' q) (hr : min p q = r) (hd : Nat.blt d n = true)
    (k : WPL ro P B n ops rest (fr.put d (.int kd r)) H Q) : WPL ro P B n ops (⟨some d, .call ⟨.builtin .min, #[x, y], #[t, u]⟩, ty, pos, after, none⟩ :: rest) fr H Q := step_pure hd (fun w => by
    subst hr
    have h := run_min_int2 (P := P) w #[t, u] ty kd kd' p q
    have e : (if q < p then q else p) = min p q := by omega
    rw [e] at h
    simp [execOp, resolve, invoke, builtin, hx, hy, h]) k
theorem s_max2 {t u : TypeId} {x y : Operand} {kd kd' : IntKind} {p q r : Int} (hx : ev fr x = .int kd p) (hy : ev fr y = .int kd' q) (hr : max p q = r) (hd : Nat.blt d n = true)
    (k : WPL ro P B n ops rest (fr.put d (.int kd r)) H Q) : WPL ro P B n ops (⟨some d, .call ⟨.builtin .max, #[x, y], #[t, u]⟩, ty, pos, after, none⟩ :: rest) fr H Q := step_pure hd (fun w => by
    subst hr
    have h := run_max_int2 (P := P) w #[t, u] ty kd kd' p q
    have e : (if q > p then q else p) = max p q := by omega
    rw [e] at h
    simp [execOp, resolve, invoke, builtin, hx, hy, h]) k

/-- A call of a function: it stands by its answer. -/
theorem s_call {f : FuncId} {args : List Operand} {tys : Array TypeId} {vs : List Value} {R : Value → HProp → Prop} [c : Callable P f] (hargs : args.map (ev fr) = vs)
    (h : Does P B f vs H R) (hd : Nat.blt d n = true) (k : ∀ v H', R v H' → WPL ro P B n ops rest (fr.put d v) H' Q) :
    WPL ro P B n ops (⟨some d, .call ⟨.value (.func f), args.toArray, tys⟩, ty, pos, after, none⟩ :: rest) fr H Q := by
  intro a w hm hh
  obtain ⟨fn, cd, hf, hn, hb⟩ := c.eq
  unfold wpListIn
  rw [if_pos (by simp [Region.wanted])]
  refine ⟨fun f _ => trivial, ?_⟩
  rw [hm.eval]
  have hrun : (execOp (ev fr) ⟨some d, .call ⟨.value (.func f), args.toArray, tys⟩, ty, pos, after, none⟩).run P w = .ok (.enter f vs.toArray) w := by
    subst hargs
    have hn' : fn.name ≠ "runtime.NumGoroutine" := by simpa using hn
    simp [execOp, resolve, ev, Deferred.ofValue, invoke, callFunc, hf, hn', hb]
  rw [semAt_of hrun (by simp), Oper.uponIn_enter]
  refine ⟨by simp [FW, Fence.wide], FW_calls.2 ((h w hh).mono ?_)⟩
  rintro e w' ⟨v, H', rfl, hh', hR⟩
  exact k v H' hR _ _ (hm.put (by simpa [Nat.blt_eq] using hd) v) hh'
end
end Go.SL
set_option linter.unusedSimpArgs false
set_option linter.unusedVariables false
namespace Go.SL
open Go Go.RowKit

section
variable {ro : Option Nat} {P : Program} {B : World} {n : Nat} {ops : Array Oper} {rest : List Oper} {fr : Fr} {H : HProp} {Q : Post}
variable {d : Nat} {ty : TypeId} {pos : String} {after : Array Edge}

/-- append: a slice of one's own, and a slice that can be read beside it. -/
theorem append_run {t e : TypeId} {sz by' : Nat} {z : List Value} [i : SliceOf P t e sz by' z] {w : World} {F : HProp} {v : Value} {k m : Nat} {cs news : List Value} {x : Value} (hsz : 0 < sz)
    (hw : Holds B (Mine e sz v k cs + F) w) (hx : Rd B F sz x m news) (h1 : news.all Value.oneCell' = true) (hb : (k + m) * by' ≤ 140737488355328) (h63 : k + m ≤ maxLen) :
    ∃ v' w', (Builtin.append_ #[t, t] ty #[v, x]).run P w = .ok v' w' ∧ Holds B (Mine e sz v' (k + m) (cs ++ news) + F) w' := by
  obtain ⟨hu, inf, zv, hi, hs, hby, hz, hzc, hzl⟩ := i.eq
  subst hs hby
  obtain ⟨ao, xcap, rfl, hnl, hmm, hxc⟩ := hx
  have hwF : Holds B F w := hw.drop_left
  have h63' : k + m ≤ 9223372036854775807 := by simp only [maxLen] at h63; omega
  have h1' : ∀ u ∈ news, u.oneCell' = true := by simpa using h1
  obtain ⟨hcl, hO⟩ := Mine.open hw
  by_cases hm : m = 0
  · subst hm
    have hn : news = [] := List.eq_nil_of_length_eq_zero (by simpa using hnl)
    subst hn
    refine ⟨v, w, ?_, by simpa using hw⟩
    have hld : ∀ a : Addr, (loadCells a 0).run P w = .ok #[] w := fun a => rfl
    rcases hO with ⟨rfl, rfl, _⟩ | ⟨g, cap, sp, rfl, h2, h3, h4, h5⟩
    · cases ao <;> simp [Builtin.append_, run_underlying hu, sizeOf, typeInfo, hi, Builtin.lenOf, Builtin.firstCells, hld]
    · cases ao <;> simp [Builtin.append_, run_underlying hu, sizeOf, typeInfo, hi, Builtin.lenOf, Builtin.firstCells, hld, h2, storeCells]
  · obtain ⟨b, o, rfl, hcx⟩ : ∃ b o, ao = some ⟨b, o, none⟩ ∧ Cells B F b o news := by
      rcases hxc with h | h
      · rw [h] at hnl
        have h0 : m * inf.size = 0 := by simpa using hnl.symm
        rcases Nat.mul_eq_zero.1 h0 with h' | h'
        · exact absurd h' hm
        · omega
      · exact h
    have hnews : ∀ j u, news[j]? = some u → w.cell? ((⟨b, o, none⟩ : Addr).add j) = some u := fun j u hj => by rw [addr_add]; exact hcx w hwF j u hj
    have hzsz : zv.cells.size = inf.size := by rw [hzc]; simpa using hzl
    -- what is laid anew
    have fresh : ∀ (sp : List Value) (cap : Nat), k + m ≤ cap → cap ≤ maxLen → (cs ++ news ++ sp).length = cap * inf.size → ∀ w0 : World, Holds B F w0 → w0.heap.size = w.heap.size →
        Holds B (Mine e inf.size (.slice (some ⟨w.heap.size, 0, none⟩) (k + m) cap) (k + m) (cs ++ news) + F) (w0.alloc (.cells (cs ++ news ++ sp).toArray e)) := by
      intro sp cap hc1 hc2 hl w0 hF hsz0
      have := blk_new hF (cs ++ news ++ sp) e
      rw [hsz0] at this
      refine this.ent ((Mine.of_blk (cs := cs ++ news) (spare := sp) rfl ?_ hc1 hc2 hl).frame_right F)
      simp [hcl, hnl, Nat.add_mul]
    rcases hO with ⟨rfl, rfl, hF⟩ | ⟨g, cap, sp, rfl, h2, h3, h4, h5⟩
    · have hcs : cs = [] := List.eq_nil_of_length_eq_zero (by simpa using hcl)
      subst hcs
      have hr := run_append_nil (P := P) w t ty e inf zv hu hi hz ⟨b, o, none⟩ m xcap news hnl hnews (by omega) (by omega) (by simp only [Nat.zero_add] at hb; omega)
      refine ⟨_, _, hr, ?_⟩
      have hge := grownCap_ge w m 0 e
      have hcm := grownCap_le_maxLen w m 0 e (by simp only [maxLen]; omega)
      have := fresh (Builtin.zeroCells zv.cells (grownCap w m 0 e - m)).toList (grownCap w m 0 e) (by omega) hcm (by
        simp only [List.nil_append, List.length_append, hnl, Array.length_toList, size_zeroCells, hzsz, ← Nat.add_mul]
        congr 1; omega) w.drew hF.drew rfl
      have ea : (news.toArray ++ Builtin.zeroCells zv.cells (grownCap w m 0 e - m)) = (news ++ (Builtin.zeroCells zv.cells (grownCap w m 0 e - m)).toList).toArray := by
        apply Array.ext'; simp
      rw [ea]
      simpa using this
    · by_cases hroom : k + m ≤ cap
      · have hall : (cs ++ sp).length = cap * inf.size := h4
        have hfit : k * inf.size + news.length ≤ (cs ++ sp).toArray.size := by
          simp only [List.size_toArray, hall, hnl, ← Nat.add_mul]; exact Nat.mul_le_mul_right _ hroom
        have hr := run_append_room (P := P) w t ty e inf hu hi g k cap (cs ++ sp).toArray h5.obj.1 ⟨b, o, none⟩ m xcap news hnl hnews h1' hroom hfit
        refine ⟨_, _, hr, ?_⟩
        have hrow : (((cs ++ sp).toArray.toList.take (k * inf.size) ++ news ++ (cs ++ sp).toArray.toList.drop (k * inf.size + news.length)).toArray) = (cs ++ news ++ sp.drop news.length).toArray := by
          apply congrArg List.toArray
          simp only [← hcl, List.take_left, List.drop_append]
          simp
        rw [hrow]
        have hup : Holds B (blk g (cs ++ news ++ sp.drop news.length) e + F) (w.setRow g (cs ++ news ++ sp.drop news.length).toArray) :=
          Holds.upd (o' := .cells (cs ++ news ++ sp.drop news.length).toArray e (0, 0)) h5 rfl rfl rfl (by simp) (setRow_heap w g _ _ e (0, 0) h5.obj.1) fun j hj => setRow_other w g j _ hj
        refine hup.ent ((Mine.of_blk (cs := cs ++ news) (spare := sp.drop news.length) rfl (by simp [hcl, hnl, Nat.add_mul]) hroom h3 ?_).frame_right F)
        have : news.length ≤ sp.length := by
          simp only [List.size_toArray, List.length_append, hcl] at hfit; omega
        simp only [List.length_append, List.length_drop] at hall ⊢
        omega
      · have holds : ∀ j u, cs[j]? = some u → w.cell? ((⟨g, 0, none⟩ : Addr).add j) = some u := fun j u hj => by
          rw [addr_add, Nat.zero_add]
          exact blk_cell h5 (by rw [List.getElem?_append_left (by have := (List.getElem?_eq_some_iff.1 hj).1; omega)]; exact hj)
        have hr := run_append_grow (P := P) w t ty e inf zv hu hi hz ⟨g, 0, none⟩ k cap cs hcl holds ⟨b, o, none⟩ m xcap news hnl hnews (by omega) (by omega) (growslice_fits (by omega) hb)
        refine ⟨_, _, hr, ?_⟩
        have hge := grownCap_ge w (k + m) cap e
        have hcm := grownCap_le_maxLen w (k + m) cap e (by simp only [maxLen]; omega)
        have := fresh (Builtin.zeroCells zv.cells (grownCap w (k + m) cap e - (k + m))).toList (grownCap w (k + m) cap e) hge hcm (by
          simp only [List.length_append, hnl, hcl, Array.length_toList, size_zeroCells, hzsz, ← Nat.add_mul]
          congr 1; omega) w.drew (hwF.drew) rfl
        have ea : (cs.toArray ++ news.toArray ++ Builtin.zeroCells zv.cells (grownCap w (k + m) cap e - (k + m))) = (cs ++ news ++ (Builtin.zeroCells zv.cells (grownCap w (k + m) cap e - (k + m))).toList).toArray := by
          apply Array.ext'; simp
        rw [ea]
        exact this
/-- A slice of one's own in an assertion. -/
class HasOwn (H : HProp) (v : Value) (e : outParam TypeId) (sz k : outParam Nat) (cs : outParam (List Value)) (F : outParam HProp) : Prop where
  eq : H = Mine e sz v k cs + F
instance (v : Value) (e : TypeId) (sz k : Nat) (cs : List Value) (F : HProp) : HasOwn (Mine e sz v k cs + F) v e sz k cs F := ⟨rfl⟩
instance (v : Value) (e : TypeId) (sz k : Nat) (cs : List Value) (G K F : HProp) [h : HasOwn K v e sz k cs F] : HasOwn (G + K) v e sz k cs (G + F) := ⟨by rw [h.eq, HProp.add_left_comm]⟩
instance (v : Value) (e : TypeId) (sz k : Nat) (cs : List Value) (G K F : HProp) [h : HasOwn G v e sz k cs F] : HasOwn (G + K) v e sz k cs (F + K) := ⟨by rw [h.eq, HProp.add_assoc]⟩
theorem s_append {t e : TypeId} {sz by' : Nat} {z : List Value} [i : SliceOf P t e sz by' z] {x y : Operand} {F : HProp} {v u : Value} {k m : Nat} {cs news : List Value}
    (hx : ev fr x = v) (hy : ev fr y = u) [s : HasOwn H v e sz k cs F] (hu : Rd B F sz u m news) (h1 : news.all Value.oneCell' = true) (hsz : Nat.blt 0 sz = true)
    (hb : (k + m) * by' ≤ 140737488355328 ∧ k + m ≤ maxLen) (hd : Nat.blt d n = true)
    (kk : ∀ v', WPL ro P B n ops rest (fr.put d v') (Mine e sz v' (k + m) (cs ++ news) + F) Q) :
    WPL ro P B n ops (⟨some d, .call ⟨.builtin .append, #[x, y], #[t, t]⟩, ty, pos, after, none⟩ :: rest) fr H Q := step_val hd fun w hw => by
  have hw' : Holds B (Mine e sz v k cs + F) w := by rw [← s.eq]; exact hw
  obtain ⟨v', w', hr, hh⟩ := append_run (P := P) (t := t) (ty := ty) (by simpa [Nat.blt_eq] using hsz) hw' hu h1 hb.1 hb.2
  exact ⟨v', w', _, by simp [execOp, resolve, invoke, builtin, hx, hy, hr], hh, kk v'⟩
/-- A new slice of a row of values. -/
theorem s_buildSlice {t e : TypeId} {sz by' len : Nat} {z : List Value} [i : SliceOf P t e sz by' z] {parts : Array (Nat × Operand)} {cs : List Value}
    (hlen : Nat.ble (len * sz) 16777216 = true)
    (hf : Instr.fill (fun i => some (i * sz, sz)) ((Array.range (len * sz)).map fun j => z.toArray[j % z.toArray.size]!) (parts.map fun (i, x) => (i, ev fr x)).toList = some cs.toArray)
    (hd : Nat.blt d n = true) (k : ∀ b, WPL ro P B n ops rest (fr.put d (.slice (some ⟨b, 0, none⟩) len len)) (blk b cs e + H) Q) :
    WPL ro P B n ops (⟨some d, .buildSlice t len parts, ty, pos, after, none⟩ :: rest) fr H Q := step_val hd fun w hw => by
  obtain ⟨hu, inf, zv, hi, hs, _, hz, hzc, _⟩ := i.eq
  subst hs
  have hlen' : ¬ (16777216 < len * inf.size) := by have := Nat.le_of_ble_eq_true hlen; omega
  refine ⟨_, _, _, ?_, blk_new hw cs e, k w.heap.size⟩
  have : execOp (ev fr) ⟨some d, .buildSlice t len parts, ty, pos, after, none⟩ = (do Pure.pure (Next.value (← Instr.buildSlice t len (parts.map fun (i, x) => (i, ev fr x))))) := rfl
  rw [this]
  by_cases h0 : len * inf.size = 0
  · rw [h0] at hf
    simp only [Instr.buildSlice, Sem.run_bind, run_underlying hu, Result.andThen_ok, sizeOf, typeInfo, run_program, hi, Sem.run_pure, Sem.run_ite, gt_iff_lt, Nat.reducePow, hlen', if_false, h0, if_true]
    have hf' : Instr.fill (fun i => some (i * inf.size, inf.size)) ((Array.range 0).map fun j => (#[] : Array Value)[j % (#[] : Array Value).size]!) (parts.map fun (i, x) => (i, ev fr x)).toList = some cs.toArray := by
      simpa [Array.range_zero'] using hf
    rw [hf']
    simp [newRow]
  · simp only [Instr.buildSlice, Sem.run_bind, run_underlying hu, Result.andThen_ok, sizeOf, typeInfo, run_program, hi, Sem.run_pure, Sem.run_ite, gt_iff_lt, Nat.reducePow, hlen', if_false, h0, zeroValue, hz, hzc]
    rw [hf]
    simp [newRow]

theorem cells_one {v : Value} (h : v.oneCell' = true) : v.cells = #[v] := by cases v <;> first | rfl | (simp [Value.oneCell'] at h)
theorem fill_ones (vs : List Value) (h1 : vs.all Value.oneCell' = true) : ∀ (k : Nat) (arr : Array Value), k + vs.length ≤ arr.size →
    Instr.fill (fun i => some (i * 1, 1)) arr ((vs.zipIdx k).map fun p => (p.2, p.1)) = some (arr.toList.take k ++ vs ++ arr.toList.drop (k + vs.length)).toArray := by
  induction vs with
  | nil => intro k arr _; simp [Instr.fill]
  | cons v vs ih =>
    intro k arr hk
    simp only [List.all_cons, Bool.and_eq_true] at h1
    simp only [List.length_cons] at hk
    have hc := cells_one h1.1
    have hfit : ¬ (arr.size < k * 1 + 1) := by omega
    simp only [List.zipIdx_cons, List.map_cons, Instr.fill, hc, List.size_toArray, List.length_cons, List.length_nil, Nat.zero_add, ne_eq, not_true_eq_false, false_or, gt_iff_lt, hfit, if_false]
    have hz : (Array.zipIdx #[v]).foldl (fun cs x => cs.setIfInBounds (k * 1 + x.2) x.1) arr = arr.setIfInBounds k v := by simp
    rw [hz]
    rw [ih h1.2 (k + 1) (arr.setIfInBounds k v) (by simp; omega)]
    have hlt : k < arr.toList.length := by simp; omega
    congr 2
    simp only [Array.toList_setIfInBounds, List.length_cons]
    rw [List.take_succ_eq_append_getElem (by simp; omega)]
    rw [List.drop_set_of_lt (by omega)]
    simp only [List.getElem_set_self, List.append_assoc, List.cons_append, List.nil_append, Nat.add_assoc, Nat.add_comm 1]
    have ht : List.take k (arr.toList.set k v) = List.take k arr.toList := by
      apply List.ext_getElem?
      intro j
      simp only [List.getElem?_take]
      split
      · rw [List.getElem?_set_ne (by omega)]
      · rfl
    rw [ht]
    simp
theorem s_buildInts {t e : TypeId} {by' len : Nat} {z : List Value} [i : SliceOf P t e 1 by' z] {parts : List (Nat × Operand)} {cs : List Value}
    (hv : parts.map (fun p => ev fr p.2) = cs) (hix : parts.map (·.1) = List.range len) (h1 : cs.all Value.oneCell' = true) (hlen : Nat.ble len 16777216 = true)
    (hd : Nat.blt d n = true) (k : ∀ b, WPL ro P B n ops rest (fr.put d (.slice (some ⟨b, 0, none⟩) len len)) (blk b cs e + H) Q) :
    WPL ro P B n ops (⟨some d, .buildSlice t len parts.toArray, ty, pos, after, none⟩ :: rest) fr H Q := by
  refine s_buildSlice (cs := cs) (by simpa using hlen) ?_ hd k
  have hl : parts.length = len := by have := congrArg List.length hix; simpa using this
  have e1 : (Array.map (fun x : Nat × Operand => (x.1, ev fr x.2)) parts.toArray).toList = (cs.zipIdx 0).map fun p => (p.2, p.1) := by
    subst hv
    simp only [List.map_toArray]
    apply List.ext_getElem?
    intro j
    have hj := congrArg (fun l : List Nat => l[j]?) hix
    simp only [List.getElem?_map, List.getElem?_range'] at hj
    simp only [List.getElem?_map, List.getElem?_zipIdx]
    cases hp : parts[j]? with
    | none => simp
    | some p =>
      have hjl : j < len := by have := (List.getElem?_eq_some_iff.1 hp).1; omega
      simp [hp, hjl] at hj
      simp [hj]
  have e2 := fill_ones cs h1 0 ((Array.range (len * 1)).map fun j => z.toArray[j % z.toArray.size]!) (by subst hv; simp [hl])
  show Instr.fill _ _ (Array.map (fun x : Nat × Operand => (x.1, ev fr x.2)) parts.toArray).toList = _
  rw [e1, e2]
  have hcl : cs.length = len := by subst hv; simpa using hl
  simp [hcl]
/-- make: a row of zeros. -/
theorem s_makeSlice {t e : TypeId} {sz by' k c : Nat} {z : List Value} [i : SliceOf P t e sz by' z] {x y : Operand} {kd kd' : IntKind} (hx : ev fr x = .int kd (k : Int)) (hy : ev fr y = .int kd' (c : Int))
    (hkc : k ≤ c) (hb : by' * c ≤ 281474976710656 ∧ c ≤ maxLen) (hd : Nat.blt d n = true)
    (kk : ∀ b, WPL ro P B n ops rest (fr.put d (.slice (some ⟨b, 0, none⟩) k c)) (blk b (List.replicate c z).flatten e + H) Q) :
    WPL ro P B n ops (⟨some d, .makeSlice t x y, ty, pos, after, none⟩ :: rest) fr H Q := step_val hd fun w hw => by
  obtain ⟨hu, inf, zv, hi, hs, hby, hz, hzc, hzl⟩ := i.eq
  obtain ⟨hb1, hb2⟩ := hb
  have h63 : (c : Int) ≤ 9223372036854775807 := by simp only [maxLen] at hb2; omega
  have hb' : (inf.bytes : Int) * (c : Int) ≤ 281474976710656 := by rw [hby, ← Int.natCast_mul]; omega
  have hr := run_make (P := P) w t e inf zv hu hi hz kd kd' (k : Int) (c : Int) (by omega) (by omega) hb' h63
  simp only [Int.toNat_natCast] at hr
  have hcells : madeCells zv.cells (c * inf.size) = (List.replicate c z).flatten.toArray := by
    rw [hs, hzc]
    apply Array.ext
    · rw [size_madeCells]; simp [hzl]
    · intro j h1 h2
      rw [size_madeCells] at h1
      simp only [madeCells, Array.getElem_map, Array.getElem_range, List.getElem_toArray]
      have hsz : 0 < sz := by
        rcases Nat.eq_zero_or_pos sz with h | h
        · subst h; simp at h1
        · exact h
      have hmod : j % z.length < z.length := Nat.mod_lt _ (by omega)
      have hg : ((List.replicate c z).flatten)[j]? = z[j % z.length]? := by
        clear h2 hr hb' hb1 hb2 hkc kk
        have : ∀ (c j : Nat), j < c * z.length → ((List.replicate c z).flatten)[j]? = z[j % z.length]? := by
          intro c
          induction c with
          | zero => intro j hj; simp at hj
          | succ c ih =>
            intro j hj
            rw [List.replicate_succ, List.flatten_cons]
            by_cases hlt : j < z.length
            · rw [List.getElem?_append_left hlt, Nat.mod_eq_of_lt hlt]
            · rw [List.getElem?_append_right (by omega), ih (j - z.length) (by rw [Nat.add_mul] at hj; omega)]
              rw [← Nat.mod_eq_sub_mod (by omega)]
        exact this c j (by rw [hzl]; exact h1)
      have h3 : some ((List.replicate c z).flatten)[j] = some z[j % z.length] := by
        rw [← List.getElem?_eq_getElem, hg, List.getElem?_eq_getElem hmod]
      have h4 := Option.some.inj h3
      rw [h4]
      simp [hmod]
  rw [hcells] at hr
  refine ⟨_, _, _, ?_, blk_new hw _ e, kk w.heap.size⟩
  have : execOp (ev fr) ⟨some d, .makeSlice t x y, ty, pos, after, none⟩ = (do Pure.pure (Next.value (← Instr.makeSlice t (ev fr x) (ev fr y)))) := rfl
  rw [this, hx, hy]
  simp [hr]
/-- Where a part of a slice begins. -/
def partAddr (ao : Option Addr) (cap l sz : Nat) : Option Addr := if cap = l then ao else ao.map fun a => a.add (l * sz)
theorem s_sliceH {t e : TypeId} {sz by' h len cap : Nat} {z : List Value} [i : SliceOf P t e sz by' z] {x u : Operand} {kd' : IntKind} {ao : Option Addr} {q : Int} (hx : ev fr x = .slice ao len cap)
    (hu : ev fr u = .int kd' q) (hq : q = (h : Int)) (hlh : h ≤ cap) (hd : Nat.blt d n = true)
    (k : WPL ro P B n ops rest (fr.put d (.slice ao h cap)) H Q) :
    WPL ro P B n ops (⟨some d, .slice t x none (some u) none, ty, pos, after, none⟩ :: rest) fr H Q := step_pure hd (fun w => by
    obtain ⟨hun, inf, zv, hi, hs, _⟩ := i.eq
    have : execOp (ev fr) ⟨some d, .slice t x none (some u) none, ty, pos, after, none⟩ = (do Pure.pure (Next.value (← Instr.sliceAt t (ev fr x) none (some (ev fr u)) none))) := rfl
    subst hq
    rw [this, hx, hu]
    have e : (ao.map fun a => a.add (0 * inf.size)) = ao := by cases ao <;> simp [Addr.add]
    have e0 : (ao.map fun a => a.add 0) = ao := by cases ao <;> simp [Addr.add]
    simp [Instr.sliceAt, Instr.slice, run_underlying hun, Instr.sliceBounds, Instr.sliceBound, asIntOf, hlh, sizeOf, typeInfo, hi, hs, e0]) k
theorem s_sliceL {t e : TypeId} {sz by' l len cap : Nat} {z : List Value} [i : SliceOf P t e sz by' z] {x y : Operand} {kd : IntKind} {ao : Option Addr} {p : Int} (hx : ev fr x = .slice ao len cap)
    (hy : ev fr y = .int kd p) (hp : p = (l : Int)) (hlh : l ≤ len) (hd : Nat.blt d n = true)
    (k : WPL ro P B n ops rest (fr.put d (.slice (partAddr ao cap l sz) (len - l) (cap - l))) H Q) :
    WPL ro P B n ops (⟨some d, .slice t x (some y) none none, ty, pos, after, none⟩ :: rest) fr H Q := step_pure hd (fun w => by
    obtain ⟨hun, inf, zv, hi, hs, _⟩ := i.eq
    have : execOp (ev fr) ⟨some d, .slice t x (some y) none none, ty, pos, after, none⟩ = (do Pure.pure (Next.value (← Instr.sliceAt t (ev fr x) (some (ev fr y)) none none))) := rfl
    subst hp
    rw [this, hx, hy]
    simp [Instr.sliceAt, Instr.slice, run_underlying hun, Instr.sliceBounds, Instr.sliceBound, asIntOf, hlh, sizeOf, typeInfo, hi, hs, partAddr]) k
/-- A slice against nil. -/
theorem s_eqnilS {t yt e : TypeId} {sz by' : Nat} {z : List Value} [i : SliceOf P t e sz by' z] {x y : Operand} {ao : Option Addr} {l c : Nat} {b : Bool} (hx : ev fr x = .slice ao l c) (hy : ev fr y = .slice none 0 0) (hr : ao.isNone = b)
    (hd : Nat.blt d n = true) (k : WPL ro P B n ops rest (fr.put d (.bool b)) H Q) :
    WPL ro P B n ops (⟨some d, .binOp .eql t x y yt, ty, pos, after, none⟩ :: rest) fr H Q :=
  step_pure hd (fun w => by
    obtain ⟨hun, _⟩ := i.eq
    have : execOp (ev fr) ⟨some d, .binOp .eql t x y yt, ty, pos, after, none⟩ = (do Pure.pure (Next.value (← (do eqGuard .eql t x y (ev fr x) (ev fr y); binOp .eql t (ev fr x) (ev fr y))))) := rfl
    have he : (Op.equal t (.slice ao l c) (.slice none 0 0)).run P w = .ok ao.isNone w := by
      have key : ∀ dd, (Op.equalIn (dd + 1) t (.slice ao l c) (.slice none 0 0)).run P w = .ok ao.isNone w := fun dd => by
        cases ao <;> simp [Op.equalIn, run_underlying hun]
      exact key 9999
    have hb : (binOp .eql t (.slice ao l c) (.slice none 0 0)).run P w = .ok (.bool ao.isNone) w := by
      simp only [binOp]
      simp [he]
    rw [this, hx, hy]
    subst hr
    simp [eqGuard_at_slice, hb]) k
class StructOf (P : Program) (t : TypeId) (pl : outParam (List (Nat × Nat))) (z : outParam (List Value)) : Prop where
  eq : ∀ parts, P.built t parts = Instr.fill (pl.toArray[·]?) z.toArray parts
theorem s_build {t : TypeId} {pl : List (Nat × Nat)} {z cs : List Value} [i : StructOf P t pl z] {parts : List (Nat × Operand)} (hf : Instr.fill (pl.toArray[·]?) z.toArray (parts.map fun p => (p.1, ev fr p.2)) = some cs.toArray) (hd : Nat.blt d n = true)
    (k : WPL ro P B n ops rest (fr.put d (.agg cs.toArray)) H Q) : WPL ro P B n ops (⟨some d, .build t parts.toArray, ty, pos, after, none⟩ :: rest) fr H Q := step_pure hd (fun w => by
    have h := run_build (P := P) w t (parts.map fun p => (p.1, ev fr p.2)).toArray cs.toArray (by rw [i.eq]; exact hf)
    have : execOp (ev fr) ⟨some d, .build t parts.toArray, ty, pos, after, none⟩ = (do Pure.pure (Next.value (← Instr.build t (parts.toArray.map fun (i, x) => (i, ev fr x))))) := rfl
    rw [this]
    have e : (parts.toArray.map fun (i, x) => (i, ev fr x)) = (parts.map fun p => (p.1, ev fr p.2)).toArray := by simp
    rw [e]
    simp [h]) k
class ArrayBuild (P : Program) (t : TypeId) (sz : outParam Nat) (z : outParam (List Value)) : Prop where
  eq : ∀ parts, P.built t parts = Instr.fill (fun i => some (i * sz, sz)) z.toArray parts
theorem s_buildA {t : TypeId} {sz : Nat} {z cs : List Value} [i : ArrayBuild P t sz z] {parts : List (Nat × Operand)} (hf : Instr.fill (fun i => some (i * sz, sz)) z.toArray (parts.map fun p => (p.1, ev fr p.2)) = some cs.toArray) (hd : Nat.blt d n = true)
    (k : WPL ro P B n ops rest (fr.put d (.agg cs.toArray)) H Q) : WPL ro P B n ops (⟨some d, .build t parts.toArray, ty, pos, after, none⟩ :: rest) fr H Q := step_pure hd (fun w => by
    have h := run_build (P := P) w t (parts.map fun p => (p.1, ev fr p.2)).toArray cs.toArray (by rw [i.eq]; exact hf)
    have : execOp (ev fr) ⟨some d, .build t parts.toArray, ty, pos, after, none⟩ = (do Pure.pure (Next.value (← Instr.build t (parts.toArray.map fun (i, x) => (i, ev fr x))))) := rfl
    rw [this]
    have e : (parts.toArray.map fun (i, x) => (i, ev fr x)) = (parts.map fun p => (p.1, ev fr p.2)).toArray := by simp
    rw [e]
    simp [h]) k
end
end Go.SL
