/- Rules for walks: what one's own memory is, and what each operation does. No condition. -/
import Derived.Test.YtlhnmbajbhaaoaaGreatSL2
import Derived.Great.FillDense
import Derived.LaidEqlPtr
import Derived.MapKept
import Derived.Laws.Strings
import Derived.Laws.StructEq
import Derived.Laws.IdiomStrings
import Derived.Lib.ItoaMem
import Derived.Lib.AppendIntMem
import Derived.Sort.Grow
import Derived.Sort.Row
set_option linter.unusedSimpArgs false
set_option linter.unusedVariables false
namespace Go.SL
open Go Go.RowKit

section
variable {ro : Option Nat} {P : Program} {B : World} {n : Nat} {fn : Func} {R R' : Value → HProp → Prop} {e : Exit} {fr : Fr} {H F G : HProp} {Q : Post} {f : FuncId} {args : List Value} {ops : Array Oper} {l : List Oper} {c : Code}
theorem QRet.ent (e' : Ent H G) (h : QRet P B fn R e fr G) : QRet P B fn R e fr H := by
  obtain ⟨he, v, G1, G2, h1, h2, h3, hR⟩ := h
  exact ⟨he, v, G1, G2, e'.trans h1, h2, h3, hR⟩
/-- Something that stands at an index in a sum. -/
class HasAt {ι α : Type} (A : ι → α → HProp) (H : HProp) (i : ι) (x : outParam α) (F : outParam HProp) : Prop where
  eq : H = A i x + F
instance (priority := 100) {ι α : Type} (A : ι → α → HProp) (i : ι) (x : α) : HasAt A (A i x) i x emp := ⟨by rw [HProp.add_emp]⟩
instance (priority := 900) {ι α : Type} (A : ι → α → HProp) (P Q F : HProp) (i : ι) (x : α) [h : HasAt A P i x F] : HasAt A (P + Q) i x (F + Q) := ⟨by rw [h.eq, HProp.add_assoc]⟩
instance {ι α : Type} (A : ι → α → HProp) (P Q F : HProp) (i : ι) (x : α) [h : HasAt A Q i x F] : HasAt A (P + Q) i x (P + F) := ⟨by rw [h.eq, HProp.add_left_comm]⟩
instance (priority := 3000) {ι α : Type} (A : ι → α → HProp) (F : HProp) (i : ι) (x : α) : HasAt A (A i x + F) i x F := ⟨rfl⟩
/-- Something that is seen at an index. -/
class SeesAt {ι α : Type} (A : ι → α → HProp) (H : HProp) (i : ι) (x : outParam α) : Prop where
  ent : Ent H (A i x)
instance {ι α : Type} (A : ι → α → HProp) (i : ι) (x : α) : SeesAt A (A i x) i x := ⟨Ent.refl _⟩
instance {ι α : Type} (A : ι → α → HProp) (P Q : HProp) (i : ι) (x : α) [h : SeesAt A P i x] : SeesAt A (P + Q) i x := ⟨(Ent.drop_right P Q).trans h.ent⟩
instance {ι α : Type} (A : ι → α → HProp) (P Q : HProp) (i : ι) (x : α) [h : SeesAt A Q i x] : SeesAt A (P + Q) i x := ⟨(Ent.drop_left P Q).trans h.ent⟩

instance (priority := 2000) {ι α : Type} (A : ι → α → HProp) (P : HProp) (i : ι) (x : α) : HasAt A (P + A i x) i x P := ⟨HProp.add_comm _ _⟩
instance (priority := 3000) {A F : HProp} : Split (A + F) A F := ⟨rfl⟩
instance (priority := 2000) {P A : HProp} : Split (P + A) A P := ⟨HProp.add_comm P A⟩
instance (priority := 100) {A : HProp} : Split A A emp := ⟨by rw [HProp.add_emp]⟩
instance (priority := 500) {H A C F G : HProp} [h : Split H A G] [k : Split G C F] : Split H (A + C) F := ⟨by rw [h.eq, k.eq, HProp.add_assoc]⟩

instance (priority := 100) {b : Nat} {cs : List Value} {e : TypeId} : HasBlk (blk b cs e) b cs e emp := ⟨by rw [HProp.add_emp]⟩
instance (priority := 2000) {P : HProp} {b : Nat} {cs : List Value} {e : TypeId} : HasBlk (P + blk b cs e) b cs e P := ⟨HProp.add_comm _ _⟩
instance (priority := 3000) {F : HProp} {b : Nat} {cs : List Value} {e : TypeId} : HasBlk (blk b cs e + F) b cs e F := ⟨rfl⟩
instance (priority := 100) {v : Value} {e : TypeId} {sz k : Nat} {cs : List Value} : HasOwn (Mine e sz v k cs) v e sz k cs emp := ⟨by rw [HProp.add_emp]⟩
instance (priority := 2000) {P : HProp} {v : Value} {e : TypeId} {sz k : Nat} {cs : List Value} : HasOwn (P + Mine e sz v k cs) v e sz k cs P := ⟨HProp.add_comm _ _⟩
instance (priority := 3000) {F : HProp} {v : Value} {e : TypeId} {sz k : Nat} {cs : List Value} : HasOwn (Mine e sz v k cs + F) v e sz k cs F := ⟨rfl⟩
theorem Ent.fact_in {p : Prop} (h : p) : Ent H (fact p H) := fun x hx => ⟨x, Hp.le_refl x, h, hx⟩
theorem Does.at {ι α : Type} {A : ι → α → HProp} {i : ι} {x : α} [h : HasAt A H i x F] (d : Does P B f args (A i x + F) R) : Does P B f args H R := by rw [h.eq]; exact d
theorem WPL.at {ι α : Type} (A : ι → α → HProp) (i : ι) {x : α} [h : HasAt A H i x F] (d : WPL ro P B n ops l fr (A i x + F) Q) : WPL ro P B n ops l fr H Q := by rw [h.eq]; exact d
theorem WP.at {ι α : Type} (A : ι → α → HProp) (i : ι) {x : α} [h : HasAt A H i x F] (d : WP ro P B n c fr (A i x + F) Q) : WP ro P B n c fr H Q := by rw [h.eq]; exact d
theorem Does.weak (h : Does P B f args H R) (k : ∀ v H1, R v H1 → ∃ G, Ent H1 G ∧ R' v G) : Does P B f args H R' := fun w hw =>
  (h w hw).mono fun _ _ ⟨v, G, he, hg, r⟩ => let ⟨G', e', r'⟩ := k v G r; ⟨v, G', he, hg.ent e', r'⟩
theorem Does.same {v : Value} (h : Does P B f args H fun r H' => Ent H' G ∧ r = v) : Does P B f args H fun r H' => H' = G ∧ r = v :=
  h.weak fun _ _ ⟨e, hr⟩ => ⟨_, e, rfl, hr⟩
/-- What is left over is given back. -/
theorem Does.frame0 {v : Value} (h : Does P B f args H fun r H' => Ent H' H ∧ r = v) : Does P B f args H fun r H' => H' = H ∧ r = v := h.same

section
variable {rest : List Oper} {d : Nat} {ty : TypeId} {pos : String} {after : Array Edge}
/-- A block is written over as a whole. -/
theorem s_storeW {t e : TypeId} {sz : Nat} {x y : Operand} {b : Nat} {vs cs : List Value} {F : HProp} [i : Aggr P t sz] (hx : ev fr x = .pointer (some ⟨b, 0, none⟩)) [hb : HasBlk H b cs e F] (hy : ev fr y = .agg vs.toArray)
    (h1 : vs.all Value.oneCell' = true) (hl : vs.length = sz) (ho : cs.length = sz)
    (k : WPL ro P B n ops rest fr (blk b vs e + F) Q) : WPL ro P B n ops (⟨none, .store t x y, ty, pos, after, none⟩ :: rest) fr H Q :=
  s_storeA (cs := cs) hx hy h1 hl (by omega) (by rw [List.drop_of_length_le (by omega)]; simp) k
end
/-- A slice of one's own, cut short. -/
theorem Mine.cut {e : TypeId} {sz k m cap : Nat} {ao : Option Addr} {cs : List Value} (hm : m ≤ k) : Ent (Mine e sz (.slice ao k cap) k cs) (Mine e sz (.slice ao m cap) m (cs.take (m * sz))) := by
  rintro h ⟨hl, ⟨hv, hk, rfl⟩ | ⟨g, cap', sp, hv, h1, h2, h3, h4⟩⟩
  · cases hv
    have : m = 0 := by omega
    subst this
    exact ⟨_, Hp.le_refl _, by simp, .inl ⟨rfl, rfl, rfl⟩⟩
  · cases hv
    have hmk : m * sz ≤ cs.length := by rw [hl]; exact Nat.mul_le_mul_right _ hm
    refine ⟨h, Hp.le_refl _, by simp [hmk], .inr ⟨g, cap, cs.drop (m * sz) ++ sp, rfl, by omega, h2, ?_, ?_⟩⟩
    · rw [← List.append_assoc, List.take_append_drop]; exact h3
    · rw [← List.append_assoc, List.take_append_drop]; exact h4
/-- One assertion off another one, atom by atom. -/
theorem Ent.auto {P Q : HProp} (h : Ent P Q := by
  (try simp only [HProp.add_assoc, HProp.add_emp, HProp.emp_add])
  repeat (first | exact Ent.refl _ | exact InH.ent | refine Ent.step (Ent.refl _) ?_)) : Ent P Q := h

/-- A loop that leaves the memory alone. -/
theorem wp_loopR {α : Type} (M : List Nat) (S : α → List (Nat × Value)) (ok : α → Prop) (μ : α → Nat) (x0 : α)
    (h0 : Agrees fr (S x0)) (hok : ok x0)
    (round : ∀ x g, ok x → WP ro P B n c (putAll (fr.havoc M g) (S x)) H
      (QSeq (fun fr' H' => ∃ y, Aside M fr' fr ∧ Agrees fr' (S y) ∧ Ent H' H ∧ ok y ∧ μ y < μ x) Q)) : WP ro P B n (.loop c) fr H Q :=
  wp_loopF M S (fun _ => H) ok μ x0 h0 (Ent.refl _) hok round
end
end Go.SL
namespace Go.SL
open Go Go.RowKit
section
variable {P : Program} {B : World} {H F G : HProp} {f : FuncId} {args : List Value}
end
end Go.SL
namespace Go.SL
open Go Go.RowKit
section
variable {B : World} {H : HProp}
theorem Rd.sliceL {sz n cap : Nat} {ao : Option Addr} {cs : List Value} (l : Nat) (h : Rd B H sz (.slice ao n cap) n cs) (hl : l ≤ n) (hc : n ≤ cap) :
    Rd B H sz (.slice (partAddr ao cap l sz) (n - l) (cap - l)) (n - l) (cs.drop (l * sz)) := by
  obtain ⟨_, _, hv, hlen, hm, ha⟩ := h
  cases hv
  refine ⟨_, _, rfl, by rw [List.length_drop, hlen, Nat.sub_mul], by omega, ?_⟩
  by_cases h0 : cs.drop (l * sz) = []
  · exact .inl h0
  · right
    rcases ha with h | ⟨b, o, rfl, hcs⟩
    · rw [h] at h0; simp at h0
    · have : ¬ cap = l := by
        intro e
        apply h0
        apply List.drop_of_length_le
        rw [hlen]
        exact Nat.mul_le_mul_right _ (by omega)
      refine ⟨b, o + l * sz, ?_, hcs.drop _⟩
      unfold partAddr
      rw [if_neg this]
      simp [addr_add]
theorem Rd.sliceH {sz n cap : Nat} {ao : Option Addr} {cs : List Value} (m : Nat) (h : Rd B H sz (.slice ao n cap) n cs) (hm : m ≤ n) :
    Rd B H sz (.slice ao m cap) m (cs.take (m * sz)) := by
  obtain ⟨_, _, hv, hlen, hx, ha⟩ := h
  cases hv
  refine ⟨_, _, rfl, ?_, by omega, ?_⟩
  · rw [List.length_take, hlen]; exact Nat.min_eq_left (Nat.mul_le_mul_right _ hm)
  · rcases ha with h | ⟨b, o, rfl, hcs⟩
    · left; rw [h]; simp
    · right; exact ⟨b, o, rfl, hcs.take _⟩
end
end Go.SL
namespace Go.SL
open Go Go.RowKit
theorem flatten_get {sz : Nat} : ∀ (rows : List (List Value)), (∀ r ∈ rows, r.length = sz) → ∀ k, k < rows.length * sz → rows.flatten[k]? = (rows[k / sz]?).bind fun r => r[k % sz]?
  | [], _, k, hk => by simp at hk
  | r :: rows, h, k, hk => by
    have hr := h r (by simp)
    by_cases hlt : k < sz
    · rw [List.flatten_cons, List.getElem?_append_left (by omega), Nat.div_eq_of_lt hlt, Nat.mod_eq_of_lt hlt]
      simp
    · have hs : 0 < sz := by
        rcases Nat.eq_zero_or_pos sz with h | h
        · subst h; simp at hk
        · exact h
      rw [List.flatten_cons, List.getElem?_append_right (by omega), hr, flatten_get rows (fun r hr => h r (by simp [hr])) (k - sz) (by simp only [List.length_cons, Nat.add_mul] at hk; omega)]
      have e1 : k / sz = (k - sz) / sz + 1 := by
        rw [← Nat.sub_add_cancel (show sz ≤ k by omega), Nat.add_div_right _ hs, Nat.add_sub_cancel]
      have e2 : k % sz = (k - sz) % sz := by
        have := Nat.add_mod_right (k - sz) sz
        rw [Nat.sub_add_cancel (show sz ≤ k by omega)] at this
        exact this
      rw [e1, e2, List.getElem?_cons_succ]
theorem flatten_len {sz : Nat} : ∀ (rows : List (List Value)), (∀ r ∈ rows, r.length = sz) → rows.flatten.length = rows.length * sz
  | [], _ => by simp
  | r :: rows, h => by
    have hr := h r (by simp)
    have ih := flatten_len rows fun r hr => h r (by simp [hr])
    simp only [List.flatten_cons, List.length_append, List.length_cons, hr, ih, Nat.add_mul]; omega
theorem fill_rows {sz : Nat} (hs : 0 < sz) (rows : List (List Value)) (h : ∀ r ∈ rows, r.length = sz) (cells : Array Value) (hc : cells.size = rows.length * sz) :
    Instr.fill (fun i => some (i * sz, sz)) cells (((rows.map fun r => Value.agg r.toArray).zipIdx 0).map fun x => (x.2, x.1)) = some rows.flatten.toArray := by
  obtain ⟨r, hr, hsz, hk⟩ := Go.Great.fill_dense hs (rows.map fun r => Value.agg r.toArray) 0 cells (fun v hv => by
    obtain ⟨r, hr, rfl⟩ := List.mem_map.1 hv
    simp [Value.cells, h r hr]) (by simp [hc])
  rw [hr]
  congr 1
  apply Array.ext_getElem?
  intro k
  rw [hk k]
  simp only [Nat.zero_mul, Nat.zero_le, true_and, Nat.zero_add, List.length_map, Nat.sub_zero]
  by_cases hlt : k < rows.length * sz
  · rw [if_pos hlt]
    have := flatten_get rows h k hlt
    simp only [List.getElem?_toArray, this, List.getElem?_map]
    cases rows[k / sz]? <;> simp [Value.cells]
  · rw [if_neg hlt]
    have e1 : cells[k]? = none := Array.getElem?_eq_none (by omega)
    have e2 : rows.flatten.toArray[k]? = none := Array.getElem?_eq_none (by simp only [List.size_toArray, flatten_len rows h]; omega)
    rw [e1, e2]
section
variable {ro : Option Nat} {P : Program} {B : World} {n : Nat} {ops : Array Oper} {rest : List Oper} {fr : Fr} {H : HProp} {Q : Post}
variable {d : Nat} {ty : TypeId} {pos : String} {after : Array Edge}
/-- A new slice of rows. -/
theorem s_buildRows {t e : TypeId} {sz by' len : Nat} {z : List Value} [i : SliceOf P t e sz by' z] {parts : List (Nat × Operand)} (rows : List (List Value))
    (hv : parts.map (fun p => ev fr p.2) = rows.map fun r => Value.agg r.toArray) (hix : parts.map (·.1) = List.range len) (h1 : rows.all (fun r => Nat.beq r.length sz) = true) (hlen : Nat.ble (len * sz) 16777216 = true) (hs : Nat.blt 0 sz = true)
    (hd : Nat.blt d n = true) (k : ∀ b, WPL ro P B n ops rest (fr.put d (.slice (some ⟨b, 0, none⟩) len len)) (blk b rows.flatten e + H) Q) :
    WPL ro P B n ops (⟨some d, .buildSlice t len parts.toArray, ty, pos, after, none⟩ :: rest) fr H Q := by
  refine s_buildSlice (cs := rows.flatten) hlen ?_ hd k
  have hl : parts.length = len := by have := congrArg List.length hix; simpa using this
  have hrl : rows.length = len := by have := congrArg List.length hv; simp at this; omega
  have e1 : (Array.map (fun x : Nat × Operand => (x.1, ev fr x.2)) parts.toArray).toList = ((rows.map fun r => Value.agg r.toArray).zipIdx 0).map fun p => (p.2, p.1) := by
    rw [← hv]
    simp only [List.map_toArray]
    apply List.ext_getElem?
    intro j
    have hj := congrArg (fun l : List Nat => l[j]?) hix
    simp only [List.getElem?_map, List.getElem?_range'] at hj
    simp only [List.getElem?_map, List.getElem?_zipIdx]
    cases hp : parts[j]? with
    | none => simp
    | some p =>
      have hjl : j < len := by have := (List.getElem?_eq_some_iff.1 hp).1; omega
      simp [hp, hjl] at hj
      simp [hj]
  show Instr.fill _ _ (Array.map (fun x : Nat × Operand => (x.1, ev fr x.2)) parts.toArray).toList = _
  rw [e1]
  exact fill_rows (by simpa [Nat.blt_eq] using hs) rows (fun r hr => by simpa using (List.all_eq_true.1 h1) r hr) _ (by simp [hrl])
end
end Go.SL
set_option linter.unusedSimpArgs false
set_option linter.unusedVariables false
namespace Go.SL
open Go Go.RowKit
/-- The record of a loop over a function. -/
def lrec (l : Nat) (st : LoopState) (pend : Option Code) (n : Nat) (fr : Nat → Value) (p : Nat) (assign body : Code) (D : Nat) : HProp :=
  ex fun x : FuncId × Array Value => fact (x.2.size = n ∧ ∀ t, x.2.getD t undef = fr t) (obj l (.loop { state := st, pending := pend, fn := x.1, tmps := x.2, params := #[p], assign := assign, body := body, defers := D }))
theorem lrec_open {B : World} {w : World} {l : Nat} {st : LoopState} {pend : Option Code} {n : Nat} {fr : Nat → Value} {p : Nat} {assign body : Code} {D : Nat} {H : HProp} (h : Holds B (lrec l st pend n fr p assign body D + H) w) :
    ∃ (fn : FuncId) (tmps : Array Value), tmps.size = n ∧ (∀ t, tmps.getD t undef = fr t) ∧ Holds B (obj l (.loop { state := st, pending := pend, fn := fn, tmps := tmps, params := #[p], assign := assign, body := body, defers := D }) + H) w := by
  unfold lrec at h
  rw [ex_add] at h
  obtain ⟨⟨fn, tmps⟩, h⟩ := h.ex_out
  rw [fact_add] at h
  obtain ⟨⟨h1, h2⟩, h⟩ := h.fact_out
  exact ⟨fn, tmps, h1, h2, h⟩
theorem lrec_shut {B : World} {w : World} {l : Nat} {st : LoopState} {pend : Option Code} {n : Nat} {fr : Nat → Value} {p : Nat} {assign body : Code} {D : Nat} {H : HProp} {fn : FuncId} {tmps : Array Value} (h1 : tmps.size = n) (h2 : ∀ t, tmps.getD t undef = fr t)
    (h : Holds B (obj l (.loop { state := st, pending := pend, fn := fn, tmps := tmps, params := #[p], assign := assign, body := body, defers := D }) + H) w) : Holds B (lrec l st pend n fr p assign body D + H) w := by
  unfold lrec
  rw [ex_add]
  refine Holds.ex_in (fn, tmps) ?_
  rw [fact_add]
  exact Holds.fact_in ⟨h1, h2⟩ h
theorem obj_turn {B : World} {w : World} {l : Nat} {o o' : Obj} {H : HProp} (h : Holds B (obj l o + H) w) : Holds B (obj l o' + H) (w.putObj l o') := by
  have hlt : l < w.heap.size := (Array.getElem?_eq_some_iff.1 h.obj.1).1
  exact Holds.upd (o' := o') h rfl rfl rfl (by simp [World.putObj]) (World.putObj_heap_same hlt) fun k hk => World.putObj_heap_other hk

/-- A call of yield. -/
def Yield (P : Program) (B : World) (l : Nat) (args : List Value) (H : HProp) (R : Value → HProp → Prop) : Prop :=
  ∀ w, Holds B H w → ∃ fn tmps assign body, (Instr.yield l args.toArray).run P w = .ok (.round l fn tmps assign body) w ∧ RoundIn (FW none) 0 P l fn tmps assign body w fun e w' => ∃ v H', e = .returned v ∧ Holds B H' w' ∧ R v H'
theorem Yield.mono {P : Program} {B : World} {l : Nat} {args : List Value} {H : HProp} {R R' : Value → HProp → Prop} (h : Yield P B l args H R) (k : ∀ v H, R v H → R' v H) : Yield P B l args H R' := fun w hw => by
  obtain ⟨fn, tmps, assign, body, h1, h2⟩ := h w hw
  refine ⟨fn, tmps, assign, body, h1, h2.mono ?_⟩
  rintro e w' ⟨v, G, he, hg, r⟩
  exact ⟨v, G, he, hg, k _ _ r⟩
theorem Yield.ent {P : Program} {B : World} {l : Nat} {args : List Value} {H G : HProp} {R : Value → HProp → Prop} (e : Ent H G) (h : Yield P B l args G R) : Yield P B l args H R := fun w hw => h w (hw.ent e)
section
variable {ro : Option Nat} {P : Program} {B : World} {n : Nat} {ops : Array Oper} {rest : List Oper} {fr : Fr} {H : HProp} {Q : Post}
variable {d : Nat} {ty : TypeId} {pos : String} {after : Array Edge}
theorem s_yield {x : Operand} {l : Nat} {args : List Operand} {tys : Array TypeId} {vs : List Value} {R : Value → HProp → Prop} (hx : ev fr x = .func (.yield l) #[] #[]) (hargs : args.map (ev fr) = vs)
    (h : Yield P B l vs H R) (hd : Nat.blt d n = true) (k : ∀ v H', R v H' → WPL ro P B n ops rest (fr.put d v) H' Q) :
    WPL ro P B n ops (⟨some d, .call ⟨.value x, args.toArray, tys⟩, ty, pos, after, none⟩ :: rest) fr H Q := by
  intro a w hm hh
  obtain ⟨fn, tmps, assign, body, hy, hr⟩ := h w hh
  unfold wpListIn
  rw [if_pos (by simp [Region.wanted])]
  refine ⟨fun f _ => trivial, ?_⟩
  rw [hm.eval]
  have hrun : (execOp (ev fr) ⟨some d, .call ⟨.value x, args.toArray, tys⟩, ty, pos, after, none⟩).run P w = .ok (.round l fn tmps assign body) w := by
    subst hargs
    simp [execOp, resolve, hx, Deferred.ofValue, invoke]
    simpa using hy
  rw [semAt_of hrun (by simp), Oper.uponIn_round]
  refine ⟨by simp [FW, Fence.wide], ?_⟩
  have hr' : RoundIn (FW ro) (0 - 1) P l fn tmps assign body w fun e w' => ∃ v H', e = .returned v ∧ Holds B H' w' ∧ R v H' := hr
  refine hr'.mono ?_
  rintro e w' ⟨v, H', rfl, hh', hR⟩
  exact k v H' hR _ _ (hm.put (by simpa [Nat.blt_eq] using hd) v) hh'
end
/-- What is asked where a round ends. -/
def RPost (l n : Nat) (fr : Nat → Value) (p : Nat) (assign body : Code) (D : Nat) (R : Value → HProp → Prop) : Post := fun e _ H' =>
  match e with
  | .normal => ∃ H2, Ent H' (lrec l .busy none n fr p assign body D + H2) ∧ R (.bool true) (lrec l .ready none n fr p assign body D + H2)
  | .ret => ∃ H2, Ent H' (lrec l .busy none n fr p assign body D + H2) ∧ R (.bool false) (lrec l .done (some .ret) n fr p assign body D + H2)
  | .exit id => ∃ H2, Ent H' (lrec l .busy none n fr p assign body D + H2) ∧ R (.bool false) (lrec l .done (some (.exit id)) n fr p assign body D + H2)
  | _ => False
section
variable {P : Program} {B : World} {n l p D : Nat} {fr : Nat → Value} {H : HProp} {assign body : Code} {v : Value} {R : Value → HProp → Prop}
/-- A round, off its body's walk. -/
theorem yield_round (hp : Nat.blt p n = true) (h : WP (some l) P B n assign (Fr.put ⟨fr, []⟩ p v) (lrec l .ready none n fr p assign body D + H)
      (QSeq (fun fr1 H1 => ∃ H2, Ent H1 (lrec l .ready none n fr p assign body D + H2) ∧ WP (some l) P B n body fr1 (lrec l .busy none n fr p assign body D + H2) (RPost l n fr p assign body D R)) (fun _ _ _ => False))) :
    Yield P B l [v] (lrec l .ready none n fr p assign body D + H) R := by
  intro w hw
  obtain ⟨fn, tmps, h1, h2, hw1⟩ := lrec_open hw
  refine ⟨fn, tmps.setIfInBounds p v, assign, body, ?_, ?_⟩
  · have := run_yield (P := P) (args := #[v]) hw1.obj.1 rfl
    simpa using this
  have hp' : p < n := by simpa [Nat.blt_eq] using hp
  have hm : Models n { tmps := tmps.setIfInBounds p v, defers := [] } (Fr.put ⟨fr, []⟩ p v) := by
    have hm0 : Models n { tmps := tmps, defers := [] } ⟨fr, []⟩ := ⟨h1, rfl, h2⟩
    have := hm0.put hp' v
    simpa [Act.put] using this
  have key := h _ w hm hw
  refine roundIn_of_wpIn (F := FW none) trivial ?_
  refine wpIn_mono (show assign.wpIn (FW (some l)) 0 P _ _ _ from key) ?_
  rintro e a w' ⟨f, G, m, g, q⟩
  cases e with
  | normal =>
    obtain ⟨H2, he, hb⟩ := q
    obtain ⟨fn', tmps', h1', h2', hg⟩ := lrec_open (g.ent he)
    refine ⟨_, run_beginRound hg.obj.1 rfl, ?_⟩
    have hb' := hb a _ m (lrec_shut h1' h2' (obj_turn (o' := .loop { state := .busy, pending := none, fn := fn', tmps := tmps', params := #[p], assign := assign, body := body, defers := D }) hg))
    refine wpIn_mono (show body.wpIn (FW (some l)) 0 P _ _ _ from hb') ?_
    rintro e2 a2 w2 ⟨f2, G2, m2, g2, q2⟩
    cases e2 with
    | normal =>
      obtain ⟨H3, he3, hR⟩ := q2
      obtain ⟨fn3, tmps3, h13, h23, hg3⟩ := lrec_open (g2.ent he3)
      exact ⟨_, _, run_endRound none hg3.obj.1, _, _, rfl, lrec_shut h13 h23 (obj_turn hg3), hR⟩
    | ret =>
      obtain ⟨H3, he3, hR⟩ := q2
      obtain ⟨fn3, tmps3, h13, h23, hg3⟩ := lrec_open (g2.ent he3)
      exact ⟨_, _, run_endRound (some .ret) hg3.obj.1, _, _, rfl, lrec_shut h13 h23 (obj_turn hg3), hR⟩
    | exit id =>
      obtain ⟨H3, he3, hR⟩ := q2
      obtain ⟨fn3, tmps3, h13, h23, hg3⟩ := lrec_open (g2.ent he3)
      exact ⟨_, _, run_endRound (some (.exit id)) hg3.obj.1, _, _, rfl, lrec_shut h13 h23 (obj_turn hg3), hR⟩
    | _ => exact q2.elim
  | _ => exact (q : False).elim
/-- A loop over a function, outermost. -/
theorem wp_range {fr : Fr} {Q : Post} {gf : FuncId} {g : Operand} {first cap : List Value} [c : Callable P gf] (hg : ev fr g = .func (.func gf) first.toArray cap.toArray)
    (h : ∀ l D, Does P B gf (first ++ [.func (.yield l) #[] #[]] ++ cap) (lrec l .ready none n fr p assign body D + (obj D (.deferred (some [])) + H)) fun _ H' =>
      (∃ H2, Ent H' (lrec l .ready none n fr p assign body D + H2) ∧ Q .normal ⟨fr, D :: fr.ds⟩ H2) ∨
      (∃ H2, Ent H' (lrec l .done (some .ret) n fr p assign body D + H2) ∧ Q .ret ⟨fr, D :: fr.ds⟩ H2) ∨
      (∃ H2 id, Ent H' (lrec l .done (some (.exit id)) n fr p assign body D + H2) ∧ Q (.exit id) ⟨fr, D :: fr.ds⟩ H2)) :
    WP none P B n (.rangeFunc g #[p] assign body) fr H Q := by
  intro a w hm hw
  obtain ⟨fn0, cd, hf, hn, hb⟩ := c.eq
  refine wpIn_rangeFunc (F := FW none) fun fn _ => ?_
  let W := (w.alloc (.deferred (some []))).alloc (.loop { state := .ready, pending := none, fn := fn, tmps := a.tmps, params := #[p], assign := assign, body := body, defers := w.heap.size })
  have h1 := run_enterLoop_outer (P := P) (w := w) fn a.tmps #[p] assign body
  refine ⟨w.heap.size + 1, [markOf w.heap.size], W, { target := .fn (.func gf) cap.toArray, args := first.toArray ++ #[Value.func (Fn.yield (w.heap.size + 1)) #[] #[]] }, W, gf, (first ++ [Value.func (Fn.yield (w.heap.size + 1)) #[] #[]] ++ cap).toArray, W, h1, ?_, fun _ _ => trivial, ?_, by simp [FW, Fence.wide], ?_⟩
  · have : a.eval g = .func (.func gf) first.toArray cap.toArray := by rw [hm.eval]; exact hg
    have e2 : (rangeCall g (w.heap.size + 1)).args.map a.eval = #[Value.func (Fn.yield (w.heap.size + 1)) #[] #[]] := by simp [rangeCall, Act.eval]
    show (resolve a.eval (rangeCall g (w.heap.size + 1)) 0).run P W = _
    unfold resolve
    simp only [e2]
    show (Deferred.ofValue (a.eval g) #[Value.func (Fn.yield (w.heap.size + 1)) #[] #[]]).run P W = _
    rw [this]
    rfl
  · have hn' : fn0.name ≠ "runtime.NumGoroutine" := by simpa using hn
    simp [invoke, callFunc, hf, hn', hb]
  · have hW : Holds B (lrec (w.heap.size + 1) .ready none n fr p assign body w.heap.size + (obj w.heap.size (.deferred (some [])) + H)) W := by
      have e0 := hw.alloc (.deferred (some []))
      have e1 := e0.alloc (.loop { state := .ready, pending := none, fn := fn, tmps := a.tmps, params := #[p], assign := assign, body := body, defers := w.heap.size })
      rw [World.size_alloc] at e1
      exact lrec_shut hm.size hm.slot e1
    have hm' : Models n { a with defers := [markOf w.heap.size] ++ a.defers } ⟨fr, w.heap.size :: fr.ds⟩ := ⟨hm.size, by simp [hm.defers], hm.slot⟩
    have hd := FW_calls (ro := none) |>.2 ((h (w.heap.size + 1) w.heap.size) W hW)
    refine CallsIn.mono hd ?_
    rintro e w3 ⟨v, H', rfl, hh, hq⟩
    rcases hq with ⟨H2, he, hq⟩ | ⟨H2, he, hq⟩ | ⟨H2, id, he, hq⟩
    · obtain ⟨fn3, tmps3, _, _, hg3⟩ := lrec_open (hh.ent he)
      exact ⟨_, _, run_endLoop hg3.obj.1 (by simp), _, _, hm', (obj_turn hg3).drop_left, hq⟩
    · obtain ⟨fn3, tmps3, _, _, hg3⟩ := lrec_open (hh.ent he)
      exact ⟨_, _, run_endLoop hg3.obj.1 (by simp), wpIn_ret ⟨_, _, hm', (obj_turn hg3).drop_left, hq⟩⟩
    · obtain ⟨fn3, tmps3, _, _, hg3⟩ := lrec_open (hh.ent he)
      exact ⟨_, _, run_endLoop hg3.obj.1 (by simp), wpIn_exit ⟨_, _, hm', (obj_turn hg3).drop_left, hq⟩⟩

/-- What is asked where a round ends, of a record that is not looked into. -/
def RPostL (LR : LoopState → Option Code → HProp) (R : Value → HProp → Prop) : Post := fun e _ H' =>
  match e with
  | .normal => ∃ H2, Ent H' (LR .busy none + H2) ∧ R (.bool true) (LR .ready none + H2)
  | .ret => ∃ H2, Ent H' (LR .busy none + H2) ∧ R (.bool false) (LR .done (some .ret) + H2)
  | .exit id => ∃ H2, Ent H' (LR .busy none + H2) ∧ R (.bool false) (LR .done (some (.exit id)) + H2)
  | _ => False
/-- A loop over a function, its record not looked into. -/
theorem wp_rangeL {fr : Fr} {Q : Post} {gf : FuncId} {g : Operand} {first cap : List Value} [c : Callable P gf] (hg : ev fr g = .func (.func gf) first.toArray cap.toArray) (hp : Nat.blt p n = true)
    (h : ∀ l D (LR : LoopState → Option Code → HProp),
      (∀ v H R, WP (some l) P B n assign (Fr.put ⟨fr, []⟩ p v) (LR .ready none + H) (QSeq (fun fr1 H1 => ∃ H2, Ent H1 (LR .ready none + H2) ∧ WP (some l) P B n body fr1 (LR .busy none + H2) (RPostL LR R)) (fun _ _ _ => False)) → Yield P B l [v] (LR .ready none + H) R) →
      Does P B gf (first ++ [.func (.yield l) #[] #[]] ++ cap) (LR .ready none + (obj D (.deferred (some [])) + H)) fun _ H' =>
      (∃ H2, Ent H' (LR .ready none + H2) ∧ Q .normal ⟨fr, D :: fr.ds⟩ H2) ∨
      (∃ H2, Ent H' (LR .done (some .ret) + H2) ∧ Q .ret ⟨fr, D :: fr.ds⟩ H2) ∨
      (∃ H2 id, Ent H' (LR .done (some (.exit id)) + H2) ∧ Q (.exit id) ⟨fr, D :: fr.ds⟩ H2)) :
    WP none P B n (.rangeFunc g #[p] assign body) fr H Q := by
  refine wp_range hg fun l D => h l D (fun st pend => lrec l st pend n fr p assign body D) ?_
  intro v H R hw
  refine yield_round hp (hw.mono ?_)
  intro e f G q
  cases e with
  | normal =>
    obtain ⟨H2, he, hb⟩ := q
    refine ⟨H2, he, hb.mono ?_⟩
    intro e2 f2 G2 q2
    cases e2 with
    | normal => exact q2
    | ret => exact q2
    | exit id => exact q2
    | _ => exact q2.elim
  | _ => exact q
theorem Yield.exr {α : Type} {S : HProp} {G : α → HProp} {args : List Value} (h : ∀ x, Yield P B l args (S + G x) R) : Yield P B l args (S + ex G) R := by
  rw [HProp.add_comm, ex_add]
  intro w hw
  obtain ⟨x, hx⟩ := hw.ex_out
  rw [HProp.add_comm] at hx
  exact h x w hx
theorem Ent.absurd {S G : HProp} : Ent (S + fact False G) H := by
  rw [HProp.add_comm, fact_add]
  rintro a ⟨h, _⟩
  exact h.elim
theorem Ent.exl {α : Type} {S : HProp} {G : α → HProp} (h : ∀ x, Ent (G x + S) H) : Ent (ex G + S) H := by
  rw [ex_add]
  rintro a ⟨x, hx⟩
  exact h x a hx
theorem Ent.exl' {α : Type} {S : HProp} {G : α → HProp} (h : ∀ x, Ent (G x + S) H) : Ent (S + ex G) H := by
  rw [HProp.add_comm]; exact Ent.exl h
theorem Ent.exr {α : Type} {S : HProp} {G : α → HProp} (x : α) (h : Ent H (S + G x)) : Ent H (S + ex G) := h.trans ((Ent.ex_in x).frame_left S)
/-- What is asked at the end of a function that holds such loops. -/
theorem retM1 {fn : Func} {R : Value → HProp → Prop} {e : Exit} {fr : Fr} {v : Value} {t D : Nat} {G : HProp} (he : e = .normal ∨ e = .ret) (hr : fn.results = #[.tmp t]) (hv : fr t = v) (hds : fr.ds = [D]) (hm : Ent H (obj D (.deferred (some [])) + G)) (h : R v G) : QRet P B fn R e fr H :=
  ⟨he, v, G, G, by rw [hds]; unfold marks marks; rw [HProp.add_emp]; exact hm, fun a w ha _ => by rw [results_tmp hr, ha, hv], Ent.refl _, h⟩
theorem Yield.factr {S G : HProp} {q : Prop} {args : List Value} (h : q → Yield P B l args (S + G) R) : Yield P B l args (S + fact q G) R := by
  rw [HProp.add_comm, fact_add]
  intro w hw
  obtain ⟨hq, hx⟩ := hw.fact_out
  rw [HProp.add_comm] at hx
  exact h hq w hx
theorem Ent.factr {S G : HProp} {q : Prop} (hq : q) (h : Ent H (S + G)) : Ent H (S + fact q G) := h.trans ((Ent.fact_in hq).frame_left S)
end
end Go.SL
set_option linter.unusedSimpArgs false
set_option linter.unusedVariables false
namespace Go.SL
open Go Go.RowKit
/-- A type of pointers to something of some size. -/
class PtrTo (P : Program) (t : TypeId) : Prop where
  eq : ∃ te j, P.underlying t = some (.pointer te) ∧ P.info? te = some j ∧ j.size ≠ 0
theorem PtrTo.of {P : Program} {t te : TypeId} (h : P.underlying t = some (.pointer te)) (h2 : (P.info? te).map (fun j => Nat.blt 0 j.size) = some true) : PtrTo P t := ⟨by
  cases hi : P.info? te with
  | none => rw [hi] at h2; cases h2
  | some j => rw [hi] at h2; exact ⟨te, j, h, hi, by simp [Nat.blt_eq] at h2; omega⟩⟩
/-- A block lies there. -/
def There (B : World) (H : HProp) (b : Nat) : Prop := ∀ w, Holds B H w → ∃ ca ta, w.heap[b]? = some (.cells ca ta (0, 0))
theorem There.ent {B : World} {H G : HProp} {b : Nat} (h : There B G b) (e : Ent H G) : There B H b := fun w hw => h w (hw.ent e)
theorem There.blk {B : World} {H F : HProp} {b : Nat} {cs : List Value} {e : TypeId} [i : HasBlk H b cs e F] : There B H b := fun w hw => ⟨_, _, by
  have := i.eq ▸ hw
  exact this.obj.1⟩
section
variable {ro : Option Nat} {P : Program} {B : World} {n : Nat} {ops : Array Oper} {rest l : List Oper} {fr : Fr} {H : HProp} {Q : Post} {c : Code} {f : FuncId} {args : List Value} {R : Value → HProp → Prop}
variable {d : Nat} {ty : TypeId} {pos : String} {after : Array Edge}
theorem WPL.know {φ : Prop} (h : ∀ w, Holds B H w → φ) (k : φ → WPL ro P B n ops l fr H Q) : WPL ro P B n ops l fr H Q := fun a w hm hw => k (h w hw) a w hm hw
theorem WP.know {φ : Prop} (h : ∀ w, Holds B H w → φ) (k : φ → WP ro P B n c fr H Q) : WP ro P B n c fr H Q := fun a w hm hw => k (h w hw) a w hm hw
theorem Does.know {φ : Prop} (h : ∀ w, Holds B H w → φ) (k : φ → Does P B f args H R) : Does P B f args H R := fun w hw => k (h w hw) w hw
end
end Go.SL
set_option linter.unusedSimpArgs false
set_option linter.unusedVariables false
namespace Go.SL
open Go Go.RowKit Go.MapKept

/-- A map's type: z: what an element is at first. -/
class MapOf (P : Program) (t : TypeId) (z : outParam Value) : Prop where
  eq : ∃ kt e i, P.underlying t = some (.map kt e) ∧ P.underlying kt = some (.int .i64) ∧ P.info? e = some i ∧ i.zero = some z
theorem MapOf.of {P : Program} {t kt e : TypeId} {z : Value} (h1 : P.underlying t = some (.map kt e)) (h2 : P.underlying kt = some (.int .i64)) (h3 : (P.info? e).bind (·.zero) = some z) : MapOf P t z := ⟨by
  cases hi : P.info? e with
  | none => rw [hi] at h3; cases h3
  | some i => rw [hi] at h3; exact ⟨kt, e, i, h1, h2, hi, h3⟩⟩
abbrev Assoc := List (Int × Value)
def midx : Assoc → Int → Option (Nat × Value)
  | [], _ => none
  | (a, v) :: l, k => if k = a then some (0, v) else (midx l k).map fun p => (p.1 + 1, p.2)
def mget (m : Assoc) (k : Int) : Option Value := (midx m k).map (·.2)
def mset : Assoc → Int → Value → Assoc
  | [], k, v => [(k, v)]
  | (a, u) :: l, k, v => if k = a then (k, v) :: l else (a, u) :: mset l k v
def mdel : Assoc → Int → Assoc
  | [], _ => []
  | (a, u) :: l, k => if k = a then l else (a, u) :: mdel l k
def mkeys (m : Assoc) : List Int := m.map (·.1)
theorem mget_nil (k : Int) : mget [] k = none := rfl
theorem mget_cons (a : Int) (v : Value) (l : Assoc) (k : Int) : mget ((a, v) :: l) k = if k = a then some v else mget l k := by
  have e : midx ((a, v) :: l) k = if k = a then some (0, v) else (midx l k).map fun p => (p.1 + 1, p.2) := rfl
  unfold mget
  rw [e]
  split
  · rfl
  · cases midx l k <;> rfl
theorem mget_mset (m : Assoc) (k j : Int) (v : Value) : mget (mset m k v) j = if j = k then some v else mget m j := by
  induction m with
  | nil => simp only [mset, mget_cons, mget_nil]
  | cons p m ih =>
    obtain ⟨a, u⟩ := p
    unfold mset
    by_cases h : k = a
    · subst h
      rw [if_pos rfl, mget_cons, mget_cons]
      by_cases hj : j = k <;> simp [hj]
    · rw [if_neg h, mget_cons, mget_cons, ih]
      by_cases hj : j = a
      · subst hj
        have : ¬ j = k := fun e => h e.symm
        simp [this]
      · simp [hj]
theorem mget_of_mem {m : Assoc} {k : Int} : mget m k = none ↔ k ∉ mkeys m := by
  induction m with
  | nil => simp [mget_nil, mkeys]
  | cons p m ih =>
    obtain ⟨a, u⟩ := p
    rw [mget_cons]
    by_cases h : k = a
    · simp [h, mkeys]
    · simp only [if_neg h, ih, mkeys, List.map_cons, List.mem_cons, not_or]
      exact ⟨fun x => ⟨h, x⟩, fun x => x.2⟩
theorem mkeys_mset (m : Assoc) (k : Int) (v : Value) : mkeys (mset m k v) = if (mget m k).isSome then mkeys m else mkeys m ++ [k] := by
  induction m with
  | nil => simp [mset, mkeys, mget_nil]
  | cons p m ih =>
    obtain ⟨a, u⟩ := p
    unfold mset
    rw [mget_cons]
    by_cases h : k = a
    · simp [h, mkeys]
    · rw [if_neg h, if_neg h]
      have e : mkeys ((a, u) :: mset m k v) = a :: mkeys (mset m k v) := rfl
      rw [e, ih]
      split <;> rfl
theorem mkeys_mdel (m : Assoc) (k : Int) : mkeys (mdel m k) = (mkeys m).erase k := by
  induction m with
  | nil => rfl
  | cons p m ih =>
    obtain ⟨a, u⟩ := p
    unfold mdel
    by_cases h : k = a
    · subst h; simp [mkeys]
    · have e : mkeys ((a, u) :: m) = a :: mkeys m := rfl
      have e2 : mkeys ((a, u) :: mdel m k) = a :: mkeys (mdel m k) := rfl
      rw [if_neg h, e2, ih, e, List.erase_cons]
      have : ¬ (a == k) = true := by simpa using fun x => h x.symm
      rw [if_neg this]
theorem mget_mdel {m : Assoc} (hn : (mkeys m).Nodup) (k j : Int) : mget (mdel m k) j = if j = k then none else mget m j := by
  induction m with
  | nil => simp [mdel, mget_nil]
  | cons p m ih =>
    obtain ⟨a, u⟩ := p
    have hn' : a ∉ mkeys m ∧ (mkeys m).Nodup := by simpa [mkeys] using hn
    unfold mdel
    by_cases h : k = a
    · subst h
      rw [if_pos rfl, mget_cons]
      by_cases hj : j = k
      · subst hj; simp [mget_of_mem.2 hn'.1]
      · simp [hj]
    · rw [if_neg h, mget_cons, mget_cons, ih hn'.2]
      by_cases hj : j = a
      · subst hj
        have : ¬ j = k := fun e => h e.symm
        simp [this]
      · simp [hj]

abbrev eView (e : MapEntry) : Value × Value := (e.key, e.val)
abbrev mView (p : Int × Value) : Value × Value := (.int .i64 p.1, p.2)
def MRep (l : List MapEntry) (m : Assoc) : Prop := l.map eView = m.map mView
theorem MRep.nil : MRep [] [] := rfl
theorem MRep.len {l : List MapEntry} {m : Assoc} (h : MRep l m) : l.length = m.length := by have := congrArg List.length h; simpa using this
theorem MRep.cons_inv {e : MapEntry} {l : List MapEntry} {m : Assoc} (h : MRep (e :: l) m) : ∃ a m', m = (a, e.val) :: m' ∧ e.key = .int .i64 a ∧ MRep l m' := by
  cases m with
  | nil => simp [MRep] at h
  | cons p m =>
    obtain ⟨a, u⟩ := p
    simp only [MRep, List.map_cons, List.cons.injEq, eView, mView, Prod.mk.injEq] at h
    obtain ⟨⟨h1, h2⟩, h3⟩ := h
    exact ⟨a, m, by rw [h2], h1, h3⟩
theorem MRep.find {k : Int} : ∀ (l : List MapEntry) (m : Assoc) (i : Nat), MRep l m → Instr.findNow (.int .i64) (.int .i64 k) l i = some ((midx m k).map fun p => (i + p.1, p.2))
  | [], m, i, h => by
    have : m = [] := by have := h.len; simpa using this.symm
    subst this; rfl
  | e :: l, m, i, h => by
    obtain ⟨a, m', rfl, hk, h'⟩ := h.cons_inv
    have ih := MRep.find (k := k) l m' (i + 1) h'
    unfold midx
    by_cases hka : k = a
    · subst hka; simp [Instr.findNow, hk, Instr.sameNow]
    · have : (k == a) = false := by simpa using hka
      simp only [Instr.findNow, hk, Instr.sameNow, this, if_neg hka, if_true]
      rw [ih]
      cases midx m' k with
      | none => rfl
      | some p => simp; omega
theorem MRep.push {l : List MapEntry} {m : Assoc} {k : Int} {v : Value} {c : Nat} (h : MRep l m) (hn : midx m k = none) : MRep (l ++ [⟨.int .i64 k, v, c⟩]) (mset m k v) := by
  have : mset m k v = m ++ [(k, v)] := by
    clear h
    induction m with
    | nil => rfl
    | cons p m ih =>
      obtain ⟨a, u⟩ := p
      unfold midx at hn
      by_cases hka : k = a
      · rw [if_pos hka] at hn; cases hn
      · rw [if_neg hka] at hn
        unfold mset
        rw [if_neg hka, ih (by cases hm : midx m k with | none => rfl | some p => rw [hm] at hn; cases hn)]
        rfl
  rw [this]
  simp only [MRep, List.map_append, List.map_cons, List.map_nil] at h ⊢
  rw [h]
theorem MRep.modify {k : Int} {v : Value} : ∀ (l : List MapEntry) (m : Assoc) (j : Nat) (u : Value), MRep l m → midx m k = some (j, u) →
    MRep (l.modify j fun e => { e with key := .int .i64 k, val := v }) (mset m k v) ∧ ∃ e, l[j]? = some e ∧ e.key = .int .i64 k
  | [], m, j, u, h, hm => by
    have : m = [] := by have := h.len; simpa using this.symm
    subst this; cases hm
  | e :: l, m, j, u, h, hm => by
    obtain ⟨a, m', rfl, hk, h'⟩ := h.cons_inv
    unfold midx at hm
    unfold mset
    by_cases hka : k = a
    · subst hka
      rw [if_pos rfl] at hm
      cases hm
      rw [if_pos rfl]
      refine ⟨?_, e, rfl, hk⟩
      simp only [MRep, List.modify_zero_cons, List.map_cons, eView, mView] at h' ⊢
      rw [h']
    · rw [if_neg hka] at hm ⊢
      cases hx : midx m' k with
      | none => rw [hx] at hm; cases hm
      | some p =>
        obtain ⟨j', u'⟩ := p
        rw [hx] at hm
        cases hm
        obtain ⟨h1, e', h2, h3⟩ := MRep.modify (v := v) l m' j' _ h' hx
        refine ⟨?_, e', by simpa using h2, h3⟩
        simp only [MRep, List.modify_succ_cons, List.map_cons, eView, mView] at h1 ⊢
        rw [h1, hk]
theorem MRep.val {k : Int} : ∀ (l : List MapEntry) (m : Assoc) (j : Nat) (u : Value) (e : MapEntry), MRep l m → midx m k = some (j, u) → l[j]? = some e → e.val = u
  | [], m, j, u, e, h, hm, he => by simp at he
  | e0 :: l, m, j, u, e, h, hm, he => by
    obtain ⟨a, m', rfl, hk, h'⟩ := h.cons_inv
    unfold midx at hm
    by_cases hka : k = a
    · rw [if_pos hka] at hm
      cases hm
      simp at he; rw [he]
    · rw [if_neg hka] at hm
      cases hx : midx m' k with
      | none => rw [hx] at hm; cases hm
      | some p =>
        obtain ⟨j', u'⟩ := p
        rw [hx] at hm
        cases hm
        exact MRep.val l m' j' _ e h' hx (by simpa using he)
theorem MRep.erase {k : Int} : ∀ (l : List MapEntry) (m : Assoc) (j : Nat) (u : Value), MRep l m → midx m k = some (j, u) → MRep (l.eraseIdx j) (mdel m k) ∧ j < l.length
  | [], m, j, u, h, hm => by
    have : m = [] := by have := h.len; simpa using this.symm
    subst this; cases hm
  | e :: l, m, j, u, h, hm => by
    obtain ⟨a, m', rfl, hk, h'⟩ := h.cons_inv
    unfold midx at hm
    unfold mdel
    by_cases hka : k = a
    · subst hka
      rw [if_pos rfl] at hm
      cases hm
      rw [if_pos rfl]
      exact ⟨h', by simp⟩
    · rw [if_neg hka] at hm ⊢
      cases hx : midx m' k with
      | none => rw [hx] at hm; cases hm
      | some p =>
        obtain ⟨j', u'⟩ := p
        rw [hx] at hm
        cases hm
        obtain ⟨h1, h2⟩ := MRep.erase l m' j' _ h' hx
        refine ⟨?_, by simpa using h2⟩
        simp only [MRep, List.eraseIdx_cons_succ, List.map_cons, eView, mView] at h1 ⊢
        rw [h1, hk]
theorem mdel_none {m : Assoc} {k : Int} (h : midx m k = none) : mdel m k = m := by
  induction m with
  | nil => rfl
  | cons p m ih =>
    obtain ⟨a, u⟩ := p
    unfold midx at h
    by_cases hka : k = a
    · rw [if_pos hka] at h; cases h
    · rw [if_neg hka] at h
      unfold mdel
      rw [if_neg hka, ih (by cases hm : midx m k with | none => rfl | some p => rw [hm] at h; cases h)]

/-- Each entry has a stamp of its own. -/
def Stamp (l : List MapEntry) (c : Nat) : Prop := (∀ e ∈ l, e.born < c) ∧ (l.map (·.born)).Nodup
theorem Stamp.nil (c : Nat) : Stamp [] c := ⟨by simp, by simp⟩
theorem Stamp.push {l : List MapEntry} {c : Nat} {k v : Value} (h : Stamp l c) : Stamp (l ++ [⟨k, v, c⟩]) (c + 1) := by
  refine ⟨fun e he => ?_, ?_⟩
  · rcases List.mem_append.1 he with h' | h'
    · have := h.1 e h'; omega
    · simp at h'; subst h'; simp
  · rw [List.map_append, List.nodup_append]
    refine ⟨h.2, by simp, fun a ha b hb e => ?_⟩
    obtain ⟨x, hx, rfl⟩ := List.mem_map.1 ha
    simp at hb
    have := h.1 x hx
    omega
theorem Stamp.same {l l' : List MapEntry} {c : Nat} (h : Stamp l c) (e : l'.map (·.born) = l.map (·.born)) : Stamp l' c := by
  refine ⟨fun x hx => ?_, e ▸ h.2⟩
  have : x.born ∈ l.map (·.born) := e ▸ List.mem_map.2 ⟨x, hx, rfl⟩
  obtain ⟨y, hy, hyx⟩ := List.mem_map.1 this
  rw [← hyx]; exact h.1 y hy
theorem born_modify (f : MapEntry → MapEntry) (hf : ∀ e, (f e).born = e.born) : ∀ (l : List MapEntry) (j : Nat), (l.modify j f).map (·.born) = l.map (·.born)
  | [], j => by cases j <;> rfl
  | a :: l, 0 => by simp [hf]
  | a :: l, j + 1 => by simp [born_modify f hf l j]
theorem Stamp.sub {l l' : List MapEntry} {c : Nat} (h : Stamp l c) (e : l'.Sublist l) : Stamp l' c := ⟨fun x hx => h.1 x (e.subset hx), h.2.sublist (e.map _)⟩
theorem findIdx_stamp {l : List MapEntry} (hn : (l.map (·.born)).Nodup) {j : Nat} {e0 : MapEntry} (h : l[j]? = some e0) : l.findIdx? (fun e => ((e.born : Nat) : Int) == ((e0.born : Nat) : Int)) = some j := by
  induction l generalizing j with
  | nil => simp at h
  | cons a r ih =>
    simp only [List.map_cons, List.nodup_cons] at hn
    cases j with
    | zero =>
      simp only [List.getElem?_cons_zero, Option.some.injEq] at h
      subst h
      simp [List.findIdx?_cons]
    | succ j =>
      simp only [List.getElem?_cons_succ] at h
      have hne : a.born ≠ e0.born := fun e1 => hn.1 (List.mem_map.2 ⟨e0, List.mem_of_getElem? h, e1.symm⟩)
      have hb : (((a.born : Nat) : Int) == ((e0.born : Nat) : Int)) = false := by
        simp only [beq_eq_false_iff_ne, ne_eq, Int.natCast_inj]
        exact hne
      rw [List.findIdx?_cons, hb]
      simp [ih hn.2 h]
theorem mset_mset (m : Assoc) (k : Int) (u v : Value) : mset (mset m k u) k v = mset m k v := by
  induction m with
  | nil => simp [mset]
  | cons p m ih =>
    obtain ⟨a, x⟩ := p
    by_cases h : k = a
    · subst h; simp [mset]
    · have e : ∀ (l : Assoc) (y : Value), mset ((a, x) :: l) k y = (a, x) :: mset l k y := fun l y => by
        show (if k = a then _ else _) = _
        rw [if_neg h]
      rw [e, e, e, ih]
/-- A map in memory. -/
def MapAt (b : Nat) (m : Assoc) : HProp := ex fun x : Array MapEntry × Nat => fact (MRep x.1.toList m ∧ Stamp x.1.toList x.2) (SL.obj b (.map x.1 x.2))
/-- A map, and an entry's stamp. -/
def MapHold (b : Nat) (q : Assoc × Int × Nat) : HProp := ex fun x : Array MapEntry × Nat => fact ((MRep x.1.toList q.1 ∧ Stamp x.1.toList x.2) ∧ ∃ j e, x.1.toList[j]? = some e ∧ e.born = q.2.2 ∧ ∃ u, midx q.1 q.2.1 = some (j, u)) (SL.obj b (.map x.1 x.2))
theorem Holds.map {B : World} {b : Nat} {m : Assoc} {F : HProp} {w : World} (h : Holds B (MapAt b m + F) w) : ∃ es c, MRep es.toList m ∧ w.heap[b]? = some (.map es c) ∧ Holds B (SL.obj b (.map es c) + F) w ∧ Stamp es.toList c := by
  unfold MapAt at h
  rw [ex_add] at h
  obtain ⟨⟨es, c⟩, h⟩ := h.ex_out
  rw [fact_add] at h
  obtain ⟨h1, h2⟩ := h.fact_out
  exact ⟨es, c, h1.1, h2.obj.1, h2, h1.2⟩
theorem Holds.mapIn {B : World} {b : Nat} {m : Assoc} {F : HProp} {w : World} {es : Array MapEntry} {c : Nat} (hr : MRep es.toList m) (hs : Stamp es.toList c) (h : Holds B (SL.obj b (.map es c) + F) w) : Holds B (MapAt b m + F) w := by
  unfold MapAt
  rw [ex_add]
  refine Holds.ex_in (es, c) ?_
  rw [fact_add]
  exact Holds.fact_in ⟨hr, hs⟩ h
theorem Holds.mapUpd {B : World} {b : Nat} {m m' : Assoc} {F : HProp} {w : World} {es es' : Array MapEntry} {c c' : Nat} (h : Holds B (SL.obj b (.map es c) + F) w) (hr : MRep es'.toList m') (hs : Stamp es'.toList c') :
    Holds B (MapAt b m' + F) { w with heap := w.heap.setIfInBounds b (.map es' c') } := by
  have hb := h.obj.1
  exact Holds.mapIn hr hs (h.upd (o' := .map es' c') rfl rfl rfl (by simp) (heap_set hb).1 fun k hk => (heap_set hb).2 k hk)

section
variable {ro : Option Nat} {P : Program} {B : World} {n : Nat} {ops : Array Oper} {rest : List Oper} {fr : Fr} {H F : HProp} {Q : Post}
variable {d : Nat} {ty : TypeId} {pos : String} {after : Array Edge}
theorem s_makeMap {t : TypeId} (hd : Nat.blt d n = true) (k : ∀ b, WPL ro P B n ops rest (fr.put d (.map (some b))) (MapAt b [] + H) Q) :
    WPL ro P B n ops (⟨some d, .makeMap t none, ty, pos, after, none⟩ :: rest) fr H Q := step_val hd fun w hw => by
  refine ⟨.map (some w.heap.size), w.alloc (.map #[] 0), MapAt w.heap.size [] + H, ?_, Holds.mapIn MRep.nil (Stamp.nil _) (hw.alloc _), k _⟩
  simp [execOp, Instr.makeMap, Result.andThen]
theorem s_mget {t : TypeId} {z v : Value} {b : Nat} {m : Assoc} {x y : Operand} {k : Int} [i : MapOf P t z] [h : HasAt MapAt H b m F] (hx : ev fr x = .map (some b)) (hy : ev fr y = .int .i64 k) (hv : (mget m k).getD z = v) (hd : Nat.blt d n = true)
    (k' : WPL ro P B n ops rest (fr.put d v) H Q) : WPL ro P B n ops (⟨some d, .lookup t x y false, ty, pos, after, none⟩ :: rest) fr H Q := step_look hd (fun w hw => by
  rw [h.eq] at hw
  obtain ⟨es, c, hr, hb, _⟩ := hw.map
  obtain ⟨kt, e, inf, hu, hk, hi, hz⟩ := i.eq
  subst hv
  have hf := run_findKey (P := P) (w := w) hk (MRep.find (k := k) es.toList m 0 hr)
  have hck := run_checkKey (P := P) (w := w) (k := .int .i64 k) hk rfl es.isEmpty 9999
  have e1 : execOp (ev fr) ⟨some d, .lookup t x y false, ty, pos, after, none⟩ = (do Pure.pure (Next.value (← Instr.lookup t (ev fr x) (ev fr y) false))) := rfl
  rw [e1, hx, hy]
  simp [Instr.lookup, run_underlying hu, MapKept.run_getObj_map hb, hck, hf, Result.andThen, mget]
  cases midx m k <;> simp [zeroValue, typeInfo, hi, hz]) k'
theorem s_mget2 {t : TypeId} {z v : Value} {b : Nat} {m : Assoc} {x y : Operand} {k : Int} {bo : Bool} [i : MapOf P t z] [h : HasAt MapAt H b m F] (hx : ev fr x = .map (some b)) (hy : ev fr y = .int .i64 k) (hv : (mget m k).getD z = v) (hbo : (mget m k).isSome = bo) (hd : Nat.blt d n = true)
    (k' : WPL ro P B n ops rest (fr.put d (.tuple #[v, .bool bo])) H Q) : WPL ro P B n ops (⟨some d, .lookup t x y true, ty, pos, after, none⟩ :: rest) fr H Q := step_look hd (fun w hw => by
  rw [h.eq] at hw
  obtain ⟨es, c, hr, hb, _⟩ := hw.map
  obtain ⟨kt, e, inf, hu, hk, hi, hz⟩ := i.eq
  subst hv hbo
  have hf := run_findKey (P := P) (w := w) hk (MRep.find (k := k) es.toList m 0 hr)
  have hck := run_checkKey (P := P) (w := w) (k := .int .i64 k) hk rfl es.isEmpty 9999
  have e1 : execOp (ev fr) ⟨some d, .lookup t x y true, ty, pos, after, none⟩ = (do Pure.pure (Next.value (← Instr.lookup t (ev fr x) (ev fr y) true))) := rfl
  rw [e1, hx, hy]
  simp [Instr.lookup, run_underlying hu, MapKept.run_getObj_map hb, hck, hf, Result.andThen, mget]
  cases midx m k <;> simp [zeroValue, typeInfo, hi, hz]) k'
theorem s_mgetN2 {t : TypeId} {z : Value} {x y : Operand} {k : Int} [i : MapOf P t z] (hx : ev fr x = .map none) (hy : ev fr y = .int .i64 k) (hd : Nat.blt d n = true)
    (k' : WPL ro P B n ops rest (fr.put d (.tuple #[z, .bool false])) H Q) : WPL ro P B n ops (⟨some d, .lookup t x y true, ty, pos, after, none⟩ :: rest) fr H Q := step_look hd (fun w hw => by
  obtain ⟨kt, e, inf, hu, hk, hi, hz⟩ := i.eq
  have hf := run_findKey (P := P) (w := w) (l := []) (k := .int .i64 k) hk rfl
  have hck := run_checkKey (P := P) (w := w) (k := .int .i64 k) hk rfl true 9999
  have e1 : execOp (ev fr) ⟨some d, .lookup t x y true, ty, pos, after, none⟩ = (do Pure.pure (Next.value (← Instr.lookup t (ev fr x) (ev fr y) true))) := rfl
  rw [e1, hx, hy]
  simp [Instr.lookup, run_underlying hu, hck, hf, Result.andThen, zeroValue, typeInfo, hi, hz]) k'
theorem s_mset {t : TypeId} {z v : Value} {b : Nat} {m : Assoc} {x y u : Operand} {k : Int} [i : MapOf P t z] [h : HasAt MapAt H b m F] (hx : ev fr x = .map (some b)) (hy : ev fr y = .int .i64 k) (hu' : ev fr u = v)
    (k' : WPL ro P B n ops rest fr (MapAt b (mset m k v) + F) Q) : WPL ro P B n ops (⟨none, .mapUpdate t x y u, ty, pos, after, none⟩ :: rest) fr H Q := step_act fun w hw => by
  rw [h.eq] at hw
  obtain ⟨es, c, hr, hb, ho, hs⟩ := hw.map
  obtain ⟨kt, e, inf, hu, hk, hi, hz⟩ := i.eq
  subst hu'
  have hf := run_findKey (P := P) (w := w) hk (MRep.find (k := k) es.toList m 0 hr)
  have hck := run_checkKey (P := P) (w := w) (k := .int .i64 k) hk rfl false 9999
  have e1 : execOp (ev fr) ⟨none, .mapUpdate t x y u, ty, pos, after, none⟩ = (do Instr.mapUpdate t (ev fr x) (ev fr y) (ev fr u); Pure.pure Next.skip) := rfl
  rw [e1, hx, hy]
  cases hm : midx m k with
  | none =>
    rw [hm] at hf
    refine ⟨_, _, ?_, ho.mapUpd (m := m) (es' := es.push ⟨.int .i64 k, ev fr u, c⟩) (c' := c + 1) (m' := mset m k (ev fr u)) ?_ ?_, k'⟩
    · simp [Instr.mapUpdate, run_underlying hu, MapKept.run_getObj_map hb, hck, hf, run_setObj_map _ hb, Result.andThen]
    · rw [Array.toList_push]; exact hr.push hm
    · rw [Array.toList_push]; exact hs.push
  | some p =>
    obtain ⟨j, u'⟩ := p
    rw [hm] at hf
    obtain ⟨h1, e', h2, h3⟩ := MRep.modify (v := ev fr u) es.toList m j u' hr hm
    have h2' : es[j]? = some e' := by simpa using h2
    have hst := run_keyThatStays (P := P) (w := w) (d := .int .i64) (k := .int .i64 k) rfl
    refine ⟨_, _, ?_, ho.mapUpd (m := m) (es' := es.modify j fun e => { e with key := .int .i64 k, val := ev fr u }) (c' := c) (m' := mset m k (ev fr u)) ?_ ?_, k'⟩
    · simp [Instr.mapUpdate, run_underlying hu, MapKept.run_getObj_map hb, hck, hf, h2', h3, hst, run_setObj_map _ hb, Result.andThen]
    · rw [Array.toList_modify]; exact h1
    · rw [Array.toList_modify]; exact hs.same (born_modify (fun e => { e with key := .int .i64 k, val := ev fr u }) (fun _ => rfl) _ _)
theorem s_mlen {t : TypeId} {z : Value} {b : Nat} {m : Assoc} {x : Operand} [i : MapOf P t z] [h : HasAt MapAt H b m F] (hx : ev fr x = .map (some b)) (hd : Nat.blt d n = true)
    (k' : WPL ro P B n ops rest (fr.put d (.int .i64 (m.length : Int))) H Q) : WPL ro P B n ops (⟨some d, .call ⟨.builtin .len, #[x], #[t]⟩, ty, pos, after, none⟩ :: rest) fr H Q := step_look hd (fun w hw => by
  rw [h.eq] at hw
  obtain ⟨es, c, hr, hb, _⟩ := hw.map
  obtain ⟨kt, e, inf, hu, hk, hi, hz⟩ := i.eq
  have hl := hr.len
  simp at hl
  simp [execOp, resolve, invoke, builtin, hx, Builtin.len_, run_underlying hu, MapKept.run_getObj_map hb, goInt, hl, Result.andThen]) k'
theorem s_mlenN {t : TypeId} {z : Value} {x : Operand} [i : MapOf P t z] (hx : ev fr x = .map none) (hd : Nat.blt d n = true)
    (k' : WPL ro P B n ops rest (fr.put d (.int .i64 0)) H Q) : WPL ro P B n ops (⟨some d, .call ⟨.builtin .len, #[x], #[t]⟩, ty, pos, after, none⟩ :: rest) fr H Q := step_look hd (fun w hw => by
  obtain ⟨kt, e, inf, hu, hk, hi, hz⟩ := i.eq
  simp [execOp, resolve, invoke, builtin, hx, Builtin.len_, run_underlying hu, goInt, Result.andThen]) k'
/-- An entry is found, or laid. -/
theorem s_mentry {t : TypeId} {z v : Value} {b : Nat} {m : Assoc} {x y : Operand} {k : Int} [i : MapOf P t z] [h : HasAt MapAt H b m F] (hx : ev fr x = .map (some b)) (hy : ev fr y = .int .i64 k) (hv : (mget m k).getD z = v) (hd : Nat.blt d n = true)
    (k' : ∀ st : Nat, WPL ro P B n ops rest (fr.put d (.tuple #[v, .int .i64 st])) (MapHold b (mset m k v, k, st) + F) Q) : WPL ro P B n ops (⟨some d, .mapEntry t x y, ty, pos, after, none⟩ :: rest) fr H Q := step_val hd fun w hw => by
  rw [h.eq] at hw
  obtain ⟨es, c, hr, hb, ho, hs⟩ := hw.map
  obtain ⟨kt, e, inf, hu, hk, hi, hz⟩ := i.eq
  subst hv
  have hf := run_findKey (P := P) (w := w) hk (MRep.find (k := k) es.toList m 0 hr)
  have hck := run_checkKey (P := P) (w := w) (k := .int .i64 k) hk rfl false 9999
  have e1 : execOp (ev fr) ⟨some d, .mapEntry t x y, ty, pos, after, none⟩ = (do Pure.pure (Next.value (← Instr.mapEntry t (ev fr x) (ev fr y)))) := rfl
  have hold : ∀ (es' : Array MapEntry) (c' st : Nat) (m' : Assoc), MRep es'.toList m' → Stamp es'.toList c' → (∃ j e, es'.toList[j]? = some e ∧ e.born = st ∧ ∃ u, midx m' k = some (j, u)) → Holds B (MapHold b (m', k, st) + F) { w with heap := w.heap.setIfInBounds b (.map es' c') } := by
    intro es' c' st m' h1 h2 h3
    unfold MapHold
    rw [ex_add]
    refine Holds.ex_in (es', c') ?_
    rw [fact_add]
    exact Holds.fact_in ⟨⟨h1, h2⟩, h3⟩ (ho.upd (o' := .map es' c') rfl rfl rfl (by simp) (heap_set hb).1 fun k hk => (heap_set hb).2 k hk)
  have hself : ∀ (m : Assoc) (k : Int) (v : Value) (j : Nat), midx m k = some (j, v) → ∃ u, midx (mset m k v) k = some (j, u) := by
    intro m k v
    induction m with
    | nil => intro j hj; cases hj
    | cons p m ih =>
      obtain ⟨a, x⟩ := p
      intro j hj
      unfold midx at hj
      unfold mset
      by_cases hka : k = a
      · rw [if_pos hka] at hj ⊢; cases hj
        unfold midx; rw [if_pos rfl]; exact ⟨_, rfl⟩
      · rw [if_neg hka] at hj ⊢
        cases hx : midx m k with
        | none => rw [hx] at hj; cases hj
        | some p =>
          obtain ⟨j', u'⟩ := p
          rw [hx] at hj
          cases hj
          obtain ⟨u, hu⟩ := ih j' hx
          unfold midx
          rw [if_neg hka, hu]
          exact ⟨_, rfl⟩
  have hnew : ∀ (m : Assoc) (k : Int) (v : Value), midx m k = none → midx (mset m k v) k = some (m.length, v) := by
    intro m k v
    induction m with
    | nil => intro _; simp [mset, midx]
    | cons p m ih =>
      obtain ⟨a, x⟩ := p
      intro hj
      unfold midx at hj
      unfold mset
      by_cases hka : k = a
      · rw [if_pos hka] at hj; cases hj
      · rw [if_neg hka] at hj ⊢
        unfold midx
        rw [if_neg hka, ih (by cases hx : midx m k with | none => rfl | some p => rw [hx] at hj; cases hj)]
        rfl
  rw [e1, hx, hy]
  cases hm : midx m k with
  | none =>
    rw [hm] at hf
    refine ⟨.tuple #[z, .int .i64 (c : Int)], _, _, ?_, hold (es.push ⟨.int .i64 k, z, c⟩) (c + 1) c (mset m k z) ?_ ?_ ?_, ?_⟩
    · simp [Instr.mapEntry, run_underlying hu, MapKept.run_getObj_map hb, hck, hf, run_setObj_map _ hb, Result.andThen, zeroValue, typeInfo, hi, hz, goInt]
    · rw [Array.toList_push]; exact hr.push hm
    · rw [Array.toList_push]; exact hs.push
    · refine ⟨es.toList.length, ⟨.int .i64 k, z, c⟩, by simp, rfl, z, ?_⟩
      rw [hnew m k z hm, hr.len]
    · have := k' c
      simpa [mget, hm] using this
  | some p =>
    obtain ⟨j, u'⟩ := p
    rw [hm] at hf
    obtain ⟨h1, e', h2, h3⟩ := MRep.modify (v := u') es.toList m j u' hr hm
    have h2' : es[j]? = some e' := by simpa using h2
    have hst := run_keyThatStays (P := P) (w := w) (d := .int .i64) (k := .int .i64 k) rfl
    refine ⟨.tuple #[u', .int .i64 (e'.born : Int)], _, _, ?_, hold (es.modify j fun e => { e with key := .int .i64 k }) c e'.born (mset m k u') ?_ ?_ ?_, ?_⟩
    · simp [Instr.mapEntry, run_underlying hu, MapKept.run_getObj_map hb, hck, hf, h2', h3, hst, run_setObj_map _ hb, Result.andThen, goInt]
    · rw [Array.toList_modify]
      have hv : e'.val = u' := by
        have := (MRep.find (k := k) es.toList m 0 hr)
        have hmm := hr
        clear hf
        exact MRep.val es.toList m j u' e' hr hm h2
      have : (es.toList.modify j fun e => { e with key := .int .i64 k }) = es.toList.modify j fun e => { e with key := .int .i64 k, val := u' } := by
        apply List.ext_getElem?
        intro i
        simp only [List.getElem?_modify]
        by_cases hij : j = i
        · subst hij; simp [h2, hv]
        · simp [hij]
      rw [this]; exact h1
    · rw [Array.toList_modify]; exact hs.same (born_modify (fun e => { e with key := .int .i64 k }) (fun _ => rfl) _ _)
    · obtain ⟨u, hu2⟩ := hself m k u' j hm
      exact ⟨j, { e' with key := .int .i64 k }, by rw [Array.toList_modify]; simp [h2, List.getElem?_modify], rfl, u, hu2⟩
    · have := k' e'.born
      simpa [mget, hm] using this
theorem s_mestore {t : TypeId} {v : Value} {b : Nat} {m : Assoc} {x y u : Operand} {k : Int} {st : Nat} [h : HasAt MapHold H b (m, k, st) F] (hx : ev fr x = .map (some b)) (hy : ev fr y = .int .i64 st) (hu' : ev fr u = v)
    (k' : WPL ro P B n ops rest fr (MapAt b (mset m k v) + F) Q) : WPL ro P B n ops (⟨none, .entryStore t x y u, ty, pos, after, none⟩ :: rest) fr H Q := step_act fun w hw => by
  rw [h.eq] at hw
  unfold MapHold at hw
  rw [ex_add] at hw
  obtain ⟨⟨es, c⟩, hw⟩ := hw.ex_out
  rw [fact_add] at hw
  obtain ⟨⟨⟨hr, hs⟩, j, e', h2, h3, u', hm⟩, ho⟩ := hw.fact_out
  have hb := ho.obj.1
  subst hu' h3
  have e1 : execOp (ev fr) ⟨none, .entryStore t x y u, ty, pos, after, none⟩ = (do Instr.entryStore t (ev fr x) (ev fr y) (ev fr u); Pure.pure Next.skip) := rfl
  obtain ⟨h1, e2, h4, h5⟩ := MRep.modify (v := ev fr u) es.toList m j u' hr hm
  have ee : e2 = e' := by simp only at h2; rw [h2] at h4; exact (Option.some.inj h4).symm
  subst ee
  have hidx : es.findIdx? (fun e => ((e.born : Nat) : Int) == ((e2.born : Nat) : Int)) = some j := by
    have : es.findIdx? (fun e => ((e.born : Nat) : Int) == ((e2.born : Nat) : Int)) = es.toList.findIdx? (fun e => ((e.born : Nat) : Int) == ((e2.born : Nat) : Int)) := by cases es; simp
    rw [this]
    exact findIdx_stamp hs.2 h2
  rw [e1, hx, hy]
  refine ⟨_, _, ?_, ho.mapUpd (m := m) (es' := es.modify j fun e => { e with val := ev fr u }) (c' := c) (m' := mset m k (ev fr u)) ?_ ?_, k'⟩
  · simp [Instr.entryStore, MapKept.run_getObj_map hb, asInt, asIntOf, hidx, run_setObj_map _ hb, Result.andThen]
  · rw [Array.toList_modify]
    have : (es.toList.modify j fun e => { e with val := ev fr u }) = es.toList.modify j fun e => { e with key := .int .i64 k, val := ev fr u } := by
      apply List.ext_getElem?
      intro i
      simp only [List.getElem?_modify]
      by_cases hij : j = i
      · subst hij; simp only at h2; simp [h2, ← h5]
      · simp [hij]
    rw [this]; exact h1
  · rw [Array.toList_modify]; exact hs.same (born_modify (fun e => { e with val := ev fr u }) (fun _ => rfl) _ _)
end
end Go.SL
set_option linter.unusedSimpArgs false
set_option linter.unusedVariables false
namespace Go.SL
open Go Go.RowKit
abbrev str (l : List UInt8) : Value := .string ⟨l.toArray⟩
theorem ba_eq (a b : ByteArray) : (a.toList == b.toList) = decide (a = b) := by
  by_cases h : a = b
  · subst h; simp
  · rw [decide_eq_false h]
    have : a.toList ≠ b.toList := fun e => h (by
      rw [ByteArray.toList_eq, ByteArray.toList_eq] at e
      obtain ⟨a⟩ := a
      obtain ⟨b⟩ := b
      congr
      simpa using e)
    simpa using this
section
variable {ro : Option Nat} {P : Program} {B : World} {n : Nat} {ops : Array Oper} {rest : List Oper} {fr : Fr} {H : HProp} {Q : Post}
variable {d : Nat} {ty : TypeId} {pos : String} {after : Array Edge}
theorem s_eqstr {t yt : TypeId} {x y : Operand} {p q : ByteArray} {b : Bool} (hx : ev fr x = .string p) (hy : ev fr y = .string q) (hr : decide (p = q) = b)
    (hd : Nat.blt d n = true) (k : WPL ro P B n ops rest (fr.put d (.bool b)) H Q) :
    WPL ro P B n ops (⟨some d, .binOp .eql t x y yt, ty, pos, after, none⟩ :: rest) fr H Q :=
  step_pure hd (fun w => by
    have : execOp (ev fr) ⟨some d, .binOp .eql t x y yt, ty, pos, after, none⟩ = (do Pure.pure (Next.value (← (do eqGuard .eql t x y (ev fr x) (ev fr y); binOp .eql t (ev fr x) (ev fr y))))) := rfl
    rw [this, hx, hy]
    subst hr
    simp [eqGuard_at_string, binOp_string_eql, ba_eq]) k
theorem s_nestr {t yt : TypeId} {x y : Operand} {p q : ByteArray} {b : Bool} (hx : ev fr x = .string p) (hy : ev fr y = .string q) (hr : (!decide (p = q)) = b)
    (hd : Nat.blt d n = true) (k : WPL ro P B n ops rest (fr.put d (.bool b)) H Q) :
    WPL ro P B n ops (⟨some d, .binOp .neq t x y yt, ty, pos, after, none⟩ :: rest) fr H Q :=
  step_pure hd (fun w => by
    have : execOp (ev fr) ⟨some d, .binOp .neq t x y yt, ty, pos, after, none⟩ = (do Pure.pure (Next.value (← (do eqGuard .neq t x y (ev fr x) (ev fr y); binOp .neq t (ev fr x) (ev fr y))))) := rfl
    rw [this, hx, hy]
    subst hr
    simp [eqGuard_at_string, binOp_string_neq, ba_eq]) k
end
end Go.SL
set_option linter.unusedSimpArgs false
set_option linter.unusedVariables false
namespace Go.SL
open Go Go.RowKit
/-- A plain value. -/
inductive Sc where
  | int (k : IntKind) (n : Int)
  | bool (b : Bool)
  | str (l : List UInt8)
deriving DecidableEq
inductive Kd where
  | int (k : IntKind)
  | bool
  | str
deriving DecidableEq
def Sc.val : Sc → Value
  | .int k n => .int k n
  | .bool b => .bool b
  | .str l => .string ⟨l.toArray⟩
def Sc.kd : Sc → Kd
  | .int k _ => .int k
  | .bool _ => .bool
  | .str _ => .str
def Kd.desc : Kd → TypeDesc
  | .int k => .int k
  | .bool => .bool
  | .str => .string
theorem Kd.plain (k : Kd) {P : Program} {t : TypeId} (w : World) (h : P.underlying t = some k.desc) : (isAgg t).run P w = .ok false w := by
  cases k <;> simp [isAgg, run_underlying h, Kd.desc]
theorem Sc.eq_run {P : Program} {t : TypeId} {x y : Sc} (w : World) (d : Nat) (h : P.underlying t = some x.kd.desc) (hy : y.kd = x.kd) : (Op.equalIn (d + 1) t x.val y.val).run P w = .ok (decide (x = y)) w := by
  cases x with
  | int k n =>
    cases y with
    | int k' m =>
      have : k' = k := by simpa [Sc.kd] using hy
      subst this
      simp only [Sc.val]
      rw [run_equalIn_int w d t k' k' n m h]
      by_cases e : n = m <;> simp [e]
    | _ => simp [Sc.kd] at hy
  | bool b =>
    cases y with
    | bool c =>
      simp only [Sc.val]
      rw [run_equalIn_bool' w d t b c h]
      cases b <;> cases c <;> rfl
    | _ => simp [Sc.kd] at hy
  | str l =>
    cases y with
    | str m =>
      simp only [Sc.val]
      rw [run_equalIn_string w d t _ _ h, ba_eq]
      by_cases e : l = m <;> simp [e]
    | _ => simp [Sc.kd] at hy
/-- A struct whose fields are plain, all of them compared. -/
class FlatEq (P : Program) (t : TypeId) (ks : outParam (List Kd)) : Prop where
  und : P.underlying t = some (.struct (P.fieldsOf t))
  held : P.stoodInHeld t = false
  flds : (P.fieldsOf t).toList.map (fun f => (f.name == "_", P.underlying f.type, f.offset)) = (ks.zipIdx 0).map fun p => (false, some p.1.desc, p.2)
  guard : P.eqGuardType P.depth t = false
theorem flat_fields {P : Program} (w : World) (d : Nat) (xs ys : List Sc) (hxy : ys.map Sc.kd = xs.map Sc.kd) : ∀ (fs : List Field) (i : Nat), i ≤ xs.length →
    fs.map (fun f => (f.name == "_", P.underlying f.type, f.offset)) = (((xs.map Sc.kd).drop i).zipIdx i).map (fun p => (false, some p.1.desc, p.2)) →
    (Op.eqFields (d + 1) (xs.map Sc.val).toArray (ys.map Sc.val).toArray fs).run P w = .ok (decide (xs.drop i = ys.drop i)) w
  | [], i, hi, h => by
    have hl := congrArg List.length h
    simp at hl
    have hyl : ys.length = xs.length := by have := congrArg List.length hxy; simpa using this
    rw [List.drop_of_length_le (by omega), List.drop_of_length_le (by omega)]
    simp [Op.eqFields]
  | f :: fs, i, hi, h => by
    have hyl : ys.length = xs.length := by have := congrArg List.length hxy; simpa using this
    have hl := congrArg List.length h
    simp at hl
    have hlt : i < xs.length := by omega
    have hlt2 : i < ys.length := by omega
    have hk : ys[i].kd = xs[i].kd := by
      have := congrArg (fun l : List Kd => l[i]?) hxy
      simpa [hlt, hlt2] using this
    rw [List.drop_eq_getElem_cons (by simpa using hlt)] at h
    simp only [List.map_cons, List.zipIdx_cons, List.cons.injEq, Prod.mk.injEq, List.getElem_map] at h
    obtain ⟨⟨e1, e2, e3⟩, e4⟩ := h
    have ih := flat_fields w d xs ys hxy fs (i + 1) (by omega) e4
    have hp1 : (part f.type (xs.map Sc.val).toArray i).run P w = .ok xs[i].val w := by
      simp [part, Kd.plain _ w e2, hlt, Result.andThen]
    have hp2 : (part f.type (ys.map Sc.val).toArray i).run P w = .ok ys[i].val w := by
      simp [part, Kd.plain _ w e2, hlt2, Result.andThen]
    have hq := Sc.eq_run (x := xs[i]) (y := ys[i]) w d e2 hk
    have hn : f.name ≠ "_" := by simpa using e1
    rw [List.drop_eq_getElem_cons hlt, List.drop_eq_getElem_cons hlt2]
    by_cases he : xs[i] = ys[i]
    · rw [decide_eq_true he] at hq
      simp only [Op.eqFields, Sem.run_bind, Sem.run_ite, hn, e3, hp1, hp2, hq, ne_eq, not_false_eq_true, if_true, Result.andThen_ok, Bool.not_true, Bool.false_eq_true, if_false, ih]
      rw [he]
      generalize xs.drop (i + 1) = A
      generalize ys.drop (i + 1) = C
      generalize ys[i] = z
      congr 1
      simp
    · rw [decide_eq_false he] at hq
      simp only [Op.eqFields, Sem.run_bind, Sem.run_ite, hn, e3, hp1, hp2, hq, ne_eq, not_false_eq_true, if_true, Result.andThen_ok, Bool.not_false, Sem.run_pure]
      generalize xs.drop (i + 1) = A
      generalize ys.drop (i + 1) = C
      generalize xs[i] = y at he
      generalize ys[i] = z at he
      congr 1
      simp [he]
section
variable {ro : Option Nat} {P : Program} {B : World} {n : Nat} {ops : Array Oper} {rest : List Oper} {fr : Fr} {H : HProp} {Q : Post}
variable {d : Nat} {ty : TypeId} {pos : String} {after : Array Edge}
theorem flat_eq {t : TypeId} {ks : List Kd} {xs ys : List Sc} (w : World) [i : FlatEq P t ks] (h1 : xs.map Sc.kd = ks) (h2 : ys.map Sc.kd = ks) :
    (Op.equalIn 10000 t (.agg (xs.map Sc.val).toArray) (.agg (ys.map Sc.val).toArray)).run P w = .ok (decide (xs = ys)) w := by
  rw [run_equalIn_agg w 9999 t _ _ i.und i.held]
  have := flat_fields (P := P) w 9998 xs ys (h2.trans h1.symm) (P.fieldsOf t).toList 0 (Nat.zero_le _) (by rw [i.flds, List.drop_zero, h1])
  rw [this]
  simp
theorem s_eqlF {t yt : TypeId} {ks : List Kd} {x y : Operand} (xs ys : List Sc) {b : Bool} [i : FlatEq P t ks] (hx : ev fr x = .agg (xs.map Sc.val).toArray) (hy : ev fr y = .agg (ys.map Sc.val).toArray)
    (h1 : xs.map Sc.kd = ks) (h2 : ys.map Sc.kd = ks) (hr : decide (xs = ys) = b) (hd : Nat.blt d n = true)
    (k : WPL ro P B n ops rest (fr.put d (.bool b)) H Q) : WPL ro P B n ops (⟨some d, .binOp .eql t x y yt, ty, pos, after, none⟩ :: rest) fr H Q := step_pure hd (fun w => by
    have : execOp (ev fr) ⟨some d, .binOp .eql t x y yt, ty, pos, after, none⟩ = (do Pure.pure (Next.value (← (do eqGuard .eql t x y (ev fr x) (ev fr y); binOp .eql t (ev fr x) (ev fr y))))) := rfl
    rw [this, hx, hy]
    simp [run_eqGuard_agg w .eql t x y _ _ i.guard, run_eql_struct, flat_eq w h1 h2, hr]) k
theorem s_neqF {t yt : TypeId} {ks : List Kd} {x y : Operand} (xs ys : List Sc) {b : Bool} [i : FlatEq P t ks] (hx : ev fr x = .agg (xs.map Sc.val).toArray) (hy : ev fr y = .agg (ys.map Sc.val).toArray)
    (h1 : xs.map Sc.kd = ks) (h2 : ys.map Sc.kd = ks) (hr : (!decide (xs = ys)) = b) (hd : Nat.blt d n = true)
    (k : WPL ro P B n ops rest (fr.put d (.bool b)) H Q) : WPL ro P B n ops (⟨some d, .binOp .neq t x y yt, ty, pos, after, none⟩ :: rest) fr H Q := step_pure hd (fun w => by
    have : execOp (ev fr) ⟨some d, .binOp .neq t x y yt, ty, pos, after, none⟩ = (do Pure.pure (Next.value (← (do eqGuard .neq t x y (ev fr x) (ev fr y); binOp .neq t (ev fr x) (ev fr y))))) := rfl
    rw [this, hx, hy]
    subst hr
    simp [run_eqGuard_agg w .neq t x y _ _ i.guard, run_neq_struct, flat_eq w h1 h2]) k
end
end Go.SL
set_option linter.unusedSimpArgs false
set_option linter.unusedVariables false
namespace Go.SL
open Go Go.RowKit
class UnderStr (P : Program) (t : TypeId) : Prop where
  eq : P.underlying t = some .string
section
variable {ro : Option Nat} {P : Program} {B : World} {n : Nat} {ops : Array Oper} {rest : List Oper} {fr : Fr} {H : HProp} {Q : Post}
variable {d : Nat} {ty : TypeId} {pos : String} {after : Array Edge}
theorem s_slen {t : TypeId} {x : Operand} {l : List UInt8} [u : UnderStr P t] (hx : ev fr x = str l) (hd : Nat.blt d n = true)
    (k : WPL ro P B n ops rest (fr.put d (.int .i64 (l.length : Int))) H Q) : WPL ro P B n ops (⟨some d, .call ⟨.builtin .len, #[x], #[t]⟩, ty, pos, after, none⟩ :: rest) fr H Q := step_pure hd (fun w => by
    have e : (⟨l.toArray⟩ : ByteArray).size = l.length := by show l.toArray.size = _; simp
    simp [execOp, resolve, invoke, builtin, hx, run_len_string _ _ _ _ u.eq, goInt, e]) k
theorem s_sindex {t : TypeId} {x y : Operand} {l : List UInt8} {kd : IntKind} {p : Int} {j : Nat} [u : UnderStr P t] (hx : ev fr x = str l) (hy : ev fr y = .int kd p) (hp : p = (j : Int)) (hj : j < l.length) (hd : Nat.blt d n = true)
    (k : WPL ro P B n ops rest (fr.put d (.int .u8 ((l[j]).toNat : Int))) H Q) : WPL ro P B n ops (⟨some d, .index t x y, ty, pos, after, none⟩ :: rest) fr H Q := step_pure hd (fun w => by
    have e : (⟨l.toArray⟩ : ByteArray).size = l.length := by show l.toArray.size = _; simp
    have h0 := run_index_string (P := P) w t ⟨l.toArray⟩ kd p u.eq
    rw [dif_pos ⟨by omega, by rw [e]; omega⟩] at h0
    have e2 : execOp (ev fr) ⟨some d, .index t x y, ty, pos, after, none⟩ = (do Pure.pure (Next.value (← Instr.index t (ev fr x) (ev fr y)))) := rfl
    rw [e2, hx, hy]
    simp only [Sem.run_bind, h0, Result.andThen]
    subst hp
    rfl) k
end
end Go.SL
set_option linter.unusedSimpArgs false
set_option linter.unusedVariables false
namespace Go.SL
open Go Go.RowKit
class SetAt (cs : List Value) (o : Nat) (v : Value) (cs' : outParam (List Value)) : Prop where
  eq : cs.set o v = cs'
instance {a v : Value} {l : List Value} : SetAt (a :: l) 0 v (v :: l) := ⟨rfl⟩
instance {a v : Value} {l l' : List Value} {n : Nat} [i : SetAt l n v l'] : SetAt (a :: l) (n + 1) v (a :: l') := ⟨by rw [List.set_cons_succ, i.eq]⟩
section
variable {ro : Option Nat} {P : Program} {B : World} {n : Nat} {ops : Array Oper} {rest : List Oper} {fr : Fr} {H F : HProp} {Q : Post}
variable {d : Nat} {ty : TypeId} {pos : String} {after : Array Edge}
/-- A block is written over as a whole. -/
theorem s_storeV {t e : TypeId} {sz : Nat} {x y : Operand} {b : Nat} {vs cs : List Value} [i : Aggr P t sz] (hx : ev fr x = .pointer (some ⟨b, 0, none⟩)) [hb : HasBlk H b cs e F] (hy : ev fr y = .agg vs.toArray)
    (h1 : vs.all Value.oneCell' = true) (hl : Nat.beq vs.length sz = true) (ho : Nat.beq cs.length sz = true)
    (k : WPL ro P B n ops rest fr (blk b vs e + F) Q) : WPL ro P B n ops (⟨none, .store t x y, ty, pos, after, none⟩ :: rest) fr H Q :=
  s_storeW hx hy h1 (Nat.eq_of_beq_eq_true hl) (Nat.eq_of_beq_eq_true ho) k
theorem s_quoN {t yt : TypeId} {x y : Operand} {kd : IntKind} {p q r : Int} (hx : ev fr x = .int kd p) (hy : ev fr y = .int kd q) (hp : 0 ≤ p ∧ 0 < q) (hr : kd.wrap (p / q) = r)
    (hd : Nat.blt d n = true) (k : WPL ro P B n ops rest (fr.put d (.int kd r)) H Q) : WPL ro P B n ops (⟨some d, .binOp .quo t x y yt, ty, pos, after, none⟩ :: rest) fr H Q :=
  s_quo hx hy (by omega) (by rw [Int.tdiv_eq_ediv_of_nonneg hp.1]; exact hr) hd k
/-- One of two, where it is not known which. -/
theorem s_pickB {c x y : Operand} {b p q r : Bool} (hc : ev fr c = .bool b) (hx : ev fr x = .bool p) (hy : ev fr y = .bool q) (hr : (bif b then p else q) = r) (hd : Nat.blt d n = true) (k : WPL ro P B n ops rest (fr.put d (.bool r)) H Q) :
    WPL ro P B n ops (⟨some d, .pick c x y, ty, pos, after, none⟩ :: rest) fr H Q := by
  subst hr
  cases b
  · exact s_pick_f hc hy hd k
  · exact s_pick_t hc hx hd k
/-- One cell of a block that is spelled out. -/
theorem s_store1 {t e : TypeId} {x y : Operand} {b o : Nat} {v : Value} {cs cs' : List Value} [i : Plain P t] (hx : ev fr x = .pointer (some ⟨b, o, none⟩)) [hb : HasBlk H b cs e F] (hy : ev fr y = v)
    (h1 : v.oneCell' = true) (ho : Nat.blt o cs.length = true) [hcs : SetAt cs o v cs']
    (k : WPL ro P B n ops rest fr (blk b cs' e + F) Q) : WPL ro P B n ops (⟨none, .store t x y, ty, pos, after, none⟩ :: rest) fr H Q :=
  s_store hx hy h1 (by simpa [Nat.blt_eq] using ho) hcs.eq k
end
section
variable {P : Program} {B : World} {fn : Func} {R : Value → HProp → Prop} {e : Exit} {fr : Fr} {H G : HProp}
theorem QRet.dropR {v : Value} (he : e = .normal ∨ e = .ret) (hr : ∀ a w, (∀ t, a.getD t undef = fr t) → Holds B H w → (results fn a).run P w = .ok v w) (hE : Ent H G) (h : R v G) (hds : fr.ds = [] := by rfl) : QRet P B fn R e fr H :=
  ⟨he, v, H, G, by rw [hds]; unfold marks; rw [HProp.emp_add]; exact Ent.refl _, hr, hE, h⟩
theorem retRD1 {r : ResultVar} {v : Value} (he : e = .normal ∨ e = .ret) (hr : fn.results = #[r]) (h1 : RV P B fr H r v) (hE : Ent H G) (h : R v G) (hds : fr.ds = [] := by rfl) : QRet P B fn R e fr H := by
  obtain ⟨_, v', G1, G2, hE1, hres, hE2, rfl, rfl⟩ := retR1 (R := fun v' H' => v' = v ∧ H' = H) he hr h1 ⟨rfl, rfl⟩ hds
  exact QRet.dropR he (fun a w ha hw => hres a w ha (hw.ent (by rw [hds] at hE1; unfold marks at hE1; rw [HProp.emp_add] at hE1; exact hE1))) hE h hds
theorem retRD2 {r s : ResultVar} {v u : Value} (he : e = .normal ∨ e = .ret) (hr : fn.results = #[r, s]) (h1 : RV P B fr H r v) (h2 : RV P B fr H s u) (hE : Ent H G) (h : R (.tuple #[v, u]) G) (hds : fr.ds = [] := by rfl) : QRet P B fn R e fr H := by
  obtain ⟨_, v', G1, G2, hE1, hres, hE2, rfl, rfl⟩ := retR2 (R := fun v' H' => v' = (.tuple #[v, u]) ∧ H' = H) he hr h1 h2 ⟨rfl, rfl⟩ hds
  exact QRet.dropR he (fun a w ha hw => hres a w ha (hw.ent (by rw [hds] at hE1; unfold marks at hE1; rw [HProp.emp_add] at hE1; exact hE1))) hE h hds
end
end Go.SL
set_option linter.unusedSimpArgs false
set_option linter.unusedVariables false
namespace Go.SL
open Go Go.RowKit
section
variable {P : Program} {B : World} {H F : HProp} {f : FuncId} {args : List Value} {v : Value}
end
section
variable {ro : Option Nat} {P : Program} {B : World} {n : Nat} {ops : Array Oper} {rest : List Oper} {fr : Fr} {H : HProp} {Q : Post}
variable {d : Nat} {ty : TypeId} {pos : String} {after : Array Edge}
abbrev by8 (l : List UInt8) : List Value := l.map fun c => .int .u8 (c.toNat : Int)
end
end Go.SL
set_option linter.unusedSimpArgs false
set_option linter.unusedVariables false
namespace Go.SL
open Go Go.RowKit
set_option maxRecDepth 10000
theorem walkG {p q : Prop} (k : q) (h : Owed q → p := by
  intro k_
  (repeat (first | (show WPL _ _ _ _ _ (⟨_, .move _, _, _, _, none⟩ :: _) _ _ _; first | refine s_move (v := .int _ _) rfl rfl ?_ | refine s_move (v := .pointer _) rfl rfl ?_ | refine s_move (v := .slice _ _ _) rfl rfl ?_ | refine s_move (v := .bool _) rfl rfl ?_ | refine s_move (v := .agg _) rfl rfl ?_ | refine s_move (v := .string _) rfl rfl ?_ | refine s_move (v := .tuple _) rfl rfl ?_ | refine s_move (v := .map _) rfl rfl ?_ | refine s_move (v := .nilIface) rfl rfl ?_ | refine s_move (v := .iface _ _) rfl rfl ?_ | refine s_move (v := .func _ _ _) rfl rfl ?_ | refine s_move (v := .float _ _) rfl rfl ?_ | refine s_move rfl rfl ?_) | (show WPL _ _ _ _ _ (⟨_, .assign _, _, _, _, none⟩ :: _) _ _ _; first | refine s_assign (v := .int _ _) rfl rfl ?_ | refine s_assign (v := .pointer _) rfl rfl ?_ | refine s_assign (v := .slice _ _ _) rfl rfl ?_ | refine s_assign (v := .bool _) rfl rfl ?_ | refine s_assign (v := .agg _) rfl rfl ?_ | refine s_assign (v := .string _) rfl rfl ?_ | refine s_assign (v := .tuple _) rfl rfl ?_ | refine s_assign (v := .map _) rfl rfl ?_ | refine s_assign (v := .nilIface) rfl rfl ?_ | refine s_assign (v := .iface _ _) rfl rfl ?_ | refine s_assign (v := .func _ _ _) rfl rfl ?_ | refine s_assign (v := .float _ _) rfl rfl ?_ | refine s_assign rfl rfl ?_) | (show WPL _ _ _ _ _ (⟨_, .load _ _, _, _, _, none⟩ :: _) _ _ _; first | refine s_load (v := .int _ _) rfl (Cell.blk rfl) rfl ?_ | refine s_load (v := .pointer _) rfl (Cell.blk rfl) rfl ?_ | refine s_load (v := .slice _ _ _) rfl (Cell.blk rfl) rfl ?_ | refine s_load (v := .bool _) rfl (Cell.blk rfl) rfl ?_ | refine s_load (v := .agg _) rfl (Cell.blk rfl) rfl ?_ | refine s_load (v := .string _) rfl (Cell.blk rfl) rfl ?_ | refine s_load (v := .tuple _) rfl (Cell.blk rfl) rfl ?_ | refine s_load (v := .map _) rfl (Cell.blk rfl) rfl ?_ | refine s_load (v := .nilIface) rfl (Cell.blk rfl) rfl ?_ | refine s_load (v := .iface _ _) rfl (Cell.blk rfl) rfl ?_ | refine s_load (v := .func _ _ _) rfl (Cell.blk rfl) rfl ?_ | refine s_load (v := .float _ _) rfl (Cell.blk rfl) rfl ?_ | (apply s_load; (· exact rfl); (· assumption); (· exact rfl)) | (apply s_load; (· exact rfl); (· (apply Cell.ent; (· assumption); (· exact InH.ent))); (· exact rfl)) | (refine s_load rfl (Cell.atZs ?_) rfl ?_; · omega) | (refine s_load rfl (Cell.atZsA ?_) rfl ?_; · omega) | (apply s_load; (· exact rfl); (· (apply Cells.atZs; (· assumption); (· omega); (· exact InH.ent))); (· exact rfl)) | refine s_loadA rfl Cells.blk0 rfl rfl ?_ | (apply s_loadA; (· exact rfl); (· assumption); (· exact rfl); (· exact rfl)) | (apply s_loadA; (· exact rfl); (· (apply Cells.ent; (· assumption); (· exact InH.ent))); (· exact rfl); (· exact rfl))) | (show WPL _ _ _ _ _ (⟨_, .fieldAddr _ _ _, _, _, _, none⟩ :: _) _ _ _; first | refine s_fieldAddr0 rfl rfl ?_ | refine s_fieldAddr rfl rfl rfl ?_) | (show WPL _ _ _ _ _ (⟨_, .nilCheck _, _, _, _, none⟩ :: _) _ _ _; first | refine s_nilCheck rfl rfl ?_) | (show WPL _ _ _ _ _ (⟨_, .indexAddr _ _ _, _, _, _, none⟩ :: _) _ _ _; first | (refine s_indexAddr0 rfl rfl ?_ rfl ?_; · omega) | (refine s_indexAddr1 rfl rfl ?_ rfl ?_; · omega) | (refine s_indexAddr rfl rfl rfl ?_ rfl rfl ?_; · omega)) | (show WPL _ _ _ _ _ (⟨_, .call _, _, _, _, none⟩ :: _) _ _ _; first | refine s_len rfl rfl ?_) | (show WPL _ _ _ _ _ (⟨_, .binOp .add _ _ _ _, _, _, _, none⟩ :: _) _ _ _; first | (refine s_add rfl rfl rfl ?_ rfl ?_; · omega) | (refine s_addw rfl rfl (intU32 ?_) rfl ?_; · omega) | (refine s_addw rfl rfl (intU64 ?_) rfl ?_; · omega) | (refine s_addw rfl rfl (intU8 ?_) rfl ?_; · omega) | (refine s_addw rfl rfl (intI32 ?_) rfl ?_; · omega) | refine s_addw rfl rfl (wrapU32 _) rfl ?_ | refine s_addw rfl rfl (wrapU64 _) rfl ?_ | refine s_addw rfl rfl (wrapU8 _) rfl ?_) | (show WPL _ _ _ _ _ (⟨_, .binOp .mul _ _ _ _, _, _, _, none⟩ :: _) _ _ _; first | (refine s_mul rfl rfl rfl ?_ rfl ?_; · omega) | (refine s_mulw rfl rfl (intU32 ?_) rfl ?_; · omega) | (refine s_mulw rfl rfl (intU64 ?_) rfl ?_; · omega) | (refine s_mulw rfl rfl (intU8 ?_) rfl ?_; · omega) | (refine s_mulw rfl rfl (intI32 ?_) rfl ?_; · omega) | refine s_mulw rfl rfl (wrapU32 _) rfl ?_ | refine s_mulw rfl rfl (wrapU64 _) rfl ?_ | refine s_mulw rfl rfl (wrapU8 _) rfl ?_) | (show WPL _ _ _ _ _ (⟨_, .binOp .rem _ _ _ _, _, _, _, none⟩ :: _) _ _ _; first | (refine s_remP rfl rfl ?_ rfl ?_; · omega)) | (show WPL _ _ _ _ _ (⟨_, .binOp .quo _ _ _ _, _, _, _, none⟩ :: _) _ _ _; first | (refine s_quoP rfl rfl ?_ rfl ?_; · omega)) | (show WPL _ _ _ _ _ (⟨_, .binOp .sub _ _ _ _, _, _, _, none⟩ :: _) _ _ _; first | (refine s_sub rfl rfl rfl ?_ rfl ?_; · omega) | (refine s_subw rfl rfl (intU32 ?_) rfl ?_; · omega) | (refine s_subw rfl rfl (intU64 ?_) rfl ?_; · omega) | (refine s_subw rfl rfl (intU8 ?_) rfl ?_; · omega) | (refine s_subw rfl rfl (intI32 ?_) rfl ?_; · omega) | refine s_subw rfl rfl (wrapU32 _) rfl ?_ | refine s_subw rfl rfl (wrapU64 _) rfl ?_ | refine s_subw rfl rfl (wrapU8 _) rfl ?_) | (show WPL _ _ _ _ _ (⟨_, .binOp .lss _ _ _ _, _, _, _, none⟩ :: _) _ _ _; first | (refine s_lss_t rfl rfl ?_ rfl ?_; · omega) | (refine s_lss_f rfl rfl ?_ rfl ?_; · omega)) | (show WPL _ _ _ _ _ (⟨_, .binOp .eql _ _ _ _, _, _, _, none⟩ :: _) _ _ _; first | (refine s_eql_t rfl rfl ?_ rfl ?_; · omega) | (refine s_eql_f rfl rfl ?_ rfl ?_; · omega) | refine s_eqnil rfl rfl (b := true) rfl rfl ?_ | refine s_eqnil rfl rfl (b := false) rfl rfl ?_ | refine s_eqbool rfl rfl (b := true) rfl rfl ?_ | refine s_eqbool rfl rfl (b := false) rfl rfl ?_ | (refine s_eqbool rfl rfl (b := true) ?_ rfl ?_; · simp)) | (show WPL _ _ _ _ _ (⟨_, .binOp .neq _ _ _ _, _, _, _, none⟩ :: _) _ _ _; first | (refine s_neq_t rfl rfl ?_ rfl ?_; · omega) | (refine s_neq_f rfl rfl ?_ rfl ?_; · omega) | refine s_nenil rfl rfl (b := true) rfl rfl ?_ | refine s_nenil rfl rfl (b := false) rfl rfl ?_ | refine s_nebool rfl rfl (b := true) rfl rfl ?_ | refine s_nebool rfl rfl (b := false) rfl rfl ?_ | (refine s_nebool rfl rfl (b := false) ?_ rfl ?_; · simp) | (apply s_neqS (xs := [_, _]) (ys := [_, _]); (· exact rfl); (· exact rfl); (· exact rfl); (· exact rfl); (· assumption); (· exact rfl))) | (show WPL _ _ _ _ _ (⟨_, .binOp .geq _ _ _ _, _, _, _, none⟩ :: _) _ _ _; first | (refine s_geq_t rfl rfl ?_ rfl ?_; · omega) | (refine s_geq_f rfl rfl ?_ rfl ?_; · omega)) | (show WPL _ _ _ _ _ (⟨_, .binOp .leq _ _ _ _, _, _, _, none⟩ :: _) _ _ _; first | (refine s_leq_t rfl rfl ?_ rfl ?_; · omega) | (refine s_leq_f rfl rfl ?_ rfl ?_; · omega)) | (show WPL _ _ _ _ _ (⟨_, .binOp .gtr _ _ _ _, _, _, _, none⟩ :: _) _ _ _; first | (refine s_gtr_t rfl rfl ?_ rfl ?_; · omega) | (refine s_gtr_f rfl rfl ?_ rfl ?_; · omega)) | (show WPL _ _ _ _ _ (⟨_, .convert _ _ _, _, _, _, none⟩ :: _) _ _ _; first | (refine s_conv rfl (intI64 ?_) rfl ?_; · omega) | (refine s_conv rfl (intU32 ?_) rfl ?_; · omega) | (refine s_conv rfl (intU64 ?_) rfl ?_; · omega) | (refine s_conv rfl (intU8 ?_) rfl ?_; · omega) | (refine s_conv rfl (intI32 ?_) rfl ?_; · omega) | refine s_conv rfl (wrapU32 _) rfl ?_ | refine s_conv rfl (wrapU64 _) rfl ?_ | refine s_conv rfl (wrapU8 _) rfl ?_) | (show WPL _ _ _ _ _ (⟨_, .unOp .not _ _, _, _, _, none⟩ :: _) _ _ _; first | refine s_not (c := true) rfl rfl rfl ?_ | refine s_not (c := false) rfl rfl rfl ?_) | (show WPL _ _ _ _ _ (⟨_, .pick _ _ _, _, _, _, none⟩ :: _) _ _ _; first | refine s_pick_t (v := .int _ _) rfl rfl rfl ?_ | refine s_pick_f (v := .int _ _) rfl rfl rfl ?_ | refine s_pick_t (v := .pointer _) rfl rfl rfl ?_ | refine s_pick_f (v := .pointer _) rfl rfl rfl ?_ | refine s_pick_t (v := .slice _ _ _) rfl rfl rfl ?_ | refine s_pick_f (v := .slice _ _ _) rfl rfl rfl ?_ | refine s_pick_t (v := .bool _) rfl rfl rfl ?_ | refine s_pick_f (v := .bool _) rfl rfl rfl ?_ | refine s_pick_t (v := .agg _) rfl rfl rfl ?_ | refine s_pick_f (v := .agg _) rfl rfl rfl ?_ | refine s_pick_t (v := .string _) rfl rfl rfl ?_ | refine s_pick_f (v := .string _) rfl rfl rfl ?_ | refine s_pick_t (v := .tuple _) rfl rfl rfl ?_ | refine s_pick_f (v := .tuple _) rfl rfl rfl ?_ | refine s_pick_t (v := .map _) rfl rfl rfl ?_ | refine s_pick_f (v := .map _) rfl rfl rfl ?_ | refine s_pick_t (v := .nilIface) rfl rfl rfl ?_ | refine s_pick_f (v := .nilIface) rfl rfl rfl ?_ | refine s_pick_t (v := .iface _ _) rfl rfl rfl ?_ | refine s_pick_f (v := .iface _ _) rfl rfl rfl ?_ | refine s_pick_t (v := .func _ _ _) rfl rfl rfl ?_ | refine s_pick_f (v := .func _ _ _) rfl rfl rfl ?_ | refine s_pick_t (v := .float _ _) rfl rfl rfl ?_ | refine s_pick_f (v := .float _ _) rfl rfl rfl ?_) | (show WPL _ _ _ _ _ (⟨_, .extract _ _, _, _, _, none⟩ :: _) _ _ _; first | refine s_extract (v := .int _ _) rfl rfl rfl ?_ | refine s_extract (v := .pointer _) rfl rfl rfl ?_ | refine s_extract (v := .slice _ _ _) rfl rfl rfl ?_ | refine s_extract (v := .bool _) rfl rfl rfl ?_ | refine s_extract (v := .agg _) rfl rfl rfl ?_ | refine s_extract (v := .string _) rfl rfl rfl ?_ | refine s_extract (v := .tuple _) rfl rfl rfl ?_ | refine s_extract (v := .map _) rfl rfl rfl ?_ | refine s_extract (v := .nilIface) rfl rfl rfl ?_ | refine s_extract (v := .iface _ _) rfl rfl rfl ?_ | refine s_extract (v := .func _ _ _) rfl rfl rfl ?_ | refine s_extract (v := .float _ _) rfl rfl rfl ?_) | (show WPL _ _ _ _ _ (⟨_, _, _, _, _, some _⟩ :: _) _ _ _; first | refine step_wanted rfl rfl ?_ | refine step_unwanted rfl rfl rfl rfl ?_ | refine step_unwanted0 rfl rfl rfl ?_ | refine step_unwantedU rfl rfl rfl ?_ | refine step_unwantedU0 rfl rfl ?_) | refine wpl_nil_seq ?_ | refine wp_seq' ?_ | refine wp_region' ?_ | refine wp_block' ?_ | refine wp_cond_t rfl ?_ | refine wp_cond_f rfl ?_ | refine wp_skip' ?_ | refine q_seq ?_ | refine wp_ret' ?_ | refine wp_exit' ?_ | refine q_seq_ret ?_ | refine q_seq_exit ?_ | refine q_blk_ret ?_ | refine q_blk_here ?_ | refine q_blk_exit rfl ?_ | refine q_blk ?_ | refine wpl_nil ?_ | (show WPL _ _ _ _ _ (⟨_, .binOp .lss _ _ _ _, _, _, _, none⟩ :: _) _ _ _; first | refine s_lss rfl rfl rfl rfl ?_) | (show WPL _ _ _ _ _ (⟨_, .binOp .leq _ _ _ _, _, _, _, none⟩ :: _) _ _ _; first | refine s_leq rfl rfl rfl rfl ?_) | (show WPL _ _ _ _ _ (⟨_, .binOp .gtr _ _ _ _, _, _, _, none⟩ :: _) _ _ _; first | refine s_gtr rfl rfl rfl rfl ?_) | (show WPL _ _ _ _ _ (⟨_, .binOp .geq _ _ _ _, _, _, _, none⟩ :: _) _ _ _; first | refine s_geq rfl rfl rfl rfl ?_) | (show WPL _ _ _ _ _ (⟨_, .binOp .eql _ _ _ _, _, _, _, none⟩ :: _) _ _ _; first | refine s_eql rfl rfl rfl rfl ?_ | refine s_eqbool rfl rfl rfl rfl ?_ | refine s_eqstr rfl rfl (b := true) rfl rfl ?_ | refine s_eqstr rfl rfl (b := false) rfl rfl ?_ | refine s_eqstr rfl rfl rfl rfl ?_) | (show WPL _ _ _ _ _ (⟨_, .binOp .neq _ _ _ _, _, _, _, none⟩ :: _) _ _ _; first | refine s_neq rfl rfl rfl rfl ?_ | refine s_nebool rfl rfl rfl rfl ?_ | refine s_nestr rfl rfl (b := true) rfl rfl ?_ | refine s_nestr rfl rfl (b := false) rfl rfl ?_ | refine s_nestr rfl rfl rfl rfl ?_) | (show WPL _ _ _ _ _ (⟨_, .unOp .not _ _, _, _, _, none⟩ :: _) _ _ _; first | refine s_not rfl rfl rfl ?_) | (show WPL _ _ _ _ _ (⟨_, .binOp .quo _ _ _ _, _, _, _, none⟩ :: _) _ _ _; first | (refine s_quoN rfl rfl ?_ (intU32 ?_) rfl ?_; (· omega); (· omega)) | (refine s_quoN rfl rfl ?_ (intU64 ?_) rfl ?_; (· omega); (· omega)) | (refine s_quoN rfl rfl ?_ (intU8 ?_) rfl ?_; (· omega); (· omega)) | (refine s_quoN rfl rfl ?_ (intI64 ?_) rfl ?_; (· omega); (· omega)) | (refine s_quoN rfl rfl ?_ (intI32 ?_) rfl ?_; (· omega); (· omega))) | (show WPL _ _ _ _ _ (⟨_, .pick _ _ _, _, _, _, none⟩ :: _) _ _ _; first | refine s_pickB rfl rfl rfl rfl ?_) | (show WPL _ _ _ _ _ (⟨_, .call _, _, _, _, none⟩ :: _) _ _ _; first | refine s_slen rfl rfl ?_) | (show WPL _ _ _ _ _ (⟨_, .store _ _ _, _, _, _, none⟩ :: _) _ _ _; (first | refine s_store1 (v := .int _ _) rfl rfl rfl rfl ?_ | refine s_store1 (v := .pointer _) rfl rfl rfl rfl ?_ | refine s_store1 (v := .slice _ _ _) rfl rfl rfl rfl ?_ | refine s_store1 (v := .bool _) rfl rfl rfl rfl ?_ | refine s_store1 (v := .string _) rfl rfl rfl rfl ?_ | refine s_store1 (v := .map _) rfl rfl rfl rfl ?_ | refine s_store1 (v := _) rfl rfl rfl rfl ?_ | refine s_storeV rfl rfl rfl rfl rfl ?_))))
  exact k_.get) : p := h ⟨k⟩
end Go.SL
set_option linter.unusedSimpArgs false
set_option linter.unusedVariables false
namespace Go.SL
open Go Go.RowKit
section
variable {ro : Option Nat} {P : Program} {B : World} {n : Nat} {ops : Array Oper} {rest : List Oper} {fr : Fr} {H : HProp} {Q : Post}
variable {d : Nat} {ty : TypeId} {pos : String} {after : Array Edge}
theorem s_sliceArrH {t e : TypeId} {alen sz h b o : Nat} [i : ArrayOf P t alen e sz] {x u : Operand} {kd : IntKind} {q : Int} (hx : ev fr x = .pointer (some ⟨b, o, none⟩))
    (hu : ev fr u = .int kd q) (hq : q = (h : Int)) (hh : h ≤ alen) (hd : Nat.blt d n = true)
    (k : WPL ro P B n ops rest (fr.put d (.slice (some ⟨b, o, none⟩) h alen)) H Q) :
    WPL ro P B n ops (⟨some d, .slice t x none (some u) none, ty, pos, after, none⟩ :: rest) fr H Q := step_pure hd (fun w => by
    obtain ⟨hun, inf, hi, hs⟩ := i.eq
    have : execOp (ev fr) ⟨some d, .slice t x none (some u) none, ty, pos, after, none⟩ = (do Pure.pure (Next.value (← Instr.sliceAt t (ev fr x) none (some (ev fr u)) none))) := rfl
    subst hq
    rw [this, hx, hu]
    have e0 : (⟨b, o, none⟩ : Addr).add 0 = ⟨b, o, none⟩ := by simp [Addr.add]
    simp [Instr.sliceAt, Instr.sureAddr, run_underlying hun, Instr.sliceBounds, Instr.sliceBound, asIntOf, hh, sizeOf, typeInfo, hi, hs, e0, Result.andThen]) k
/-- An element of an array as a value, of several cells. -/
theorem s_indexVA {t e : TypeId} {alen sz j : Nat} {x ix : Operand} {cs vs : List Value} {kd : IntKind} {p : Int} [i : ArrayOf P t alen e sz] [ag : Aggr P e sz]
    (hx : ev fr x = .agg cs.toArray) (hix : ev fr ix = .int kd p) (hp : p = (j : Int)) (hlt : j < alen) (hv : (cs.drop (j * sz)).take sz = vs) (hd : Nat.blt d n = true)
    (k : WPL ro P B n ops rest (fr.put d (.agg vs.toArray)) H Q) : WPL ro P B n ops (⟨some d, .index t x ix, ty, pos, after, none⟩ :: rest) fr H Q := step_pure hd (fun w => by
    obtain ⟨hu, inf, hi, hs⟩ := i.eq
    obtain ⟨inf', ds, hi', hu', _, hds⟩ := ag.eq
    have : execOp (ev fr) ⟨some d, .index t x ix, ty, pos, after, none⟩ = (do Pure.pure (Next.value (← Instr.index t (ev fr x) (ev fr ix)))) := rfl
    subst hp hv
    have hagg : (isAgg e).run P w = .ok true w := by cases ds <;> first | exact hds.elim | simp [isAgg, run_underlying hu']
    rw [this, hx, hix]
    have e1 : cs.toArray.extract (j * sz) (j * sz + sz) = ((cs.drop (j * sz)).take sz).toArray := by
      rw [List.extract_toArray, List.extract_eq_take_drop, Nat.add_sub_cancel_left]
    simp [Instr.index, run_underlying hu, asIntOf, hlt, sizeOf, typeInfo, hi, hs, part, hagg, Result.andThen]) k
end
end Go.SL
set_option linter.unusedSimpArgs false
set_option linter.unusedVariables false
namespace Go.SL
open Go
/-- A number's neighbours. -/
abbrev lk (a b : Int) (p q : Bool) : Value := .agg [.int .i64 a, .int .i64 b, .bool p, .bool q].toArray
structure LinkF (L : List Int) (m : Assoc) (h t : Int) : Prop where
  nd : L.Nodup
  knd : (mkeys m).Nodup
  keys : ∀ x, x ∈ mkeys m ↔ x ∈ L
  at_ : ∀ i x, L[i]? = some x → ∃ a b, mget m x = some (lk a b (decide (0 < i)) (decide (i + 1 < L.length))) ∧ (0 < i → L[i - 1]? = some a) ∧ (i + 1 < L.length → L[i + 1]? = some b)
  hd : ∀ y, L[0]? = some y → h = y
  tl : ∀ y, L[L.length - 1]? = some y → t = y
theorem LinkF.nil (h t : Int) : LinkF [] [] h t := ⟨List.nodup_nil, List.nodup_nil, by simp [mkeys], by simp, by simp, by simp⟩
theorem LinkF.len {L : List Int} {m : Assoc} {h t : Int} (k : LinkF L m h t) : m.length = L.length := by
  have hp := (List.perm_ext_iff_of_nodup k.knd k.nd).2 k.keys
  have := hp.length_eq
  simpa [mkeys] using this
theorem LinkF.there {L : List Int} {m : Assoc} {h t x : Int} (k : LinkF L m h t) : (mget m x).isSome = decide (x ∈ L) := by
  by_cases hx : x ∈ L
  · rw [decide_eq_true hx]
    cases hm : mget m x with
    | none => exact absurd ((k.keys x).2 hx) (mget_of_mem.1 hm)
    | some v => rfl
  · rw [decide_eq_false hx]
    cases hm : mget m x with
    | none => rfl
    | some v =>
      have : x ∈ mkeys m := by
        rcases Classical.em (x ∈ mkeys m) with h | h
        · exact h
        · rw [mget_of_mem.2 h] at hm; cases hm
      exact absurd ((k.keys x).1 this) hx
theorem nd_inj {L : List Int} (hn : L.Nodup) {i j : Nat} {x : Int} (h1 : L[i]? = some x) (h2 : L[j]? = some x) : i = j :=
  (List.getElem?_inj (List.getElem?_eq_some_iff.1 h1).1 hn).1 (h1.trans h2.symm)
theorem mem_of_at {L : List Int} {i : Nat} {x : Int} (h : L[i]? = some x) : x ∈ L := List.mem_of_getElem? h
theorem mkeys_mset_nd {m : Assoc} {k : Int} {v : Value} (h : (mkeys m).Nodup) : (mkeys (mset m k v)).Nodup := by
  rw [mkeys_mset]
  split
  · exact h
  · rename_i hn
    have : mget m k = none := by cases hm : mget m k with | none => rfl | some v => rw [hm] at hn; exact absurd rfl hn
    have hk := mget_of_mem.1 this
    rw [List.nodup_append]
    exact ⟨h, by simp, fun a ha b hb e => by simp at hb; subst hb; subst e; exact hk ha⟩
theorem mem_mkeys_mset {m : Assoc} {k x : Int} {v : Value} : x ∈ mkeys (mset m k v) ↔ x = k ∨ x ∈ mkeys m := by
  rw [mkeys_mset]
  split
  · rename_i hs
    have : k ∈ mkeys m := by
      rcases Classical.em (k ∈ mkeys m) with h | h
      · exact h
      · rw [mget_of_mem.2 h] at hs; cases hs
    exact ⟨.inr, fun h => h.elim (fun e => e ▸ this) id⟩
  · simp only [List.mem_append, List.mem_singleton]; exact Or.comm
/-- The first one comes. -/
theorem LinkF.first {m : Assoc} {h t x : Int} (k : LinkF [] m h t) : LinkF [x] (mset m x (lk 0 0 false false)) x x := by
  have hm : m = [] := List.eq_nil_of_length_eq_zero k.len
  subst hm
  refine ⟨by simp, by simp [mset, mkeys], by simp [mset, mkeys], ?_, by simp, by simp⟩
  intro i y hy
  cases i with
  | zero => simp at hy; subst hy; exact ⟨0, 0, by simp [mset, mget_cons], by simp, by simp⟩
  | succ i => simp at hy
/-- One more comes. -/
theorem LinkF.push {L : List Int} {m : Assoc} {h t x : Int} (k : LinkF L m h t) (hL : L ≠ []) (hx : x ∉ L) :
    ∃ a b p, mget m t = some (lk a b p false) ∧ LinkF (L ++ [x]) (mset (mset m t (lk a x p true)) x (lk t 0 true false)) h x := by
  have hl : 0 < L.length := List.length_pos_iff.2 hL
  obtain ⟨y, hy⟩ : ∃ y, L[L.length - 1]? = some y := ⟨_, List.getElem?_eq_getElem (by omega)⟩
  have ht := k.tl y hy
  subst ht
  obtain ⟨a, b, hm, ha, hb⟩ := k.at_ _ _ hy
  have e1 : decide (L.length - 1 + 1 < L.length) = false := by simp; omega
  rw [e1] at hm
  have htx : ¬ t = x := fun e => hx (e ▸ mem_of_at hy)
  refine ⟨a, b, _, hm, ?_, mkeys_mset_nd (mkeys_mset_nd k.knd), ?_, ?_, ?_, ?_⟩
  · rw [List.nodup_append]
    exact ⟨k.nd, by simp, fun u hu v hv e => by simp at hv; subst hv; subst e; exact hx hu⟩
  · intro u
    rw [mem_mkeys_mset, mem_mkeys_mset, k.keys, List.mem_append, List.mem_singleton]
    constructor
    · rintro (h | h | h)
      · exact .inr h
      · exact .inl (h ▸ mem_of_at hy)
      · exact .inl h
    · rintro (h | h)
      · exact .inr (.inr h)
      · exact .inl h
  · intro i u hu
    simp only [mget_mset]
    by_cases hi : i < L.length
    · rw [List.getElem?_append_left hi] at hu
      have hux : ¬ u = x := fun e => hx (e ▸ mem_of_at hu)
      rw [if_neg hux]
      by_cases hut : u = t
      · subst hut
        have hie := nd_inj k.nd hu hy
        subst hie
        rw [if_pos rfl]
        refine ⟨a, x, ?_, ?_, ?_⟩
        · have : decide (L.length - 1 + 1 < (L ++ [x]).length) = true := by simp; omega
          rw [this]
        · intro h0
          rw [List.getElem?_append_left (by omega)]
          exact ha h0
        · intro _
          rw [List.getElem?_append_right (by omega)]
          simp [show L.length - 1 + 1 - L.length = 0 by omega]
      · rw [if_neg hut]
        obtain ⟨a', b', hm', ha', hb'⟩ := k.at_ i u hu
        have hi2 : i + 1 < L.length := by
          by_cases h : i + 1 = L.length
          · have : i = L.length - 1 := by omega
            subst this
            rw [hy] at hu
            exact absurd (Option.some.inj hu).symm hut
          · omega
        refine ⟨a', b', ?_, ?_, ?_⟩
        · rw [hm']
          have e1 : decide (i + 1 < L.length) = true := by simp [hi2]
          have e2 : decide (i + 1 < (L ++ [x]).length) = true := by simp; omega
          rw [e1, e2]
        · intro h0; rw [List.getElem?_append_left (by omega)]; exact ha' h0
        · intro _; rw [List.getElem?_append_left hi2]; exact hb' hi2
    · have hie : i = L.length := by
        have := (List.getElem?_eq_some_iff.1 hu).1
        simp at this; omega
      subst hie
      have hux : u = x := by
        rw [List.getElem?_append_right (Nat.le_refl _)] at hu
        simpa using hu.symm
      subst hux
      rw [if_pos rfl]
      refine ⟨t, 0, ?_, ?_, ?_⟩
      · have e1 : decide (0 < L.length) = true := by simp [hl]
        have e2 : decide (L.length + 1 < (L ++ [u]).length) = false := by simp
        rw [e1, e2]
      · intro _; rw [List.getElem?_append_left (by omega)]; exact hy
      · intro h; simp at h
  · intro u hu; rw [List.getElem?_append_left hl] at hu; exact k.hd u hu
  · intro u hu
    simp at hu
    exact hu
theorem LinkF.vals {L : List Int} {m : Assoc} {h t y : Int} {v : Value} (k : LinkF L m h t) (hv : mget m y = some v) : ∃ i a b, L[i]? = some y ∧ v = lk a b (decide (0 < i)) (decide (i + 1 < L.length)) := by
  have : y ∈ L := by
    have := k.there (x := y)
    rw [hv] at this
    simpa using this.symm
  obtain ⟨i, hi⟩ := List.getElem?_of_mem this
  obtain ⟨a, b, hm, _⟩ := k.at_ i y hi
  rw [hv] at hm
  exact ⟨i, a, b, hi, Option.some.inj hm⟩
/-- One goes. -/
theorem LinkF.cut {L : List Int} {m : Assoc} {h t x : Int} {k : Nat} (f : LinkF L m h t) (hk : L[k]? = some x) :
    ∃ a b, mget m x = some (lk a b (decide (0 < k)) (decide (k + 1 < L.length))) ∧ (0 < k → L[k - 1]? = some a) ∧ (k + 1 < L.length → L[k + 1]? = some b) ∧
      ∀ m2 h2 m3 t3,
        (if 0 < k then ∃ a' b' p' q', mget (mdel m x) a = some (lk a' b' p' q') ∧ m2 = mset (mdel m x) a (lk a' b p' (decide (k + 1 < L.length))) ∧ h2 = h else m2 = mdel m x ∧ h2 = b) →
        (if k + 1 < L.length then ∃ a' b' p' q', mget m2 b = some (lk a' b' p' q') ∧ m3 = mset m2 b (lk a b' (decide (0 < k)) q') ∧ t3 = t else m3 = m2 ∧ t3 = a) →
        LinkF (L.eraseIdx k) m3 h2 t3 := by
  obtain ⟨a, b, hm, ha, hb⟩ := f.at_ k x hk
  have hkl : k < L.length := (List.getElem?_eq_some_iff.1 hk).1
  refine ⟨a, b, hm, ha, hb, ?_⟩
  intro m2 h2 m3 t3 hA hB
  have hxk : x ∈ mkeys m := (f.keys x).2 (mem_of_at hk)
  have hnd1 : (mkeys (mdel m x)).Nodup := by rw [mkeys_mdel]; exact f.knd.erase _
  have hk1 : ∀ u, u ∈ mkeys (mdel m x) ↔ u ∈ L ∧ u ≠ x := fun u => by
    rw [mkeys_mdel, f.knd.mem_erase_iff, f.keys]
    exact And.comm
  have hnd2 : (mkeys m2).Nodup ∧ ∀ u, u ∈ mkeys m2 ↔ u ∈ L ∧ u ≠ x := by
    split at hA
    · rename_i h0
      obtain ⟨a', b', p', q', h1, rfl, _⟩ := hA
      refine ⟨mkeys_mset_nd hnd1, fun u => ?_⟩
      rw [mem_mkeys_mset]
      constructor
      · rintro (rfl | h)
        · refine ⟨mem_of_at (ha h0), fun e => ?_⟩
          rw [e] at ha
          have := nd_inj f.nd (ha h0) hk
          omega
        · exact (hk1 u).1 h
      · exact fun h => .inr ((hk1 u).2 h)
    · obtain ⟨rfl, _⟩ := hA; exact ⟨hnd1, hk1⟩
  have hnd3 : (mkeys m3).Nodup ∧ ∀ u, u ∈ mkeys m3 ↔ u ∈ L ∧ u ≠ x := by
    split at hB
    · rename_i h0
      obtain ⟨a', b', p', q', h1, rfl, _⟩ := hB
      refine ⟨mkeys_mset_nd hnd2.1, fun u => ?_⟩
      rw [mem_mkeys_mset]
      constructor
      · rintro (rfl | h)
        · refine ⟨mem_of_at (hb h0), fun e => ?_⟩
          rw [e] at hb
          have := nd_inj f.nd (hb h0) hk
          omega
        · exact (hnd2.2 u).1 h
      · exact fun h => .inr ((hnd2.2 u).2 h)
    · obtain ⟨rfl, _⟩ := hB; exact hnd2
  have hlen : (L.eraseIdx k).length = L.length - 1 := List.length_eraseIdx_of_lt hkl
  have hget : ∀ i, (L.eraseIdx k)[i]? = if i < k then L[i]? else L[i + 1]? := fun i => List.getElem?_eraseIdx
  refine ⟨f.nd.eraseIdx k, hnd3.1, ?_, ?_, ?_, ?_⟩
  · intro u
    rw [hnd3.2]
    constructor
    · rintro ⟨hu, hux⟩
      obtain ⟨i, hi⟩ := List.getElem?_of_mem hu
      have hik : i ≠ k := fun e => by subst e; rw [hk] at hi; exact hux (Option.some.inj hi).symm
      by_cases h : i < k
      · exact mem_of_at (i := i) (by rw [hget, if_pos h]; exact hi)
      · exact mem_of_at (i := i - 1) (by rw [hget, if_neg (by omega), show i - 1 + 1 = i by omega]; exact hi)
    · intro hu
      obtain ⟨i, hi⟩ := List.getElem?_of_mem hu
      rw [hget] at hi
      split at hi
      · exact ⟨mem_of_at hi, fun e => by subst e; have := nd_inj f.nd hi hk; omega⟩
      · exact ⟨mem_of_at hi, fun e => by subst e; have := nd_inj f.nd hi hk; omega⟩
  · intro i u hu
    rw [hget] at hu
    obtain ⟨j, hj, hju, hjk⟩ : ∃ j, (j = if i < k then i else i + 1) ∧ L[j]? = some u ∧ j ≠ k := by
      split at hu
      · exact ⟨i, by rw [if_pos ‹_›], hu, by omega⟩
      · exact ⟨i + 1, by rw [if_neg ‹_›], hu, by omega⟩
    have hjl : j < L.length := (List.getElem?_eq_some_iff.1 hju).1
    have hux : ¬ u = x := fun e => by subst e; exact hjk (nd_inj f.nd hju hk)
    obtain ⟨au, bu, hmu, hau, hbu⟩ := f.at_ j u hju
    have hm1 : mget (mdel m x) u = some (lk au bu (decide (0 < j)) (decide (j + 1 < L.length))) := by rw [mget_mdel f.knd, if_neg hux]; exact hmu
    -- behind the first step
    have hm2 : mget m2 u = some (lk au (if j + 1 = k then b else bu) (decide (0 < j)) (if j + 1 = k then decide (k + 1 < L.length) else decide (j + 1 < L.length))) := by
      split at hA
      · rename_i h0
        obtain ⟨a', b', p', q', h1, rfl, _⟩ := hA
        rw [mget_mset]
        by_cases hua : u = a
        · subst hua
          have hjk1 : j = k - 1 := nd_inj f.nd hju (ha h0)
          rw [if_pos rfl, if_pos (by omega), if_pos (by omega)]
          rw [hm1] at h1
          simp at h1
          obtain ⟨rfl, rfl, rfl, _⟩ := h1
          rfl
        · have : ¬ j + 1 = k := fun e => hua (by
            have := ha h0
            rw [show k - 1 = j by omega, hju] at this
            exact Option.some.inj this)
          rw [if_neg hua, if_neg this, if_neg this]
          exact hm1
      · obtain ⟨rfl, _⟩ := hA
        rw [if_neg (by omega), if_neg (by omega)]
        exact hm1
    have hm3 : mget m3 u = some (lk (if j = k + 1 then a else au) (if j + 1 = k then b else bu) (if j = k + 1 then decide (0 < k) else decide (0 < j)) (if j + 1 = k then decide (k + 1 < L.length) else decide (j + 1 < L.length))) := by
      split at hB
      · rename_i h0
        obtain ⟨a', b', p', q', h1, rfl, _⟩ := hB
        rw [mget_mset]
        by_cases hub : u = b
        · subst hub
          have hjk1 : j = k + 1 := nd_inj f.nd hju (hb h0)
          rw [if_pos rfl, if_pos hjk1, if_pos hjk1]
          rw [hm2] at h1
          simp at h1
          obtain ⟨rfl, rfl, rfl, rfl⟩ := h1
          rfl
        · have : ¬ j = k + 1 := fun e => hub (by
            have := hb h0
            rw [← e, hju] at this
            exact Option.some.inj this)
          rw [if_neg hub, if_neg this, if_neg this]
          exact hm2
      · obtain ⟨rfl, _⟩ := hB
        have e : ¬ j = k + 1 := by omega
        rw [if_neg e, if_neg e]
        exact hm2
    have eP : (if j = k + 1 then decide (0 < k) else decide (0 < j)) = decide (0 < i) := by
      split
      · have : i = k := by split at hj <;> omega
        rw [this]
      · by_cases hik : i < k
        · rw [if_pos hik] at hj; rw [hj]
        · rw [if_neg hik] at hj
          rw [decide_eq_true (show 0 < j by omega), decide_eq_true (show 0 < i by omega)]
    have eQ : (if j + 1 = k then decide (k + 1 < L.length) else decide (j + 1 < L.length)) = decide (i + 1 < (L.eraseIdx k).length) := by
      rw [hlen]
      split
      · have : i + 1 = k := by split at hj <;> omega
        rw [this]
        by_cases h : k + 1 < L.length
        · rw [decide_eq_true h, decide_eq_true (show k < L.length - 1 by omega)]
        · rw [decide_eq_false h, decide_eq_false (show ¬ k < L.length - 1 by omega)]
      · by_cases hik : i < k
        · rw [if_pos hik] at hj
          rw [decide_eq_true (show j + 1 < L.length by omega), decide_eq_true (show i + 1 < L.length - 1 by omega)]
        · rw [if_neg hik] at hj
          by_cases h : j + 1 < L.length
          · rw [decide_eq_true h, decide_eq_true (show i + 1 < L.length - 1 by omega)]
          · rw [decide_eq_false h, decide_eq_false (show ¬ i + 1 < L.length - 1 by omega)]
    rw [eP, eQ] at hm3
    refine ⟨_, _, hm3, ?_, ?_⟩
    · intro h0
      rw [hget]
      by_cases hjk1 : j = k + 1
      · have : i = k := by split at hj <;> omega
        rw [if_pos hjk1, if_pos (show i - 1 < k by omega), this]
        exact ha (by omega)
      · rw [if_neg hjk1]
        by_cases hik : i < k
        · rw [if_pos hik] at hj
          rw [if_pos (show i - 1 < k by omega), ← hj]
          exact hau (by omega)
        · rw [if_neg hik] at hj
          rw [if_neg (show ¬ i - 1 < k by omega), show i - 1 + 1 = j - 1 by omega]
          exact hau (by omega)
    · intro h0
      rw [hlen] at h0
      rw [hget]
      by_cases hjk1 : j + 1 = k
      · have : i + 1 = k := by split at hj <;> omega
        rw [if_pos hjk1, if_neg (show ¬ i + 1 < k by omega), this]
        exact hb (by omega)
      · rw [if_neg hjk1]
        by_cases hik : i < k
        · rw [if_pos hik] at hj
          rw [if_pos (show i + 1 < k by omega), ← hj]
          exact hbu (by omega)
        · rw [if_neg hik] at hj
          rw [if_neg (show ¬ i + 1 < k by omega), show i + 1 + 1 = j + 1 by omega]
          exact hbu (by omega)
  · intro y hy
    rw [hget] at hy
    split at hA
    · obtain ⟨_, _, _, _, _, _, rfl⟩ := hA
      rw [if_pos ‹_›] at hy
      exact f.hd y hy
    · obtain ⟨_, rfl⟩ := hA
      rw [if_neg ‹_›] at hy
      have hk0 : k = 0 := by omega
      subst hk0
      have hl1 : 0 + 1 < L.length := (List.getElem?_eq_some_iff.1 hy).1
      have := hb hl1
      rw [hy] at this
      exact (Option.some.inj this).symm
  · intro y hy
    rw [hget, hlen] at hy
    split at hB
    · rename_i h0
      obtain ⟨_, _, _, _, _, _, rfl⟩ := hB
      rw [if_neg (by omega), show L.length - 1 - 1 + 1 = L.length - 1 by omega] at hy
      exact f.tl y hy
    · rename_i h0
      obtain ⟨_, rfl⟩ := hB
      have hkl2 : k = L.length - 1 := by omega
      split at hy
      · have := ha (by omega)
        rw [show L.length - 1 - 1 = k - 1 by omega, this] at hy
        exact Option.some.inj hy
      · have := (List.getElem?_eq_some_iff.1 hy).1
        omega
end Go.SL
set_option linter.unusedSimpArgs false
set_option linter.unusedVariables false
namespace Go.SL
open Go Go.RowKit Go.MapKept
section
variable {ro : Option Nat} {P : Program} {B : World} {n : Nat} {ops : Array Oper} {rest : List Oper} {fr : Fr} {H F : HProp} {Q : Post}
variable {d : Nat} {ty : TypeId} {pos : String} {after : Array Edge}
theorem s_eqnilM {t yt : TypeId} {z : Value} [i : MapOf P t z] {x y : Operand} {r : Option Nat} {b : Bool} (hx : ev fr x = .map r) (hy : ev fr y = .map none) (hr : r.isNone = b)
    (hd : Nat.blt d n = true) (k : WPL ro P B n ops rest (fr.put d (.bool b)) H Q) :
    WPL ro P B n ops (⟨some d, .binOp .eql t x y yt, ty, pos, after, none⟩ :: rest) fr H Q :=
  step_pure hd (fun w => by
    obtain ⟨kt, e, inf, hun, _⟩ := i.eq
    have : execOp (ev fr) ⟨some d, .binOp .eql t x y yt, ty, pos, after, none⟩ = (do Pure.pure (Next.value (← (do eqGuard .eql t x y (ev fr x) (ev fr y); binOp .eql t (ev fr x) (ev fr y))))) := rfl
    have he : (Op.equal t (.map r) (.map none)).run P w = .ok r.isNone w := by
      have key : ∀ dd, (Op.equalIn (dd + 1) t (.map r) (.map none)).run P w = .ok r.isNone w := fun dd => by
        cases r <;> simp [Op.equalIn, run_underlying hun]
      exact key _
    rw [this, hx, hy]
    subst hr
    have hg : (eqGuard .eql t x y (.map r) (.map none)).run P w = .ok () w := by
      cases r <;> simp [eqGuard]
    simp [hg, binOp, he, Result.andThen]) k
theorem step_val0 {op : Op}
    (h : ∀ w, Holds B H w → ∃ v w' H', (execOp (ev fr) ⟨none, op, ty, pos, after, none⟩).run P w = .ok (.value v) w' ∧ Holds B H' w' ∧ WPL ro P B n ops rest fr H' Q) :
    WPL ro P B n ops (⟨none, op, ty, pos, after, none⟩ :: rest) fr H Q := by
  intro a w hm hh
  obtain ⟨v, w', H', hr, hh', hk⟩ := h w hh
  unfold wpListIn
  rw [if_pos (by simp [Region.wanted])]
  refine ⟨fun f _ => trivial, ?_⟩
  rw [hm.eval, semAt_of hr (by simp)]
  exact hk _ _ hm hh'
theorem s_mdel0 {t t2 : TypeId} {z : Value} {b : Nat} {m : Assoc} {x y : Operand} {k : Int} [i : MapOf P t z] [h : HasAt MapAt H b m F] (hx : ev fr x = .map (some b)) (hy : ev fr y = .int .i64 k)
    (k' : WPL ro P B n ops rest fr (MapAt b (mdel m k) + F) Q) : WPL ro P B n ops (⟨none, .call ⟨.builtin .delete, #[x, y], #[t, t2]⟩, ty, pos, after, none⟩ :: rest) fr H Q := step_val0 fun w hw => by
  rw [h.eq] at hw
  obtain ⟨es, c, hr, hb, ho, hs⟩ := hw.map
  obtain ⟨kt, e, inf, hu, hk, hi, hz⟩ := i.eq
  have hf := run_findKey (P := P) (w := w) hk (MRep.find (k := k) es.toList m 0 hr)
  have hck := run_checkKey (P := P) (w := w) (k := .int .i64 k) hk rfl es.isEmpty 9999
  cases hm : midx m k with
  | none =>
    rw [hm] at hf
    refine ⟨.tuple #[], _, _, ?_, ho.mapUpd (m := m) (es' := es) (c' := c) (m' := mdel m k) ?_ ?_, k'⟩
    · simp [execOp, resolve, invoke, builtin, hx, hy, Builtin.delete_, run_underlying hu, MapKept.run_getObj_map hb, hck, hf, run_setObj_map _ hb, Result.andThen]
    · rw [mdel_none hm]; exact hr
    · exact hs
  | some p =>
    obtain ⟨j, u'⟩ := p
    rw [hm] at hf
    obtain ⟨h1, h2⟩ := MRep.erase es.toList m j u' hr hm
    refine ⟨.tuple #[], _, _, ?_, ho.mapUpd (m := m) (es' := es.eraseIdxIfInBounds j) (c' := c) (m' := mdel m k) ?_ ?_, k'⟩
    · simp [execOp, resolve, invoke, builtin, hx, hy, Builtin.delete_, run_underlying hu, MapKept.run_getObj_map hb, hck, hf, run_setObj_map _ hb, Result.andThen]
    · have hj : j < es.size := by simpa using h2
      unfold Array.eraseIdxIfInBounds
      rw [dif_pos hj, Array.toList_eraseIdx]
      exact h1
    · have hj : j < es.size := by simpa using h2
      unfold Array.eraseIdxIfInBounds
      rw [dif_pos hj, Array.toList_eraseIdx]
      exact hs.sub (List.eraseIdx_sublist _ _)
theorem set_mid0 {A Z : List Value} {a v : Value} : (A ++ a :: Z).set A.length v = A ++ v :: Z := by simp
theorem set_mid1 {A Z : List Value} {a b v : Value} : (A ++ a :: b :: Z).set (A.length + 1) v = A ++ a :: v :: Z := by
  rw [List.set_append_right _ _ (by omega)]; simp
theorem set_mid2 {A Z : List Value} {a b c v : Value} : (A ++ a :: b :: c :: Z).set (A.length + 2) v = A ++ a :: b :: v :: Z := by
  rw [List.set_append_right _ _ (by omega)]; simp
theorem mid0 {p e : Nat} {A Z : List Value} {a : Value} [i : HasBlk H p (A ++ a :: Z) e F] : Cell B H p A.length a := Cell.blk (by simp)
theorem mid1 {p e : Nat} {A Z : List Value} {a b : Value} [i : HasBlk H p (A ++ a :: b :: Z) e F] : Cell B H p (A.length + 1) b := Cell.blk (by rw [List.getElem?_append_right (by omega)]; simp)
theorem mid2 {p e : Nat} {A Z : List Value} {a b c : Value} [i : HasBlk H p (A ++ a :: b :: c :: Z) e F] : Cell B H p (A.length + 2) c := Cell.blk (by rw [List.getElem?_append_right (by omega)]; simp)
theorem s_storeM0 {t e : TypeId} {x y : Operand} {p : Nat} {A Z : List Value} {a v : Value} [i : Plain P t] (hx : ev fr x = .pointer (some ⟨p, A.length, none⟩)) [hb : HasBlk H p (A ++ a :: Z) e F] (hy : ev fr y = v) (h1 : v.oneCell' = true)
    (k : WPL ro P B n ops rest fr (blk p (A ++ v :: Z) e + F) Q) : WPL ro P B n ops (⟨none, .store t x y, ty, pos, after, none⟩ :: rest) fr H Q :=
  s_store (cs' := A ++ v :: Z) hx hy h1 (by simp) set_mid0 k
theorem s_storeM1 {t e : TypeId} {x y : Operand} {p : Nat} {A Z : List Value} {a b v : Value} [i : Plain P t] (hx : ev fr x = .pointer (some ⟨p, A.length + 1, none⟩)) [hb : HasBlk H p (A ++ a :: b :: Z) e F] (hy : ev fr y = v) (h1 : v.oneCell' = true)
    (k : WPL ro P B n ops rest fr (blk p (A ++ a :: v :: Z) e + F) Q) : WPL ro P B n ops (⟨none, .store t x y, ty, pos, after, none⟩ :: rest) fr H Q :=
  s_store (cs' := A ++ a :: v :: Z) hx hy h1 (by simp) set_mid1 k
theorem s_storeM2 {t e : TypeId} {x y : Operand} {p : Nat} {A Z : List Value} {a b c v : Value} [i : Plain P t] (hx : ev fr x = .pointer (some ⟨p, A.length + 2, none⟩)) [hb : HasBlk H p (A ++ a :: b :: c :: Z) e F] (hy : ev fr y = v) (h1 : v.oneCell' = true)
    (k : WPL ro P B n ops rest fr (blk p (A ++ a :: b :: v :: Z) e + F) Q) : WPL ro P B n ops (⟨none, .store t x y, ty, pos, after, none⟩ :: rest) fr H Q :=
  s_store (cs' := A ++ a :: b :: v :: Z) hx hy h1 (by simp) set_mid2 k
end
end Go.SL
set_option linter.unusedSimpArgs false
set_option linter.unusedVariables false
namespace Go.SL
open Go Go.RowKit
section
variable {ro : Option Nat} {P : Program} {B : World} {n : Nat} {ops : Array Oper} {rest : List Oper} {fr : Fr} {H : HProp} {Q : Post}
variable {d : Nat} {ty : TypeId} {pos : String} {after : Array Edge}
theorem s_strBytes {t u e : TypeId} {by' : Nat} {z : List Value} {x : Operand} {l : List UInt8} [us : UnderStr P t] [i : SliceOf P u e 1 by' z] [ie : IntTy P e .u8] (hx : ev fr x = str l) (hl : l.length ≤ maxLen) (hd : Nat.blt d n = true)
    (k : ∀ v b o, Rd B (obj b o) 1 v l.length (by8 l) → WPL ro P B n ops rest (fr.put d v) (obj b o + H) Q) : WPL ro P B n ops (⟨some d, .convert t u x, ty, pos, after, none⟩ :: rest) fr H Q := step_val hd fun w hw => by
  have hr := run_bytes_of_string (P := P) w t u e ⟨l.toArray⟩ us.eq i.eq.1 ie.eq
  have hsz : (⟨l.toArray⟩ : ByteArray).size = l.length := by show l.toArray.size = _; simp
  rw [hsz] at hr
  obtain ⟨row, hrow⟩ : ∃ row, bytesRow ⟨l.toArray⟩ (grownCap w l.length 0 e) = row := ⟨_, rfl⟩
  rw [hrow] at hr
  refine ⟨.slice (some ⟨w.heap.size, 0, none⟩) l.length (grownCap w l.length 0 e), w.drew.alloc (.cells row e (row.size, row.size + 1)), obj w.heap.size (.cells row e (row.size, row.size + 1)) + H, ?_, hw.drew.alloc _, k _ _ _ ?_⟩
  · have : execOp (ev fr) ⟨some d, .convert t u x, ty, pos, after, none⟩ = (do Pure.pure (Next.value (← convert t u (ev fr x)))) := rfl
    rw [this, hx]
    simp only [Sem.run_bind, hr, Result.andThen_ok, Sem.run_pure]
  · unfold Rd
    refine ⟨some ⟨w.heap.size, 0, none⟩, grownCap w l.length 0 e, rfl, by simp, hl, .inr ⟨w.heap.size, 0, rfl, fun w' hw' j v hj => ?_⟩⟩
    have ho : w'.heap[w.heap.size]? = some (.cells row e (row.size, row.size + 1)) := (Holds.obj (F := emp) (by rw [HProp.add_emp]; exact hw')).1
    rw [cell_of_row w' w.heap.size (0 + j) _ _ _ ho, Nat.zero_add]
    have hlt : j < l.length := by have := (List.getElem?_eq_some_iff.1 hj).1; simpa using this
    rw [← hrow]
    unfold bytesRow
    rw [Array.getElem?_append_left (by simp; exact hlt)]
    simpa [by8, hlt] using hj
end
end Go.SL
set_option linter.unusedSimpArgs false
set_option linter.unusedVariables false
namespace Go.SL
open Go Go.RowKit
class FieldV (P : Program) (t : TypeId) (f : Nat) (ft : outParam TypeId) (o : outParam Nat) : Prop where
  eq : (match P.underlying t with
    | some (.struct fs) => (fs[f]?).map fun x => (x.type, x.offset)
    | _ => none) = some (ft, o)
section
variable {ro : Option Nat} {P : Program} {B : World} {n : Nat} {ops : Array Oper} {rest : List Oper} {fr : Fr} {H : HProp} {Q : Post}
variable {d : Nat} {ty : TypeId} {pos : String} {after : Array Edge}
theorem s_fieldV {t ft : TypeId} {f o : Nat} {x : Operand} {cs : List Value} {v : Value} [i : FieldV P t f ft o] [pl : Plain P ft] (hx : ev fr x = .agg cs.toArray) (hv : cs[o]? = some v) (hd : Nat.blt d n = true)
    (k : WPL ro P B n ops rest (fr.put d v) H Q) : WPL ro P B n ops (⟨some d, .field t x f, ty, pos, after, none⟩ :: rest) fr H Q := step_pure hd (fun w => by
  obtain ⟨inf', ds, hi', hu', _, hds⟩ := pl.eq
  have h := i.eq
  split at h
  · rename_i fs hu
    cases hx2 : fs[f]? with
    | none => rw [hx2] at h; cases h
    | some fl =>
      rw [hx2] at h
      simp only [Option.map_some, Option.some.injEq, Prod.mk.injEq] at h
      obtain ⟨h1, h2⟩ := h
      have : execOp (ev fr) ⟨some d, .field t x f, ty, pos, after, none⟩ = (do Pure.pure (Next.value (← Instr.field t (ev fr x) f))) := rfl
      have hagg : (isAgg ft).run P w = .ok false w := by cases ds <;> first | exact hds.elim | simp [isAgg, run_underlying hu']
      rw [this, hx]
      simp [Instr.field, run_underlying hu, hx2, asAgg, part, h1, h2, hagg, hv]
  · cases h) k
end
end Go.SL
set_option linter.unusedSimpArgs false
set_option linter.unusedVariables false
namespace Go.SL
open Go Go.RowKit
set_option maxRecDepth 10000
end Go.SL
