/- Found by what they tell of: states at an address, and what is only read; closing assertions by program. No condition. -/
import Derived.Test.YtofgpppnknpblaaDoorSLCut
import Derived.Test.YtofgpppnknpblaaDoorSLWalk
import Derived.Test.YtofgpppnknpblaaDoorSLLaw
import Derived.Great.FillDense
set_option linter.unusedSimpArgs false
set_option linter.unusedVariables false
namespace Go.SL
open Go Go.RowKit

section
variable {ro : Option Nat} {P : Program} {B : World} {n : Nat} {fn : Func} {R R' : Value → HProp → Prop} {e : Exit} {fr : Fr} {H F G : HProp} {Q : Post} {f : FuncId} {args : List Value} {ops : Array Oper} {l : List Oper} {c : Code}
theorem QRet.ent (e' : Ent H G) (h : QRet P B fn R e fr G) : QRet P B fn R e fr H := by
  obtain ⟨he, v, G1, G2, h1, h2, h3, hR⟩ := h
  exact ⟨he, v, G1, G2, e'.trans h1, h2, h3, hR⟩
/-- Something that stands at an index in a sum. -/
class HasAt {ι α : Type} (A : ι → α → HProp) (H : HProp) (i : ι) (x : outParam α) (F : outParam HProp) : Prop where
  eq : H = A i x + F
instance (priority := 100) {ι α : Type} (A : ι → α → HProp) (i : ι) (x : α) : HasAt A (A i x) i x emp := ⟨by rw [HProp.add_emp]⟩
instance (priority := 900) {ι α : Type} (A : ι → α → HProp) (P Q F : HProp) (i : ι) (x : α) [h : HasAt A P i x F] : HasAt A (P + Q) i x (F + Q) := ⟨by rw [h.eq, HProp.add_assoc]⟩
instance {ι α : Type} (A : ι → α → HProp) (P Q F : HProp) (i : ι) (x : α) [h : HasAt A Q i x F] : HasAt A (P + Q) i x (P + F) := ⟨by rw [h.eq, HProp.add_left_comm]⟩
instance (priority := 3000) {ι α : Type} (A : ι → α → HProp) (F : HProp) (i : ι) (x : α) : HasAt A (A i x + F) i x F := ⟨rfl⟩
/-- Something that is seen at an index. -/
class SeesAt {ι α : Type} (A : ι → α → HProp) (H : HProp) (i : ι) (x : outParam α) : Prop where
  ent : Ent H (A i x)
instance {ι α : Type} (A : ι → α → HProp) (i : ι) (x : α) : SeesAt A (A i x) i x := ⟨Ent.refl _⟩
instance {ι α : Type} (A : ι → α → HProp) (P Q : HProp) (i : ι) (x : α) [h : SeesAt A P i x] : SeesAt A (P + Q) i x := ⟨(Ent.drop_right P Q).trans h.ent⟩
instance {ι α : Type} (A : ι → α → HProp) (P Q : HProp) (i : ι) (x : α) [h : SeesAt A Q i x] : SeesAt A (P + Q) i x := ⟨(Ent.drop_left P Q).trans h.ent⟩

instance (priority := 2000) {ι α : Type} (A : ι → α → HProp) (P : HProp) (i : ι) (x : α) : HasAt A (P + A i x) i x P := ⟨HProp.add_comm _ _⟩
instance (priority := 3000) {A F : HProp} : Split (A + F) A F := ⟨rfl⟩
instance (priority := 2000) {P A : HProp} : Split (P + A) A P := ⟨HProp.add_comm P A⟩
instance (priority := 100) {A : HProp} : Split A A emp := ⟨by rw [HProp.add_emp]⟩
instance (priority := 500) {H A C F G : HProp} [h : Split H A G] [k : Split G C F] : Split H (A + C) F := ⟨by rw [h.eq, k.eq, HProp.add_assoc]⟩

instance (priority := 100) {b : Nat} {cs : List Value} {e : TypeId} : HasBlk (blk b cs e) b cs e emp := ⟨by rw [HProp.add_emp]⟩
instance (priority := 2000) {P : HProp} {b : Nat} {cs : List Value} {e : TypeId} : HasBlk (P + blk b cs e) b cs e P := ⟨HProp.add_comm _ _⟩
instance (priority := 3000) {F : HProp} {b : Nat} {cs : List Value} {e : TypeId} : HasBlk (blk b cs e + F) b cs e F := ⟨rfl⟩
instance (priority := 100) {v : Value} {e : TypeId} {sz k : Nat} {cs : List Value} : HasOwn (Mine e sz v k cs) v e sz k cs emp := ⟨by rw [HProp.add_emp]⟩
instance (priority := 2000) {P : HProp} {v : Value} {e : TypeId} {sz k : Nat} {cs : List Value} : HasOwn (P + Mine e sz v k cs) v e sz k cs P := ⟨HProp.add_comm _ _⟩
instance (priority := 3000) {F : HProp} {v : Value} {e : TypeId} {sz k : Nat} {cs : List Value} : HasOwn (Mine e sz v k cs + F) v e sz k cs F := ⟨rfl⟩
theorem Ent.fact_in {p : Prop} (h : p) : Ent H (fact p H) := fun x hx => ⟨x, Hp.le_refl x, h, hx⟩
theorem Does.at {ι α : Type} {A : ι → α → HProp} {i : ι} {x : α} [h : HasAt A H i x F] (d : Does P B f args (A i x + F) R) : Does P B f args H R := by rw [h.eq]; exact d
theorem WPL.at {ι α : Type} (A : ι → α → HProp) (i : ι) {x : α} [h : HasAt A H i x F] (d : WPL ro P B n ops l fr (A i x + F) Q) : WPL ro P B n ops l fr H Q := by rw [h.eq]; exact d
theorem WP.at {ι α : Type} (A : ι → α → HProp) (i : ι) {x : α} [h : HasAt A H i x F] (d : WP ro P B n c fr (A i x + F) Q) : WP ro P B n c fr H Q := by rw [h.eq]; exact d
theorem Does.weak (h : Does P B f args H R) (k : ∀ v H1, R v H1 → ∃ G, Ent H1 G ∧ R' v G) : Does P B f args H R' := fun w hw =>
  (h w hw).mono fun _ _ ⟨v, G, he, hg, r⟩ => let ⟨G', e', r'⟩ := k v G r; ⟨v, G', he, hg.ent e', r'⟩
theorem Does.same {v : Value} (h : Does P B f args H fun r H' => Ent H' G ∧ r = v) : Does P B f args H fun r H' => H' = G ∧ r = v :=
  h.weak fun _ _ ⟨e, hr⟩ => ⟨_, e, rfl, hr⟩
/-- What is left over is given back. -/
theorem Does.frame0 {v : Value} (h : Does P B f args H fun r H' => Ent H' H ∧ r = v) : Does P B f args H fun r H' => H' = H ∧ r = v := h.same

section
variable {rest : List Oper} {d : Nat} {ty : TypeId} {pos : String} {after : Array Edge}
/-- A block is written over as a whole. -/
theorem s_storeW {t e : TypeId} {sz : Nat} {x y : Operand} {b : Nat} {vs cs : List Value} {F : HProp} [i : Aggr P t sz] (hx : ev fr x = .pointer (some ⟨b, 0, none⟩)) [hb : HasBlk H b cs e F] (hy : ev fr y = .agg vs.toArray)
    (h1 : vs.all Value.oneCell' = true) (hl : vs.length = sz) (ho : cs.length = sz)
    (k : WPL ro P B n ops rest fr (blk b vs e + F) Q) : WPL ro P B n ops (⟨none, .store t x y, ty, pos, after, none⟩ :: rest) fr H Q :=
  s_storeA (cs := cs) hx hy h1 hl (by omega) (by rw [List.drop_of_length_le (by omega)]; simp) k
end
/-- A slice of one's own, cut short. -/
theorem Mine.cut {e : TypeId} {sz k m cap : Nat} {ao : Option Addr} {cs : List Value} (hm : m ≤ k) : Ent (Mine e sz (.slice ao k cap) k cs) (Mine e sz (.slice ao m cap) m (cs.take (m * sz))) := by
  rintro h ⟨hl, ⟨hv, hk, rfl⟩ | ⟨g, cap', sp, hv, h1, h2, h3, h4⟩⟩
  · cases hv
    have : m = 0 := by omega
    subst this
    exact ⟨_, Hp.le_refl _, by simp, .inl ⟨rfl, rfl, rfl⟩⟩
  · cases hv
    have hmk : m * sz ≤ cs.length := by rw [hl]; exact Nat.mul_le_mul_right _ hm
    refine ⟨h, Hp.le_refl _, by simp [hmk], .inr ⟨g, cap, cs.drop (m * sz) ++ sp, rfl, by omega, h2, ?_, ?_⟩⟩
    · rw [← List.append_assoc, List.take_append_drop]; exact h3
    · rw [← List.append_assoc, List.take_append_drop]; exact h4
/-- One assertion off another one, atom by atom. -/
theorem Ent.auto {P Q : HProp} (h : Ent P Q := by
  (try simp only [HProp.add_assoc, HProp.add_emp, HProp.emp_add])
  repeat (first | exact Ent.refl _ | exact InH.ent | refine Ent.step (Ent.refl _) ?_)) : Ent P Q := h

/-- A loop: A: what its round may turn; the rest of the memory is left alone. -/
theorem wp_loopS {α : Type} (M : List Nat) (S : α → List (Nat × Value)) (A : α → HProp) (ok : α → Prop) (μ : α → Nat) (x0 : α) [sp : Split H (A x0) F]
    (h0 : Agrees fr (S x0)) (hok : ok x0)
    (round : ∀ x g, ok x → WP ro P B n c (putAll (fr.havoc M g) (S x)) (A x + F)
      (QSeq (fun fr' H' => ∃ y, Aside M fr' fr ∧ Agrees fr' (S y) ∧ Ent H' (A y + F) ∧ ok y ∧ μ y < μ x) Q)) : WP ro P B n (.loop c) fr H Q :=
  wp_loopF M S (fun x => A x + F) ok μ x0 h0 (Ent.of_eq sp.eq) hok round
/-- A loop that leaves the memory alone. -/
theorem wp_loopR {α : Type} (M : List Nat) (S : α → List (Nat × Value)) (ok : α → Prop) (μ : α → Nat) (x0 : α)
    (h0 : Agrees fr (S x0)) (hok : ok x0)
    (round : ∀ x g, ok x → WP ro P B n c (putAll (fr.havoc M g) (S x)) H
      (QSeq (fun fr' H' => ∃ y, Aside M fr' fr ∧ Agrees fr' (S y) ∧ Ent H' H ∧ ok y ∧ μ y < μ x) Q)) : WP ro P B n (.loop c) fr H Q :=
  wp_loopF M S (fun _ => H) ok μ x0 h0 (Ent.refl _) hok round
end
end Go.SL
namespace Go.SL
open Go Go.RowKit
section
variable {P : Program} {B : World} {H F G : HProp} {f : FuncId} {args : List Value}
theorem Does.atSame {ι α : Type} {A : ι → α → HProp} {i : ι} {x : α} {v : Value} [h : HasAt A H i x F] (d : Does P B f args (A i x + F) fun r H' => Ent H' (A i x + F) ∧ r = v) :
    Does P B f args H fun r H' => H' = H ∧ r = v := (Does.at d).weak fun _ _ ⟨e, hr⟩ => ⟨H, e.trans (Ent.of_eq h.eq.symm), rfl, hr⟩
theorem Does.atSame2 {ι α β : Type} {κ : Type} {A : ι → α → HProp} {C : κ → β → HProp} {i : ι} {x : α} {j : κ} {y : β} {v : Value} [h : HasAt A H i x F] [k : HasAt C F j y G]
    (d : Does P B f args (A i x + (C j y + G)) fun r H' => Ent H' (A i x + (C j y + G)) ∧ r = v) :
    Does P B f args H fun r H' => H' = H ∧ r = v := by
  have e : H = A i x + (C j y + G) := by rw [h.eq, ← k.eq]
  rw [e]
  exact d.same
end
end Go.SL
namespace Go.SL
open Go Go.RowKit
section
variable {B : World} {H : HProp}
theorem Rd.sliceL {sz n cap : Nat} {ao : Option Addr} {cs : List Value} (l : Nat) (h : Rd B H sz (.slice ao n cap) n cs) (hl : l ≤ n) (hc : n ≤ cap) :
    Rd B H sz (.slice (partAddr ao cap l sz) (n - l) (cap - l)) (n - l) (cs.drop (l * sz)) := by
  obtain ⟨_, _, hv, hlen, hm, ha⟩ := h
  cases hv
  refine ⟨_, _, rfl, by rw [List.length_drop, hlen, Nat.sub_mul], by omega, ?_⟩
  by_cases h0 : cs.drop (l * sz) = []
  · exact .inl h0
  · right
    rcases ha with h | ⟨b, o, rfl, hcs⟩
    · rw [h] at h0; simp at h0
    · have : ¬ cap = l := by
        intro e
        apply h0
        apply List.drop_of_length_le
        rw [hlen]
        exact Nat.mul_le_mul_right _ (by omega)
      refine ⟨b, o + l * sz, ?_, hcs.drop _⟩
      unfold partAddr
      rw [if_neg this]
      simp [addr_add]
theorem Rd.sliceH {sz n cap : Nat} {ao : Option Addr} {cs : List Value} (m : Nat) (h : Rd B H sz (.slice ao n cap) n cs) (hm : m ≤ n) :
    Rd B H sz (.slice ao m cap) m (cs.take (m * sz)) := by
  obtain ⟨_, _, hv, hlen, hx, ha⟩ := h
  cases hv
  refine ⟨_, _, rfl, ?_, by omega, ?_⟩
  · rw [List.length_take, hlen]; exact Nat.min_eq_left (Nat.mul_le_mul_right _ hm)
  · rcases ha with h | ⟨b, o, rfl, hcs⟩
    · left; rw [h]; simp
    · right; exact ⟨b, o, rfl, hcs.take _⟩
theorem Rd.sliceLH {sz n cap : Nat} {ao : Option Addr} {cs : List Value} (l m : Nat) (h : Rd B H sz (.slice ao n cap) n cs) (hl : l ≤ m) (hm : m ≤ n) (hc : n ≤ cap) :
    Rd B H sz (.slice (partAddr ao cap l sz) (m - l) (cap - l)) (m - l) ((cs.take (m * sz)).drop (l * sz)) :=
  Rd.sliceL l (h.sliceH m hm) hl (by omega)
end
end Go.SL
namespace Go.SL
open Go Go.RowKit
theorem flatten_get {sz : Nat} : ∀ (rows : List (List Value)), (∀ r ∈ rows, r.length = sz) → ∀ k, k < rows.length * sz → rows.flatten[k]? = (rows[k / sz]?).bind fun r => r[k % sz]?
  | [], _, k, hk => by simp at hk
  | r :: rows, h, k, hk => by
    have hr := h r (by simp)
    by_cases hlt : k < sz
    · rw [List.flatten_cons, List.getElem?_append_left (by omega), Nat.div_eq_of_lt hlt, Nat.mod_eq_of_lt hlt]
      simp
    · have hs : 0 < sz := by
        rcases Nat.eq_zero_or_pos sz with h | h
        · subst h; simp at hk
        · exact h
      rw [List.flatten_cons, List.getElem?_append_right (by omega), hr, flatten_get rows (fun r hr => h r (by simp [hr])) (k - sz) (by simp only [List.length_cons, Nat.add_mul] at hk; omega)]
      have e1 : k / sz = (k - sz) / sz + 1 := by
        rw [← Nat.sub_add_cancel (show sz ≤ k by omega), Nat.add_div_right _ hs, Nat.add_sub_cancel]
      have e2 : k % sz = (k - sz) % sz := by
        have := Nat.add_mod_right (k - sz) sz
        rw [Nat.sub_add_cancel (show sz ≤ k by omega)] at this
        exact this
      rw [e1, e2, List.getElem?_cons_succ]
theorem flatten_len {sz : Nat} : ∀ (rows : List (List Value)), (∀ r ∈ rows, r.length = sz) → rows.flatten.length = rows.length * sz
  | [], _ => by simp
  | r :: rows, h => by
    have hr := h r (by simp)
    have ih := flatten_len rows fun r hr => h r (by simp [hr])
    simp only [List.flatten_cons, List.length_append, List.length_cons, hr, ih, Nat.add_mul]; omega
theorem fill_rows {sz : Nat} (hs : 0 < sz) (rows : List (List Value)) (h : ∀ r ∈ rows, r.length = sz) (cells : Array Value) (hc : cells.size = rows.length * sz) :
    Instr.fill (fun i => some (i * sz, sz)) cells (((rows.map fun r => Value.agg r.toArray).zipIdx 0).map fun x => (x.2, x.1)) = some rows.flatten.toArray := by
  obtain ⟨r, hr, hsz, hk⟩ := Go.Great.fill_dense hs (rows.map fun r => Value.agg r.toArray) 0 cells (fun v hv => by
    obtain ⟨r, hr, rfl⟩ := List.mem_map.1 hv
    simp [Value.cells, h r hr]) (by simp [hc])
  rw [hr]
  congr 1
  apply Array.ext_getElem?
  intro k
  rw [hk k]
  simp only [Nat.zero_mul, Nat.zero_le, true_and, Nat.zero_add, List.length_map, Nat.sub_zero]
  by_cases hlt : k < rows.length * sz
  · rw [if_pos hlt]
    have := flatten_get rows h k hlt
    simp only [List.getElem?_toArray, this, List.getElem?_map]
    cases rows[k / sz]? <;> simp [Value.cells]
  · rw [if_neg hlt]
    have e1 : cells[k]? = none := Array.getElem?_eq_none (by omega)
    have e2 : rows.flatten.toArray[k]? = none := Array.getElem?_eq_none (by simp only [List.size_toArray, flatten_len rows h]; omega)
    rw [e1, e2]
section
variable {ro : Option Nat} {P : Program} {B : World} {n : Nat} {ops : Array Oper} {rest : List Oper} {fr : Fr} {H : HProp} {Q : Post}
variable {d : Nat} {ty : TypeId} {pos : String} {after : Array Edge}
/-- A new slice of rows. -/
theorem s_buildRows {t e : TypeId} {sz by' len : Nat} {z : List Value} [i : SliceOf P t e sz by' z] {parts : List (Nat × Operand)} (rows : List (List Value))
    (hv : parts.map (fun p => ev fr p.2) = rows.map fun r => Value.agg r.toArray) (hix : parts.map (·.1) = List.range len) (h1 : rows.all (fun r => Nat.beq r.length sz) = true) (hlen : Nat.ble (len * sz) 16777216 = true) (hs : Nat.blt 0 sz = true)
    (hd : Nat.blt d n = true) (k : ∀ b, WPL ro P B n ops rest (fr.put d (.slice (some ⟨b, 0, none⟩) len len)) (blk b rows.flatten e + H) Q) :
    WPL ro P B n ops (⟨some d, .buildSlice t len parts.toArray, ty, pos, after, none⟩ :: rest) fr H Q := by
  refine s_buildSlice (cs := rows.flatten) hlen ?_ hd k
  have hl : parts.length = len := by have := congrArg List.length hix; simpa using this
  have hrl : rows.length = len := by have := congrArg List.length hv; simp at this; omega
  have e1 : (Array.map (fun x : Nat × Operand => (x.1, ev fr x.2)) parts.toArray).toList = ((rows.map fun r => Value.agg r.toArray).zipIdx 0).map fun p => (p.2, p.1) := by
    rw [← hv]
    simp only [List.map_toArray]
    apply List.ext_getElem?
    intro j
    have hj := congrArg (fun l : List Nat => l[j]?) hix
    simp only [List.getElem?_map, List.getElem?_range'] at hj
    simp only [List.getElem?_map, List.getElem?_zipIdx]
    cases hp : parts[j]? with
    | none => simp
    | some p =>
      have hjl : j < len := by have := (List.getElem?_eq_some_iff.1 hp).1; omega
      simp [hp, hjl] at hj
      simp [hj]
  show Instr.fill _ _ (Array.map (fun x : Nat × Operand => (x.1, ev fr x.2)) parts.toArray).toList = _
  rw [e1]
  exact fill_rows (by simpa [Nat.blt_eq] using hs) rows (fun r hr => by simpa using (List.all_eq_true.1 h1) r hr) _ (by simp [hrl])
end
end Go.SL
