/- Regions whose order is drawn: the steps. No condition. -/
import Derived.Test.YtofgpppnknpblaaDoorSLDraw2
set_option linter.unusedSimpArgs false
set_option linter.unusedVariables false
namespace Go.SL
open Go Go.RowKit

section
variable {ro : Option Nat} {P : Program} {B : World} {n : Nat} {ops : List Oper} {Q : Post} {fr : Fr} {H : HProp} {i d : Nat} {o : Oper} {C other : Ord} {pend : List (Nat × (HProp → Prop))} {v : Value}

/-- Behind an act: what was looked at, and may still be looked at, is as it was. -/
def Stays (ops : List Oper) (i : Nat) : List (Nat × (HProp → Prop)) → HProp → Prop
  | [], _ => True
  | p :: l, H => ((ancL ops i i []).contains p.1 = false → p.2 H) ∧ Stays ops i l H
theorem Stays.all {l : List (Nat × (HProp → Prop))} (h : Stays ops i l H) : ∀ p ∈ l, (ancL ops i i []).contains p.1 = false → p.2 H := by
  induction l with
  | nil => simp
  | cons q l ih => intro p hp; rcases List.mem_cons.1 hp with rfl | hp; exact h.1; exact ih h.2 p hp
theorem st_nil : Stays ops i [] H := trivial
theorem st_past {j : Nat} {p : HProp → Prop} {l : List (Nat × (HProp → Prop))} (h : (ancL ops i i []).contains j = true) (k : Stays ops i l H) : Stays ops i ((j, p) :: l) H :=
  ⟨fun e => (by rw [h] at e; cases e), k⟩
theorem st_again {j : Nat} {p : HProp → Prop} {l : List (Nat × (HProp → Prop))} (h : p H) (k : Stays ops i l H) : Stays ops i ((j, p) :: l) H := ⟨fun _ => h, k⟩

theorem DW.more : ∀ (C : Ord) {pend pend' : List (Nat × (HProp → Prop))} {fr : Fr} {H : HProp}, DW ro P B n ops Q C pend fr H → (∀ p ∈ pend', p ∈ pend ∨ ∀ G, p.2 G) → DW ro P B n ops Q C pend' fr H
  | .nil, _, _, _, _, h, _ => h
  | .stop, _, _, _, _, _, _ => trivial
  | .look i C, pend, pend', fr, H, h, hp => by
    obtain ⟨o, v, h1, h2, h3⟩ := h
    refine ⟨o, v, h1, h2, DW.more C h3 fun p hm => ?_⟩
    rcases List.mem_cons.1 hm with rfl | hm
    · exact .inl List.mem_cons_self
    · exact (hp p hm).imp (List.mem_cons_of_mem _) id
  | .act i C other, pend, pend', fr, H, h, hp => by
    obtain ⟨⟨o, K, h1, h2, h3⟩, h4⟩ := h
    refine ⟨⟨o, K, h1, h2, fun v H' hK => ⟨fun p hm he => ?_, DW.more C (h3 v H' hK).2 hp⟩⟩, DW.more other h4 hp⟩
    rcases hp p hm with h | h
    · exact (h3 v H' hK).1 p h he
    · exact h H'
theorem dw_nil (h : Q .normal fr H) : DW ro P B n ops Q .nil pend fr H := h
theorem dw_look (ho : ops[i]? = some o) (hd : o.dst = some d) (hq : WPL ro P B n ops.toArray [o] fr H (QOne (some d) fr fun v' H' => v' = v ∧ Ent H' H))
    (k : DW ro P B n ops Q C ((i, fun G => WPL ro P B n ops.toArray [o] fr G (QOne (some d) fr fun v' H' => v' = v ∧ Ent H' G)) :: pend) (fr.put d v) H) : DW ro P B n ops Q (.look i C) pend fr H := by
  refine ⟨o, v, ho, ?_, ?_⟩
  · rw [hd]; exact hq
  · rw [hd]; exact k
theorem dw_pure (ho : ops[i]? = some o) (hd : o.dst = some d) (hq : ∀ G, WPL ro P B n ops.toArray [o] fr G (QOne (some d) fr fun v' H' => v' = v ∧ Ent H' G))
    (k : DW ro P B n ops Q C pend (fr.put d v) H) : DW ro P B n ops Q (.look i C) pend fr H := by
  refine dw_look ho hd (hq H) (DW.more C k fun p hp => ?_)
  rcases List.mem_cons.1 hp with rfl | hp
  · exact .inr hq
  · exact .inl hp
/-- Something acts: what follows is told behind it. -/
theorem dw_do (ho : ops[i]? = some o) (hd : o.dst = some d) (h : WPL ro P B n ops.toArray [o] fr H (QOne (some d) fr fun v G => Stays ops i pend G ∧ DW ro P B n ops Q C pend (fr.put d v) G))
    (k' : DW ro P B n ops Q other pend fr H) : DW ro P B n ops Q (.act i C other) pend fr H := by
  have hK : ∀ (v : Value) (H' : HProp), (Stays ops i pend H' ∧ DW ro P B n ops Q C pend (fr.put d v) H') → (∀ p ∈ pend, (ancL ops i i []).contains p.1 = false → p.2 H') ∧ DW ro P B n ops Q C pend (fr.putO o.dst v) H' := by
    intro v H' h; rw [hd]; exact ⟨Stays.all h.1, h.2⟩
  exact ⟨⟨o, fun v G => Stays ops i pend G ∧ DW ro P B n ops Q C pend (fr.put d v) G, ho, by rw [hd]; exact h, hK⟩, k'⟩
theorem dw_do0 (ho : ops[i]? = some o) (hd : o.dst = none) (h : WPL ro P B n ops.toArray [o] fr H (QOne none fr fun _ G => Stays ops i pend G ∧ DW ro P B n ops Q C pend fr G))
    (k' : DW ro P B n ops Q other pend fr H) : DW ro P B n ops Q (.act i C other) pend fr H := by
  have hK : ∀ (v : Value) (H' : HProp), (Stays ops i pend H' ∧ DW ro P B n ops Q C pend fr H') → (∀ p ∈ pend, (ancL ops i i []).contains p.1 = false → p.2 H') ∧ DW ro P B n ops Q C pend (fr.putO o.dst v) H' := by
    intro v H' h; rw [hd]; exact ⟨Stays.all h.1, h.2⟩
  exact ⟨⟨o, fun _ G => Stays ops i pend G ∧ DW ro P B n ops Q C pend fr G, ho, by rw [hd]; exact h, hK⟩, k'⟩
theorem dw_stop : DW ro P B n ops Q .stop pend fr H := trivial
theorem qone_q : QOne (some d) fr (fun v' H' => v' = v ∧ Ent H' H) .normal (fr.put d v) H := ⟨rfl, v, rfl, rfl, Ent.refl H⟩
theorem qone {K : Value → HProp → Prop} (h : K v H) : QOne (some d) fr K .normal (fr.put d v) H := ⟨rfl, v, rfl, h⟩
theorem qone0 {K : HProp → Prop} (h : K H) : QOne none fr (fun _ => K) .normal fr H := ⟨rfl, undef, rfl, h⟩
end
end Go.SL
