/- Opening and closing assertions in a walk. No condition. -/
import Derived.Test.YtofgpppnknpblaaDoorSLDraw3
set_option linter.unusedSimpArgs false
set_option linter.unusedVariables false
namespace Go.SL
open Go Go.RowKit
section
variable {ro : Option Nat} {P : Program} {B : World} {n : Nat} {ops : Array Oper} {l : List Oper} {c : Code} {fr : Fr} {H A F : HProp} {Q : Post} {f : FuncId} {args : List Value} {R : Value → HProp → Prop}

theorem WPL.split (A : HProp) {F : HProp} [s : Split H A F] (h : WPL ro P B n ops l fr (A + F) Q) : WPL ro P B n ops l fr H Q := by rw [s.eq]; exact h
theorem WP.split (A : HProp) {F : HProp} [s : Split H A F] (h : WP ro P B n c fr (A + F) Q) : WP ro P B n c fr H Q := by rw [s.eq]; exact h
theorem Does.split (A : HProp) {F : HProp} [s : Split H A F] (h : Does P B f args (A + F) R) : Does P B f args H R := by rw [s.eq]; exact h

theorem WPL.ex {α : Type} {G : α → HProp} (h : ∀ x, WPL ro P B n ops l fr (G x + F) Q) : WPL ro P B n ops l fr (ex G + F) Q := by
  rw [ex_add]; exact fun a w hm hh => let ⟨x, hx⟩ := hh.ex_out; h x a w hm hx
theorem WP.ex {α : Type} {G : α → HProp} (h : ∀ x, WP ro P B n c fr (G x + F) Q) : WP ro P B n c fr (ex G + F) Q := by
  rw [ex_add]; exact fun a w hm hh => let ⟨x, hx⟩ := hh.ex_out; h x a w hm hx
theorem Does.ex {α : Type} {G : α → HProp} (h : ∀ x, Does P B f args (G x + F) R) : Does P B f args (ex G + F) R := by
  rw [ex_add]; exact fun w hh => let ⟨x, hx⟩ := hh.ex_out; h x w hx
theorem WPL.fact {p : Prop} (h : p → WPL ro P B n ops l fr (A + F) Q) : WPL ro P B n ops l fr (fact p A + F) Q := by
  rw [fact_add]; exact fun a w hm hh => let ⟨x, hx⟩ := hh.fact_out; h x a w hm hx
theorem WP.fact {p : Prop} (h : p → WP ro P B n c fr (A + F) Q) : WP ro P B n c fr (fact p A + F) Q := by
  rw [fact_add]; exact fun a w hm hh => let ⟨x, hx⟩ := hh.fact_out; h x a w hm hx
theorem Does.fact {p : Prop} (h : p → Does P B f args (A + F) R) : Does P B f args (fact p A + F) R := by
  rw [fact_add]; exact fun w hh => let ⟨x, hx⟩ := hh.fact_out; h x w hx

theorem Does.under (h : ∀ w, Holds B H w → ∃ G, Holds B G w ∧ Does P B f args G R) : Does P B f args H R := fun w hw => let ⟨_, h1, h2⟩ := h w hw; h2 w h1
theorem WPL.under (h : ∀ w, Holds B H w → ∃ G, Holds B G w ∧ WPL ro P B n ops l fr G Q) : WPL ro P B n ops l fr H Q := fun a w hm hw => let ⟨_, h1, h2⟩ := h w hw; h2 a w hm h1
theorem WP.under (h : ∀ w, Holds B H w → ∃ G, Holds B G w ∧ WP ro P B n c fr G Q) : WP ro P B n c fr H Q := fun a w hm hw => let ⟨_, h1, h2⟩ := h w hw; h2 a w hm h1
/-- What the shape of a slice of one's own is. -/
theorem Mine.shape {e : TypeId} {sz k : Nat} {v : Value} {cs : List Value} {w : World} (h : Holds B (Mine e sz v k cs + F) w) : ∃ ao cap, v = .slice ao k cap ∧ cs.length = k * sz ∧ k ≤ cap ∧ cap ≤ maxLen := by
  obtain ⟨hl, ⟨rfl, rfl, _⟩ | ⟨g, cap, sp, rfl, h1, h2, _, _⟩⟩ := Mine.open h
  · exact ⟨none, 0, rfl, hl, Nat.le_refl _, Nat.zero_le _⟩
  · exact ⟨_, cap, rfl, hl, h1, h2⟩
theorem WPL.shape {e : TypeId} {sz k : Nat} {v : Value} {cs : List Value} (h : ∀ ao cap, v = .slice ao k cap → cs.length = k * sz → k ≤ cap → cap ≤ maxLen → WPL ro P B n ops l fr (Mine e sz v k cs + F) Q) : WPL ro P B n ops l fr (Mine e sz v k cs + F) Q :=
  fun a w hm hh => let ⟨ao, cap, h1, h2, h3, h4⟩ := Mine.shape hh; h ao cap h1 h2 h3 h4 a w hm hh
theorem WP.shape {e : TypeId} {sz k : Nat} {v : Value} {cs : List Value} (h : ∀ ao cap, v = .slice ao k cap → cs.length = k * sz → k ≤ cap → cap ≤ maxLen → WP ro P B n c fr (Mine e sz v k cs + F) Q) : WP ro P B n c fr (Mine e sz v k cs + F) Q :=
  fun a w hm hh => let ⟨ao, cap, h1, h2, h3, h4⟩ := Mine.shape hh; h ao cap h1 h2 h3 h4 a w hm hh
theorem Does.shape {e : TypeId} {sz k : Nat} {v : Value} {cs : List Value} (h : ∀ ao cap, v = .slice ao k cap → cs.length = k * sz → k ≤ cap → cap ≤ maxLen → Does P B f args (Mine e sz v k cs + F) R) : Does P B f args (Mine e sz v k cs + F) R :=
  fun w hh => let ⟨ao, cap, h1, h2, h3, h4⟩ := Mine.shape hh; h ao cap h1 h2 h3 h4 w hh
/-- A slice of one's own that is not empty, laid open. -/
theorem Mine.some {e : TypeId} {sz k cap : Nat} {ao : Option Addr} {cs : List Value} {w : World} (hk : 0 < k) (h : Holds B (Mine e sz (.slice ao k cap) k cs + F) w) :
    ∃ g sp, ao = Option.some ⟨g, 0, none⟩ ∧ (cs ++ sp).length = cap * sz ∧ Holds B (blk g (cs ++ sp) e + F) w := by
  obtain ⟨hl, ⟨_, h0, _⟩ | ⟨g, cap', sp, hv, h1, h2, h3, h4⟩⟩ := Mine.open h
  · omega
  · cases hv; exact ⟨g, sp, rfl, h3, h4⟩
theorem WPL.open {e : TypeId} {sz k cap : Nat} {ao : Option Addr} {cs : List Value} (hk : 0 < k) (h : ∀ g sp, ao = some ⟨g, 0, none⟩ → (cs ++ sp).length = cap * sz → WPL ro P B n ops l fr (blk g (cs ++ sp) e + F) Q) :
    WPL ro P B n ops l fr (Mine e sz (.slice ao k cap) k cs + F) Q :=
  fun a w hm hh => let ⟨g, sp, h1, h2, h3⟩ := Mine.some hk hh; h g sp h1 h2 a w hm h3
theorem WP.open {e : TypeId} {sz k cap : Nat} {ao : Option Addr} {cs : List Value} (hk : 0 < k) (h : ∀ g sp, ao = some ⟨g, 0, none⟩ → (cs ++ sp).length = cap * sz → WP ro P B n c fr (blk g (cs ++ sp) e + F) Q) :
    WP ro P B n c fr (Mine e sz (.slice ao k cap) k cs + F) Q :=
  fun a w hm hh => let ⟨g, sp, h1, h2, h3⟩ := Mine.some hk hh; h g sp h1 h2 a w hm h3
theorem Does.open {e : TypeId} {sz k cap : Nat} {ao : Option Addr} {cs : List Value} (hk : 0 < k) (h : ∀ g sp, ao = some ⟨g, 0, none⟩ → (cs ++ sp).length = cap * sz → Does P B f args (blk g (cs ++ sp) e + F) R) :
    Does P B f args (Mine e sz (.slice ao k cap) k cs + F) R :=
  fun w hh => let ⟨g, sp, h1, h2, h3⟩ := Mine.some hk hh; h g sp h1 h2 w h3
/-- It can be read. -/
theorem WPL.rd {e : TypeId} {sz k : Nat} {v : Value} {cs : List Value} (h : Rd B (Mine e sz v k cs) sz v k cs → WPL ro P B n ops l fr (Mine e sz v k cs + F) Q) : WPL ro P B n ops l fr (Mine e sz v k cs + F) Q :=
  fun a w hm hh => h (Mine.rd ⟨w, hh.drop_right⟩) a w hm hh
theorem WP.rd {e : TypeId} {sz k : Nat} {v : Value} {cs : List Value} (h : Rd B (Mine e sz v k cs) sz v k cs → WP ro P B n c fr (Mine e sz v k cs + F) Q) : WP ro P B n c fr (Mine e sz v k cs + F) Q :=
  fun a w hm hh => h (Mine.rd ⟨w, hh.drop_right⟩) a w hm hh
theorem Does.rd {e : TypeId} {sz k : Nat} {v : Value} {cs : List Value} (h : Rd B (Mine e sz v k cs) sz v k cs → Does P B f args (Mine e sz v k cs + F) R) : Does P B f args (Mine e sz v k cs + F) R :=
  fun w hh => h (Mine.rd ⟨w, hh.drop_right⟩) w hh
/-- A part of a block, as a slice. -/
theorem Rd.blk {b o m cap sz : Nat} {cs vs : List Value} {e : TypeId} [i : HasBlk H b cs e F] (hl : vs.length = m * sz) (hm : m ≤ maxLen) (hv : ∀ j v, vs[j]? = some v → cs[o + j]? = some v) :
    Rd B H sz (.slice (some ⟨b, o, none⟩) m cap) m vs := ⟨_, cap, rfl, hl, hm, .inr ⟨b, o, rfl, Cells.blk hv⟩⟩
theorem Rd.blk0 {b m cap sz : Nat} {cs : List Value} {e : TypeId} [i : HasBlk H b cs e F] (hl : cs.length = m * sz) (hm : m ≤ maxLen) :
    Rd B H sz (.slice (some ⟨b, 0, none⟩) m cap) m cs := Rd.blk hl hm fun j v h => by rw [Nat.zero_add]; exact h
theorem Rd.blkPre {b m cap sz : Nat} {cs sp : List Value} {e : TypeId} [i : HasBlk H b (cs ++ sp) e F] (hl : cs.length = m * sz) (hm : m ≤ maxLen) :
    Rd B H sz (.slice (some ⟨b, 0, none⟩) m cap) m cs := Rd.blk hl hm fun j v h => by
  rw [Nat.zero_add, List.getElem?_append_left (by have := (List.getElem?_eq_some_iff.1 h).1; omega)]; exact h
theorem Ent.ac {G : HProp} (h : H = G) : Ent H G := Ent.of_eq h
theorem Ent.ex_in {α : Type} {G : α → HProp} (x : α) : Ent (G x) (SL.ex G) := fun h p => ⟨h, Hp.le_refl h, x, p⟩
theorem Ent.ex_of {α : Type} {G : α → HProp} (x : α) (h : Ent H (G x + F)) : Ent H (SL.ex G + F) := h.trans ((Ent.ex_in x).frame_right F)
/-- Closing: behind an atom that stands by itself. -/
theorem Ent.step {A A' F' : HProp} [s : Split H A F] (h : Ent A A') (k : Ent F F') : Ent H (A' + F') := by rw [s.eq]; exact h.add k
theorem Ent.drop [s : Split H A F] {G : HProp} (k : Ent F G) : Ent H G := by rw [s.eq]; exact (Ent.drop_left A F).trans k
end
end Go.SL
