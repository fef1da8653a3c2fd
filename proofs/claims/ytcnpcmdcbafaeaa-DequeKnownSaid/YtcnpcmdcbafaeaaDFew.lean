/- Few acts, and none of many numbers. No condition. -/
import Derived.Test.YtcnpcmdcbafaeaaDDoesIt
namespace Go.Proofs.Ytcnpcmdcbafaeaa
open Go Go.SL
set_option linter.unusedSimpArgs false
set_option linter.unusedVariables false
set_option maxRecDepth 10000
set_option maxHeartbeats 4000000
attribute [local irreducible] WP WPL QSeq QBlk QRet Does Cell Cells Rd Mine Ent Aside RV DqX DqAt Yield
/-- An act that came in. -/
structure QAct where
  d : Int
  g : Int
  lo : Option Addr
  cap : Nat
  l : List Int
def QAct.cells (a : QAct) : List Value := [.int .i64 a.d, .int .i64 a.g, .slice a.lo a.l.length a.cap]
def qCells (l : List QAct) : List Value := l.flatMap QAct.cells
theorem qCells_length (l : List QAct) : (qCells l).length = l.length * 3 := by
  induction l with
  | nil => rfl
  | cons a l ih => simp only [qCells, List.flatMap_cons, List.length_append, List.length_cons] at ih ⊢; rw [ih]; simp [QAct.cells]; omega
theorem qCells_at : ∀ (l : List QAct) (k : Nat) (h : k < l.length), (qCells l)[k * 3]? = some (.int .i64 l[k].d) ∧ (qCells l)[k * 3 + 1]? = some (.int .i64 l[k].g) ∧ (qCells l)[k * 3 + 2]? = some (.slice l[k].lo l[k].l.length l[k].cap)
  | [], k, h => absurd h (Nat.not_lt_zero k)
  | a :: l, 0, h => ⟨rfl, rfl, rfl⟩
  | a :: l, k + 1, h => by
    have ih := qCells_at l k (by simpa using h)
    have e1 : (k + 1) * 3 = k * 3 + 1 + 1 + 1 := by omega
    simp only [qCells, List.flatMap_cons, QAct.cells, List.cons_append, List.nil_append, List.getElem_cons_succ, e1, List.getElem?_cons_succ] at ih ⊢
    exact ih
section
variable {B : World} {F H G : HProp}
theorem few_spec {s : Value} {l : List QAct} {most : Int} (hs : Rd B H 3 s l.length (qCells l)) (hm : 0 ≤ most) : Does Try.prog B 18 [s, .int .i64 most] H fun r H' => H' = H ∧ ∃ b : Bool, r = .bool b ∧ (b = true → (l.length : Int) ≤ most ∧ ∀ k (h : k < l.length), l[k].l.length ≤ 80) := by
  unfold Rd at hs
  obtain ⟨ao, cap, rfl, hl, hx, ha⟩ := hs
  have hx' : l.length ≤ 9223372036854775807 := by simpa [maxLen] using hx
  refine Does.weak (R := fun r H' => Ent H' H ∧ ∃ b : Bool, r = .bool b ∧ (b = true → (l.length : Int) ≤ most ∧ ∀ k (h : k < l.length), l[k].l.length ≤ 80)) ?_ fun v H1 ⟨e, hv⟩ => ⟨H, e, rfl, hv⟩
  refine fn_intro 28 Try.func18 rfl rfl rfl ?_
  refine walk ?_
  refine wp_loopR (α := Nat) [4, 5, 6, 7, 8, 9, 10, 11, 12, 13, 14, 15, 16, 17, 18, 19, 20, 21, 22, 23] (fun k => [(5, .int .i64 k)]) (fun k => k ≤ l.length ∧ ∀ j (h : j < l.length), j < k → l[j].l.length ≤ 80) (fun k => l.length - k) 0 agreed ⟨Nat.zero_le _, fun j _ h => absurd h (Nat.not_lt_zero j)⟩ ?_
  rintro k g0 ⟨hk, hall⟩
  simp only [putAll]
  by_cases hlt : k < l.length
  · by_cases hle : (k : Int) ≤ most
    · obtain ⟨bl, ol, rfl, hcl⟩ : ∃ b o, ao = some ⟨b, o, none⟩ ∧ Cells B H b o (qCells l) := by
        rcases ha with h | h
        · rw [h] at hl; simp at hl; omega
        · exact h
      obtain ⟨_, _, c3⟩ := qCells_at l k hlt
      have hcell := hcl.cell c3
      rw [← Nat.add_assoc] at hcell
      by_cases h80 : l[k].l.length ≤ 80
      · refine walk ?_
        refine ⟨k + 1, asided, agreed, Ent.refl _, ⟨hlt, fun j h hj => ?_⟩, by omega⟩
        by_cases hjk : j = k
        · subst hjk; exact h80
        · exact hall j h (by omega)
      · refine walk ?_
        refine ret1 (v := .bool _) (.inr rfl) rfl rfl ⟨Ent.refl _, _, rfl, fun h => by simp at h⟩
    · refine walk ?_
      refine ret1 (v := .bool _) (.inr rfl) rfl rfl ⟨Ent.refl _, _, rfl, fun h => by simp at h⟩
  · by_cases hlm : (l.length : Int) ≤ most
    · refine walk ?_
      refine ret1 (v := .bool _) (.inr rfl) rfl rfl ⟨Ent.refl _, _, rfl, fun _ => ⟨hlm, fun j h => hall j h (by omega)⟩⟩
    · refine walk ?_
      refine ret1 (v := .bool _) (.inr rfl) rfl rfl ⟨Ent.refl _, _, rfl, fun h => by simp at h⟩
end
end Go.Proofs.Ytcnpcmdcbafaeaa
