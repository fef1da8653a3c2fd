/- Acts that came in, opened. No condition. -/
import Derived.Test.YtcnpcmdcbafaeaaDFew
import Derived.Test.YtcnpcmdcbafaeaaSLOpen
namespace Go.Proofs.Ytcnpcmdcbafaeaa
open Go Go.SL
set_option linter.unusedSimpArgs false
set_option linter.unusedVariables false
/-- Numbers that came in. -/
theorem ints_open0 {W : World} {v : Value} (h : Has W (.slice 1 (.int .i64)) [v]) :
    ∃ l : List Int, (∀ H : HProp, Rd W H 1 v l.length (zs l)) ∧ ∃ ao cap, v = .slice ao l.length cap ∧ l.length ≤ cap ∧ cap ≤ maxLen := by
  have e : ∀ l : List Int, l.flatMap (fun x => [Value.int .i64 x]) = zs l := fun l => by induction l with
    | nil => rfl
    | cons x l ih => simp only [List.flatMap_cons, ih]; rfl
  obtain ⟨l, h1, h2⟩ := Has.rd (fun x : Int => [.int .i64 x]) (fun _ => rfl) Nat.zero_lt_one h (fun r _ ⟨n, hn, _⟩ => ⟨n, hn⟩)
  exact ⟨l, fun H => e l ▸ h1 H, h2⟩
def QAct.good (W : World) (a : QAct) : Prop := a.l.length ≤ a.cap ∧ ∀ H : HProp, Rd W H 1 (.slice a.lo a.l.length a.cap) a.l.length (zs a.l)
theorem qacts_open {W : World} {v : Value} (h : Has W (.slice 3 (.cat (.int .i64) 1 (.cat (.int .i64) 1 (.cat (.slice 1 (.int .i64)) 1 .unit)))) [v]) :
    ∃ l : List QAct, (∀ H : HProp, Rd W H 3 v l.length (qCells l)) ∧ (∀ a ∈ l, a.good W) ∧ ∃ ao cap, v = .slice ao l.length cap ∧ l.length ≤ cap ∧ cap ≤ maxLen := by
  have key : ∃ l : List {a : QAct // a.good W}, (∀ H : HProp, Rd W H 3 v l.length (l.flatMap fun a => a.1.cells)) ∧ ∃ ao cap, v = .slice ao l.length cap ∧ l.length ≤ cap ∧ cap ≤ maxLen := by
    refine Has.rd (fun a : {a : QAct // a.good W} => a.1.cells) (fun _ => rfl) (by omega) h ?_
    rintro r hr ⟨⟨b, h1, _⟩, ⟨x, h2, _⟩, h3, _⟩
    match r, hr with
    | [r0, r1, r2], _ =>
      simp at h1 h2 h3
      obtain ⟨li, hli, ao, cap, hv, hlc, _⟩ := ints_open0 h3
      subst hv h1 h2
      exact ⟨⟨⟨b, x, ao, cap, li⟩, hlc, fun H => hli H⟩, rfl⟩
  obtain ⟨l, h1, h2⟩ := key
  refine ⟨l.map Subtype.val, fun H => ?_, ?_, ?_⟩
  · have := h1 H
    rw [List.length_map]
    have e : qCells (l.map Subtype.val) = l.flatMap fun a => a.1.cells := by simp [qCells, List.flatMap_map]
    rw [e]; exact this
  · intro a ha
    obtain ⟨b, _, rfl⟩ := List.mem_map.1 ha
    exact b.2
  · rw [List.length_map]; exact h2
end Go.Proofs.Ytcnpcmdcbafaeaa
