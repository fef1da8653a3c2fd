/- What a system keeps, whatever notes are taken. No condition. -/
import Derived.Test.YtlhnmbajbhaaoaaIdInv1
namespace Go.Proofs.Ytlhnmbajbhaaoaa
open Go Go.SL
set_option linter.unusedSimpArgs false
set_option linter.unusedVariables false
set_option maxHeartbeats 2000000
structure Inv (I : Ide) (cnt : List Int) : Prop where
  pp : PP I.c I.ms I.ps
  st : ∀ g : Int, 0 ≤ g → g < I.c.g → nRuns I.ms g = (if I.stat g = 2 then 1 else 0) ∧ nCalls I.ms g = (if I.stat g = 4 then 1 else 0) ∧ nWaits I.sem g = (if I.stat g = 3 then 1 else 0)
  row : ∀ g ∈ I.tab.row, I.stat g = 0
  nd : I.tab.row.Nodup
  se : ∀ (s : Nat) (l : List Int) (c : Int), I.sem[s]? = some (l, c) → cnt[s]? = some c ∧ (∀ x ∈ l, 0 ≤ x ∧ x < I.c.g) ∧ (0 < c → l = []) ∧ 0 ≤ c ∧ c ≤ 1073741824
  cl : cnt.length = 4
  ca : (I.callers : Int) ≤ I.c.m - I.c.n
def cntS (cnt : List Int) (n : Nt) : List Int := if n.kind = 5 then cnt.modify n.x.toNat (· - 1) else if n.kind = 7 then cnt.modify n.x.toNat (· + 1) else cnt
section
variable {I : Ide} {K : Int} {n : Nt} {cnt : List Int} {m p a g s v : Int}
theorem mGet (h : 0 ≤ m ∧ m < I.ms.length) : ∃ (k : Nat) (old : Mc), m = (k : Int) ∧ I.ms[k]? = some old ∧ I.mAt m = old := by
  have hk : m.toNat < I.ms.length := by omega
  refine ⟨m.toNat, I.ms[m.toNat], by omega, List.getElem?_eq_getElem hk, ?_⟩
  unfold Ide.mAt
  rw [List.getElem?_eq_getElem hk]; rfl
theorem pGet (h : 0 ≤ p ∧ p < I.ps.length) : ∃ (k : Nat) (v : Int), p = (k : Int) ∧ I.ps[k]? = some v ∧ I.pAt p = v := by
  have hk : p.toNat < I.ps.length := by omega
  refine ⟨p.toNat, I.ps[p.toNat], by omega, List.getElem?_eq_getElem hk, ?_⟩
  unfold Ide.pAt
  rw [List.getElem?_eq_getElem hk]; rfl
theorem callers_mod {ms : List Mc} {k : Nat} {old : Mc} (f : Mc → Mc) (h : ms[k]? = some old) : (ms.modify k f).countP (fun m => decide (m.a = 3)) + (if old.a = 3 then 1 else 0) = ms.countP (fun m => decide (m.a = 3)) + (if (f old).a = 3 then 1 else 0) := by
  have := countP_mod (P := fun m : Mc => decide (m.a = 3)) (f := f) h
  simp only [decide_eq_true_eq] at this
  exact this
/-- A goroutine's status turns, with an M's. -/
theorem Inv.turn (h : Inv I cnt) {k : Nat} {old new : Mc} {ps : List Int} {T : Tab} (hk : I.ms[k]? = some old) {f : Mc → Mc} (hf : f old = new) (hpp : PP I.c (I.ms.modify k f) ps)
    (hst : ∀ x : Int, (⟨I.c, T, I.sem, I.ms, I.ps, I.many⟩ : Ide).stat x = if x = g then s else I.stat x) (hg : 0 ≤ g ∧ g < I.c.g)
    (hr : rW old g = (if I.stat g = 2 then 1 else 0) ∧ rW new g = (if s = 2 then 1 else 0)) (hc : cW old g = (if I.stat g = 4 then 1 else 0) ∧ cW new g = (if s = 4 then 1 else 0)) (hw : (I.stat g = 3 ↔ s = 3))
    (ho : ∀ x, x ≠ g → rW old x = rW new x ∧ cW old x = cW new x) (hrow : (∀ x ∈ T.row, (⟨I.c, T, I.sem, I.ms, I.ps, I.many⟩ : Ide).stat x = 0) ∧ T.row.Nodup)
    (hca : new.a = 3 → old.a = 3 ∨ (I.callers : Int) < I.c.m - I.c.n) (many : Int) : Inv ⟨I.c, T, I.sem, I.ms.modify k f, ps, many⟩ cnt := by
  have hst' : ∀ x : Int, (⟨I.c, T, I.sem, I.ms.modify k f, ps, many⟩ : Ide).stat x = if x = g then s else I.stat x := hst
  refine ⟨hpp, fun x h0 h1 => ?_, hrow.1, hrow.2, h.se, h.cl, ?_⟩
  · obtain ⟨d1, d2, d3⟩ := h.st x h0 h1
    have e1 := nRuns_mod f hk x
    have e2 := nCalls_mod f hk x
    rw [hf] at e1 e2
    rw [hst']
    by_cases hx : x = g
    · subst hx
      rw [if_pos rfl]
      refine ⟨?_, ?_, ?_⟩
      · show nRuns (I.ms.modify k f) x = _
        omega
      · show nCalls (I.ms.modify k f) x = _
        omega
      · show nWaits I.sem x = _
        rw [d3]
        by_cases h3 : I.stat x = 3
        · rw [if_pos h3, if_pos (hw.1 h3)]
        · rw [if_neg h3, if_neg fun e => h3 (hw.2 e)]
    · rw [if_neg hx]
      obtain ⟨o1, o2⟩ := ho x hx
      refine ⟨?_, ?_, d3⟩
      · show nRuns (I.ms.modify k f) x = _
        omega
      · show nCalls (I.ms.modify k f) x = _
        omega
  · have e := callers_mod f hk
    rw [hf] at e
    have hca0 := h.ca
    show (((I.ms.modify k f).countP fun m => decide (m.a = 3) : Nat) : Int) ≤ I.c.m - I.c.n
    unfold Ide.callers at hca0 hca
    by_cases hn : new.a = 3
    · rcases hca hn with ha | ha
      · rw [if_pos hn, if_pos ha] at e; omega
      · rw [if_pos hn] at e; split at e <;> omega
    · rw [if_neg hn] at e; split at e <;> omega
end
end Go.Proofs.Ytlhnmbajbhaaoaa
