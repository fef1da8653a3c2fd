/- What a system keeps: each kind of notes. No condition. -/
import Derived.Test.YtlhnmbajbhaaoaaIdInv2
namespace Go.Proofs.Ytlhnmbajbhaaoaa
open Go Go.SL
set_option linter.unusedSimpArgs false
set_option linter.unusedVariables false
set_option maxHeartbeats 2000000
section
variable {I : Ide} {K : Int} {n : Nt} {cnt : List Int} {m p a g s v : Int} {k kp : Nat} {old : Mc}
/-- The row, behind a status that was not Free. -/
theorem row_turn (h : Inv I cnt) (h0 : 0 ≤ g ∧ g < I.tab.all.length) (hm : may (I.stat g) s = true) (hs0 : I.stat g ≠ 0) :
    (∀ x ∈ (I.tab.set g s).2.row, (I.tset g s).stat x = 0) ∧ (I.tab.set g s).2.row.Nodup := by
  have hr := row_tset h0 hm
  have hr' : (I.tab.set g s).2.row = if s = 0 then g :: I.tab.row else I.tab.row := hr
  have hng : g ∉ I.tab.row := fun hx => hs0 (h.row g hx)
  rw [hr']
  by_cases hs : s = 0
  · rw [if_pos hs]
    refine ⟨fun x hx => ?_, List.nodup_cons.2 ⟨hng, h.nd⟩⟩
    rw [stat_tset h0 hm]
    rcases List.mem_cons.1 hx with rfl | hx
    · rw [if_pos rfl, hs]
    · split
      · exact hs
      · exact h.row x hx
  · rw [if_neg hs]
    refine ⟨fun x hx => ?_, h.nd⟩
    rw [stat_tset h0 hm, if_neg (fun e : x = g => hng (e ▸ hx))]
    exact h.row x hx
/-- A goroutine's status is set, and an M turns with it. -/
theorem Inv.setTurn (h : Inv I cnt) (tl : (I.tab.all.length : Int) = I.c.g) {new : Mc} {ps : List Int} (hk : I.ms[k]? = some old) {f : Mc → Mc} (hf : f old = new) (hpp : PP I.c (I.ms.modify k f) ps)
    (hg : 0 ≤ g ∧ g < I.c.g) (hm : may (I.stat g) s = true) (hs0 : I.stat g ≠ 0)
    (hr : rW old g = (if I.stat g = 2 then 1 else 0) ∧ rW new g = (if s = 2 then 1 else 0)) (hc : cW old g = (if I.stat g = 4 then 1 else 0) ∧ cW new g = (if s = 4 then 1 else 0)) (hw : I.stat g ≠ 3 ∧ s ≠ 3)
    (ho : ∀ x, x ≠ g → rW old x = rW new x ∧ cW old x = cW new x) (hca : new.a = 3 → old.a = 3 ∨ (I.callers : Int) < I.c.m - I.c.n) (many : Int) :
    Inv ⟨I.c, (I.tab.set g s).2, I.sem, I.ms.modify k f, ps, many⟩ cnt := by
  have hgl : 0 ≤ g ∧ g < I.tab.all.length := by omega
  exact h.turn (g := g) (s := s) hk hf hpp (fun x => stat_tset hgl hm x) hg hr hc ⟨fun e => absurd e hw.1, fun e => absurd e hw.2⟩ ho (row_turn h hgl hm hs0) hca many
theorem stat_runs (h : Inv I cnt) (hk : I.ms[k]? = some old) (ha : old.a = 2) (hg : 0 ≤ old.g ∧ old.g < I.c.g) : I.stat old.g = 2 := by
  have h1 := nRuns_at hk ha
  have h2 := (h.st old.g hg.1 hg.2).1
  by_cases e : I.stat old.g = 2
  · exact e
  · rw [if_neg e] at h2; omega
theorem stat_calls (h : Inv I cnt) (hk : I.ms[k]? = some old) (ha : old.a = 3) (hg : 0 ≤ old.g ∧ old.g < I.c.g) : I.stat old.g = 4 := by
  have h1 := nCalls_at hk ha
  have h2 := (h.st old.g hg.1 hg.2).2.1
  by_cases e : I.stat old.g = 4
  · exact e
  · rw [if_neg e] at h2; omega
/-- A runner leaves its goroutine, and searches. -/
theorem Inv.searches (h : Inv I cnt) (tl : (I.tab.all.length : Int) = I.c.g) (hk : I.ms[k]? = some old) (ha : old.a = 2) (hp : old.p = (kp : Int)) (hs : s = 0 ∨ s = 1) (many : Int) :
    Inv ⟨I.c, (I.tab.set old.g s).2, I.sem, I.ms.modify k (fun x => { x with a := 1, p := (kp : Int), g := -1 }), I.ps.set kp (k : Int), many⟩ cnt := by
  obtain ⟨mi, mp⟩ := h.pp.mi k old hk
  have hg0 : 0 ≤ old.g := mi.ga.2 (by omega)
  have hg : 0 ≤ old.g ∧ old.g < I.c.g := ⟨hg0, mi.g.2⟩
  have hst := stat_runs h hk ha hg
  have hv : I.ps[kp]? = some (k : Int) := by have := mp (by omega); rwa [hp, Int.toNat_natCast] at this
  have mn : MI I.c { old with a := 1, p := (kp : Int), g := -1 } := ⟨by simp, by have := mi.p; simp only; omega, by have := mi.g; simp only; omega, by simp, by simp, by simp, by simp⟩
  refine h.setTurn tl hk rfl (h.pp.has (f := fun x => { x with a := 1, p := (kp : Int), g := -1 }) hk hv rfl mn (.inl hp) (.inl rfl)) hg ?_ ?_ ?_ ?_ ?_ ?_ ?_ many
  · rw [hst]; rcases hs with rfl | rfl <;> rfl
  · omega
  · rw [hst]; rcases hs with rfl | rfl <;> simp [rW, ha]
  · rw [hst]; rcases hs with rfl | rfl <;> simp [cW, ha]
  · omega
  · intro x hx; simp [rW, cW, ha]; omega
  · simp
/-- A P's M keeps it no more, or one rests: nobody's status turns. -/
theorem Inv.place (h : Inv I cnt) {ps : List Int} (hk : I.ms[k]? = some old) {f : Mc → Mc} (hpp : PP I.c (I.ms.modify k f) ps) (ho : ∀ x : Int, 0 ≤ x → rW old x = rW (f old) x ∧ cW old x = cW (f old) x) (hca : (f old).a = 3 ↔ old.a = 3) (many : Int) :
    Inv ⟨I.c, I.tab, I.sem, I.ms.modify k f, ps, many⟩ cnt := by
  refine ⟨hpp, fun x h0 h1 => ?_, h.row, h.nd, h.se, h.cl, ?_⟩
  · obtain ⟨d1, d2, d3⟩ := h.st x h0 h1
    have e1 := nRuns_mod f hk x
    have e2 := nCalls_mod f hk x
    obtain ⟨o1, o2⟩ := ho x h0
    refine ⟨?_, ?_, d3⟩
    · show nRuns (I.ms.modify k f) x = (if I.stat x = 2 then 1 else 0)
      omega
    · show nCalls (I.ms.modify k f) x = (if I.stat x = 4 then 1 else 0)
      omega
  · have e := callers_mod f hk
    have hca0 := h.ca
    show (((I.ms.modify k f).countP fun m => decide (m.a = 3) : Nat) : Int) ≤ I.c.m - I.c.n
    unfold Ide.callers at hca0
    by_cases hn : old.a = 3
    · rw [if_pos hn, if_pos (hca.2 hn)] at e; omega
    · rw [if_neg hn, if_neg (fun e => hn (hca.1 e))] at e; omega
/-- A caller comes back to a P that is idle. -/
theorem Inv.back (h : Inv I cnt) (tl : (I.tab.all.length : Int) = I.c.g) (hk : I.ms[k]? = some old) (ha : old.a = 3) (hp : old.p < 0) (hv : I.ps[kp]? = some (-1)) (hkp : (kp : Int) < I.c.n) (many : Int) :
    Inv ⟨I.c, (I.tab.set old.g 2).2, I.sem, I.ms.modify k (fun x => { x with a := 2, p := (kp : Int), g := old.g }), I.ps.set kp (k : Int), many⟩ cnt := by
  obtain ⟨mi, mp⟩ := h.pp.mi k old hk
  have hg0 : 0 ≤ old.g := mi.ga.2 (by omega)
  have hg : 0 ≤ old.g ∧ old.g < I.c.g := ⟨hg0, mi.g.2⟩
  have hst := stat_calls h hk ha hg
  have mn : MI I.c { old with a := 2, p := (kp : Int), g := old.g } := ⟨by simp, by simp only; omega, by have := mi.g; simp only; omega, by simp; omega, by simp, by simp, by simp⟩
  refine h.setTurn tl hk rfl (h.pp.has (f := fun x => { x with a := 2, p := (kp : Int), g := old.g }) hk hv rfl mn (.inr hp) (.inr (by omega))) hg ?_ ?_ ?_ ?_ ?_ ?_ ?_ many
  · rw [hst]; rfl
  · omega
  · rw [hst]; simp [rW, ha]
  · rw [hst]; simp [cW, ha]
  · omega
  · intro x hx; simp [rW, cW, ha]; omega
  · simp
end
end Go.Proofs.Ytlhnmbajbhaaoaa
