/- What a system keeps: whatever note is taken. No condition. -/
import Derived.Test.YtlhnmbajbhaaoaaIdInv3
namespace Go.Proofs.Ytlhnmbajbhaaoaa
open Go Go.SL
set_option linter.unusedSimpArgs false
set_option linter.unusedVariables false
set_option maxHeartbeats 4000000
section
variable {I : Ide} {K : Int} {n : Nt} {cnt : List Int} {m p a g s v : Int} {k kp : Nat} {old : Mc}
theorem first_none {S : SemS} {s : Int} (h : (decide (rowS S s = [])) = true) : rowS S s = [] := of_decide_eq_true h
/-- A semaphore, by its number. -/
theorem sGet (hs : I.sem.length = 4) (h : 0 ≤ s ∧ s < 4) : ∃ (j : Nat) (l : List Int) (c : Int), s = (j : Int) ∧ j < 4 ∧ I.sem[j]? = some (l, c) ∧ rowS I.sem s = l ∧ I.count s = c := by
  have hj : s.toNat < I.sem.length := by omega
  refine ⟨s.toNat, I.sem[s.toNat].1, I.sem[s.toNat].2, by omega, by omega, List.getElem?_eq_getElem hj, ?_, ?_⟩
  · unfold rowS; rw [if_pos h.1, List.getElem?_eq_getElem hj]; rfl
  · unfold Ide.count; rw [if_pos h.1, List.getElem?_eq_getElem hj]; rfl
theorem se_mod {S : SemS} {G : Int} (hse : ∀ (s : Nat) (l : List Int) (c : Int), S[s]? = some (l, c) → cnt[s]? = some c ∧ (∀ x ∈ l, 0 ≤ x ∧ x < G) ∧ (0 < c → l = []) ∧ 0 ≤ c ∧ c ≤ 1073741824) {j : Nat} {l l' : List Int} {c c' : Int} (hj : S[j]? = some (l, c)) {f : List Int × Int → List Int × Int} (hf : f (l, c) = (l', c'))
    {gc : Int → Int} (hc : gc c = c') (hl : ∀ x ∈ l', 0 ≤ x ∧ x < G) (h0 : 0 < c' → l' = []) (hb : 0 ≤ c' ∧ c' ≤ 1073741824) :
    ∀ (s : Nat) (l : List Int) (c : Int), (S.modify j f)[s]? = some (l, c) → (cnt.modify j gc)[s]? = some c ∧ (∀ x ∈ l, 0 ≤ x ∧ x < G) ∧ (0 < c → l = []) ∧ 0 ≤ c ∧ c ≤ 1073741824 := by
  intro s l2 c2 h
  rcases mod_get h with ⟨rfl, x, hx, e⟩ | ⟨hne, hx⟩
  · rw [hj] at hx
    cases hx
    rw [hf] at e
    cases e
    refine ⟨?_, hl, h0, hb⟩
    rw [mod_at (hse _ _ _ hj).1, hc]
  · obtain ⟨h1, h2⟩ := hse s l2 c2 hx
    exact ⟨by rw [mod_ne hne]; exact h1, h2⟩
theorem inv_step (h : Inv I cnt) (ok : I.ok K) (hmay : mayB I n = true) : Inv (stepI I n) (cntS cnt n) := by
  obtain ⟨hk16, hr, hy⟩ := mayB_of hmay
  obtain ⟨rg, rp, rm, rx⟩ := right_of hr
  have hml := ok.ml
  have hpl := ok.pl
  have tl := ok.tl
  have sl := ok.sl
  obtain ⟨kind, g, p, m, x⟩ := n
  simp only at rg rp rm rx hk16
  have mG : 0 ≤ m ∧ m < I.c.m → ∃ (k : Nat) (old : Mc), m = (k : Int) ∧ I.ms[k]? = some old ∧ I.mAt m = old := fun h => mGet (by omega)
  have pG : 0 ≤ p ∧ p < I.c.n → ∃ (k : Nat) (v : Int), p = (k : Int) ∧ I.ps[k]? = some v ∧ I.pAt p = v := fun h => pGet (by omega)
  rcases kinds_or (n := ⟨kind, g, p, m, x⟩) hk16 with e | e | e | e | e | e | e | e | e | e | e | e | e | e | e | e <;> (simp only at e; subst e)
  · -- Born
    have hg := rg (by decide)
    have hy' : (decide ((I.mAt m).a = 2) && (decide ((I.mAt m).g = x) && decide (I.tab.row[0]? = some g))) = true := hy
    simp only [Bool.and_eq_true, decide_eq_true_eq] at hy'
    obtain ⟨_, _, hrow⟩ := hy'
    obtain ⟨rest, hrr⟩ : ∃ rest, I.tab.row = g :: rest := by
      cases hR : I.tab.row with
      | nil => rw [hR] at hrow; simp at hrow
      | cons y t => rw [hR] at hrow; simp at hrow; exact ⟨t, by rw [hrow]⟩
    have hgl : 0 ≤ g ∧ g < I.tab.all.length := by omega
    have hs0 : I.stat g = 0 := h.row g (by rw [hrr]; simp)
    have hnd := h.nd
    rw [hrr, List.nodup_cons] at hnd
    have hst : ∀ y : Int, (⟨I.c, I.tab.make.2.2, I.sem, I.ms, I.ps, I.many + 1⟩ : Ide).stat y = if y = g then 1 else I.stat y := fun y => stat_make hrr hgl y
    show Inv ⟨I.c, I.tab.make.2.2, I.sem, I.ms, I.ps, I.many + 1⟩ cnt
    refine ⟨h.pp, fun y h0 h1 => ?_, ?_, ?_, h.se, h.cl, h.ca⟩
    · obtain ⟨d1, d2, d3⟩ := h.st y h0 h1
      rw [hst]
      by_cases hyg : y = g
      · subst hyg
        rw [hs0] at d1 d2 d3
        rw [if_pos rfl]
        simp at d1 d2 d3 ⊢
        exact ⟨d1, d2, d3⟩
      · rw [if_neg hyg]; exact ⟨d1, d2, d3⟩
    · intro y hy
      have hy2 : y ∈ rest := by rw [← row_make hrr]; exact hy
      rw [hst, if_neg (fun e : y = g => hnd.1 (e ▸ hy2))]
      exact h.row y (by rw [hrr]; exact List.mem_cons_of_mem _ hy2)
    · show I.tab.make.2.2.row.Nodup
      rw [row_make hrr]; exact hnd.2
  · -- Dispatch
    have hg := rg (by decide)
    obtain ⟨k, old, rfl, hk, hA⟩ := mG (rm (by decide))
    obtain ⟨kp, v, rfl, hv, hB⟩ := pG (rp (by decide))
    have hy' : (searchesB I ⟨2, g, kp, k, x⟩ && decide (I.stat g = 1)) = true := hy
    simp only [searchesB, hA, Bool.and_eq_true, decide_eq_true_eq] at hy'
    obtain ⟨⟨a1, a2, a3⟩, hst⟩ := hy'
    obtain ⟨mi, mp⟩ := h.pp.mi k old hk
    have hv2 : I.ps[kp]? = some (k : Int) := by have := mp (by omega); rwa [a2, Int.toNat_natCast] at this
    have mn : MI I.c { old with a := 2, p := (kp : Int), g := g } := ⟨by simp, by have := mi.p; simp only; omega, by simp only; omega, by simp; omega, by simp, by simp, by simp⟩
    show Inv ⟨I.c, (I.tab.set g 2).2, I.sem, I.ms.modify (k : Int).toNat (fun x => { x with a := 2, p := (kp : Int), g := g }), if 0 ≤ (kp : Int) then I.ps.set (kp : Int).toNat (k : Int) else I.ps, I.many + 1⟩ cnt
    rw [if_pos (by omega), Int.toNat_natCast, Int.toNat_natCast]
    refine h.setTurn tl hk rfl (h.pp.has (f := fun x => { x with a := 2, p := (kp : Int), g := g }) hk hv2 rfl mn (.inl a2) (.inl rfl)) hg ?_ ?_ ?_ ?_ ?_ ?_ ?_ _
    · rw [hst]; rfl
    · omega
    · rw [hst]; simp [rW, a1]
    · rw [hst]; simp [cW, a1]
    · omega
    · intro y hy; simp [rW, cW, a1]; omega
    · simp
  · -- Yield
    obtain ⟨k, old, rfl, hk, hA⟩ := mG (rm (by decide))
    obtain ⟨kp, v, rfl, hv, hB⟩ := pG (rp (by decide))
    have hy' : runsB I ⟨3, g, kp, k, x⟩ = true := hy
    simp only [runsB, hA, decide_eq_true_eq] at hy'
    obtain ⟨a1, a2, a3⟩ := hy'
    subst a3
    show Inv ⟨I.c, (I.tab.set old.g 1).2, I.sem, I.ms.modify (k : Int).toNat (fun x => { x with a := 1, p := (kp : Int), g := -1 }), if 0 ≤ (kp : Int) then I.ps.set (kp : Int).toNat (k : Int) else I.ps, I.many + 1⟩ cnt
    rw [if_pos (by omega), Int.toNat_natCast, Int.toNat_natCast]
    exact h.searches tl hk a1 a2 (.inr rfl) _
  · -- Preempt
    obtain ⟨k, old, rfl, hk, hA⟩ := mG (rm (by decide))
    obtain ⟨kp, v, rfl, hv, hB⟩ := pG (rp (by decide))
    have hy' : runsB I ⟨4, g, kp, k, x⟩ = true := hy
    simp only [runsB, hA, decide_eq_true_eq] at hy'
    obtain ⟨a1, a2, a3⟩ := hy'
    subst a3
    show Inv ⟨I.c, (I.tab.set old.g 1).2, I.sem, I.ms.modify (k : Int).toNat (fun x => { x with a := 1, p := (kp : Int), g := -1 }), if 0 ≤ (kp : Int) then I.ps.set (kp : Int).toNat (k : Int) else I.ps, I.many + 1⟩ cnt
    rw [if_pos (by omega), Int.toNat_natCast, Int.toNat_natCast]
    exact h.searches tl hk a1 a2 (.inr rfl) _
  · -- Took
    obtain ⟨k, old, rfl, hk, hA⟩ := mG (rm (by decide))
    have hy' : (runsB I ⟨5, g, p, k, x⟩ && decide (0 < I.count x)) = true := hy
    simp only [runsB, hA, Bool.and_eq_true, decide_eq_true_eq] at hy'
    obtain ⟨⟨a1, a2, a3⟩, hc⟩ := hy'
    obtain ⟨j, l, c, rfl, hj4, hj, _, hcc⟩ := sGet sl (rx (by decide))
    rw [hcc] at hc
    have hg := rg (by decide)
    subst a3
    have hst := stat_runs h hk a1 hg
    have hnw := (h.st old.g hg.1 hg.2).2.2
    rw [hst, if_neg (by omega)] at hnw
    have hac : (acqS I.sem (j : Int) old.g).1 = I.sem.modify j fun r => (r.1, c - 1) := by
      unfold acqS
      rw [if_neg (by omega), nWaits_zero hnw]
      simp only [Option.isSome_none, Bool.false_eq_true, if_false, Int.toNat_natCast, hj, if_pos hc, countS]
    obtain ⟨s1, s2, s3, s4, s5⟩ := h.se j l c hj
    show Inv ⟨I.c, I.tab, (acqS I.sem (j : Int) old.g).1, I.ms, I.ps, I.many + 1⟩ (cnt.modify (j : Int).toNat (· - 1))
    rw [hac, Int.toNat_natCast]
    refine ⟨h.pp, fun y h0 h1 => ?_, h.row, h.nd, ?_, by rw [List.length_modify]; exact h.cl, h.ca⟩
    · obtain ⟨d1, d2, d3⟩ := h.st y h0 h1
      have e := nWaits_mod (fun r => (r.1, c - 1)) hj y
      refine ⟨d1, d2, ?_⟩
      show nWaits (I.sem.modify j fun r => (r.1, c - 1)) y = (if I.stat y = 3 then 1 else 0)
      simp only at e
      omega
    · exact se_mod h.se hj (f := fun r => (r.1, c - 1)) rfl rfl s2 (fun _ => s3 hc) (by omega)
  · -- Wait
    obtain ⟨k, old, rfl, hk, hA⟩ := mG (rm (by decide))
    obtain ⟨kp, v, rfl, hv, hB⟩ := pG (rp (by decide))
    have hy' : (runsB I ⟨6, g, kp, k, x⟩ && decide (I.count x = 0)) = true := hy
    simp only [runsB, hA, Bool.and_eq_true, decide_eq_true_eq] at hy'
    obtain ⟨⟨a1, a2, a3⟩, hc⟩ := hy'
    obtain ⟨j, l, c, rfl, hj4, hj, _, hcc⟩ := sGet sl (rx (by decide))
    rw [hcc] at hc
    have hg := rg (by decide)
    subst a3
    have hst := stat_runs h hk a1 hg
    have hnw := (h.st old.g hg.1 hg.2).2.2
    rw [hst, if_neg (by omega)] at hnw
    have hac : (acqS I.sem (j : Int) old.g).1 = I.sem.modify j fun r => (r.1 ++ [old.g], r.2) := by
      unfold acqS
      rw [if_neg (by omega), nWaits_zero hnw]
      simp only [Option.isSome_none, Bool.false_eq_true, if_false, Int.toNat_natCast, hj, if_neg (show ¬ 0 < c by omega), pushS]
    obtain ⟨s1, s2, s3, s4, s5⟩ := h.se j l c hj
    obtain ⟨mi, mp⟩ := h.pp.mi k old hk
    have hv2 : I.ps[kp]? = some (k : Int) := by have := mp (by omega); rwa [a2, Int.toNat_natCast] at this
    have mn : MI I.c { old with a := 1, p := (kp : Int), g := -1 } := ⟨by simp, by have := mi.p; simp only; omega, by have := mi.g; simp only; omega, by simp, by simp, by simp, by simp⟩
    have hgl : 0 ≤ old.g ∧ old.g < I.tab.all.length := by omega
    have hmy : may (I.stat old.g) 3 = true := by rw [hst]; rfl
    have hrw := row_turn h hgl hmy (by omega)
    show Inv ⟨I.c, (I.tab.set old.g 3).2, (acqS I.sem (j : Int) old.g).1, I.ms.modify (k : Int).toNat (fun x => { x with a := 1, p := (kp : Int), g := -1 }), if 0 ≤ (kp : Int) then I.ps.set (kp : Int).toNat (k : Int) else I.ps, I.many + 1⟩ cnt
    rw [hac, if_pos (by omega), Int.toNat_natCast, Int.toNat_natCast]
    have hs' : ∀ y : Int, (⟨I.c, (I.tab.set old.g 3).2, I.sem.modify j fun r => (r.1 ++ [old.g], r.2), I.ms.modify k (fun x => { x with a := 1, p := (kp : Int), g := -1 }), I.ps.set kp (k : Int), I.many + 1⟩ : Ide).stat y = if y = old.g then 3 else I.stat y := fun y => stat_tset hgl hmy y
    refine ⟨h.pp.has (f := fun x => { x with a := 1, p := (kp : Int), g := -1 }) hk hv2 rfl mn (.inl a2) (.inl rfl), fun y h0 h1 => ?_, hrw.1, hrw.2, ?_, h.cl, ?_⟩
    · obtain ⟨d1, d2, d3⟩ := h.st y h0 h1
      have e1 := nRuns_mod (fun x => { x with a := 1, p := (kp : Int), g := -1 }) hk y
      have e2 := nCalls_mod (fun x => { x with a := 1, p := (kp : Int), g := -1 }) hk y
      have e3 := nWaits_mod (fun r => (r.1 ++ [old.g], r.2)) hj y
      rw [hs']
      simp only [List.count_append, List.count_singleton, beq_iff_eq] at e3
      refine ⟨?_, ?_, ?_⟩
      · show nRuns (I.ms.modify k _) y = _
        by_cases hyg : y = old.g
        · subst hyg
          rw [hst] at d1
          simp [rW, a1] at e1 d1 ⊢
          omega
        · rw [if_neg hyg]
          simp [rW, a1, Ne.symm hyg] at e1
          omega
      · show nCalls (I.ms.modify k _) y = _
        by_cases hyg : y = old.g
        · subst hyg
          rw [hst] at d2
          simp [cW, a1] at e2 d2 ⊢
          omega
        · rw [if_neg hyg]
          simp [cW, a1] at e2
          omega
      · show nWaits (I.sem.modify j _) y = _
        by_cases hyg : y = old.g
        · subst hyg
          simp at e3 ⊢
          omega
        · rw [if_neg hyg]
          rw [if_neg (fun e => hyg e.symm)] at e3
          omega
    · have := se_mod (gc := id) h.se hj (f := fun r => (r.1 ++ [old.g], r.2)) (l' := l ++ [old.g]) (c' := c) rfl rfl (by
        intro y hy
        rcases List.mem_append.1 hy with e | e
        · exact s2 y e
        · rw [List.mem_singleton.1 e]; exact hg) (fun e => by omega) ⟨s4, s5⟩
      intro s l2 c2 e
      have := this s l2 c2 e
      refine ⟨?_, this.2⟩
      have h1 := this.1
      rw [List.getElem?_modify] at h1
      cases hcs : cnt[s]? with
      | none => rw [hcs] at h1; simp at h1
      | some w => rw [hcs] at h1; simpa using h1
    · have e := callers_mod (fun x => { x with a := 1, p := (kp : Int), g := -1 }) hk
      have hca0 := h.ca
      show (((I.ms.modify k _).countP fun m => decide (m.a = 3) : Nat) : Int) ≤ I.c.m - I.c.n
      unfold Ide.callers at hca0
      simp [a1] at e
      omega
  · -- Gave
    have hy' : (runsB I ⟨7, g, p, m, x⟩ && (I.first x (-1) && decide (I.count x < 1073741824))) = true := hy
    simp only [Bool.and_eq_true, decide_eq_true_eq] at hy'
    obtain ⟨_, hfi, hc⟩ := hy'
    obtain ⟨j, l, c, rfl, hj4, hj, hro, hcc⟩ := sGet sl (rx (by decide))
    rw [hcc] at hc
    have hl0 : l = [] := by
      unfold Ide.first at hfi
      rw [if_pos (by omega), hro] at hfi
      exact of_decide_eq_true hfi
    subst hl0
    obtain ⟨s1, s2, s3, s4, s5⟩ := h.se j [] c hj
    have hac : (relS I.sem (j : Int)).1 = I.sem.modify j fun r => (r.1, c + 1) := by
      unfold relS
      rw [if_neg (by omega)]
      simp only [Int.toNat_natCast, hj, if_neg (show ¬ c = 1073741824 by omega), countS]
    show Inv ⟨I.c, I.tab, (relS I.sem (j : Int)).1, I.ms, I.ps, I.many + 1⟩ (cnt.modify (j : Int).toNat (· + 1))
    rw [hac, Int.toNat_natCast]
    refine ⟨h.pp, fun y h0 h1 => ?_, h.row, h.nd, ?_, by rw [List.length_modify]; exact h.cl, h.ca⟩
    · obtain ⟨d1, d2, d3⟩ := h.st y h0 h1
      have e := nWaits_mod (fun r => (r.1, c + 1)) hj y
      refine ⟨d1, d2, ?_⟩
      show nWaits (I.sem.modify j fun r => (r.1, c + 1)) y = (if I.stat y = 3 then 1 else 0)
      simp only at e
      omega
    · exact se_mod h.se hj (f := fun r => (r.1, c + 1)) rfl rfl s2 (fun _ => rfl) (by omega)
  · -- Ready
    have hg := rg (by decide)
    have hy' : (decide ((I.mAt m).a = 2) && I.first x g) = true := hy
    simp only [Bool.and_eq_true, decide_eq_true_eq] at hy'
    obtain ⟨_, hfi⟩ := hy'
    obtain ⟨j, l, c, rfl, hj4, hj, hro, hcc⟩ := sGet sl (rx (by decide))
    obtain ⟨t, rfl⟩ : ∃ t, l = g :: t := by
      unfold Ide.first at hfi
      rw [if_neg (by omega), hro] at hfi
      have := of_decide_eq_true hfi
      cases l with
      | nil => simp at this
      | cons y t => simp at this; exact ⟨t, by rw [this]⟩
    obtain ⟨s1, s2, s3, s4, s5⟩ := h.se j _ c hj
    have hnw := nWaits_at hj (show g ∈ (g :: t, c).1 by simp)
    obtain ⟨d1, d2, d3⟩ := h.st g hg.1 hg.2
    have hst : I.stat g = 3 := by
      by_cases e : I.stat g = 3
      · exact e
      · rw [if_neg e] at d3; omega
    have hac : (relS I.sem (j : Int)).1 = I.sem.modify j fun r => (t, c) := by
      unfold relS
      rw [if_neg (by omega)]
      simp only [Int.toNat_natCast, hj]
      rw [modify_at hj]
    have hgl : 0 ≤ g ∧ g < I.tab.all.length := by omega
    have hmy : may (I.stat g) 1 = true := by rw [hst]; rfl
    have hrw := row_turn h hgl hmy (by omega)
    show Inv ⟨I.c, (I.tab.set g 1).2, (relS I.sem (j : Int)).1, I.ms, I.ps, I.many + 1⟩ cnt
    rw [hac]
    have hs' : ∀ y : Int, (⟨I.c, (I.tab.set g 1).2, I.sem.modify j fun r => (t, c), I.ms, I.ps, I.many + 1⟩ : Ide).stat y = if y = g then 1 else I.stat y := fun y => stat_tset hgl hmy y
    refine ⟨h.pp, fun y h0 h1 => ?_, hrw.1, hrw.2, ?_, h.cl, h.ca⟩
    · obtain ⟨d1, d2, d3⟩ := h.st y h0 h1
      have e3 := nWaits_mod (fun _ => (t, c)) hj y
      simp only [List.count_cons, beq_iff_eq] at e3
      rw [hs']
      by_cases hyg : y = g
      · subst hyg
        rw [hst] at d1 d2 d3
        simp at d1 d2 d3 e3 ⊢
        refine ⟨d1, d2, ?_⟩
        omega
      · rw [if_neg hyg]
        rw [if_neg (fun e => hyg e.symm)] at e3
        refine ⟨d1, d2, ?_⟩
        show nWaits (I.sem.modify j fun _ => (t, c)) y = (if I.stat y = 3 then 1 else 0)
        omega
    · have := se_mod (gc := id) h.se hj (f := fun _ => (t, c)) (l' := t) (c' := c) rfl rfl (fun y hy => s2 y (List.mem_cons_of_mem _ hy)) (fun e => by have := s3 e; cases this) ⟨s4, s5⟩
      intro s l2 c2 e
      have := this s l2 c2 e
      refine ⟨?_, this.2⟩
      have h1 := this.1
      rw [List.getElem?_modify] at h1
      cases hcs : cnt[s]? with
      | none => rw [hcs] at h1; simp at h1
      | some w => rw [hcs] at h1; simpa using h1
  · -- Exit
    obtain ⟨k, old, rfl, hk, hA⟩ := mG (rm (by decide))
    obtain ⟨kp, v, rfl, hv, hB⟩ := pG (rp (by decide))
    have hy' : runsB I ⟨9, g, kp, k, x⟩ = true := hy
    simp only [runsB, hA, decide_eq_true_eq] at hy'
    obtain ⟨a1, a2, a3⟩ := hy'
    subst a3
    show Inv ⟨I.c, (I.tab.set old.g 0).2, I.sem, I.ms.modify (k : Int).toNat (fun x => { x with a := 1, p := (kp : Int), g := -1 }), if 0 ≤ (kp : Int) then I.ps.set (kp : Int).toNat (k : Int) else I.ps, I.many + 1⟩ cnt
    rw [if_pos (by omega), Int.toNat_natCast, Int.toNat_natCast]
    exact h.searches tl hk a1 a2 (.inl rfl) _
  · -- Call
    obtain ⟨k, old, rfl, hk, hA⟩ := mG (rm (by decide))
    obtain ⟨kp, v, rfl, hv, hB⟩ := pG (rp (by decide))
    have hy' : (runsB I ⟨10, g, kp, k, x⟩ && decide ((I.callers : Int) < I.c.m - I.c.n)) = true := hy
    simp only [runsB, hA, Bool.and_eq_true, decide_eq_true_eq] at hy'
    obtain ⟨⟨a1, a2, a3⟩, hca⟩ := hy'
    have hg := rg (by decide)
    subst a3
    have hst := stat_runs h hk a1 hg
    obtain ⟨mi, mp⟩ := h.pp.mi k old hk
    have hv2 : I.ps[kp]? = some (k : Int) := by have := mp (by omega); rwa [a2, Int.toNat_natCast] at this
    have mn : MI I.c { old with a := 3, p := (kp : Int), g := old.g, b := (kp : Int) } := ⟨by simp, by have := mi.p; simp only; omega, by simp only; omega, by simp; omega, by simp, by simp, by simp⟩
    have e2 : (I.ms.modify k (fun x => { x with a := 3, p := (kp : Int), g := old.g })).modify k (fun x => { x with b := (kp : Int) }) = I.ms.modify k (fun x => { x with a := 3, p := (kp : Int), g := old.g, b := (kp : Int) }) := by
      apply List.ext_getElem?
      intro j
      simp only [List.getElem?_modify]
      cases I.ms[j]? with
      | none => rfl
      | some y => simp only [Option.map_eq_map, Option.map_some]; split <;> rfl
    show Inv ⟨I.c, (I.tab.set old.g 4).2, I.sem, (I.ms.modify (k : Int).toNat (fun x => { x with a := 3, p := (kp : Int), g := old.g })).modify (k : Int).toNat (fun x => { x with b := (kp : Int) }), if 0 ≤ (kp : Int) then I.ps.set (kp : Int).toNat (k : Int) else I.ps, I.many + 1⟩ cnt
    rw [if_pos (by omega), Int.toNat_natCast, Int.toNat_natCast, e2]
    refine h.setTurn tl hk rfl (h.pp.has (f := fun x => { x with a := 3, p := (kp : Int), g := old.g, b := (kp : Int) }) hk hv2 rfl mn (.inl a2) (.inl rfl)) hg ?_ ?_ ?_ ?_ ?_ ?_ ?_ _
    · rw [hst]; rfl
    · omega
    · rw [hst]; simp [rW, a1]
    · rw [hst]; simp [cW, a1]
    · omega
    · intro y hy; simp [rW, cW, a1]; omega
    · intro _; exact .inr hca
  · -- Back
    obtain ⟨k, old, rfl, hk, hA⟩ := mG (rm (by decide))
    obtain ⟨kp, v, rfl, hv, hB⟩ := pG (rp (by decide))
    have hkp := (rp (by decide)).2
    by_cases hx : x = 1
    · subst hx
      have hy' : (callsB I ⟨11, g, kp, k, 1⟩ && (decide ((I.mAt k).b = kp) && I.kept kp)) = true := hy
      simp only [callsB, Ide.kept, hA, hB, Bool.and_eq_true, decide_eq_true_eq] at hy'
      obtain ⟨⟨a1, a3⟩, ab, v0, va⟩ := hy'
      subst a3
      rcases h.pp.pi kp v hv with e | e | ⟨_, mv, hmv, hmp⟩
      · omega
      · omega
      have hvA : I.mAt v = mv := by unfold Ide.mAt; rw [hmv]; rfl
      rw [hvA] at va
      obtain ⟨vi, vp⟩ := h.pp.mi _ mv hmv
      have vn : MI I.c { mv with p := -1 } := ⟨vi.a, by have := vi.p; simp only; omega, vi.g, vi.ga, by simp, by simp only; omega, by simp only; omega⟩
      have hI := h.place (ps := I.ps.set kp (-1)) (f := fun x => { x with p := -1 }) hmv (h.pp.clear hmv (by show (-1 : Int) < 0; omega) vn hmp (.inl rfl)) (fun y _ => ⟨rfl, rfl⟩) Iff.rfl I.many
      have hkl : kp < I.ps.length := (List.getElem?_eq_some_iff.1 hv).1
      obtain ⟨old2, hk2, ha2, hg2, hp2⟩ : ∃ old2, (I.ms.modify v.toNat fun x => { x with p := -1 })[k]? = some old2 ∧ old2.a = 3 ∧ old2.g = old.g ∧ old2.p < 0 := by
        by_cases e : k = v.toNat
        · subst e
          rw [hk] at hmv
          cases hmv
          exact ⟨_, mod_at hk, a1, rfl, by show (-1 : Int) < 0; omega⟩
        · refine ⟨old, by rw [mod_ne e]; exact hk, a1, rfl, ?_⟩
          obtain ⟨oi, op⟩ := h.pp.mi k old hk
          by_cases hp : old.p < 0
          · exact hp
          · have e1 := oi.began a1 (by omega)
            have e2 := op (by omega)
            rw [e1, ab, Int.toNat_natCast, hv] at e2
            cases e2
            exact absurd (Int.toNat_natCast k).symm e
      have := hI.back (kp := kp) (k := k) tl hk2 ha2 hp2 (List.getElem?_set_self hkl) hkp (I.many + 1)
      rw [hg2] at this
      show Inv ⟨I.c, (I.tab.set old.g 2).2, I.sem, (I.ms.modify (I.pAt (kp : Int)).toNat fun x => { x with p := -1 }).modify (k : Int).toNat (fun x => { x with a := 2, p := (kp : Int), g := old.g }), if 0 ≤ (kp : Int) then I.ps.set (kp : Int).toNat (k : Int) else I.ps, I.many + 1⟩ cnt
      rw [if_pos (by omega), Int.toNat_natCast, Int.toNat_natCast, hB]
      have e3 : (I.ps.set kp (-1)).set kp (k : Int) = I.ps.set kp (k : Int) := List.set_set ..
      rw [← e3]
      exact this
    · have hy' : (if x = 1 then callsB I ⟨11, g, kp, k, x⟩ && (decide ((I.mAt k).b = kp) && I.kept kp) else callsB I ⟨11, g, kp, k, x⟩ && (decide ((I.mAt k).p < 0) && decide (I.pAt kp = -1))) = true := hy
      rw [if_neg hx] at hy'
      simp only [callsB, hA, hB, Bool.and_eq_true, decide_eq_true_eq] at hy'
      obtain ⟨⟨a1, a3⟩, ap, rfl⟩ := hy'
      subst a3
      show Inv (stepI I ⟨11, old.g, kp, k, x⟩) cnt
      have e : stepI I ⟨11, old.g, kp, k, x⟩ = ⟨I.c, (I.tab.set old.g 2).2, I.sem, I.ms.modify k (fun x => { x with a := 2, p := (kp : Int), g := old.g }), I.ps.set kp (k : Int), I.many + 1⟩ := by
        show (⟨_, _, _, _, _, _⟩ : Ide) = _
        have e1 : doK I ⟨11, old.g, kp, k, x⟩ = (Ide.tset (if x = 1 then I.drops kp else I) old.g 2).has k kp 2 old.g := rfl
        rw [e1, if_neg hx]
        simp [Ide.has, Ide.tset]
      rw [e]
      exact h.back tl hk a1 ap hv hkp _
  · -- Lost
    obtain ⟨k, old, rfl, hk, hA⟩ := mG (rm (by decide))
    have hy' : (callsB I ⟨12, g, p, k, x⟩ && decide ((I.mAt k).p < 0)) = true := hy
    simp only [callsB, hA, Bool.and_eq_true, decide_eq_true_eq] at hy'
    obtain ⟨⟨a1, a3⟩, ap⟩ := hy'
    have hg := rg (by decide)
    subst a3
    have hst := stat_calls h hk a1 hg
    obtain ⟨mi, mp⟩ := h.pp.mi k old hk
    have hpm : old.p = -1 := by have := mi.p; omega
    have mn : MI I.c { old with a := 0, p := -1, g := -1 } := ⟨by simp, by have := mi.p; simp only; omega, by have := mi.g; simp only; omega, by simp, by simp, by simp, by simp⟩
    show Inv ⟨I.c, (I.tab.set old.g 1).2, I.sem, I.ms.modify (k : Int).toNat (fun x => { x with a := 0, p := -1, g := -1 }), I.ps, I.many + 1⟩ cnt
    rw [Int.toNat_natCast]
    refine h.setTurn tl hk rfl (h.pp.turn (f := fun x => { x with a := 0, p := -1, g := -1 }) hk (by rw [hpm]) mn) hg ?_ ?_ ?_ ?_ ?_ ?_ ?_ _
    · rw [hst]; rfl
    · omega
    · rw [hst]; simp [rW, a1]
    · rw [hst]; simp [cW, a1]
    · omega
    · intro y hy; simp [rW, cW, a1]; omega
    · simp
  · -- Start
    obtain ⟨k, old, rfl, hk, hA⟩ := mG (rm (by decide))
    obtain ⟨kp, v, rfl, hv, hB⟩ := pG (rp (by decide))
    have hkp := (rp (by decide)).2
    have hx2 := rx (by decide)
    have hx3 : xK I.c 13 = 2 := rfl
    rw [hx3] at hx2
    have hy' : (decide ((I.mAt k).a = 0) && decide (I.pAt kp = x - 2)) = true := hy
    simp only [hA, hB, Bool.and_eq_true, decide_eq_true_eq] at hy'
    obtain ⟨a1, hvx⟩ := hy'
    obtain ⟨mi, mp⟩ := h.pp.mi k old hk
    have hpm := mi.rest a1
    have hgm : old.g < 0 := by have := mi.ga; omega
    have mn : MI I.c { old with a := 1, p := (kp : Int), g := -1 } := ⟨by simp, by simp only; omega, by have := mi.g; simp only; omega, by simp, by simp, by simp, by simp⟩
    show Inv ⟨I.c, I.tab, I.sem, I.ms.modify (k : Int).toNat (fun x => { x with a := 1, p := (kp : Int), g := -1 }), if 0 ≤ (kp : Int) then I.ps.set (kp : Int).toNat (k : Int) else I.ps, I.many + 1⟩ cnt
    rw [if_pos (by omega), Int.toNat_natCast, Int.toNat_natCast]
    exact h.place (f := fun x => { x with a := 1, p := (kp : Int), g := -1 }) hk (h.pp.has (f := fun x => { x with a := 1, p := (kp : Int), g := -1 }) hk hv rfl mn (.inr hpm) (.inr (by omega))) (fun y hy => by simp [rW, cW, a1]) (by simp [a1]) _
  · -- Park
    obtain ⟨k, old, rfl, hk, hA⟩ := mG (rm (by decide))
    obtain ⟨kp, v, rfl, hv, hB⟩ := pG (rp (by decide))
    have hy' : searchesB I ⟨14, g, kp, k, x⟩ = true := hy
    simp only [searchesB, hA, decide_eq_true_eq] at hy'
    obtain ⟨a1, a2, a3⟩ := hy'
    obtain ⟨mi, mp⟩ := h.pp.mi k old hk
    have mn : MI I.c { old with a := 0, p := -1, g := -1 } := ⟨by simp, by have := mi.p; simp only; omega, by have := mi.g; simp only; omega, by simp, by simp, by simp, by simp⟩
    show Inv ⟨I.c, I.tab, I.sem, I.ms.modify (k : Int).toNat (fun x => { x with a := 0, p := -1, g := -1 }), I.ps.set (kp : Int).toNat (-1), I.many + 1⟩ cnt
    rw [Int.toNat_natCast, Int.toNat_natCast]
    exact h.place (f := fun x => { x with a := 0, p := -1, g := -1 }) hk (h.pp.clear (f := fun x => { x with a := 0, p := -1, g := -1 }) hk (by show (-1 : Int) < 0; omega) mn a2 (.inl rfl)) (fun y hy => by simp [rW, cW, a1]) (by simp [a1]) _
  · -- Retake
    obtain ⟨kp, v, rfl, hv, hB⟩ := pG (rp (by decide))
    have hy' : I.kept kp = true := hy
    simp only [Ide.kept, hB, Bool.and_eq_true, decide_eq_true_eq] at hy'
    obtain ⟨v0, va⟩ := hy'
    rcases h.pp.pi kp v hv with e | e | ⟨_, mv, hmv, hmp⟩
    · omega
    · omega
    have hvA : I.mAt v = mv := by unfold Ide.mAt; rw [hmv]; rfl
    rw [hvA] at va
    obtain ⟨vi, vp⟩ := h.pp.mi _ mv hmv
    have vn : MI I.c { mv with p := -1 } := ⟨vi.a, by have := vi.p; simp only; omega, vi.g, vi.ga, by simp, by simp only; omega, by simp only; omega⟩
    show Inv ⟨I.c, I.tab, I.sem, I.ms.modify (I.pAt (kp : Int)).toNat (fun x => { x with p := -1 }), I.ps.set (kp : Int).toNat (-2), I.many + 1⟩ cnt
    rw [hB, Int.toNat_natCast]
    exact h.place (f := fun x => { x with p := -1 }) hmv (h.pp.clear hmv (by show (-1 : Int) < 0; omega) vn hmp (.inr rfl)) (fun y _ => ⟨rfl, rfl⟩) Iff.rfl _
  · -- Flag
    exact ⟨h.pp, h.st, h.row, h.nd, h.se, h.cl, h.ca⟩
end
end Go.Proofs.Ytlhnmbajbhaaoaa
