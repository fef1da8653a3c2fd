/- What a system keeps: at first; tallies. No condition. -/
import Derived.Test.YtlhnmbajbhaaoaaIdInv4
namespace Go.Proofs.Ytlhnmbajbhaaoaa
open Go Go.SL
set_option linter.unusedSimpArgs false
set_option linter.unusedVariables false
set_option maxHeartbeats 2000000
theorem new_row (m : Nat) (h : 1 ≤ m) : ∃ rest, (Tab.new m).row = 0 :: rest ∧ (∀ x ∈ rest, x ≠ 0) ∧ rest.Nodup := by
  have hn : ((List.range m).map fun (i : Nat) => (i : Int)).Nodup := by
    exact List.pairwise_map.2 (List.Pairwise.imp (fun {a b} (h : a ≠ b) => fun e => h (by omega)) List.nodup_range)
  obtain ⟨k, rfl⟩ : ∃ k, m = k + 1 := ⟨m - 1, by omega⟩
  have e : (Tab.new (k + 1)).row = 0 :: ((List.range k).map Nat.succ).map fun (i : Nat) => (i : Int) := by
    show (List.range (k + 1)).map (fun (i : Nat) => (i : Int)) = _
    rw [List.range_succ_eq_map]
    rfl
  refine ⟨_, e, ?_, ?_⟩
  · intro x hx
    simp only [List.mem_map] at hx
    obtain ⟨a, ⟨b, _, rfl⟩, rfl⟩ := hx
    omega
  · have hn' : (Tab.new (k + 1)).row.Nodup := hn
    rw [e] at hn'
    exact (List.nodup_cons.1 hn').2
theorem inv_new {c : Cfg} (hc : RightP c) : Inv (newI c) [c.s, c.s, c.s, c.s] := by
  have ok := new_ok hc
  obtain ⟨r, c1, c2, c3, c4, c5, c6, c7, c8, c9, c10⟩ := hc
  obtain ⟨rest, hr, hne, hnd⟩ := new_row c.g.toNat (by omega)
  have hst0 : ∀ y : Int, (⟨c, Tab.new c.g.toNat, newS 4 c.s, List.replicate c.m.toNat restM, List.replicate c.n.toNat (-1), 0⟩ : Ide).stat y = 0 := by
    intro y
    unfold Ide.stat
    split
    · show ((List.replicate c.g.toNat ((0 : Int), (0 : Int)))[y.toNat]?.getD (0, 0)).1 = 0
      rw [List.getElem?_replicate]
      split <;> rfl
    · rfl
  have hgl : 0 ≤ (0 : Int) ∧ (0 : Int) < (Tab.new c.g.toNat).all.length := by
    show 0 ≤ (0 : Int) ∧ (0 : Int) < ((List.replicate c.g.toNat ((0 : Int), (0 : Int))).length : Int)
    rw [List.length_replicate]; omega
  have hst : ∀ y : Int, (newI0 c).stat y = if y = 0 then 1 else 0 := by
    intro y
    have := stat_make (I := ⟨c, Tab.new c.g.toNat, newS 4 c.s, List.replicate c.m.toNat restM, List.replicate c.n.toNat (-1), 0⟩) hr hgl y
    rw [hst0] at this
    exact this
  have hm0 : (newI0 c).ms[0]? = some restM := by
    show (List.replicate c.m.toNat restM)[0]? = some restM
    rw [List.getElem?_replicate, if_pos (by omega)]
  have hp0 : (newI0 c).ps[0]? = some (-1) := by
    show (List.replicate c.n.toNat (-1 : Int))[0]? = some (-1)
    rw [List.getElem?_replicate, if_pos (by omega)]
  have mr : MI c restM := ⟨by simp [restM], by simp [restM]; omega, by simp [restM]; omega, by simp [restM], by simp [restM], by simp [restM], by simp [restM]⟩
  have h0 : Inv (newI0 c) [c.s, c.s, c.s, c.s] := by
    refine ⟨⟨fun k m hm => ?_, fun p v hp => ?_⟩, fun g g0 g1 => ?_, ?_, ?_, ?_, rfl, ?_⟩
    · have := List.eq_of_mem_replicate (List.mem_of_getElem? hm)
      subst this
      exact ⟨mr, fun h => by simp [restM] at h⟩
    · have := List.eq_of_mem_replicate (List.mem_of_getElem? hp)
      exact .inl this
    · rw [hst]
      refine ⟨?_, ?_, ?_⟩
      · show (List.replicate c.m.toNat restM).countP _ = _
        rw [List.countP_replicate]
        simp [restM]
        split <;> simp
      · show (List.replicate c.m.toNat restM).countP _ = _
        rw [List.countP_replicate]
        simp [restM]
        split <;> simp
      · show nWaits (newS 4 c.s) g = _
        simp [nWaits, newS, List.replicate]
        split <;> simp
    · intro g hg
      have hg' : g ∈ rest := by rw [← row_make (I := ⟨c, Tab.new c.g.toNat, newS 4 c.s, List.replicate c.m.toNat restM, List.replicate c.n.toNat (-1), 0⟩) hr]; exact hg
      rw [hst, if_neg (hne g hg')]
    · show ((Tab.new c.g.toNat).make.2.2).row.Nodup
      rw [row_make (I := ⟨c, Tab.new c.g.toNat, newS 4 c.s, List.replicate c.m.toNat restM, List.replicate c.n.toNat (-1), 0⟩) hr]
      exact hnd
    · intro s l x hs
      have hs4 : s < 4 := by
        have := (List.getElem?_eq_some_iff.1 hs).1
        simpa [newI0, newS] using this
      have he := List.eq_of_mem_replicate (List.mem_of_getElem? hs)
      cases he
      refine ⟨?_, by simp, by simp, by omega, by omega⟩
      match s, hs4 with
      | 0, _ => rfl
      | 1, _ => rfl
      | 2, _ => rfl
      | 3, _ => rfl
    · show (((List.replicate c.m.toNat restM).countP fun m => decide (m.a = 3) : Nat) : Int) ≤ c.m - c.n
      rw [List.countP_replicate]
      simp [restM]
      omega
  have mn : MI c { restM with a := 1, p := ((0 : Nat) : Int), g := -1 } := ⟨by simp, by simp only; omega, by simp only; omega, by simp, by simp, by simp, by simp [restM]⟩
  have := h0.place (k := 0) (f := fun x => { x with a := 1, p := ((0 : Nat) : Int), g := -1 }) hm0 (h0.pp.has (kp := 0) (k := 0) (f := fun x => { x with a := 1, p := ((0 : Nat) : Int), g := -1 }) hm0 hp0 rfl mn (.inr (by simp [restM])) (.inr (by omega))) (fun y hy => by simp [rW, cW, restM]) (by simp [restM]) 0
  exact this
/-! Tallies. -/
def tal {α : Type} (q : α → Nat → Bool) (N : Nat) (l : List α) : List Int := (List.range N).map fun i => (l.countP (fun x => q x i) : Int)
section
variable {α : Type} {q : α → Nat → Bool} {N : Nat} {l : List α} {x : α} {i : Nat}
theorem tal_len : (tal q N l).length = N := by simp [tal]
theorem tal_get (h : i < N) : (tal q N l)[i]? = some (l.countP (fun x => q x i) : Int) := by
  simp [tal, h]
theorem tal_nil : tal q N [] = List.replicate N 0 := by
  apply List.ext_getElem?
  intro i
  by_cases h : i < N
  · rw [tal_get h, List.getElem?_replicate, if_pos h]; rfl
  · rw [List.getElem?_eq_none (by rw [tal_len]; omega), List.getElem?_eq_none (by simp; omega)]
theorem tal_key (hi : i < N) (hq : ∀ j, j < N → q x j = decide (j = i)) : (tal q N l).set i ((l.countP (fun x => q x i) : Int) + 1) = tal q N (l ++ [x]) := by
  apply List.ext_getElem?
  intro j
  by_cases h : j < N
  · rw [tal_get h]
    by_cases e : j = i
    · subst e
      rw [List.getElem?_set_self (by rw [tal_len]; exact hi), List.countP_append]
      simp [List.countP_cons, hq j hi]
    · rw [List.getElem?_set_ne (fun h => e h.symm), tal_get h, List.countP_append]
      simp [List.countP_cons, hq j h, e]
  · rw [List.getElem?_eq_none (by rw [List.length_set, tal_len]; omega), List.getElem?_eq_none (by rw [tal_len]; omega)]
theorem tal_none (hq : ∀ j, j < N → q x j = false) : tal q N (l ++ [x]) = tal q N l := by
  apply List.ext_getElem?
  intro j
  by_cases h : j < N
  · rw [tal_get h, tal_get h, List.countP_append]
    simp [List.countP_cons, hq j h]
  · rw [List.getElem?_eq_none (by rw [tal_len]; omega), List.getElem?_eq_none (by rw [tal_len]; omega)]
end
def qR (m : Mc) (i : Nat) : Bool := decide (m.a = 2) && decide (m.g = (i : Int))
def qC (m : Mc) (i : Nat) : Bool := decide (m.a = 3) && decide (m.g = (i : Int))
def qP (m : Mc) (i : Nat) : Bool := decide (m.p = (i : Int))
def qW (x : Int) (i : Nat) : Bool := decide (x = (i : Int))
/-- All that wait. -/
def allW (S : SemS) : List Int := (S.map (·.1)).flatten
theorem allW_count (S : SemS) (g : Nat) : (allW S).countP (fun x => qW x g) = nWaits S (g : Int) := by
  unfold allW nWaits
  rw [List.countP_flatten, List.map_map]
  congr 1
theorem countP_one {α : Type} {P : α → Bool} : ∀ {l : List α} {k : Nat} {x : α}, l[k]? = some x → P x = true → (∀ (j : Nat) (y : α), l[j]? = some y → j ≠ k → P y = false) → l.countP P = 1
  | [], k, x, h, _, _ => by simp at h
  | y :: l, 0, x, h, hp, hn => by
    simp only [List.getElem?_cons_zero, Option.some.injEq] at h
    subst h
    rw [List.countP_cons, if_pos hp, List.countP_eq_zero.2]
    intro z hz
    obtain ⟨j, hj, rfl⟩ := List.getElem_of_mem hz
    have := hn (j + 1) l[j] (by rw [List.getElem?_cons_succ]; exact List.getElem?_eq_getElem hj) (by omega)
    rw [this]; simp
  | y :: l, k + 1, x, h, hp, hn => by
    simp only [List.getElem?_cons_succ] at h
    have hy := hn 0 y rfl (by omega)
    rw [List.countP_cons, hy]
    simpa using countP_one h hp fun j z hj hne => hn (j + 1) z (by rw [List.getElem?_cons_succ]; exact hj) (by omega)
/-- How many Ms have a P. -/
theorem PP.count {c : Cfg} {ms : List Mc} {ps : List Int} (h : PP c ms ps) {p : Nat} {v : Int} (hv : ps[p]? = some v) : (ms.countP (fun m => qP m p) = 0 ∧ (v = -1 ∨ v = -2)) ∨ (ms.countP (fun m => qP m p) = 1 ∧ 0 ≤ v) := by
  rcases h.pi p v hv with e | e | ⟨h0, m, hm, he⟩
  · refine .inl ⟨?_, .inl e⟩
    rw [List.countP_eq_zero]
    intro m hm hq
    obtain ⟨j, hj, rfl⟩ := List.getElem_of_mem hm
    have e1 : (ms[j]).p = (p : Int) := of_decide_eq_true hq
    have := (h.mi j _ (List.getElem?_eq_getElem hj)).2 (by omega)
    rw [e1, Int.toNat_natCast, hv] at this
    cases this
    omega
  · refine .inl ⟨?_, .inr e⟩
    rw [List.countP_eq_zero]
    intro m hm hq
    obtain ⟨j, hj, rfl⟩ := List.getElem_of_mem hm
    have e1 : (ms[j]).p = (p : Int) := of_decide_eq_true hq
    have := (h.mi j _ (List.getElem?_eq_getElem hj)).2 (by omega)
    rw [e1, Int.toNat_natCast, hv] at this
    cases this
    omega
  · refine .inr ⟨countP_one hm (decide_eq_true he) fun j y hj hne => ?_, h0⟩
    refine decide_eq_false fun e1 => ?_
    have := (h.mi j y hj).2 (by omega)
    rw [e1, Int.toNat_natCast, hv] at this
    cases this
    omega
end Go.Proofs.Ytlhnmbajbhaaoaa
