/- What a system keeps, in numbers: its parts. No condition. -/
import Derived.Test.YtlhnmbajbhaaoaaIdId11
namespace Go.Proofs.Ytlhnmbajbhaaoaa
open Go Go.SL
set_option linter.unusedSimpArgs false
set_option linter.unusedVariables false
set_option maxHeartbeats 1000000
/-! How many of a list are so; sums over a list. -/
theorem countP_mod {α : Type} {P : α → Bool} {f : α → α} : ∀ {l : List α} {k : Nat} {x : α}, l[k]? = some x → (l.modify k f).countP P + (if P x then 1 else 0) = l.countP P + (if P (f x) then 1 else 0)
  | [], k, x, h => by simp at h
  | y :: l, 0, x, h => by
    simp only [List.getElem?_cons_zero, Option.some.injEq] at h
    subst h
    simp only [List.modify_zero_cons, List.countP_cons]
    omega
  | y :: l, k + 1, x, h => by
    simp only [List.getElem?_cons_succ] at h
    have := countP_mod (P := P) (f := f) h
    simp only [List.modify_succ_cons, List.countP_cons]
    omega
theorem sum_mod {α : Type} {w : α → Nat} {f : α → α} : ∀ {l : List α} {k : Nat} {x : α}, l[k]? = some x → ((l.modify k f).map w).sum + w x = (l.map w).sum + w (f x)
  | [], k, x, h => by simp at h
  | y :: l, 0, x, h => by
    simp only [List.getElem?_cons_zero, Option.some.injEq] at h
    subst h
    simp only [List.modify_zero_cons, List.map_cons, List.sum_cons]
    omega
  | y :: l, k + 1, x, h => by
    simp only [List.getElem?_cons_succ] at h
    have := sum_mod (w := w) (f := f) h
    simp only [List.modify_succ_cons, List.map_cons, List.sum_cons]
    omega
theorem countP_at {α : Type} {P : α → Bool} : ∀ {l : List α} {k : Nat} {x : α}, l[k]? = some x → P x = true → 1 ≤ l.countP P := by
  intro l k x h hp
  exact List.countP_pos_iff.2 ⟨x, List.mem_of_getElem? h, hp⟩
/-- How many Ms run a goroutine; call with it; how often it waits. -/
def nRuns (ms : List Mc) (g : Int) : Nat := ms.countP fun m => decide (m.a = 2) && decide (m.g = g)
def nCalls (ms : List Mc) (g : Int) : Nat := ms.countP fun m => decide (m.a = 3) && decide (m.g = g)
def nWaits (S : SemS) (g : Int) : Nat := (S.map fun r => r.1.count g).sum
def rW (m : Mc) (g : Int) : Nat := if m.a = 2 ∧ m.g = g then 1 else 0
def cW (m : Mc) (g : Int) : Nat := if m.a = 3 ∧ m.g = g then 1 else 0
theorem nRuns_mod {ms : List Mc} {k : Nat} {m : Mc} (f : Mc → Mc) (h : ms[k]? = some m) (g : Int) : nRuns (ms.modify k f) g + rW m g = nRuns ms g + rW (f m) g := by
  have := countP_mod (P := fun m : Mc => decide (m.a = 2) && decide (m.g = g)) (f := f) h
  simp only [Bool.and_eq_true, decide_eq_true_eq] at this
  exact this
theorem nCalls_mod {ms : List Mc} {k : Nat} {m : Mc} (f : Mc → Mc) (h : ms[k]? = some m) (g : Int) : nCalls (ms.modify k f) g + cW m g = nCalls ms g + cW (f m) g := by
  have := countP_mod (P := fun m : Mc => decide (m.a = 3) && decide (m.g = g)) (f := f) h
  simp only [Bool.and_eq_true, decide_eq_true_eq] at this
  exact this
theorem nRuns_at {ms : List Mc} {k : Nat} {m : Mc} (h : ms[k]? = some m) (ha : m.a = 2) : 1 ≤ nRuns ms m.g := countP_at h (by simp [ha])
theorem nCalls_at {ms : List Mc} {k : Nat} {m : Mc} (h : ms[k]? = some m) (ha : m.a = 3) : 1 ≤ nCalls ms m.g := countP_at h (by simp [ha])
theorem nWaits_mod {S : SemS} {k : Nat} {r : List Int × Int} (f : List Int × Int → List Int × Int) (h : S[k]? = some r) (g : Int) : nWaits (S.modify k f) g + r.1.count g = nWaits S g + (f r).1.count g := sum_mod (w := fun r : List Int × Int => r.1.count g) (f := f) h
theorem nWaits_at {S : SemS} {k : Nat} {r : List Int × Int} (h : S[k]? = some r) {g : Int} (hg : g ∈ r.1) : 1 ≤ nWaits S g := by
  have h0 := nWaits_mod (fun _ => ([], 0)) h g
  have h1 := List.count_pos_iff.2 hg
  simp only [List.count_nil] at h0
  omega
theorem nWaits_zero {S : SemS} {g : Int} (h : nWaits S g = 0) : whereOf S g = none := by
  rw [where_none]
  rintro i ⟨l, c, hi, hg⟩
  have := nWaits_at hi hg
  omega
/-! The table's statuses. -/
theorem stat_tset {I : Ide} {g s : Int} (h0 : 0 ≤ g ∧ g < I.tab.all.length) (hm : may (I.stat g) s = true) (h : Int) : (I.tset g s).stat h = if h = g then s else I.stat h := by
  have hst : I.stat g = (I.tab.all[g.toNat]?.getD (0, 0)).1 := by unfold Ide.stat; rw [if_pos h0]
  rw [hst] at hm
  have e : (I.tab.set g s).2.all = I.tab.all.set g.toNat (s, (I.tab.all[g.toNat]?.getD (0, 0)).2) := by
    unfold Tab.set
    rw [if_pos h0, if_pos hm]
  unfold Ide.stat Ide.tset
  simp only [e, List.length_set]
  by_cases hh : h = g
  · subst hh
    rw [if_pos h0, if_pos rfl, List.getElem?_set_self (by omega)]
    rfl
  · rw [if_neg hh]
    split
    · rw [List.getElem?_set_ne (by omega)]
    · rfl
theorem row_tset {I : Ide} {g s : Int} (h0 : 0 ≤ g ∧ g < I.tab.all.length) (hm : may (I.stat g) s = true) : (I.tset g s).tab.row = if s = 0 then g :: I.tab.row else I.tab.row := by
  have hst : I.stat g = (I.tab.all[g.toNat]?.getD (0, 0)).1 := by unfold Ide.stat; rw [if_pos h0]
  rw [hst] at hm
  unfold Ide.tset Tab.set
  simp only [if_pos h0, if_pos hm]
theorem stat_make {I : Ide} {g : Int} {rest : List Int} (hr : I.tab.row = g :: rest) (h0 : 0 ≤ g ∧ g < I.tab.all.length) (h : Int) : ({ I with tab := I.tab.make.2.2 } : Ide).stat h = if h = g then 1 else I.stat h := by
  have e : I.tab.make.2.2.all = I.tab.all.set g.toNat (1, (I.tab.all[g.toNat]?.getD (0, 0)).2 + 1) := by
    unfold Tab.make
    rw [hr]
  unfold Ide.stat
  simp only [e, List.length_set]
  by_cases hh : h = g
  · subst hh
    rw [if_pos h0, if_pos rfl, List.getElem?_set_self (by omega)]
    rfl
  · rw [if_neg hh]
    split
    · rw [List.getElem?_set_ne (by omega)]
    · rfl
theorem row_make {I : Ide} {g : Int} {rest : List Int} (hr : I.tab.row = g :: rest) : I.tab.make.2.2.row = rest := by
  unfold Tab.make
  rw [hr]
/-! Where Ms and Ps stand. -/
/-- What an M may be. -/
structure MI (c : Cfg) (m : Mc) : Prop where
  a : 0 ≤ m.a ∧ m.a ≤ 3
  p : -1 ≤ m.p ∧ m.p < c.n
  g : -1 ≤ m.g ∧ m.g < c.g
  ga : 0 ≤ m.g ↔ 2 ≤ m.a
  rest : m.a = 0 → m.p < 0
  on : m.a = 1 ∨ m.a = 2 → 0 ≤ m.p
  began : m.a = 3 → 0 ≤ m.p → m.p = m.b
structure PP (c : Cfg) (ms : List Mc) (ps : List Int) : Prop where
  mi : ∀ (k : Nat) (m : Mc), ms[k]? = some m → MI c m ∧ (0 ≤ m.p → ps[m.p.toNat]? = some (k : Int))
  pi : ∀ (p : Nat) (v : Int), ps[p]? = some v → v = -1 ∨ v = -2 ∨ (0 ≤ v ∧ ∃ m, ms[v.toNat]? = some m ∧ m.p = (p : Int))
theorem mod_get {α : Type} {l : List α} {k j : Nat} {f : α → α} {y : α} (h : (l.modify k f)[j]? = some y) : (j = k ∧ ∃ x, l[k]? = some x ∧ y = f x) ∨ (j ≠ k ∧ l[j]? = some y) := by
  rw [List.getElem?_modify] at h
  by_cases hj : k = j
  · subst hj
    cases hx : l[k]? with
    | none => rw [hx] at h; simp at h
    | some x => rw [hx] at h; simp at h; exact .inl ⟨rfl, x, rfl, h.symm⟩
  · cases hx : l[j]? with
    | none => rw [hx] at h; simp at h
    | some x => rw [hx] at h; simp [hj] at h; exact .inr ⟨fun e => hj e.symm, by rw [h]⟩
theorem mod_at {α : Type} {l : List α} {k : Nat} {f : α → α} {x : α} (h : l[k]? = some x) : (l.modify k f)[k]? = some (f x) := by
  rw [List.getElem?_modify, h]; simp
theorem mod_ne {α : Type} {l : List α} {k j : Nat} {f : α → α} (h : j ≠ k) : (l.modify k f)[j]? = l[j]? := by
  rw [List.getElem?_modify]
  cases l[j]? with
  | none => rfl
  | some x =>
    simp
    exact fun e => absurd e.symm h
/-- An M comes to stand on a P. -/
theorem PP.place {c : Cfg} {ms : List Mc} {ps : List Int} {k kp : Nat} {old : Mc} {f : Mc → Mc} (hk : ms[k]? = some old) (hkp : kp < ps.length) (hf : (f old).p = (kp : Int)) (hn : MI c (f old))
    (h1 : ∀ (j : Nat) (m : Mc), ms[j]? = some m → j ≠ k → MI c m ∧ (0 ≤ m.p → m.p ≠ (kp : Int) ∧ ps[m.p.toNat]? = some (j : Int)))
    (h2 : ∀ (p : Nat) (v : Int), p ≠ kp → ps[p]? = some v → v = -1 ∨ v = -2 ∨ (0 ≤ v ∧ v ≠ (k : Int) ∧ ∃ m, ms[v.toNat]? = some m ∧ m.p = (p : Int))) : PP c (ms.modify k f) (ps.set kp (k : Int)) := by
  refine ⟨fun j m hj => ?_, fun p v hp => ?_⟩
  · rcases mod_get hj with ⟨rfl, x, hx, rfl⟩ | ⟨hne, hm⟩
    · rw [hk] at hx
      cases hx
      refine ⟨hn, fun _ => ?_⟩
      rw [hf, Int.toNat_natCast, List.getElem?_set_self hkp]
    · obtain ⟨a, b⟩ := h1 j m hm hne
      refine ⟨a, fun h0 => ?_⟩
      obtain ⟨b1, b2⟩ := b h0
      rw [List.getElem?_set_ne (by omega)]
      exact b2
  · by_cases hpk : p = kp
    · subst hpk
      rw [List.getElem?_set_self hkp] at hp
      cases hp
      exact .inr (.inr ⟨Int.natCast_nonneg _, f old, by rw [Int.toNat_natCast]; exact mod_at hk, hf⟩)
    · rw [List.getElem?_set_ne (by omega)] at hp
      rcases h2 p v hpk hp with h | h | ⟨h0, hne, m, hm, he⟩
      · exact .inl h
      · exact .inr (.inl h)
      · exact .inr (.inr ⟨h0, m, by rw [mod_ne (by omega)]; exact hm, he⟩)
/-- As it is mostly: the P was its own, or nobody's. -/
theorem PP.has {c : Cfg} {ms : List Mc} {ps : List Int} (h : PP c ms ps) {k kp : Nat} {old : Mc} {f : Mc → Mc} {v : Int} (hk : ms[k]? = some old) (hv : ps[kp]? = some v) (hf : (f old).p = (kp : Int)) (hn : MI c (f old))
    (ho : old.p = (kp : Int) ∨ old.p < 0) (hv2 : v = (k : Int) ∨ v < 0) : PP c (ms.modify k f) (ps.set kp (k : Int)) := by
  have hkp : kp < ps.length := (List.getElem?_eq_some_iff.1 hv).1
  refine PP.place hk hkp hf hn (fun j m hj hne => ?_) fun p w hp hw => ?_
  · obtain ⟨a, b⟩ := h.mi j m hj
    refine ⟨a, fun h0 => ⟨fun e => ?_, b h0⟩⟩
    have := b h0
    rw [e, Int.toNat_natCast, hv] at this
    cases this
    omega
  · rcases h.pi p w hw with e | e | ⟨h0, m, hm, he⟩
    · exact .inl e
    · exact .inr (.inl e)
    · refine .inr (.inr ⟨h0, fun e => ?_, m, hm, he⟩)
      rw [e, Int.toNat_natCast, hk] at hm
      cases hm
      omega
/-- An M leaves its P. -/
theorem PP.clear {c : Cfg} {ms : List Mc} {ps : List Int} (h : PP c ms ps) {k kp : Nat} {old : Mc} {f : Mc → Mc} {v : Int} (hk : ms[k]? = some old) (hf : (f old).p < 0) (hn : MI c (f old)) (ho : old.p = (kp : Int)) (hv : v = -1 ∨ v = -2) : PP c (ms.modify k f) (ps.set kp v) := by
  have hpk := (h.mi k old hk).2 (by omega)
  rw [ho, Int.toNat_natCast] at hpk
  have hkp : kp < ps.length := (List.getElem?_eq_some_iff.1 hpk).1
  refine ⟨fun j m hj => ?_, fun p w hp => ?_⟩
  · rcases mod_get hj with ⟨rfl, x, hx, rfl⟩ | ⟨hne, hm⟩
    · rw [hk] at hx
      cases hx
      exact ⟨hn, fun h0 => by omega⟩
    · obtain ⟨a, b⟩ := h.mi j m hm
      refine ⟨a, fun h0 => ?_⟩
      have b' := b h0
      rw [List.getElem?_set_ne ?_]
      · exact b'
      · intro e
        rw [← e, hpk] at b'
        cases b'
        omega
  · by_cases hpk2 : p = kp
    · subst hpk2
      rw [List.getElem?_set_self hkp] at hp
      cases hp
      rcases hv with e | e
      · exact .inl e
      · exact .inr (.inl e)
    · rw [List.getElem?_set_ne (by omega)] at hp
      rcases h.pi p w hp with e | e | ⟨h0, m, hm, he⟩
      · exact .inl e
      · exact .inr (.inl e)
      · refine .inr (.inr ⟨h0, m, ?_, he⟩)
        rw [mod_ne]
        · exact hm
        · intro e
          rw [e, hk] at hm
          cases hm
          omega
/-- An M that has no P turns. -/
theorem PP.turn {c : Cfg} {ms : List Mc} {ps : List Int} (h : PP c ms ps) {k : Nat} {old : Mc} {f : Mc → Mc} (hk : ms[k]? = some old) (hf : (f old).p = old.p) (hn : MI c (f old)) : PP c (ms.modify k f) ps := by
  refine ⟨fun j m hj => ?_, fun p w hp => ?_⟩
  · rcases mod_get hj with ⟨rfl, x, hx, rfl⟩ | ⟨hne, hm⟩
    · rw [hk] at hx
      cases hx
      refine ⟨hn, fun h0 => ?_⟩
      rw [hf] at h0 ⊢
      exact (h.mi j old hk).2 h0
    · exact h.mi j m hm
  · rcases h.pi p w hp with e | e | ⟨h0, m, hm, he⟩
    · exact .inl e
    · exact .inr (.inl e)
    · by_cases e : w.toNat = k
      · rw [e, hk] at hm
        cases hm
        exact .inr (.inr ⟨h0, f old, by rw [e]; exact mod_at hk, by rw [hf]; exact he⟩)
      · exact .inr (.inr ⟨h0, m, by rw [mod_ne e]; exact hm, he⟩)
end Go.Proofs.Ytlhnmbajbhaaoaa
