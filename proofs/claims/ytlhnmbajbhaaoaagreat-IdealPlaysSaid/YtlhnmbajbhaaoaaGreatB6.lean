/- What a system keeps, in numbers: its parts. What a system keeps, whatever notes are taken. What a system keeps: each kind of notes. What a system keeps: whatever note is taken. What a system keeps: at first; tallies. A system is held against what it should keep. Systems: the chapter's example; one that is not there. The law on what a system keeps. Two systems that differ in where calls began, where nobody calls. Notes that are taken, by both. The reference's table: a value of three rows. The reference's table: making, setting. The reference's table: setting. The reference's table: a new one; who has a status. The reference's table: contracts. Rows of numbers, held against each other; a number brought below another one. No condition. -/
import Derived.Test.YtlhnmbajbhaaoaaGreatB5
import Derived.Test.YtlhnmbajbhaaoaaGreatSL2
import Derived.Test.YtlhnmbajbhaaoaaGreatSL3
import Derived.Test.YtlhnmbajbhaaoaaGreatB1
namespace Go.Proofs.YtlhnmbajbhaaoaaGreat
open Go Go.SL
set_option linter.unusedSimpArgs false
set_option linter.unusedVariables false
set_option maxHeartbeats 1000000
/-! How many of a list are so; sums over a list. -/
theorem countP_mod {α : Type} {P : α → Bool} {f : α → α} : ∀ {l : List α} {k : Nat} {x : α}, l[k]? = some x → (l.modify k f).countP P + (if P x then 1 else 0) = l.countP P + (if P (f x) then 1 else 0)
  | [], k, x, h => by simp at h
  | y :: l, 0, x, h => by
    simp only [List.getElem?_cons_zero, Option.some.injEq] at h
    subst h
    simp only [List.modify_zero_cons, List.countP_cons]
    omega
  | y :: l, k + 1, x, h => by
    simp only [List.getElem?_cons_succ] at h
    have := countP_mod (P := P) (f := f) h
    simp only [List.modify_succ_cons, List.countP_cons]
    omega
theorem sum_mod {α : Type} {w : α → Nat} {f : α → α} : ∀ {l : List α} {k : Nat} {x : α}, l[k]? = some x → ((l.modify k f).map w).sum + w x = (l.map w).sum + w (f x)
  | [], k, x, h => by simp at h
  | y :: l, 0, x, h => by
    simp only [List.getElem?_cons_zero, Option.some.injEq] at h
    subst h
    simp only [List.modify_zero_cons, List.map_cons, List.sum_cons]
    omega
  | y :: l, k + 1, x, h => by
    simp only [List.getElem?_cons_succ] at h
    have := sum_mod (w := w) (f := f) h
    simp only [List.modify_succ_cons, List.map_cons, List.sum_cons]
    omega
theorem countP_at {α : Type} {P : α → Bool} : ∀ {l : List α} {k : Nat} {x : α}, l[k]? = some x → P x = true → 1 ≤ l.countP P := by
  intro l k x h hp
  exact List.countP_pos_iff.2 ⟨x, List.mem_of_getElem? h, hp⟩
/-- How many Ms run a goroutine; call with it; how often it waits. -/
def nRuns (ms : List Mc) (g : Int) : Nat := ms.countP fun m => decide (m.a = 2) && decide (m.g = g)
def nCalls (ms : List Mc) (g : Int) : Nat := ms.countP fun m => decide (m.a = 3) && decide (m.g = g)
def nWaits (S : SemS) (g : Int) : Nat := (S.map fun r => r.1.count g).sum
def rW (m : Mc) (g : Int) : Nat := if m.a = 2 ∧ m.g = g then 1 else 0
def cW (m : Mc) (g : Int) : Nat := if m.a = 3 ∧ m.g = g then 1 else 0
theorem nRuns_mod {ms : List Mc} {k : Nat} {m : Mc} (f : Mc → Mc) (h : ms[k]? = some m) (g : Int) : nRuns (ms.modify k f) g + rW m g = nRuns ms g + rW (f m) g := by
  have := countP_mod (P := fun m : Mc => decide (m.a = 2) && decide (m.g = g)) (f := f) h
  simp only [Bool.and_eq_true, decide_eq_true_eq] at this
  exact this
theorem nCalls_mod {ms : List Mc} {k : Nat} {m : Mc} (f : Mc → Mc) (h : ms[k]? = some m) (g : Int) : nCalls (ms.modify k f) g + cW m g = nCalls ms g + cW (f m) g := by
  have := countP_mod (P := fun m : Mc => decide (m.a = 3) && decide (m.g = g)) (f := f) h
  simp only [Bool.and_eq_true, decide_eq_true_eq] at this
  exact this
theorem nRuns_at {ms : List Mc} {k : Nat} {m : Mc} (h : ms[k]? = some m) (ha : m.a = 2) : 1 ≤ nRuns ms m.g := countP_at h (by simp [ha])
theorem nCalls_at {ms : List Mc} {k : Nat} {m : Mc} (h : ms[k]? = some m) (ha : m.a = 3) : 1 ≤ nCalls ms m.g := countP_at h (by simp [ha])
theorem nWaits_mod {S : SemS} {k : Nat} {r : List Int × Int} (f : List Int × Int → List Int × Int) (h : S[k]? = some r) (g : Int) : nWaits (S.modify k f) g + r.1.count g = nWaits S g + (f r).1.count g := sum_mod (w := fun r : List Int × Int => r.1.count g) (f := f) h
theorem nWaits_at {S : SemS} {k : Nat} {r : List Int × Int} (h : S[k]? = some r) {g : Int} (hg : g ∈ r.1) : 1 ≤ nWaits S g := by
  have h0 := nWaits_mod (fun _ => ([], 0)) h g
  have h1 := List.count_pos_iff.2 hg
  simp only [List.count_nil] at h0
  omega
theorem nWaits_zero {S : SemS} {g : Int} (h : nWaits S g = 0) : whereOf S g = none := by
  rw [where_none]
  rintro i ⟨l, c, hi, hg⟩
  have := nWaits_at hi hg
  omega
/-! The table's statuses. -/
theorem stat_tset {I : Ide} {g s : Int} (h0 : 0 ≤ g ∧ g < I.tab.all.length) (hm : may (I.stat g) s = true) (h : Int) : (I.tset g s).stat h = if h = g then s else I.stat h := by
  have hst : I.stat g = (I.tab.all[g.toNat]?.getD (0, 0)).1 := by unfold Ide.stat; rw [if_pos h0]
  rw [hst] at hm
  have e : (I.tab.set g s).2.all = I.tab.all.set g.toNat (s, (I.tab.all[g.toNat]?.getD (0, 0)).2) := by
    unfold Tab.set
    rw [if_pos h0, if_pos hm]
  unfold Ide.stat Ide.tset
  simp only [e, List.length_set]
  by_cases hh : h = g
  · subst hh
    rw [if_pos h0, if_pos rfl, List.getElem?_set_self (by omega)]
    rfl
  · rw [if_neg hh]
    split
    · rw [List.getElem?_set_ne (by omega)]
    · rfl
theorem row_tset {I : Ide} {g s : Int} (h0 : 0 ≤ g ∧ g < I.tab.all.length) (hm : may (I.stat g) s = true) : (I.tset g s).tab.row = if s = 0 then g :: I.tab.row else I.tab.row := by
  have hst : I.stat g = (I.tab.all[g.toNat]?.getD (0, 0)).1 := by unfold Ide.stat; rw [if_pos h0]
  rw [hst] at hm
  unfold Ide.tset Tab.set
  simp only [if_pos h0, if_pos hm]
theorem stat_make {I : Ide} {g : Int} {rest : List Int} (hr : I.tab.row = g :: rest) (h0 : 0 ≤ g ∧ g < I.tab.all.length) (h : Int) : ({ I with tab := I.tab.make.2.2 } : Ide).stat h = if h = g then 1 else I.stat h := by
  have e : I.tab.make.2.2.all = I.tab.all.set g.toNat (1, (I.tab.all[g.toNat]?.getD (0, 0)).2 + 1) := by
    unfold Tab.make
    rw [hr]
  unfold Ide.stat
  simp only [e, List.length_set]
  by_cases hh : h = g
  · subst hh
    rw [if_pos h0, if_pos rfl, List.getElem?_set_self (by omega)]
    rfl
  · rw [if_neg hh]
    split
    · rw [List.getElem?_set_ne (by omega)]
    · rfl
theorem row_make {I : Ide} {g : Int} {rest : List Int} (hr : I.tab.row = g :: rest) : I.tab.make.2.2.row = rest := by
  unfold Tab.make
  rw [hr]
/-! Where Ms and Ps stand. -/
/-- What an M may be. -/
structure MI (c : Cfg) (m : Mc) : Prop where
  a : 0 ≤ m.a ∧ m.a ≤ 3
  p : -1 ≤ m.p ∧ m.p < c.n
  g : -1 ≤ m.g ∧ m.g < c.g
  ga : 0 ≤ m.g ↔ 2 ≤ m.a
  rest : m.a = 0 → m.p < 0
  on : m.a = 1 ∨ m.a = 2 → 0 ≤ m.p
  began : m.a = 3 → 0 ≤ m.p → m.p = m.b
structure PP (c : Cfg) (ms : List Mc) (ps : List Int) : Prop where
  mi : ∀ (k : Nat) (m : Mc), ms[k]? = some m → MI c m ∧ (0 ≤ m.p → ps[m.p.toNat]? = some (k : Int))
  pi : ∀ (p : Nat) (v : Int), ps[p]? = some v → v = -1 ∨ v = -2 ∨ (0 ≤ v ∧ ∃ m, ms[v.toNat]? = some m ∧ m.p = (p : Int))
theorem mod_get {α : Type} {l : List α} {k j : Nat} {f : α → α} {y : α} (h : (l.modify k f)[j]? = some y) : (j = k ∧ ∃ x, l[k]? = some x ∧ y = f x) ∨ (j ≠ k ∧ l[j]? = some y) := by
  rw [List.getElem?_modify] at h
  by_cases hj : k = j
  · subst hj
    cases hx : l[k]? with
    | none => rw [hx] at h; simp at h
    | some x => rw [hx] at h; simp at h; exact .inl ⟨rfl, x, rfl, h.symm⟩
  · cases hx : l[j]? with
    | none => rw [hx] at h; simp at h
    | some x => rw [hx] at h; simp [hj] at h; exact .inr ⟨fun e => hj e.symm, by rw [h]⟩
theorem mod_at {α : Type} {l : List α} {k : Nat} {f : α → α} {x : α} (h : l[k]? = some x) : (l.modify k f)[k]? = some (f x) := by
  rw [List.getElem?_modify, h]; simp
theorem mod_ne {α : Type} {l : List α} {k j : Nat} {f : α → α} (h : j ≠ k) : (l.modify k f)[j]? = l[j]? := by
  rw [List.getElem?_modify]
  cases l[j]? with
  | none => rfl
  | some x =>
    simp
    exact fun e => absurd e.symm h
/-- An M comes to stand on a P. -/
theorem PP.place {c : Cfg} {ms : List Mc} {ps : List Int} {k kp : Nat} {old : Mc} {f : Mc → Mc} (hk : ms[k]? = some old) (hkp : kp < ps.length) (hf : (f old).p = (kp : Int)) (hn : MI c (f old))
    (h1 : ∀ (j : Nat) (m : Mc), ms[j]? = some m → j ≠ k → MI c m ∧ (0 ≤ m.p → m.p ≠ (kp : Int) ∧ ps[m.p.toNat]? = some (j : Int)))
    (h2 : ∀ (p : Nat) (v : Int), p ≠ kp → ps[p]? = some v → v = -1 ∨ v = -2 ∨ (0 ≤ v ∧ v ≠ (k : Int) ∧ ∃ m, ms[v.toNat]? = some m ∧ m.p = (p : Int))) : PP c (ms.modify k f) (ps.set kp (k : Int)) := by
  refine ⟨fun j m hj => ?_, fun p v hp => ?_⟩
  · rcases mod_get hj with ⟨rfl, x, hx, rfl⟩ | ⟨hne, hm⟩
    · rw [hk] at hx
      cases hx
      refine ⟨hn, fun _ => ?_⟩
      rw [hf, Int.toNat_natCast, List.getElem?_set_self hkp]
    · obtain ⟨a, b⟩ := h1 j m hm hne
      refine ⟨a, fun h0 => ?_⟩
      obtain ⟨b1, b2⟩ := b h0
      rw [List.getElem?_set_ne (by omega)]
      exact b2
  · by_cases hpk : p = kp
    · subst hpk
      rw [List.getElem?_set_self hkp] at hp
      cases hp
      exact .inr (.inr ⟨Int.natCast_nonneg _, f old, by rw [Int.toNat_natCast]; exact mod_at hk, hf⟩)
    · rw [List.getElem?_set_ne (by omega)] at hp
      rcases h2 p v hpk hp with h | h | ⟨h0, hne, m, hm, he⟩
      · exact .inl h
      · exact .inr (.inl h)
      · exact .inr (.inr ⟨h0, m, by rw [mod_ne (by omega)]; exact hm, he⟩)
/-- As it is mostly: the P was its own, or nobody's. -/
theorem PP.has {c : Cfg} {ms : List Mc} {ps : List Int} (h : PP c ms ps) {k kp : Nat} {old : Mc} {f : Mc → Mc} {v : Int} (hk : ms[k]? = some old) (hv : ps[kp]? = some v) (hf : (f old).p = (kp : Int)) (hn : MI c (f old))
    (ho : old.p = (kp : Int) ∨ old.p < 0) (hv2 : v = (k : Int) ∨ v < 0) : PP c (ms.modify k f) (ps.set kp (k : Int)) := by
  have hkp : kp < ps.length := (List.getElem?_eq_some_iff.1 hv).1
  refine PP.place hk hkp hf hn (fun j m hj hne => ?_) fun p w hp hw => ?_
  · obtain ⟨a, b⟩ := h.mi j m hj
    refine ⟨a, fun h0 => ⟨fun e => ?_, b h0⟩⟩
    have := b h0
    rw [e, Int.toNat_natCast, hv] at this
    cases this
    omega
  · rcases h.pi p w hw with e | e | ⟨h0, m, hm, he⟩
    · exact .inl e
    · exact .inr (.inl e)
    · refine .inr (.inr ⟨h0, fun e => ?_, m, hm, he⟩)
      rw [e, Int.toNat_natCast, hk] at hm
      cases hm
      omega
/-- An M leaves its P. -/
theorem PP.clear {c : Cfg} {ms : List Mc} {ps : List Int} (h : PP c ms ps) {k kp : Nat} {old : Mc} {f : Mc → Mc} {v : Int} (hk : ms[k]? = some old) (hf : (f old).p < 0) (hn : MI c (f old)) (ho : old.p = (kp : Int)) (hv : v = -1 ∨ v = -2) : PP c (ms.modify k f) (ps.set kp v) := by
  have hpk := (h.mi k old hk).2 (by omega)
  rw [ho, Int.toNat_natCast] at hpk
  have hkp : kp < ps.length := (List.getElem?_eq_some_iff.1 hpk).1
  refine ⟨fun j m hj => ?_, fun p w hp => ?_⟩
  · rcases mod_get hj with ⟨rfl, x, hx, rfl⟩ | ⟨hne, hm⟩
    · rw [hk] at hx
      cases hx
      exact ⟨hn, fun h0 => by omega⟩
    · obtain ⟨a, b⟩ := h.mi j m hm
      refine ⟨a, fun h0 => ?_⟩
      have b' := b h0
      rw [List.getElem?_set_ne ?_]
      · exact b'
      · intro e
        rw [← e, hpk] at b'
        cases b'
        omega
  · by_cases hpk2 : p = kp
    · subst hpk2
      rw [List.getElem?_set_self hkp] at hp
      cases hp
      rcases hv with e | e
      · exact .inl e
      · exact .inr (.inl e)
    · rw [List.getElem?_set_ne (by omega)] at hp
      rcases h.pi p w hp with e | e | ⟨h0, m, hm, he⟩
      · exact .inl e
      · exact .inr (.inl e)
      · refine .inr (.inr ⟨h0, m, ?_, he⟩)
        rw [mod_ne]
        · exact hm
        · intro e
          rw [e, hk] at hm
          cases hm
          omega
/-- An M that has no P turns. -/
theorem PP.turn {c : Cfg} {ms : List Mc} {ps : List Int} (h : PP c ms ps) {k : Nat} {old : Mc} {f : Mc → Mc} (hk : ms[k]? = some old) (hf : (f old).p = old.p) (hn : MI c (f old)) : PP c (ms.modify k f) ps := by
  refine ⟨fun j m hj => ?_, fun p w hp => ?_⟩
  · rcases mod_get hj with ⟨rfl, x, hx, rfl⟩ | ⟨hne, hm⟩
    · rw [hk] at hx
      cases hx
      refine ⟨hn, fun h0 => ?_⟩
      rw [hf] at h0 ⊢
      exact (h.mi j old hk).2 h0
    · exact h.mi j m hm
  · rcases h.pi p w hp with e | e | ⟨h0, m, hm, he⟩
    · exact .inl e
    · exact .inr (.inl e)
    · by_cases e : w.toNat = k
      · rw [e, hk] at hm
        cases hm
        exact .inr (.inr ⟨h0, f old, by rw [e]; exact mod_at hk, by rw [hf]; exact he⟩)
      · exact .inr (.inr ⟨h0, m, by rw [mod_ne e]; exact hm, he⟩)
end Go.Proofs.YtlhnmbajbhaaoaaGreat
namespace Go.Proofs.YtlhnmbajbhaaoaaGreat
open Go Go.SL
set_option linter.unusedSimpArgs false
set_option linter.unusedVariables false
set_option maxHeartbeats 2000000
structure Inv (I : Ide) (cnt : List Int) : Prop where
  pp : PP I.c I.ms I.ps
  st : ∀ g : Int, 0 ≤ g → g < I.c.g → nRuns I.ms g = (if I.stat g = 2 then 1 else 0) ∧ nCalls I.ms g = (if I.stat g = 4 then 1 else 0) ∧ nWaits I.sem g = (if I.stat g = 3 then 1 else 0)
  row : ∀ g ∈ I.tab.row, I.stat g = 0
  nd : I.tab.row.Nodup
  se : ∀ (s : Nat) (l : List Int) (c : Int), I.sem[s]? = some (l, c) → cnt[s]? = some c ∧ (∀ x ∈ l, 0 ≤ x ∧ x < I.c.g) ∧ (0 < c → l = []) ∧ 0 ≤ c ∧ c ≤ 1073741824
  cl : cnt.length = 4
  ca : (I.callers : Int) ≤ I.c.m - I.c.n
def cntS (cnt : List Int) (n : Nt) : List Int := if n.kind = 5 then cnt.modify n.x.toNat (· - 1) else if n.kind = 7 then cnt.modify n.x.toNat (· + 1) else cnt
section
variable {I : Ide} {K : Int} {n : Nt} {cnt : List Int} {m p a g s v : Int}
theorem mGet (h : 0 ≤ m ∧ m < I.ms.length) : ∃ (k : Nat) (old : Mc), m = (k : Int) ∧ I.ms[k]? = some old ∧ I.mAt m = old := by
  have hk : m.toNat < I.ms.length := by omega
  refine ⟨m.toNat, I.ms[m.toNat], by omega, List.getElem?_eq_getElem hk, ?_⟩
  unfold Ide.mAt
  rw [List.getElem?_eq_getElem hk]; rfl
theorem pGet (h : 0 ≤ p ∧ p < I.ps.length) : ∃ (k : Nat) (v : Int), p = (k : Int) ∧ I.ps[k]? = some v ∧ I.pAt p = v := by
  have hk : p.toNat < I.ps.length := by omega
  refine ⟨p.toNat, I.ps[p.toNat], by omega, List.getElem?_eq_getElem hk, ?_⟩
  unfold Ide.pAt
  rw [List.getElem?_eq_getElem hk]; rfl
theorem callers_mod {ms : List Mc} {k : Nat} {old : Mc} (f : Mc → Mc) (h : ms[k]? = some old) : (ms.modify k f).countP (fun m => decide (m.a = 3)) + (if old.a = 3 then 1 else 0) = ms.countP (fun m => decide (m.a = 3)) + (if (f old).a = 3 then 1 else 0) := by
  have := countP_mod (P := fun m : Mc => decide (m.a = 3)) (f := f) h
  simp only [decide_eq_true_eq] at this
  exact this
/-- A goroutine's status turns, with an M's. -/
theorem Inv.turn (h : Inv I cnt) {k : Nat} {old new : Mc} {ps : List Int} {T : Tab} (hk : I.ms[k]? = some old) {f : Mc → Mc} (hf : f old = new) (hpp : PP I.c (I.ms.modify k f) ps)
    (hst : ∀ x : Int, (⟨I.c, T, I.sem, I.ms, I.ps, I.many⟩ : Ide).stat x = if x = g then s else I.stat x) (hg : 0 ≤ g ∧ g < I.c.g)
    (hr : rW old g = (if I.stat g = 2 then 1 else 0) ∧ rW new g = (if s = 2 then 1 else 0)) (hc : cW old g = (if I.stat g = 4 then 1 else 0) ∧ cW new g = (if s = 4 then 1 else 0)) (hw : (I.stat g = 3 ↔ s = 3))
    (ho : ∀ x, x ≠ g → rW old x = rW new x ∧ cW old x = cW new x) (hrow : (∀ x ∈ T.row, (⟨I.c, T, I.sem, I.ms, I.ps, I.many⟩ : Ide).stat x = 0) ∧ T.row.Nodup)
    (hca : new.a = 3 → old.a = 3 ∨ (I.callers : Int) < I.c.m - I.c.n) (many : Int) : Inv ⟨I.c, T, I.sem, I.ms.modify k f, ps, many⟩ cnt := by
  have hst' : ∀ x : Int, (⟨I.c, T, I.sem, I.ms.modify k f, ps, many⟩ : Ide).stat x = if x = g then s else I.stat x := hst
  refine ⟨hpp, fun x h0 h1 => ?_, hrow.1, hrow.2, h.se, h.cl, ?_⟩
  · obtain ⟨d1, d2, d3⟩ := h.st x h0 h1
    have e1 := nRuns_mod f hk x
    have e2 := nCalls_mod f hk x
    rw [hf] at e1 e2
    rw [hst']
    by_cases hx : x = g
    · subst hx
      rw [if_pos rfl]
      refine ⟨?_, ?_, ?_⟩
      · show nRuns (I.ms.modify k f) x = _
        omega
      · show nCalls (I.ms.modify k f) x = _
        omega
      · show nWaits I.sem x = _
        rw [d3]
        by_cases h3 : I.stat x = 3
        · rw [if_pos h3, if_pos (hw.1 h3)]
        · rw [if_neg h3, if_neg fun e => h3 (hw.2 e)]
    · rw [if_neg hx]
      obtain ⟨o1, o2⟩ := ho x hx
      refine ⟨?_, ?_, d3⟩
      · show nRuns (I.ms.modify k f) x = _
        omega
      · show nCalls (I.ms.modify k f) x = _
        omega
  · have e := callers_mod f hk
    rw [hf] at e
    have hca0 := h.ca
    show (((I.ms.modify k f).countP fun m => decide (m.a = 3) : Nat) : Int) ≤ I.c.m - I.c.n
    unfold Ide.callers at hca0 hca
    by_cases hn : new.a = 3
    · rcases hca hn with ha | ha
      · rw [if_pos hn, if_pos ha] at e; omega
      · rw [if_pos hn] at e; split at e <;> omega
    · rw [if_neg hn] at e; split at e <;> omega
end
end Go.Proofs.YtlhnmbajbhaaoaaGreat
namespace Go.Proofs.YtlhnmbajbhaaoaaGreat
open Go Go.SL
set_option linter.unusedSimpArgs false
set_option linter.unusedVariables false
set_option maxHeartbeats 2000000
section
variable {I : Ide} {K : Int} {n : Nt} {cnt : List Int} {m p a g s v : Int} {k kp : Nat} {old : Mc}
/-- The row, behind a status that was not Free. -/
theorem row_turn (h : Inv I cnt) (h0 : 0 ≤ g ∧ g < I.tab.all.length) (hm : may (I.stat g) s = true) (hs0 : I.stat g ≠ 0) :
    (∀ x ∈ (I.tab.set g s).2.row, (I.tset g s).stat x = 0) ∧ (I.tab.set g s).2.row.Nodup := by
  have hr := row_tset h0 hm
  have hr' : (I.tab.set g s).2.row = if s = 0 then g :: I.tab.row else I.tab.row := hr
  have hng : g ∉ I.tab.row := fun hx => hs0 (h.row g hx)
  rw [hr']
  by_cases hs : s = 0
  · rw [if_pos hs]
    refine ⟨fun x hx => ?_, List.nodup_cons.2 ⟨hng, h.nd⟩⟩
    rw [stat_tset h0 hm]
    rcases List.mem_cons.1 hx with rfl | hx
    · rw [if_pos rfl, hs]
    · split
      · exact hs
      · exact h.row x hx
  · rw [if_neg hs]
    refine ⟨fun x hx => ?_, h.nd⟩
    rw [stat_tset h0 hm, if_neg (fun e : x = g => hng (e ▸ hx))]
    exact h.row x hx
/-- A goroutine's status is set, and an M turns with it. -/
theorem Inv.setTurn (h : Inv I cnt) (tl : (I.tab.all.length : Int) = I.c.g) {new : Mc} {ps : List Int} (hk : I.ms[k]? = some old) {f : Mc → Mc} (hf : f old = new) (hpp : PP I.c (I.ms.modify k f) ps)
    (hg : 0 ≤ g ∧ g < I.c.g) (hm : may (I.stat g) s = true) (hs0 : I.stat g ≠ 0)
    (hr : rW old g = (if I.stat g = 2 then 1 else 0) ∧ rW new g = (if s = 2 then 1 else 0)) (hc : cW old g = (if I.stat g = 4 then 1 else 0) ∧ cW new g = (if s = 4 then 1 else 0)) (hw : I.stat g ≠ 3 ∧ s ≠ 3)
    (ho : ∀ x, x ≠ g → rW old x = rW new x ∧ cW old x = cW new x) (hca : new.a = 3 → old.a = 3 ∨ (I.callers : Int) < I.c.m - I.c.n) (many : Int) :
    Inv ⟨I.c, (I.tab.set g s).2, I.sem, I.ms.modify k f, ps, many⟩ cnt := by
  have hgl : 0 ≤ g ∧ g < I.tab.all.length := by omega
  exact h.turn (g := g) (s := s) hk hf hpp (fun x => stat_tset hgl hm x) hg hr hc ⟨fun e => absurd e hw.1, fun e => absurd e hw.2⟩ ho (row_turn h hgl hm hs0) hca many
theorem stat_runs (h : Inv I cnt) (hk : I.ms[k]? = some old) (ha : old.a = 2) (hg : 0 ≤ old.g ∧ old.g < I.c.g) : I.stat old.g = 2 := by
  have h1 := nRuns_at hk ha
  have h2 := (h.st old.g hg.1 hg.2).1
  by_cases e : I.stat old.g = 2
  · exact e
  · rw [if_neg e] at h2; omega
theorem stat_calls (h : Inv I cnt) (hk : I.ms[k]? = some old) (ha : old.a = 3) (hg : 0 ≤ old.g ∧ old.g < I.c.g) : I.stat old.g = 4 := by
  have h1 := nCalls_at hk ha
  have h2 := (h.st old.g hg.1 hg.2).2.1
  by_cases e : I.stat old.g = 4
  · exact e
  · rw [if_neg e] at h2; omega
/-- A runner leaves its goroutine, and searches. -/
theorem Inv.searches (h : Inv I cnt) (tl : (I.tab.all.length : Int) = I.c.g) (hk : I.ms[k]? = some old) (ha : old.a = 2) (hp : old.p = (kp : Int)) (hs : s = 0 ∨ s = 1) (many : Int) :
    Inv ⟨I.c, (I.tab.set old.g s).2, I.sem, I.ms.modify k (fun x => { x with a := 1, p := (kp : Int), g := -1 }), I.ps.set kp (k : Int), many⟩ cnt := by
  obtain ⟨mi, mp⟩ := h.pp.mi k old hk
  have hg0 : 0 ≤ old.g := mi.ga.2 (by omega)
  have hg : 0 ≤ old.g ∧ old.g < I.c.g := ⟨hg0, mi.g.2⟩
  have hst := stat_runs h hk ha hg
  have hv : I.ps[kp]? = some (k : Int) := by have := mp (by omega); rwa [hp, Int.toNat_natCast] at this
  have mn : MI I.c { old with a := 1, p := (kp : Int), g := -1 } := ⟨by simp, by have := mi.p; simp only; omega, by have := mi.g; simp only; omega, by simp, by simp, by simp, by simp⟩
  refine h.setTurn tl hk rfl (h.pp.has (f := fun x => { x with a := 1, p := (kp : Int), g := -1 }) hk hv rfl mn (.inl hp) (.inl rfl)) hg ?_ ?_ ?_ ?_ ?_ ?_ ?_ many
  · rw [hst]; rcases hs with rfl | rfl <;> rfl
  · omega
  · rw [hst]; rcases hs with rfl | rfl <;> simp [rW, ha]
  · rw [hst]; rcases hs with rfl | rfl <;> simp [cW, ha]
  · omega
  · intro x hx; simp [rW, cW, ha]; omega
  · simp
/-- A P's M keeps it no more, or one rests: nobody's status turns. -/
theorem Inv.place (h : Inv I cnt) {ps : List Int} (hk : I.ms[k]? = some old) {f : Mc → Mc} (hpp : PP I.c (I.ms.modify k f) ps) (ho : ∀ x : Int, 0 ≤ x → rW old x = rW (f old) x ∧ cW old x = cW (f old) x) (hca : (f old).a = 3 ↔ old.a = 3) (many : Int) :
    Inv ⟨I.c, I.tab, I.sem, I.ms.modify k f, ps, many⟩ cnt := by
  refine ⟨hpp, fun x h0 h1 => ?_, h.row, h.nd, h.se, h.cl, ?_⟩
  · obtain ⟨d1, d2, d3⟩ := h.st x h0 h1
    have e1 := nRuns_mod f hk x
    have e2 := nCalls_mod f hk x
    obtain ⟨o1, o2⟩ := ho x h0
    refine ⟨?_, ?_, d3⟩
    · show nRuns (I.ms.modify k f) x = (if I.stat x = 2 then 1 else 0)
      omega
    · show nCalls (I.ms.modify k f) x = (if I.stat x = 4 then 1 else 0)
      omega
  · have e := callers_mod f hk
    have hca0 := h.ca
    show (((I.ms.modify k f).countP fun m => decide (m.a = 3) : Nat) : Int) ≤ I.c.m - I.c.n
    unfold Ide.callers at hca0
    by_cases hn : old.a = 3
    · rw [if_pos hn, if_pos (hca.2 hn)] at e; omega
    · rw [if_neg hn, if_neg (fun e => hn (hca.1 e))] at e; omega
/-- A caller comes back to a P that is idle. -/
theorem Inv.back (h : Inv I cnt) (tl : (I.tab.all.length : Int) = I.c.g) (hk : I.ms[k]? = some old) (ha : old.a = 3) (hp : old.p < 0) (hv : I.ps[kp]? = some (-1)) (hkp : (kp : Int) < I.c.n) (many : Int) :
    Inv ⟨I.c, (I.tab.set old.g 2).2, I.sem, I.ms.modify k (fun x => { x with a := 2, p := (kp : Int), g := old.g }), I.ps.set kp (k : Int), many⟩ cnt := by
  obtain ⟨mi, mp⟩ := h.pp.mi k old hk
  have hg0 : 0 ≤ old.g := mi.ga.2 (by omega)
  have hg : 0 ≤ old.g ∧ old.g < I.c.g := ⟨hg0, mi.g.2⟩
  have hst := stat_calls h hk ha hg
  have mn : MI I.c { old with a := 2, p := (kp : Int), g := old.g } := ⟨by simp, by simp only; omega, by have := mi.g; simp only; omega, by simp; omega, by simp, by simp, by simp⟩
  refine h.setTurn tl hk rfl (h.pp.has (f := fun x => { x with a := 2, p := (kp : Int), g := old.g }) hk hv rfl mn (.inr hp) (.inr (by omega))) hg ?_ ?_ ?_ ?_ ?_ ?_ ?_ many
  · rw [hst]; rfl
  · omega
  · rw [hst]; simp [rW, ha]
  · rw [hst]; simp [cW, ha]
  · omega
  · intro x hx; simp [rW, cW, ha]; omega
  · simp
end
end Go.Proofs.YtlhnmbajbhaaoaaGreat
namespace Go.Proofs.YtlhnmbajbhaaoaaGreat
open Go Go.SL
set_option linter.unusedSimpArgs false
set_option linter.unusedVariables false
set_option maxHeartbeats 4000000
section
variable {I : Ide} {K : Int} {n : Nt} {cnt : List Int} {m p a g s v : Int} {k kp : Nat} {old : Mc}
/-- A semaphore, by its number. -/
theorem sGet (hs : I.sem.length = 4) (h : 0 ≤ s ∧ s < 4) : ∃ (j : Nat) (l : List Int) (c : Int), s = (j : Int) ∧ j < 4 ∧ I.sem[j]? = some (l, c) ∧ rowS I.sem s = l ∧ I.count s = c := by
  have hj : s.toNat < I.sem.length := by omega
  refine ⟨s.toNat, I.sem[s.toNat].1, I.sem[s.toNat].2, by omega, by omega, List.getElem?_eq_getElem hj, ?_, ?_⟩
  · unfold rowS; rw [if_pos h.1, List.getElem?_eq_getElem hj]; rfl
  · unfold Ide.count; rw [if_pos h.1, List.getElem?_eq_getElem hj]; rfl
theorem se_mod {S : SemS} {G : Int} (hse : ∀ (s : Nat) (l : List Int) (c : Int), S[s]? = some (l, c) → cnt[s]? = some c ∧ (∀ x ∈ l, 0 ≤ x ∧ x < G) ∧ (0 < c → l = []) ∧ 0 ≤ c ∧ c ≤ 1073741824) {j : Nat} {l l' : List Int} {c c' : Int} (hj : S[j]? = some (l, c)) {f : List Int × Int → List Int × Int} (hf : f (l, c) = (l', c'))
    {gc : Int → Int} (hc : gc c = c') (hl : ∀ x ∈ l', 0 ≤ x ∧ x < G) (h0 : 0 < c' → l' = []) (hb : 0 ≤ c' ∧ c' ≤ 1073741824) :
    ∀ (s : Nat) (l : List Int) (c : Int), (S.modify j f)[s]? = some (l, c) → (cnt.modify j gc)[s]? = some c ∧ (∀ x ∈ l, 0 ≤ x ∧ x < G) ∧ (0 < c → l = []) ∧ 0 ≤ c ∧ c ≤ 1073741824 := by
  intro s l2 c2 h
  rcases mod_get h with ⟨rfl, x, hx, e⟩ | ⟨hne, hx⟩
  · rw [hj] at hx
    cases hx
    rw [hf] at e
    cases e
    refine ⟨?_, hl, h0, hb⟩
    rw [mod_at (hse _ _ _ hj).1, hc]
  · obtain ⟨h1, h2⟩ := hse s l2 c2 hx
    exact ⟨by rw [mod_ne hne]; exact h1, h2⟩
theorem inv_step (h : Inv I cnt) (ok : I.ok K) (hmay : mayB I n = true) : Inv (stepI I n) (cntS cnt n) := by
  obtain ⟨hk16, hr, hy⟩ := mayB_of hmay
  obtain ⟨rg, rp, rm, rx⟩ := right_of hr
  have hml := ok.ml
  have hpl := ok.pl
  have tl := ok.tl
  have sl := ok.sl
  obtain ⟨kind, g, p, m, x⟩ := n
  simp only at rg rp rm rx hk16
  have mG : 0 ≤ m ∧ m < I.c.m → ∃ (k : Nat) (old : Mc), m = (k : Int) ∧ I.ms[k]? = some old ∧ I.mAt m = old := fun h => mGet (by omega)
  have pG : 0 ≤ p ∧ p < I.c.n → ∃ (k : Nat) (v : Int), p = (k : Int) ∧ I.ps[k]? = some v ∧ I.pAt p = v := fun h => pGet (by omega)
  rcases kinds_or (n := ⟨kind, g, p, m, x⟩) hk16 with e | e | e | e | e | e | e | e | e | e | e | e | e | e | e | e <;> (simp only at e; subst e)
  · -- Born
    have hg := rg (by decide)
    have hy' : (decide ((I.mAt m).a = 2) && (decide ((I.mAt m).g = x) && decide (I.tab.row[0]? = some g))) = true := hy
    simp only [Bool.and_eq_true, decide_eq_true_eq] at hy'
    obtain ⟨_, _, hrow⟩ := hy'
    obtain ⟨rest, hrr⟩ : ∃ rest, I.tab.row = g :: rest := by
      cases hR : I.tab.row with
      | nil => rw [hR] at hrow; simp at hrow
      | cons y t => rw [hR] at hrow; simp at hrow; exact ⟨t, by rw [hrow]⟩
    have hgl : 0 ≤ g ∧ g < I.tab.all.length := by omega
    have hs0 : I.stat g = 0 := h.row g (by rw [hrr]; simp)
    have hnd := h.nd
    rw [hrr, List.nodup_cons] at hnd
    have hst : ∀ y : Int, (⟨I.c, I.tab.make.2.2, I.sem, I.ms, I.ps, I.many + 1⟩ : Ide).stat y = if y = g then 1 else I.stat y := fun y => stat_make hrr hgl y
    show Inv ⟨I.c, I.tab.make.2.2, I.sem, I.ms, I.ps, I.many + 1⟩ cnt
    refine ⟨h.pp, fun y h0 h1 => ?_, ?_, ?_, h.se, h.cl, h.ca⟩
    · obtain ⟨d1, d2, d3⟩ := h.st y h0 h1
      rw [hst]
      by_cases hyg : y = g
      · subst hyg
        rw [hs0] at d1 d2 d3
        rw [if_pos rfl]
        simp at d1 d2 d3 ⊢
        exact ⟨d1, d2, d3⟩
      · rw [if_neg hyg]; exact ⟨d1, d2, d3⟩
    · intro y hy
      have hy2 : y ∈ rest := by rw [← row_make hrr]; exact hy
      rw [hst, if_neg (fun e : y = g => hnd.1 (e ▸ hy2))]
      exact h.row y (by rw [hrr]; exact List.mem_cons_of_mem _ hy2)
    · show I.tab.make.2.2.row.Nodup
      rw [row_make hrr]; exact hnd.2
  · -- Dispatch
    have hg := rg (by decide)
    obtain ⟨k, old, rfl, hk, hA⟩ := mG (rm (by decide))
    obtain ⟨kp, v, rfl, hv, hB⟩ := pG (rp (by decide))
    have hy' : (searchesB I ⟨2, g, kp, k, x⟩ && decide (I.stat g = 1)) = true := hy
    simp only [searchesB, hA, Bool.and_eq_true, decide_eq_true_eq] at hy'
    obtain ⟨⟨a1, a2, a3⟩, hst⟩ := hy'
    obtain ⟨mi, mp⟩ := h.pp.mi k old hk
    have hv2 : I.ps[kp]? = some (k : Int) := by have := mp (by omega); rwa [a2, Int.toNat_natCast] at this
    have mn : MI I.c { old with a := 2, p := (kp : Int), g := g } := ⟨by simp, by have := mi.p; simp only; omega, by simp only; omega, by simp; omega, by simp, by simp, by simp⟩
    show Inv ⟨I.c, (I.tab.set g 2).2, I.sem, I.ms.modify (k : Int).toNat (fun x => { x with a := 2, p := (kp : Int), g := g }), if 0 ≤ (kp : Int) then I.ps.set (kp : Int).toNat (k : Int) else I.ps, I.many + 1⟩ cnt
    rw [if_pos (by omega), Int.toNat_natCast, Int.toNat_natCast]
    refine h.setTurn tl hk rfl (h.pp.has (f := fun x => { x with a := 2, p := (kp : Int), g := g }) hk hv2 rfl mn (.inl a2) (.inl rfl)) hg ?_ ?_ ?_ ?_ ?_ ?_ ?_ _
    · rw [hst]; rfl
    · omega
    · rw [hst]; simp [rW, a1]
    · rw [hst]; simp [cW, a1]
    · omega
    · intro y hy; simp [rW, cW, a1]; omega
    · simp
  · -- Yield
    obtain ⟨k, old, rfl, hk, hA⟩ := mG (rm (by decide))
    obtain ⟨kp, v, rfl, hv, hB⟩ := pG (rp (by decide))
    have hy' : runsB I ⟨3, g, kp, k, x⟩ = true := hy
    simp only [runsB, hA, decide_eq_true_eq] at hy'
    obtain ⟨a1, a2, a3⟩ := hy'
    subst a3
    show Inv ⟨I.c, (I.tab.set old.g 1).2, I.sem, I.ms.modify (k : Int).toNat (fun x => { x with a := 1, p := (kp : Int), g := -1 }), if 0 ≤ (kp : Int) then I.ps.set (kp : Int).toNat (k : Int) else I.ps, I.many + 1⟩ cnt
    rw [if_pos (by omega), Int.toNat_natCast, Int.toNat_natCast]
    exact h.searches tl hk a1 a2 (.inr rfl) _
  · -- Preempt
    obtain ⟨k, old, rfl, hk, hA⟩ := mG (rm (by decide))
    obtain ⟨kp, v, rfl, hv, hB⟩ := pG (rp (by decide))
    have hy' : runsB I ⟨4, g, kp, k, x⟩ = true := hy
    simp only [runsB, hA, decide_eq_true_eq] at hy'
    obtain ⟨a1, a2, a3⟩ := hy'
    subst a3
    show Inv ⟨I.c, (I.tab.set old.g 1).2, I.sem, I.ms.modify (k : Int).toNat (fun x => { x with a := 1, p := (kp : Int), g := -1 }), if 0 ≤ (kp : Int) then I.ps.set (kp : Int).toNat (k : Int) else I.ps, I.many + 1⟩ cnt
    rw [if_pos (by omega), Int.toNat_natCast, Int.toNat_natCast]
    exact h.searches tl hk a1 a2 (.inr rfl) _
  · -- Took
    obtain ⟨k, old, rfl, hk, hA⟩ := mG (rm (by decide))
    have hy' : (runsB I ⟨5, g, p, k, x⟩ && decide (0 < I.count x)) = true := hy
    simp only [runsB, hA, Bool.and_eq_true, decide_eq_true_eq] at hy'
    obtain ⟨⟨a1, a2, a3⟩, hc⟩ := hy'
    obtain ⟨j, l, c, rfl, hj4, hj, _, hcc⟩ := sGet sl (rx (by decide))
    rw [hcc] at hc
    have hg := rg (by decide)
    subst a3
    have hst := stat_runs h hk a1 hg
    have hnw := (h.st old.g hg.1 hg.2).2.2
    rw [hst, if_neg (by omega)] at hnw
    have hac : (acqS I.sem (j : Int) old.g).1 = I.sem.modify j fun r => (r.1, c - 1) := by
      unfold acqS
      rw [if_neg (by omega), nWaits_zero hnw]
      simp only [Option.isSome_none, Bool.false_eq_true, if_false, Int.toNat_natCast, hj, if_pos hc, countS]
    obtain ⟨s1, s2, s3, s4, s5⟩ := h.se j l c hj
    show Inv ⟨I.c, I.tab, (acqS I.sem (j : Int) old.g).1, I.ms, I.ps, I.many + 1⟩ (cnt.modify (j : Int).toNat (· - 1))
    rw [hac, Int.toNat_natCast]
    refine ⟨h.pp, fun y h0 h1 => ?_, h.row, h.nd, ?_, by rw [List.length_modify]; exact h.cl, h.ca⟩
    · obtain ⟨d1, d2, d3⟩ := h.st y h0 h1
      have e := nWaits_mod (fun r => (r.1, c - 1)) hj y
      refine ⟨d1, d2, ?_⟩
      show nWaits (I.sem.modify j fun r => (r.1, c - 1)) y = (if I.stat y = 3 then 1 else 0)
      simp only at e
      omega
    · exact se_mod h.se hj (f := fun r => (r.1, c - 1)) rfl rfl s2 (fun _ => s3 hc) (by omega)
  · -- Wait
    obtain ⟨k, old, rfl, hk, hA⟩ := mG (rm (by decide))
    obtain ⟨kp, v, rfl, hv, hB⟩ := pG (rp (by decide))
    have hy' : (runsB I ⟨6, g, kp, k, x⟩ && decide (I.count x = 0)) = true := hy
    simp only [runsB, hA, Bool.and_eq_true, decide_eq_true_eq] at hy'
    obtain ⟨⟨a1, a2, a3⟩, hc⟩ := hy'
    obtain ⟨j, l, c, rfl, hj4, hj, _, hcc⟩ := sGet sl (rx (by decide))
    rw [hcc] at hc
    have hg := rg (by decide)
    subst a3
    have hst := stat_runs h hk a1 hg
    have hnw := (h.st old.g hg.1 hg.2).2.2
    rw [hst, if_neg (by omega)] at hnw
    have hac : (acqS I.sem (j : Int) old.g).1 = I.sem.modify j fun r => (r.1 ++ [old.g], r.2) := by
      unfold acqS
      rw [if_neg (by omega), nWaits_zero hnw]
      simp only [Option.isSome_none, Bool.false_eq_true, if_false, Int.toNat_natCast, hj, if_neg (show ¬ 0 < c by omega), pushS]
    obtain ⟨s1, s2, s3, s4, s5⟩ := h.se j l c hj
    obtain ⟨mi, mp⟩ := h.pp.mi k old hk
    have hv2 : I.ps[kp]? = some (k : Int) := by have := mp (by omega); rwa [a2, Int.toNat_natCast] at this
    have mn : MI I.c { old with a := 1, p := (kp : Int), g := -1 } := ⟨by simp, by have := mi.p; simp only; omega, by have := mi.g; simp only; omega, by simp, by simp, by simp, by simp⟩
    have hgl : 0 ≤ old.g ∧ old.g < I.tab.all.length := by omega
    have hmy : may (I.stat old.g) 3 = true := by rw [hst]; rfl
    have hrw := row_turn h hgl hmy (by omega)
    show Inv ⟨I.c, (I.tab.set old.g 3).2, (acqS I.sem (j : Int) old.g).1, I.ms.modify (k : Int).toNat (fun x => { x with a := 1, p := (kp : Int), g := -1 }), if 0 ≤ (kp : Int) then I.ps.set (kp : Int).toNat (k : Int) else I.ps, I.many + 1⟩ cnt
    rw [hac, if_pos (by omega), Int.toNat_natCast, Int.toNat_natCast]
    have hs' : ∀ y : Int, (⟨I.c, (I.tab.set old.g 3).2, I.sem.modify j fun r => (r.1 ++ [old.g], r.2), I.ms.modify k (fun x => { x with a := 1, p := (kp : Int), g := -1 }), I.ps.set kp (k : Int), I.many + 1⟩ : Ide).stat y = if y = old.g then 3 else I.stat y := fun y => stat_tset hgl hmy y
    refine ⟨h.pp.has (f := fun x => { x with a := 1, p := (kp : Int), g := -1 }) hk hv2 rfl mn (.inl a2) (.inl rfl), fun y h0 h1 => ?_, hrw.1, hrw.2, ?_, h.cl, ?_⟩
    · obtain ⟨d1, d2, d3⟩ := h.st y h0 h1
      have e1 := nRuns_mod (fun x => { x with a := 1, p := (kp : Int), g := -1 }) hk y
      have e2 := nCalls_mod (fun x => { x with a := 1, p := (kp : Int), g := -1 }) hk y
      have e3 := nWaits_mod (fun r => (r.1 ++ [old.g], r.2)) hj y
      rw [hs']
      simp only [List.count_append, List.count_singleton, beq_iff_eq] at e3
      refine ⟨?_, ?_, ?_⟩
      · show nRuns (I.ms.modify k _) y = _
        by_cases hyg : y = old.g
        · subst hyg
          rw [hst] at d1
          simp [rW, a1] at e1 d1 ⊢
          omega
        · rw [if_neg hyg]
          simp [rW, a1, Ne.symm hyg] at e1
          omega
      · show nCalls (I.ms.modify k _) y = _
        by_cases hyg : y = old.g
        · subst hyg
          rw [hst] at d2
          simp [cW, a1] at e2 d2 ⊢
          omega
        · rw [if_neg hyg]
          simp [cW, a1] at e2
          omega
      · show nWaits (I.sem.modify j _) y = _
        by_cases hyg : y = old.g
        · subst hyg
          simp at e3 ⊢
          omega
        · rw [if_neg hyg]
          rw [if_neg (fun e => hyg e.symm)] at e3
          omega
    · have := se_mod (gc := id) h.se hj (f := fun r => (r.1 ++ [old.g], r.2)) (l' := l ++ [old.g]) (c' := c) rfl rfl (by
        intro y hy
        rcases List.mem_append.1 hy with e | e
        · exact s2 y e
        · rw [List.mem_singleton.1 e]; exact hg) (fun e => by omega) ⟨s4, s5⟩
      intro s l2 c2 e
      have := this s l2 c2 e
      refine ⟨?_, this.2⟩
      have h1 := this.1
      rw [List.getElem?_modify] at h1
      cases hcs : cnt[s]? with
      | none => rw [hcs] at h1; simp at h1
      | some w => rw [hcs] at h1; simpa using h1
    · have e := callers_mod (fun x => { x with a := 1, p := (kp : Int), g := -1 }) hk
      have hca0 := h.ca
      show (((I.ms.modify k _).countP fun m => decide (m.a = 3) : Nat) : Int) ≤ I.c.m - I.c.n
      unfold Ide.callers at hca0
      simp [a1] at e
      omega
  · -- Gave
    have hy' : (runsB I ⟨7, g, p, m, x⟩ && (I.first x (-1) && decide (I.count x < 1073741824))) = true := hy
    simp only [Bool.and_eq_true, decide_eq_true_eq] at hy'
    obtain ⟨_, hfi, hc⟩ := hy'
    obtain ⟨j, l, c, rfl, hj4, hj, hro, hcc⟩ := sGet sl (rx (by decide))
    rw [hcc] at hc
    have hl0 : l = [] := by
      unfold Ide.first at hfi
      rw [if_pos (by omega), hro] at hfi
      exact of_decide_eq_true hfi
    subst hl0
    obtain ⟨s1, s2, s3, s4, s5⟩ := h.se j [] c hj
    have hac : (relS I.sem (j : Int)).1 = I.sem.modify j fun r => (r.1, c + 1) := by
      unfold relS
      rw [if_neg (by omega)]
      simp only [Int.toNat_natCast, hj, if_neg (show ¬ c = 1073741824 by omega), countS]
    show Inv ⟨I.c, I.tab, (relS I.sem (j : Int)).1, I.ms, I.ps, I.many + 1⟩ (cnt.modify (j : Int).toNat (· + 1))
    rw [hac, Int.toNat_natCast]
    refine ⟨h.pp, fun y h0 h1 => ?_, h.row, h.nd, ?_, by rw [List.length_modify]; exact h.cl, h.ca⟩
    · obtain ⟨d1, d2, d3⟩ := h.st y h0 h1
      have e := nWaits_mod (fun r => (r.1, c + 1)) hj y
      refine ⟨d1, d2, ?_⟩
      show nWaits (I.sem.modify j fun r => (r.1, c + 1)) y = (if I.stat y = 3 then 1 else 0)
      simp only at e
      omega
    · exact se_mod h.se hj (f := fun r => (r.1, c + 1)) rfl rfl s2 (fun _ => rfl) (by omega)
  · -- Ready
    have hg := rg (by decide)
    have hy' : (decide ((I.mAt m).a = 2) && I.first x g) = true := hy
    simp only [Bool.and_eq_true, decide_eq_true_eq] at hy'
    obtain ⟨_, hfi⟩ := hy'
    obtain ⟨j, l, c, rfl, hj4, hj, hro, hcc⟩ := sGet sl (rx (by decide))
    obtain ⟨t, rfl⟩ : ∃ t, l = g :: t := by
      unfold Ide.first at hfi
      rw [if_neg (by omega), hro] at hfi
      have := of_decide_eq_true hfi
      cases l with
      | nil => simp at this
      | cons y t => simp at this; exact ⟨t, by rw [this]⟩
    obtain ⟨s1, s2, s3, s4, s5⟩ := h.se j _ c hj
    have hnw := nWaits_at hj (show g ∈ (g :: t, c).1 by simp)
    obtain ⟨d1, d2, d3⟩ := h.st g hg.1 hg.2
    have hst : I.stat g = 3 := by
      by_cases e : I.stat g = 3
      · exact e
      · rw [if_neg e] at d3; omega
    have hac : (relS I.sem (j : Int)).1 = I.sem.modify j fun r => (t, c) := by
      unfold relS
      rw [if_neg (by omega)]
      simp only [Int.toNat_natCast, hj]
      rw [modify_at hj]
    have hgl : 0 ≤ g ∧ g < I.tab.all.length := by omega
    have hmy : may (I.stat g) 1 = true := by rw [hst]; rfl
    have hrw := row_turn h hgl hmy (by omega)
    show Inv ⟨I.c, (I.tab.set g 1).2, (relS I.sem (j : Int)).1, I.ms, I.ps, I.many + 1⟩ cnt
    rw [hac]
    have hs' : ∀ y : Int, (⟨I.c, (I.tab.set g 1).2, I.sem.modify j fun r => (t, c), I.ms, I.ps, I.many + 1⟩ : Ide).stat y = if y = g then 1 else I.stat y := fun y => stat_tset hgl hmy y
    refine ⟨h.pp, fun y h0 h1 => ?_, hrw.1, hrw.2, ?_, h.cl, h.ca⟩
    · obtain ⟨d1, d2, d3⟩ := h.st y h0 h1
      have e3 := nWaits_mod (fun _ => (t, c)) hj y
      simp only [List.count_cons, beq_iff_eq] at e3
      rw [hs']
      by_cases hyg : y = g
      · subst hyg
        rw [hst] at d1 d2 d3
        simp at d1 d2 d3 e3 ⊢
        refine ⟨d1, d2, ?_⟩
        omega
      · rw [if_neg hyg]
        rw [if_neg (fun e => hyg e.symm)] at e3
        refine ⟨d1, d2, ?_⟩
        show nWaits (I.sem.modify j fun _ => (t, c)) y = (if I.stat y = 3 then 1 else 0)
        omega
    · have := se_mod (gc := id) h.se hj (f := fun _ => (t, c)) (l' := t) (c' := c) rfl rfl (fun y hy => s2 y (List.mem_cons_of_mem _ hy)) (fun e => by have := s3 e; cases this) ⟨s4, s5⟩
      intro s l2 c2 e
      have := this s l2 c2 e
      refine ⟨?_, this.2⟩
      have h1 := this.1
      rw [List.getElem?_modify] at h1
      cases hcs : cnt[s]? with
      | none => rw [hcs] at h1; simp at h1
      | some w => rw [hcs] at h1; simpa using h1
  · -- Exit
    obtain ⟨k, old, rfl, hk, hA⟩ := mG (rm (by decide))
    obtain ⟨kp, v, rfl, hv, hB⟩ := pG (rp (by decide))
    have hy' : runsB I ⟨9, g, kp, k, x⟩ = true := hy
    simp only [runsB, hA, decide_eq_true_eq] at hy'
    obtain ⟨a1, a2, a3⟩ := hy'
    subst a3
    show Inv ⟨I.c, (I.tab.set old.g 0).2, I.sem, I.ms.modify (k : Int).toNat (fun x => { x with a := 1, p := (kp : Int), g := -1 }), if 0 ≤ (kp : Int) then I.ps.set (kp : Int).toNat (k : Int) else I.ps, I.many + 1⟩ cnt
    rw [if_pos (by omega), Int.toNat_natCast, Int.toNat_natCast]
    exact h.searches tl hk a1 a2 (.inl rfl) _
  · -- Call
    obtain ⟨k, old, rfl, hk, hA⟩ := mG (rm (by decide))
    obtain ⟨kp, v, rfl, hv, hB⟩ := pG (rp (by decide))
    have hy' : (runsB I ⟨10, g, kp, k, x⟩ && decide ((I.callers : Int) < I.c.m - I.c.n)) = true := hy
    simp only [runsB, hA, Bool.and_eq_true, decide_eq_true_eq] at hy'
    obtain ⟨⟨a1, a2, a3⟩, hca⟩ := hy'
    have hg := rg (by decide)
    subst a3
    have hst := stat_runs h hk a1 hg
    obtain ⟨mi, mp⟩ := h.pp.mi k old hk
    have hv2 : I.ps[kp]? = some (k : Int) := by have := mp (by omega); rwa [a2, Int.toNat_natCast] at this
    have mn : MI I.c { old with a := 3, p := (kp : Int), g := old.g, b := (kp : Int) } := ⟨by simp, by have := mi.p; simp only; omega, by simp only; omega, by simp; omega, by simp, by simp, by simp⟩
    have e2 : (I.ms.modify k (fun x => { x with a := 3, p := (kp : Int), g := old.g })).modify k (fun x => { x with b := (kp : Int) }) = I.ms.modify k (fun x => { x with a := 3, p := (kp : Int), g := old.g, b := (kp : Int) }) := by
      apply List.ext_getElem?
      intro j
      simp only [List.getElem?_modify]
      cases I.ms[j]? with
      | none => rfl
      | some y => simp only [Option.map_eq_map, Option.map_some]; split <;> rfl
    show Inv ⟨I.c, (I.tab.set old.g 4).2, I.sem, (I.ms.modify (k : Int).toNat (fun x => { x with a := 3, p := (kp : Int), g := old.g })).modify (k : Int).toNat (fun x => { x with b := (kp : Int) }), if 0 ≤ (kp : Int) then I.ps.set (kp : Int).toNat (k : Int) else I.ps, I.many + 1⟩ cnt
    rw [if_pos (by omega), Int.toNat_natCast, Int.toNat_natCast, e2]
    refine h.setTurn tl hk rfl (h.pp.has (f := fun x => { x with a := 3, p := (kp : Int), g := old.g, b := (kp : Int) }) hk hv2 rfl mn (.inl a2) (.inl rfl)) hg ?_ ?_ ?_ ?_ ?_ ?_ ?_ _
    · rw [hst]; rfl
    · omega
    · rw [hst]; simp [rW, a1]
    · rw [hst]; simp [cW, a1]
    · omega
    · intro y hy; simp [rW, cW, a1]; omega
    · intro _; exact .inr hca
  · -- Back
    obtain ⟨k, old, rfl, hk, hA⟩ := mG (rm (by decide))
    obtain ⟨kp, v, rfl, hv, hB⟩ := pG (rp (by decide))
    have hkp := (rp (by decide)).2
    by_cases hx : x = 1
    · subst hx
      have hy' : (callsB I ⟨11, g, kp, k, 1⟩ && (decide ((I.mAt k).b = kp) && I.kept kp)) = true := hy
      simp only [callsB, Ide.kept, hA, hB, Bool.and_eq_true, decide_eq_true_eq] at hy'
      obtain ⟨⟨a1, a3⟩, ab, v0, va⟩ := hy'
      subst a3
      rcases h.pp.pi kp v hv with e | e | ⟨_, mv, hmv, hmp⟩
      · omega
      · omega
      have hvA : I.mAt v = mv := by unfold Ide.mAt; rw [hmv]; rfl
      rw [hvA] at va
      obtain ⟨vi, vp⟩ := h.pp.mi _ mv hmv
      have vn : MI I.c { mv with p := -1 } := ⟨vi.a, by have := vi.p; simp only; omega, vi.g, vi.ga, by simp, by simp only; omega, by simp only; omega⟩
      have hI := h.place (ps := I.ps.set kp (-1)) (f := fun x => { x with p := -1 }) hmv (h.pp.clear hmv (by show (-1 : Int) < 0; omega) vn hmp (.inl rfl)) (fun y _ => ⟨rfl, rfl⟩) Iff.rfl I.many
      have hkl : kp < I.ps.length := (List.getElem?_eq_some_iff.1 hv).1
      obtain ⟨old2, hk2, ha2, hg2, hp2⟩ : ∃ old2, (I.ms.modify v.toNat fun x => { x with p := -1 })[k]? = some old2 ∧ old2.a = 3 ∧ old2.g = old.g ∧ old2.p < 0 := by
        by_cases e : k = v.toNat
        · subst e
          rw [hk] at hmv
          cases hmv
          exact ⟨_, mod_at hk, a1, rfl, by show (-1 : Int) < 0; omega⟩
        · refine ⟨old, by rw [mod_ne e]; exact hk, a1, rfl, ?_⟩
          obtain ⟨oi, op⟩ := h.pp.mi k old hk
          by_cases hp : old.p < 0
          · exact hp
          · have e1 := oi.began a1 (by omega)
            have e2 := op (by omega)
            rw [e1, ab, Int.toNat_natCast, hv] at e2
            cases e2
            exact absurd (Int.toNat_natCast k).symm e
      have := hI.back (kp := kp) (k := k) tl hk2 ha2 hp2 (List.getElem?_set_self hkl) hkp (I.many + 1)
      rw [hg2] at this
      show Inv ⟨I.c, (I.tab.set old.g 2).2, I.sem, (I.ms.modify (I.pAt (kp : Int)).toNat fun x => { x with p := -1 }).modify (k : Int).toNat (fun x => { x with a := 2, p := (kp : Int), g := old.g }), if 0 ≤ (kp : Int) then I.ps.set (kp : Int).toNat (k : Int) else I.ps, I.many + 1⟩ cnt
      rw [if_pos (by omega), Int.toNat_natCast, Int.toNat_natCast, hB]
      have e3 : (I.ps.set kp (-1)).set kp (k : Int) = I.ps.set kp (k : Int) := List.set_set ..
      rw [← e3]
      exact this
    · have hy' : (if x = 1 then callsB I ⟨11, g, kp, k, x⟩ && (decide ((I.mAt k).b = kp) && I.kept kp) else callsB I ⟨11, g, kp, k, x⟩ && (decide ((I.mAt k).p < 0) && decide (I.pAt kp = -1))) = true := hy
      rw [if_neg hx] at hy'
      simp only [callsB, hA, hB, Bool.and_eq_true, decide_eq_true_eq] at hy'
      obtain ⟨⟨a1, a3⟩, ap, rfl⟩ := hy'
      subst a3
      show Inv (stepI I ⟨11, old.g, kp, k, x⟩) cnt
      have e : stepI I ⟨11, old.g, kp, k, x⟩ = ⟨I.c, (I.tab.set old.g 2).2, I.sem, I.ms.modify k (fun x => { x with a := 2, p := (kp : Int), g := old.g }), I.ps.set kp (k : Int), I.many + 1⟩ := by
        show (⟨_, _, _, _, _, _⟩ : Ide) = _
        have e1 : doK I ⟨11, old.g, kp, k, x⟩ = (Ide.tset (if x = 1 then I.drops kp else I) old.g 2).has k kp 2 old.g := rfl
        rw [e1, if_neg hx]
        simp [Ide.has, Ide.tset]
      rw [e]
      exact h.back tl hk a1 ap hv hkp _
  · -- Lost
    obtain ⟨k, old, rfl, hk, hA⟩ := mG (rm (by decide))
    have hy' : (callsB I ⟨12, g, p, k, x⟩ && decide ((I.mAt k).p < 0)) = true := hy
    simp only [callsB, hA, Bool.and_eq_true, decide_eq_true_eq] at hy'
    obtain ⟨⟨a1, a3⟩, ap⟩ := hy'
    have hg := rg (by decide)
    subst a3
    have hst := stat_calls h hk a1 hg
    obtain ⟨mi, mp⟩ := h.pp.mi k old hk
    have hpm : old.p = -1 := by have := mi.p; omega
    have mn : MI I.c { old with a := 0, p := -1, g := -1 } := ⟨by simp, by have := mi.p; simp only; omega, by have := mi.g; simp only; omega, by simp, by simp, by simp, by simp⟩
    show Inv ⟨I.c, (I.tab.set old.g 1).2, I.sem, I.ms.modify (k : Int).toNat (fun x => { x with a := 0, p := -1, g := -1 }), I.ps, I.many + 1⟩ cnt
    rw [Int.toNat_natCast]
    refine h.setTurn tl hk rfl (h.pp.turn (f := fun x => { x with a := 0, p := -1, g := -1 }) hk (by rw [hpm]) mn) hg ?_ ?_ ?_ ?_ ?_ ?_ ?_ _
    · rw [hst]; rfl
    · omega
    · rw [hst]; simp [rW, a1]
    · rw [hst]; simp [cW, a1]
    · omega
    · intro y hy; simp [rW, cW, a1]; omega
    · simp
  · -- Start
    obtain ⟨k, old, rfl, hk, hA⟩ := mG (rm (by decide))
    obtain ⟨kp, v, rfl, hv, hB⟩ := pG (rp (by decide))
    have hkp := (rp (by decide)).2
    have hx2 := rx (by decide)
    have hx3 : xK I.c 13 = 2 := rfl
    rw [hx3] at hx2
    have hy' : (decide ((I.mAt k).a = 0) && decide (I.pAt kp = x - 2)) = true := hy
    simp only [hA, hB, Bool.and_eq_true, decide_eq_true_eq] at hy'
    obtain ⟨a1, hvx⟩ := hy'
    obtain ⟨mi, mp⟩ := h.pp.mi k old hk
    have hpm := mi.rest a1
    have hgm : old.g < 0 := by have := mi.ga; omega
    have mn : MI I.c { old with a := 1, p := (kp : Int), g := -1 } := ⟨by simp, by simp only; omega, by have := mi.g; simp only; omega, by simp, by simp, by simp, by simp⟩
    show Inv ⟨I.c, I.tab, I.sem, I.ms.modify (k : Int).toNat (fun x => { x with a := 1, p := (kp : Int), g := -1 }), if 0 ≤ (kp : Int) then I.ps.set (kp : Int).toNat (k : Int) else I.ps, I.many + 1⟩ cnt
    rw [if_pos (by omega), Int.toNat_natCast, Int.toNat_natCast]
    exact h.place (f := fun x => { x with a := 1, p := (kp : Int), g := -1 }) hk (h.pp.has (f := fun x => { x with a := 1, p := (kp : Int), g := -1 }) hk hv rfl mn (.inr hpm) (.inr (by omega))) (fun y hy => by simp [rW, cW, a1]) (by simp [a1]) _
  · -- Park
    obtain ⟨k, old, rfl, hk, hA⟩ := mG (rm (by decide))
    obtain ⟨kp, v, rfl, hv, hB⟩ := pG (rp (by decide))
    have hy' : searchesB I ⟨14, g, kp, k, x⟩ = true := hy
    simp only [searchesB, hA, decide_eq_true_eq] at hy'
    obtain ⟨a1, a2, a3⟩ := hy'
    obtain ⟨mi, mp⟩ := h.pp.mi k old hk
    have mn : MI I.c { old with a := 0, p := -1, g := -1 } := ⟨by simp, by have := mi.p; simp only; omega, by have := mi.g; simp only; omega, by simp, by simp, by simp, by simp⟩
    show Inv ⟨I.c, I.tab, I.sem, I.ms.modify (k : Int).toNat (fun x => { x with a := 0, p := -1, g := -1 }), I.ps.set (kp : Int).toNat (-1), I.many + 1⟩ cnt
    rw [Int.toNat_natCast, Int.toNat_natCast]
    exact h.place (f := fun x => { x with a := 0, p := -1, g := -1 }) hk (h.pp.clear (f := fun x => { x with a := 0, p := -1, g := -1 }) hk (by show (-1 : Int) < 0; omega) mn a2 (.inl rfl)) (fun y hy => by simp [rW, cW, a1]) (by simp [a1]) _
  · -- Retake
    obtain ⟨kp, v, rfl, hv, hB⟩ := pG (rp (by decide))
    have hy' : I.kept kp = true := hy
    simp only [Ide.kept, hB, Bool.and_eq_true, decide_eq_true_eq] at hy'
    obtain ⟨v0, va⟩ := hy'
    rcases h.pp.pi kp v hv with e | e | ⟨_, mv, hmv, hmp⟩
    · omega
    · omega
    have hvA : I.mAt v = mv := by unfold Ide.mAt; rw [hmv]; rfl
    rw [hvA] at va
    obtain ⟨vi, vp⟩ := h.pp.mi _ mv hmv
    have vn : MI I.c { mv with p := -1 } := ⟨vi.a, by have := vi.p; simp only; omega, vi.g, vi.ga, by simp, by simp only; omega, by simp only; omega⟩
    show Inv ⟨I.c, I.tab, I.sem, I.ms.modify (I.pAt (kp : Int)).toNat (fun x => { x with p := -1 }), I.ps.set (kp : Int).toNat (-2), I.many + 1⟩ cnt
    rw [hB, Int.toNat_natCast]
    exact h.place (f := fun x => { x with p := -1 }) hmv (h.pp.clear hmv (by show (-1 : Int) < 0; omega) vn hmp (.inr rfl)) (fun y _ => ⟨rfl, rfl⟩) Iff.rfl _
  · -- Flag
    exact ⟨h.pp, h.st, h.row, h.nd, h.se, h.cl, h.ca⟩
end
end Go.Proofs.YtlhnmbajbhaaoaaGreat
namespace Go.Proofs.YtlhnmbajbhaaoaaGreat
open Go Go.SL
set_option linter.unusedSimpArgs false
set_option linter.unusedVariables false
set_option maxHeartbeats 2000000
theorem new_row (m : Nat) (h : 1 ≤ m) : ∃ rest, (Tab.new m).row = 0 :: rest ∧ (∀ x ∈ rest, x ≠ 0) ∧ rest.Nodup := by
  have hn : ((List.range m).map fun (i : Nat) => (i : Int)).Nodup := by
    exact List.pairwise_map.2 (List.Pairwise.imp (fun {a b} (h : a ≠ b) => fun e => h (by omega)) List.nodup_range)
  obtain ⟨k, rfl⟩ : ∃ k, m = k + 1 := ⟨m - 1, by omega⟩
  have e : (Tab.new (k + 1)).row = 0 :: ((List.range k).map Nat.succ).map fun (i : Nat) => (i : Int) := by
    show (List.range (k + 1)).map (fun (i : Nat) => (i : Int)) = _
    rw [List.range_succ_eq_map]
    rfl
  refine ⟨_, e, ?_, ?_⟩
  · intro x hx
    simp only [List.mem_map] at hx
    obtain ⟨a, ⟨b, _, rfl⟩, rfl⟩ := hx
    omega
  · have hn' : (Tab.new (k + 1)).row.Nodup := hn
    rw [e] at hn'
    exact (List.nodup_cons.1 hn').2
theorem inv_new {c : Cfg} (hc : RightP c) : Inv (newI c) [c.s, c.s, c.s, c.s] := by
  have ok := new_ok hc
  obtain ⟨r, c1, c2, c3, c4, c5, c6, c7, c8, c9, c10⟩ := hc
  obtain ⟨rest, hr, hne, hnd⟩ := new_row c.g.toNat (by omega)
  have hst0 : ∀ y : Int, (⟨c, Tab.new c.g.toNat, newS 4 c.s, List.replicate c.m.toNat restM, List.replicate c.n.toNat (-1), 0⟩ : Ide).stat y = 0 := by
    intro y
    unfold Ide.stat
    split
    · show ((List.replicate c.g.toNat ((0 : Int), (0 : Int)))[y.toNat]?.getD (0, 0)).1 = 0
      rw [List.getElem?_replicate]
      split <;> rfl
    · rfl
  have hgl : 0 ≤ (0 : Int) ∧ (0 : Int) < (Tab.new c.g.toNat).all.length := by
    show 0 ≤ (0 : Int) ∧ (0 : Int) < ((List.replicate c.g.toNat ((0 : Int), (0 : Int))).length : Int)
    rw [List.length_replicate]; omega
  have hst : ∀ y : Int, (newI0 c).stat y = if y = 0 then 1 else 0 := by
    intro y
    have := stat_make (I := ⟨c, Tab.new c.g.toNat, newS 4 c.s, List.replicate c.m.toNat restM, List.replicate c.n.toNat (-1), 0⟩) hr hgl y
    rw [hst0] at this
    exact this
  have hm0 : (newI0 c).ms[0]? = some restM := by
    show (List.replicate c.m.toNat restM)[0]? = some restM
    rw [List.getElem?_replicate, if_pos (by omega)]
  have hp0 : (newI0 c).ps[0]? = some (-1) := by
    show (List.replicate c.n.toNat (-1 : Int))[0]? = some (-1)
    rw [List.getElem?_replicate, if_pos (by omega)]
  have mr : MI c restM := ⟨by simp [restM], by simp [restM]; omega, by simp [restM]; omega, by simp [restM], by simp [restM], by simp [restM], by simp [restM]⟩
  have h0 : Inv (newI0 c) [c.s, c.s, c.s, c.s] := by
    refine ⟨⟨fun k m hm => ?_, fun p v hp => ?_⟩, fun g g0 g1 => ?_, ?_, ?_, ?_, rfl, ?_⟩
    · have := List.eq_of_mem_replicate (List.mem_of_getElem? hm)
      subst this
      exact ⟨mr, fun h => by simp [restM] at h⟩
    · have := List.eq_of_mem_replicate (List.mem_of_getElem? hp)
      exact .inl this
    · rw [hst]
      refine ⟨?_, ?_, ?_⟩
      · show (List.replicate c.m.toNat restM).countP _ = _
        rw [List.countP_replicate]
        simp [restM]
        split <;> simp
      · show (List.replicate c.m.toNat restM).countP _ = _
        rw [List.countP_replicate]
        simp [restM]
        split <;> simp
      · show nWaits (newS 4 c.s) g = _
        simp [nWaits, newS, List.replicate]
        split <;> simp
    · intro g hg
      have hg' : g ∈ rest := by rw [← row_make (I := ⟨c, Tab.new c.g.toNat, newS 4 c.s, List.replicate c.m.toNat restM, List.replicate c.n.toNat (-1), 0⟩) hr]; exact hg
      rw [hst, if_neg (hne g hg')]
    · show ((Tab.new c.g.toNat).make.2.2).row.Nodup
      rw [row_make (I := ⟨c, Tab.new c.g.toNat, newS 4 c.s, List.replicate c.m.toNat restM, List.replicate c.n.toNat (-1), 0⟩) hr]
      exact hnd
    · intro s l x hs
      have hs4 : s < 4 := by
        have := (List.getElem?_eq_some_iff.1 hs).1
        simpa [newI0, newS] using this
      have he := List.eq_of_mem_replicate (List.mem_of_getElem? hs)
      cases he
      refine ⟨?_, by simp, by simp, by omega, by omega⟩
      match s, hs4 with
      | 0, _ => rfl
      | 1, _ => rfl
      | 2, _ => rfl
      | 3, _ => rfl
    · show (((List.replicate c.m.toNat restM).countP fun m => decide (m.a = 3) : Nat) : Int) ≤ c.m - c.n
      rw [List.countP_replicate]
      simp [restM]
      omega
  have mn : MI c { restM with a := 1, p := ((0 : Nat) : Int), g := -1 } := ⟨by simp, by simp only; omega, by simp only; omega, by simp, by simp, by simp, by simp [restM]⟩
  have := h0.place (k := 0) (f := fun x => { x with a := 1, p := ((0 : Nat) : Int), g := -1 }) hm0 (h0.pp.has (kp := 0) (k := 0) (f := fun x => { x with a := 1, p := ((0 : Nat) : Int), g := -1 }) hm0 hp0 rfl mn (.inr (by simp [restM])) (.inr (by omega))) (fun y hy => by simp [rW, cW, restM]) (by simp [restM]) 0
  exact this
/-! Tallies. -/
def tal {α : Type} (q : α → Nat → Bool) (N : Nat) (l : List α) : List Int := (List.range N).map fun i => (l.countP (fun x => q x i) : Int)
section
variable {α : Type} {q : α → Nat → Bool} {N : Nat} {l : List α} {x : α} {i : Nat}
end
def qP (m : Mc) (i : Nat) : Bool := decide (m.p = (i : Int))
theorem countP_one {α : Type} {P : α → Bool} : ∀ {l : List α} {k : Nat} {x : α}, l[k]? = some x → P x = true → (∀ (j : Nat) (y : α), l[j]? = some y → j ≠ k → P y = false) → l.countP P = 1
  | [], k, x, h, _, _ => by simp at h
  | y :: l, 0, x, h, hp, hn => by
    simp only [List.getElem?_cons_zero, Option.some.injEq] at h
    subst h
    rw [List.countP_cons, if_pos hp, List.countP_eq_zero.2]
    intro z hz
    obtain ⟨j, hj, rfl⟩ := List.getElem_of_mem hz
    have := hn (j + 1) l[j] (by rw [List.getElem?_cons_succ]; exact List.getElem?_eq_getElem hj) (by omega)
    rw [this]; simp
  | y :: l, k + 1, x, h, hp, hn => by
    simp only [List.getElem?_cons_succ] at h
    have hy := hn 0 y rfl (by omega)
    rw [List.countP_cons, hy]
    simpa using countP_one h hp fun j z hj hne => hn (j + 1) z (by rw [List.getElem?_cons_succ]; exact hj) (by omega)
/-- How many Ms have a P. -/
theorem PP.count {c : Cfg} {ms : List Mc} {ps : List Int} (h : PP c ms ps) {p : Nat} {v : Int} (hv : ps[p]? = some v) : (ms.countP (fun m => qP m p) = 0 ∧ (v = -1 ∨ v = -2)) ∨ (ms.countP (fun m => qP m p) = 1 ∧ 0 ≤ v) := by
  rcases h.pi p v hv with e | e | ⟨h0, m, hm, he⟩
  · refine .inl ⟨?_, .inl e⟩
    rw [List.countP_eq_zero]
    intro m hm hq
    obtain ⟨j, hj, rfl⟩ := List.getElem_of_mem hm
    have e1 : (ms[j]).p = (p : Int) := of_decide_eq_true hq
    have := (h.mi j _ (List.getElem?_eq_getElem hj)).2 (by omega)
    rw [e1, Int.toNat_natCast, hv] at this
    cases this
    omega
  · refine .inl ⟨?_, .inr e⟩
    rw [List.countP_eq_zero]
    intro m hm hq
    obtain ⟨j, hj, rfl⟩ := List.getElem_of_mem hm
    have e1 : (ms[j]).p = (p : Int) := of_decide_eq_true hq
    have := (h.mi j _ (List.getElem?_eq_getElem hj)).2 (by omega)
    rw [e1, Int.toNat_natCast, hv] at this
    cases this
    omega
  · refine .inr ⟨countP_one hm (decide_eq_true he) fun j y hj hne => ?_, h0⟩
    refine decide_eq_false fun e1 => ?_
    have := (h.mi j y hj).2 (by omega)
    rw [e1, Int.toNat_natCast, hv] at this
    cases this
    omega
end Go.Proofs.YtlhnmbajbhaaoaaGreat
namespace Go.Proofs.YtlhnmbajbhaaoaaGreat
open Go Go.SL
set_option linter.unusedSimpArgs false
set_option linter.unusedVariables false
set_option maxRecDepth 10000
set_option maxHeartbeats 8000000
attribute [local irreducible] WP WPL QSeq QBlk QRet Does Cell Cells Rd Mine Ent Aside RV Yield TabAt SemAt IdeAt tal
section
variable {B : World} {H F G : HProp} {x : Nat} {L : IdL} {cnt : List Int} {sc : Value} {K s w : Int}
end
end Go.Proofs.YtlhnmbajbhaaoaaGreat
namespace Go.Proofs.YtlhnmbajbhaaoaaGreat
open Go Go.SL
set_option linter.unusedSimpArgs false
set_option linter.unusedVariables false
set_option maxRecDepth 10000
set_option maxHeartbeats 4000000
def c0 : Cfg := ⟨1, 2, 2, 2, 2, 0⟩
def l0 : List Nt := [⟨2, 0, 0, 0, 0⟩, ⟨1, 1, -1, 0, 0⟩, ⟨6, 0, 0, 0, 2⟩, ⟨2, 1, 0, 0, 1⟩, ⟨8, 0, -1, 0, 2⟩, ⟨9, 1, 0, 0, -1⟩, ⟨2, 1, 0, 0, 0⟩]
def n6 : Nt := ⟨2, 1, 0, 0, 0⟩
def I6 : Ide := (takeI (newI c0) (l0.take 6)).2
theorem f1 : (takeI (newI c0) (l0.take 6)).1 = 6 := by kernel_rfl
theorem f2 : mayB I6 n6 = false := by kernel_rfl
theorem f3 : I6.many = 6 := by kernel_rfl
theorem f4 : I6.stat 0 = 1 := by kernel_rfl
theorem f5 : decide (0 ≤ (0 : Int) ∧ (0 : Int) < I6.tab.all.length) = true := by kernel_rfl
theorem f6 : stC I6 0 = [.int .i64 1, .int .i64 0, .int .i64 (-1)] := by kernel_rfl
theorem f7 : decide (0 ≤ (0 : Int) ∧ (0 : Int) < I6.ms.length) = true := by kernel_rfl
theorem f8 : (if 0 ≤ (0 : Int) ∧ (0 : Int) < I6.ps.length then I6.pAt 0 else -3) = 0 := by kernel_rfl
theorem f9 : takeI I6 [n6] = (0, I6) := by
  rw [takeI_cons, f2]; rfl
theorem r0 : RightP c0 := by decide
theorem ok6 : I6.ok 19 := by
  have := takeI_ok (l0.take 6) (new_ok r0)
  exact this
attribute [local irreducible] WP WPL QSeq QBlk QRet Does Cell Cells Rd Mine Ent Aside RV Yield TabAt SemAt IdeAt newI I6
section
variable {B : World} {H F G : HProp} {x : Nat} {n : Nt} {k : Int}
theorem notes_spec : Does Tryz.prog B 29 [] H fun r H' => ∃ b, r = .slice (some ⟨b, 0, none⟩) 7 7 ∧ H' = blk b (nvs l0) 59 + H := by
  refine fn_intro 9 Tryz.func29 rfl rfl rfl ?_
  refine walk ?_
  (refine s_build (cs := nv ⟨2, 0, 0, 0, 0⟩) ?_ rfl ?_; (· kernel_rfl))
  refine walk ?_
  (refine s_build (cs := nv ⟨1, 1, -1, 0, 0⟩) ?_ rfl ?_; (· kernel_rfl))
  refine walk ?_
  (refine s_build (cs := nv ⟨6, 0, 0, 0, 2⟩) ?_ rfl ?_; (· kernel_rfl))
  refine walk ?_
  (refine s_build (cs := nv ⟨2, 1, 0, 0, 1⟩) ?_ rfl ?_; (· kernel_rfl))
  refine walk ?_
  (refine s_build (cs := nv ⟨8, 0, -1, 0, 2⟩) ?_ rfl ?_; (· kernel_rfl))
  refine walk ?_
  (refine s_build (cs := nv ⟨9, 1, 0, 0, -1⟩) ?_ rfl ?_; (· kernel_rfl))
  refine walk ?_
  (refine s_build (cs := nv ⟨2, 1, 0, 0, 0⟩) ?_ rfl ?_; (· kernel_rfl))
  refine walk ?_
  refine s_buildSlice (cs := nvs l0) rfl ?_ rfl ?_
  · kernel_rfl
  intro b
  refine walk ?_
  (first | refine ret1 (v := .slice _ _ _) (.inr rfl) rfl rfl ?_ | refine ret1  (.inr rfl) rfl rfl ?_ | refine ret1 (v := .slice _ _ _) (.inl rfl) rfl rfl ?_ | refine ret1  (.inl rfl) rfl rfl ?_)
  exact ⟨b, rfl, rfl⟩
theorem works_spec : Does Tryz.prog B 7 [] H fun r H' => H' = H ∧ r = .bool true := by
  refine Does.frame0 ?_
  refine fn_intro 79 Tryz.func7 rfl rfl rfl ?_
  refine walk ?_
  (refine s_build (cs := cv c0) ?_ rfl ?_; (· kernel_rfl))
  refine walk ?_
  refine s_call rfl (iNew (c := c0) r0) rfl ?_
  rintro _ _ ⟨x, L, hL, rfl, rfl⟩
  refine walk ?_
  refine s_call rfl notes_spec rfl ?_
  rintro _ _ ⟨bl, rfl, rfl⟩
  have rd7 : Rd B (blk bl (nvs l0) 59) 5 (.slice (some ⟨bl, 0, none⟩) 7 7) 7 (nvs l0) := Rd.blk0 (e := 59) rfl (by simp [maxLen])
  have rd6 : Rd B (blk bl (nvs l0) 59) 5 (.slice (some ⟨bl, 0, none⟩) 6 7) (l0.take 6).length (nvs (l0.take 6)) := by
    have := Rd.sliceH (B := B) (H := blk bl (nvs l0) 59) (sz := 5) (n := 7) (cap := 7) (ao := some ⟨bl, 0, none⟩) (cs := nvs l0) 6 rd7 (by omega)
    rw [nvs_take l0 6 (by decide)] at this
    exact this
  have hc6 : Cells B (blk bl (nvs l0) 59) bl 30 (nv n6) := by
    have h : Cells B (blk bl (nvs l0) 59) bl 0 (nvs l0) := by
      rw [← HProp.add_emp (blk bl (nvs l0) 59)]
      exact Cells.blk0
    have := nvs_cells h (k := 6) (by decide)
    exact this
  have okN : L.I.ok 1 := by rw [hL]; exact new_ok r0
  have e6 : (takeI L.I (l0.take 6)).2 = I6 := by rw [hL]; unfold I6; rfl
  have e6n : (takeI L.I (l0.take 6)).1 = 6 := by rw [hL]; exact f1
  have ok6' : (L.put I6).I.ok 19 := ok6
  refine walk ?_
  (apply s_sliceH (h := 6); (· exact rfl); (· exact rfl); (· omega); (· omega); (· exact rfl))
  refine walk ?_
  refine s_call rfl (iTake (x := x) (L := L) (l := l0.take 6) (rd6.ent InH.ent) okN (by decide)) rfl ?_
  rintro _ _ ⟨rfl, rfl⟩
  rw [e6, e6n, show (if 6 = (l0.take 6).length then (0 : Int) else 260) = 0 from rfl, show ((6 : Nat) : Int) = 6 from rfl]
  refine walk ?_
  (apply s_indexAddr (j := 6) (o' := 30); (· exact rfl); (· exact rfl); (· omega); (· omega); (· omega); (· exact rfl))
  refine walk ?_
  refine s_buildSlice (cs := nv n6) rfl ?_ rfl ?_
  · kernel_rfl
  intro bn
  refine walk ?_
  refine s_call rfl (iTake (x := x) (L := L.put I6) (l := [n6]) (s := .slice (some ⟨bn, 0, none⟩) 1 1) (Rd.ent (G := blk bn (nv n6) 59) (Rd.blk0 (e := 59) rfl (by simp [maxLen])) InH.ent) ok6' (by decide)) rfl ?_
  rintro _ _ ⟨rfl, rfl⟩
  rw [show takeI (L.put I6).I [n6] = (0, I6) from f9, show (L.put I6).put (0, I6).2 = L.put I6 from rfl, show (if (0, I6).1 = [n6].length then (0 : Int) else 260) = 260 from rfl, show (((0, I6).1 : Nat) : Int) = 0 from rfl]
  refine walk ?_
  refine s_call rfl (iStatus (x := x) (L := L.put I6) (g := 0)) rfl ?_
  rintro _ _ ⟨e_, rfl⟩
  obtain rfl := e_.symm
  rw [show (L.put I6).I.stat 0 = 1 from f4, show decide (0 ≤ (0 : Int) ∧ (0 : Int) < (L.put I6).I.tab.all.length) = true from f5]
  refine walk ?_
  refine s_call rfl (iM (x := x) (L := L.put I6) (m := 0)) rfl ?_
  rintro _ _ ⟨e_, rfl⟩
  obtain rfl := e_.symm
  rw [show stC (L.put I6).I 0 = _ from f6, show decide (0 ≤ (0 : Int) ∧ (0 : Int) < (L.put I6).I.ms.length) = true from f7]
  refine walk ?_
  refine s_alloc rfl ?_
  intro b9
  refine walk ?_
  refine s_storeV (vs := [.int .i64 1, .int .i64 0, .int .i64 (-1)]) rfl rfl rfl rfl rfl ?_
  refine walk ?_
  refine s_call rfl (iLen (x := x) (L := L.put I6)) rfl ?_
  rintro _ _ ⟨e_, rfl⟩
  obtain rfl := e_.symm
  rw [show (L.put I6).I.many = 6 from f3]
  refine walk ?_
  (refine s_build (cs := [.int .i64 1, .int .i64 0, .int .i64 (-1)]) ?_ rfl ?_; (· kernel_rfl))
  refine walk ?_
  refine s_eqlF (stS 1 0 (-1)) (stS 1 0 (-1)) (b := true) rfl rfl rfl rfl (by simp) rfl ?_
  refine walk ?_
  refine s_call rfl (iP (x := x) (L := L.put I6) (p := 0)) rfl ?_
  rintro _ _ ⟨e_, rfl⟩
  obtain rfl := e_.symm
  rw [show (if 0 ≤ (0 : Int) ∧ (0 : Int) < (L.put I6).I.ps.length then (L.put I6).I.pAt 0 else -3) = 0 from f8]
  refine walk ?_
  (first | (apply retRD1 (G := H) (.inr rfl) rfl; (· first | (refine rv_tmp (v := .bool _) rfl) | exact rv_tmp rfl); (· exact Ent.auto)) | (apply retRD1 (G := H) (.inl rfl) rfl; (· first | (refine rv_tmp (v := .bool _) rfl) | exact rv_tmp rfl); (· exact Ent.auto)))
  exact ⟨Ent.refl _, rfl⟩
end
end Go.Proofs.YtlhnmbajbhaaoaaGreat
namespace Go.Proofs.YtlhnmbajbhaaoaaGreat
open Go Go.SL
set_option linter.unusedSimpArgs false
set_option linter.unusedVariables false
set_option maxRecDepth 10000
set_option maxHeartbeats 8000000
attribute [local irreducible] WP WPL QSeq QBlk QRet Does Cell Cells Rd Mine Ent Aside RV Yield TabAt SemAt IdeAt newI I6
section
variable {B : World} {H F G : HProp} {x : Nat} {L : IdL} {n : Nt} {l : List Nt} {s : Value} {c : Cfg} {i m : Int}
end
end Go.Proofs.YtlhnmbajbhaaoaaGreat
namespace Go.Proofs.YtlhnmbajbhaaoaaGreat
open Go Go.SL
set_option linter.unusedSimpArgs false
set_option linter.unusedVariables false
set_option maxHeartbeats 2000000
def SimM (m m' : Mc) : Prop := m.a = m'.a ∧ m.p = m'.p ∧ m.g = m'.g ∧ (m.a = 3 → m.b = m'.b)
def SimL (l l' : List Mc) : Prop := l.length = l'.length ∧ ∀ (k : Nat) (m m' : Mc), l[k]? = some m → l'[k]? = some m' → SimM m m'
structure Sim (I J : Ide) : Prop where
  c : I.c = J.c
  tab : I.tab = J.tab
  sem : I.sem = J.sem
  ms : SimL I.ms J.ms
  ps : I.ps = J.ps
  many : I.many = J.many
theorem SimL.mod {l l' : List Mc} (h : SimL l l') {k : Nat} {f : Mc → Mc} (hf : ∀ m m', SimM m m' → SimM (f m) (f m')) : SimL (l.modify k f) (l'.modify k f) := by
  refine ⟨by rw [List.length_modify, List.length_modify]; exact h.1, fun j m m' hm hm' => ?_⟩
  rcases mod_get hm with ⟨rfl, x, hx, rfl⟩ | ⟨hne, hx⟩
  · rcases mod_get hm' with ⟨_, x', hx', rfl⟩ | ⟨hne', _⟩
    · exact hf _ _ (h.2 _ _ _ hx hx')
    · exact absurd rfl hne'
  · rcases mod_get hm' with ⟨e, _⟩ | ⟨_, hx'⟩
    · exact absurd e hne
    · exact h.2 _ _ _ hx hx'
theorem SimL.callers {l l' : List Mc} (h : SimL l l') : l.countP (fun m => decide (m.a = 3)) = l'.countP (fun m => decide (m.a = 3)) := by
  obtain ⟨hl, h⟩ := h
  induction l generalizing l' with
  | nil => cases l' with
    | nil => rfl
    | cons y t => simp at hl
  | cons x l ih => cases l' with
    | nil => simp at hl
    | cons y t =>
      have e := (h 0 x y rfl rfl).1
      have := ih (l' := t) (by simpa using hl) fun k m m' hm hm' => h (k + 1) m m' (by rw [List.getElem?_cons_succ]; exact hm) (by rw [List.getElem?_cons_succ]; exact hm')
      rw [List.countP_cons, List.countP_cons, this, e]
section
variable {I J : Ide} {n : Nt} {m p : Int}
theorem Sim.mAt (h : Sim I J) (m : Int) : SimM (I.mAt m) (J.mAt m) := by
  unfold Ide.mAt
  obtain ⟨hl, hm⟩ := h.ms
  by_cases hk : m.toNat < I.ms.length
  · rw [List.getElem?_eq_getElem hk, List.getElem?_eq_getElem (show m.toNat < J.ms.length by omega)]
    exact hm m.toNat _ _ (List.getElem?_eq_getElem hk) (List.getElem?_eq_getElem (by omega))
  · rw [List.getElem?_eq_none (by omega), List.getElem?_eq_none (by omega)]
    exact ⟨rfl, rfl, rfl, fun _ => rfl⟩
theorem Sim.pAt (h : Sim I J) (p : Int) : I.pAt p = J.pAt p := by unfold Ide.pAt; rw [h.ps]
theorem Sim.kept (h : Sim I J) (p : Int) : I.kept p = J.kept p := by
  unfold Ide.kept
  rw [h.pAt, (h.mAt _).1]
theorem Sim.may (h : Sim I J) : mayB I n = mayB J n := by
  obtain ⟨a, b, c, d⟩ := h.mAt n.m
  have e1 : runsB I n = runsB J n := by unfold runsB; rw [a, b, c]
  have e2 : searchesB I n = searchesB J n := by unfold searchesB; rw [a, b, c]
  have e3 : callsB I n = callsB J n := by unfold callsB; rw [a, c]
  have e4 : I.stat n.g = J.stat n.g := by unfold Ide.stat; rw [h.tab]
  have e5 : I.count n.x = J.count n.x := by unfold Ide.count; rw [h.sem]
  have e6 : ∀ y, I.first n.x y = J.first n.x y := fun y => by unfold Ide.first; rw [h.sem]
  have e7 : I.callers = J.callers := h.ms.callers
  have e8 : (callsB J n && (decide ((I.mAt n.m).b = n.p) && J.kept n.p)) = (callsB J n && (decide ((J.mAt n.m).b = n.p) && J.kept n.p)) := by
    cases hc : callsB J n with
    | false => rfl
    | true =>
      rw [← e3] at hc
      simp only [callsB, Bool.and_eq_true, decide_eq_true_eq] at hc
      rw [d hc.1]
  unfold mayB mayK
  rw [h.c, e1, e2, e3, e4, e5, e6, e6, e7, h.kept, h.pAt, h.tab, a, b, c, e8]
theorem SimM.has {m m' : Mc} (h : SimM m m') {a p g : Int} (ha : a ≠ 3) : SimM { m with a := a, p := p, g := g } { m' with a := a, p := p, g := g } := ⟨rfl, rfl, rfl, fun e => absurd e ha⟩
theorem SimM.drop {m m' : Mc} (h : SimM m m') : SimM { m with p := -1 } { m' with p := -1 } := ⟨h.1, rfl, h.2.2.1, h.2.2.2⟩
theorem Sim.hasS (h : Sim I J) {m p a g : Int} (ha : a ≠ 3) : Sim (I.has m p a g) (J.has m p a g) :=
  ⟨h.c, h.tab, h.sem, h.ms.mod fun _ _ k => k.has ha, by show (if 0 ≤ p then I.ps.set p.toNat m else I.ps) = (if 0 ≤ p then J.ps.set p.toNat m else J.ps); rw [h.ps], h.many⟩
theorem Sim.tsetS (h : Sim I J) {g s : Int} : Sim (I.tset g s) (J.tset g s) := ⟨h.c, by show (I.tab.set g s).2 = (J.tab.set g s).2; rw [h.tab], h.sem, h.ms, h.ps, h.many⟩
theorem Sim.leavesS (h : Sim I J) {m : Int} : Sim (I.leaves m) (J.leaves m) := ⟨h.c, h.tab, h.sem, h.ms.mod fun _ _ k => k.has (by decide), h.ps, h.many⟩
theorem Sim.dropsS (h : Sim I J) {p : Int} : Sim (I.drops p) (J.drops p) := ⟨h.c, h.tab, h.sem, by show SimL (I.ms.modify (I.pAt p).toNat _) (J.ms.modify (J.pAt p).toNat _); rw [h.pAt]; exact h.ms.mod fun _ _ k => k.drop, h.ps, h.many⟩
theorem Sim.psetS (h : Sim I J) {p v : Int} : Sim (I.pset p v) (J.pset p v) := ⟨h.c, h.tab, h.sem, h.ms, by show I.ps.set p.toNat v = J.ps.set p.toNat v; rw [h.ps], h.many⟩
theorem Sim.semS (h : Sim I J) {S : SemS} : Sim { I with sem := S } { J with sem := S } := ⟨h.c, h.tab, rfl, h.ms, h.ps, h.many⟩
theorem Sim.ite {p : Prop} [Decidable p] {A A' D D' : Ide} (h1 : Sim A A') (h2 : Sim D D') : Sim (if p then A else D) (if p then A' else D') := by
  split
  · exact h1
  · exact h2
theorem SimL.call {l l' : List Mc} (h : SimL l l') {k : Nat} {p g b : Int} : SimL ((l.modify k fun x => { x with a := 3, p := p, g := g }).modify k fun x => { x with b := b }) ((l'.modify k fun x => { x with a := 3, p := p, g := g }).modify k fun x => { x with b := b }) := by
  have e : ∀ l : List Mc, (l.modify k fun x => { x with a := 3, p := p, g := g }).modify k (fun x => { x with b := b }) = l.modify k fun x => { x with a := 3, p := p, g := g, b := b } := by
    intro l
    apply List.ext_getElem?
    intro j
    simp only [List.getElem?_modify]
    cases l[j]? with
    | none => rfl
    | some y => simp only [Option.map_eq_map, Option.map_some]; split <;> rfl
  rw [e, e]
  exact h.mod fun _ _ _ => ⟨rfl, rfl, rfl, fun _ => rfl⟩
theorem Sim.doS (h : Sim I J) : Sim (doK I n) (doK J n) := by
  unfold doK
  refine Sim.ite ⟨h.c, by show I.tab.make.2.2 = J.tab.make.2.2; rw [h.tab], h.sem, h.ms, h.ps, h.many⟩ (Sim.ite (h.tsetS.hasS (by decide)) (Sim.ite (h.tsetS.hasS (by decide)) (Sim.ite ?_ (Sim.ite ?_ (Sim.ite ?_ (Sim.ite ?_ (Sim.ite (h.tsetS.hasS (by decide)) (Sim.ite ?_ (Sim.ite ?_ (Sim.ite h.tsetS.leavesS (Sim.ite (h.hasS (by decide)) (Sim.ite h.leavesS.psetS (Sim.ite h.dropsS.psetS h)))))))))))))
  · rw [h.sem]; exact h.semS
  · rw [h.sem]; exact h.semS.tsetS.hasS (by decide)
  · rw [h.sem]; exact h.semS
  · rw [h.sem]; exact h.semS.tsetS
  · have h2 : Sim (I.tset n.g 4) (J.tset n.g 4) := h.tsetS
    exact ⟨h2.c, h2.tab, h2.sem, h2.ms.call, by show (if 0 ≤ n.p then I.ps.set n.p.toNat n.m else I.ps) = (if 0 ≤ n.p then J.ps.set n.p.toNat n.m else J.ps); rw [h.ps], h2.many⟩
  · exact (Sim.tsetS (Sim.ite h.dropsS h)).hasS (by decide)
theorem Sim.step (h : Sim I J) : Sim (stepI I n) (stepI J n) := by
  have d : Sim (doK I n) (doK J n) := h.doS
  exact ⟨d.c, d.tab, d.sem, d.ms, d.ps, by show (doK I n).many + 1 = (doK J n).many + 1; rw [d.many]⟩
theorem Sim.ok (h : Sim I J) {K : Int} (ok : I.ok K) : J.ok K := by
  obtain ⟨h1, h2, h3, h4, h5, h6⟩ := h
  obtain ⟨o1, o2, o3, o4, o5, o6, o7, o8, o9⟩ := ok
  have hl := h4.1
  exact ⟨h1 ▸ o1, by rw [← h1, ← hl]; exact o2, by rw [← h1, ← h5]; exact o3, by rw [← h1, ← h5]; exact o4, by rw [← h2]; exact o5, by rw [← h2, ← h1]; exact o6, by rw [← h3]; exact o7, by rw [← h3]; exact o8, by rw [← h6]; exact o9⟩
theorem SimL.at (h : SimL I.ms J.ms) {k : Nat} {m' : Mc} (hk : J.ms[k]? = some m') : ∃ m, I.ms[k]? = some m ∧ SimM m m' := by
  have hl := (List.getElem?_eq_some_iff.1 hk).1
  have hl2 : k < I.ms.length := by rw [h.1]; exact hl
  exact ⟨_, List.getElem?_eq_getElem hl2, h.2 k _ _ (List.getElem?_eq_getElem hl2) hk⟩
theorem SimL.tallies (h : SimL I.ms J.ms) (P : Int → Int → Bool) : I.ms.countP (fun m => P m.a m.g) = J.ms.countP (fun m => P m.a m.g) := by
  obtain ⟨hl, h⟩ := h
  generalize I.ms = l at *
  generalize J.ms = l' at *
  induction l generalizing l' with
  | nil => cases l' with
    | nil => rfl
    | cons y t => simp at hl
  | cons x l ih => cases l' with
    | nil => simp at hl
    | cons y t =>
      obtain ⟨e1, _, e2, _⟩ := h 0 x y rfl rfl
      have := ih (l' := t) (by simpa using hl) fun k m m' hm hm' => h (k + 1) m m' (by rw [List.getElem?_cons_succ]; exact hm) (by rw [List.getElem?_cons_succ]; exact hm')
      rw [List.countP_cons, List.countP_cons, this, e1, e2]
theorem Sim.inv (h : Sim I J) {cnt : List Int} (v : Inv I cnt) : Inv J cnt := by
  have hst : ∀ g, J.stat g = I.stat g := fun g => by unfold Ide.stat; rw [h.tab]
  refine ⟨⟨fun k m' hk => ?_, fun p w hp => ?_⟩, fun g g0 g1 => ?_, ?_, by rw [← h.tab]; exact v.nd, ?_, v.cl, ?_⟩
  · obtain ⟨m, hm, e1, e2, e3, e4⟩ := h.ms.at hk
    obtain ⟨mi, mp⟩ := v.pp.mi k m hm
    rw [← h.c, ← h.ps]
    refine ⟨⟨by rw [← e1]; exact mi.a, by rw [← e2]; exact mi.p, by rw [← e3]; exact mi.g, by rw [← e1, ← e3]; exact mi.ga, by rw [← e1, ← e2]; exact mi.rest, by rw [← e1, ← e2]; exact mi.on, fun ha h0 => ?_⟩, by rw [← e2]; exact mp⟩
    rw [← e1] at ha
    rw [← e2, ← e4 ha]
    exact mi.began ha (by rw [e2]; exact h0)
  · rw [← h.ps] at hp
    rcases v.pp.pi p w hp with e | e | ⟨w0, m, hm, he⟩
    · exact .inl e
    · exact .inr (.inl e)
    · have hl2 : w.toNat < J.ms.length := by rw [← h.ms.1]; exact (List.getElem?_eq_some_iff.1 hm).1
      refine .inr (.inr ⟨w0, _, List.getElem?_eq_getElem hl2, ?_⟩)
      rw [← (h.ms.2 _ _ _ hm (List.getElem?_eq_getElem hl2)).2.1]
      exact he
  · rw [← h.c] at g1
    obtain ⟨d1, d2, d3⟩ := v.st g g0 g1
    rw [hst, ← h.sem]
    exact ⟨(h.ms.tallies fun a b => decide (a = 2) && decide (b = g)).symm.trans d1, (h.ms.tallies fun a b => decide (a = 3) && decide (b = g)).symm.trans d2, d3⟩
  · intro g hg
    rw [hst]
    exact v.row g (by rw [h.tab]; exact hg)
  · rw [← h.sem, ← h.c]; exact v.se
  · have := h.ms.callers
    have hca := v.ca
    unfold Ide.callers at hca ⊢
    rw [← this, ← h.c]; exact hca
end
def restR : Mc := ⟨0, -1, -1, -1⟩
def newJ0 (c : Cfg) : Ide := { newI0 c with ms := List.replicate c.m.toNat restR }
/-- The reference's system at first. -/
def newJ (c : Cfg) : Ide := (newJ0 c).has 0 0 1 (-1)
theorem sim_new (c : Cfg) : Sim (newI c) (newJ c) := by
  have h : Sim (newI0 c) (newJ0 c) := by
    refine ⟨rfl, rfl, rfl, ⟨?_, fun k m m' hm hm' => ?_⟩, rfl, rfl⟩
    · show (List.replicate c.m.toNat restM).length = (List.replicate c.m.toNat restR).length
      rw [List.length_replicate, List.length_replicate]
    · have e1 : m = restM := List.eq_of_mem_replicate (List.mem_of_getElem? hm)
      have e2 : m' = restR := List.eq_of_mem_replicate (List.mem_of_getElem? hm')
      rw [e1, e2]
      exact ⟨rfl, rfl, rfl, fun e => by simp [restM] at e⟩
  exact h.hasS (by decide)
end Go.Proofs.YtlhnmbajbhaaoaaGreat
namespace Go.Proofs.YtlhnmbajbhaaoaaGreat
open Go Go.SL
set_option linter.unusedSimpArgs false
set_option linter.unusedVariables false
set_option maxHeartbeats 4000000
section
variable {I J : Ide} {K : Int} {cnt : List Int}
end
end Go.Proofs.YtlhnmbajbhaaoaaGreat
namespace Go.Proofs.YtlhnmbajbhaaoaaGreat
open Go Go.SL
set_option linter.unusedSimpArgs false
set_option linter.unusedVariables false
set_option maxRecDepth 10000
attribute [local irreducible] WP WPL QSeq QBlk QRet Does Cell Cells Rd Mine Ent Aside RV TabX TabAt

def Tab.st (T : Tab) : List Int := T.all.map (·.1)
def Tab.bn (T : Tab) : List Int := T.all.map (·.2)
theorem Mine.nil_add (H : HProp) : H = Mine 3 1 (.slice none 0 0) 0 [] + H := by rw [Mine.nil, HProp.emp_add]
/-- A value that reads as a table. -/
def RefV (B : World) (H : HProp) (r : Value) (T : Tab) : Prop :=
  ∃ s1 s2 s3, r = .agg [s1, s2, s3].toArray ∧ Rd B H 1 s1 T.all.length (zs T.st) ∧ Rd B H 1 s2 T.all.length (zs T.bn) ∧ Rd B H 1 s3 T.row.length (zs T.row)
theorem RefV.ent {B : World} {H G : HProp} {r : Value} {T : Tab} (h : RefV B G r T) (e : Ent H G) : RefV B H r T :=
  let ⟨s1, s2, s3, h0, h1, h2, h3⟩ := h
  ⟨s1, s2, s3, h0, h1.ent e, h2.ent e, h3.ent e⟩
section
variable {B : World} {F H : HProp} {p : Nat} {T : Tab}

theorem copied_spec {r : Value} (hr : RefV B H r T) (h1 : T.all.length ≤ 1000000) (h2 : T.row.length ≤ 1000000) : Does Tryz.prog B 61 [r] H fun r' H' => ∃ a1 c1 a2 c2 a3 c3,
    r' = .agg [.slice a1 T.all.length c1, .slice a2 T.all.length c2, .slice a3 T.row.length c3].toArray ∧
    Ent H' (Mine 3 1 (.slice a1 T.all.length c1) T.all.length (zs T.st) + (Mine 3 1 (.slice a2 T.all.length c2) T.all.length (zs T.bn) + (Mine 3 1 (.slice a3 T.row.length c3) T.row.length (zs T.row) + H))) := by
  obtain ⟨s1, s2, s3, rfl, r1, r2, r3⟩ := hr
  have r1' := r1
  have r2' := r2
  have r3' := r3
  unfold Rd at r1' r2' r3'
  obtain ⟨o1, k1, rfl, _⟩ := r1'
  obtain ⟨o2, k2, rfl, _⟩ := r2'
  obtain ⟨o3, k3, rfl, _⟩ := r3'
  refine fn_intro 23 Tryz.func61 rfl rfl rfl ?_
  refine walk ?_
  refine s_box rfl rfl rfl ?_
  intro b1
  refine s_alloc rfl ?_
  intro b2
  refine walk ?_
  refine s_alloc rfl ?_
  intro b3
  refine walk ?_
  refine WPL.ent (Ent.ac (Mine.nil_add _)) ?_
  refine s_append (v := .slice _ _ _) rfl rfl r1.sub (zs_one _) rfl ?_ rfl ?_
  · simp only [maxLen]; omega
  intro v'
  simp only [Nat.zero_add, List.nil_append]
  refine WPL.shape ?_
  rintro a1 c1 rfl _ _ _
  refine walk ?_
  refine s_store (v := .slice _ _ _) (cs' := [_, _, _]) rfl rfl rfl (by simp) rfl ?_
  refine walk ?_
  refine WPL.ent (Ent.ac (Mine.nil_add _)) ?_
  refine s_append (v := .slice _ _ _) rfl rfl r2.sub (zs_one _) rfl ?_ rfl ?_
  · simp only [maxLen]; omega
  intro v'
  simp only [Nat.zero_add, List.nil_append]
  refine WPL.shape ?_
  rintro a2 c2 rfl _ _ _
  refine walk ?_
  refine s_store (v := .slice _ _ _) (cs' := [_, _, _]) rfl rfl rfl (by simp) rfl ?_
  refine walk ?_
  refine WPL.ent (Ent.ac (Mine.nil_add _)) ?_
  refine s_append (v := .slice _ _ _) rfl rfl r3.sub (zs_one _) rfl ?_ rfl ?_
  · simp only [maxLen]; omega
  intro v'
  simp only [Nat.zero_add, List.nil_append]
  refine WPL.shape ?_
  rintro a3 c3 rfl _ _ _
  refine walk ?_
  refine s_store (v := .slice _ _ _) (cs' := [_, _, _]) rfl rfl rfl (by simp) rfl ?_
  refine walk ?_
  refine s_storeA (vs := [.slice a1 _ c1, .slice a2 _ c2, .slice a3 _ c3]) rfl rfl rfl rfl (Nat.le_refl _) rfl ?_
  refine walk ?_
  refine retR1 (.inr rfl) rfl (rv_cellA rfl Cells.blk0 rfl) ⟨a1, c1, a2, c2, a3, c3, rfl, ?_⟩
  refine Ent.step (A := Mine 3 1 (.slice a1 T.all.length c1) T.all.length (zs T.st)) (Ent.refl _) ?_
  refine Ent.step (A := Mine 3 1 (.slice a2 T.all.length c2) T.all.length (zs T.bn)) (Ent.refl _) ?_
  refine Ent.step (A := Mine 3 1 (.slice a3 T.row.length c3) T.row.length (zs T.row)) (Ent.refl _) ?_
  exact InH.ent

theorem refMay_spec {a x : Int} : Does Tryz.prog B 110 [.int .i64 a, .int .i64 x] H fun r H' => H = H' ∧ r = .bool (may a x) := by
  refine fn_intro 38 Tryz.func110 rfl rfl rfl ?_
  by_cases h1 : a = 1
  · subst h1
    by_cases h : x = 2
    · refine walk ?_
      exact ret1 (v := .bool _) (.inr rfl) rfl rfl ⟨rfl, by simp [may, mayRows, h]⟩
    · refine walk ?_
      exact ret1 (v := .bool _) (.inr rfl) rfl rfl ⟨rfl, by simp [may, mayRows, h]⟩
  by_cases h2 : a = 2
  · subst h2
    by_cases x0 : x = 0
    · refine walk ?_
      exact ret1 (v := .bool _) (.inr rfl) rfl rfl ⟨rfl, by simp [may, mayRows, x0]⟩
    by_cases x1 : x = 1
    · refine walk ?_
      exact ret1 (v := .bool _) (.inr rfl) rfl rfl ⟨rfl, by simp [may, mayRows, x1]⟩
    by_cases x3 : x = 3
    · refine walk ?_
      exact ret1 (v := .bool _) (.inr rfl) rfl rfl ⟨rfl, by simp [may, mayRows, x3]⟩
    by_cases x4 : x = 4
    · refine walk ?_
      exact ret1 (v := .bool _) (.inr rfl) rfl rfl ⟨rfl, by simp [may, mayRows, x4]⟩
    · refine walk ?_
      exact ret1 (v := .bool _) (.inr rfl) rfl rfl ⟨rfl, by simp [may, mayRows, x0, x1, x3, x4]⟩
  by_cases h3 : a = 3
  · subst h3
    by_cases h : x = 1
    · refine walk ?_
      exact ret1 (v := .bool _) (.inr rfl) rfl rfl ⟨rfl, by simp [may, mayRows, h]⟩
    · refine walk ?_
      exact ret1 (v := .bool _) (.inr rfl) rfl rfl ⟨rfl, by simp [may, mayRows, h]⟩
  by_cases h4 : a = 4
  · subst h4
    by_cases x1 : x = 1
    · refine walk ?_
      exact ret1 (v := .bool _) (.inr rfl) rfl rfl ⟨rfl, by simp [may, mayRows, x1]⟩
    by_cases x2 : x = 2
    · refine walk ?_
      exact ret1 (v := .bool _) (.inr rfl) rfl rfl ⟨rfl, by simp [may, mayRows, x2]⟩
    · refine walk ?_
      exact ret1 (v := .bool _) (.inr rfl) rfl rfl ⟨rfl, by simp [may, mayRows, x1, x2]⟩
  · refine walk ?_
    exact ret1 (v := .bool _) (.inr rfl) rfl rfl ⟨rfl, by simp [may, mayRows, h1, h2, h3, h4]⟩
end
end Go.Proofs.YtlhnmbajbhaaoaaGreat
namespace Go.Proofs.YtlhnmbajbhaaoaaGreat
open Go Go.SL
set_option linter.unusedSimpArgs false
set_option linter.unusedVariables false
set_option maxRecDepth 10000
attribute [local irreducible] WP WPL QSeq QBlk QRet Does Cell Cells Rd Mine Ent Aside RV TabX TabAt

section
variable {B : World} {F H : HProp} {p : Nat} {T : Tab}

theorem st_set (T : Tab) (k : Nat) (x y : Int) (row : List Int) : (Tab.mk (T.all.set k (x, y)) row).st = T.st.set k x := by simp [Tab.st, List.map_set]
theorem bn_set (T : Tab) (k : Nat) (x y : Int) (row : List Int) : (Tab.mk (T.all.set k (x, y)) row).bn = T.bn.set k y := by simp [Tab.bn, List.map_set]
theorem set_same {α : Type} (l : List α) (k : Nat) (h : k < l.length) : l.set k l[k] = l := by simp
theorem refMake_none {r : Value} (hr : RefV B H r T) (h0 : T.row = []) : Does Tryz.prog B 37 [r] H fun v H' => Ent H' H ∧ v = .tuple #[r, .int .i64 (-1), .int .i64 130] := by
  obtain ⟨s1, s2, s3, rfl, r1, r2, r3⟩ := hr
  have r3' := r3
  unfold Rd at r3'
  obtain ⟨o3, k3, rfl, _⟩ := r3'
  have e0 : T.row.length = 0 := by simp [h0]
  refine fn_intro 35 Tryz.func37 rfl rfl rfl ?_
  refine walk ?_
  refine s_box rfl rfl rfl ?_
  intro b1
  refine s_alloc rfl ?_
  intro b2
  refine walk ?_
  refine s_storeA (vs := [s1, s2, .slice o3 T.row.length k3]) rfl rfl ?_ rfl (Nat.le_refl _) rfl ?_
  · unfold Rd at r1 r2
    obtain ⟨_, _, rfl, _⟩ := r1
    obtain ⟨_, _, rfl, _⟩ := r2
    rfl
  refine walk ?_
  refine retR3 (.inr rfl) rfl (rv_cellA rfl Cells.blk0 rfl) (rv_tmp rfl) (rv_tmp rfl) ⟨?_, rfl⟩
  exact InH.ent
theorem refMake_some {r : Value} {g : Nat} {rest : List Int} (hr : RefV B H r T) (h0 : T.row = (g : Int) :: rest) (hg : g < T.all.length) (h1 : T.all.length ≤ 1000000) (h2 : T.row.length ≤ 1000000)
    (hb : 0 ≤ T.all[g].2 ∧ T.all[g].2 < 4611686018427387904) : Does Tryz.prog B 37 [r] H fun v H' => ∃ X r', Ent H' (X + H) ∧ (∀ G, RefV B G r T → RefV B (X + G) r' ⟨T.all.set g (1, T.all[g].2 + 1), rest⟩) ∧ v = .tuple #[r', .int .i64 g, .int .i64 0] := by
  have hr0 := hr
  obtain ⟨s1, s2, s3, rfl, r1, r2, r3⟩ := hr
  have r3' := r3
  unfold Rd at r3'
  obtain ⟨o3, k3, rfl, _⟩ := r3'
  have e0 : T.row.length = rest.length + 1 := by simp [h0]
  have e1 : zs T.row = .int .i64 g :: zs rest := by simp [h0, zs]
  refine fn_intro 35 Tryz.func37 rfl rfl rfl ?_
  refine walk ?_
  refine s_box rfl rfl rfl ?_
  intro b1
  refine s_alloc rfl ?_
  intro b2
  refine walk ?_
  refine s_call rfl (copied_spec (H := blk b2 _ 31 + (blk b1 _ 31 + H)) (hr0.ent ((Ent.drop_left _ _).trans (Ent.drop_left _ _))) h1 h2) rfl ?_
  rintro _ H' ⟨a1, c1, a2, c2, a3, c3, rfl, he⟩
  refine WPL.ent he ?_
  refine WPL.shape fun _ _ hv _ l1 m1 => ?_
  cases hv
  refine WPL.open (by omega) ?_
  rintro g1 sp1 rfl hsp1
  refine WPL.split (Mine 3 1 (.slice a2 T.all.length c2) T.all.length (zs T.bn)) ?_
  refine WPL.shape fun _ _ hv _ l2 m2 => ?_
  cases hv
  refine WPL.open (by omega) ?_
  rintro g2 sp2 rfl hsp2
  refine WPL.split (Mine 3 1 (.slice a3 T.row.length c3) T.row.length (zs T.row)) ?_
  refine WPL.shape fun _ _ hv _ l3 m3 => ?_
  cases hv
  refine WPL.open (by omega) ?_
  rintro g3 sp3 rfl hsp3
  rw [e1] at hsp3 ⊢
  have t1 : T.st.length = T.all.length := by simp [Tab.st]
  have t2 : T.bn.length = T.all.length := by simp [Tab.bn]
  have hbg : (zs T.bn)[g]? = some (.int .i64 T.all[g].2) := by simp [zs, Tab.bn, hg]
  refine s_alloc rfl ?_
  intro b5
  refine walk ?_
  refine s_storeA (vs := [.slice _ _ _, .slice _ _ _, .slice _ _ _]) rfl rfl rfl rfl (Nat.le_refl _) rfl ?_
  refine walk ?_
  refine s_indexAddr (j := 0) rfl rfl rfl (by omega) (o' := 0) rfl rfl ?_
  refine walk ?_
  refine s_sliceL (l := 1) rfl rfl rfl (by omega) rfl ?_
  refine walk ?_
  refine s_store (v := .slice _ _ _) (cs' := [_, _, _]) rfl rfl rfl (by simp) rfl ?_
  refine walk ?_
  refine s_store (v := .int _ _) (cs' := zs (T.st.set g 1) ++ sp1) rfl rfl rfl (by simp [zs_length, t1]; omega) ?_ ?_
  · rw [List.set_append_left _ _ (by rw [zs_length]; omega), zs_set]
  have hbn : T.bn[g]'(by omega) = T.all[g].2 := by simp [Tab.bn]
  refine walk ?_
  refine s_store (v := .int _ _) (cs' := zs (T.bn.set g (T.all[g].2 + 1)) ++ sp2) rfl rfl rfl (by simp [zs_length, t2]; omega) ?_ ?_
  · rw [List.set_append_left _ _ (by rw [zs_length]; omega), ← hbn]; exact congrArg (· ++ sp2) (zs_set _ _ _)
  refine walk ?_
  refine s_storeA (vs := [.slice _ _ _, .slice _ _ _, .slice _ _ _]) rfl rfl rfl rfl (Nat.le_refl _) rfl ?_
  refine walk ?_
  refine retR3 (.inr rfl) rfl (rv_cellA rfl Cells.blk0 rfl) (rv_tmp rfl) (rv_tmp rfl) ⟨blk g1 (zs (T.st.set g 1) ++ sp1) 3 + (blk g2 (zs (T.bn.set g (T.all[g].2 + 1)) ++ sp2) 3 + blk g3 (.int .i64 g :: zs rest ++ sp3) 3), _, ?_, ?_, rfl⟩
  · refine Ent.trans ?_ (Ent.ac (show blk g1 (zs (T.st.set g 1) ++ sp1) 3 + (blk g2 (zs (T.bn.set g (T.all[g].2 + 1)) ++ sp2) 3 + (blk g3 (.int .i64 g :: zs rest ++ sp3) 3 + H)) = _ by ac_rfl))
    refine Ent.step (A := blk g1 (zs (T.st.set g 1) ++ sp1) 3) (Ent.refl _) ?_
    refine Ent.step (A := blk g2 (zs (T.bn.set g (T.all[g].2 + 1)) ++ sp2) 3) (Ent.refl _) ?_
    refine Ent.step (A := blk g3 (.int .i64 g :: zs rest ++ sp3) 3) (Ent.refl _) ?_
    exact InH.ent
  · intro G _
    refine ⟨_, _, _, rfl, ?_, ?_, ?_⟩
    · rw [st_set, List.length_set]
      exact (Rd.blkPre (H := blk g1 (zs (T.st.set g 1) ++ sp1) 3 + ((blk g2 (zs (T.bn.set g (T.all[g].2 + 1)) ++ sp2) 3 + blk g3 (.int .i64 g :: zs rest ++ sp3) 3) + G)) (by rw [zs_length, List.length_set, t1, Nat.mul_one]) (by simp only [maxLen]; omega)).ent (Ent.ac (by ac_rfl))
    · rw [bn_set, List.length_set]
      exact (Rd.blkPre (H := blk g2 (zs (T.bn.set g (T.all[g].2 + 1)) ++ sp2) 3 + (blk g1 (zs (T.st.set g 1) ++ sp1) 3 + blk g3 (.int .i64 g :: zs rest ++ sp3) 3 + G)) (by rw [zs_length, List.length_set, t2, Nat.mul_one]) (by simp only [maxLen]; omega)).ent (Ent.ac (by ac_rfl))
    · have e2 : T.row.length - 1 = rest.length := by omega
      show Rd B _ 1 (.slice (partAddr (some ⟨g3, 0, none⟩) c3 1 1) (T.row.length - 1) (c3 - 1)) rest.length (zs rest)
      rw [e2]
      by_cases hc : rest.length = 0
      · have : rest = [] := by simpa using hc
        subst this
        unfold Rd
        exact ⟨_, _, rfl, rfl, Nat.zero_le _, .inl rfl⟩
      · have hpa : partAddr (some ⟨g3, 0, none⟩) c3 1 1 = some ⟨g3, 1, none⟩ := by
          unfold partAddr
          rw [if_neg (by omega)]; rfl
        rw [hpa]
        refine (Rd.blk (o := 1) (H := blk g3 (.int .i64 g :: zs rest ++ sp3) 3 + (blk g1 (zs (T.st.set g 1) ++ sp1) 3 + blk g2 (zs (T.bn.set g (T.all[g].2 + 1)) ++ sp2) 3 + G)) (by rw [zs_length, Nat.mul_one]) (by simp only [maxLen]; omega) ?_).ent (Ent.ac (by ac_rfl))
        intro j v hj
        rw [show 1 + j = j + 1 by omega, List.cons_append, List.getElem?_cons_succ, List.getElem?_append_left (by have := (List.getElem?_eq_some_iff.1 hj).1; omega)]
        exact hj
end
end Go.Proofs.YtlhnmbajbhaaoaaGreat
namespace Go.Proofs.YtlhnmbajbhaaoaaGreat
open Go Go.SL
set_option linter.unusedSimpArgs false
set_option linter.unusedVariables false
set_option maxRecDepth 10000
attribute [local irreducible] WP WPL QSeq QBlk QRet Does Cell Cells Rd Mine Ent Aside RV TabX TabAt

section
variable {B : World} {F H : HProp} {p : Nat} {T : Tab}
theorem bn_same {g : Nat} (hg : g < T.all.length) : T.bn.set g T.all[g].2 = T.bn := by
  have t2 : T.bn.length = T.all.length := by simp [Tab.bn]
  have : T.all[g].2 = T.bn[g]'(by omega) := by simp [Tab.bn]
  rw [this]; exact set_same _ _ _
theorem refSet_out {r : Value} {g x : Int} (hr : RefV B H r T) (hg : ¬ (0 ≤ g ∧ g < T.all.length)) : Does Tryz.prog B 56 [r, .int .i64 g, .int .i64 x] H fun v H' => Ent H' H ∧ v = .tuple #[r, .int .i64 5] := by
  obtain ⟨s1, s2, s3, rfl, r1, r2, r3⟩ := hr
  unfold Rd at r1 r2 r3
  obtain ⟨o1, k1, rfl, _⟩ := r1
  obtain ⟨o2, k2, rfl, _⟩ := r2
  obtain ⟨o3, k3, rfl, _⟩ := r3
  refine fn_intro 46 Tryz.func56 rfl rfl rfl ?_
  refine walk ?_
  refine s_box rfl rfl rfl ?_
  intro b1
  refine s_alloc rfl ?_
  intro b2
  by_cases h0 : g < 0
  · refine walk ?_
    refine s_storeA (vs := [.slice _ _ _, .slice _ _ _, .slice _ _ _]) rfl rfl rfl rfl (Nat.le_refl _) rfl ?_
    refine walk ?_
    refine retR2 (.inr rfl) rfl (rv_cellA rfl Cells.blk0 rfl) (rv_tmp rfl) ⟨?_, rfl⟩
    exact InH.ent
  · refine walk ?_
    refine s_storeA (vs := [.slice _ _ _, .slice _ _ _, .slice _ _ _]) rfl rfl rfl rfl (Nat.le_refl _) rfl ?_
    refine walk ?_
    refine retR2 (.inr rfl) rfl (rv_cellA rfl Cells.blk0 rfl) (rv_tmp rfl) ⟨?_, rfl⟩
    exact InH.ent
theorem refSet_in {r : Value} {g : Nat} {x : Int} (hr : RefV B H r T) (hg : g < T.all.length) (h1 : T.all.length ≤ 1000000) (h2 : T.row.length ≤ 1000000) :
    Does Tryz.prog B 56 [r, .int .i64 g, .int .i64 x] H fun v H' => ∃ X r', Ent H' (X + H) ∧ (∀ G, RefV B G r T → RefV B (X + G) r' (T.set g x).2) ∧ v = .tuple #[r', .int .i64 (T.set g x).1] := by
  have hset : T.set g x = if may T.all[g].1 x then (0, ⟨T.all.set g (x, T.all[g].2), if x = 0 then (g : Int) :: T.row else T.row⟩) else (4, T) := by
    unfold Tab.set
    rw [if_pos (by omega)]
    simp [hg]
  have hr0 := hr
  obtain ⟨s1, s2, s3, rfl, r1, r2, r3⟩ := hr
  unfold Rd at r1 r2 r3
  obtain ⟨o1, k1, rfl, l1, _, a1⟩ := r1
  obtain ⟨o2, k2, rfl, _⟩ := r2
  obtain ⟨o3, k3, rfl, _⟩ := r3
  obtain ⟨ba, oa, rfl, hcs⟩ := Rd.addr l1 a1 hg
  have t1 : T.st.length = T.all.length := by simp [Tab.st]
  have hcell := hcs.cell (show (zs T.st)[g]? = some (.int .i64 T.all[g].1) by simp [zs, Tab.st, hg])
  refine fn_intro 46 Tryz.func56 rfl rfl rfl ?_
  refine walk ?_
  refine s_box rfl rfl rfl ?_
  intro b1
  refine s_alloc rfl ?_
  intro b2
  refine walk ?_
  refine s_call rfl refMay_spec rfl ?_
  rintro _ _ ⟨rfl, rfl⟩
  cases hm : may T.all[g].1 x with
  | false =>
    rw [hm] at hset
    refine walk ?_
    refine s_storeA (vs := [.slice _ _ _, .slice _ _ _, .slice _ _ _]) rfl rfl rfl rfl (Nat.le_refl _) rfl ?_
    refine walk ?_
    refine retR2 (.inr rfl) rfl (rv_cellA rfl Cells.blk0 rfl) (rv_tmp rfl) ⟨emp, .agg [.slice (some ⟨ba, oa, none⟩) T.all.length k1, .slice o2 T.all.length k2, .slice o3 T.row.length k3].toArray, ?_, ?_, ?_⟩
    · rw [HProp.emp_add]; exact InH.ent
    · intro G hG
      rw [HProp.emp_add, hset]; exact hG
    · rw [hset]; rfl
  | true =>
    rw [hm, if_pos rfl] at hset
    refine walk ?_
    refine s_call rfl (copied_spec (H := blk b2 _ 31 + (blk b1 _ 31 + H)) (hr0.ent ((Ent.drop_left _ _).trans (Ent.drop_left _ _))) h1 h2) rfl ?_
    rintro _ H' ⟨a1, c1, a2, c2, a3, c3, rfl, he⟩
    refine WPL.ent he ?_
    refine WPL.shape fun _ _ hv _ l1 m1 => ?_
    cases hv
    refine WPL.open (by omega) ?_
    rintro g1 sp1 rfl hsp1
    refine WPL.split (Mine 3 1 (.slice a2 T.all.length c2) T.all.length (zs T.bn)) ?_
    refine WPL.rd fun rd2 => ?_
    refine WPL.split (Mine 3 1 (.slice a3 T.row.length c3) T.row.length (zs T.row)) ?_
    refine WPL.rd fun rd3 => ?_
    refine s_alloc rfl ?_
    intro b5
    refine walk ?_
    refine s_storeA (vs := [.slice _ _ _, .slice _ _ _, .slice _ _ _]) rfl rfl rfl rfl (Nat.le_refl _) rfl ?_
    refine walk ?_
    refine s_store (v := .int _ _) (cs' := zs (T.st.set g x) ++ sp1) rfl rfl rfl (by simp [zs_length, t1]; omega) ?_ ?_
    · rw [List.set_append_left _ _ (by rw [zs_length]; omega), zs_set]
    by_cases hx : x = 0
    · subst hx
      refine walk ?_
      refine s_buildInts (cs := [.int _ _]) rfl rfl rfl rfl rfl ?_
      intro nb
      refine walk ?_
      refine WPL.ent ((Mine.of_blk (sz := 1) (n := 1) (cap := 1) (cs := [.int .i64 g]) (spare := []) rfl rfl (Nat.le_refl _) (by simp [maxLen]) rfl).frame_right _) ?_
      refine s_append (v := .slice _ _ _) rfl rfl rd3.sub (zs_one _) rfl ?_ rfl ?_
      · simp only [maxLen]; omega
      intro v'
      refine WPL.rd fun rd4 => ?_
      refine WPL.shape ?_
      rintro a4 c4 rfl _ _ _
      refine walk ?_
      refine s_store (v := .slice _ _ _) (cs' := [_, _, _]) rfl rfl rfl (by simp) rfl ?_
      refine walk ?_
      refine s_storeA (vs := [.slice _ _ _, .slice _ _ _, .slice _ _ _]) rfl rfl rfl rfl (Nat.le_refl _) rfl ?_
      refine walk ?_
      refine retR2 (.inr rfl) rfl (rv_cellA rfl Cells.blk0 rfl) (rv_tmp rfl) ⟨blk g1 (zs (T.st.set g 0) ++ sp1) 3 + (Mine 3 1 (.slice a2 T.all.length c2) T.all.length (zs T.bn) + Mine 3 1 (.slice a4 (1 + T.row.length) c4) (1 + T.row.length) ([.int .i64 g] ++ zs T.row)), .agg [.slice (some ⟨g1, 0, none⟩) T.all.length c1, .slice a2 T.all.length c2, .slice a4 (1 + T.row.length) c4].toArray, ?_, ?_, by rw [hset]; rfl⟩
      · refine Ent.trans ?_ (Ent.ac (show blk g1 (zs (T.st.set g 0) ++ sp1) 3 + (Mine 3 1 (.slice a2 T.all.length c2) T.all.length (zs T.bn) + (Mine 3 1 (.slice a4 (1 + T.row.length) c4) (1 + T.row.length) ([.int .i64 g] ++ zs T.row) + H)) = _ by ac_rfl))
        refine Ent.step (A := blk g1 (zs (T.st.set g 0) ++ sp1) 3) (Ent.refl _) ?_
        refine Ent.step (A := Mine 3 1 (.slice a2 T.all.length c2) T.all.length (zs T.bn)) (Ent.refl _) ?_
        refine Ent.step (A := Mine 3 1 (.slice a4 (1 + T.row.length) c4) (1 + T.row.length) ([.int .i64 g] ++ zs T.row)) (Ent.refl _) ?_
        exact InH.ent
      · intro G _
        rw [hset]
        refine ⟨_, _, _, rfl, ?_, ?_, ?_⟩
        · rw [st_set, List.length_set]
          exact (Rd.blkPre (H := blk g1 (zs (T.st.set g 0) ++ sp1) 3 + emp) (by rw [zs_length, List.length_set, t1, Nat.mul_one]) (by simp only [maxLen]; omega)).ent (by rw [HProp.add_emp]; exact InH.ent)
        · rw [bn_set, List.length_set, bn_same hg]
          exact rd2.ent InH.ent
        · simp only [if_pos, List.length_cons]
          rw [Nat.add_comm T.row.length 1]
          exact rd4.ent InH.ent
    · refine walk ?_
      refine s_storeA (vs := [.slice _ _ _, .slice _ _ _, .slice _ _ _]) rfl rfl rfl rfl (Nat.le_refl _) rfl ?_
      refine walk ?_
      refine retR2 (.inr rfl) rfl (rv_cellA rfl Cells.blk0 rfl) (rv_tmp rfl) ⟨blk g1 (zs (T.st.set g x) ++ sp1) 3 + (Mine 3 1 (.slice a2 T.all.length c2) T.all.length (zs T.bn) + Mine 3 1 (.slice a3 T.row.length c3) T.row.length (zs T.row)), .agg [.slice (some ⟨g1, 0, none⟩) T.all.length c1, .slice a2 T.all.length c2, .slice a3 T.row.length c3].toArray, ?_, ?_, by rw [hset]; rfl⟩
      · refine Ent.trans ?_ (Ent.ac (show blk g1 (zs (T.st.set g x) ++ sp1) 3 + (Mine 3 1 (.slice a2 T.all.length c2) T.all.length (zs T.bn) + (Mine 3 1 (.slice a3 T.row.length c3) T.row.length (zs T.row) + H)) = _ by ac_rfl))
        refine Ent.step (A := blk g1 (zs (T.st.set g x) ++ sp1) 3) (Ent.refl _) ?_
        refine Ent.step (A := Mine 3 1 (.slice a2 T.all.length c2) T.all.length (zs T.bn)) (Ent.refl _) ?_
        refine Ent.step (A := Mine 3 1 (.slice a3 T.row.length c3) T.row.length (zs T.row)) (Ent.refl _) ?_
        exact InH.ent
      · intro G _
        rw [hset]
        refine ⟨_, _, _, rfl, ?_, ?_, ?_⟩
        · rw [st_set, List.length_set]
          exact (Rd.blkPre (H := blk g1 (zs (T.st.set g x) ++ sp1) 3 + emp) (by rw [zs_length, List.length_set, t1, Nat.mul_one]) (by simp only [maxLen]; omega)).ent (by rw [HProp.add_emp]; exact InH.ent)
        · rw [bn_set, List.length_set, bn_same hg]
          exact rd2.ent InH.ent
        · simp only [if_neg hx]
          exact rd3.ent InH.ent
end
end Go.Proofs.YtlhnmbajbhaaoaaGreat
namespace Go.Proofs.YtlhnmbajbhaaoaaGreat
open Go Go.SL
set_option linter.unusedSimpArgs false
set_option linter.unusedVariables false
set_option maxRecDepth 10000
attribute [local irreducible] WP WPL QSeq QBlk QRet Does Cell Cells Rd Mine Ent Aside RV TabX TabAt

section
variable {B : World} {F H : HProp} {p : Nat} {T : Tab}
def upTo (k : Nat) : List Int := (List.range k).map fun (i : Nat) => (i : Int)
theorem upTo_succ (k : Nat) : zs (upTo (k + 1)) = zs (upTo k) ++ [.int .i64 k] := by simp [upTo, zs, List.range_succ]
def zeroes (k : Nat) : List Int := List.replicate k 0
theorem zeroes_succ (k : Nat) : zs (zeroes (k + 1)) = zs (zeroes k) ++ [.int .i64 0] := by simp [zeroes, zs, List.replicate_succ']
theorem refNew_spec {n : Int} {m : Nat} (hm : max 0 (min n 256) = (m : Int)) : Does Tryz.prog B 36 [.int .i64 n] H fun v H' => ∃ X, Ent H' (X + H) ∧ RefV B X v (Tab.new m) := by
  have hm2 : m ≤ 256 := by omega
  refine fn_intro 31 Tryz.func36 rfl rfl rfl ?_
  refine walk ?_
  refine s_alloc rfl ?_
  intro b2
  refine walk ?_
  refine s_alloc rfl ?_
  intro b3
  refine walk ?_
  refine wp_loopF (α := Nat × (Option Addr × Nat) × (Option Addr × Nat) × (Option Addr × Nat)) [4, 5, 6, 7, 8, 9, 10, 11, 12, 13, 14, 15, 16, 17, 18, 19, 20, 21, 22, 23, 24, 25, 26, 27, 28, 29] (fun x => [(4, .int .i64 x.1)])
    (fun x => blk b3 [.slice x.2.1.1 x.1 x.2.1.2, .slice x.2.2.1.1 x.1 x.2.2.1.2, .slice x.2.2.2.1 x.1 x.2.2.2.2] 31 + (Mine 3 1 (.slice x.2.1.1 x.1 x.2.1.2) x.1 (zs (zeroes x.1)) + (Mine 3 1 (.slice x.2.2.1.1 x.1 x.2.2.1.2) x.1 (zs (zeroes x.1)) + (Mine 3 1 (.slice x.2.2.2.1 x.1 x.2.2.2.2) x.1 (zs (upTo x.1)) + (blk b2 [.slice none 0 0, .slice none 0 0, .slice none 0 0] 31 + H)))))
    (fun x => x.1 ≤ m) (fun x => m - x.1) (0, (none, 0), (none, 0), (none, 0)) agreed ?_ (Nat.zero_le _) ?_
  · show Ent _ (blk b3 [.slice none 0 0, .slice none 0 0, .slice none 0 0] 31 + (Mine 3 1 (.slice none 0 0) 0 [] + (Mine 3 1 (.slice none 0 0) 0 [] + (Mine 3 1 (.slice none 0 0) 0 [] + _))))
    rw [Mine.nil, HProp.emp_add, HProp.emp_add, HProp.emp_add]; exact Ent.refl _
  rintro ⟨k, ⟨v1, k1⟩, ⟨v2, k2⟩, ⟨v3, k3⟩⟩ g hk
  simp only at hk
  simp only [putAll]
  by_cases hlt : k < m
  · have hn1 : (k : Int) < n := by omega
    refine walk ?_
    refine s_buildInts (cs := [.int _ _]) rfl rfl rfl rfl rfl ?_
    intro n1
    refine s_append (v := .slice _ _ _) rfl rfl (Rd.blk0 (m := 1) (e := 3) rfl (by simp [maxLen])) rfl rfl ?_ rfl ?_
    · simp only [maxLen]; omega
    intro v'
    refine WPL.shape ?_
    rintro w1 j1 rfl _ _ _
    refine walk ?_
    refine s_store (v := .slice _ _ _) (cs' := [_, _, _]) rfl rfl rfl (by simp) rfl ?_
    refine walk ?_
    refine s_buildInts (cs := [.int _ _]) rfl rfl rfl rfl rfl ?_
    intro n2
    refine s_append (v := .slice v2 _ _) rfl rfl (Rd.blk0 (m := 1) (e := 3) rfl (by simp [maxLen])) rfl rfl ?_ rfl ?_
    · simp only [maxLen]; omega
    intro v'
    refine WPL.shape ?_
    rintro w2 j2 rfl _ _ _
    refine walk ?_
    refine s_store (v := .slice _ _ _) (cs' := [_, _, _]) rfl rfl rfl (by simp) rfl ?_
    refine walk ?_
    refine s_buildInts (cs := [.int _ _]) rfl rfl rfl rfl rfl ?_
    intro n3
    refine s_append (v := .slice v3 _ _) rfl rfl (Rd.blk0 (m := 1) (e := 3) rfl (by simp [maxLen])) rfl rfl ?_ rfl ?_
    · simp only [maxLen]; omega
    intro v'
    refine WPL.shape ?_
    rintro w3 j3 rfl _ _ _
    refine walk ?_
    refine s_store (v := .slice _ _ _) (cs' := [_, _, _]) rfl rfl rfl (by simp) rfl ?_
    refine walk ?_
    refine ⟨(k + 1, (w1, j1), (w2, j2), (w3, j3)), asided, agreed, ?_, hlt, by simp only; omega⟩
    simp only [zeroes_succ, upTo_succ]
    refine Ent.step (A := blk b3 [.slice w1 (k + 1) j1, .slice w2 (k + 1) j2, .slice w3 (k + 1) j3] 31) (Ent.refl _) ?_
    refine Ent.step (A := Mine 3 1 (.slice w1 (k + 1) j1) (k + 1) (zs (zeroes k) ++ [.int .i64 0])) (Ent.refl _) ?_
    refine Ent.step (A := Mine 3 1 (.slice w2 (k + 1) j2) (k + 1) (zs (zeroes k) ++ [.int .i64 0])) (Ent.refl _) ?_
    refine Ent.step (A := Mine 3 1 (.slice w3 (k + 1) j3) (k + 1) (zs (upTo k) ++ [.int .i64 k])) (Ent.refl _) ?_
    exact InH.ent
  · have : m = k := by omega
    subst this
    have q1 : (Tab.new m).all.length = m := by simp [Tab.new]
    have q2 : (Tab.new m).st = zeroes m := by simp [Tab.new, Tab.st, zeroes]
    have q3 : (Tab.new m).bn = zeroes m := by simp [Tab.new, Tab.bn, zeroes]
    have q4 : (Tab.new m).row.length = m := by simp [Tab.new]
    refine WP.split (Mine 3 1 (.slice v1 m k1) m (zs (zeroes m))) (WP.rd fun rd1 => ?_)
    refine WP.split (Mine 3 1 (.slice v2 m k2) m (zs (zeroes m))) (WP.rd fun rd2 => ?_)
    refine WP.split (Mine 3 1 (.slice v3 m k3) m (zs (upTo m))) (WP.rd fun rd3 => ?_)
    by_cases hn1 : (m : Int) < n
    · refine walk ?_
      refine s_storeA (vs := [.slice _ _ _, .slice _ _ _, .slice _ _ _]) rfl rfl rfl rfl (Nat.le_refl _) rfl ?_
      refine walk ?_
      refine retR1 (.inr rfl) rfl (rv_cellA rfl Cells.blk0 rfl) ⟨Mine 3 1 (.slice v1 m k1) m (zs (zeroes m)) + (Mine 3 1 (.slice v2 m k2) m (zs (zeroes m)) + Mine 3 1 (.slice v3 m k3) m (zs (upTo m))), ?_, ?_⟩
      · refine Ent.trans ?_ (Ent.ac (show Mine 3 1 (.slice v1 m k1) m (zs (zeroes m)) + (Mine 3 1 (.slice v2 m k2) m (zs (zeroes m)) + (Mine 3 1 (.slice v3 m k3) m (zs (upTo m)) + H)) = _ by ac_rfl))
        refine Ent.step (A := Mine 3 1 (.slice v1 m k1) m (zs (zeroes m))) (Ent.refl _) ?_
        refine Ent.step (A := Mine 3 1 (.slice v2 m k2) m (zs (zeroes m))) (Ent.refl _) ?_
        refine Ent.step (A := Mine 3 1 (.slice v3 m k3) m (zs (upTo m))) (Ent.refl _) ?_
        exact InH.ent
      · refine ⟨.slice v1 m k1, .slice v2 m k2, .slice v3 m k3, rfl, ?_, ?_, ?_⟩
        · rw [q1, q2]; exact rd1.ent InH.ent
        · rw [q1, q3]; exact rd2.ent InH.ent
        · rw [q4]; exact rd3.ent InH.ent
    · refine walk ?_
      refine s_storeA (vs := [.slice _ _ _, .slice _ _ _, .slice _ _ _]) rfl rfl rfl rfl (Nat.le_refl _) rfl ?_
      refine walk ?_
      refine retR1 (.inr rfl) rfl (rv_cellA rfl Cells.blk0 rfl) ⟨Mine 3 1 (.slice v1 m k1) m (zs (zeroes m)) + (Mine 3 1 (.slice v2 m k2) m (zs (zeroes m)) + Mine 3 1 (.slice v3 m k3) m (zs (upTo m))), ?_, ?_⟩
      · refine Ent.trans ?_ (Ent.ac (show Mine 3 1 (.slice v1 m k1) m (zs (zeroes m)) + (Mine 3 1 (.slice v2 m k2) m (zs (zeroes m)) + (Mine 3 1 (.slice v3 m k3) m (zs (upTo m)) + H)) = _ by ac_rfl))
        refine Ent.step (A := Mine 3 1 (.slice v1 m k1) m (zs (zeroes m))) (Ent.refl _) ?_
        refine Ent.step (A := Mine 3 1 (.slice v2 m k2) m (zs (zeroes m))) (Ent.refl _) ?_
        refine Ent.step (A := Mine 3 1 (.slice v3 m k3) m (zs (upTo m))) (Ent.refl _) ?_
        exact InH.ent
      · refine ⟨.slice v1 m k1, .slice v2 m k2, .slice v3 m k3, rfl, ?_, ?_, ?_⟩
        · rw [q1, q2]; exact rd1.ent InH.ent
        · rw [q1, q3]; exact rd2.ent InH.ent
        · rw [q4]; exact rd3.ent InH.ent
end
end Go.Proofs.YtlhnmbajbhaaoaaGreat
namespace Go.Proofs.YtlhnmbajbhaaoaaGreat
open Go Go.SL
set_option linter.unusedSimpArgs false
set_option linter.unusedVariables false
set_option maxRecDepth 10000
attribute [local irreducible] WP WPL QSeq QBlk QRet Does Cell Cells Rd Mine Ent Aside RV TabX TabAt
section
variable {B : World} {F H G : HProp} {p q : Nat} {T U : Tab} {K : Int}
theorem refMake_spec {r : Value} {K : Int} (hr : RefV B H r T) (ok : T.ok K) (hK : K ≤ 100000) : Does Tryz.prog B 37 [r] H fun v H' => ∃ X r', Ent H' (X + H) ∧ (∀ G, RefV B G r T → RefV B (X + G) r' T.make.2.2) ∧ v = .tuple #[r', .int .i64 T.make.1, .int .i64 T.make.2.1] := by
  have hl := ok.long
  have hz := ok.size
  unfold Tab.make
  cases hrow : T.row with
  | nil => exact (refMake_none hr hrow).mono fun v H' ⟨e, h⟩ => ⟨emp, r, by rw [HProp.emp_add]; exact e, fun G hG => by rw [HProp.emp_add]; exact hG, h⟩
  | cons g rest =>
    have hg := ok.row g (by simp [hrow])
    obtain ⟨k, rfl⟩ := Int.eq_ofNat_of_zero_le hg.1
    have hk : k < T.all.length := by omega
    have ha := ok.all T.all[k] (List.getElem_mem hk)
    have h := refMake_some hr hrow hk (by omega) (by omega) (by omega)
    simpa [hk] using h
theorem refSet_spec {r : Value} {K g x : Int} (hr : RefV B H r T) (ok : T.ok K) (hK : K ≤ 100000) : Does Tryz.prog B 56 [r, .int .i64 g, .int .i64 x] H fun v H' => ∃ X r', Ent H' (X + H) ∧ (∀ G, RefV B G r T → RefV B (X + G) r' (T.set g x).2) ∧ v = .tuple #[r', .int .i64 (T.set g x).1] := by
  have hl := ok.long
  have hz := ok.size
  by_cases hg : 0 ≤ g ∧ g < T.all.length
  · obtain ⟨k, rfl⟩ := Int.eq_ofNat_of_zero_le hg.1
    have hk : k < T.all.length := by omega
    exact refSet_in hr hk (by omega) (by omega)
  · have e : T.set g x = (5, T) := by unfold Tab.set; rw [if_neg hg]
    rw [e]
    exact (refSet_out hr hg).mono fun v H' ⟨e, h⟩ => ⟨emp, r, by rw [HProp.emp_add]; exact e, fun G hG => by rw [HProp.emp_add]; exact hG, h⟩

/-- A table of the reference, as it lies in memory. -/
structure RefA where
  o1 : Option Addr
  k1 : Nat
  o2 : Option Addr
  k2 : Nat
  o3 : Option Addr
  k3 : Nat
abbrev RefA.cells (a : RefA) (T : Tab) : List Value := [.slice a.o1 T.all.length a.k1, .slice a.o2 T.all.length a.k2, .slice a.o3 T.row.length a.k3]
theorem RefV.cells {r : Value} (h : RefV B H r T) : ∃ a : RefA, r = .agg (a.cells T).toArray := by
  obtain ⟨s1, s2, s3, rfl, y1, y2, y3⟩ := h
  unfold Rd at y1 y2 y3
  obtain ⟨v1, j1, rfl, _⟩ := y1
  obtain ⟨v2, j2, rfl, _⟩ := y2
  obtain ⟨v3, j3, rfl, _⟩ := y3
  exact ⟨⟨v1, j1, v2, j2, v3, j3⟩, rfl⟩
abbrev RefC (B : World) (H : HProp) (a : RefA) (T : Tab) : Prop := RefV B H (.agg (a.cells T).toArray) T
theorem rNew {n : Int} {m : Nat} (hm : max 0 (min n 256) = (m : Int)) : Does Tryz.prog B 36 [.int .i64 n] H fun v H' => ∃ X a, v = .agg (RefA.cells a (Tab.new m)).toArray ∧ H' = X + H ∧ RefC B X a (Tab.new m) :=
  (refNew_spec hm).weak fun _ _ ⟨X, e, h⟩ => ⟨_, e, by
    obtain ⟨a, rfl⟩ := h.cells
    exact ⟨X, a, rfl, rfl, h⟩⟩
theorem rMake {a : RefA} (hr : RefC B H a T) (ok : T.ok K) (hK : K ≤ 100000) : Does Tryz.prog B 37 [.agg (a.cells T).toArray] H fun v H' => ∃ X a', v = .tuple #[.agg (RefA.cells a' T.make.2.2).toArray, .int .i64 T.make.1, .int .i64 T.make.2.1] ∧ H' = X + H ∧ ∀ G, RefC B G a T → RefC B (X + G) a' T.make.2.2 :=
  (refMake_spec hr ok hK).weak fun _ _ ⟨X, r', e, h, hv⟩ => ⟨_, e, by
    obtain ⟨a', rfl⟩ := (h H hr).cells
    exact ⟨X, a', hv, rfl, h⟩⟩
theorem rSet {a : RefA} {g x : Int} (hr : RefC B H a T) (ok : T.ok K) (hK : K ≤ 100000) : Does Tryz.prog B 56 [.agg (a.cells T).toArray, .int .i64 g, .int .i64 x] H fun v H' => ∃ X a', v = .tuple #[.agg (RefA.cells a' (T.set g x).2).toArray, .int .i64 (T.set g x).1] ∧ H' = X + H ∧ ∀ G, RefC B G a T → RefC B (X + G) a' (T.set g x).2 :=
  (refSet_spec hr ok hK).weak fun _ _ ⟨X, r', e, h, hv⟩ => ⟨_, e, by
    obtain ⟨a', rfl⟩ := (h H hr).cells
    exact ⟨X, a', hv, rfl, h⟩⟩
end
end Go.Proofs.YtlhnmbajbhaaoaaGreat
namespace Go.Proofs.YtlhnmbajbhaaoaaGreat
open Go Go.SL
set_option linter.unusedSimpArgs false
set_option linter.unusedVariables false
set_option maxRecDepth 10000
set_option maxHeartbeats 1000000
attribute [local irreducible] WP WPL QSeq QBlk QRet Does Cell Cells Rd Mine Ent Aside RV Yield
theorem take_eq_of {α : Type} {xs ys : List α} {k : Nat} (hk : xs.length = k) (hl : xs.length = ys.length) (h : xs.take k = ys.take k) : xs = ys := by
  rw [List.take_of_length_le (by omega), List.take_of_length_le (by omega)] at h; exact h
theorem take_next {α : Type} {xs ys : List α} {k : Nat} (h1 : k < xs.length) (h2 : k < ys.length) (h : xs.take k = ys.take k) (hx : xs[k] = ys[k]) : xs.take (k + 1) = ys.take (k + 1) := by
  rw [List.take_succ_eq_append_getElem h1, List.take_succ_eq_append_getElem h2, h, hx]
section
variable {B : World} {F H G : HProp} {s u : Value} {xs ys : List Int}
theorem sameInts_spec (hs : Rd B H 1 s xs.length (zs xs)) (hu : Rd B H 1 u ys.length (zs ys)) :
    Does Tryz.prog B 40 [s, u] H (fun r H' => H' = H ∧ r = .bool (decide (xs = ys))) := by
  unfold Rd at hs hu
  obtain ⟨ao, cap, rfl, hl, hm, hc⟩ := hs
  obtain ⟨ao2, cap2, rfl, hl2, hm2, hc2⟩ := hu
  unfold maxLen at hm hm2
  refine fn_intro 26 Tryz.func40 rfl rfl rfl ?_
  by_cases hlen : xs.length = ys.length
  · refine walk ?_
    refine wp_loopR (α := Nat) [4, 5, 11, 12, 13, 14, 15, 16, 17, 18, 19, 20, 21, 22, 23, 24, 25] (fun k => [(5, .int .i64 k)]) (fun k => k ≤ xs.length ∧ xs.take k = ys.take k) (fun k => xs.length - k) 0 agreed ⟨Nat.zero_le _, rfl⟩ ?_
    rintro k g ⟨hk, hi⟩
    simp only [putAll]
    by_cases hlt : k < xs.length
    · obtain ⟨b, o, rfl, hcs⟩ := Rd.addr hl hc hlt
      have hlt2 : k < ys.length := by omega
      obtain ⟨b2, o2, rfl, hcs2⟩ := Rd.addr hl2 hc2 hlt2
      have hcell := hcs.cell (zs_get xs k hlt)
      have hcell2 := hcs2.cell (zs_get ys k hlt2)
      by_cases hx : xs[k] = ys[k]
      · refine walk ?_
        (refine wp_draw [] (.look 0 (.look 1 (.look 2 (.look 3 (.look 4 (.look 5 (.look 6 (.look 7 (.look 8 .nil))))))))) (by kernel_rfl) ?_; refine dwP ?_; refine dwP ?_; refine dwP ?_; refine dwL ?_; refine dwP ?_; refine dwP ?_; refine dwP ?_; refine dwL ?_; refine dwP ?_; refine dw_nil ?_)
        refine walk ?_
        exact ⟨k + 1, asided, agreed, Ent.refl _, ⟨hlt, take_next hlt hlt2 hi hx⟩, by omega⟩
      · have hne : ¬ xs = ys := by rintro rfl; exact hx rfl
        refine walk ?_
        (refine wp_draw [] (.look 0 (.look 1 (.look 2 (.look 3 (.look 4 (.look 5 (.look 6 (.look 7 (.look 8 .nil))))))))) (by kernel_rfl) ?_; refine dwP ?_; refine dwP ?_; refine dwP ?_; refine dwL ?_; refine dwP ?_; refine dwP ?_; refine dwP ?_; refine dwL ?_; refine dwP ?_; refine dw_nil ?_)
        refine walk ?_
        exact ret1 (v := .bool _) (.inr rfl) rfl rfl ⟨rfl, by simp [hne]⟩
    · have heq := take_eq_of (show xs.length = k by omega) hlen hi
      refine walk ?_
      exact ret1 (v := .bool _) (.inr rfl) rfl rfl ⟨rfl, by simp [heq]⟩
  · have hne : ¬ xs = ys := by rintro rfl; exact hlen rfl
    refine walk ?_
    exact ret1 (v := .bool _) (.inr rfl) rfl rfl ⟨rfl, by simp [hne]⟩
end
end Go.Proofs.YtlhnmbajbhaaoaaGreat
