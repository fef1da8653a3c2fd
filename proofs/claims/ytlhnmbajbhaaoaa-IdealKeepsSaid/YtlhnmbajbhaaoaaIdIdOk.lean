/- The system stays within its bounds. No condition. -/
import Derived.Test.YtlhnmbajbhaaoaaIdId7
namespace Go.Proofs.Ytlhnmbajbhaaoaa
open Go Go.SL
set_option linter.unusedSimpArgs false
set_option linter.unusedVariables false
set_option maxHeartbeats 1000000
theorem Tab.ok.mono {T : Tab} {K : Int} (ok : T.ok K) : T.ok (K + 1) := by
  have h0 := ok.k0
  have hl := ok.long
  exact ⟨ok.size, ok.row, fun q hq => by have := ok.all q hq; omega, by omega, by omega⟩
theorem Tab.set_len (T : Tab) (g s : Int) : (T.set g s).2.all.length = T.all.length := by
  unfold Tab.set
  split
  · split
    · simp
    · rfl
  · rfl
theorem Tab.make_len (T : Tab) : T.make.2.2.all.length = T.all.length := by
  unfold Tab.make
  split
  · rfl
  · simp
theorem acq_sem {S : SemS} {s g : Int} : (acqS S s g).1.length = S.length ∧ ∀ K : Int, (∀ (i : Nat) (l : List Int) (x : Int), S[i]? = some (l, x) → (l.length : Int) ≤ K) → ∀ (i : Nat) (l : List Int) (x : Int), (acqS S s g).1[i]? = some (l, x) → (l.length : Int) ≤ K + 1 := by
  have same : ∀ K : Int, (∀ (i : Nat) (l : List Int) (x : Int), S[i]? = some (l, x) → (l.length : Int) ≤ K) → ∀ (i : Nat) (l : List Int) (x : Int), S[i]? = some (l, x) → (l.length : Int) ≤ K + 1 := fun K h i l x hi => by have := h i l x hi; omega
  have md : ∀ (j : Nat) (f : List Int × Int → List Int × Int), (∀ r, (f r).1.length ≤ r.1.length + 1) → (S.modify j f).length = S.length ∧ ∀ K : Int, (∀ (i : Nat) (l : List Int) (x : Int), S[i]? = some (l, x) → (l.length : Int) ≤ K) → ∀ (i : Nat) (l : List Int) (x : Int), (S.modify j f)[i]? = some (l, x) → (l.length : Int) ≤ K + 1 := by
    intro j f hf
    refine ⟨List.length_modify .., fun K h i l x hi => ?_⟩
    rw [List.getElem?_modify] at hi
    cases hS : S[i]? with
    | none => rw [hS] at hi; simp at hi
    | some r =>
      rw [hS] at hi
      simp only [Option.map_eq_map, Option.map_some, Option.some.injEq] at hi
      have h1 := h i r.1 r.2 hS
      split at hi
      · have h2 := hf r
        have e : (f r).1 = l := congrArg (·.1) hi
        rw [e] at h2
        omega
      · have e : r.1 = l := congrArg (·.1) hi
        rw [e] at h1
        omega
  unfold acqS
  split
  · exact ⟨rfl, same⟩
  · split
    · exact ⟨rfl, same⟩
    · split
      · split
        · exact md _ _ fun r => by simp
        · exact md _ _ fun r => by simp
      · exact ⟨rfl, same⟩
theorem rel_sem {S : SemS} {s : Int} : (relS S s).1.length = S.length ∧ ∀ K : Int, (∀ (i : Nat) (l : List Int) (x : Int), S[i]? = some (l, x) → (l.length : Int) ≤ K) → ∀ (i : Nat) (l : List Int) (x : Int), (relS S s).1[i]? = some (l, x) → (l.length : Int) ≤ K := by
  unfold relS
  split
  · exact ⟨rfl, fun _ h => h⟩
  · split
    · rename_i g l c hs
      refine ⟨List.length_set .., fun K h i l' x hi => ?_⟩
      rw [List.getElem?_set] at hi
      split at hi
      · rename_i e
        subst e
        split at hi
        · simp only [Option.some.injEq, Prod.mk.injEq] at hi
          have := h _ _ _ hs
          rw [← hi.1]
          simp only [List.length_cons] at this
          omega
        · cases hi
      · exact h _ _ _ hi
    · split
      · exact ⟨rfl, fun _ h => h⟩
      · refine ⟨List.length_modify .., fun K h i l' x hi => ?_⟩
        unfold countS at hi
        rw [List.getElem?_modify] at hi
        cases hS : S[i]? with
        | none => rw [hS] at hi; simp at hi
        | some r =>
          rw [hS] at hi
          simp only [Option.map_eq_map, Option.map_some, Option.some.injEq] at hi
          have h1 := h i r.1 r.2 hS
          split at hi
          · have e : r.1 = l' := congrArg (·.1) hi
            rw [← e]; exact h1
          · have e : r.1 = l' := congrArg (·.1) hi
            rw [← e]; exact h1
    · exact ⟨rfl, fun _ h => h⟩
section
variable {I : Ide} {K : Int} {n : Nt} {m p a g s v : Int}
theorem Ide.ok.mono (ok : I.ok K) : I.ok (K + 1) := ⟨ok.c, ok.ml, ok.pl, ok.pm, ok.tab.mono, ok.tl, ok.sl, fun i l x h => by have := ok.sk i l x h; omega, by have := ok.many; omega⟩
theorem Ide.ok.tset (ok : I.ok K) : (I.tset g s).ok (K + 1) := ⟨ok.c, ok.ml, ok.pl, ok.pm, ok.tab.set g s, by show ((I.tab.set g s).2.all.length : Int) = I.c.g; rw [Tab.set_len]; exact ok.tl, ok.sl, fun i l x h => by have := ok.sk i l x h; omega, by have := ok.many; show 0 ≤ I.many ∧ I.many ≤ K + 1; omega⟩
theorem Ide.ok.make (ok : I.ok K) : ({ I with tab := I.tab.make.2.2 } : Ide).ok (K + 1) := ⟨ok.c, ok.ml, ok.pl, ok.pm, ok.tab.make, by show (I.tab.make.2.2.all.length : Int) = I.c.g; rw [Tab.make_len]; exact ok.tl, ok.sl, fun i l x h => by have := ok.sk i l x h; omega, by have := ok.many; show 0 ≤ I.many ∧ I.many ≤ K + 1; omega⟩
theorem Ide.ok.acq (ok : I.ok K) : ({ I with sem := (acqS I.sem s g).1 } : Ide).ok (K + 1) := ⟨ok.c, ok.ml, ok.pl, ok.pm, ok.tab.mono, ok.tl, by show (acqS I.sem s g).1.length = 4; rw [acq_sem.1]; exact ok.sl, acq_sem.2 K ok.sk, by have := ok.many; show 0 ≤ I.many ∧ I.many ≤ K + 1; omega⟩
theorem Ide.ok.rel (ok : I.ok K) : ({ I with sem := (relS I.sem s).1 } : Ide).ok K := ⟨ok.c, ok.ml, ok.pl, ok.pm, ok.tab, ok.tl, by show (relS I.sem s).1.length = 4; rw [rel_sem.1]; exact ok.sl, rel_sem.2 K ok.sk, ok.many⟩
theorem Ide.ok.has (ok : I.ok K) (hm : m < I.c.m) : (I.has m p a g).ok K := by
  refine ⟨ok.c, ?_, ?_, ?_, ok.tab, ok.tl, ok.sl, ok.sk, ok.many⟩
  · show ((I.ms.modify m.toNat _).length : Int) = I.c.m
    rw [List.length_modify]; exact ok.ml
  · show ((if 0 ≤ p then I.ps.set p.toNat m else I.ps).length : Int) = I.c.n
    split
    · rw [List.length_set]; exact ok.pl
    · exact ok.pl
  · show ∀ q ∈ (if 0 ≤ p then I.ps.set p.toNat m else I.ps), q < I.c.m
    split
    · intro q hq
      rcases mem_set_of hq with h | rfl
      · exact ok.pm q h
      · exact hm
    · exact ok.pm
theorem Ide.ok.msMod (ok : I.ok K) (k : Nat) (f : Mc → Mc) : ({ I with ms := I.ms.modify k f } : Ide).ok K := ⟨ok.c, by show ((I.ms.modify k f).length : Int) = I.c.m; rw [List.length_modify]; exact ok.ml, ok.pl, ok.pm, ok.tab, ok.tl, ok.sl, ok.sk, ok.many⟩
theorem Ide.ok.pset (ok : I.ok K) (hv : v < I.c.m) : (I.pset p v).ok K := by
  refine ⟨ok.c, ok.ml, ?_, ?_, ok.tab, ok.tl, ok.sl, ok.sk, ok.many⟩
  · show ((I.ps.set p.toNat v).length : Int) = I.c.n
    rw [List.length_set]; exact ok.pl
  · intro q hq
    rcases mem_set_of hq with h | rfl
    · exact ok.pm q h
    · exact hv
theorem Ide.ok.one (ok : I.ok K) : ({ I with many := I.many + 1 } : Ide).ok (K + 1) := ⟨ok.c, ok.ml, ok.pl, ok.pm, ok.tab.mono, ok.tl, ok.sl, fun i l x h => by have := ok.sk i l x h; omega, by have := ok.many; show 0 ≤ I.many + 1 ∧ I.many + 1 ≤ K + 1; omega⟩
/-- What a right note's fields are. -/
theorem right_of {c : Cfg} (h : rightB c n = true) : (103 ∈ fK n.kind → 0 ≤ n.g ∧ n.g < c.g) ∧ (112 ∈ fK n.kind → 0 ≤ n.p ∧ n.p < c.n) ∧ (109 ∈ fK n.kind → 0 ≤ n.m ∧ n.m < c.m) ∧ (120 ∈ fK n.kind → 0 ≤ n.x ∧ n.x < xK c n.kind) := by
  unfold rightB at h
  simp only [Bool.and_eq_true] at h
  obtain ⟨h1, h2, h3, h4⟩ := h
  have key : ∀ {b : Bool} {v w : Int}, fieldB b v w = true → b = true → 0 ≤ v ∧ v < w := by
    intro b v w hb e
    subst e
    simpa [fieldB] using hb
  exact ⟨fun e => key h1 (decide_eq_true e), fun e => key h2 (decide_eq_true e), fun e => key h3 (decide_eq_true e), fun e => key h4 (decide_eq_true e)⟩
/-- A note is done, and told. -/
def stepI (I : Ide) (n : Nt) : Ide := { doK I n with many := (doK I n).many + 1 }
theorem kinds_or (h : 1 ≤ n.kind ∧ n.kind ≤ 16) : n.kind = 1 ∨ n.kind = 2 ∨ n.kind = 3 ∨ n.kind = 4 ∨ n.kind = 5 ∨ n.kind = 6 ∨ n.kind = 7 ∨ n.kind = 8 ∨ n.kind = 9 ∨ n.kind = 10 ∨ n.kind = 11 ∨ n.kind = 12 ∨ n.kind = 13 ∨ n.kind = 14 ∨ n.kind = 15 ∨ n.kind = 16 := by omega
theorem Ide.ok.doK (ok : I.ok K) (hr : rightB I.c n = true) (hk : 1 ≤ n.kind ∧ n.kind ≤ 16) : (doK I n).ok (K + 2) := by
  obtain ⟨hg, hp, hm, hx⟩ := right_of hr
  have hcm : 0 < I.c.m := by have := ok.ml; have := ok.c; obtain ⟨_, h1, _, _, _, h2, _⟩ := this; omega
  have m2 : I.ok (K + 2) := by have := ok.mono.mono; rwa [Int.add_assoc] at this
  have up : ∀ {J : Ide}, J.ok (K + 1) → J.ok (K + 2) := fun h => by have := h.mono; rwa [Int.add_assoc] at this
  obtain ⟨kind, g, p, m, x⟩ := n
  simp only at hg hp hm hx hk
  rcases kinds_or (n := ⟨kind, g, p, m, x⟩) hk with h | h | h | h | h | h | h | h | h | h | h | h | h | h | h | h <;> (simp only at h; subst h)
  · exact up ok.make
  · exact up (ok.tset.has (hm (by decide)).2)
  · exact up (ok.tset.has (hm (by decide)).2)
  · exact up (ok.tset.has (hm (by decide)).2)
  · exact up ok.acq
  · have h2 := (ok.acq (s := x) (g := g)).tset (g := g) (s := 3)
    rw [Int.add_assoc] at h2
    exact h2.has (p := p) (a := 1) (g := -1) (hm (by decide)).2
  · exact m2.rel
  · exact up (ok.rel.tset)
  · exact up (ok.tset.has (hm (by decide)).2)
  · exact up ((ok.tset.has (hm (by decide)).2).msMod _ _)
  · show (Ide.has (Ide.tset (if x = 1 then I.drops p else I) g 2) m p 2 g).ok (K + 2)
    split
    · exact up ((Ide.ok.tset (ok.msMod _ _)).has (hm (by decide)).2)
    · exact up (ok.tset.has (hm (by decide)).2)
  · exact up (ok.tset.msMod _ _)
  · exact m2.has (hm (by decide)).2
  · exact (m2.msMod _ _).pset (by show (-1 : Int) < I.c.m; omega)
  · exact (m2.msMod _ _).pset (by show (-2 : Int) < I.c.m; omega)
  · exact m2
theorem mayB_of (h : mayB I n = true) : (1 ≤ n.kind ∧ n.kind ≤ 16) ∧ rightB I.c n = true ∧ mayK I n = true := by
  unfold mayB at h
  simp only [Bool.and_eq_true, decide_eq_true_eq] at h
  exact h
theorem Ide.ok.step (ok : I.ok K) (h : mayB I n = true) : (stepI I n).ok (K + 3) := by
  obtain ⟨h1, h2, _⟩ := mayB_of h
  have := (ok.doK h2 h1).one
  rw [Int.add_assoc] at this
  exact this
end
end Go.Proofs.Ytlhnmbajbhaaoaa
