/- The system, as a thing of numbers: what notes may be, and what they do. No condition. -/
import Derived.Test.YtlhnmbajbhaaoaaIdTab9
import Derived.Test.YtlhnmbajbhaaoaaIdSem5
import Derived.Test.YtlhnmbajbhaaoaaIdConfR
namespace Go.Proofs.Ytlhnmbajbhaaoaa
open Go Go.SL
set_option linter.unusedSimpArgs false
set_option linter.unusedVariables false
/-- A note. -/
structure Nt where
  kind : Int
  g : Int
  p : Int
  m : Int
  x : Int
deriving DecidableEq
abbrev nv (n : Nt) : List Value := [.int .i64 n.kind, .int .i64 n.g, .int .i64 n.p, .int .i64 n.m, .int .i64 n.x]
abbrev noteV (n : Nt) : Value := .agg (nv n).toArray
/-- An M, and the P on which its call began. -/
structure Mc where
  a : Int
  p : Int
  g : Int
  b : Int
deriving DecidableEq
structure Ide where
  c : Cfg
  tab : Tab
  sem : SemS
  ms : List Mc
  ps : List Int
  many : Int
/-- The letters of the numbers that have a meaning. -/
def fK (k : Int) : List UInt8 :=
  if k = 1 ∨ k = 8 then [103, 109, 120] else if k = 2 ∨ k = 5 ∨ k = 6 ∨ k = 7 ∨ k = 11 then [103, 112, 109, 120]
  else if k = 3 ∨ k = 4 ∨ k = 9 ∨ k = 10 then [103, 112, 109] else if k = 12 then [103, 109] else if k = 13 then [112, 109, 120] else if k = 14 then [112, 109] else [112]
/-- X stays below this. -/
def xK (c : Cfg) (k : Int) : Int := if k = 1 then c.g else if k = 2 ∨ k = 11 ∨ k = 13 then 2 else if k = 5 ∨ k = 6 ∨ k = 7 ∨ k = 8 then 4 else 0
def fieldB (named : Bool) (n bound : Int) : Bool := if named then decide (0 ≤ n ∧ n < bound) else decide (n = -1)
def rightB (c : Cfg) (n : Nt) : Bool :=
  fieldB (decide (103 ∈ fK n.kind)) n.g c.g && (fieldB (decide (112 ∈ fK n.kind)) n.p c.n && (fieldB (decide (109 ∈ fK n.kind)) n.m c.m && fieldB (decide (120 ∈ fK n.kind)) n.x (xK c n.kind)))
section
variable (I : Ide) (n : Nt)
def Ide.mAt (m : Int) : Mc := I.ms[m.toNat]?.getD ⟨0, 0, 0, 0⟩
def Ide.pAt (p : Int) : Int := I.ps[p.toNat]?.getD 0
def Ide.stat (g : Int) : Int := if 0 ≤ g ∧ g < I.tab.all.length then (I.tab.all[g.toNat]?.getD (0, 0)).1 else 0
def Ide.count (s : Int) : Int := if 0 ≤ s then (I.sem[s.toNat]?.map (·.2)).getD (-1) else -1
def Ide.first (s g : Int) : Bool := if g < 0 then decide (rowS I.sem s = []) else decide ((rowS I.sem s)[0]? = some g)
def Ide.kept (p : Int) : Bool := decide (0 ≤ I.pAt p) && decide ((I.mAt (I.pAt p)).a = 3)
def Ide.callers : Nat := I.ms.countP fun m => decide (m.a = 3)
def runsB : Bool := decide ((I.mAt n.m).a = 2 ∧ (I.mAt n.m).p = n.p ∧ (I.mAt n.m).g = n.g)
def searchesB : Bool := decide ((I.mAt n.m).a = 1 ∧ (I.mAt n.m).p = n.p ∧ (I.mAt n.m).g = -1)
def callsB : Bool := decide ((I.mAt n.m).a = 3) && decide ((I.mAt n.m).g = n.g)
def mayK : Bool :=
  if n.kind = 1 then decide ((I.mAt n.m).a = 2) && (decide ((I.mAt n.m).g = n.x) && decide (I.tab.row[0]? = some n.g))
  else if n.kind = 2 then searchesB I n && decide (I.stat n.g = 1)
  else if n.kind = 3 ∨ n.kind = 4 ∨ n.kind = 9 then runsB I n
  else if n.kind = 5 then runsB I n && decide (0 < I.count n.x)
  else if n.kind = 6 then runsB I n && decide (I.count n.x = 0)
  else if n.kind = 7 then runsB I n && (I.first n.x (-1) && decide (I.count n.x < 1073741824))
  else if n.kind = 8 then decide ((I.mAt n.m).a = 2) && I.first n.x n.g
  else if n.kind = 10 then runsB I n && decide ((I.callers : Int) < I.c.m - I.c.n)
  else if n.kind = 11 then if n.x = 1 then callsB I n && (decide ((I.mAt n.m).b = n.p) && I.kept n.p) else callsB I n && (decide ((I.mAt n.m).p < 0) && decide (I.pAt n.p = -1))
  else if n.kind = 12 then callsB I n && decide ((I.mAt n.m).p < 0)
  else if n.kind = 13 then decide ((I.mAt n.m).a = 0) && decide (I.pAt n.p = n.x - 2)
  else if n.kind = 14 then searchesB I n
  else if n.kind = 15 then I.kept n.p
  else true
def mayB : Bool := decide (1 ≤ n.kind ∧ n.kind ≤ 16) && (rightB I.c n && mayK I n)
/-- An M does something on a P, with a goroutine. -/
def Ide.has (m p a g : Int) : Ide := { I with ms := I.ms.modify m.toNat fun x => { x with a := a, p := p, g := g }, ps := if 0 ≤ p then I.ps.set p.toNat m else I.ps }
def Ide.leaves (m : Int) : Ide := { I with ms := I.ms.modify m.toNat fun x => { x with a := 0, p := -1, g := -1 } }
def Ide.drops (p : Int) : Ide := { I with ms := I.ms.modify (I.pAt p).toNat fun x => { x with p := -1 } }
def Ide.tset (g s : Int) : Ide := { I with tab := (I.tab.set g s).2 }
def Ide.pset (p v : Int) : Ide := { I with ps := I.ps.set p.toNat v }
def doK : Ide :=
  if n.kind = 1 then { I with tab := I.tab.make.2.2 }
  else if n.kind = 2 then (I.tset n.g 2).has n.m n.p 2 n.g
  else if n.kind = 3 ∨ n.kind = 4 then (I.tset n.g 1).has n.m n.p 1 (-1)
  else if n.kind = 5 then { I with sem := (acqS I.sem n.x n.g).1 }
  else if n.kind = 6 then (Ide.tset { I with sem := (acqS I.sem n.x n.g).1 } n.g 3).has n.m n.p 1 (-1)
  else if n.kind = 7 then { I with sem := (relS I.sem n.x).1 }
  else if n.kind = 8 then Ide.tset { I with sem := (relS I.sem n.x).1 } n.g 1
  else if n.kind = 9 then (I.tset n.g 0).has n.m n.p 1 (-1)
  else if n.kind = 10 then let J := (I.tset n.g 4).has n.m n.p 3 n.g; { J with ms := J.ms.modify n.m.toNat fun x => { x with b := n.p } }
  else if n.kind = 11 then (Ide.tset (if n.x = 1 then I.drops n.p else I) n.g 2).has n.m n.p 2 n.g
  else if n.kind = 12 then (I.tset n.g 1).leaves n.m
  else if n.kind = 13 then I.has n.m n.p 1 (-1)
  else if n.kind = 14 then (I.leaves n.m).pset n.p (-1)
  else if n.kind = 15 then (I.drops n.p).pset n.p (-2)
  else I
/-- Notes that are taken: how many, and the system. -/
def takeI : Ide → List Nt → Nat × Ide
  | I, [] => (0, I)
  | I, n :: l => if mayB I n then let r := takeI { doK I n with many := (doK I n).many + 1 } l; (r.1 + 1, r.2) else (0, I)
end
/-- It is within bounds. -/
structure Ide.ok (I : Ide) (K : Int) : Prop where
  c : RightP I.c
  ml : (I.ms.length : Int) = I.c.m
  pl : (I.ps.length : Int) = I.c.n
  pm : ∀ q ∈ I.ps, q < I.c.m
  tab : I.tab.ok K
  tl : (I.tab.all.length : Int) = I.c.g
  sl : I.sem.length = 4
  sk : ∀ (i : Nat) (l : List Int) (x : Int), I.sem[i]? = some (l, x) → (l.length : Int) ≤ K
  many : 0 ≤ I.many ∧ I.many ≤ K
theorem modify_mem {α : Type} {l : List α} {k : Nat} {f : α → α} {y : α} (h : y ∈ l.modify k f) : y ∈ l ∨ ∃ x ∈ l, y = f x := by
  obtain ⟨i, hi, rfl⟩ := List.getElem_of_mem h
  rw [List.getElem_modify]
  split
  · exact .inr ⟨_, List.getElem_mem _, rfl⟩
  · exact .inl (List.getElem_mem _)
end Go.Proofs.Ytlhnmbajbhaaoaa
