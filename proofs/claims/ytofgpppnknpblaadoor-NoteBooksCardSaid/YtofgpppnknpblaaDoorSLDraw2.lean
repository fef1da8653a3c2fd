/- Regions whose order is drawn: the theorem. No condition. -/
import Derived.Test.YtofgpppnknpblaaDoorSLDraw
set_option linter.unusedSimpArgs false
set_option linter.unusedVariables false
namespace Go.SL
open Go Go.RowKit

/-- The frame behind some operations, the last one first. -/
def frOf (ops : List Oper) (fr0 : Fr) : List (Nat × Value) → Fr
  | [] => fr0
  | (i, v) :: done => (frOf ops fr0 done).putO (dstOf ops i) v

theorem frOf_ds (ops : List Oper) (fr0 : Fr) : ∀ (done : List (Nat × Value)), (frOf ops fr0 done).ds = fr0.ds
  | [] => rfl
  | (i, v) :: done => by unfold frOf; rw [putO_ds]; exact frOf_ds ops fr0 done
section
variable {ops : List Oper} {fr0 : Fr}
theorem frOf_none {t : Nat} : ∀ (done : List (Nat × Value)), (∀ p ∈ done, dstOf ops p.1 ≠ some t) → frOf ops fr0 done t = fr0 t
  | [], _ => rfl
  | (i, v) :: done, h => by
    have h1 := h (i, v) (by simp)
    have ih := frOf_none done fun p hp => h p (by simp [hp])
    unfold frOf
    cases hd : dstOf ops i with
    | none => exact ih
    | some d =>
      have : t ≠ d := fun e => h1 (by rw [hd, e])
      simp only [Fr.putO]
      rw [put_ne _ _ _ _ this]; exact ih
theorem frOf_at {t i : Nat} {v : Value} : ∀ (pre : List (Nat × Value)) (tail : List (Nat × Value)), dstOf ops i = some t → (∀ p ∈ pre, dstOf ops p.1 ≠ some t) →
    frOf ops fr0 (pre ++ (i, v) :: tail) t = v
  | [], tail, hd, _ => by simp [frOf, hd, Fr.putO, put_same]
  | (j, u) :: pre, tail, hd, h => by
    have h1 := h (j, u) (by simp)
    have ih := frOf_at (v := v) pre tail hd fun p hp => h p (by simp [hp])
    show (frOf ops fr0 (pre ++ (i, v) :: tail)).putO (dstOf ops j) u t = v
    cases hdj : dstOf ops j with
    | none => exact ih
    | some d =>
      have : t ≠ d := fun e => h1 (by rw [hdj, e])
      simp only [Fr.putO]
      rw [put_ne _ _ _ _ this]; exact ih
end

/-- The edges that bind. -/
def bnd (o : Oper) : List Edge := o.after.toList.filter (Region.binds .any)
/-- What is asked of an order, by program. -/
def wellRead (ops : List Oper) (x : Nat) (o : Oper) : Bool :=
  (reads ops o).all fun t => (List.range ops.length).all fun j => match ops[j]? with
    | some q => (match q.dst with
      | some d => d != t || ((bnd o).any fun e => e.on == j) || ((bnd q).any fun e => e.on == x)
      | none => true)
    | none => true
/-- An order to walk: what only looks; what acts, and what else may act in its place. -/
inductive Ord where
  | nil
  | stop
  | look (i : Nat) (k : Ord)
  | act (i : Nat) (k other : Ord)
def Ord.alts : Ord → List Nat
  | .act i _ other => i :: other.alts
  | _ => []
def Ord.all : Ord → List Nat
  | .look i k => i :: k.all
  | .act i k _ => i :: k.all
  | _ => []
def depsIn (ops : List Oper) (pre : List Nat) (i : Nat) : Bool :=
  match ops[i]? with | some o => (bnd o).all (fun e => pre.contains e.on) | none => false
def nothingElse (ops : List Oper) (pre alts : List Nat) : Bool :=
  (List.range ops.length).all fun x => pre.contains x || alts.contains x || (match ops[x]? with | some o => (bnd o).any (fun e => !pre.contains e.on) | none => true)
/-- head: is this the first of those that may act here? -/
def okFrom (ops : List Oper) (E : List Nat) : Bool → List Nat → Ord → Bool
  | head, pre, .nil => head && (List.range ops.length).all fun i => pre.contains i
  | head, _, .stop => !head
  | head, pre, .look i k => head && depsIn ops pre i && !pre.contains i && !E.contains i && okFrom ops E true (i :: pre) k
  | head, pre, .act i k other => depsIn ops pre i && !pre.contains i && E.contains i && (!head || nothingElse ops pre (i :: other.alts)) && okFrom ops E true (i :: pre) k && okFrom ops E false pre other
def okDraw (n : Nat) (ops : List Oper) (E : List Nat) (C : Ord) : Bool :=
  -- edges go back, and bind
  (List.range ops.length).all (fun i => match ops[i]? with
    | some o => (bnd o).all (fun e => decide (e.on < i)) && (match o.dst with | some d => decide (d < n) | none => true) && wellRead ops i o
    | none => true) &&
  -- each slot has one writer
  (List.range ops.length).all (fun i => (List.range ops.length).all fun j => i == j || (match dstOf ops i, dstOf ops j with | some d, some e => d != e | _, _ => true)) &&
  -- the order goes by the edges; where something acts nothing else is ready
  okFrom ops E true [] C

def hasDep (ops : List Oper) (m k : Nat) : Bool := match ops[m]? with | some o => (bnd o).any (fun e => e.on == k) | none => false
/-- Those on which the operation i hangs. -/
def ancL (ops : List Oper) (i : Nat) : Nat → List Nat → List Nat
  | 0, acc => acc
  | k + 1, acc => ancL ops i k (if (i :: acc).any (fun m => hasDep ops m k) then k :: acc else acc)
/-- The walk of one order. -/
def DW (ro : Option Nat) (P : Program) (B : World) (n : Nat) (ops : List Oper) (Q : Post) : Ord → List (Nat × (HProp → Prop)) → Fr → HProp → Prop
  | .nil, _, fr, H => Q .normal fr H
  | .stop, _, _, _ => True
  | .look i C, pend, fr, H => ∃ o v, ops[i]? = some o ∧ WPL ro P B n ops.toArray [o] fr H (QOne o.dst fr fun v' H' => v' = v ∧ Ent H' H) ∧
      DW ro P B n ops Q C ((i, fun G => WPL ro P B n ops.toArray [o] fr G (QOne o.dst fr fun v' H' => v' = v ∧ Ent H' G)) :: pend) (fr.putO o.dst v) H
  | .act i C other, pend, fr, H => (∃ o K, ops[i]? = some o ∧ WPL ro P B n ops.toArray [o] fr H (QOne o.dst fr K) ∧
      ∀ v H', K v H' → (∀ p ∈ pend, (ancL ops i i []).contains p.1 = false → p.2 H') ∧ DW ro P B n ops Q C pend (fr.putO o.dst v) H') ∧ DW ro P B n ops Q other pend fr H

structure St (n : Nat) (ops : List Oper) (fr0 : Fr) (done : List (Nat × Value)) (L : Nat → Bool) (a : Act) : Prop where
  size : a.tmps.size = n
  defers : a.defers = fr0.ds.map markOf
  sub : ∀ i, L i = true → i ∈ done.map (·.1)
  down : ∀ (i : Nat) (o : Oper), L i = true → ops[i]? = some o → ∀ e ∈ bnd o, L e.on = true
  late : ∀ t j, dstOf ops j = some t → j ∈ done.map (·.1) → L j = false → a.tmps.getD t undef = fr0 t
  slot : ∀ t, (∀ j, dstOf ops j = some t → j ∈ done.map (·.1) → L j = true) → a.tmps.getD t undef = frOf ops fr0 done t

/-- What the check says. -/
structure Good (n : Nat) (ops : List Oper) : Prop where
  back : ∀ (i : Nat) (o : Oper), ops[i]? = some o → ∀ e ∈ bnd o, e.on < i
  fits : ∀ (i : Nat) (o : Oper) (d : Nat), ops[i]? = some o → o.dst = some d → d < n
  one : ∀ i j d : Nat, dstOf ops i = some d → dstOf ops j = some d → i = j
  read : ∀ (x : Nat) (o : Oper) (t : Nat), ops[x]? = some o → t ∈ reads ops o → ∀ (j : Nat) (q : Oper), ops[j]? = some q → q.dst = some t → (∃ e ∈ bnd o, e.on = j) ∨ (∃ e ∈ bnd q, e.on = x)
/-- The walked order goes by the edges. -/
def Ordered (ops : List Oper) (done : List (Nat × Value)) : Prop :=
  ∀ (pre : List (Nat × Value)) (j : Nat) (u : Value) (tail : List (Nat × Value)), done = pre ++ (j, u) :: tail → ∀ o, ops[j]? = some o → ∀ e ∈ bnd o, e.on ∈ tail.map (·.1)

section
variable {ro : Option Nat} {P : Program} {B : World} {n : Nat} {ops : List Oper} {fr0 : Fr} {Q : Post}
theorem dstOf_of {i : Nat} {o : Oper} (h : ops[i]? = some o) : dstOf ops i = o.dst := by simp [dstOf, h]

/-- At an operation that may go, its operands are what they were in the walk. -/
theorem reads_agree (g : Good n ops) {done pre tail : List (Nat × Value)} {x : Nat} {v : Value} {o : Oper} {L : Nat → Bool} {a : Act} (hst : St n ops fr0 done L a) (hnd : (done.map (·.1)).Nodup)
    (hord : Ordered ops done) (hdone : done = pre ++ (x, v) :: tail) (ho : ops[x]? = some o) (hrdy : ∀ e ∈ bnd o, L e.on = true) (hx : L x = false)
    {t : Nat} (ht : t ∈ reads ops o) : a.tmps.getD t undef = frOf ops fr0 tail t := by
  have hpre : ∀ e ∈ bnd o, e.on ∈ tail.map (·.1) := hord pre x v tail hdone o ho
  subst hdone
  by_cases hw : ∃ (j : Nat) (q : Oper), ops[j]? = some q ∧ q.dst = some t
  · obtain ⟨j, q, hj, hq⟩ := hw
    have hdj : dstOf ops j = some t := by rw [dstOf_of hj, hq]
    rcases g.read x o t ho ht j q hj hq with ⟨e, he, rfl⟩ | ⟨e, he, hex⟩
    · -- its writer is done
      have hL := hrdy e he
      have hin := hpre e he
      rw [hst.slot t (fun k hk _ => by rw [g.one k e.on t hk hdj]; exact hL)]
      obtain ⟨p, hp, hpe⟩ := List.mem_map.1 hin
      obtain ⟨s1, s2, rfl⟩ := List.append_of_mem hp
      obtain ⟨i, u⟩ := p
      simp only at hpe
      subst hpe
      have nd := hnd
      simp only [List.map_append, List.map_cons, List.nodup_append, List.nodup_cons, List.mem_cons, List.mem_append, List.mem_map] at nd
      have u1 : ∀ p ∈ s1, dstOf ops p.1 ≠ some t := fun p hp h => by
        have := g.one p.1 e.on t h hdj
        have hmem : e.on ∈ s1.map (·.1) := List.mem_map.2 ⟨p, hp, this⟩
        have nd2 : ((s1 ++ (e.on, u) :: s2).map (·.1)).Nodup := by
          have := hnd
          rw [List.map_append, List.nodup_append] at this
          have h2 := this.2.1
          rw [List.map_cons, List.nodup_cons] at h2
          exact h2.2
        rw [List.map_append, List.nodup_append] at nd2
        exact nd2.2.2 _ hmem _ (by simp) rfl
      have u2 : ∀ p ∈ pre ++ (x, v) :: s1, dstOf ops p.1 ≠ some t := fun p hp h => by
        have hpe := g.one p.1 e.on t h hdj
        have nd3 : ((pre ++ (x, v) :: s1) ++ (e.on, u) :: s2).map (·.1) |>.Nodup := by
          simpa using hnd
        rw [List.map_append, List.nodup_append] at nd3
        exact nd3.2.2 e.on (List.mem_map.2 ⟨p, hp, hpe⟩) e.on (by simp) rfl
      rw [frOf_at s1 s2 hdj u1]
      have := frOf_at (fr0 := fr0) (pre ++ (x, v) :: s1) s2 hdj u2 (v := u)
      simpa using this
    · -- its writer comes later
      have hLj : L j = false := by
        cases hLj : L j with
        | false => rfl
        | true =>
          have := hst.down j q hLj hj e he
          rw [hex, hx] at this
          cases this
      have htail : ∀ p ∈ tail, dstOf ops p.1 ≠ some t := fun p hp h => by
        -- a writer in the tail would be j; but j leans on x
        have hpj := g.one p.1 j t h hdj
        obtain ⟨i, u⟩ := p
        simp only at hpj
        subst hpj
        obtain ⟨s1, s2, rfl⟩ := List.append_of_mem hp
        have hin := hord (pre ++ (x, v) :: s1) i u s2 (by simp) q hj e he
        rw [hex] at hin
        have nd3 : ((pre ++ [(x, v)]) ++ (s1 ++ (i, u) :: s2)).map (·.1) |>.Nodup := by simpa using hnd
        rw [List.map_append, List.nodup_append] at nd3
        refine nd3.2.2 x (by simp) x ?_ rfl
        simp only [List.map_append, List.map_cons, List.mem_append, List.mem_cons]
        exact .inr (.inr hin)
      rw [frOf_none tail htail]
      by_cases hin : j ∈ (pre ++ (x, v) :: tail).map (·.1)
      · exact hst.late t j hdj hin hLj
      · rw [hst.slot t (fun k hk hkin => by have := g.one k j t hk hdj; subst this; exact absurd hkin hin)]
        exact frOf_none _ fun p hp h => by
          have := g.one p.1 j t h hdj
          exact hin (List.mem_map.2 ⟨p, hp, this⟩)
  · have hno : ∀ j, dstOf ops j ≠ some t := fun j h => by
      cases hj : ops[j]? with
      | none => simp [dstOf, hj] at h
      | some q => exact hw ⟨j, q, hj, by rw [← dstOf_of hj]; exact h⟩
    rw [hst.slot t (fun j hj => absurd hj (hno j)), frOf_none _ (fun p _ => hno p.1), frOf_none _ (fun p _ => hno p.1)]

theorem yielded_congr {ops : Array Oper} {f g : Array Value} {j : Nat} (h : ∀ s, (ops[j]?).bind (·.dst) = some s → f.getD s undef = g.getD s undef) : yielded ops f j = yielded ops g j := by
  unfold yielded
  cases hs : (ops[j]?).bind (·.dst) with
  | none => rfl
  | some s =>
    have hk := h s hs
    rw [Array.getD_eq_getD_getElem?, Array.getD_eq_getD_getElem?] at hk
    simp only [Option.bind_some]
    cases hf : f[s]? with
    | none =>
      cases hg : g[s]? with
      | none => rfl
      | some u =>
        simp only [hf, hg, Option.getD_none, Option.getD_some, undef] at hk
        subst hk; rfl
    | some v =>
      cases hg : g[s]? with
      | none =>
        simp only [hf, hg, Option.getD_none, Option.getD_some, undef] at hk
        subst hk; rfl
      | some u =>
        simp only [hf, hg, Option.getD_some] at hk
        subst hk; rfl

/-- A step of one operation that may go. -/
theorem go_step (g : Good n ops) {done tail : List (Nat × Value)} {x : Nat} {o : Oper} {L : Nat → Bool} {a : Act} {w : World} {H : HProp} {K : Value → HProp → Prop} {next : Act → World → Prop} {R : Exit → Act → World → Prop}
    (hst : St n ops fr0 done L a) (hlate : ∀ t, n ≤ t → fr0 t = undef)
    (hag : ∀ t ∈ reads ops o, a.tmps.getD t undef = frOf ops fr0 tail t)
    (hsub : ∀ p ∈ tail, ∃ q, ops[p.1]? = some q) (ho : ops[x]? = some o)
    (h : WPL ro P B n ops.toArray [o] (frOf ops fr0 tail) H (QOne o.dst (frOf ops fr0 tail) K)) (hw : Holds B H w)
    (k : ∀ v v' H' w', (o.dst.isSome = true → v' = v) → Holds B H' w' → K v' H' → next (a.put o.dst v) w') :
    if Region.wanted o (yielded ops.toArray a.tmps) then o.wpIn (FW ro) 0 P a w next R else next (a.put o.dst undef) w := by
  have hfr : ∀ t, n ≤ t → frOf ops fr0 tail t = undef := by
    intro t ht
    rw [frOf_none tail (fun p hp hd => ?_)]
    · exact hlate t ht
    · obtain ⟨q, hq⟩ := hsub p hp
      have := g.fits p.1 q t hq (by rw [← dstOf_of hq]; exact hd)
      omega
  have hdn : ∀ d, o.dst = some d → d < n := fun d hd => g.fits x o d ho hd
  have hwant : Region.wanted o (yielded ops.toArray a.tmps) = Region.wanted o (yielded ops.toArray ((Array.range n).map (frOf ops fr0 tail).f)) := by
    unfold Region.wanted
    cases hg : o.guard with
    | none => rfl
    | some gd =>
      obtain ⟨j, want⟩ := gd
      have : yielded ops.toArray a.tmps j = yielded ops.toArray ((Array.range n).map (frOf ops fr0 tail).f) j := by
        refine yielded_congr fun s hs => ?_
        rw [(models_full _ hfr).slot s]
        refine hag s ?_
        have hs' : dstOf ops j = some s := by simpa [dstOf] using hs
        unfold reads
        rw [hg]
        simp [hs']
      simp only [this]
  have hev : o.semAt ro a.eval = o.semAt ro (ev (frOf ops fr0 tail)) := by
    refine semAt_congr o fun y hy => ?_
    cases y with
    | tmp t =>
      refine hag t ?_
      unfold reads
      refine List.mem_append_left _ (List.mem_filterMap.2 ⟨.tmp t, hy, rfl⟩)
    | _ => rfl
  rw [hwant]
  rcases wpl_one hdn hfr h hw with ⟨h1, h2⟩ | ⟨h1, v', H', h3, h4, h5⟩
  · rw [if_pos h1]
    refine ⟨fun f _ => trivial, ?_⟩
    have hro : (FW ro).round = ro := rfl
    rw [hro, hev]
    exact h2.upon k
  · rw [if_neg (by simp [h1])]
    exact k undef v' H' w h3 h4 h5

def unlisted (k : Nat) (l : Array Bool) : Nat := ((List.range k).filter fun i => !l.getD i false).length
theorem filter_lt {p q : Nat → Bool} (l : List Nat) (h : ∀ j ∈ l, q j = true → p j = true) {i : Nat} (hi : i ∈ l) (hp : p i = true) (hq : q i = false) : (l.filter q).length < (l.filter p).length := by
  induction l with
  | nil => cases hi
  | cons j l ih =>
    have hl : (l.filter q).length ≤ (l.filter p).length := by
      clear ih hi
      induction l with
      | nil => simp
      | cons k l ih2 =>
        have := ih2 fun m hm => h m (by simp only [List.mem_cons] at hm ⊢; rcases hm with rfl | hm <;> simp_all)
        have hk := h k (by simp)
        simp only [List.filter_cons]
        cases hqk : q k <;> cases hpk : p k <;> simp_all <;> omega
    rcases List.mem_cons.1 hi with rfl | hi'
    · simp only [List.filter_cons, hp, hq, if_true, Bool.false_eq_true, if_false, List.length_cons]; omega
    · have := ih (fun m hm => h m (by simp [hm])) hi'
      have hj := h j (by simp)
      simp only [List.filter_cons]
      cases hqk : q j <;> cases hpk : p j <;> simp_all <;> omega

theorem St.step (g : Good n ops) {done : List (Nat × Value)} {L L' : Nat → Bool} {a : Act} {x : Nat} {o : Oper} {u : Value} (hst : St n ops fr0 done L a) (hx : ops[x]? = some o) (hin : x ∈ done.map (·.1))
    (hval : ∀ d, o.dst = some d → frOf ops fr0 done d = u) (hdeps : ∀ e ∈ bnd o, L e.on = true) (hL' : ∀ j, L' j = (if j = x then true else L j)) : St n ops fr0 done L' (a.put o.dst u) := by
  have hup : ∀ j, L j = true → L' j = true := fun j hj => by rw [hL']; split <;> simp_all
  have hslot : ∀ t, o.dst ≠ some t → (a.put o.dst u).tmps.getD t undef = a.tmps.getD t undef := by
    intro t ht
    cases hd : o.dst with
    | none => rfl
    | some d =>
      have : d ≠ t := fun e => ht (by rw [hd, e])
      simp [Act.put, Array.getD_eq_getD_getElem?, Array.getElem?_setIfInBounds, this]
  refine ⟨?_, ?_, ?_, ?_, ?_, ?_⟩
  · cases hd : o.dst <;> simp [Act.put, hst.size]
  · cases hd : o.dst <;> simp [Act.put, hst.defers]
  · intro i hi
    rw [hL'] at hi
    split at hi
    · rename_i e; subst e; exact hin
    · exact hst.sub i hi
  · intro i q hi hq e he
    rw [hL'] at hi
    split at hi
    · rename_i e'; subst e'; rw [hx] at hq; cases hq; exact hup _ (hdeps e he)
    · exact hup _ (hst.down i q hi hq e he)
  · intro t j hj hjin hLj
    rw [hL'] at hLj
    split at hLj
    · cases hLj
    · rename_i hne
      rw [hslot t (fun hd => hne (g.one j x t hj (by rw [dstOf_of hx, hd])))]
      exact hst.late t j hj hjin hLj
  · intro t ht
    by_cases hd : o.dst = some t
    · rw [hval t hd]
      have htn := g.fits x o t hx hd
      simp [Act.put, hd, Array.getD_eq_getD_getElem?, Array.getElem?_setIfInBounds, hst.size, htn]
    · rw [hslot t hd]
      refine hst.slot t fun j hj hjin => ?_
      have := ht j hj hjin
      rw [hL'] at this
      split at this
      · rename_i e; subst e; rw [dstOf_of hx] at hj; exact absurd hj hd
      · exact this
theorem St.extend (g : Good n ops) {done : List (Nat × Value)} {L : Nat → Bool} {a : Act} {i : Nat} {v : Value} (hst : St n ops fr0 done L a) (hin : i ∉ done.map (·.1)) : St n ops fr0 ((i, v) :: done) L a := by
  have hLi : L i = false := by
    cases h : L i with
    | false => rfl
    | true => exact absurd (hst.sub i h) hin
  have hnot : ∀ t, dstOf ops i = some t → frOf ops fr0 done t = fr0 t := fun t ht => frOf_none done fun p hp hd => hin (List.mem_map.2 ⟨p, hp, g.one p.1 i t hd ht⟩)
  refine ⟨hst.size, hst.defers, fun j hj => by simp only [List.map_cons]; exact List.mem_cons_of_mem _ (hst.sub j hj), hst.down, ?_, ?_⟩
  · intro t j hj hjin hLj
    simp only [List.map_cons, List.mem_cons] at hjin
    rcases hjin with rfl | hjin
    · rw [hst.slot t (fun k hk hkin => by have := g.one k j t hk hj; subst this; exact absurd hkin hin)]
      exact hnot t hj
    · exact hst.late t j hj hjin hLj
  · intro t ht
    have hdi : dstOf ops i ≠ some t := fun h => by
      have := ht i h (by simp)
      rw [hLi] at this
      cases this
    rw [hst.slot t (fun j hj hjin => ht j hj (by simp only [List.map_cons]; exact List.mem_cons_of_mem _ hjin))]
    have e : frOf ops fr0 ((i, v) :: done) = (frOf ops fr0 done).putO (dstOf ops i) v := rfl
    rw [e]
    cases hd : dstOf ops i with
    | none => rfl
    | some d =>
      have : t ≠ d := fun e => hdi (by rw [hd, e])
      simp only [Fr.putO]
      rw [put_ne _ _ _ _ this]

/-- One round of the model's order, at a place of the walk where what is not done hangs on the next effect. -/
theorem one_round (g : Good n ops) (done : List (Nat × Value)) (pend : List (Nat × (HProp → Prop))) (H : HProp) (eff : Nat → Bool)
      (hlate : ∀ t, n ≤ t → fr0 t = undef) (hnd : (done.map (·.1)).Nodup) (hord : Ordered ops done) (hex : ∀ p ∈ done, ∃ q, ops[p.1]? = some q)
      (hqu : ∀ (pre : List (Nat × Value)) (x : Nat) (v : Value) (tail : List (Nat × Value)) (o : Oper), done = pre ++ (x, v) :: tail → ops[x]? = some o → eff x = false → ∃ p ∈ pend, p.1 = x ∧ ∀ G, p.2 G → WPL ro P B n ops.toArray [o] (frOf ops fr0 tail) G (QOne o.dst (frOf ops fr0 tail) fun v' H' => v' = v ∧ Ent H' G))
      -- all is done
      (hall : ∀ (a : Act) (w : World), Models n a (frOf ops fr0 done) → Holds B H w → (∀ i, i < ops.length → i ∈ done.map (·.1)) → lift B n Q .normal a w)
      -- the next effect
      (hnext : ∀ (x fuel t : Nat) (listed : Array Bool) (a : Act) (w : World), x < ops.length → x ∉ done.map (·.1) → (∀ (o : Oper), ops[x]? = some o → ∀ e ∈ bnd o, listed.getD e.on false = true) → listed.size = ops.length →
        unlisted ops.length (listed.setIfInBounds x true) ≤ fuel → St n ops fr0 done (fun i => listed.getD i false) a → (∀ i ∈ done.map (·.1), eff i = true → listed.getD i false = true) → (∀ p ∈ pend, listed.getD p.1 false = false → p.2 H) → Holds B H w →
        ∀ (o : Oper), ops[x]? = some o → if Region.wanted o (yielded ops.toArray a.tmps) then o.wpIn (FW ro) 0 P a w (fun a' w' => wpOpsR ro P ops.toArray (lift B n Q) (Region.linearise.go .any ops.toArray fuel t (listed.setIfInBounds x true) []) a' w') (lift B n Q)
          else wpOpsR ro P ops.toArray (lift B n Q) (Region.linearise.go .any ops.toArray fuel t (listed.setIfInBounds x true) []) (a.put o.dst undef) w)
      (fuel : Nat) : ∀ (t : Nat) (listed : Array Bool) (a : Act) (w : World), listed.size = ops.length → unlisted ops.length listed ≤ fuel → St n ops fr0 done (fun i => listed.getD i false) a →
      (∀ i ∈ done.map (·.1), eff i = true → listed.getD i false = true) → (∀ p ∈ pend, listed.getD p.1 false = false → p.2 H) → Holds B H w →
      wpOpsR ro P ops.toArray (lift B n Q) (Region.linearise.go .any ops.toArray fuel t listed []) a w := by
  -- where nothing is ready all is listed
  have full : ∀ listed : Array Bool, listed.size = ops.length → ((List.range ops.length).filter fun i =>
      !listed.getD i true && ((ops.toArray[i]?).map (·.after.all fun e => !Region.binds .any e || listed.getD e.on false)).getD false) = [] → ∀ i, i < ops.length → listed.getD i false = true := by
    intro listed hsz hnil i
    induction i using Nat.strongRecOn with
    | _ i ih =>
      intro hi
      cases hl : listed.getD i false with
      | true => rfl
      | false =>
        have ho : ops[i]? = some ops[i] := List.getElem?_eq_getElem hi
        have hmem : i ∈ ((List.range ops.length).filter fun i => !listed.getD i true && ((ops.toArray[i]?).map (·.after.all fun e => !Region.binds .any e || listed.getD e.on false)).getD false) := by
          refine List.mem_filter.2 ⟨by simpa using hi, ?_⟩
          have h1 : listed.getD i true = false := by
            rw [Array.getD_eq_getD_getElem?, Array.getElem?_eq_getElem (by omega)] at hl ⊢
            simpa using hl
          have h2 : (ops[i].after.all fun e => !Region.binds .any e || listed.getD e.on false) = true := by
            rw [Array.all_eq_true_iff_forall_mem]
            intro e he
            cases hb : Region.binds .any e with
            | false => rfl
            | true =>
              have heb : e ∈ bnd ops[i] := List.mem_filter.2 ⟨by simpa using he, hb⟩
              have := ih e.on (g.back i _ ho e heb) (Nat.lt_trans (g.back i _ ho e heb) hi)
              simp [this]
          rw [h1]
          simp only [List.getElem?_toArray, ho, Option.map_some, Option.getD_some, h2, Bool.not_false, Bool.and_self]
        rw [hnil] at hmem
        cases hmem
  have fin : ∀ (listed : Array Bool) (a : Act) (w : World), (∀ i, i < ops.length → listed.getD i false = true) → St n ops fr0 done (fun i => listed.getD i false) a → Holds B H w → lift B n Q .normal a w := by
    intro listed a w hl hst hw
    have hin : ∀ i, i < ops.length → i ∈ done.map (·.1) := fun i hi => hst.sub i (hl i hi)
    refine hall a w ⟨hst.size, by rw [frOf_ds]; exact hst.defers, fun t => hst.slot t fun j hj _ => ?_⟩ hw hin
    refine hl j ?_
    cases hq : ops[j]? with
    | none => simp [dstOf, hq] at hj
    | some q => exact (List.getElem?_eq_some_iff.1 hq).1
  induction fuel with
  | zero =>
    intro t listed a w hsz hun hst hef hpd hw
    have hl : ∀ i, i < ops.length → listed.getD i false = true := by
      intro i hi
      cases hli : listed.getD i false with
      | true => rfl
      | false =>
        have hmem : i ∈ (List.range ops.length).filter fun i => !listed.getD i false := List.mem_filter.2 ⟨by simpa using hi, by simp [hli]⟩
        have := List.length_pos_of_mem hmem
        unfold unlisted at hun
        omega
    simp only [Region.linearise.go, List.reverse_nil, wpOpsR]
    exact fin listed a w hl hst hw
  | succ fuel ih =>
    intro t listed a w hsz hun hst hef hpd hw
    unfold Region.linearise.go
    have hrs : ops.toArray.size = ops.length := by simp
    simp only [hrs]
    split
    · rename_i x hx
      rw [go_acc]
      simp only [List.reverse_cons, List.reverse_nil, List.nil_append, List.cons_append]
      -- the one that goes is ready
      have hmem := List.mem_of_getElem? hx
      obtain ⟨hxr, hrd⟩ := List.mem_filter.1 hmem
      have hxl : x < ops.length := by simpa using hxr
      have ho : ops[x]? = some ops[x] := List.getElem?_eq_getElem hxl
      simp only [Bool.and_eq_true] at hrd
      have hlx : listed.getD x false = false := by
        have := hrd.1
        rw [Array.getD_eq_getD_getElem?, Array.getElem?_eq_getElem (by omega)] at this ⊢
        simpa using this
      have hdeps : ∀ e ∈ bnd ops[x], listed.getD e.on false = true := by
        intro e he
        have h2 := hrd.2
        simp only [List.getElem?_toArray, ho, Option.map_some, Option.getD_some] at h2
        rw [Array.all_eq_true_iff_forall_mem] at h2
        obtain ⟨he1, he2⟩ := List.mem_filter.1 he
        have := h2 e (by simpa using he1)
        simpa [he2] using this
      have hun' : unlisted ops.length (listed.setIfInBounds x true) ≤ fuel := by
        have : unlisted ops.length (listed.setIfInBounds x true) < unlisted ops.length listed := by
          refine filter_lt (i := x) _ ?_ (by simpa using hxl) (by simp [hlx]) ?_
          · intro j _ hj
            simp only [Bool.not_eq_true', Array.getD_eq_getD_getElem?, Array.getElem?_setIfInBounds] at hj ⊢
            by_cases hxj : x = j
            · subst hxj; simp [hsz, hxl] at hj
            · simpa [hxj] using hj
          · simp [Array.getD_eq_getD_getElem?, Array.getElem?_setIfInBounds, hsz, hxl]
        omega
      have hL' : ∀ j, (listed.setIfInBounds x true).getD j false = (if j = x then true else listed.getD j false) := by
        intro j
        simp only [Array.getD_eq_getD_getElem?, Array.getElem?_setIfInBounds]
        by_cases hxj : x = j
        · subst hxj; simp [hsz, hxl]
        · have : ¬ j = x := fun e => hxj e.symm
          simp [hxj, this]
      simp only [wpOpsR, List.getElem?_toArray, ho]
      by_cases hin : x ∈ done.map (·.1)
      · obtain ⟨p, hp, hpx⟩ := List.mem_map.1 hin
        obtain ⟨i, v⟩ := p
        simp only at hpx
        subst hpx
        obtain ⟨pre, tail, hdone⟩ := List.append_of_mem hp
        have hnef : eff i = false := by
          cases he : eff i with
          | false => rfl
          | true => have := hef i hin he; rw [hlx] at this; cases this
        obtain ⟨pq, hpq, hpq1, hfact⟩ := hqu pre i v tail ops[i] hdone ho hnef
        refine go_step (K := fun v' H' => v' = v ∧ Ent H' H) g hst hlate (fun s hs => reads_agree g hst hnd hord hdone ho hdeps hlx hs) (fun p hp => hex p (by rw [hdone]; exact List.mem_append_right _ (List.mem_cons_of_mem _ hp))) ho (hfact H (hpd pq hpq (by rw [hpq1]; exact hlx))) hw ?_
        rintro u v' H' w' huv hw' ⟨hv', he⟩
        refine ih _ _ _ _ (by simp [hsz]) hun' ?_ ?_ ?_ (hw'.ent he)
        · refine hst.step g ho hin ?_ hdeps hL'
          intro d hd
          have hdi : dstOf ops i = some d := by rw [dstOf_of ho, hd]
          have huv' : v = u := by rw [← hv']; exact huv (by rw [hd]; rfl)
          rw [hdone, ← huv']
          refine frOf_at pre tail hdi fun p hp hd' => ?_
          have hpi := g.one p.1 i d hd' hdi
          have nd := hnd
          rw [hdone, List.map_append, List.nodup_append] at nd
          exact nd.2.2 i (List.mem_map.2 ⟨p, hp, hpi⟩) i (by simp) rfl
        · intro j hj hej
          rw [hL']
          split
          · rfl
          · exact hef j hj hej
        · intro p hp hl
          rw [hL'] at hl
          split at hl
          · cases hl
          · exact hpd p hp hl
      · exact hnext x fuel _ listed a w hxl hin (fun o hq => by rw [ho] at hq; cases hq; exact hdeps) hsz hun' hst hef hpd hw _ ho
    · rename_i hnone
      have hnil : ((List.range ops.length).filter fun i => !listed.getD i true && ((ops.toArray[i]?).map (·.after.all fun e => !Region.binds .any e || listed.getD e.on false)).getD false) = [] := by
        generalize ((List.range ops.length).filter fun i => !listed.getD i true && ((ops.toArray[i]?).map (·.after.all fun e => !Region.binds .any e || listed.getD e.on false)).getD false) = rs at hnone
        cases rs with
        | nil => rfl
        | cons r rs =>
          have hlt : t % (r :: rs).length < (r :: rs).length := Nat.mod_lt _ (by simp)
          rw [List.getElem?_eq_getElem hlt] at hnone
          cases hnone
      simp only [List.reverse_nil, wpOpsR]
      exact fin listed a w (full listed hsz hnil) hst hw

/-- What the walk has shown so far. -/
structure Shown (ro : Option Nat) (P : Program) (B : World) (n : Nat) (ops : List Oper) (fr0 : Fr) (E : List Nat) (done : List (Nat × Value)) (pend : List (Nat × (HProp → Prop))) : Prop where
  nodup : (done.map (·.1)).Nodup
  ord : Ordered ops done
  ex : ∀ p ∈ done, ∃ q, ops[p.1]? = some q
  quiet : ∀ (pre : List (Nat × Value)) (x : Nat) (v : Value) (tail : List (Nat × Value)) (o : Oper), done = pre ++ (x, v) :: tail → ops[x]? = some o → E.contains x = false →
    ∃ p ∈ pend, p.1 = x ∧ ∀ G, p.2 G → WPL ro P B n ops.toArray [o] (frOf ops fr0 tail) G (QOne o.dst (frOf ops fr0 tail) fun v' H' => v' = v ∧ Ent H' G)

theorem depsIn_of {pre : List Nat} {i : Nat} (h : depsIn ops pre i = true) : ∃ o, ops[i]? = some o ∧ i < ops.length ∧ ∀ e ∈ bnd o, e.on ∈ pre := by
  unfold depsIn at h
  cases ho : ops[i]? with
  | none => rw [ho] at h; cases h
  | some o =>
    rw [ho] at h
    refine ⟨o, rfl, (List.getElem?_eq_some_iff.1 ho).1, fun e he => ?_⟩
    have := (List.all_eq_true.1 h) e (by simpa using he)
    simpa using this

theorem Shown.more {E : List Nat} {done : List (Nat × Value)} {pend pend' : List (Nat × (HProp → Prop))} (h : Shown ro P B n ops fr0 E done pend) {i : Nat} {o : Oper} (v : Value) (hni : i ∉ done.map (·.1)) (ho : ops[i]? = some o) (hdeps : ∀ e ∈ bnd o, e.on ∈ done.map (·.1))
    (hsub : ∀ p ∈ pend, p ∈ pend') (hq : E.contains i = false → ∃ p ∈ pend', p.1 = i ∧ ∀ G, p.2 G → WPL ro P B n ops.toArray [o] (frOf ops fr0 done) G (QOne o.dst (frOf ops fr0 done) fun v' H' => v' = v ∧ Ent H' G)) :
    Shown ro P B n ops fr0 E ((i, v) :: done) pend' := by
  refine ⟨?_, ?_, ?_, ?_⟩
  · simp only [List.map_cons, List.nodup_cons]; exact ⟨hni, h.nodup⟩
  · intro pre j u tail he q hq e hem
    cases pre with
    | nil => simp only [List.nil_append, List.cons.injEq, Prod.mk.injEq] at he; obtain ⟨⟨rfl, rfl⟩, rfl⟩ := he; rw [ho] at hq; cases hq; exact hdeps e hem
    | cons p pre => simp only [List.cons_append, List.cons.injEq] at he; exact h.ord pre j u tail he.2 q hq e hem
  · intro p hp
    rcases List.mem_cons.1 hp with rfl | hp
    · exact ⟨o, ho⟩
    · exact h.ex p hp
  · intro pre x u tail q he hqx hx
    cases pre with
    | nil =>
      simp only [List.nil_append, List.cons.injEq, Prod.mk.injEq] at he
      obtain ⟨⟨rfl, rfl⟩, rfl⟩ := he
      rw [ho] at hqx
      cases hqx
      exact hq hx
    | cons p pre =>
      simp only [List.cons_append, List.cons.injEq] at he
      obtain ⟨pq, hpq, hf1, hf⟩ := h.quiet pre x u tail q he.2 hqx hx
      exact ⟨pq, hsub pq hpq, hf1, hf⟩

theorem anc_done {i : Nat} {o : Oper} {L : Nat → Bool} (ho : ops[i]? = some o) (hd : ∀ e ∈ bnd o, L e.on = true) (down : ∀ (j : Nat) (q : Oper), L j = true → ops[j]? = some q → ∀ e ∈ bnd q, L e.on = true) :
    ∀ (k : Nat) (acc : List Nat), (∀ m ∈ acc, L m = true) → ∀ m ∈ ancL ops i k acc, L m = true := by
  intro k
  induction k with
  | zero => intro acc h; exact h
  | succ k ih =>
    intro acc h
    unfold ancL
    refine ih _ ?_
    split
    · rename_i hany
      intro m hm
      rcases List.mem_cons.1 hm with rfl | hm
      · obtain ⟨m', hm', hdep⟩ := List.any_eq_true.1 hany
        unfold hasDep at hdep
        cases hq : ops[m']? with
        | none => rw [hq] at hdep; cases hdep
        | some q =>
          rw [hq] at hdep
          obtain ⟨e, he, hee⟩ := List.any_eq_true.1 hdep
          have hee' : e.on = m := by simpa using hee
          rw [← hee']
          rcases List.mem_cons.1 hm' with rfl | hm'
          · rw [ho] at hq; cases hq; exact hd e he
          · exact down m' q (h m' hm') hq e he
      · exact h m hm
    · exact h
/-- Every order that the edges allow. -/
theorem all_orders (g : Good n ops) (hlate : ∀ t, n ≤ t → fr0 t = undef) (E : List Nat) (C : Ord) :
    (∀ (done : List (Nat × Value)) (pend : List (Nat × (HProp → Prop))) (H : HProp), Shown ro P B n ops fr0 E done pend → okFrom ops E true (done.map (·.1)) C = true →
      DW ro P B n ops Q C pend (frOf ops fr0 done) H →
      ∀ (fuel t : Nat) (listed : Array Bool) (a : Act) (w : World), listed.size = ops.length → unlisted ops.length listed ≤ fuel → St n ops fr0 done (fun i => listed.getD i false) a →
      (∀ i ∈ done.map (·.1), E.contains i = true → listed.getD i false = true) → (∀ p ∈ pend, listed.getD p.1 false = false → p.2 H) → Holds B H w →
      wpOpsR ro P ops.toArray (lift B n Q) (Region.linearise.go .any ops.toArray fuel t listed []) a w) ∧
    (∀ (done : List (Nat × Value)) (pend : List (Nat × (HProp → Prop))) (H : HProp) (hd : Bool), Shown ro P B n ops fr0 E done pend → okFrom ops E hd (done.map (·.1)) C = true →
      DW ro P B n ops Q C pend (frOf ops fr0 done) H →
      ∀ (x fuel t : Nat) (listed : Array Bool) (a : Act) (w : World), x ∈ C.alts → x ∉ done.map (·.1) → (∀ (o : Oper), ops[x]? = some o → ∀ e ∈ bnd o, listed.getD e.on false = true) → listed.size = ops.length →
        unlisted ops.length (listed.setIfInBounds x true) ≤ fuel → St n ops fr0 done (fun i => listed.getD i false) a → (∀ i ∈ done.map (·.1), E.contains i = true → listed.getD i false = true) → (∀ p ∈ pend, listed.getD p.1 false = false → p.2 H) → Holds B H w →
        ∀ (o : Oper), ops[x]? = some o → if Region.wanted o (yielded ops.toArray a.tmps) then o.wpIn (FW ro) 0 P a w (fun a' w' => wpOpsR ro P ops.toArray (lift B n Q) (Region.linearise.go .any ops.toArray fuel t (listed.setIfInBounds x true) []) a' w') (lift B n Q)
          else wpOpsR ro P ops.toArray (lift B n Q) (Region.linearise.go .any ops.toArray fuel t (listed.setIfInBounds x true) []) (a.put o.dst undef) w) := by
  induction C with
  | nil =>
    refine ⟨?_, ?_⟩
    · intro done pend H hS hok hdw
      have hin : ∀ i, i < ops.length → i ∈ done.map (·.1) := by
        intro i hi
        simp only [okFrom, Bool.true_and] at hok
        have := (List.all_eq_true.1 hok) i (by simpa using hi)
        simpa using this
      refine one_round g done pend H (fun i => E.contains i) hlate hS.nodup hS.ord hS.ex hS.quiet ?_ ?_
      · intro a w hm hw _
        exact ⟨_, H, hm, hw, hdw⟩
      · intro x fuel t listed a w hxl hxn
        exact absurd (hin x hxl) hxn
    · intro done pend H hd _ _ _ x fuel t listed a w hx
      simp [Ord.alts] at hx
  | stop =>
    refine ⟨?_, ?_⟩
    · intro done pend H hS hok
      simp [okFrom] at hok
    · intro done pend H hd _ _ _ x fuel t listed a w hx
      simp [Ord.alts] at hx
  | look i C ih =>
    refine ⟨?_, ?_⟩
    · intro done pend H hS hok hdw fuel t listed a w hsz hun hst hef hpd hw
      simp only [okFrom, Bool.true_and, Bool.and_eq_true, Bool.not_eq_true'] at hok
      obtain ⟨⟨⟨hk1, hk2⟩, hk3⟩, hk4⟩ := hok
      obtain ⟨o, ho, hil, hdeps⟩ := depsIn_of hk1
      have hni : i ∉ done.map (·.1) := by intro h; have : (done.map (·.1)).contains i = true := by simpa using h
                                          rw [this] at hk2; cases hk2
      obtain ⟨o', v, ho', hwp, hk⟩ := hdw
      rw [ho] at ho'
      cases ho'
      have hfr : frOf ops fr0 ((i, v) :: done) = (frOf ops fr0 done).putO o.dst v := by
        show (frOf ops fr0 done).putO (dstOf ops i) v = _
        rw [dstOf_of ho]
      rw [← hfr] at hk
      refine ih.1 ((i, v) :: done) _ H (hS.more v hni ho hdeps (fun p hp => List.mem_cons_of_mem _ hp) fun _ => ⟨_, List.mem_cons_self, rfl, fun G hG => hG⟩) hk4 hk fuel t listed a w hsz hun (hst.extend g hni) ?_ ?_ hw
      · intro j hj hej
        simp only [List.map_cons, List.mem_cons] at hj
        rcases hj with rfl | hj
        · rw [hk3] at hej; cases hej
        · exact hef j hj hej
      · intro p hp hl
        rcases List.mem_cons.1 hp with rfl | hp
        · exact hwp
        · exact hpd p hp hl
    · intro done pend H hd _ _ _ x fuel t listed a w hx
      simp [Ord.alts] at hx
  | act i C other ih iho =>
    have second : (∀ (done : List (Nat × Value)) (pend : List (Nat × (HProp → Prop))) (H : HProp) (hd : Bool), Shown ro P B n ops fr0 E done pend → okFrom ops E hd (done.map (·.1)) (.act i C other) = true →
      DW ro P B n ops Q (.act i C other) pend (frOf ops fr0 done) H →
      ∀ (x fuel t : Nat) (listed : Array Bool) (a : Act) (w : World), x ∈ (Ord.act i C other).alts → x ∉ done.map (·.1) → (∀ (o : Oper), ops[x]? = some o → ∀ e ∈ bnd o, listed.getD e.on false = true) → listed.size = ops.length →
        unlisted ops.length (listed.setIfInBounds x true) ≤ fuel → St n ops fr0 done (fun i => listed.getD i false) a → (∀ i ∈ done.map (·.1), E.contains i = true → listed.getD i false = true) → (∀ p ∈ pend, listed.getD p.1 false = false → p.2 H) → Holds B H w →
        ∀ (o : Oper), ops[x]? = some o → if Region.wanted o (yielded ops.toArray a.tmps) then o.wpIn (FW ro) 0 P a w (fun a' w' => wpOpsR ro P ops.toArray (lift B n Q) (Region.linearise.go .any ops.toArray fuel t (listed.setIfInBounds x true) []) a' w') (lift B n Q)
          else wpOpsR ro P ops.toArray (lift B n Q) (Region.linearise.go .any ops.toArray fuel t (listed.setIfInBounds x true) []) (a.put o.dst undef) w) := by
      intro done pend H hd hS hok hdw x fuel t listed a w hx hxn hxd hsz hun hst hef hpd hw o hox
      simp only [okFrom, Bool.and_eq_true] at hok
      obtain ⟨⟨⟨⟨⟨hk1, hk2⟩, hk3⟩, _⟩, hk4⟩, hk5⟩ := hok
      obtain ⟨hdw1, hdw2⟩ := hdw
      by_cases hxi : x = i
      · subst hxi
        obtain ⟨o1, ho, hxl, hdeps⟩ := depsIn_of hk1
        obtain ⟨o', K, ho', hwp, hk⟩ := hdw1
        rw [ho] at ho' hox
        cases ho'
        cases hox
        have hlx : listed.getD x false = false := by
          cases hl : listed.getD x false with
          | false => rfl
          | true => exact absurd (hst.sub x hl) hxn
        have hS' : ∀ v : Value, Shown ro P B n ops fr0 E ((x, v) :: done) pend := fun v => hS.more v hxn ho hdeps (fun p hp => hp) fun h => by rw [hk3] at h; cases h
        have hag : ∀ s ∈ reads ops o, a.tmps.getD s undef = frOf ops fr0 done s :=
          fun s hs => reads_agree (pre := []) (v := undef) g (hst.extend (v := undef) g hxn) (hS' undef).nodup (hS' undef).ord rfl ho (fun e he => hxd o ho e he) hlx hs
        refine go_step g hst hlate hag hS.ex ho hwp hw ?_
        intro u v' H' w' huv hw' hK
        obtain ⟨hp', hk'⟩ := hk v' H' hK
        have hfr : frOf ops fr0 ((x, v') :: done) = (frOf ops fr0 done).putO o.dst v' := by
          show (frOf ops fr0 done).putO (dstOf ops x) v' = _
          rw [dstOf_of ho]
        rw [← hfr] at hk'
        have hL' : ∀ j, (listed.setIfInBounds x true).getD j false = (if j = x then true else listed.getD j false) := by
          intro j
          simp only [Array.getD_eq_getD_getElem?, Array.getElem?_setIfInBounds]
          by_cases hxj : x = j
          · subst hxj; simp [hsz, hxl]
          · have : ¬ j = x := fun e => hxj e.symm
            simp [hxj, this]
        refine ih.1 ((x, v') :: done) pend H' (hS' v') hk4 hk' fuel _ _ _ _ (by simp [hsz]) hun ?_ ?_ ?_ hw'
        · refine (hst.extend (v := v') g hxn).step g ho (by simp) ?_ (fun e he => hxd o ho e he) hL'
          intro d hd
          rw [hfr, hd]
          simp only [Fr.putO, put_same]
          exact huv (by rw [hd]; rfl)
        · intro j hj hej
          rw [hL']
          split
          · rfl
          · rename_i hne
            simp only [List.map_cons, List.mem_cons] at hj
            rcases hj with rfl | hj
            · exact absurd rfl hne
            · exact hef j hj hej
        · intro p hp hl
          rw [hL'] at hl
          split at hl
          · cases hl
          · refine hp' p hp ?_
            cases hc : (ancL ops x x []).contains p.1 with
            | false => rfl
            | true =>
              have := anc_done (L := fun j => listed.getD j false) ho (fun e he => hxd o ho e he) hst.down x [] (by simp) p.1 (by simpa using hc)
              rw [hl] at this
              cases this
      · have hx' : x ∈ other.alts := by
          simp only [Ord.alts, List.mem_cons] at hx
          exact hx.resolve_left hxi
        exact iho.2 done pend H false hS hk5 hdw2 x fuel t listed a w hx' hxn hxd hsz hun hst hef hpd hw o hox
    refine ⟨?_, second⟩
    intro done pend H hS hok hdw
    have hok' := hok
    simp only [okFrom, Bool.and_eq_true, Bool.not_true, Bool.false_or] at hok'
    obtain ⟨⟨⟨⟨⟨hk1, hk2⟩, hk3⟩, hke⟩, hk4⟩, hk5⟩ := hok'
    have hni : i ∉ done.map (·.1) := by intro h; have : (done.map (·.1)).contains i = true := by simpa using h
                                        rw [this] at hk2; cases hk2
    obtain ⟨o1, ho, hil, hdeps⟩ := depsIn_of hk1
    refine one_round g done pend H (fun i => E.contains i) hlate hS.nodup hS.ord hS.ex hS.quiet ?_ ?_
    · intro a w _ _ hall
      exact absurd (hall i hil) hni
    · intro x fuel t listed a w hxl hxn hxd hsz hun hst hef hpd hw q hq
      have hxa : x ∈ (Ord.act i C other).alts := by
        unfold nothingElse at hke
        have := (List.all_eq_true.1 hke) x (by simpa using hxl)
        rw [hq] at this
        simp only [Bool.or_eq_true] at this
        rcases this with (h | h) | h
        · exact absurd (by simpa using h) hxn
        · simpa [Ord.alts] using h
        · obtain ⟨e, he, hne⟩ := List.any_eq_true.1 h
          have h1 := hxd q hq e (by simpa using he)
          have h2 := hst.sub e.on h1
          have h3 : (done.map (·.1)).contains e.on = true := by simpa using h2
          rw [h3] at hne
          cases hne
      exact second done pend H true hS hok hdw x fuel t listed a w hxa hxn hxd hsz hun hst hef hpd hw q hq

theorem good_of {E : List Nat} {C : Ord} (h : okDraw n ops E C = true) : Good n ops ∧ okFrom ops E true [] C = true := by
  unfold okDraw at h
  simp only [Bool.and_eq_true] at h
  obtain ⟨⟨h3, h4⟩, h5⟩ := h
  have at3 : ∀ (i : Nat) (o : Oper), ops[i]? = some o → ((bnd o).all (fun e => decide (e.on < i)) = true ∧ (match o.dst with | some d => decide (d < n) | none => true) = true ∧ wellRead ops i o = true) := by
    intro i o ho
    have hil : i < ops.length := (List.getElem?_eq_some_iff.1 ho).1
    have := (List.all_eq_true.1 h3) i (by simpa using hil)
    rw [ho] at this
    simp only [Bool.and_eq_true] at this
    exact ⟨this.1.1, this.1.2, this.2⟩
  refine ⟨⟨?_, ?_, ?_, ?_⟩, h5⟩
  · intro i o ho e he
    have := (List.all_eq_true.1 (at3 i o ho).1) e (by simpa using he)
    simpa using this
  · intro i o d ho hd
    have := (at3 i o ho).2.1
    rw [hd] at this
    simpa using this
  · intro i j d hi hj
    have hil : i < ops.length := by
      cases hq : ops[i]? with
      | none => simp [dstOf, hq] at hi
      | some q => exact (List.getElem?_eq_some_iff.1 hq).1
    have hjl : j < ops.length := by
      cases hq : ops[j]? with
      | none => simp [dstOf, hq] at hj
      | some q => exact (List.getElem?_eq_some_iff.1 hq).1
    have := (List.all_eq_true.1 ((List.all_eq_true.1 h4) i (by simpa using hil))) j (by simpa using hjl)
    rw [hi, hj] at this
    simpa using this
  · intro x o t ho ht j q hj hq
    have h6 := (List.all_eq_true.1 (at3 x o ho).2.2) t ht
    have hjl : j < ops.length := (List.getElem?_eq_some_iff.1 hj).1
    have := (List.all_eq_true.1 h6) j (by simpa using hjl)
    rw [hj] at this
    simp only [hq, Bool.or_eq_true] at this
    rcases this with (h | h) | h
    · simp at h
    · left
      obtain ⟨e, he, hee⟩ := List.any_eq_true.1 h
      exact ⟨e, by simpa using he, by simpa using hee⟩
    · right
      obtain ⟨e, he, hee⟩ := List.any_eq_true.1 h
      exact ⟨e, by simpa using he, by simpa using hee⟩

/-- The model mixes the orders of the text and of the compiler. -/
class Mixed (P : Program) : Prop where
  eq : P.follows .mixedOrders = true
/-- A region whose order is drawn, by the walk of one order. -/
theorem wp_draw [mx : Mixed P] {id : Nat} {fr : Fr} {H : HProp} (E : List Nat) (C : Ord) (hok : okDraw n ops E C = true) (h : DW ro P B n ops Q C [] fr H) : WP ro P B n (.region id ops.toArray true) fr H Q := by
  obtain ⟨g, h5⟩ := good_of hok
  intro a w hm hh
  refine wpIn_region_draw fun t => wpOpsR_in _ _ _ ?_
  have hs : Region.schedule (P.follows .mixedOrders) ops.toArray t = Region.linearise.go .any ops.toArray ops.toArray.size t (Array.replicate ops.toArray.size false) [] := by
    unfold Region.schedule
    rw [mx.eq]
    simp [Region.linearise]
  rw [hs]
  have hlate : ∀ t, n ≤ t → fr t = undef := by
    intro t ht
    rw [← hm.slot t, Array.getD_eq_getD_getElem?, Array.getElem?_eq_none (by rw [hm.size]; exact ht)]
    rfl
  have hfalse : ∀ i, (Array.replicate ops.toArray.size false).getD i false = false := by
    intro i
    rw [Array.getD_eq_getD_getElem?, Array.getElem?_replicate]
    split <;> rfl
  refine (all_orders (fr0 := fr) g hlate E C).1 [] [] H ⟨by simp, fun pre j u tail he => by simp at he, by simp, fun pre x v tail o he => by simp at he⟩ h5 h _ t _ a _ (by simp) ?_ ?_ (by simp) (by simp) hh.drew
  · unfold unlisted
    have := List.length_filter_le (fun i => !(Array.replicate ops.toArray.size false).getD i false) (List.range ops.length)
    simpa using this
  · refine ⟨hm.size, hm.defers, ?_, ?_, ?_, ?_⟩
    · intro i hi; rw [hfalse] at hi; cases hi
    · intro i o hi; rw [hfalse] at hi; cases hi
    · intro t j _ hj; simp at hj
    · intro t _; exact hm.slot t
end
end Go.SL
