/- Rules for walks: what one's own memory is, and what each operation does. No condition. -/
import Derived.Test.YtlhnmbajbhaaoaaGreatSL1
import Derived.OrdersIn
import Derived.Laws.StructEq
import Derived.WalkKit
import Derived.ProofKit
import Derived.OpenShut
import Derived.Carry
set_option linter.unusedSimpArgs false
set_option linter.unusedVariables false
namespace Go.SL
open Go Go.RowKit

/-- An operation's outcome depends on its operands alone. -/
theorem execOp_congr {ρ σ : Operand → Value} (o : Oper) (h : ∀ x ∈ o.op.operands.toList, ρ x = σ x) : execOp ρ o = execOp σ o := by
  obtain ⟨dst, op, ty, pos, after, g⟩ := o
  cases op
  case build t ps =>
    have e : (ps.map fun (p : Nat × Operand) => (p.1, ρ p.2)) = ps.map fun p => (p.1, σ p.2) := by
      apply Array.map_congr_left
      intro p hp
      rw [h p.2 (by simp only [Op.operands, List.mem_map, Array.mem_toList_iff]; exact ⟨p, hp, rfl⟩)]
    simp only [execOp]
    exact congrArg (fun q => (do Pure.pure (Next.value (← Instr.build t q)) : Sem Next)) e
  case buildSlice t l ps =>
    have e : (ps.map fun (p : Nat × Operand) => (p.1, ρ p.2)) = ps.map fun p => (p.1, σ p.2) := by
      apply Array.map_congr_left
      intro p hp
      rw [h p.2 (by simp only [Op.operands, List.mem_map, Array.mem_toList_iff]; exact ⟨p, hp, rfl⟩)]
    simp only [execOp]
    exact congrArg (fun q => (do Pure.pure (Next.value (← Instr.buildSlice t l q)) : Sem Next)) e
  case makeFunc fn f c =>
    have e1 : f.map ρ = f.map σ := Array.map_congr_left fun x hx => h x (by simp [Op.operands, hx])
    have e2 : c.map ρ = c.map σ := Array.map_congr_left fun x hx => h x (by simp [Op.operands, hx])
    simp only [execOp, e1, e2]
  case makeMap t r =>
    have e1 : r.map ρ = r.map σ := by cases r <;> simp [Op.operands] at h ⊢; exact h
    simp only [execOp, e1]
  case slice t x l hi m =>
    have e0 : ρ x = σ x := h x (by simp [Op.operands])
    have e1 : l.map ρ = l.map σ := by cases l with
      | none => rfl
      | some y => simp only [Option.map_some]; rw [h y (by simp [Op.operands])]
    have e2 : hi.map ρ = hi.map σ := by cases hi with
      | none => rfl
      | some y => simp only [Option.map_some]; rw [h y (by simp [Op.operands])]
    have e3 : m.map ρ = m.map σ := by cases m with
      | none => rfl
      | some y => simp only [Option.map_some]; rw [h y (by simp [Op.operands])]
    simp only [execOp, e0, e1, e2, e3]
  case call c =>
    have e1 : c.args.map ρ = c.args.map σ := Array.map_congr_left fun x hx => h x (by simp [Op.operands, Call.operands, hx])
    have e2 : resolve ρ c ty = resolve σ c ty := by
      unfold resolve
      rw [e1]
      cases hc : c.callee with
      | value f => simp only [h f (by simp [Op.operands, Call.operands, hc])]
      | invoke r m => simp only [h r (by simp [Op.operands, Call.operands, hc])]
      | builtin b => rfl
    simp only [execOp, e2]
  case go c =>
    have e1 : c.args.map ρ = c.args.map σ := Array.map_congr_left fun x hx => h x (by simp [Op.operands, Call.operands, hx])
    have e2 : resolve ρ c ty = resolve σ c ty := by
      unfold resolve
      rw [e1]
      cases hc : c.callee with
      | value f => simp only [h f (by simp [Op.operands, Call.operands, hc])]
      | invoke r m => simp only [h r (by simp [Op.operands, Call.operands, hc])]
      | builtin b => rfl
    simp only [execOp, e2]
  case defer c =>
    have e1 : c.args.map ρ = c.args.map σ := Array.map_congr_left fun x hx => h x (by simp [Op.operands, Call.operands, hx])
    have e2 : resolve ρ c ty = resolve σ c ty := by
      unfold resolve
      rw [e1]
      cases hc : c.callee with
      | value f => simp only [h f (by simp [Op.operands, Call.operands, hc])]
      | invoke r m => simp only [h r (by simp [Op.operands, Call.operands, hc])]
      | builtin b => rfl
    simp only [execOp, e2]
  case select cs b =>
    have e : ∀ c ∈ cs, ρ c.chan = σ c.chan ∧ c.send.map ρ = c.send.map σ := by
      intro c hc
      refine ⟨h c.chan ?_, ?_⟩
      · simp only [Op.operands, Array.toList_flatMap, List.mem_flatMap, Array.mem_toList_iff]
        exact ⟨c, hc, by simp⟩
      · cases hs : c.send with
        | none => rfl
        | some y =>
          simp only [Option.map_some]
          rw [h y (by
            simp only [Op.operands, Array.toList_flatMap, List.mem_flatMap, Array.mem_toList_iff]
            exact ⟨c, hc, by simp [hs]⟩)]
    simp only [execOp]
    have e' : cs.mapM (fun s => do Pure.pure ({ chan := ρ s.chan, send := s.send.map ρ, zero := ← zeroValue s.elem } : CommCase)) =
        cs.mapM (m := Sem) (fun s => do Pure.pure ({ chan := σ s.chan, send := s.send.map σ, zero := ← zeroValue s.elem } : CommCase)) := by
      rw [Array.mapM_eq_mapM_toList, Array.mapM_eq_mapM_toList]
      congr 1
      have : ∀ l : List SelectCase, (∀ c ∈ l, ρ c.chan = σ c.chan ∧ c.send.map ρ = c.send.map σ) → l.mapM (fun s => do Pure.pure ({ chan := ρ s.chan, send := s.send.map ρ, zero := ← zeroValue s.elem } : CommCase)) =
        l.mapM (m := Sem) (fun s => do Pure.pure ({ chan := σ s.chan, send := s.send.map σ, zero := ← zeroValue s.elem } : CommCase)) := by
        intro l
        induction l with
        | nil => intro _; rfl
        | cons c l ih =>
          intro hl
          obtain ⟨h1, h2⟩ := hl c (by simp)
          simp only [List.mapM_cons, h1, h2, ih (fun c hc => hl c (by simp [hc]))]
      exact this cs.toList fun c hc => e c (by simpa using hc)
    exact congrArg (fun q : Sem (Array CommCase) => (do let cases ← q; Pure.pure (Next.comm cases b .select) : Sem Next)) e'
  all_goals simp_all [execOp, Op.operands]

theorem semAt_congr {ro : Option Nat} {ρ σ : Operand → Value} (o : Oper) (h : ∀ x ∈ o.op.operands.toList, ρ x = σ x) : o.semAt ro ρ = o.semAt ro σ := by
  by_cases hd : ∀ c, o.op ≠ .defer c
  · rw [Oper.semAt_eq ro ρ o hd, Oper.semAt_eq ro σ o hd]; exact execOp_congr o h
  · cases ro with
    | none => exact execOp_congr o h
    | some l =>
      obtain ⟨dst, op, ty, pos, after, g⟩ := o
      cases op
      case defer c =>
        have e1 : c.args.map ρ = c.args.map σ := Array.map_congr_left fun x hx => h x (by simp [Op.operands, Call.operands, hx])
        have e2 : resolve ρ c ty = resolve σ c ty := by
          unfold resolve
          rw [e1]
          cases hc : c.callee with
          | value f => simp only [h f (by simp [Op.operands, Call.operands, hc])]
          | invoke r m => simp only [h r (by simp [Op.operands, Call.operands, hc])]
          | builtin b => rfl
        simp only [Oper.semAt, e2]
      all_goals exact absurd (fun c e => by cases e) hd

/-- The operations of an order, one behind the other. -/
def wpOpsR (ro : Option Nat) (P : Program) (ops : Array Oper) (Q : Exit → Act → World → Prop) : List Nat → Act → World → Prop
  | [], a, w => Q .normal a w
  | i :: rest, a, w =>
    match ops[i]? with
    | none => wpOpsR ro P ops Q rest a w
    | some o =>
      if Region.wanted o (yielded ops a.tmps) then o.wpIn (FW ro) 0 P a w (wpOpsR ro P ops Q rest) Q
      else wpOpsR ro P ops Q rest (a.put o.dst undef) w
theorem wpOpsR_in {ro : Option Nat} {P : Program} {ops : Array Oper} {Q : Exit → Act → World → Prop} : ∀ (l : List Nat) (a : Act) (w : World), wpOpsR ro P ops Q l a w → wpOpsIn (FW ro) 0 P ops Q l a w
  | [], a, w, h => h
  | i :: rest, a, w, h => by
    unfold wpOpsR at h
    unfold wpOpsIn
    cases ho : ops[i]? with
    | none => rw [ho] at h; exact wpOpsR_in rest a w h
    | some o =>
      rw [ho] at h
      simp only at h ⊢
      split
      · rename_i hw
        rw [if_pos hw] at h
        exact Oper.wpIn_mono (fun a w => wpOpsR_in rest a w) h
      · rename_i hw
        rw [if_neg hw] at h
        exact ⟨fun f _ => trivial, wpOpsR_in rest _ _ h⟩

def dstOf (ops : List Oper) (i : Nat) : Option Nat := (ops[i]?).bind (·.dst)
def tmpOf : Operand → Option Nat
  | .tmp t => some t
  | _ => none
def reads (ops : List Oper) (o : Oper) : List Nat :=
  o.op.operands.toList.filterMap tmpOf ++ (match o.guard with | some (j, _) => (dstOf ops j).toList | none => [])

/-- What comes of one operation. -/
def Out (ro : Option Nat) (P : Program) (B : World) (dst : Option Nat) (K : Value → HProp → Prop) : Result Next → Prop
  | .ok (.value v) w' => ∃ v' H', (dst.isSome = true → v' = v) ∧ Holds B H' w' ∧ K v' H'
  | .ok .skip w' => ∃ v' H', (dst.isSome = true → v' = undef) ∧ Holds B H' w' ∧ K v' H'
  | .ok (.enter f args) w' => CallsIn (FW ro) 0 P f args w' fun e w'' => ∃ v v' H', e = .returned v ∧ (dst.isSome = true → v' = v) ∧ Holds B H' w'' ∧ K v' H'
  | .ok (.row r args) w' => RowsIn (FW ro) 0 P r args w' fun v w'' => ∃ v' H', (dst.isSome = true → v' = v) ∧ Holds B H' w'' ∧ K v' H'
  | .ok (.round l f tmps assign body) w' => RoundIn (FW ro) 0 P l f tmps assign body w' fun e w'' => ∃ v v' H', e = .returned v ∧ (dst.isSome = true → v' = v) ∧ Holds B H' w'' ∧ K v' H'
  | _ => False
/-- One operation, walked: its slot, and what is left. -/
def QOne (dst : Option Nat) (fr : Fr) (K : Value → HProp → Prop) : Post := fun e fr' H' => e = .normal ∧ ∃ v, fr' = fr.putO dst v ∧ K v H'

section
variable {ro : Option Nat} {P : Program} {B : World} {n : Nat}

theorem models_full (fr : Fr) (hfr : ∀ t, n ≤ t → fr t = undef) : Models n { tmps := (Array.range n).map fr, defers := fr.ds.map markOf } fr := by
  refine ⟨by simp, rfl, fun t => ?_⟩
  by_cases ht : t < n
  · simp [Array.getD_eq_getD_getElem?, ht]
  · simp [Array.getD_eq_getD_getElem?, ht, hfr t (by omega)]

theorem put_agrees {dst : Option Nat} {fr : Fr} {a : Act} {v v' : Value} (ha : Models n a fr) (hd : ∀ k, dst = some k → k < n) (h : Models n (a.put dst v) (fr.putO dst v')) : dst.isSome = true → v' = v := by
  intro hs
  obtain ⟨k, rfl⟩ := Option.isSome_iff_exists.1 hs
  have h1 := (ha.putO (d := some k) hd v).slot k
  have h2 := h.slot k
  rw [h1] at h2
  simpa [Fr.putO, put_same] using h2.symm

/-- Of a walked operation: it is not asked for, or what comes of it. -/
theorem wpl_one {ops : Array Oper} {o : Oper} {fr : Fr} {H : HProp} {K : Value → HProp → Prop} (hd : ∀ k, o.dst = some k → k < n) (hfr : ∀ t, n ≤ t → fr t = undef)
    (h : WPL ro P B n ops [o] fr H (QOne o.dst fr K)) {w : World} (hw : Holds B H w) :
    (Region.wanted o (yielded ops ((Array.range n).map fr)) = true ∧ Out ro P B o.dst K ((o.semAt ro (ev fr)).run P w)) ∨
    (Region.wanted o (yielded ops ((Array.range n).map fr)) = false ∧ ∃ v' H', (o.dst.isSome = true → v' = undef) ∧ Holds B H' w ∧ K v' H') := by
  have hm := models_full fr hfr
  have h1 := h _ w hm hw
  unfold wpListIn at h1
  by_cases hwt : Region.wanted o (yielded ops ((Array.range n).map fr)) = true
  · left
    rw [if_pos hwt] at h1
    refine ⟨hwt, ?_⟩
    obtain ⟨_, h1⟩ := h1
    rw [hm.eval] at h1
    have hro : (FW ro).round = ro := rfl
    rw [hro] at h1
    generalize (o.semAt ro (ev fr)).run P w = r at h1 ⊢
    cases r with
    | halt x w' =>
      cases x <;> first | exact h1.elim | (obtain ⟨fr', H', _, _, he, _⟩ := h1; cases he)
    | ok x w' =>
      cases x with
      | value v =>
        obtain ⟨fr', H', hm', hh, _, v', rfl, hK⟩ := h1
        exact ⟨v', H', put_agrees hm hd hm', hh, hK⟩
      | skip =>
        obtain ⟨fr', H', hm', hh, _, v', rfl, hK⟩ := h1
        exact ⟨v', H', put_agrees hm hd hm', hh, hK⟩
      | defer dd =>
        obtain ⟨fr', H', hm', hh, _, v', rfl, hK⟩ := h1
        have e1 := congrArg List.length hm'.defers
        cases hdst : o.dst <;> simp [Act.put, hdst, Fr.putO, put_ds] at e1
      | enter f args =>
        refine CallsIn.mono h1.2 ?_
        intro e w'' he
        cases e with
        | returned v =>
          obtain ⟨fr', H', hm', hh, _, v', rfl, hK⟩ := he
          exact ⟨v, v', H', rfl, put_agrees hm hd hm', hh, hK⟩
        | panicked c => obtain ⟨fr', H', _, _, he, _⟩ := he; cases he
        | outgrown => obtain ⟨_, _, fr', H', _, _, he, _⟩ := he; cases he
      | row r args =>
        refine RowsIn.mono h1.2 ?_
        intro v w'' he
        obtain ⟨fr', H', hm', hh, _, v', rfl, hK⟩ := he
        exact ⟨v', H', put_agrees hm hd hm', hh, hK⟩
      | round l f tmps assign body =>
        refine RoundIn.mono h1.2 ?_
        intro e w'' he
        cases e with
        | returned v =>
          obtain ⟨fr', H', hm', hh, _, v', rfl, hK⟩ := he
          exact ⟨v, v', H', rfl, put_agrees hm hd hm', hh, hK⟩
        | panicked c => obtain ⟨fr', H', _, _, he, _⟩ := he; cases he
        | outgrown => obtain ⟨_, _, fr', H', _, _, he, _⟩ := he; cases he
      | _ => exact h1.elim
  · right
    rw [if_neg hwt] at h1
    refine ⟨by simpa using hwt, ?_⟩
    obtain ⟨_, fr', H', hm', hh, _, v', rfl, hK⟩ := h1
    exact ⟨v', H', put_agrees hm hd hm', hh, hK⟩
/-- What comes of an operation leads on. -/
theorem Out.upon {o : Oper} {a : Act} {next : Act → World → Prop} {Q : Exit → Act → World → Prop} {K : Value → HProp → Prop} {r : Result Next} (h : Out ro P B o.dst K r)
    (k : ∀ v v' H' w', (o.dst.isSome = true → v' = v) → Holds B H' w' → K v' H' → next (a.put o.dst v) w') : o.uponIn (FW ro) 0 P a next Q r := by
  cases r with
  | halt x w' => exact h.elim
  | ok x w' =>
    cases x with
    | value v => obtain ⟨v', H', h1, h2, h3⟩ := h; exact k v v' H' w' h1 h2 h3
    | skip => obtain ⟨v', H', h1, h2, h3⟩ := h; exact k undef v' H' w' h1 h2 h3
    | enter f args =>
      rw [Oper.uponIn_enter]
      refine ⟨by simp [FW, Fence.wide], CallsIn.mono h ?_⟩
      rintro e w'' ⟨v, v', H', rfl, h1, h2, h3⟩
      exact k v v' H' w'' h1 h2 h3
    | row r args =>
      rw [Oper.uponIn_row]
      refine ⟨by simp [FW, Fence.wide], RowsIn.mono h ?_⟩
      rintro v w'' ⟨v', H', h1, h2, h3⟩
      exact k v v' H' w'' h1 h2 h3
    | round l f tmps assign body =>
      rw [Oper.uponIn_round]
      refine ⟨by simp [FW, Fence.wide], RoundIn.mono h ?_⟩
      rintro e w'' ⟨v, v', H', rfl, h1, h2, h3⟩
      exact k v v' H' w'' h1 h2 h3
    | _ => exact h.elim

/-- The model's own order of what is left. -/
theorem go_acc (m : Region.Mode) (ops : Array Oper) : ∀ (fuel t : Nat) (listed : Array Bool) (acc : List Nat),
    Region.linearise.go m ops fuel t listed acc = acc.reverse ++ Region.linearise.go m ops fuel t listed [] := by
  intro fuel
  induction fuel with
  | zero => intro t listed acc; simp [Region.linearise.go]
  | succ f ih =>
    intro t listed acc
    simp only [Region.linearise.go]
    split
    · rename_i i hi
      rw [ih _ _ (i :: acc), ih _ _ [i]]
      simp
    · simp
end
end Go.SL
set_option linter.unusedSimpArgs false
set_option linter.unusedVariables false
namespace Go.SL
open Go Go.RowKit

/-- The frame behind some operations, the last one first. -/
def frOf (ops : List Oper) (fr0 : Fr) : List (Nat × Value) → Fr
  | [] => fr0
  | (i, v) :: done => (frOf ops fr0 done).putO (dstOf ops i) v

theorem frOf_ds (ops : List Oper) (fr0 : Fr) : ∀ (done : List (Nat × Value)), (frOf ops fr0 done).ds = fr0.ds
  | [] => rfl
  | (i, v) :: done => by unfold frOf; rw [putO_ds]; exact frOf_ds ops fr0 done
section
variable {ops : List Oper} {fr0 : Fr}
theorem frOf_none {t : Nat} : ∀ (done : List (Nat × Value)), (∀ p ∈ done, dstOf ops p.1 ≠ some t) → frOf ops fr0 done t = fr0 t
  | [], _ => rfl
  | (i, v) :: done, h => by
    have h1 := h (i, v) (by simp)
    have ih := frOf_none done fun p hp => h p (by simp [hp])
    unfold frOf
    cases hd : dstOf ops i with
    | none => exact ih
    | some d =>
      have : t ≠ d := fun e => h1 (by rw [hd, e])
      simp only [Fr.putO]
      rw [put_ne _ _ _ _ this]; exact ih
theorem frOf_at {t i : Nat} {v : Value} : ∀ (pre : List (Nat × Value)) (tail : List (Nat × Value)), dstOf ops i = some t → (∀ p ∈ pre, dstOf ops p.1 ≠ some t) →
    frOf ops fr0 (pre ++ (i, v) :: tail) t = v
  | [], tail, hd, _ => by simp [frOf, hd, Fr.putO, put_same]
  | (j, u) :: pre, tail, hd, h => by
    have h1 := h (j, u) (by simp)
    have ih := frOf_at (v := v) pre tail hd fun p hp => h p (by simp [hp])
    show (frOf ops fr0 (pre ++ (i, v) :: tail)).putO (dstOf ops j) u t = v
    cases hdj : dstOf ops j with
    | none => exact ih
    | some d =>
      have : t ≠ d := fun e => h1 (by rw [hdj, e])
      simp only [Fr.putO]
      rw [put_ne _ _ _ _ this]; exact ih
end

/-- The edges that bind. -/
def bnd (o : Oper) : List Edge := o.after.toList.filter (Region.binds .any)
/-- What is asked of an order, by program. -/
def wellRead (ops : List Oper) (x : Nat) (o : Oper) : Bool :=
  (reads ops o).all fun t => (List.range ops.length).all fun j => match ops[j]? with
    | some q => (match q.dst with
      | some d => d != t || ((bnd o).any fun e => e.on == j) || ((bnd q).any fun e => e.on == x)
      | none => true)
    | none => true
/-- An order to walk: what only looks; what acts, and what else may act in its place. -/
inductive Ord where
  | nil
  | stop
  | look (i : Nat) (k : Ord)
  | act (i : Nat) (k other : Ord)
def Ord.alts : Ord → List Nat
  | .act i _ other => i :: other.alts
  | _ => []
def Ord.all : Ord → List Nat
  | .look i k => i :: k.all
  | .act i k _ => i :: k.all
  | _ => []
def depsIn (ops : List Oper) (pre : List Nat) (i : Nat) : Bool :=
  match ops[i]? with | some o => (bnd o).all (fun e => pre.contains e.on) | none => false
def nothingElse (ops : List Oper) (pre alts : List Nat) : Bool :=
  (List.range ops.length).all fun x => pre.contains x || alts.contains x || (match ops[x]? with | some o => (bnd o).any (fun e => !pre.contains e.on) | none => true)
/-- head: is this the first of those that may act here? -/
def okFrom (ops : List Oper) (E : List Nat) : Bool → List Nat → Ord → Bool
  | head, pre, .nil => head && (List.range ops.length).all fun i => pre.contains i
  | head, _, .stop => !head
  | head, pre, .look i k => head && depsIn ops pre i && !pre.contains i && !E.contains i && okFrom ops E true (i :: pre) k
  | head, pre, .act i k other => depsIn ops pre i && !pre.contains i && E.contains i && (!head || nothingElse ops pre (i :: other.alts)) && okFrom ops E true (i :: pre) k && okFrom ops E false pre other
def okDraw (n : Nat) (ops : List Oper) (E : List Nat) (C : Ord) : Bool :=
  -- edges go back, and bind
  (List.range ops.length).all (fun i => match ops[i]? with
    | some o => (bnd o).all (fun e => decide (e.on < i)) && (match o.dst with | some d => decide (d < n) | none => true) && wellRead ops i o
    | none => true) &&
  -- each slot has one writer
  (List.range ops.length).all (fun i => (List.range ops.length).all fun j => i == j || (match dstOf ops i, dstOf ops j with | some d, some e => d != e | _, _ => true)) &&
  -- the order goes by the edges; where something acts nothing else is ready
  okFrom ops E true [] C

def hasDep (ops : List Oper) (m k : Nat) : Bool := match ops[m]? with | some o => (bnd o).any (fun e => e.on == k) | none => false
/-- Those on which the operation i hangs. -/
def ancL (ops : List Oper) (i : Nat) : Nat → List Nat → List Nat
  | 0, acc => acc
  | k + 1, acc => ancL ops i k (if (i :: acc).any (fun m => hasDep ops m k) then k :: acc else acc)
/-- The walk of one order. -/
def DW (ro : Option Nat) (P : Program) (B : World) (n : Nat) (ops : List Oper) (Q : Post) : Ord → List (Nat × (HProp → Prop)) → Fr → HProp → Prop
  | .nil, _, fr, H => Q .normal fr H
  | .stop, _, _, _ => True
  | .look i C, pend, fr, H => ∃ o v, ops[i]? = some o ∧ WPL ro P B n ops.toArray [o] fr H (QOne o.dst fr fun v' H' => v' = v ∧ Ent H' H) ∧
      DW ro P B n ops Q C ((i, fun G => WPL ro P B n ops.toArray [o] fr G (QOne o.dst fr fun v' H' => v' = v ∧ Ent H' G)) :: pend) (fr.putO o.dst v) H
  | .act i C other, pend, fr, H => (∃ o K, ops[i]? = some o ∧ WPL ro P B n ops.toArray [o] fr H (QOne o.dst fr K) ∧
      ∀ v H', K v H' → (∀ p ∈ pend, (ancL ops i i []).contains p.1 = false → p.2 H') ∧ DW ro P B n ops Q C pend (fr.putO o.dst v) H') ∧ DW ro P B n ops Q other pend fr H

structure St (n : Nat) (ops : List Oper) (fr0 : Fr) (done : List (Nat × Value)) (L : Nat → Bool) (a : Act) : Prop where
  size : a.tmps.size = n
  defers : a.defers = fr0.ds.map markOf
  sub : ∀ i, L i = true → i ∈ done.map (·.1)
  down : ∀ (i : Nat) (o : Oper), L i = true → ops[i]? = some o → ∀ e ∈ bnd o, L e.on = true
  late : ∀ t j, dstOf ops j = some t → j ∈ done.map (·.1) → L j = false → a.tmps.getD t undef = fr0 t
  slot : ∀ t, (∀ j, dstOf ops j = some t → j ∈ done.map (·.1) → L j = true) → a.tmps.getD t undef = frOf ops fr0 done t

/-- What the check says. -/
structure Good (n : Nat) (ops : List Oper) : Prop where
  back : ∀ (i : Nat) (o : Oper), ops[i]? = some o → ∀ e ∈ bnd o, e.on < i
  fits : ∀ (i : Nat) (o : Oper) (d : Nat), ops[i]? = some o → o.dst = some d → d < n
  one : ∀ i j d : Nat, dstOf ops i = some d → dstOf ops j = some d → i = j
  read : ∀ (x : Nat) (o : Oper) (t : Nat), ops[x]? = some o → t ∈ reads ops o → ∀ (j : Nat) (q : Oper), ops[j]? = some q → q.dst = some t → (∃ e ∈ bnd o, e.on = j) ∨ (∃ e ∈ bnd q, e.on = x)
/-- The walked order goes by the edges. -/
def Ordered (ops : List Oper) (done : List (Nat × Value)) : Prop :=
  ∀ (pre : List (Nat × Value)) (j : Nat) (u : Value) (tail : List (Nat × Value)), done = pre ++ (j, u) :: tail → ∀ o, ops[j]? = some o → ∀ e ∈ bnd o, e.on ∈ tail.map (·.1)

section
variable {ro : Option Nat} {P : Program} {B : World} {n : Nat} {ops : List Oper} {fr0 : Fr} {Q : Post}
theorem dstOf_of {i : Nat} {o : Oper} (h : ops[i]? = some o) : dstOf ops i = o.dst := by simp [dstOf, h]

/-- At an operation that may go, its operands are what they were in the walk. -/
theorem reads_agree (g : Good n ops) {done pre tail : List (Nat × Value)} {x : Nat} {v : Value} {o : Oper} {L : Nat → Bool} {a : Act} (hst : St n ops fr0 done L a) (hnd : (done.map (·.1)).Nodup)
    (hord : Ordered ops done) (hdone : done = pre ++ (x, v) :: tail) (ho : ops[x]? = some o) (hrdy : ∀ e ∈ bnd o, L e.on = true) (hx : L x = false)
    {t : Nat} (ht : t ∈ reads ops o) : a.tmps.getD t undef = frOf ops fr0 tail t := by
  have hpre : ∀ e ∈ bnd o, e.on ∈ tail.map (·.1) := hord pre x v tail hdone o ho
  subst hdone
  by_cases hw : ∃ (j : Nat) (q : Oper), ops[j]? = some q ∧ q.dst = some t
  · obtain ⟨j, q, hj, hq⟩ := hw
    have hdj : dstOf ops j = some t := by rw [dstOf_of hj, hq]
    rcases g.read x o t ho ht j q hj hq with ⟨e, he, rfl⟩ | ⟨e, he, hex⟩
    · -- its writer is done
      have hL := hrdy e he
      have hin := hpre e he
      rw [hst.slot t (fun k hk _ => by rw [g.one k e.on t hk hdj]; exact hL)]
      obtain ⟨p, hp, hpe⟩ := List.mem_map.1 hin
      obtain ⟨s1, s2, rfl⟩ := List.append_of_mem hp
      obtain ⟨i, u⟩ := p
      simp only at hpe
      subst hpe
      have nd := hnd
      simp only [List.map_append, List.map_cons, List.nodup_append, List.nodup_cons, List.mem_cons, List.mem_append, List.mem_map] at nd
      have u1 : ∀ p ∈ s1, dstOf ops p.1 ≠ some t := fun p hp h => by
        have := g.one p.1 e.on t h hdj
        have hmem : e.on ∈ s1.map (·.1) := List.mem_map.2 ⟨p, hp, this⟩
        have nd2 : ((s1 ++ (e.on, u) :: s2).map (·.1)).Nodup := by
          have := hnd
          rw [List.map_append, List.nodup_append] at this
          have h2 := this.2.1
          rw [List.map_cons, List.nodup_cons] at h2
          exact h2.2
        rw [List.map_append, List.nodup_append] at nd2
        exact nd2.2.2 _ hmem _ (by simp) rfl
      have u2 : ∀ p ∈ pre ++ (x, v) :: s1, dstOf ops p.1 ≠ some t := fun p hp h => by
        have hpe := g.one p.1 e.on t h hdj
        have nd3 : ((pre ++ (x, v) :: s1) ++ (e.on, u) :: s2).map (·.1) |>.Nodup := by
          simpa using hnd
        rw [List.map_append, List.nodup_append] at nd3
        exact nd3.2.2 e.on (List.mem_map.2 ⟨p, hp, hpe⟩) e.on (by simp) rfl
      rw [frOf_at s1 s2 hdj u1]
      have := frOf_at (fr0 := fr0) (pre ++ (x, v) :: s1) s2 hdj u2 (v := u)
      simpa using this
    · -- its writer comes later
      have hLj : L j = false := by
        cases hLj : L j with
        | false => rfl
        | true =>
          have := hst.down j q hLj hj e he
          rw [hex, hx] at this
          cases this
      have htail : ∀ p ∈ tail, dstOf ops p.1 ≠ some t := fun p hp h => by
        -- a writer in the tail would be j; but j leans on x
        have hpj := g.one p.1 j t h hdj
        obtain ⟨i, u⟩ := p
        simp only at hpj
        subst hpj
        obtain ⟨s1, s2, rfl⟩ := List.append_of_mem hp
        have hin := hord (pre ++ (x, v) :: s1) i u s2 (by simp) q hj e he
        rw [hex] at hin
        have nd3 : ((pre ++ [(x, v)]) ++ (s1 ++ (i, u) :: s2)).map (·.1) |>.Nodup := by simpa using hnd
        rw [List.map_append, List.nodup_append] at nd3
        refine nd3.2.2 x (by simp) x ?_ rfl
        simp only [List.map_append, List.map_cons, List.mem_append, List.mem_cons]
        exact .inr (.inr hin)
      rw [frOf_none tail htail]
      by_cases hin : j ∈ (pre ++ (x, v) :: tail).map (·.1)
      · exact hst.late t j hdj hin hLj
      · rw [hst.slot t (fun k hk hkin => by have := g.one k j t hk hdj; subst this; exact absurd hkin hin)]
        exact frOf_none _ fun p hp h => by
          have := g.one p.1 j t h hdj
          exact hin (List.mem_map.2 ⟨p, hp, this⟩)
  · have hno : ∀ j, dstOf ops j ≠ some t := fun j h => by
      cases hj : ops[j]? with
      | none => simp [dstOf, hj] at h
      | some q => exact hw ⟨j, q, hj, by rw [← dstOf_of hj]; exact h⟩
    rw [hst.slot t (fun j hj => absurd hj (hno j)), frOf_none _ (fun p _ => hno p.1), frOf_none _ (fun p _ => hno p.1)]

theorem yielded_congr {ops : Array Oper} {f g : Array Value} {j : Nat} (h : ∀ s, (ops[j]?).bind (·.dst) = some s → f.getD s undef = g.getD s undef) : yielded ops f j = yielded ops g j := by
  unfold yielded
  cases hs : (ops[j]?).bind (·.dst) with
  | none => rfl
  | some s =>
    have hk := h s hs
    rw [Array.getD_eq_getD_getElem?, Array.getD_eq_getD_getElem?] at hk
    simp only [Option.bind_some]
    cases hf : f[s]? with
    | none =>
      cases hg : g[s]? with
      | none => rfl
      | some u =>
        simp only [hf, hg, Option.getD_none, Option.getD_some, undef] at hk
        subst hk; rfl
    | some v =>
      cases hg : g[s]? with
      | none =>
        simp only [hf, hg, Option.getD_none, Option.getD_some, undef] at hk
        subst hk; rfl
      | some u =>
        simp only [hf, hg, Option.getD_some] at hk
        subst hk; rfl

/-- A step of one operation that may go. -/
theorem go_step (g : Good n ops) {done tail : List (Nat × Value)} {x : Nat} {o : Oper} {L : Nat → Bool} {a : Act} {w : World} {H : HProp} {K : Value → HProp → Prop} {next : Act → World → Prop} {R : Exit → Act → World → Prop}
    (hst : St n ops fr0 done L a) (hlate : ∀ t, n ≤ t → fr0 t = undef)
    (hag : ∀ t ∈ reads ops o, a.tmps.getD t undef = frOf ops fr0 tail t)
    (hsub : ∀ p ∈ tail, ∃ q, ops[p.1]? = some q) (ho : ops[x]? = some o)
    (h : WPL ro P B n ops.toArray [o] (frOf ops fr0 tail) H (QOne o.dst (frOf ops fr0 tail) K)) (hw : Holds B H w)
    (k : ∀ v v' H' w', (o.dst.isSome = true → v' = v) → Holds B H' w' → K v' H' → next (a.put o.dst v) w') :
    if Region.wanted o (yielded ops.toArray a.tmps) then o.wpIn (FW ro) 0 P a w next R else next (a.put o.dst undef) w := by
  have hfr : ∀ t, n ≤ t → frOf ops fr0 tail t = undef := by
    intro t ht
    rw [frOf_none tail (fun p hp hd => ?_)]
    · exact hlate t ht
    · obtain ⟨q, hq⟩ := hsub p hp
      have := g.fits p.1 q t hq (by rw [← dstOf_of hq]; exact hd)
      omega
  have hdn : ∀ d, o.dst = some d → d < n := fun d hd => g.fits x o d ho hd
  have hwant : Region.wanted o (yielded ops.toArray a.tmps) = Region.wanted o (yielded ops.toArray ((Array.range n).map (frOf ops fr0 tail).f)) := by
    unfold Region.wanted
    cases hg : o.guard with
    | none => rfl
    | some gd =>
      obtain ⟨j, want⟩ := gd
      have : yielded ops.toArray a.tmps j = yielded ops.toArray ((Array.range n).map (frOf ops fr0 tail).f) j := by
        refine yielded_congr fun s hs => ?_
        rw [(models_full _ hfr).slot s]
        refine hag s ?_
        have hs' : dstOf ops j = some s := by simpa [dstOf] using hs
        unfold reads
        rw [hg]
        simp [hs']
      simp only [this]
  have hev : o.semAt ro a.eval = o.semAt ro (ev (frOf ops fr0 tail)) := by
    refine semAt_congr o fun y hy => ?_
    cases y with
    | tmp t =>
      refine hag t ?_
      unfold reads
      refine List.mem_append_left _ (List.mem_filterMap.2 ⟨.tmp t, hy, rfl⟩)
    | _ => rfl
  rw [hwant]
  rcases wpl_one hdn hfr h hw with ⟨h1, h2⟩ | ⟨h1, v', H', h3, h4, h5⟩
  · rw [if_pos h1]
    refine ⟨fun f _ => trivial, ?_⟩
    have hro : (FW ro).round = ro := rfl
    rw [hro, hev]
    exact h2.upon k
  · rw [if_neg (by simp [h1])]
    exact k undef v' H' w h3 h4 h5

def unlisted (k : Nat) (l : Array Bool) : Nat := ((List.range k).filter fun i => !l.getD i false).length
theorem filter_lt {p q : Nat → Bool} (l : List Nat) (h : ∀ j ∈ l, q j = true → p j = true) {i : Nat} (hi : i ∈ l) (hp : p i = true) (hq : q i = false) : (l.filter q).length < (l.filter p).length := by
  induction l with
  | nil => cases hi
  | cons j l ih =>
    have hl : (l.filter q).length ≤ (l.filter p).length := by
      clear ih hi
      induction l with
      | nil => simp
      | cons k l ih2 =>
        have := ih2 fun m hm => h m (by simp only [List.mem_cons] at hm ⊢; rcases hm with rfl | hm <;> simp_all)
        have hk := h k (by simp)
        simp only [List.filter_cons]
        cases hqk : q k <;> cases hpk : p k <;> simp_all <;> omega
    rcases List.mem_cons.1 hi with rfl | hi'
    · simp only [List.filter_cons, hp, hq, if_true, Bool.false_eq_true, if_false, List.length_cons]; omega
    · have := ih (fun m hm => h m (by simp [hm])) hi'
      have hj := h j (by simp)
      simp only [List.filter_cons]
      cases hqk : q j <;> cases hpk : p j <;> simp_all <;> omega

theorem St.step (g : Good n ops) {done : List (Nat × Value)} {L L' : Nat → Bool} {a : Act} {x : Nat} {o : Oper} {u : Value} (hst : St n ops fr0 done L a) (hx : ops[x]? = some o) (hin : x ∈ done.map (·.1))
    (hval : ∀ d, o.dst = some d → frOf ops fr0 done d = u) (hdeps : ∀ e ∈ bnd o, L e.on = true) (hL' : ∀ j, L' j = (if j = x then true else L j)) : St n ops fr0 done L' (a.put o.dst u) := by
  have hup : ∀ j, L j = true → L' j = true := fun j hj => by rw [hL']; split <;> simp_all
  have hslot : ∀ t, o.dst ≠ some t → (a.put o.dst u).tmps.getD t undef = a.tmps.getD t undef := by
    intro t ht
    cases hd : o.dst with
    | none => rfl
    | some d =>
      have : d ≠ t := fun e => ht (by rw [hd, e])
      simp [Act.put, Array.getD_eq_getD_getElem?, Array.getElem?_setIfInBounds, this]
  refine ⟨?_, ?_, ?_, ?_, ?_, ?_⟩
  · cases hd : o.dst <;> simp [Act.put, hst.size]
  · cases hd : o.dst <;> simp [Act.put, hst.defers]
  · intro i hi
    rw [hL'] at hi
    split at hi
    · rename_i e; subst e; exact hin
    · exact hst.sub i hi
  · intro i q hi hq e he
    rw [hL'] at hi
    split at hi
    · rename_i e'; subst e'; rw [hx] at hq; cases hq; exact hup _ (hdeps e he)
    · exact hup _ (hst.down i q hi hq e he)
  · intro t j hj hjin hLj
    rw [hL'] at hLj
    split at hLj
    · cases hLj
    · rename_i hne
      rw [hslot t (fun hd => hne (g.one j x t hj (by rw [dstOf_of hx, hd])))]
      exact hst.late t j hj hjin hLj
  · intro t ht
    by_cases hd : o.dst = some t
    · rw [hval t hd]
      have htn := g.fits x o t hx hd
      simp [Act.put, hd, Array.getD_eq_getD_getElem?, Array.getElem?_setIfInBounds, hst.size, htn]
    · rw [hslot t hd]
      refine hst.slot t fun j hj hjin => ?_
      have := ht j hj hjin
      rw [hL'] at this
      split at this
      · rename_i e; subst e; rw [dstOf_of hx] at hj; exact absurd hj hd
      · exact this
theorem St.extend (g : Good n ops) {done : List (Nat × Value)} {L : Nat → Bool} {a : Act} {i : Nat} {v : Value} (hst : St n ops fr0 done L a) (hin : i ∉ done.map (·.1)) : St n ops fr0 ((i, v) :: done) L a := by
  have hLi : L i = false := by
    cases h : L i with
    | false => rfl
    | true => exact absurd (hst.sub i h) hin
  have hnot : ∀ t, dstOf ops i = some t → frOf ops fr0 done t = fr0 t := fun t ht => frOf_none done fun p hp hd => hin (List.mem_map.2 ⟨p, hp, g.one p.1 i t hd ht⟩)
  refine ⟨hst.size, hst.defers, fun j hj => by simp only [List.map_cons]; exact List.mem_cons_of_mem _ (hst.sub j hj), hst.down, ?_, ?_⟩
  · intro t j hj hjin hLj
    simp only [List.map_cons, List.mem_cons] at hjin
    rcases hjin with rfl | hjin
    · rw [hst.slot t (fun k hk hkin => by have := g.one k j t hk hj; subst this; exact absurd hkin hin)]
      exact hnot t hj
    · exact hst.late t j hj hjin hLj
  · intro t ht
    have hdi : dstOf ops i ≠ some t := fun h => by
      have := ht i h (by simp)
      rw [hLi] at this
      cases this
    rw [hst.slot t (fun j hj hjin => ht j hj (by simp only [List.map_cons]; exact List.mem_cons_of_mem _ hjin))]
    have e : frOf ops fr0 ((i, v) :: done) = (frOf ops fr0 done).putO (dstOf ops i) v := rfl
    rw [e]
    cases hd : dstOf ops i with
    | none => rfl
    | some d =>
      have : t ≠ d := fun e => hdi (by rw [hd, e])
      simp only [Fr.putO]
      rw [put_ne _ _ _ _ this]

/-- One round of the model's order, at a place of the walk where what is not done hangs on the next effect. -/
theorem one_round (g : Good n ops) (done : List (Nat × Value)) (pend : List (Nat × (HProp → Prop))) (H : HProp) (eff : Nat → Bool)
      (hlate : ∀ t, n ≤ t → fr0 t = undef) (hnd : (done.map (·.1)).Nodup) (hord : Ordered ops done) (hex : ∀ p ∈ done, ∃ q, ops[p.1]? = some q)
      (hqu : ∀ (pre : List (Nat × Value)) (x : Nat) (v : Value) (tail : List (Nat × Value)) (o : Oper), done = pre ++ (x, v) :: tail → ops[x]? = some o → eff x = false → ∃ p ∈ pend, p.1 = x ∧ ∀ G, p.2 G → WPL ro P B n ops.toArray [o] (frOf ops fr0 tail) G (QOne o.dst (frOf ops fr0 tail) fun v' H' => v' = v ∧ Ent H' G))
      -- all is done
      (hall : ∀ (a : Act) (w : World), Models n a (frOf ops fr0 done) → Holds B H w → (∀ i, i < ops.length → i ∈ done.map (·.1)) → lift B n Q .normal a w)
      -- the next effect
      (hnext : ∀ (x fuel t : Nat) (listed : Array Bool) (a : Act) (w : World), x < ops.length → x ∉ done.map (·.1) → (∀ (o : Oper), ops[x]? = some o → ∀ e ∈ bnd o, listed.getD e.on false = true) → listed.size = ops.length →
        unlisted ops.length (listed.setIfInBounds x true) ≤ fuel → St n ops fr0 done (fun i => listed.getD i false) a → (∀ i ∈ done.map (·.1), eff i = true → listed.getD i false = true) → (∀ p ∈ pend, listed.getD p.1 false = false → p.2 H) → Holds B H w →
        ∀ (o : Oper), ops[x]? = some o → if Region.wanted o (yielded ops.toArray a.tmps) then o.wpIn (FW ro) 0 P a w (fun a' w' => wpOpsR ro P ops.toArray (lift B n Q) (Region.linearise.go .any ops.toArray fuel t (listed.setIfInBounds x true) []) a' w') (lift B n Q)
          else wpOpsR ro P ops.toArray (lift B n Q) (Region.linearise.go .any ops.toArray fuel t (listed.setIfInBounds x true) []) (a.put o.dst undef) w)
      (fuel : Nat) : ∀ (t : Nat) (listed : Array Bool) (a : Act) (w : World), listed.size = ops.length → unlisted ops.length listed ≤ fuel → St n ops fr0 done (fun i => listed.getD i false) a →
      (∀ i ∈ done.map (·.1), eff i = true → listed.getD i false = true) → (∀ p ∈ pend, listed.getD p.1 false = false → p.2 H) → Holds B H w →
      wpOpsR ro P ops.toArray (lift B n Q) (Region.linearise.go .any ops.toArray fuel t listed []) a w := by
  -- where nothing is ready all is listed
  have full : ∀ listed : Array Bool, listed.size = ops.length → ((List.range ops.length).filter fun i =>
      !listed.getD i true && ((ops.toArray[i]?).map (·.after.all fun e => !Region.binds .any e || listed.getD e.on false)).getD false) = [] → ∀ i, i < ops.length → listed.getD i false = true := by
    intro listed hsz hnil i
    induction i using Nat.strongRecOn with
    | _ i ih =>
      intro hi
      cases hl : listed.getD i false with
      | true => rfl
      | false =>
        have ho : ops[i]? = some ops[i] := List.getElem?_eq_getElem hi
        have hmem : i ∈ ((List.range ops.length).filter fun i => !listed.getD i true && ((ops.toArray[i]?).map (·.after.all fun e => !Region.binds .any e || listed.getD e.on false)).getD false) := by
          refine List.mem_filter.2 ⟨by simpa using hi, ?_⟩
          have h1 : listed.getD i true = false := by
            rw [Array.getD_eq_getD_getElem?, Array.getElem?_eq_getElem (by omega)] at hl ⊢
            simpa using hl
          have h2 : (ops[i].after.all fun e => !Region.binds .any e || listed.getD e.on false) = true := by
            rw [Array.all_eq_true_iff_forall_mem]
            intro e he
            cases hb : Region.binds .any e with
            | false => rfl
            | true =>
              have heb : e ∈ bnd ops[i] := List.mem_filter.2 ⟨by simpa using he, hb⟩
              have := ih e.on (g.back i _ ho e heb) (Nat.lt_trans (g.back i _ ho e heb) hi)
              simp [this]
          rw [h1]
          simp only [List.getElem?_toArray, ho, Option.map_some, Option.getD_some, h2, Bool.not_false, Bool.and_self]
        rw [hnil] at hmem
        cases hmem
  have fin : ∀ (listed : Array Bool) (a : Act) (w : World), (∀ i, i < ops.length → listed.getD i false = true) → St n ops fr0 done (fun i => listed.getD i false) a → Holds B H w → lift B n Q .normal a w := by
    intro listed a w hl hst hw
    have hin : ∀ i, i < ops.length → i ∈ done.map (·.1) := fun i hi => hst.sub i (hl i hi)
    refine hall a w ⟨hst.size, by rw [frOf_ds]; exact hst.defers, fun t => hst.slot t fun j hj _ => ?_⟩ hw hin
    refine hl j ?_
    cases hq : ops[j]? with
    | none => simp [dstOf, hq] at hj
    | some q => exact (List.getElem?_eq_some_iff.1 hq).1
  induction fuel with
  | zero =>
    intro t listed a w hsz hun hst hef hpd hw
    have hl : ∀ i, i < ops.length → listed.getD i false = true := by
      intro i hi
      cases hli : listed.getD i false with
      | true => rfl
      | false =>
        have hmem : i ∈ (List.range ops.length).filter fun i => !listed.getD i false := List.mem_filter.2 ⟨by simpa using hi, by simp [hli]⟩
        have := List.length_pos_of_mem hmem
        unfold unlisted at hun
        omega
    simp only [Region.linearise.go, List.reverse_nil, wpOpsR]
    exact fin listed a w hl hst hw
  | succ fuel ih =>
    intro t listed a w hsz hun hst hef hpd hw
    unfold Region.linearise.go
    have hrs : ops.toArray.size = ops.length := by simp
    simp only [hrs]
    split
    · rename_i x hx
      rw [go_acc]
      simp only [List.reverse_cons, List.reverse_nil, List.nil_append, List.cons_append]
      -- the one that goes is ready
      have hmem := List.mem_of_getElem? hx
      obtain ⟨hxr, hrd⟩ := List.mem_filter.1 hmem
      have hxl : x < ops.length := by simpa using hxr
      have ho : ops[x]? = some ops[x] := List.getElem?_eq_getElem hxl
      simp only [Bool.and_eq_true] at hrd
      have hlx : listed.getD x false = false := by
        have := hrd.1
        rw [Array.getD_eq_getD_getElem?, Array.getElem?_eq_getElem (by omega)] at this ⊢
        simpa using this
      have hdeps : ∀ e ∈ bnd ops[x], listed.getD e.on false = true := by
        intro e he
        have h2 := hrd.2
        simp only [List.getElem?_toArray, ho, Option.map_some, Option.getD_some] at h2
        rw [Array.all_eq_true_iff_forall_mem] at h2
        obtain ⟨he1, he2⟩ := List.mem_filter.1 he
        have := h2 e (by simpa using he1)
        simpa [he2] using this
      have hun' : unlisted ops.length (listed.setIfInBounds x true) ≤ fuel := by
        have : unlisted ops.length (listed.setIfInBounds x true) < unlisted ops.length listed := by
          refine filter_lt (i := x) _ ?_ (by simpa using hxl) (by simp [hlx]) ?_
          · intro j _ hj
            simp only [Bool.not_eq_true', Array.getD_eq_getD_getElem?, Array.getElem?_setIfInBounds] at hj ⊢
            by_cases hxj : x = j
            · subst hxj; simp [hsz, hxl] at hj
            · simpa [hxj] using hj
          · simp [Array.getD_eq_getD_getElem?, Array.getElem?_setIfInBounds, hsz, hxl]
        omega
      have hL' : ∀ j, (listed.setIfInBounds x true).getD j false = (if j = x then true else listed.getD j false) := by
        intro j
        simp only [Array.getD_eq_getD_getElem?, Array.getElem?_setIfInBounds]
        by_cases hxj : x = j
        · subst hxj; simp [hsz, hxl]
        · have : ¬ j = x := fun e => hxj e.symm
          simp [hxj, this]
      simp only [wpOpsR, List.getElem?_toArray, ho]
      by_cases hin : x ∈ done.map (·.1)
      · obtain ⟨p, hp, hpx⟩ := List.mem_map.1 hin
        obtain ⟨i, v⟩ := p
        simp only at hpx
        subst hpx
        obtain ⟨pre, tail, hdone⟩ := List.append_of_mem hp
        have hnef : eff i = false := by
          cases he : eff i with
          | false => rfl
          | true => have := hef i hin he; rw [hlx] at this; cases this
        obtain ⟨pq, hpq, hpq1, hfact⟩ := hqu pre i v tail ops[i] hdone ho hnef
        refine go_step (K := fun v' H' => v' = v ∧ Ent H' H) g hst hlate (fun s hs => reads_agree g hst hnd hord hdone ho hdeps hlx hs) (fun p hp => hex p (by rw [hdone]; exact List.mem_append_right _ (List.mem_cons_of_mem _ hp))) ho (hfact H (hpd pq hpq (by rw [hpq1]; exact hlx))) hw ?_
        rintro u v' H' w' huv hw' ⟨hv', he⟩
        refine ih _ _ _ _ (by simp [hsz]) hun' ?_ ?_ ?_ (hw'.ent he)
        · refine hst.step g ho hin ?_ hdeps hL'
          intro d hd
          have hdi : dstOf ops i = some d := by rw [dstOf_of ho, hd]
          have huv' : v = u := by rw [← hv']; exact huv (by rw [hd]; rfl)
          rw [hdone, ← huv']
          refine frOf_at pre tail hdi fun p hp hd' => ?_
          have hpi := g.one p.1 i d hd' hdi
          have nd := hnd
          rw [hdone, List.map_append, List.nodup_append] at nd
          exact nd.2.2 i (List.mem_map.2 ⟨p, hp, hpi⟩) i (by simp) rfl
        · intro j hj hej
          rw [hL']
          split
          · rfl
          · exact hef j hj hej
        · intro p hp hl
          rw [hL'] at hl
          split at hl
          · cases hl
          · exact hpd p hp hl
      · exact hnext x fuel _ listed a w hxl hin (fun o hq => by rw [ho] at hq; cases hq; exact hdeps) hsz hun' hst hef hpd hw _ ho
    · rename_i hnone
      have hnil : ((List.range ops.length).filter fun i => !listed.getD i true && ((ops.toArray[i]?).map (·.after.all fun e => !Region.binds .any e || listed.getD e.on false)).getD false) = [] := by
        generalize ((List.range ops.length).filter fun i => !listed.getD i true && ((ops.toArray[i]?).map (·.after.all fun e => !Region.binds .any e || listed.getD e.on false)).getD false) = rs at hnone
        cases rs with
        | nil => rfl
        | cons r rs =>
          have hlt : t % (r :: rs).length < (r :: rs).length := Nat.mod_lt _ (by simp)
          rw [List.getElem?_eq_getElem hlt] at hnone
          cases hnone
      simp only [List.reverse_nil, wpOpsR]
      exact fin listed a w (full listed hsz hnil) hst hw

/-- What the walk has shown so far. -/
structure Shown (ro : Option Nat) (P : Program) (B : World) (n : Nat) (ops : List Oper) (fr0 : Fr) (E : List Nat) (done : List (Nat × Value)) (pend : List (Nat × (HProp → Prop))) : Prop where
  nodup : (done.map (·.1)).Nodup
  ord : Ordered ops done
  ex : ∀ p ∈ done, ∃ q, ops[p.1]? = some q
  quiet : ∀ (pre : List (Nat × Value)) (x : Nat) (v : Value) (tail : List (Nat × Value)) (o : Oper), done = pre ++ (x, v) :: tail → ops[x]? = some o → E.contains x = false →
    ∃ p ∈ pend, p.1 = x ∧ ∀ G, p.2 G → WPL ro P B n ops.toArray [o] (frOf ops fr0 tail) G (QOne o.dst (frOf ops fr0 tail) fun v' H' => v' = v ∧ Ent H' G)

theorem depsIn_of {pre : List Nat} {i : Nat} (h : depsIn ops pre i = true) : ∃ o, ops[i]? = some o ∧ i < ops.length ∧ ∀ e ∈ bnd o, e.on ∈ pre := by
  unfold depsIn at h
  cases ho : ops[i]? with
  | none => rw [ho] at h; cases h
  | some o =>
    rw [ho] at h
    refine ⟨o, rfl, (List.getElem?_eq_some_iff.1 ho).1, fun e he => ?_⟩
    have := (List.all_eq_true.1 h) e (by simpa using he)
    simpa using this

theorem Shown.more {E : List Nat} {done : List (Nat × Value)} {pend pend' : List (Nat × (HProp → Prop))} (h : Shown ro P B n ops fr0 E done pend) {i : Nat} {o : Oper} (v : Value) (hni : i ∉ done.map (·.1)) (ho : ops[i]? = some o) (hdeps : ∀ e ∈ bnd o, e.on ∈ done.map (·.1))
    (hsub : ∀ p ∈ pend, p ∈ pend') (hq : E.contains i = false → ∃ p ∈ pend', p.1 = i ∧ ∀ G, p.2 G → WPL ro P B n ops.toArray [o] (frOf ops fr0 done) G (QOne o.dst (frOf ops fr0 done) fun v' H' => v' = v ∧ Ent H' G)) :
    Shown ro P B n ops fr0 E ((i, v) :: done) pend' := by
  refine ⟨?_, ?_, ?_, ?_⟩
  · simp only [List.map_cons, List.nodup_cons]; exact ⟨hni, h.nodup⟩
  · intro pre j u tail he q hq e hem
    cases pre with
    | nil => simp only [List.nil_append, List.cons.injEq, Prod.mk.injEq] at he; obtain ⟨⟨rfl, rfl⟩, rfl⟩ := he; rw [ho] at hq; cases hq; exact hdeps e hem
    | cons p pre => simp only [List.cons_append, List.cons.injEq] at he; exact h.ord pre j u tail he.2 q hq e hem
  · intro p hp
    rcases List.mem_cons.1 hp with rfl | hp
    · exact ⟨o, ho⟩
    · exact h.ex p hp
  · intro pre x u tail q he hqx hx
    cases pre with
    | nil =>
      simp only [List.nil_append, List.cons.injEq, Prod.mk.injEq] at he
      obtain ⟨⟨rfl, rfl⟩, rfl⟩ := he
      rw [ho] at hqx
      cases hqx
      exact hq hx
    | cons p pre =>
      simp only [List.cons_append, List.cons.injEq] at he
      obtain ⟨pq, hpq, hf1, hf⟩ := h.quiet pre x u tail q he.2 hqx hx
      exact ⟨pq, hsub pq hpq, hf1, hf⟩

theorem anc_done {i : Nat} {o : Oper} {L : Nat → Bool} (ho : ops[i]? = some o) (hd : ∀ e ∈ bnd o, L e.on = true) (down : ∀ (j : Nat) (q : Oper), L j = true → ops[j]? = some q → ∀ e ∈ bnd q, L e.on = true) :
    ∀ (k : Nat) (acc : List Nat), (∀ m ∈ acc, L m = true) → ∀ m ∈ ancL ops i k acc, L m = true := by
  intro k
  induction k with
  | zero => intro acc h; exact h
  | succ k ih =>
    intro acc h
    unfold ancL
    refine ih _ ?_
    split
    · rename_i hany
      intro m hm
      rcases List.mem_cons.1 hm with rfl | hm
      · obtain ⟨m', hm', hdep⟩ := List.any_eq_true.1 hany
        unfold hasDep at hdep
        cases hq : ops[m']? with
        | none => rw [hq] at hdep; cases hdep
        | some q =>
          rw [hq] at hdep
          obtain ⟨e, he, hee⟩ := List.any_eq_true.1 hdep
          have hee' : e.on = m := by simpa using hee
          rw [← hee']
          rcases List.mem_cons.1 hm' with rfl | hm'
          · rw [ho] at hq; cases hq; exact hd e he
          · exact down m' q (h m' hm') hq e he
      · exact h m hm
    · exact h
/-- Every order that the edges allow. -/
theorem all_orders (g : Good n ops) (hlate : ∀ t, n ≤ t → fr0 t = undef) (E : List Nat) (C : Ord) :
    (∀ (done : List (Nat × Value)) (pend : List (Nat × (HProp → Prop))) (H : HProp), Shown ro P B n ops fr0 E done pend → okFrom ops E true (done.map (·.1)) C = true →
      DW ro P B n ops Q C pend (frOf ops fr0 done) H →
      ∀ (fuel t : Nat) (listed : Array Bool) (a : Act) (w : World), listed.size = ops.length → unlisted ops.length listed ≤ fuel → St n ops fr0 done (fun i => listed.getD i false) a →
      (∀ i ∈ done.map (·.1), E.contains i = true → listed.getD i false = true) → (∀ p ∈ pend, listed.getD p.1 false = false → p.2 H) → Holds B H w →
      wpOpsR ro P ops.toArray (lift B n Q) (Region.linearise.go .any ops.toArray fuel t listed []) a w) ∧
    (∀ (done : List (Nat × Value)) (pend : List (Nat × (HProp → Prop))) (H : HProp) (hd : Bool), Shown ro P B n ops fr0 E done pend → okFrom ops E hd (done.map (·.1)) C = true →
      DW ro P B n ops Q C pend (frOf ops fr0 done) H →
      ∀ (x fuel t : Nat) (listed : Array Bool) (a : Act) (w : World), x ∈ C.alts → x ∉ done.map (·.1) → (∀ (o : Oper), ops[x]? = some o → ∀ e ∈ bnd o, listed.getD e.on false = true) → listed.size = ops.length →
        unlisted ops.length (listed.setIfInBounds x true) ≤ fuel → St n ops fr0 done (fun i => listed.getD i false) a → (∀ i ∈ done.map (·.1), E.contains i = true → listed.getD i false = true) → (∀ p ∈ pend, listed.getD p.1 false = false → p.2 H) → Holds B H w →
        ∀ (o : Oper), ops[x]? = some o → if Region.wanted o (yielded ops.toArray a.tmps) then o.wpIn (FW ro) 0 P a w (fun a' w' => wpOpsR ro P ops.toArray (lift B n Q) (Region.linearise.go .any ops.toArray fuel t (listed.setIfInBounds x true) []) a' w') (lift B n Q)
          else wpOpsR ro P ops.toArray (lift B n Q) (Region.linearise.go .any ops.toArray fuel t (listed.setIfInBounds x true) []) (a.put o.dst undef) w) := by
  induction C with
  | nil =>
    refine ⟨?_, ?_⟩
    · intro done pend H hS hok hdw
      have hin : ∀ i, i < ops.length → i ∈ done.map (·.1) := by
        intro i hi
        simp only [okFrom, Bool.true_and] at hok
        have := (List.all_eq_true.1 hok) i (by simpa using hi)
        simpa using this
      refine one_round g done pend H (fun i => E.contains i) hlate hS.nodup hS.ord hS.ex hS.quiet ?_ ?_
      · intro a w hm hw _
        exact ⟨_, H, hm, hw, hdw⟩
      · intro x fuel t listed a w hxl hxn
        exact absurd (hin x hxl) hxn
    · intro done pend H hd _ _ _ x fuel t listed a w hx
      simp [Ord.alts] at hx
  | stop =>
    refine ⟨?_, ?_⟩
    · intro done pend H hS hok
      simp [okFrom] at hok
    · intro done pend H hd _ _ _ x fuel t listed a w hx
      simp [Ord.alts] at hx
  | look i C ih =>
    refine ⟨?_, ?_⟩
    · intro done pend H hS hok hdw fuel t listed a w hsz hun hst hef hpd hw
      simp only [okFrom, Bool.true_and, Bool.and_eq_true, Bool.not_eq_true'] at hok
      obtain ⟨⟨⟨hk1, hk2⟩, hk3⟩, hk4⟩ := hok
      obtain ⟨o, ho, hil, hdeps⟩ := depsIn_of hk1
      have hni : i ∉ done.map (·.1) := by intro h; have : (done.map (·.1)).contains i = true := by simpa using h
                                          rw [this] at hk2; cases hk2
      obtain ⟨o', v, ho', hwp, hk⟩ := hdw
      rw [ho] at ho'
      cases ho'
      have hfr : frOf ops fr0 ((i, v) :: done) = (frOf ops fr0 done).putO o.dst v := by
        show (frOf ops fr0 done).putO (dstOf ops i) v = _
        rw [dstOf_of ho]
      rw [← hfr] at hk
      refine ih.1 ((i, v) :: done) _ H (hS.more v hni ho hdeps (fun p hp => List.mem_cons_of_mem _ hp) fun _ => ⟨_, List.mem_cons_self, rfl, fun G hG => hG⟩) hk4 hk fuel t listed a w hsz hun (hst.extend g hni) ?_ ?_ hw
      · intro j hj hej
        simp only [List.map_cons, List.mem_cons] at hj
        rcases hj with rfl | hj
        · rw [hk3] at hej; cases hej
        · exact hef j hj hej
      · intro p hp hl
        rcases List.mem_cons.1 hp with rfl | hp
        · exact hwp
        · exact hpd p hp hl
    · intro done pend H hd _ _ _ x fuel t listed a w hx
      simp [Ord.alts] at hx
  | act i C other ih iho =>
    have second : (∀ (done : List (Nat × Value)) (pend : List (Nat × (HProp → Prop))) (H : HProp) (hd : Bool), Shown ro P B n ops fr0 E done pend → okFrom ops E hd (done.map (·.1)) (.act i C other) = true →
      DW ro P B n ops Q (.act i C other) pend (frOf ops fr0 done) H →
      ∀ (x fuel t : Nat) (listed : Array Bool) (a : Act) (w : World), x ∈ (Ord.act i C other).alts → x ∉ done.map (·.1) → (∀ (o : Oper), ops[x]? = some o → ∀ e ∈ bnd o, listed.getD e.on false = true) → listed.size = ops.length →
        unlisted ops.length (listed.setIfInBounds x true) ≤ fuel → St n ops fr0 done (fun i => listed.getD i false) a → (∀ i ∈ done.map (·.1), E.contains i = true → listed.getD i false = true) → (∀ p ∈ pend, listed.getD p.1 false = false → p.2 H) → Holds B H w →
        ∀ (o : Oper), ops[x]? = some o → if Region.wanted o (yielded ops.toArray a.tmps) then o.wpIn (FW ro) 0 P a w (fun a' w' => wpOpsR ro P ops.toArray (lift B n Q) (Region.linearise.go .any ops.toArray fuel t (listed.setIfInBounds x true) []) a' w') (lift B n Q)
          else wpOpsR ro P ops.toArray (lift B n Q) (Region.linearise.go .any ops.toArray fuel t (listed.setIfInBounds x true) []) (a.put o.dst undef) w) := by
      intro done pend H hd hS hok hdw x fuel t listed a w hx hxn hxd hsz hun hst hef hpd hw o hox
      simp only [okFrom, Bool.and_eq_true] at hok
      obtain ⟨⟨⟨⟨⟨hk1, hk2⟩, hk3⟩, _⟩, hk4⟩, hk5⟩ := hok
      obtain ⟨hdw1, hdw2⟩ := hdw
      by_cases hxi : x = i
      · subst hxi
        obtain ⟨o1, ho, hxl, hdeps⟩ := depsIn_of hk1
        obtain ⟨o', K, ho', hwp, hk⟩ := hdw1
        rw [ho] at ho' hox
        cases ho'
        cases hox
        have hlx : listed.getD x false = false := by
          cases hl : listed.getD x false with
          | false => rfl
          | true => exact absurd (hst.sub x hl) hxn
        have hS' : ∀ v : Value, Shown ro P B n ops fr0 E ((x, v) :: done) pend := fun v => hS.more v hxn ho hdeps (fun p hp => hp) fun h => by rw [hk3] at h; cases h
        have hag : ∀ s ∈ reads ops o, a.tmps.getD s undef = frOf ops fr0 done s :=
          fun s hs => reads_agree (pre := []) (v := undef) g (hst.extend (v := undef) g hxn) (hS' undef).nodup (hS' undef).ord rfl ho (fun e he => hxd o ho e he) hlx hs
        refine go_step g hst hlate hag hS.ex ho hwp hw ?_
        intro u v' H' w' huv hw' hK
        obtain ⟨hp', hk'⟩ := hk v' H' hK
        have hfr : frOf ops fr0 ((x, v') :: done) = (frOf ops fr0 done).putO o.dst v' := by
          show (frOf ops fr0 done).putO (dstOf ops x) v' = _
          rw [dstOf_of ho]
        rw [← hfr] at hk'
        have hL' : ∀ j, (listed.setIfInBounds x true).getD j false = (if j = x then true else listed.getD j false) := by
          intro j
          simp only [Array.getD_eq_getD_getElem?, Array.getElem?_setIfInBounds]
          by_cases hxj : x = j
          · subst hxj; simp [hsz, hxl]
          · have : ¬ j = x := fun e => hxj e.symm
            simp [hxj, this]
        refine ih.1 ((x, v') :: done) pend H' (hS' v') hk4 hk' fuel _ _ _ _ (by simp [hsz]) hun ?_ ?_ ?_ hw'
        · refine (hst.extend (v := v') g hxn).step g ho (by simp) ?_ (fun e he => hxd o ho e he) hL'
          intro d hd
          rw [hfr, hd]
          simp only [Fr.putO, put_same]
          exact huv (by rw [hd]; rfl)
        · intro j hj hej
          rw [hL']
          split
          · rfl
          · rename_i hne
            simp only [List.map_cons, List.mem_cons] at hj
            rcases hj with rfl | hj
            · exact absurd rfl hne
            · exact hef j hj hej
        · intro p hp hl
          rw [hL'] at hl
          split at hl
          · cases hl
          · refine hp' p hp ?_
            cases hc : (ancL ops x x []).contains p.1 with
            | false => rfl
            | true =>
              have := anc_done (L := fun j => listed.getD j false) ho (fun e he => hxd o ho e he) hst.down x [] (by simp) p.1 (by simpa using hc)
              rw [hl] at this
              cases this
      · have hx' : x ∈ other.alts := by
          simp only [Ord.alts, List.mem_cons] at hx
          exact hx.resolve_left hxi
        exact iho.2 done pend H false hS hk5 hdw2 x fuel t listed a w hx' hxn hxd hsz hun hst hef hpd hw o hox
    refine ⟨?_, second⟩
    intro done pend H hS hok hdw
    have hok' := hok
    simp only [okFrom, Bool.and_eq_true, Bool.not_true, Bool.false_or] at hok'
    obtain ⟨⟨⟨⟨⟨hk1, hk2⟩, hk3⟩, hke⟩, hk4⟩, hk5⟩ := hok'
    have hni : i ∉ done.map (·.1) := by intro h; have : (done.map (·.1)).contains i = true := by simpa using h
                                        rw [this] at hk2; cases hk2
    obtain ⟨o1, ho, hil, hdeps⟩ := depsIn_of hk1
    refine one_round g done pend H (fun i => E.contains i) hlate hS.nodup hS.ord hS.ex hS.quiet ?_ ?_
    · intro a w _ _ hall
      exact absurd (hall i hil) hni
    · intro x fuel t listed a w hxl hxn hxd hsz hun hst hef hpd hw q hq
      have hxa : x ∈ (Ord.act i C other).alts := by
        unfold nothingElse at hke
        have := (List.all_eq_true.1 hke) x (by simpa using hxl)
        rw [hq] at this
        simp only [Bool.or_eq_true] at this
        rcases this with (h | h) | h
        · exact absurd (by simpa using h) hxn
        · simpa [Ord.alts] using h
        · obtain ⟨e, he, hne⟩ := List.any_eq_true.1 h
          have h1 := hxd q hq e (by simpa using he)
          have h2 := hst.sub e.on h1
          have h3 : (done.map (·.1)).contains e.on = true := by simpa using h2
          rw [h3] at hne
          cases hne
      exact second done pend H true hS hok hdw x fuel t listed a w hxa hxn hxd hsz hun hst hef hpd hw q hq

theorem good_of {E : List Nat} {C : Ord} (h : okDraw n ops E C = true) : Good n ops ∧ okFrom ops E true [] C = true := by
  unfold okDraw at h
  simp only [Bool.and_eq_true] at h
  obtain ⟨⟨h3, h4⟩, h5⟩ := h
  have at3 : ∀ (i : Nat) (o : Oper), ops[i]? = some o → ((bnd o).all (fun e => decide (e.on < i)) = true ∧ (match o.dst with | some d => decide (d < n) | none => true) = true ∧ wellRead ops i o = true) := by
    intro i o ho
    have hil : i < ops.length := (List.getElem?_eq_some_iff.1 ho).1
    have := (List.all_eq_true.1 h3) i (by simpa using hil)
    rw [ho] at this
    simp only [Bool.and_eq_true] at this
    exact ⟨this.1.1, this.1.2, this.2⟩
  refine ⟨⟨?_, ?_, ?_, ?_⟩, h5⟩
  · intro i o ho e he
    have := (List.all_eq_true.1 (at3 i o ho).1) e (by simpa using he)
    simpa using this
  · intro i o d ho hd
    have := (at3 i o ho).2.1
    rw [hd] at this
    simpa using this
  · intro i j d hi hj
    have hil : i < ops.length := by
      cases hq : ops[i]? with
      | none => simp [dstOf, hq] at hi
      | some q => exact (List.getElem?_eq_some_iff.1 hq).1
    have hjl : j < ops.length := by
      cases hq : ops[j]? with
      | none => simp [dstOf, hq] at hj
      | some q => exact (List.getElem?_eq_some_iff.1 hq).1
    have := (List.all_eq_true.1 ((List.all_eq_true.1 h4) i (by simpa using hil))) j (by simpa using hjl)
    rw [hi, hj] at this
    simpa using this
  · intro x o t ho ht j q hj hq
    have h6 := (List.all_eq_true.1 (at3 x o ho).2.2) t ht
    have hjl : j < ops.length := (List.getElem?_eq_some_iff.1 hj).1
    have := (List.all_eq_true.1 h6) j (by simpa using hjl)
    rw [hj] at this
    simp only [hq, Bool.or_eq_true] at this
    rcases this with (h | h) | h
    · simp at h
    · left
      obtain ⟨e, he, hee⟩ := List.any_eq_true.1 h
      exact ⟨e, by simpa using he, by simpa using hee⟩
    · right
      obtain ⟨e, he, hee⟩ := List.any_eq_true.1 h
      exact ⟨e, by simpa using he, by simpa using hee⟩

/-- The model mixes the orders of the text and of the compiler. -/
class Mixed (P : Program) : Prop where
  eq : P.follows .mixedOrders = true
/-- A region whose order is drawn, by the walk of one order. -/
theorem wp_draw [mx : Mixed P] {id : Nat} {fr : Fr} {H : HProp} (E : List Nat) (C : Ord) (hok : okDraw n ops E C = true) (h : DW ro P B n ops Q C [] fr H) : WP ro P B n (.region id ops.toArray true) fr H Q := by
  obtain ⟨g, h5⟩ := good_of hok
  intro a w hm hh
  refine wpIn_region_draw fun t => wpOpsR_in _ _ _ ?_
  have hs : Region.schedule (P.follows .mixedOrders) ops.toArray t = Region.linearise.go .any ops.toArray ops.toArray.size t (Array.replicate ops.toArray.size false) [] := by
    unfold Region.schedule
    rw [mx.eq]
    simp [Region.linearise]
  rw [hs]
  have hlate : ∀ t, n ≤ t → fr t = undef := by
    intro t ht
    rw [← hm.slot t, Array.getD_eq_getD_getElem?, Array.getElem?_eq_none (by rw [hm.size]; exact ht)]
    rfl
  have hfalse : ∀ i, (Array.replicate ops.toArray.size false).getD i false = false := by
    intro i
    rw [Array.getD_eq_getD_getElem?, Array.getElem?_replicate]
    split <;> rfl
  refine (all_orders (fr0 := fr) g hlate E C).1 [] [] H ⟨by simp, fun pre j u tail he => by simp at he, by simp, fun pre x v tail o he => by simp at he⟩ h5 h _ t _ a _ (by simp) ?_ ?_ (by simp) (by simp) hh.drew
  · unfold unlisted
    have := List.length_filter_le (fun i => !(Array.replicate ops.toArray.size false).getD i false) (List.range ops.length)
    simpa using this
  · refine ⟨hm.size, hm.defers, ?_, ?_, ?_, ?_⟩
    · intro i hi; rw [hfalse] at hi; cases hi
    · intro i o hi; rw [hfalse] at hi; cases hi
    · intro t j _ hj; simp at hj
    · intro t _; exact hm.slot t
end
end Go.SL
set_option linter.unusedSimpArgs false
set_option linter.unusedVariables false
namespace Go.SL
open Go Go.RowKit

section
variable {ro : Option Nat} {P : Program} {B : World} {n : Nat} {ops : List Oper} {Q : Post} {fr : Fr} {H : HProp} {i d : Nat} {o : Oper} {C other : Ord} {pend : List (Nat × (HProp → Prop))} {v : Value}

/-- Behind an act: what was looked at, and may still be looked at, is as it was. -/
def Stays (ops : List Oper) (i : Nat) : List (Nat × (HProp → Prop)) → HProp → Prop
  | [], _ => True
  | p :: l, H => ((ancL ops i i []).contains p.1 = false → p.2 H) ∧ Stays ops i l H
theorem Stays.all {l : List (Nat × (HProp → Prop))} (h : Stays ops i l H) : ∀ p ∈ l, (ancL ops i i []).contains p.1 = false → p.2 H := by
  induction l with
  | nil => simp
  | cons q l ih => intro p hp; rcases List.mem_cons.1 hp with rfl | hp; exact h.1; exact ih h.2 p hp
theorem st_nil : Stays ops i [] H := trivial
theorem st_past {j : Nat} {p : HProp → Prop} {l : List (Nat × (HProp → Prop))} (h : (ancL ops i i []).contains j = true) (k : Stays ops i l H) : Stays ops i ((j, p) :: l) H :=
  ⟨fun e => (by rw [h] at e; cases e), k⟩
theorem st_again {j : Nat} {p : HProp → Prop} {l : List (Nat × (HProp → Prop))} (h : p H) (k : Stays ops i l H) : Stays ops i ((j, p) :: l) H := ⟨fun _ => h, k⟩

theorem DW.more : ∀ (C : Ord) {pend pend' : List (Nat × (HProp → Prop))} {fr : Fr} {H : HProp}, DW ro P B n ops Q C pend fr H → (∀ p ∈ pend', p ∈ pend ∨ ∀ G, p.2 G) → DW ro P B n ops Q C pend' fr H
  | .nil, _, _, _, _, h, _ => h
  | .stop, _, _, _, _, _, _ => trivial
  | .look i C, pend, pend', fr, H, h, hp => by
    obtain ⟨o, v, h1, h2, h3⟩ := h
    refine ⟨o, v, h1, h2, DW.more C h3 fun p hm => ?_⟩
    rcases List.mem_cons.1 hm with rfl | hm
    · exact .inl List.mem_cons_self
    · exact (hp p hm).imp (List.mem_cons_of_mem _) id
  | .act i C other, pend, pend', fr, H, h, hp => by
    obtain ⟨⟨o, K, h1, h2, h3⟩, h4⟩ := h
    refine ⟨⟨o, K, h1, h2, fun v H' hK => ⟨fun p hm he => ?_, DW.more C (h3 v H' hK).2 hp⟩⟩, DW.more other h4 hp⟩
    rcases hp p hm with h | h
    · exact (h3 v H' hK).1 p h he
    · exact h H'
theorem dw_nil (h : Q .normal fr H) : DW ro P B n ops Q .nil pend fr H := h
theorem dw_look (ho : ops[i]? = some o) (hd : o.dst = some d) (hq : WPL ro P B n ops.toArray [o] fr H (QOne (some d) fr fun v' H' => v' = v ∧ Ent H' H))
    (k : DW ro P B n ops Q C ((i, fun G => WPL ro P B n ops.toArray [o] fr G (QOne (some d) fr fun v' H' => v' = v ∧ Ent H' G)) :: pend) (fr.put d v) H) : DW ro P B n ops Q (.look i C) pend fr H := by
  refine ⟨o, v, ho, ?_, ?_⟩
  · rw [hd]; exact hq
  · rw [hd]; exact k
theorem dw_pure (ho : ops[i]? = some o) (hd : o.dst = some d) (hq : ∀ G, WPL ro P B n ops.toArray [o] fr G (QOne (some d) fr fun v' H' => v' = v ∧ Ent H' G))
    (k : DW ro P B n ops Q C pend (fr.put d v) H) : DW ro P B n ops Q (.look i C) pend fr H := by
  refine dw_look ho hd (hq H) (DW.more C k fun p hp => ?_)
  rcases List.mem_cons.1 hp with rfl | hp
  · exact .inr hq
  · exact .inl hp
/-- Something acts: what follows is told behind it. -/
theorem dw_do (ho : ops[i]? = some o) (hd : o.dst = some d) (h : WPL ro P B n ops.toArray [o] fr H (QOne (some d) fr fun v G => Stays ops i pend G ∧ DW ro P B n ops Q C pend (fr.put d v) G))
    (k' : DW ro P B n ops Q other pend fr H) : DW ro P B n ops Q (.act i C other) pend fr H := by
  have hK : ∀ (v : Value) (H' : HProp), (Stays ops i pend H' ∧ DW ro P B n ops Q C pend (fr.put d v) H') → (∀ p ∈ pend, (ancL ops i i []).contains p.1 = false → p.2 H') ∧ DW ro P B n ops Q C pend (fr.putO o.dst v) H' := by
    intro v H' h; rw [hd]; exact ⟨Stays.all h.1, h.2⟩
  exact ⟨⟨o, fun v G => Stays ops i pend G ∧ DW ro P B n ops Q C pend (fr.put d v) G, ho, by rw [hd]; exact h, hK⟩, k'⟩
theorem dw_do0 (ho : ops[i]? = some o) (hd : o.dst = none) (h : WPL ro P B n ops.toArray [o] fr H (QOne none fr fun _ G => Stays ops i pend G ∧ DW ro P B n ops Q C pend fr G))
    (k' : DW ro P B n ops Q other pend fr H) : DW ro P B n ops Q (.act i C other) pend fr H := by
  have hK : ∀ (v : Value) (H' : HProp), (Stays ops i pend H' ∧ DW ro P B n ops Q C pend fr H') → (∀ p ∈ pend, (ancL ops i i []).contains p.1 = false → p.2 H') ∧ DW ro P B n ops Q C pend (fr.putO o.dst v) H' := by
    intro v H' h; rw [hd]; exact ⟨Stays.all h.1, h.2⟩
  exact ⟨⟨o, fun _ G => Stays ops i pend G ∧ DW ro P B n ops Q C pend fr G, ho, by rw [hd]; exact h, hK⟩, k'⟩
theorem dw_stop : DW ro P B n ops Q .stop pend fr H := trivial
theorem qone_q : QOne (some d) fr (fun v' H' => v' = v ∧ Ent H' H) .normal (fr.put d v) H := ⟨rfl, v, rfl, rfl, Ent.refl H⟩
theorem qone {K : Value → HProp → Prop} (h : K v H) : QOne (some d) fr K .normal (fr.put d v) H := ⟨rfl, v, rfl, h⟩
theorem qone0 {K : HProp → Prop} (h : K H) : QOne none fr (fun _ => K) .normal fr H := ⟨rfl, undef, rfl, h⟩
end
end Go.SL
set_option linter.unusedSimpArgs false
set_option linter.unusedVariables false
namespace Go.SL
open Go Go.RowKit
section
variable {ro : Option Nat} {P : Program} {B : World} {n : Nat} {fr : Fr} {H : HProp} {Q : Post}
theorem wp_cut_here {α : Type} {x y : Code} (M : List Nat) (S : α → List (Nat × Value)) (G : α → HProp) (ok : α → Prop)
    (h : WP ro P B n x fr H (QSeq (fun fr' H' => ∃ z, Aside M fr' fr ∧ Agrees fr' (S z) ∧ Ent H' (G z) ∧ ok z) Q))
    (k : ∀ z g, ok z → WP ro P B n y (putAll (fr.havoc M g) (S z)) (G z) Q) : WP ro P B n x fr H (QSeq (fun fr H => WP ro P B n y fr H Q) Q) := by
  refine h.mono ?_
  intro e f K q
  cases e with
  | normal =>
    obtain ⟨z, ho, ha, he, hz⟩ := q
    refine WP.ent he ?_
    have e : f = putAll (fr.havoc M f) (S z) := by
      rw [← ho.self]
      exact (putAll_self f _ ha).symm
    have := k z f hz
    rwa [← e] at this
  | _ => exact q
end
end Go.SL
set_option linter.unusedSimpArgs false
set_option linter.unusedVariables false
namespace Go.SL
open Go Go.RowKit
section
variable {ro : Option Nat} {P : Program} {B : World} {n : Nat} {ops : Array Oper} {l : List Oper} {c : Code} {fr : Fr} {H A F : HProp} {Q : Post} {f : FuncId} {args : List Value} {R : Value → HProp → Prop}

theorem WPL.split (A : HProp) {F : HProp} [s : Split H A F] (h : WPL ro P B n ops l fr (A + F) Q) : WPL ro P B n ops l fr H Q := by rw [s.eq]; exact h
theorem WP.split (A : HProp) {F : HProp} [s : Split H A F] (h : WP ro P B n c fr (A + F) Q) : WP ro P B n c fr H Q := by rw [s.eq]; exact h
theorem Does.split (A : HProp) {F : HProp} [s : Split H A F] (h : Does P B f args (A + F) R) : Does P B f args H R := by rw [s.eq]; exact h

theorem WPL.ex {α : Type} {G : α → HProp} (h : ∀ x, WPL ro P B n ops l fr (G x + F) Q) : WPL ro P B n ops l fr (ex G + F) Q := by
  rw [ex_add]; exact fun a w hm hh => let ⟨x, hx⟩ := hh.ex_out; h x a w hm hx
theorem WP.ex {α : Type} {G : α → HProp} (h : ∀ x, WP ro P B n c fr (G x + F) Q) : WP ro P B n c fr (ex G + F) Q := by
  rw [ex_add]; exact fun a w hm hh => let ⟨x, hx⟩ := hh.ex_out; h x a w hm hx
theorem Does.ex {α : Type} {G : α → HProp} (h : ∀ x, Does P B f args (G x + F) R) : Does P B f args (ex G + F) R := by
  rw [ex_add]; exact fun w hh => let ⟨x, hx⟩ := hh.ex_out; h x w hx
theorem WPL.fact {p : Prop} (h : p → WPL ro P B n ops l fr (A + F) Q) : WPL ro P B n ops l fr (fact p A + F) Q := by
  rw [fact_add]; exact fun a w hm hh => let ⟨x, hx⟩ := hh.fact_out; h x a w hm hx
theorem WP.fact {p : Prop} (h : p → WP ro P B n c fr (A + F) Q) : WP ro P B n c fr (fact p A + F) Q := by
  rw [fact_add]; exact fun a w hm hh => let ⟨x, hx⟩ := hh.fact_out; h x a w hm hx
theorem Does.fact {p : Prop} (h : p → Does P B f args (A + F) R) : Does P B f args (fact p A + F) R := by
  rw [fact_add]; exact fun w hh => let ⟨x, hx⟩ := hh.fact_out; h x w hx

theorem Does.under (h : ∀ w, Holds B H w → ∃ G, Holds B G w ∧ Does P B f args G R) : Does P B f args H R := fun w hw => let ⟨_, h1, h2⟩ := h w hw; h2 w h1
theorem WPL.under (h : ∀ w, Holds B H w → ∃ G, Holds B G w ∧ WPL ro P B n ops l fr G Q) : WPL ro P B n ops l fr H Q := fun a w hm hw => let ⟨_, h1, h2⟩ := h w hw; h2 a w hm h1
theorem WP.under (h : ∀ w, Holds B H w → ∃ G, Holds B G w ∧ WP ro P B n c fr G Q) : WP ro P B n c fr H Q := fun a w hm hw => let ⟨_, h1, h2⟩ := h w hw; h2 a w hm h1
/-- What the shape of a slice of one's own is. -/
theorem Mine.shape {e : TypeId} {sz k : Nat} {v : Value} {cs : List Value} {w : World} (h : Holds B (Mine e sz v k cs + F) w) : ∃ ao cap, v = .slice ao k cap ∧ cs.length = k * sz ∧ k ≤ cap ∧ cap ≤ maxLen := by
  obtain ⟨hl, ⟨rfl, rfl, _⟩ | ⟨g, cap, sp, rfl, h1, h2, _, _⟩⟩ := Mine.open h
  · exact ⟨none, 0, rfl, hl, Nat.le_refl _, Nat.zero_le _⟩
  · exact ⟨_, cap, rfl, hl, h1, h2⟩
theorem WPL.shape {e : TypeId} {sz k : Nat} {v : Value} {cs : List Value} (h : ∀ ao cap, v = .slice ao k cap → cs.length = k * sz → k ≤ cap → cap ≤ maxLen → WPL ro P B n ops l fr (Mine e sz v k cs + F) Q) : WPL ro P B n ops l fr (Mine e sz v k cs + F) Q :=
  fun a w hm hh => let ⟨ao, cap, h1, h2, h3, h4⟩ := Mine.shape hh; h ao cap h1 h2 h3 h4 a w hm hh
theorem WP.shape {e : TypeId} {sz k : Nat} {v : Value} {cs : List Value} (h : ∀ ao cap, v = .slice ao k cap → cs.length = k * sz → k ≤ cap → cap ≤ maxLen → WP ro P B n c fr (Mine e sz v k cs + F) Q) : WP ro P B n c fr (Mine e sz v k cs + F) Q :=
  fun a w hm hh => let ⟨ao, cap, h1, h2, h3, h4⟩ := Mine.shape hh; h ao cap h1 h2 h3 h4 a w hm hh
theorem Does.shape {e : TypeId} {sz k : Nat} {v : Value} {cs : List Value} (h : ∀ ao cap, v = .slice ao k cap → cs.length = k * sz → k ≤ cap → cap ≤ maxLen → Does P B f args (Mine e sz v k cs + F) R) : Does P B f args (Mine e sz v k cs + F) R :=
  fun w hh => let ⟨ao, cap, h1, h2, h3, h4⟩ := Mine.shape hh; h ao cap h1 h2 h3 h4 w hh
/-- A slice of one's own that is not empty, laid open. -/
theorem Mine.some {e : TypeId} {sz k cap : Nat} {ao : Option Addr} {cs : List Value} {w : World} (hk : 0 < k) (h : Holds B (Mine e sz (.slice ao k cap) k cs + F) w) :
    ∃ g sp, ao = Option.some ⟨g, 0, none⟩ ∧ (cs ++ sp).length = cap * sz ∧ Holds B (blk g (cs ++ sp) e + F) w := by
  obtain ⟨hl, ⟨_, h0, _⟩ | ⟨g, cap', sp, hv, h1, h2, h3, h4⟩⟩ := Mine.open h
  · omega
  · cases hv; exact ⟨g, sp, rfl, h3, h4⟩
theorem WPL.open {e : TypeId} {sz k cap : Nat} {ao : Option Addr} {cs : List Value} (hk : 0 < k) (h : ∀ g sp, ao = some ⟨g, 0, none⟩ → (cs ++ sp).length = cap * sz → WPL ro P B n ops l fr (blk g (cs ++ sp) e + F) Q) :
    WPL ro P B n ops l fr (Mine e sz (.slice ao k cap) k cs + F) Q :=
  fun a w hm hh => let ⟨g, sp, h1, h2, h3⟩ := Mine.some hk hh; h g sp h1 h2 a w hm h3
theorem WP.open {e : TypeId} {sz k cap : Nat} {ao : Option Addr} {cs : List Value} (hk : 0 < k) (h : ∀ g sp, ao = some ⟨g, 0, none⟩ → (cs ++ sp).length = cap * sz → WP ro P B n c fr (blk g (cs ++ sp) e + F) Q) :
    WP ro P B n c fr (Mine e sz (.slice ao k cap) k cs + F) Q :=
  fun a w hm hh => let ⟨g, sp, h1, h2, h3⟩ := Mine.some hk hh; h g sp h1 h2 a w hm h3
theorem Does.open {e : TypeId} {sz k cap : Nat} {ao : Option Addr} {cs : List Value} (hk : 0 < k) (h : ∀ g sp, ao = some ⟨g, 0, none⟩ → (cs ++ sp).length = cap * sz → Does P B f args (blk g (cs ++ sp) e + F) R) :
    Does P B f args (Mine e sz (.slice ao k cap) k cs + F) R :=
  fun w hh => let ⟨g, sp, h1, h2, h3⟩ := Mine.some hk hh; h g sp h1 h2 w h3
/-- It can be read. -/
theorem WPL.rd {e : TypeId} {sz k : Nat} {v : Value} {cs : List Value} (h : Rd B (Mine e sz v k cs) sz v k cs → WPL ro P B n ops l fr (Mine e sz v k cs + F) Q) : WPL ro P B n ops l fr (Mine e sz v k cs + F) Q :=
  fun a w hm hh => h (Mine.rd ⟨w, hh.drop_right⟩) a w hm hh
theorem WP.rd {e : TypeId} {sz k : Nat} {v : Value} {cs : List Value} (h : Rd B (Mine e sz v k cs) sz v k cs → WP ro P B n c fr (Mine e sz v k cs + F) Q) : WP ro P B n c fr (Mine e sz v k cs + F) Q :=
  fun a w hm hh => h (Mine.rd ⟨w, hh.drop_right⟩) a w hm hh
theorem Does.rd {e : TypeId} {sz k : Nat} {v : Value} {cs : List Value} (h : Rd B (Mine e sz v k cs) sz v k cs → Does P B f args (Mine e sz v k cs + F) R) : Does P B f args (Mine e sz v k cs + F) R :=
  fun w hh => h (Mine.rd ⟨w, hh.drop_right⟩) w hh
/-- A part of a block, as a slice. -/
theorem Rd.blk {b o m cap sz : Nat} {cs vs : List Value} {e : TypeId} [i : HasBlk H b cs e F] (hl : vs.length = m * sz) (hm : m ≤ maxLen) (hv : ∀ j v, vs[j]? = some v → cs[o + j]? = some v) :
    Rd B H sz (.slice (some ⟨b, o, none⟩) m cap) m vs := ⟨_, cap, rfl, hl, hm, .inr ⟨b, o, rfl, Cells.blk hv⟩⟩
theorem Rd.blk0 {b m cap sz : Nat} {cs : List Value} {e : TypeId} [i : HasBlk H b cs e F] (hl : cs.length = m * sz) (hm : m ≤ maxLen) :
    Rd B H sz (.slice (some ⟨b, 0, none⟩) m cap) m cs := Rd.blk hl hm fun j v h => by rw [Nat.zero_add]; exact h
theorem Rd.blkPre {b m cap sz : Nat} {cs sp : List Value} {e : TypeId} [i : HasBlk H b (cs ++ sp) e F] (hl : cs.length = m * sz) (hm : m ≤ maxLen) :
    Rd B H sz (.slice (some ⟨b, 0, none⟩) m cap) m cs := Rd.blk hl hm fun j v h => by
  rw [Nat.zero_add, List.getElem?_append_left (by have := (List.getElem?_eq_some_iff.1 h).1; omega)]; exact h
theorem Ent.ac {G : HProp} (h : H = G) : Ent H G := Ent.of_eq h
theorem Ent.ex_in {α : Type} {G : α → HProp} (x : α) : Ent (G x) (SL.ex G) := fun h p => ⟨h, Hp.le_refl h, x, p⟩
/-- Closing: behind an atom that stands by itself. -/
theorem Ent.step {A A' F' : HProp} [s : Split H A F] (h : Ent A A') (k : Ent F F') : Ent H (A' + F') := by rw [s.eq]; exact h.add k
theorem Ent.drop [s : Split H A F] {G : HProp} (k : Ent F G) : Ent H G := by rw [s.eq]; exact (Ent.drop_left A F).trans k
end
end Go.SL
set_option linter.unusedSimpArgs false
set_option linter.unusedVariables false
namespace Go.SL
open Go Go.RowKit
section
variable {P : Program} {B : World} {fn : Func} {R : Value → HProp → Prop} {e : Exit} {fr : Fr} {H : HProp}

def rvSem (a : Array Value) : ResultVar → Sem Value
  | .tmp t => Pure.pure (a.getD t undef)
  | .cell s t => do loadVar t (← asAddr (a.getD s undef))
/-- What a result's variable holds. -/
def RV (P : Program) (B : World) (fr : Fr) (H : HProp) (r : ResultVar) (v : Value) : Prop :=
  ∀ (a : Array Value) (w : World), (∀ t, a.getD t undef = fr t) → Holds B H w → (rvSem a r).run P w = .ok v w
theorem rv_tmp {t : Nat} {v : Value} (h : fr t = v) : RV P B fr H (.tmp t) v := fun a w ha _ => by subst h; simp [rvSem, ha]
theorem rv_cell {s t b o : Nat} {v : Value} [i : Plain P t] (h : fr s = .pointer (some ⟨b, o, none⟩)) (hc : Cell B H b o v) : RV P B fr H (.cell s t) v := fun a w ha hw => by
  obtain ⟨inf, ds, hi, hu, _, hds⟩ := i.eq
  have hl := hc w hw
  have hagg : (isAgg t).run P w = .ok false w := by cases ds <;> first | exact hds.elim | simp [isAgg, run_underlying hu]
  simp [rvSem, ha, h, asAddr, loadVar, hagg, run_load, hl]
theorem rv_cellA {s t b o sz : Nat} {vs : List Value} [i : Aggr P t sz] (h : fr s = .pointer (some ⟨b, o, none⟩)) (hc : Cells B H b o vs) (hl : vs.length = sz) : RV P B fr H (.cell s t) (.agg vs.toArray) := fun a w ha hw => by
  obtain ⟨inf, ds, hi, hu, hs, hds⟩ := i.eq
  have hld := run_loadCells_list (P := P) w ⟨b, o, none⟩ vs (fun j v hv => by rw [addr_add]; exact hc w hw j v hv)
  have hagg : (isAgg t).run P w = .ok true w := by cases ds <;> first | exact hds.elim | simp [isAgg, run_underlying hu]
  rw [hl] at hld
  simp [rvSem, ha, h, asAddr, loadVar, hagg, sizeOf, typeInfo, hi, hs, hld]
theorem results_rv (a : Array Value) : results fn a = (do
    let vs ← fn.results.mapM (rvSem a)
    Pure.pure (if h : vs.size = 1 then vs[0] else .tuple vs)) := by
  unfold results
  congr 1
theorem retR1 {r : ResultVar} {v : Value} (he : e = .normal ∨ e = .ret) (hr : fn.results = #[r]) (h1 : RV P B fr H r v) (h : R v H) (hds : fr.ds = [] := by rfl) : QRet P B fn R e fr H :=
  ⟨he, v, H, H, by rw [hds]; unfold marks; rw [HProp.emp_add]; exact Ent.refl _, fun a w ha hw => by rw [results_rv, hr]; simp [Array.mapM_eq_mapM_toList, h1 a w ha hw], Ent.refl _, h⟩
theorem retR2 {r s : ResultVar} {v u : Value} (he : e = .normal ∨ e = .ret) (hr : fn.results = #[r, s]) (h1 : RV P B fr H r v) (h2 : RV P B fr H s u) (h : R (.tuple #[v, u]) H) (hds : fr.ds = [] := by rfl) : QRet P B fn R e fr H :=
  ⟨he, _, H, H, by rw [hds]; unfold marks; rw [HProp.emp_add]; exact Ent.refl _, fun a w ha hw => by rw [results_rv, hr]; simp [Array.mapM_eq_mapM_toList, h1 a w ha hw, h2 a w ha hw], Ent.refl _, h⟩
theorem retR3 {r s t : ResultVar} {v u x : Value} (he : e = .normal ∨ e = .ret) (hr : fn.results = #[r, s, t]) (h1 : RV P B fr H r v) (h2 : RV P B fr H s u) (h3 : RV P B fr H t x) (h : R (.tuple #[v, u, x]) H) (hds : fr.ds = [] := by rfl) : QRet P B fn R e fr H :=
  ⟨he, _, H, H, by rw [hds]; unfold marks; rw [HProp.emp_add]; exact Ent.refl _, fun a w ha hw => by rw [results_rv, hr]; simp [Array.mapM_eq_mapM_toList, h1 a w ha hw, h2 a w ha hw, h3 a w ha hw], Ent.refl _, h⟩
end
section
variable {ro : Option Nat} {P : Program} {B : World} {n : Nat} {ops : Array Oper} {rest : List Oper} {fr : Fr} {H : HProp} {Q : Post}
variable {d : Nat} {ty : TypeId} {pos : String} {after : Array Edge}
/-- An element of an array as a value. -/
theorem s_indexV {t e : TypeId} {alen j : Nat} {x ix : Operand} {cs : List Value} {kd : IntKind} {p : Int} {v : Value} [i : ArrayOf P t alen e 1] [pl : Plain P e]
    (hx : ev fr x = .agg cs.toArray) (hix : ev fr ix = .int kd p) (hp : p = (j : Int)) (hlt : j < alen) (hv : cs[j]? = some v) (hd : Nat.blt d n = true)
    (k : WPL ro P B n ops rest (fr.put d v) H Q) : WPL ro P B n ops (⟨some d, .index t x ix, ty, pos, after, none⟩ :: rest) fr H Q := step_pure hd (fun w => by
    obtain ⟨hu, inf, hi, hs⟩ := i.eq
    obtain ⟨inf', ds, hi', hu', _, hds⟩ := pl.eq
    have : execOp (ev fr) ⟨some d, .index t x ix, ty, pos, after, none⟩ = (do Pure.pure (Next.value (← Instr.index t (ev fr x) (ev fr ix)))) := rfl
    subst hp
    have hagg : (isAgg e).run P w = .ok false w := by cases ds <;> first | exact hds.elim | simp [isAgg, run_underlying hu']
    rw [this, hx, hix]
    simp [Instr.index, run_underlying hu, asIntOf, hlt, sizeOf, typeInfo, hi, hs, part, hagg, hv]) k
end
end Go.SL
set_option linter.unusedSimpArgs false
set_option linter.unusedVariables false
namespace Go.SL
open Go Go.RowKit
/-- A struct whose cells are whole numbers, all of them compared. -/
class IntsEq (P : Program) (t : TypeId) (n : outParam Nat) : Prop where
  eq : ∀ w (xs ys : List Int), xs.length = n → ys.length = n → (Op.equalIn 10000 t (.agg (xs.map (.int .i64)).toArray) (.agg (ys.map (.int .i64)).toArray)).run P w = .ok (decide (xs = ys)) w
  guard : P.eqGuardType P.depth t = false
section
variable {ro : Option Nat} {P : Program} {B : World} {n : Nat} {ops : Array Oper} {rest : List Oper} {fr : Fr} {H : HProp} {Q : Post}
variable {d : Nat} {ty : TypeId} {pos : String} {after : Array Edge}
theorem s_neqS {t yt : TypeId} {m : Nat} {x y : Operand} {xs ys : List Int} {b : Bool} [i : IntsEq P t m] (hx : ev fr x = .agg (xs.map (.int .i64)).toArray) (hy : ev fr y = .agg (ys.map (.int .i64)).toArray)
    (h1 : xs.length = m) (h2 : ys.length = m) (hr : decide (xs = ys) = !b) (hd : Nat.blt d n = true)
    (k : WPL ro P B n ops rest (fr.put d (.bool b)) H Q) : WPL ro P B n ops (⟨some d, .binOp .neq t x y yt, ty, pos, after, none⟩ :: rest) fr H Q := step_pure hd (fun w => by
    have : execOp (ev fr) ⟨some d, .binOp .neq t x y yt, ty, pos, after, none⟩ = (do Pure.pure (Next.value (← (do eqGuard .neq t x y (ev fr x) (ev fr y); binOp .neq t (ev fr x) (ev fr y))))) := rfl
    rw [this, hx, hy]
    simp [run_eqGuard_agg w .neq t x y _ _ i.guard, run_neq_struct, i.eq w xs ys h1 h2, hr]) k
end
end Go.SL
set_option linter.unusedSimpArgs false
set_option linter.unusedVariables false
namespace Go.SL
open Go Go.RowKit
section
variable {ro : Option Nat} {P : Program} {B : World} {n : Nat} {ops : Array Oper} {rest : List Oper} {fr : Fr} {H : HProp} {Q : Post}
variable {d : Nat} {ty : TypeId} {pos : String} {after : Array Edge}
theorem s_remP {t yt : TypeId} {x y : Operand} {kd : IntKind} {p q : Int} (hx : ev fr x = .int kd p) (hy : ev fr y = .int kd q) (hp : 0 ≤ p ∧ 0 < q)
    (hd : Nat.blt d n = true) (k : WPL ro P B n ops rest (fr.put d (.int kd (p % q))) H Q) :
    WPL ro P B n ops (⟨some d, .binOp .rem t x y yt, ty, pos, after, none⟩ :: rest) fr H Q :=
  s_rem hx hy (by omega) (Int.tmod_eq_emod_of_nonneg hp.1) hd k
theorem s_quoP {t yt : TypeId} {x y : Operand} {p q : Int} (hx : ev fr x = .int .i64 p) (hy : ev fr y = .int .i64 q) (hp : 0 ≤ p ∧ p ≤ 9223372036854775807 ∧ 0 < q)
    (hd : Nat.blt d n = true) (k : WPL ro P B n ops rest (fr.put d (.int .i64 (p / q))) H Q) :
    WPL ro P B n ops (⟨some d, .binOp .quo t x y yt, ty, pos, after, none⟩ :: rest) fr H Q := by
  refine s_quo hx hy (by omega) ?_ hd k
  rw [Int.tdiv_eq_ediv_of_nonneg hp.1]
  have h1 : 0 ≤ p / q := Int.ediv_nonneg hp.1 (by omega)
  have h2 : p / q ≤ p := Int.ediv_le_self q hp.1
  exact IntWalk.i64_in _ (by omega)
end
end Go.SL
set_option linter.unusedSimpArgs false
set_option linter.unusedVariables false
namespace Go.SL
open Go Go.RowKit
theorem wrapU8 (n : Int) : IntKind.u8.wrap n = n % 256 := by simp [IntKind.wrap, IntKind.bits, IntKind.signed]
theorem wrapU32 (n : Int) : IntKind.u32.wrap n = n % 4294967296 := by simp [IntKind.wrap, IntKind.bits, IntKind.signed]
theorem wrapU64 (n : Int) : IntKind.u64.wrap n = n % 18446744073709551616 := by simp [IntKind.wrap, IntKind.bits, IntKind.signed]
theorem wrapI32 (n : Int) (h : -2147483648 ≤ n ∧ n ≤ 2147483647) : IntKind.i32.wrap n = n := by
  simp [IntKind.wrap, IntKind.bits, IntKind.signed]; omega
theorem intU8 {n : Int} (h : 0 ≤ n ∧ n < 256) : IntKind.u8.wrap n = n := by rw [wrapU8]; omega
theorem intU32 {n : Int} (h : 0 ≤ n ∧ n < 4294967296) : IntKind.u32.wrap n = n := by rw [wrapU32]; omega
theorem intU64 {n : Int} (h : 0 ≤ n ∧ n < 18446744073709551616) : IntKind.u64.wrap n = n := by rw [wrapU64]; omega
theorem intI64 {n : Int} (h : -9223372036854775808 ≤ n ∧ n ≤ 9223372036854775807) : IntKind.i64.wrap n = n := IntWalk.i64_in _ h
theorem intI32 {n : Int} (h : -2147483648 ≤ n ∧ n ≤ 2147483647) : IntKind.i32.wrap n = n := wrapI32 n h

/-- A type of whole numbers. -/
class IntTy (P : Program) (t : TypeId) (k : outParam IntKind) : Prop where
  eq : P.underlying t = some (.int k)
section
variable {ro : Option Nat} {P : Program} {B : World} {n : Nat} {ops : Array Oper} {rest : List Oper} {fr : Fr} {H : HProp} {Q : Post}
variable {d : Nat} {ty : TypeId} {pos : String} {after : Array Edge}
/-- A whole number of another kind. -/
theorem s_conv {t u : TypeId} {x : Operand} {k kd : IntKind} {p r : Int} [i : IntTy P t k] [j : IntTy P u kd] (hx : ev fr x = .int k p) (hr : kd.wrap p = r) (hd : Nat.blt d n = true)
    (k' : WPL ro P B n ops rest (fr.put d (.int kd r)) H Q) : WPL ro P B n ops (⟨some d, .convert t u x, ty, pos, after, none⟩ :: rest) fr H Q := step_pure hd (fun w => by
    have : execOp (ev fr) ⟨some d, .convert t u x, ty, pos, after, none⟩ = (do Pure.pure (Next.value (← convert t u (ev fr x)))) := rfl
    have e : P.intKind u = kd := by unfold Program.intKind; simp [j.eq]
    have h := run_convert_int (P := P) w t u k p (by rw [i.eq]; rfl) (by rw [j.eq, e])
    rw [e, hr] at h
    rw [this, hx]
    simp [h]) k'
theorem s_shl {t yt : TypeId} {x y : Operand} {kd yk : IntKind} {p q r : Int} (hx : ev fr x = .int kd p) (hy : ev fr y = .int yk q) (hq : 0 ≤ q) (hr : kd.wrap (p * 2 ^ (min q.toNat kd.bits)) = r)
    (hd : Nat.blt d n = true) (k : WPL ro P B n ops rest (fr.put d (.int kd r)) H Q) :
    WPL ro P B n ops (⟨some d, .binOp .shl t x y yt, ty, pos, after, none⟩ :: rest) fr H Q :=
  step_pure hd (fun w => by
    have : execOp (ev fr) ⟨some d, .binOp .shl t x y yt, ty, pos, after, none⟩ = (do Pure.pure (Next.value (← (do eqGuard .shl t x y (ev fr x) (ev fr y); binOp .shl t (ev fr x) (ev fr y))))) := rfl
    rw [this, hx, hy]
    subst hr
    have h0 : ¬ q < 0 := by omega
    simp [eqGuard_at_int, binOp_shl, Op.shift, h0]) k
/-- Bits of numbers that are not below 0, and fit. -/
theorem bits_nat {kd : IntKind} {p : Int} (hp : 0 ≤ p ∧ p < 2 ^ kd.bits) : (BitVec.ofInt kd.bits p).toNat = p.toNat := by
  rw [BitVec.toNat_ofInt]
  congr 1
  exact Int.emod_eq_of_lt hp.1 (by exact_mod_cast hp.2)
theorem s_and {t yt : TypeId} {x y : Operand} {kd : IntKind} {p q : Int} {r : Nat} (hx : ev fr x = .int kd p) (hy : ev fr y = .int kd q) (hp : 0 ≤ p ∧ p < 2 ^ kd.bits) (hq : 0 ≤ q ∧ q < 2 ^ kd.bits) (hr : p.toNat &&& q.toNat = r) (hw : kd.wrap r = r)
    (hd : Nat.blt d n = true) (k : WPL ro P B n ops rest (fr.put d (.int kd (r : Int))) H Q) :
    WPL ro P B n ops (⟨some d, .binOp .and t x y yt, ty, pos, after, none⟩ :: rest) fr H Q :=
  s_bin hx hy (fun w => by
    subst hr
    simp only [binOp_and, Op.intBits, BitVec.toNat_and, bits_nat hp, bits_nat hq]
    simp only [Sem.run_pure, hw]) hd k
/-- A function's value; a call of it. -/
theorem s_makeFunc {fn : Fn} {first cap : List Operand} {vs us : List Value} (hf : first.map (ev fr) = vs) (hc : cap.map (ev fr) = us) (hd : Nat.blt d n = true)
    (k : WPL ro P B n ops rest (fr.put d (.func fn vs.toArray us.toArray)) H Q) : WPL ro P B n ops (⟨some d, .makeFunc fn first.toArray cap.toArray, ty, pos, after, none⟩ :: rest) fr H Q :=
  step_pure hd (fun w => by
    subst hf hc
    have e : (Instr.makeFunc fn (first.map (ev fr)).toArray (cap.map (ev fr)).toArray).run P w = .ok (.func fn (first.map (ev fr)).toArray (cap.map (ev fr)).toArray) w := rfl
    simp [execOp, e]) k
theorem s_callV {x : Operand} {f : FuncId} {first cap : List Value} {args : List Operand} {tys : Array TypeId} {vs : List Value} {R : Value → HProp → Prop} [c : Callable P f] (hx : ev fr x = .func (.func f) first.toArray cap.toArray) (hargs : args.map (ev fr) = vs)
    (h : Does P B f (first ++ vs ++ cap) H R) (hd : Nat.blt d n = true) (k : ∀ v H', R v H' → WPL ro P B n ops rest (fr.put d v) H' Q) :
    WPL ro P B n ops (⟨some d, .call ⟨.value x, args.toArray, tys⟩, ty, pos, after, none⟩ :: rest) fr H Q := by
  intro a w hm hh
  obtain ⟨fn, cd, hf, hn, hb⟩ := c.eq
  unfold wpListIn
  rw [if_pos (by simp [Region.wanted])]
  refine ⟨fun f _ => trivial, ?_⟩
  rw [hm.eval]
  have hrun : (execOp (ev fr) ⟨some d, .call ⟨.value x, args.toArray, tys⟩, ty, pos, after, none⟩).run P w = .ok (.enter f (first ++ vs ++ cap).toArray) w := by
    subst hargs
    have hn' : fn.name ≠ "runtime.NumGoroutine" := by simpa using hn
    simp [execOp, resolve, hx, Deferred.ofValue, invoke, callFunc, hf, hn', hb]
  rw [semAt_of hrun (by simp), Oper.uponIn_enter]
  refine ⟨by simp [FW, Fence.wide], FW_calls.2 ((h w hh).mono ?_)⟩
  rintro e w' ⟨v, H', rfl, hh', hR⟩
  exact k v H' hR _ _ (hm.put (by simpa [Nat.blt_eq] using hd) v)  hh'
end
end Go.SL
set_option linter.unusedSimpArgs false
set_option linter.unusedVariables false
namespace Go.SL
open Go Go.RowKit
/-- Whole numbers, as they lie in memory. -/
def zs (l : List Int) : List Value := l.map (.int .i64)
theorem zs_length (l : List Int) : (zs l).length = l.length := by simp [zs]
theorem zs_get (l : List Int) (k : Nat) (h : k < l.length) : (zs l)[k]? = some (.int .i64 l[k]) := by simp [zs, h]
theorem zs_one (l : List Int) : (zs l).all Value.oneCell' = true := by simp [zs, Value.oneCell']
theorem zs_push (l : List Int) (x : Int) : zs (l ++ [x]) = zs l ++ [.int .i64 x] := by simp [zs]
theorem len_push {α : Type} (l : List α) (x : α) : (l ++ [x]).length = l.length + 1 := by simp
theorem zs_set (l : List Int) (k : Nat) (x : Int) : (zs l).set k (.int .i64 x) = zs (l.set k x) := by simp [zs, List.map_set]
section
variable {B : World} {H G F : HProp} {b o k : Nat} {l : List Int} {sp : List Value} {e : TypeId}
theorem Cell.atZs [i : HasBlk H b (zs l) e F] (h : k < l.length) : Cell B H b k (.int .i64 l[k]) := Cell.blk (zs_get l k h)
theorem Cell.atZsA [i : HasBlk H b (zs l ++ sp) e F] (h : k < l.length) : Cell B H b k (.int .i64 l[k]) :=
  Cell.blk (by rw [List.getElem?_append_left (by rw [zs_length]; exact h)]; exact zs_get l k h)
theorem Cells.atZs (c : Cells B G b o (zs l)) (h : k < l.length) (e : Ent H G) : Cell B H b (o + k) (.int .i64 l[k]) := (c.cell (zs_get l k h)).ent e
end
end Go.SL
set_option linter.unusedSimpArgs false
set_option linter.unusedVariables false
namespace Go.SL
open Go Go.RowKit
set_option maxRecDepth 10000
/-- What is still owed. -/
structure Owed (q : Prop) : Prop where
  get : q
theorem walk {p q : Prop} (k : q) (h : Owed q → p := by
  intro k_
  (repeat (first | (show WPL _ _ _ _ _ (⟨_, .move _, _, _, _, none⟩ :: _) _ _ _; first | refine s_move (v := .int _ _) rfl rfl ?_ | refine s_move (v := .pointer _) rfl rfl ?_ | refine s_move (v := .slice _ _ _) rfl rfl ?_ | refine s_move (v := .bool _) rfl rfl ?_ | refine s_move (v := .agg _) rfl rfl ?_ | refine s_move (v := .string _) rfl rfl ?_ | refine s_move (v := .tuple _) rfl rfl ?_ | refine s_move (v := .map _) rfl rfl ?_ | refine s_move (v := .nilIface) rfl rfl ?_ | refine s_move (v := .iface _ _) rfl rfl ?_ | refine s_move (v := .func _ _ _) rfl rfl ?_ | refine s_move (v := .float _ _) rfl rfl ?_ | refine s_move rfl rfl ?_) | (show WPL _ _ _ _ _ (⟨_, .assign _, _, _, _, none⟩ :: _) _ _ _; first | refine s_assign (v := .int _ _) rfl rfl ?_ | refine s_assign (v := .pointer _) rfl rfl ?_ | refine s_assign (v := .slice _ _ _) rfl rfl ?_ | refine s_assign (v := .bool _) rfl rfl ?_ | refine s_assign (v := .agg _) rfl rfl ?_ | refine s_assign (v := .string _) rfl rfl ?_ | refine s_assign (v := .tuple _) rfl rfl ?_ | refine s_assign (v := .map _) rfl rfl ?_ | refine s_assign (v := .nilIface) rfl rfl ?_ | refine s_assign (v := .iface _ _) rfl rfl ?_ | refine s_assign (v := .func _ _ _) rfl rfl ?_ | refine s_assign (v := .float _ _) rfl rfl ?_ | refine s_assign rfl rfl ?_) | (show WPL _ _ _ _ _ (⟨_, .load _ _, _, _, _, none⟩ :: _) _ _ _; first | refine s_load (v := .int _ _) rfl (Cell.blk rfl) rfl ?_ | refine s_load (v := .pointer _) rfl (Cell.blk rfl) rfl ?_ | refine s_load (v := .slice _ _ _) rfl (Cell.blk rfl) rfl ?_ | refine s_load (v := .bool _) rfl (Cell.blk rfl) rfl ?_ | refine s_load (v := .agg _) rfl (Cell.blk rfl) rfl ?_ | refine s_load (v := .string _) rfl (Cell.blk rfl) rfl ?_ | refine s_load (v := .tuple _) rfl (Cell.blk rfl) rfl ?_ | refine s_load (v := .map _) rfl (Cell.blk rfl) rfl ?_ | refine s_load (v := .nilIface) rfl (Cell.blk rfl) rfl ?_ | refine s_load (v := .iface _ _) rfl (Cell.blk rfl) rfl ?_ | refine s_load (v := .func _ _ _) rfl (Cell.blk rfl) rfl ?_ | refine s_load (v := .float _ _) rfl (Cell.blk rfl) rfl ?_ | (apply s_load; (· exact rfl); (· assumption); (· exact rfl)) | (apply s_load; (· exact rfl); (· (apply Cell.ent; (· assumption); (· exact InH.ent))); (· exact rfl)) | (refine s_load rfl (Cell.atZs ?_) rfl ?_; · omega) | (refine s_load rfl (Cell.atZsA ?_) rfl ?_; · omega) | (apply s_load; (· exact rfl); (· (apply Cells.atZs; (· assumption); (· omega); (· exact InH.ent))); (· exact rfl)) | refine s_loadA rfl Cells.blk0 rfl rfl ?_ | (apply s_loadA; (· exact rfl); (· assumption); (· exact rfl); (· exact rfl)) | (apply s_loadA; (· exact rfl); (· (apply Cells.ent; (· assumption); (· exact InH.ent))); (· exact rfl); (· exact rfl))) | (show WPL _ _ _ _ _ (⟨_, .fieldAddr _ _ _, _, _, _, none⟩ :: _) _ _ _; first | refine s_fieldAddr0 rfl rfl ?_ | refine s_fieldAddr rfl rfl rfl ?_) | (show WPL _ _ _ _ _ (⟨_, .nilCheck _, _, _, _, none⟩ :: _) _ _ _; first | refine s_nilCheck rfl rfl ?_) | (show WPL _ _ _ _ _ (⟨_, .indexAddr _ _ _, _, _, _, none⟩ :: _) _ _ _; first | (refine s_indexAddr0 rfl rfl ?_ rfl ?_; · omega) | (refine s_indexAddr1 rfl rfl ?_ rfl ?_; · omega) | (refine s_indexAddr rfl rfl rfl ?_ rfl rfl ?_; · omega)) | (show WPL _ _ _ _ _ (⟨_, .call _, _, _, _, none⟩ :: _) _ _ _; first | refine s_len rfl rfl ?_) | (show WPL _ _ _ _ _ (⟨_, .binOp .add _ _ _ _, _, _, _, none⟩ :: _) _ _ _; first | (refine s_add rfl rfl rfl ?_ rfl ?_; · omega) | (refine s_addw rfl rfl (intU32 ?_) rfl ?_; · omega) | (refine s_addw rfl rfl (intU64 ?_) rfl ?_; · omega) | (refine s_addw rfl rfl (intU8 ?_) rfl ?_; · omega) | (refine s_addw rfl rfl (intI32 ?_) rfl ?_; · omega) | refine s_addw rfl rfl (wrapU32 _) rfl ?_ | refine s_addw rfl rfl (wrapU64 _) rfl ?_ | refine s_addw rfl rfl (wrapU8 _) rfl ?_) | (show WPL _ _ _ _ _ (⟨_, .binOp .mul _ _ _ _, _, _, _, none⟩ :: _) _ _ _; first | (refine s_mul rfl rfl rfl ?_ rfl ?_; · omega) | (refine s_mulw rfl rfl (intU32 ?_) rfl ?_; · omega) | (refine s_mulw rfl rfl (intU64 ?_) rfl ?_; · omega) | (refine s_mulw rfl rfl (intU8 ?_) rfl ?_; · omega) | (refine s_mulw rfl rfl (intI32 ?_) rfl ?_; · omega) | refine s_mulw rfl rfl (wrapU32 _) rfl ?_ | refine s_mulw rfl rfl (wrapU64 _) rfl ?_ | refine s_mulw rfl rfl (wrapU8 _) rfl ?_) | (show WPL _ _ _ _ _ (⟨_, .binOp .rem _ _ _ _, _, _, _, none⟩ :: _) _ _ _; first | (refine s_remP rfl rfl ?_ rfl ?_; · omega)) | (show WPL _ _ _ _ _ (⟨_, .binOp .quo _ _ _ _, _, _, _, none⟩ :: _) _ _ _; first | (refine s_quoP rfl rfl ?_ rfl ?_; · omega)) | (show WPL _ _ _ _ _ (⟨_, .binOp .sub _ _ _ _, _, _, _, none⟩ :: _) _ _ _; first | (refine s_sub rfl rfl rfl ?_ rfl ?_; · omega) | (refine s_subw rfl rfl (intU32 ?_) rfl ?_; · omega) | (refine s_subw rfl rfl (intU64 ?_) rfl ?_; · omega) | (refine s_subw rfl rfl (intU8 ?_) rfl ?_; · omega) | (refine s_subw rfl rfl (intI32 ?_) rfl ?_; · omega) | refine s_subw rfl rfl (wrapU32 _) rfl ?_ | refine s_subw rfl rfl (wrapU64 _) rfl ?_ | refine s_subw rfl rfl (wrapU8 _) rfl ?_) | (show WPL _ _ _ _ _ (⟨_, .binOp .lss _ _ _ _, _, _, _, none⟩ :: _) _ _ _; first | (refine s_lss_t rfl rfl ?_ rfl ?_; · omega) | (refine s_lss_f rfl rfl ?_ rfl ?_; · omega)) | (show WPL _ _ _ _ _ (⟨_, .binOp .eql _ _ _ _, _, _, _, none⟩ :: _) _ _ _; first | (refine s_eql_t rfl rfl ?_ rfl ?_; · omega) | (refine s_eql_f rfl rfl ?_ rfl ?_; · omega) | refine s_eqnil rfl rfl (b := true) rfl rfl ?_ | refine s_eqnil rfl rfl (b := false) rfl rfl ?_ | refine s_eqbool rfl rfl (b := true) rfl rfl ?_ | refine s_eqbool rfl rfl (b := false) rfl rfl ?_ | (refine s_eqbool rfl rfl (b := true) ?_ rfl ?_; · simp)) | (show WPL _ _ _ _ _ (⟨_, .binOp .neq _ _ _ _, _, _, _, none⟩ :: _) _ _ _; first | (refine s_neq_t rfl rfl ?_ rfl ?_; · omega) | (refine s_neq_f rfl rfl ?_ rfl ?_; · omega) | refine s_nenil rfl rfl (b := true) rfl rfl ?_ | refine s_nenil rfl rfl (b := false) rfl rfl ?_ | refine s_nebool rfl rfl (b := true) rfl rfl ?_ | refine s_nebool rfl rfl (b := false) rfl rfl ?_ | (refine s_nebool rfl rfl (b := false) ?_ rfl ?_; · simp) | (apply s_neqS (xs := [_, _]) (ys := [_, _]); (· exact rfl); (· exact rfl); (· exact rfl); (· exact rfl); (· assumption); (· exact rfl))) | (show WPL _ _ _ _ _ (⟨_, .binOp .geq _ _ _ _, _, _, _, none⟩ :: _) _ _ _; first | (refine s_geq_t rfl rfl ?_ rfl ?_; · omega) | (refine s_geq_f rfl rfl ?_ rfl ?_; · omega)) | (show WPL _ _ _ _ _ (⟨_, .binOp .leq _ _ _ _, _, _, _, none⟩ :: _) _ _ _; first | (refine s_leq_t rfl rfl ?_ rfl ?_; · omega) | (refine s_leq_f rfl rfl ?_ rfl ?_; · omega)) | (show WPL _ _ _ _ _ (⟨_, .binOp .gtr _ _ _ _, _, _, _, none⟩ :: _) _ _ _; first | (refine s_gtr_t rfl rfl ?_ rfl ?_; · omega) | (refine s_gtr_f rfl rfl ?_ rfl ?_; · omega)) | (show WPL _ _ _ _ _ (⟨_, .convert _ _ _, _, _, _, none⟩ :: _) _ _ _; first | (refine s_conv rfl (intI64 ?_) rfl ?_; · omega) | (refine s_conv rfl (intU32 ?_) rfl ?_; · omega) | (refine s_conv rfl (intU64 ?_) rfl ?_; · omega) | (refine s_conv rfl (intU8 ?_) rfl ?_; · omega) | (refine s_conv rfl (intI32 ?_) rfl ?_; · omega) | refine s_conv rfl (wrapU32 _) rfl ?_ | refine s_conv rfl (wrapU64 _) rfl ?_ | refine s_conv rfl (wrapU8 _) rfl ?_) | (show WPL _ _ _ _ _ (⟨_, .unOp .not _ _, _, _, _, none⟩ :: _) _ _ _; first | refine s_not (c := true) rfl rfl rfl ?_ | refine s_not (c := false) rfl rfl rfl ?_) | (show WPL _ _ _ _ _ (⟨_, .pick _ _ _, _, _, _, none⟩ :: _) _ _ _; first | refine s_pick_t (v := .int _ _) rfl rfl rfl ?_ | refine s_pick_f (v := .int _ _) rfl rfl rfl ?_ | refine s_pick_t (v := .pointer _) rfl rfl rfl ?_ | refine s_pick_f (v := .pointer _) rfl rfl rfl ?_ | refine s_pick_t (v := .slice _ _ _) rfl rfl rfl ?_ | refine s_pick_f (v := .slice _ _ _) rfl rfl rfl ?_ | refine s_pick_t (v := .bool _) rfl rfl rfl ?_ | refine s_pick_f (v := .bool _) rfl rfl rfl ?_ | refine s_pick_t (v := .agg _) rfl rfl rfl ?_ | refine s_pick_f (v := .agg _) rfl rfl rfl ?_ | refine s_pick_t (v := .string _) rfl rfl rfl ?_ | refine s_pick_f (v := .string _) rfl rfl rfl ?_ | refine s_pick_t (v := .tuple _) rfl rfl rfl ?_ | refine s_pick_f (v := .tuple _) rfl rfl rfl ?_ | refine s_pick_t (v := .map _) rfl rfl rfl ?_ | refine s_pick_f (v := .map _) rfl rfl rfl ?_ | refine s_pick_t (v := .nilIface) rfl rfl rfl ?_ | refine s_pick_f (v := .nilIface) rfl rfl rfl ?_ | refine s_pick_t (v := .iface _ _) rfl rfl rfl ?_ | refine s_pick_f (v := .iface _ _) rfl rfl rfl ?_ | refine s_pick_t (v := .func _ _ _) rfl rfl rfl ?_ | refine s_pick_f (v := .func _ _ _) rfl rfl rfl ?_ | refine s_pick_t (v := .float _ _) rfl rfl rfl ?_ | refine s_pick_f (v := .float _ _) rfl rfl rfl ?_) | (show WPL _ _ _ _ _ (⟨_, .extract _ _, _, _, _, none⟩ :: _) _ _ _; first | refine s_extract (v := .int _ _) rfl rfl rfl ?_ | refine s_extract (v := .pointer _) rfl rfl rfl ?_ | refine s_extract (v := .slice _ _ _) rfl rfl rfl ?_ | refine s_extract (v := .bool _) rfl rfl rfl ?_ | refine s_extract (v := .agg _) rfl rfl rfl ?_ | refine s_extract (v := .string _) rfl rfl rfl ?_ | refine s_extract (v := .tuple _) rfl rfl rfl ?_ | refine s_extract (v := .map _) rfl rfl rfl ?_ | refine s_extract (v := .nilIface) rfl rfl rfl ?_ | refine s_extract (v := .iface _ _) rfl rfl rfl ?_ | refine s_extract (v := .func _ _ _) rfl rfl rfl ?_ | refine s_extract (v := .float _ _) rfl rfl rfl ?_) | (show WPL _ _ _ _ _ (⟨_, _, _, _, _, some _⟩ :: _) _ _ _; first | refine step_wanted rfl rfl ?_ | refine step_unwanted rfl rfl rfl rfl ?_ | refine step_unwanted0 rfl rfl rfl ?_ | refine step_unwantedU rfl rfl rfl ?_ | refine step_unwantedU0 rfl rfl ?_) | refine wpl_nil_seq ?_ | refine wp_seq' ?_ | refine wp_region' ?_ | refine wp_block' ?_ | refine wp_cond_t rfl ?_ | refine wp_cond_f rfl ?_ | refine wp_skip' ?_ | refine q_seq ?_ | refine wp_ret' ?_ | refine wp_exit' ?_ | refine q_seq_ret ?_ | refine q_seq_exit ?_ | refine q_blk_ret ?_ | refine q_blk_here ?_ | refine q_blk_exit rfl ?_ | refine q_blk ?_ | refine wpl_nil ?_))
  exact k_.get) : p := h ⟨k⟩
theorem looked {p : Prop} (h : p := by
  (repeat (first | (show WPL _ _ _ _ _ (⟨_, .move _, _, _, _, none⟩ :: _) _ _ _; first | refine s_move (v := .int _ _) rfl rfl ?_ | refine s_move (v := .pointer _) rfl rfl ?_ | refine s_move (v := .slice _ _ _) rfl rfl ?_ | refine s_move (v := .bool _) rfl rfl ?_ | refine s_move (v := .agg _) rfl rfl ?_ | refine s_move (v := .string _) rfl rfl ?_ | refine s_move (v := .tuple _) rfl rfl ?_ | refine s_move (v := .map _) rfl rfl ?_ | refine s_move (v := .nilIface) rfl rfl ?_ | refine s_move (v := .iface _ _) rfl rfl ?_ | refine s_move (v := .func _ _ _) rfl rfl ?_ | refine s_move (v := .float _ _) rfl rfl ?_ | refine s_move rfl rfl ?_) | (show WPL _ _ _ _ _ (⟨_, .assign _, _, _, _, none⟩ :: _) _ _ _; first | refine s_assign (v := .int _ _) rfl rfl ?_ | refine s_assign (v := .pointer _) rfl rfl ?_ | refine s_assign (v := .slice _ _ _) rfl rfl ?_ | refine s_assign (v := .bool _) rfl rfl ?_ | refine s_assign (v := .agg _) rfl rfl ?_ | refine s_assign (v := .string _) rfl rfl ?_ | refine s_assign (v := .tuple _) rfl rfl ?_ | refine s_assign (v := .map _) rfl rfl ?_ | refine s_assign (v := .nilIface) rfl rfl ?_ | refine s_assign (v := .iface _ _) rfl rfl ?_ | refine s_assign (v := .func _ _ _) rfl rfl ?_ | refine s_assign (v := .float _ _) rfl rfl ?_ | refine s_assign rfl rfl ?_) | (show WPL _ _ _ _ _ (⟨_, .load _ _, _, _, _, none⟩ :: _) _ _ _; first | refine s_load (v := .int _ _) rfl (Cell.blk rfl) rfl ?_ | refine s_load (v := .pointer _) rfl (Cell.blk rfl) rfl ?_ | refine s_load (v := .slice _ _ _) rfl (Cell.blk rfl) rfl ?_ | refine s_load (v := .bool _) rfl (Cell.blk rfl) rfl ?_ | refine s_load (v := .agg _) rfl (Cell.blk rfl) rfl ?_ | refine s_load (v := .string _) rfl (Cell.blk rfl) rfl ?_ | refine s_load (v := .tuple _) rfl (Cell.blk rfl) rfl ?_ | refine s_load (v := .map _) rfl (Cell.blk rfl) rfl ?_ | refine s_load (v := .nilIface) rfl (Cell.blk rfl) rfl ?_ | refine s_load (v := .iface _ _) rfl (Cell.blk rfl) rfl ?_ | refine s_load (v := .func _ _ _) rfl (Cell.blk rfl) rfl ?_ | refine s_load (v := .float _ _) rfl (Cell.blk rfl) rfl ?_ | (apply s_load; (· exact rfl); (· assumption); (· exact rfl)) | (apply s_load; (· exact rfl); (· (apply Cell.ent; (· assumption); (· exact InH.ent))); (· exact rfl)) | (refine s_load rfl (Cell.atZs ?_) rfl ?_; · omega) | (refine s_load rfl (Cell.atZsA ?_) rfl ?_; · omega) | (apply s_load; (· exact rfl); (· (apply Cells.atZs; (· assumption); (· omega); (· exact InH.ent))); (· exact rfl)) | refine s_loadA rfl Cells.blk0 rfl rfl ?_ | (apply s_loadA; (· exact rfl); (· assumption); (· exact rfl); (· exact rfl)) | (apply s_loadA; (· exact rfl); (· (apply Cells.ent; (· assumption); (· exact InH.ent))); (· exact rfl); (· exact rfl))) | (show WPL _ _ _ _ _ (⟨_, .fieldAddr _ _ _, _, _, _, none⟩ :: _) _ _ _; first | refine s_fieldAddr0 rfl rfl ?_ | refine s_fieldAddr rfl rfl rfl ?_) | (show WPL _ _ _ _ _ (⟨_, .nilCheck _, _, _, _, none⟩ :: _) _ _ _; first | refine s_nilCheck rfl rfl ?_) | (show WPL _ _ _ _ _ (⟨_, .indexAddr _ _ _, _, _, _, none⟩ :: _) _ _ _; first | (refine s_indexAddr0 rfl rfl ?_ rfl ?_; · omega) | (refine s_indexAddr1 rfl rfl ?_ rfl ?_; · omega) | (refine s_indexAddr rfl rfl rfl ?_ rfl rfl ?_; · omega)) | (show WPL _ _ _ _ _ (⟨_, .call _, _, _, _, none⟩ :: _) _ _ _; first | refine s_len rfl rfl ?_) | (show WPL _ _ _ _ _ (⟨_, .binOp .add _ _ _ _, _, _, _, none⟩ :: _) _ _ _; first | (refine s_add rfl rfl rfl ?_ rfl ?_; · omega) | (refine s_addw rfl rfl (intU32 ?_) rfl ?_; · omega) | (refine s_addw rfl rfl (intU64 ?_) rfl ?_; · omega) | (refine s_addw rfl rfl (intU8 ?_) rfl ?_; · omega) | (refine s_addw rfl rfl (intI32 ?_) rfl ?_; · omega) | refine s_addw rfl rfl (wrapU32 _) rfl ?_ | refine s_addw rfl rfl (wrapU64 _) rfl ?_ | refine s_addw rfl rfl (wrapU8 _) rfl ?_) | (show WPL _ _ _ _ _ (⟨_, .binOp .mul _ _ _ _, _, _, _, none⟩ :: _) _ _ _; first | (refine s_mul rfl rfl rfl ?_ rfl ?_; · omega) | (refine s_mulw rfl rfl (intU32 ?_) rfl ?_; · omega) | (refine s_mulw rfl rfl (intU64 ?_) rfl ?_; · omega) | (refine s_mulw rfl rfl (intU8 ?_) rfl ?_; · omega) | (refine s_mulw rfl rfl (intI32 ?_) rfl ?_; · omega) | refine s_mulw rfl rfl (wrapU32 _) rfl ?_ | refine s_mulw rfl rfl (wrapU64 _) rfl ?_ | refine s_mulw rfl rfl (wrapU8 _) rfl ?_) | (show WPL _ _ _ _ _ (⟨_, .binOp .rem _ _ _ _, _, _, _, none⟩ :: _) _ _ _; first | (refine s_remP rfl rfl ?_ rfl ?_; · omega)) | (show WPL _ _ _ _ _ (⟨_, .binOp .quo _ _ _ _, _, _, _, none⟩ :: _) _ _ _; first | (refine s_quoP rfl rfl ?_ rfl ?_; · omega)) | (show WPL _ _ _ _ _ (⟨_, .binOp .sub _ _ _ _, _, _, _, none⟩ :: _) _ _ _; first | (refine s_sub rfl rfl rfl ?_ rfl ?_; · omega) | (refine s_subw rfl rfl (intU32 ?_) rfl ?_; · omega) | (refine s_subw rfl rfl (intU64 ?_) rfl ?_; · omega) | (refine s_subw rfl rfl (intU8 ?_) rfl ?_; · omega) | (refine s_subw rfl rfl (intI32 ?_) rfl ?_; · omega) | refine s_subw rfl rfl (wrapU32 _) rfl ?_ | refine s_subw rfl rfl (wrapU64 _) rfl ?_ | refine s_subw rfl rfl (wrapU8 _) rfl ?_) | (show WPL _ _ _ _ _ (⟨_, .binOp .lss _ _ _ _, _, _, _, none⟩ :: _) _ _ _; first | (refine s_lss_t rfl rfl ?_ rfl ?_; · omega) | (refine s_lss_f rfl rfl ?_ rfl ?_; · omega)) | (show WPL _ _ _ _ _ (⟨_, .binOp .eql _ _ _ _, _, _, _, none⟩ :: _) _ _ _; first | (refine s_eql_t rfl rfl ?_ rfl ?_; · omega) | (refine s_eql_f rfl rfl ?_ rfl ?_; · omega) | refine s_eqnil rfl rfl (b := true) rfl rfl ?_ | refine s_eqnil rfl rfl (b := false) rfl rfl ?_ | refine s_eqbool rfl rfl (b := true) rfl rfl ?_ | refine s_eqbool rfl rfl (b := false) rfl rfl ?_ | (refine s_eqbool rfl rfl (b := true) ?_ rfl ?_; · simp)) | (show WPL _ _ _ _ _ (⟨_, .binOp .neq _ _ _ _, _, _, _, none⟩ :: _) _ _ _; first | (refine s_neq_t rfl rfl ?_ rfl ?_; · omega) | (refine s_neq_f rfl rfl ?_ rfl ?_; · omega) | refine s_nenil rfl rfl (b := true) rfl rfl ?_ | refine s_nenil rfl rfl (b := false) rfl rfl ?_ | refine s_nebool rfl rfl (b := true) rfl rfl ?_ | refine s_nebool rfl rfl (b := false) rfl rfl ?_ | (refine s_nebool rfl rfl (b := false) ?_ rfl ?_; · simp) | (apply s_neqS (xs := [_, _]) (ys := [_, _]); (· exact rfl); (· exact rfl); (· exact rfl); (· exact rfl); (· assumption); (· exact rfl))) | (show WPL _ _ _ _ _ (⟨_, .binOp .geq _ _ _ _, _, _, _, none⟩ :: _) _ _ _; first | (refine s_geq_t rfl rfl ?_ rfl ?_; · omega) | (refine s_geq_f rfl rfl ?_ rfl ?_; · omega)) | (show WPL _ _ _ _ _ (⟨_, .binOp .leq _ _ _ _, _, _, _, none⟩ :: _) _ _ _; first | (refine s_leq_t rfl rfl ?_ rfl ?_; · omega) | (refine s_leq_f rfl rfl ?_ rfl ?_; · omega)) | (show WPL _ _ _ _ _ (⟨_, .binOp .gtr _ _ _ _, _, _, _, none⟩ :: _) _ _ _; first | (refine s_gtr_t rfl rfl ?_ rfl ?_; · omega) | (refine s_gtr_f rfl rfl ?_ rfl ?_; · omega)) | (show WPL _ _ _ _ _ (⟨_, .convert _ _ _, _, _, _, none⟩ :: _) _ _ _; first | (refine s_conv rfl (intI64 ?_) rfl ?_; · omega) | (refine s_conv rfl (intU32 ?_) rfl ?_; · omega) | (refine s_conv rfl (intU64 ?_) rfl ?_; · omega) | (refine s_conv rfl (intU8 ?_) rfl ?_; · omega) | (refine s_conv rfl (intI32 ?_) rfl ?_; · omega) | refine s_conv rfl (wrapU32 _) rfl ?_ | refine s_conv rfl (wrapU64 _) rfl ?_ | refine s_conv rfl (wrapU8 _) rfl ?_) | (show WPL _ _ _ _ _ (⟨_, .unOp .not _ _, _, _, _, none⟩ :: _) _ _ _; first | refine s_not (c := true) rfl rfl rfl ?_ | refine s_not (c := false) rfl rfl rfl ?_) | (show WPL _ _ _ _ _ (⟨_, .pick _ _ _, _, _, _, none⟩ :: _) _ _ _; first | refine s_pick_t (v := .int _ _) rfl rfl rfl ?_ | refine s_pick_f (v := .int _ _) rfl rfl rfl ?_ | refine s_pick_t (v := .pointer _) rfl rfl rfl ?_ | refine s_pick_f (v := .pointer _) rfl rfl rfl ?_ | refine s_pick_t (v := .slice _ _ _) rfl rfl rfl ?_ | refine s_pick_f (v := .slice _ _ _) rfl rfl rfl ?_ | refine s_pick_t (v := .bool _) rfl rfl rfl ?_ | refine s_pick_f (v := .bool _) rfl rfl rfl ?_ | refine s_pick_t (v := .agg _) rfl rfl rfl ?_ | refine s_pick_f (v := .agg _) rfl rfl rfl ?_ | refine s_pick_t (v := .string _) rfl rfl rfl ?_ | refine s_pick_f (v := .string _) rfl rfl rfl ?_ | refine s_pick_t (v := .tuple _) rfl rfl rfl ?_ | refine s_pick_f (v := .tuple _) rfl rfl rfl ?_ | refine s_pick_t (v := .map _) rfl rfl rfl ?_ | refine s_pick_f (v := .map _) rfl rfl rfl ?_ | refine s_pick_t (v := .nilIface) rfl rfl rfl ?_ | refine s_pick_f (v := .nilIface) rfl rfl rfl ?_ | refine s_pick_t (v := .iface _ _) rfl rfl rfl ?_ | refine s_pick_f (v := .iface _ _) rfl rfl rfl ?_ | refine s_pick_t (v := .func _ _ _) rfl rfl rfl ?_ | refine s_pick_f (v := .func _ _ _) rfl rfl rfl ?_ | refine s_pick_t (v := .float _ _) rfl rfl rfl ?_ | refine s_pick_f (v := .float _ _) rfl rfl rfl ?_) | (show WPL _ _ _ _ _ (⟨_, .extract _ _, _, _, _, none⟩ :: _) _ _ _; first | refine s_extract (v := .int _ _) rfl rfl rfl ?_ | refine s_extract (v := .pointer _) rfl rfl rfl ?_ | refine s_extract (v := .slice _ _ _) rfl rfl rfl ?_ | refine s_extract (v := .bool _) rfl rfl rfl ?_ | refine s_extract (v := .agg _) rfl rfl rfl ?_ | refine s_extract (v := .string _) rfl rfl rfl ?_ | refine s_extract (v := .tuple _) rfl rfl rfl ?_ | refine s_extract (v := .map _) rfl rfl rfl ?_ | refine s_extract (v := .nilIface) rfl rfl rfl ?_ | refine s_extract (v := .iface _ _) rfl rfl rfl ?_ | refine s_extract (v := .func _ _ _) rfl rfl rfl ?_ | refine s_extract (v := .float _ _) rfl rfl rfl ?_) | (show WPL _ _ _ _ _ (⟨_, _, _, _, _, some _⟩ :: _) _ _ _; first | refine step_wanted rfl rfl ?_ | refine step_unwanted rfl rfl rfl rfl ?_ | refine step_unwanted0 rfl rfl rfl ?_ | refine step_unwantedU rfl rfl rfl ?_ | refine step_unwantedU0 rfl rfl ?_) | refine wpl_nil_seq ?_ | refine wp_seq' ?_ | refine wp_region' ?_ | refine wp_block' ?_ | refine wp_cond_t rfl ?_ | refine wp_cond_f rfl ?_ | refine wp_skip' ?_ | refine q_seq ?_ | refine wp_ret' ?_ | refine wp_exit' ?_ | refine q_seq_ret ?_ | refine q_seq_exit ?_ | refine q_blk_ret ?_ | refine q_blk_here ?_ | refine q_blk_exit rfl ?_ | refine q_blk ?_ | refine wpl_nil ?_))
  exact qone_q) : p := h
theorem agreed {p : Prop} (h : p := by
  repeat (first | exact trivial | (refine And.intro ?_ ?_; · first | rfl | exact congrArg (Value.int _) (by omega)))) : p := h
theorem asided {p : Prop} (h : p := by
  repeat (first | exact Aside.refl _ _ | refine Aside.put rfl ?_ | refine Aside.havoc rfl ?_)) : p := h
end Go.SL
namespace Go.SL
open Go
theorem dwP {p q : Prop} (k : q) (h : Owed q → p := by
  intro k_
  apply dw_pure; (· exact rfl); (· exact rfl); (· (intro G; exact looked))
  exact k_.get) : p := h ⟨k⟩
theorem dwL {p q : Prop} (k : q) (h : Owed q → p := by
  intro k_
  apply dw_look; (· exact rfl); (· exact rfl); (· (exact looked))
  exact k_.get) : p := h ⟨k⟩
end Go.SL
set_option linter.unusedSimpArgs false
set_option linter.unusedVariables false
namespace Go.SL
open Go Go.RowKit Go.ChangeShapes Go.WideShapes Go.ChangeAt

section
variable {H : Type} {enc : TypeId × Value → H} {P : Program}
/-- The kinds of parameters whose reading stays. -/
def rowedB (P : Program) (ts : List TypeId) : Bool := ts.all fun t => P.readableRec t && decide (t < P.types.size)
theorem trodAll_stays (hl : laidOutB P = true) {W W' : World} (hb : Below W.heap.size W W') : ∀ {ts : List TypeId} {vs : List Value} {ds : List (DataW H)} {ps : List MemPlace}, rowedB P ts = true →
    DataW.TrodAll enc P W 0 (fun _ => true) true ts vs ds ps → (∀ x ∈ ps, x.block < W.heap.size) → ∀ sp : Nat → Bool, (∀ x ∈ ps, sp x.block = true) → DataW.TrodAll enc P W' 0 sp true ts vs ds ps
  | [], vs, ds, ps, _, h, _, sp, _ => by
    obtain ⟨rfl, rfl, rfl⟩ := trodAll_nil h
    exact trodAll_mk0
  | t :: ts, vs, ds, ps, hr, h, hlt, sp, hs => by
    obtain ⟨v, vs', d, ds', p, q, rfl, rfl, rfl, h1, h2⟩ := trodAll_cons h
    simp only [rowedB, List.all_cons, Bool.and_eq_true, decide_eq_true_eq] at hr
    refine trodAll_cons_mk ?_ ?_
    · exact WideElems.Trod_stays hl hr.1.1 hr.1.2 h1 (fun x hx => hb.same (hlt x (by simp [hx]))) fun x hx => hs x (by simp [hx])
    · exact trodAll_stays hl hb hr.2 h2 (fun x hx => hlt x (by simp [hx])) sp fun x hx => hs x (by simp [hx])

theorem law_post {f : Func} {s : ChangeSpec} {apart fresh handsOn again : Bool} {W W' : World} {args : Array Value} {ds gs : List (DataW H)} {before : List MemPlace} {tb : TypeId}
    (hW : DataW.Whole enc P f.params.toList s.vars apart W args.toList ds gs before) (hl : laidOutB P = true) (hr : rowedB P f.params.toList = true) (hv : s.vars = [])
    (hrt : f.resultTypes = #[tb]) (htb : P.underlying tb = some .bool)
    (e1 : (s.fn H (ds ++ gs)).results = [.lit (.bool true)]) (e2 : (s.fn H (ds ++ gs)).args = ds) (e3 : (s.fn H (ds ++ gs)).vars = []) (hb : Below W.heap.size W W') :
    s.post enc P f apart fresh handsOn again W args (.bool true) W' := by
  have hlt := hW.lt
  have hW' := hW
  obtain ⟨p, q, hA, hV, hpq, hfz, hnd⟩ := hW
  rw [hv] at hV
  obtain ⟨hg, hq⟩ := trodVars_none hV
  subst hq
  rw [List.append_nil] at hpq
  subst hpq
  have hargs : ∀ sp : Nat → Bool, (∀ x ∈ before, sp x.block = true) → DataW.TrodAll enc P W' 0 sp true f.params.toList args.toList (s.fn H (ds ++ gs)).args before := fun sp hs => by
    rw [e2]; exact trodAll_stays hl hb hr hA hlt sp hs
  have hvars : ∀ sp : Nat → Bool, DataW.TrodVars enc P W' sp s.vars (s.fn H (ds ++ gs)).vars [] := fun sp => by
    rw [hv, e3]; exact rfl
  have hres : ∀ (b : Nat) (sp : Nat → Bool) (hd : Bool), DataW.TrodAll enc P W' b sp hd f.resultTypes.toList ((Value.bool true).resultList f.resultTypes.size) (s.fn H (ds ++ gs)).results [] := fun b sp hd => by
    rw [e1, hrt]; exact trodAll_mk1 (shut_bool htb true)
  have hok : ∀ (j : Nat) (t : TypeId) (r : Value), f.resultTypes[j]? = some t → ((Value.bool true).resultList f.resultTypes.size)[j]? = some r → Value.okWide P W' .any 0 t r :=
    ok_one hrt rfl (okWide_bool_mk htb true)
  have hold : ∀ x ∈ before, (fun b => decide (b < W.heap.size)) x.block = true := fun x hx => by simpa using hlt x hx
  refine ⟨ds, gs, before, [], before, [], hW', hres _ _ _, hargs _ hold, hvars _, World.keptBut_mono (fun x hx => ⟨hx, ?_⟩) (hb.frame _), fun _ => ?_⟩
  · exact Or.inr (by simpa using hx)
  · refine ⟨hok, _, _, ([] ++ before) ++ [], ⟨[] ++ before, [], trodAll_append (hargs _ (fun _ _ => rfl)) (hres _ _ _), hvars _, rfl, ?_, ?_⟩, ?_⟩
    · intro b off hp
      have hp' : MemPlace.cell b off ∈ before := by simpa using hp
      rw [hb.frozen (p := ⟨b, off, none⟩) (hlt _ hp')]
      exact hfz b off (by simpa using hp')
    · intro ha
      have := hnd ha
      simpa using this
    · intro x hx _
      simpa using hx

/-- A walk from the world of the call. -/
theorem Does.calls {f : FuncId} {args : List Value} {W : World} (h : Does P W f args emp fun r _ => r = .bool true) :
    Calls P f args.toArray W fun e W' => e = .returned (.bool true) ∧ Below W.heap.size W W' :=
  (h W (Holds.start W)).mono fun e W' ⟨v, G, he, hg, hv⟩ => ⟨by rw [he, hv], hg.below⟩
end
end Go.SL
