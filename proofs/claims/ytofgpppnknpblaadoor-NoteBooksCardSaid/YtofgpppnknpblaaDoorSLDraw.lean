/- Regions whose order is drawn: it is enough to walk one order, where what is only looked at stays. No condition. -/
import Derived.Test.YtofgpppnknpblaaDoorSLMem2
import Derived.OrdersIn
set_option linter.unusedSimpArgs false
set_option linter.unusedVariables false
namespace Go.SL
open Go Go.RowKit

/-- An operation's outcome depends on its operands alone. -/
theorem execOp_congr {ρ σ : Operand → Value} (o : Oper) (h : ∀ x ∈ o.op.operands.toList, ρ x = σ x) : execOp ρ o = execOp σ o := by
  obtain ⟨dst, op, ty, pos, after, g⟩ := o
  cases op
  case build t ps =>
    have e : (ps.map fun (p : Nat × Operand) => (p.1, ρ p.2)) = ps.map fun p => (p.1, σ p.2) := by
      apply Array.map_congr_left
      intro p hp
      rw [h p.2 (by simp only [Op.operands, List.mem_map, Array.mem_toList_iff]; exact ⟨p, hp, rfl⟩)]
    simp only [execOp]
    exact congrArg (fun q => (do Pure.pure (Next.value (← Instr.build t q)) : Sem Next)) e
  case buildSlice t l ps =>
    have e : (ps.map fun (p : Nat × Operand) => (p.1, ρ p.2)) = ps.map fun p => (p.1, σ p.2) := by
      apply Array.map_congr_left
      intro p hp
      rw [h p.2 (by simp only [Op.operands, List.mem_map, Array.mem_toList_iff]; exact ⟨p, hp, rfl⟩)]
    simp only [execOp]
    exact congrArg (fun q => (do Pure.pure (Next.value (← Instr.buildSlice t l q)) : Sem Next)) e
  case makeFunc fn f c =>
    have e1 : f.map ρ = f.map σ := Array.map_congr_left fun x hx => h x (by simp [Op.operands, hx])
    have e2 : c.map ρ = c.map σ := Array.map_congr_left fun x hx => h x (by simp [Op.operands, hx])
    simp only [execOp, e1, e2]
  case makeMap t r =>
    have e1 : r.map ρ = r.map σ := by cases r <;> simp [Op.operands] at h ⊢; exact h
    simp only [execOp, e1]
  case slice t x l hi m =>
    have e0 : ρ x = σ x := h x (by simp [Op.operands])
    have e1 : l.map ρ = l.map σ := by cases l with
      | none => rfl
      | some y => simp only [Option.map_some]; rw [h y (by simp [Op.operands])]
    have e2 : hi.map ρ = hi.map σ := by cases hi with
      | none => rfl
      | some y => simp only [Option.map_some]; rw [h y (by simp [Op.operands])]
    have e3 : m.map ρ = m.map σ := by cases m with
      | none => rfl
      | some y => simp only [Option.map_some]; rw [h y (by simp [Op.operands])]
    simp only [execOp, e0, e1, e2, e3]
  case call c =>
    have e1 : c.args.map ρ = c.args.map σ := Array.map_congr_left fun x hx => h x (by simp [Op.operands, Call.operands, hx])
    have e2 : resolve ρ c ty = resolve σ c ty := by
      unfold resolve
      rw [e1]
      cases hc : c.callee with
      | value f => simp only [h f (by simp [Op.operands, Call.operands, hc])]
      | invoke r m => simp only [h r (by simp [Op.operands, Call.operands, hc])]
      | builtin b => rfl
    simp only [execOp, e2]
  case go c =>
    have e1 : c.args.map ρ = c.args.map σ := Array.map_congr_left fun x hx => h x (by simp [Op.operands, Call.operands, hx])
    have e2 : resolve ρ c ty = resolve σ c ty := by
      unfold resolve
      rw [e1]
      cases hc : c.callee with
      | value f => simp only [h f (by simp [Op.operands, Call.operands, hc])]
      | invoke r m => simp only [h r (by simp [Op.operands, Call.operands, hc])]
      | builtin b => rfl
    simp only [execOp, e2]
  case defer c =>
    have e1 : c.args.map ρ = c.args.map σ := Array.map_congr_left fun x hx => h x (by simp [Op.operands, Call.operands, hx])
    have e2 : resolve ρ c ty = resolve σ c ty := by
      unfold resolve
      rw [e1]
      cases hc : c.callee with
      | value f => simp only [h f (by simp [Op.operands, Call.operands, hc])]
      | invoke r m => simp only [h r (by simp [Op.operands, Call.operands, hc])]
      | builtin b => rfl
    simp only [execOp, e2]
  case select cs b =>
    have e : ∀ c ∈ cs, ρ c.chan = σ c.chan ∧ c.send.map ρ = c.send.map σ := by
      intro c hc
      refine ⟨h c.chan ?_, ?_⟩
      · simp only [Op.operands, Array.toList_flatMap, List.mem_flatMap, Array.mem_toList_iff]
        exact ⟨c, hc, by simp⟩
      · cases hs : c.send with
        | none => rfl
        | some y =>
          simp only [Option.map_some]
          rw [h y (by
            simp only [Op.operands, Array.toList_flatMap, List.mem_flatMap, Array.mem_toList_iff]
            exact ⟨c, hc, by simp [hs]⟩)]
    simp only [execOp]
    have e' : cs.mapM (fun s => do Pure.pure ({ chan := ρ s.chan, send := s.send.map ρ, zero := ← zeroValue s.elem } : CommCase)) =
        cs.mapM (m := Sem) (fun s => do Pure.pure ({ chan := σ s.chan, send := s.send.map σ, zero := ← zeroValue s.elem } : CommCase)) := by
      rw [Array.mapM_eq_mapM_toList, Array.mapM_eq_mapM_toList]
      congr 1
      have : ∀ l : List SelectCase, (∀ c ∈ l, ρ c.chan = σ c.chan ∧ c.send.map ρ = c.send.map σ) → l.mapM (fun s => do Pure.pure ({ chan := ρ s.chan, send := s.send.map ρ, zero := ← zeroValue s.elem } : CommCase)) =
        l.mapM (m := Sem) (fun s => do Pure.pure ({ chan := σ s.chan, send := s.send.map σ, zero := ← zeroValue s.elem } : CommCase)) := by
        intro l
        induction l with
        | nil => intro _; rfl
        | cons c l ih =>
          intro hl
          obtain ⟨h1, h2⟩ := hl c (by simp)
          simp only [List.mapM_cons, h1, h2, ih (fun c hc => hl c (by simp [hc]))]
      exact this cs.toList fun c hc => e c (by simpa using hc)
    exact congrArg (fun q : Sem (Array CommCase) => (do let cases ← q; Pure.pure (Next.comm cases b .select) : Sem Next)) e'
  all_goals simp_all [execOp, Op.operands]

theorem semAt_congr {ro : Option Nat} {ρ σ : Operand → Value} (o : Oper) (h : ∀ x ∈ o.op.operands.toList, ρ x = σ x) : o.semAt ro ρ = o.semAt ro σ := by
  by_cases hd : ∀ c, o.op ≠ .defer c
  · rw [Oper.semAt_eq ro ρ o hd, Oper.semAt_eq ro σ o hd]; exact execOp_congr o h
  · cases ro with
    | none => exact execOp_congr o h
    | some l =>
      obtain ⟨dst, op, ty, pos, after, g⟩ := o
      cases op
      case defer c =>
        have e1 : c.args.map ρ = c.args.map σ := Array.map_congr_left fun x hx => h x (by simp [Op.operands, Call.operands, hx])
        have e2 : resolve ρ c ty = resolve σ c ty := by
          unfold resolve
          rw [e1]
          cases hc : c.callee with
          | value f => simp only [h f (by simp [Op.operands, Call.operands, hc])]
          | invoke r m => simp only [h r (by simp [Op.operands, Call.operands, hc])]
          | builtin b => rfl
        simp only [Oper.semAt, e2]
      all_goals exact absurd (fun c e => by cases e) hd

/-- The operations of an order, one behind the other. -/
def wpOpsR (ro : Option Nat) (P : Program) (ops : Array Oper) (Q : Exit → Act → World → Prop) : List Nat → Act → World → Prop
  | [], a, w => Q .normal a w
  | i :: rest, a, w =>
    match ops[i]? with
    | none => wpOpsR ro P ops Q rest a w
    | some o =>
      if Region.wanted o (yielded ops a.tmps) then o.wpIn (FW ro) 0 P a w (wpOpsR ro P ops Q rest) Q
      else wpOpsR ro P ops Q rest (a.put o.dst undef) w
theorem wpOpsR_in {ro : Option Nat} {P : Program} {ops : Array Oper} {Q : Exit → Act → World → Prop} : ∀ (l : List Nat) (a : Act) (w : World), wpOpsR ro P ops Q l a w → wpOpsIn (FW ro) 0 P ops Q l a w
  | [], a, w, h => h
  | i :: rest, a, w, h => by
    unfold wpOpsR at h
    unfold wpOpsIn
    cases ho : ops[i]? with
    | none => rw [ho] at h; exact wpOpsR_in rest a w h
    | some o =>
      rw [ho] at h
      simp only at h ⊢
      split
      · rename_i hw
        rw [if_pos hw] at h
        exact Oper.wpIn_mono (fun a w => wpOpsR_in rest a w) h
      · rename_i hw
        rw [if_neg hw] at h
        exact ⟨fun f _ => trivial, wpOpsR_in rest _ _ h⟩

def dstOf (ops : List Oper) (i : Nat) : Option Nat := (ops[i]?).bind (·.dst)
def tmpOf : Operand → Option Nat
  | .tmp t => some t
  | _ => none
def reads (ops : List Oper) (o : Oper) : List Nat :=
  o.op.operands.toList.filterMap tmpOf ++ (match o.guard with | some (j, _) => (dstOf ops j).toList | none => [])

/-- What comes of one operation. -/
def Out (ro : Option Nat) (P : Program) (B : World) (dst : Option Nat) (K : Value → HProp → Prop) : Result Next → Prop
  | .ok (.value v) w' => ∃ v' H', (dst.isSome = true → v' = v) ∧ Holds B H' w' ∧ K v' H'
  | .ok .skip w' => ∃ v' H', (dst.isSome = true → v' = undef) ∧ Holds B H' w' ∧ K v' H'
  | .ok (.enter f args) w' => CallsIn (FW ro) 0 P f args w' fun e w'' => ∃ v v' H', e = .returned v ∧ (dst.isSome = true → v' = v) ∧ Holds B H' w'' ∧ K v' H'
  | .ok (.row r args) w' => RowsIn (FW ro) 0 P r args w' fun v w'' => ∃ v' H', (dst.isSome = true → v' = v) ∧ Holds B H' w'' ∧ K v' H'
  | .ok (.round l f tmps assign body) w' => RoundIn (FW ro) 0 P l f tmps assign body w' fun e w'' => ∃ v v' H', e = .returned v ∧ (dst.isSome = true → v' = v) ∧ Holds B H' w'' ∧ K v' H'
  | _ => False
/-- One operation, walked: its slot, and what is left. -/
def QOne (dst : Option Nat) (fr : Fr) (K : Value → HProp → Prop) : Post := fun e fr' H' => e = .normal ∧ ∃ v, fr' = fr.putO dst v ∧ K v H'

section
variable {ro : Option Nat} {P : Program} {B : World} {n : Nat}

theorem models_full (fr : Fr) (hfr : ∀ t, n ≤ t → fr t = undef) : Models n { tmps := (Array.range n).map fr, defers := fr.ds.map markOf } fr := by
  refine ⟨by simp, rfl, fun t => ?_⟩
  by_cases ht : t < n
  · simp [Array.getD_eq_getD_getElem?, ht]
  · simp [Array.getD_eq_getD_getElem?, ht, hfr t (by omega)]

theorem put_agrees {dst : Option Nat} {fr : Fr} {a : Act} {v v' : Value} (ha : Models n a fr) (hd : ∀ k, dst = some k → k < n) (h : Models n (a.put dst v) (fr.putO dst v')) : dst.isSome = true → v' = v := by
  intro hs
  obtain ⟨k, rfl⟩ := Option.isSome_iff_exists.1 hs
  have h1 := (ha.putO (d := some k) hd v).slot k
  have h2 := h.slot k
  rw [h1] at h2
  simpa [Fr.putO, put_same] using h2.symm

/-- Of a walked operation: it is not asked for, or what comes of it. -/
theorem wpl_one {ops : Array Oper} {o : Oper} {fr : Fr} {H : HProp} {K : Value → HProp → Prop} (hd : ∀ k, o.dst = some k → k < n) (hfr : ∀ t, n ≤ t → fr t = undef)
    (h : WPL ro P B n ops [o] fr H (QOne o.dst fr K)) {w : World} (hw : Holds B H w) :
    (Region.wanted o (yielded ops ((Array.range n).map fr)) = true ∧ Out ro P B o.dst K ((o.semAt ro (ev fr)).run P w)) ∨
    (Region.wanted o (yielded ops ((Array.range n).map fr)) = false ∧ ∃ v' H', (o.dst.isSome = true → v' = undef) ∧ Holds B H' w ∧ K v' H') := by
  have hm := models_full fr hfr
  have h1 := h _ w hm hw
  unfold wpListIn at h1
  by_cases hwt : Region.wanted o (yielded ops ((Array.range n).map fr)) = true
  · left
    rw [if_pos hwt] at h1
    refine ⟨hwt, ?_⟩
    obtain ⟨_, h1⟩ := h1
    rw [hm.eval] at h1
    have hro : (FW ro).round = ro := rfl
    rw [hro] at h1
    generalize (o.semAt ro (ev fr)).run P w = r at h1 ⊢
    cases r with
    | halt x w' =>
      cases x <;> first | exact h1.elim | (obtain ⟨fr', H', _, _, he, _⟩ := h1; cases he)
    | ok x w' =>
      cases x with
      | value v =>
        obtain ⟨fr', H', hm', hh, _, v', rfl, hK⟩ := h1
        exact ⟨v', H', put_agrees hm hd hm', hh, hK⟩
      | skip =>
        obtain ⟨fr', H', hm', hh, _, v', rfl, hK⟩ := h1
        exact ⟨v', H', put_agrees hm hd hm', hh, hK⟩
      | defer dd =>
        obtain ⟨fr', H', hm', hh, _, v', rfl, hK⟩ := h1
        have e1 := congrArg List.length hm'.defers
        cases hdst : o.dst <;> simp [Act.put, hdst, Fr.putO, put_ds] at e1
      | enter f args =>
        refine CallsIn.mono h1.2 ?_
        intro e w'' he
        cases e with
        | returned v =>
          obtain ⟨fr', H', hm', hh, _, v', rfl, hK⟩ := he
          exact ⟨v, v', H', rfl, put_agrees hm hd hm', hh, hK⟩
        | panicked c => obtain ⟨fr', H', _, _, he, _⟩ := he; cases he
        | outgrown => obtain ⟨_, _, fr', H', _, _, he, _⟩ := he; cases he
      | row r args =>
        refine RowsIn.mono h1.2 ?_
        intro v w'' he
        obtain ⟨fr', H', hm', hh, _, v', rfl, hK⟩ := he
        exact ⟨v', H', put_agrees hm hd hm', hh, hK⟩
      | round l f tmps assign body =>
        refine RoundIn.mono h1.2 ?_
        intro e w'' he
        cases e with
        | returned v =>
          obtain ⟨fr', H', hm', hh, _, v', rfl, hK⟩ := he
          exact ⟨v, v', H', rfl, put_agrees hm hd hm', hh, hK⟩
        | panicked c => obtain ⟨fr', H', _, _, he, _⟩ := he; cases he
        | outgrown => obtain ⟨_, _, fr', H', _, _, he, _⟩ := he; cases he
      | _ => exact h1.elim
  · right
    rw [if_neg hwt] at h1
    refine ⟨by simpa using hwt, ?_⟩
    obtain ⟨_, fr', H', hm', hh, _, v', rfl, hK⟩ := h1
    exact ⟨v', H', put_agrees hm hd hm', hh, hK⟩
/-- What comes of an operation leads on. -/
theorem Out.upon {o : Oper} {a : Act} {next : Act → World → Prop} {Q : Exit → Act → World → Prop} {K : Value → HProp → Prop} {r : Result Next} (h : Out ro P B o.dst K r)
    (k : ∀ v v' H' w', (o.dst.isSome = true → v' = v) → Holds B H' w' → K v' H' → next (a.put o.dst v) w') : o.uponIn (FW ro) 0 P a next Q r := by
  cases r with
  | halt x w' => exact h.elim
  | ok x w' =>
    cases x with
    | value v => obtain ⟨v', H', h1, h2, h3⟩ := h; exact k v v' H' w' h1 h2 h3
    | skip => obtain ⟨v', H', h1, h2, h3⟩ := h; exact k undef v' H' w' h1 h2 h3
    | enter f args =>
      rw [Oper.uponIn_enter]
      refine ⟨by simp [FW, Fence.wide], CallsIn.mono h ?_⟩
      rintro e w'' ⟨v, v', H', rfl, h1, h2, h3⟩
      exact k v v' H' w'' h1 h2 h3
    | row r args =>
      rw [Oper.uponIn_row]
      refine ⟨by simp [FW, Fence.wide], RowsIn.mono h ?_⟩
      rintro v w'' ⟨v', H', h1, h2, h3⟩
      exact k v v' H' w'' h1 h2 h3
    | round l f tmps assign body =>
      rw [Oper.uponIn_round]
      refine ⟨by simp [FW, Fence.wide], RoundIn.mono h ?_⟩
      rintro e w'' ⟨v, v', H', rfl, h1, h2, h3⟩
      exact k v v' H' w'' h1 h2 h3
    | _ => exact h.elim

/-- The model's own order of what is left. -/
theorem go_acc (m : Region.Mode) (ops : Array Oper) : ∀ (fuel t : Nat) (listed : Array Bool) (acc : List Nat),
    Region.linearise.go m ops fuel t listed acc = acc.reverse ++ Region.linearise.go m ops fuel t listed [] := by
  intro fuel
  induction fuel with
  | zero => intro t listed acc; simp [Region.linearise.go]
  | succ f ih =>
    intro t listed acc
    simp only [Region.linearise.go]
    split
    · rename_i i hi
      rw [ih _ _ (i :: acc), ih _ _ [i]]
      simp
    · simp
end
end Go.SL
