/- Loops over a function of one variable. No condition. -/
import Derived.Test.YtofgpppnknpblaaDoorSLKit
set_option linter.unusedSimpArgs false
set_option linter.unusedVariables false
namespace Go.SL
open Go Go.RowKit
/-- The record of a loop over a function. -/
def lrec (l : Nat) (st : LoopState) (pend : Option Code) (n : Nat) (fr : Nat → Value) (p : Nat) (assign body : Code) (D : Nat) : HProp :=
  ex fun x : FuncId × Array Value => fact (x.2.size = n ∧ ∀ t, x.2.getD t undef = fr t) (obj l (.loop { state := st, pending := pend, fn := x.1, tmps := x.2, params := #[p], assign := assign, body := body, defers := D }))
theorem lrec_open {B : World} {w : World} {l : Nat} {st : LoopState} {pend : Option Code} {n : Nat} {fr : Nat → Value} {p : Nat} {assign body : Code} {D : Nat} {H : HProp} (h : Holds B (lrec l st pend n fr p assign body D + H) w) :
    ∃ (fn : FuncId) (tmps : Array Value), tmps.size = n ∧ (∀ t, tmps.getD t undef = fr t) ∧ Holds B (obj l (.loop { state := st, pending := pend, fn := fn, tmps := tmps, params := #[p], assign := assign, body := body, defers := D }) + H) w := by
  unfold lrec at h
  rw [ex_add] at h
  obtain ⟨⟨fn, tmps⟩, h⟩ := h.ex_out
  rw [fact_add] at h
  obtain ⟨⟨h1, h2⟩, h⟩ := h.fact_out
  exact ⟨fn, tmps, h1, h2, h⟩
theorem lrec_shut {B : World} {w : World} {l : Nat} {st : LoopState} {pend : Option Code} {n : Nat} {fr : Nat → Value} {p : Nat} {assign body : Code} {D : Nat} {H : HProp} {fn : FuncId} {tmps : Array Value} (h1 : tmps.size = n) (h2 : ∀ t, tmps.getD t undef = fr t)
    (h : Holds B (obj l (.loop { state := st, pending := pend, fn := fn, tmps := tmps, params := #[p], assign := assign, body := body, defers := D }) + H) w) : Holds B (lrec l st pend n fr p assign body D + H) w := by
  unfold lrec
  rw [ex_add]
  refine Holds.ex_in (fn, tmps) ?_
  rw [fact_add]
  exact Holds.fact_in ⟨h1, h2⟩ h
theorem obj_turn {B : World} {w : World} {l : Nat} {o o' : Obj} {H : HProp} (h : Holds B (obj l o + H) w) : Holds B (obj l o' + H) (w.putObj l o') := by
  have hlt : l < w.heap.size := (Array.getElem?_eq_some_iff.1 h.obj.1).1
  exact Holds.upd (o' := o') h rfl rfl rfl (by simp [World.putObj]) (World.putObj_heap_same hlt) fun k hk => World.putObj_heap_other hk

/-- A call of yield. -/
def Yield (P : Program) (B : World) (l : Nat) (args : List Value) (H : HProp) (R : Value → HProp → Prop) : Prop :=
  ∀ w, Holds B H w → ∃ fn tmps assign body, (Instr.yield l args.toArray).run P w = .ok (.round l fn tmps assign body) w ∧ RoundIn (FW none) 0 P l fn tmps assign body w fun e w' => ∃ v H', e = .returned v ∧ Holds B H' w' ∧ R v H'
theorem Yield.mono {P : Program} {B : World} {l : Nat} {args : List Value} {H : HProp} {R R' : Value → HProp → Prop} (h : Yield P B l args H R) (k : ∀ v H, R v H → R' v H) : Yield P B l args H R' := fun w hw => by
  obtain ⟨fn, tmps, assign, body, h1, h2⟩ := h w hw
  refine ⟨fn, tmps, assign, body, h1, h2.mono ?_⟩
  rintro e w' ⟨v, G, he, hg, r⟩
  exact ⟨v, G, he, hg, k _ _ r⟩
theorem Yield.ent {P : Program} {B : World} {l : Nat} {args : List Value} {H G : HProp} {R : Value → HProp → Prop} (e : Ent H G) (h : Yield P B l args G R) : Yield P B l args H R := fun w hw => h w (hw.ent e)
section
variable {ro : Option Nat} {P : Program} {B : World} {n : Nat} {ops : Array Oper} {rest : List Oper} {fr : Fr} {H : HProp} {Q : Post}
variable {d : Nat} {ty : TypeId} {pos : String} {after : Array Edge}
theorem s_yield {x : Operand} {l : Nat} {args : List Operand} {tys : Array TypeId} {vs : List Value} {R : Value → HProp → Prop} (hx : ev fr x = .func (.yield l) #[] #[]) (hargs : args.map (ev fr) = vs)
    (h : Yield P B l vs H R) (hd : Nat.blt d n = true) (k : ∀ v H', R v H' → WPL ro P B n ops rest (fr.put d v) H' Q) :
    WPL ro P B n ops (⟨some d, .call ⟨.value x, args.toArray, tys⟩, ty, pos, after, none⟩ :: rest) fr H Q := by
  intro a w hm hh
  obtain ⟨fn, tmps, assign, body, hy, hr⟩ := h w hh
  unfold wpListIn
  rw [if_pos (by simp [Region.wanted])]
  refine ⟨fun f _ => trivial, ?_⟩
  rw [hm.eval]
  have hrun : (execOp (ev fr) ⟨some d, .call ⟨.value x, args.toArray, tys⟩, ty, pos, after, none⟩).run P w = .ok (.round l fn tmps assign body) w := by
    subst hargs
    simp [execOp, resolve, hx, Deferred.ofValue, invoke]
    simpa using hy
  rw [semAt_of hrun (by simp), Oper.uponIn_round]
  refine ⟨by simp [FW, Fence.wide], ?_⟩
  have hr' : RoundIn (FW ro) (0 - 1) P l fn tmps assign body w fun e w' => ∃ v H', e = .returned v ∧ Holds B H' w' ∧ R v H' := hr
  refine hr'.mono ?_
  rintro e w' ⟨v, H', rfl, hh', hR⟩
  exact k v H' hR _ _ (hm.put (by simpa [Nat.blt_eq] using hd) v) hh'
end
/-- What is asked where a round ends. -/
def RPost (l n : Nat) (fr : Nat → Value) (p : Nat) (assign body : Code) (D : Nat) (R : Value → HProp → Prop) : Post := fun e _ H' =>
  match e with
  | .normal => ∃ H2, Ent H' (lrec l .busy none n fr p assign body D + H2) ∧ R (.bool true) (lrec l .ready none n fr p assign body D + H2)
  | .ret => ∃ H2, Ent H' (lrec l .busy none n fr p assign body D + H2) ∧ R (.bool false) (lrec l .done (some .ret) n fr p assign body D + H2)
  | .exit id => ∃ H2, Ent H' (lrec l .busy none n fr p assign body D + H2) ∧ R (.bool false) (lrec l .done (some (.exit id)) n fr p assign body D + H2)
  | _ => False
section
variable {P : Program} {B : World} {n l p D : Nat} {fr : Nat → Value} {H : HProp} {assign body : Code} {v : Value} {R : Value → HProp → Prop}
/-- A round, off its body's walk. -/
theorem yield_round (hp : Nat.blt p n = true) (h : WP (some l) P B n assign (Fr.put ⟨fr, []⟩ p v) (lrec l .ready none n fr p assign body D + H)
      (QSeq (fun fr1 H1 => ∃ H2, Ent H1 (lrec l .ready none n fr p assign body D + H2) ∧ WP (some l) P B n body fr1 (lrec l .busy none n fr p assign body D + H2) (RPost l n fr p assign body D R)) (fun _ _ _ => False))) :
    Yield P B l [v] (lrec l .ready none n fr p assign body D + H) R := by
  intro w hw
  obtain ⟨fn, tmps, h1, h2, hw1⟩ := lrec_open hw
  refine ⟨fn, tmps.setIfInBounds p v, assign, body, ?_, ?_⟩
  · have := run_yield (P := P) (args := #[v]) hw1.obj.1 rfl
    simpa using this
  have hp' : p < n := by simpa [Nat.blt_eq] using hp
  have hm : Models n { tmps := tmps.setIfInBounds p v, defers := [] } (Fr.put ⟨fr, []⟩ p v) := by
    have hm0 : Models n { tmps := tmps, defers := [] } ⟨fr, []⟩ := ⟨h1, rfl, h2⟩
    have := hm0.put hp' v
    simpa [Act.put] using this
  have key := h _ w hm hw
  refine roundIn_of_wpIn (F := FW none) trivial ?_
  refine wpIn_mono (show assign.wpIn (FW (some l)) 0 P _ _ _ from key) ?_
  rintro e a w' ⟨f, G, m, g, q⟩
  cases e with
  | normal =>
    obtain ⟨H2, he, hb⟩ := q
    obtain ⟨fn', tmps', h1', h2', hg⟩ := lrec_open (g.ent he)
    refine ⟨_, run_beginRound hg.obj.1 rfl, ?_⟩
    have hb' := hb a _ m (lrec_shut h1' h2' (obj_turn (o' := .loop { state := .busy, pending := none, fn := fn', tmps := tmps', params := #[p], assign := assign, body := body, defers := D }) hg))
    refine wpIn_mono (show body.wpIn (FW (some l)) 0 P _ _ _ from hb') ?_
    rintro e2 a2 w2 ⟨f2, G2, m2, g2, q2⟩
    cases e2 with
    | normal =>
      obtain ⟨H3, he3, hR⟩ := q2
      obtain ⟨fn3, tmps3, h13, h23, hg3⟩ := lrec_open (g2.ent he3)
      exact ⟨_, _, run_endRound none hg3.obj.1, _, _, rfl, lrec_shut h13 h23 (obj_turn hg3), hR⟩
    | ret =>
      obtain ⟨H3, he3, hR⟩ := q2
      obtain ⟨fn3, tmps3, h13, h23, hg3⟩ := lrec_open (g2.ent he3)
      exact ⟨_, _, run_endRound (some .ret) hg3.obj.1, _, _, rfl, lrec_shut h13 h23 (obj_turn hg3), hR⟩
    | exit id =>
      obtain ⟨H3, he3, hR⟩ := q2
      obtain ⟨fn3, tmps3, h13, h23, hg3⟩ := lrec_open (g2.ent he3)
      exact ⟨_, _, run_endRound (some (.exit id)) hg3.obj.1, _, _, rfl, lrec_shut h13 h23 (obj_turn hg3), hR⟩
    | _ => exact q2.elim
  | _ => exact (q : False).elim
/-- A loop over a function, outermost. -/
theorem wp_range {fr : Fr} {Q : Post} {gf : FuncId} {g : Operand} {first cap : List Value} [c : Callable P gf] (hg : ev fr g = .func (.func gf) first.toArray cap.toArray)
    (h : ∀ l D, Does P B gf (first ++ [.func (.yield l) #[] #[]] ++ cap) (lrec l .ready none n fr p assign body D + (obj D (.deferred (some [])) + H)) fun _ H' =>
      (∃ H2, Ent H' (lrec l .ready none n fr p assign body D + H2) ∧ Q .normal ⟨fr, D :: fr.ds⟩ H2) ∨
      (∃ H2, Ent H' (lrec l .done (some .ret) n fr p assign body D + H2) ∧ Q .ret ⟨fr, D :: fr.ds⟩ H2) ∨
      (∃ H2 id, Ent H' (lrec l .done (some (.exit id)) n fr p assign body D + H2) ∧ Q (.exit id) ⟨fr, D :: fr.ds⟩ H2)) :
    WP none P B n (.rangeFunc g #[p] assign body) fr H Q := by
  intro a w hm hw
  obtain ⟨fn0, cd, hf, hn, hb⟩ := c.eq
  refine wpIn_rangeFunc (F := FW none) fun fn _ => ?_
  let W := (w.alloc (.deferred (some []))).alloc (.loop { state := .ready, pending := none, fn := fn, tmps := a.tmps, params := #[p], assign := assign, body := body, defers := w.heap.size })
  have h1 := run_enterLoop_outer (P := P) (w := w) fn a.tmps #[p] assign body
  refine ⟨w.heap.size + 1, [markOf w.heap.size], W, { target := .fn (.func gf) cap.toArray, args := first.toArray ++ #[Value.func (Fn.yield (w.heap.size + 1)) #[] #[]] }, W, gf, (first ++ [Value.func (Fn.yield (w.heap.size + 1)) #[] #[]] ++ cap).toArray, W, h1, ?_, fun _ _ => trivial, ?_, by simp [FW, Fence.wide], ?_⟩
  · have : a.eval g = .func (.func gf) first.toArray cap.toArray := by rw [hm.eval]; exact hg
    have e2 : (rangeCall g (w.heap.size + 1)).args.map a.eval = #[Value.func (Fn.yield (w.heap.size + 1)) #[] #[]] := by simp [rangeCall, Act.eval]
    show (resolve a.eval (rangeCall g (w.heap.size + 1)) 0).run P W = _
    unfold resolve
    simp only [e2]
    show (Deferred.ofValue (a.eval g) #[Value.func (Fn.yield (w.heap.size + 1)) #[] #[]]).run P W = _
    rw [this]
    rfl
  · have hn' : fn0.name ≠ "runtime.NumGoroutine" := by simpa using hn
    simp [invoke, callFunc, hf, hn', hb]
  · have hW : Holds B (lrec (w.heap.size + 1) .ready none n fr p assign body w.heap.size + (obj w.heap.size (.deferred (some [])) + H)) W := by
      have e0 := hw.alloc (.deferred (some []))
      have e1 := e0.alloc (.loop { state := .ready, pending := none, fn := fn, tmps := a.tmps, params := #[p], assign := assign, body := body, defers := w.heap.size })
      rw [World.size_alloc] at e1
      exact lrec_shut hm.size hm.slot e1
    have hm' : Models n { a with defers := [markOf w.heap.size] ++ a.defers } ⟨fr, w.heap.size :: fr.ds⟩ := ⟨hm.size, by simp [hm.defers], hm.slot⟩
    have hd := FW_calls (ro := none) |>.2 ((h (w.heap.size + 1) w.heap.size) W hW)
    refine CallsIn.mono hd ?_
    rintro e w3 ⟨v, H', rfl, hh, hq⟩
    rcases hq with ⟨H2, he, hq⟩ | ⟨H2, he, hq⟩ | ⟨H2, id, he, hq⟩
    · obtain ⟨fn3, tmps3, _, _, hg3⟩ := lrec_open (hh.ent he)
      exact ⟨_, _, run_endLoop hg3.obj.1 (by simp), _, _, hm', (obj_turn hg3).drop_left, hq⟩
    · obtain ⟨fn3, tmps3, _, _, hg3⟩ := lrec_open (hh.ent he)
      exact ⟨_, _, run_endLoop hg3.obj.1 (by simp), wpIn_ret ⟨_, _, hm', (obj_turn hg3).drop_left, hq⟩⟩
    · obtain ⟨fn3, tmps3, _, _, hg3⟩ := lrec_open (hh.ent he)
      exact ⟨_, _, run_endLoop hg3.obj.1 (by simp), wpIn_exit ⟨_, _, hm', (obj_turn hg3).drop_left, hq⟩⟩

/-- What is asked where a round ends, of a record that is not looked into. -/
def RPostL (LR : LoopState → Option Code → HProp) (R : Value → HProp → Prop) : Post := fun e _ H' =>
  match e with
  | .normal => ∃ H2, Ent H' (LR .busy none + H2) ∧ R (.bool true) (LR .ready none + H2)
  | .ret => ∃ H2, Ent H' (LR .busy none + H2) ∧ R (.bool false) (LR .done (some .ret) + H2)
  | .exit id => ∃ H2, Ent H' (LR .busy none + H2) ∧ R (.bool false) (LR .done (some (.exit id)) + H2)
  | _ => False
/-- A loop over a function, its record not looked into. -/
theorem wp_rangeL {fr : Fr} {Q : Post} {gf : FuncId} {g : Operand} {first cap : List Value} [c : Callable P gf] (hg : ev fr g = .func (.func gf) first.toArray cap.toArray) (hp : Nat.blt p n = true)
    (h : ∀ l D (LR : LoopState → Option Code → HProp),
      (∀ v H R, WP (some l) P B n assign (Fr.put ⟨fr, []⟩ p v) (LR .ready none + H) (QSeq (fun fr1 H1 => ∃ H2, Ent H1 (LR .ready none + H2) ∧ WP (some l) P B n body fr1 (LR .busy none + H2) (RPostL LR R)) (fun _ _ _ => False)) → Yield P B l [v] (LR .ready none + H) R) →
      Does P B gf (first ++ [.func (.yield l) #[] #[]] ++ cap) (LR .ready none + (obj D (.deferred (some [])) + H)) fun _ H' =>
      (∃ H2, Ent H' (LR .ready none + H2) ∧ Q .normal ⟨fr, D :: fr.ds⟩ H2) ∨
      (∃ H2, Ent H' (LR .done (some .ret) + H2) ∧ Q .ret ⟨fr, D :: fr.ds⟩ H2) ∨
      (∃ H2 id, Ent H' (LR .done (some (.exit id)) + H2) ∧ Q (.exit id) ⟨fr, D :: fr.ds⟩ H2)) :
    WP none P B n (.rangeFunc g #[p] assign body) fr H Q := by
  refine wp_range hg fun l D => h l D (fun st pend => lrec l st pend n fr p assign body D) ?_
  intro v H R hw
  refine yield_round hp (hw.mono ?_)
  intro e f G q
  cases e with
  | normal =>
    obtain ⟨H2, he, hb⟩ := q
    refine ⟨H2, he, hb.mono ?_⟩
    intro e2 f2 G2 q2
    cases e2 with
    | normal => exact q2
    | ret => exact q2
    | exit id => exact q2
    | _ => exact q2.elim
  | _ => exact q
theorem Yield.exr {α : Type} {S : HProp} {G : α → HProp} {args : List Value} (h : ∀ x, Yield P B l args (S + G x) R) : Yield P B l args (S + ex G) R := by
  rw [HProp.add_comm, ex_add]
  intro w hw
  obtain ⟨x, hx⟩ := hw.ex_out
  rw [HProp.add_comm] at hx
  exact h x w hx
theorem Ent.absurd {S G : HProp} : Ent (S + fact False G) H := by
  rw [HProp.add_comm, fact_add]
  rintro a ⟨h, _⟩
  exact h.elim
theorem Ent.exl {α : Type} {S : HProp} {G : α → HProp} (h : ∀ x, Ent (G x + S) H) : Ent (ex G + S) H := by
  rw [ex_add]
  rintro a ⟨x, hx⟩
  exact h x a hx
theorem Ent.exl' {α : Type} {S : HProp} {G : α → HProp} (h : ∀ x, Ent (G x + S) H) : Ent (S + ex G) H := by
  rw [HProp.add_comm]; exact Ent.exl h
theorem Ent.exr {α : Type} {S : HProp} {G : α → HProp} (x : α) (h : Ent H (S + G x)) : Ent H (S + ex G) := h.trans ((Ent.ex_in x).frame_left S)
/-- What is asked at the end of a function that holds such loops. -/
theorem retM1 {fn : Func} {R : Value → HProp → Prop} {e : Exit} {fr : Fr} {v : Value} {t D : Nat} {G : HProp} (he : e = .normal ∨ e = .ret) (hr : fn.results = #[.tmp t]) (hv : fr t = v) (hds : fr.ds = [D]) (hm : Ent H (obj D (.deferred (some [])) + G)) (h : R v G) : QRet P B fn R e fr H :=
  ⟨he, v, G, G, by rw [hds]; unfold marks marks; rw [HProp.add_emp]; exact hm, fun a w ha _ => by rw [results_tmp hr, ha, hv], Ent.refl _, h⟩
theorem retMR1 {fn : Func} {R : Value → HProp → Prop} {e : Exit} {fr : Fr} {v : Value} {r : ResultVar} {D : Nat} {G G' : HProp} (he : e = .normal ∨ e = .ret) (hr : fn.results = #[r]) (hds : fr.ds = [D]) (hm : Ent H (obj D (.deferred (some [])) + G)) (h1 : RV P B fr G r v) (hG : Ent G G') (h : R v G') : QRet P B fn R e fr H :=
  ⟨he, v, G, G', by rw [hds]; unfold marks marks; rw [HProp.add_emp]; exact hm, fun a w ha hw => by rw [results_rv, hr]; simp [Array.mapM_eq_mapM_toList, h1 a w ha hw], hG, h⟩
theorem Yield.factr {S G : HProp} {q : Prop} {args : List Value} (h : q → Yield P B l args (S + G) R) : Yield P B l args (S + fact q G) R := by
  rw [HProp.add_comm, fact_add]
  intro w hw
  obtain ⟨hq, hx⟩ := hw.fact_out
  rw [HProp.add_comm] at hx
  exact h hq w hx
theorem Ent.factr {S G : HProp} {q : Prop} (hq : q) (h : Ent H (S + G)) : Ent H (S + fact q G) := h.trans ((Ent.fact_in hq).frame_left S)
theorem Ent.factl {S G : HProp} {q : Prop} (h : q → Ent (S + G) H) : Ent (S + fact q G) H := by
  rw [HProp.add_comm, fact_add]
  rintro a ⟨hq, hx⟩
  rw [HProp.add_comm] at hx
  exact h hq a hx
theorem retM {fn : Func} {R : Value → HProp → Prop} {e : Exit} {fr : Fr} {v : Value} {G G' : HProp} (he : e = .normal ∨ e = .ret) (hm : Ent H (marks fr.ds + G)) (hr : ∀ a w, (∀ t, a.getD t undef = fr t) → Holds B G w → (results fn a).run P w = .ok v w) (hG : Ent G G') (h : R v G') : QRet P B fn R e fr H :=
  ⟨he, v, G, G', hm, hr, hG, h⟩
end
end Go.SL
