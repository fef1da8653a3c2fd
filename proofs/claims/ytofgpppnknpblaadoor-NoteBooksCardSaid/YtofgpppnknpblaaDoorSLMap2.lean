/- Maps against nil; a block's cells in its midst. No condition. -/
import Derived.Test.YtofgpppnknpblaaDoorSLMap
set_option linter.unusedSimpArgs false
set_option linter.unusedVariables false
namespace Go.SL
open Go Go.RowKit Go.MapKept
section
variable {ro : Option Nat} {P : Program} {B : World} {n : Nat} {ops : Array Oper} {rest : List Oper} {fr : Fr} {H F : HProp} {Q : Post}
variable {d : Nat} {ty : TypeId} {pos : String} {after : Array Edge}
theorem s_eqnilM {t yt : TypeId} {z : Value} [i : MapOf P t z] {x y : Operand} {r : Option Nat} {b : Bool} (hx : ev fr x = .map r) (hy : ev fr y = .map none) (hr : r.isNone = b)
    (hd : Nat.blt d n = true) (k : WPL ro P B n ops rest (fr.put d (.bool b)) H Q) :
    WPL ro P B n ops (⟨some d, .binOp .eql t x y yt, ty, pos, after, none⟩ :: rest) fr H Q :=
  step_pure hd (fun w => by
    obtain ⟨kt, e, inf, hun, _⟩ := i.eq
    have : execOp (ev fr) ⟨some d, .binOp .eql t x y yt, ty, pos, after, none⟩ = (do Pure.pure (Next.value (← (do eqGuard .eql t x y (ev fr x) (ev fr y); binOp .eql t (ev fr x) (ev fr y))))) := rfl
    have he : (Op.equal t (.map r) (.map none)).run P w = .ok r.isNone w := by
      have key : ∀ dd, (Op.equalIn (dd + 1) t (.map r) (.map none)).run P w = .ok r.isNone w := fun dd => by
        cases r <;> simp [Op.equalIn, run_underlying hun]
      exact key _
    rw [this, hx, hy]
    subst hr
    have hg : (eqGuard .eql t x y (.map r) (.map none)).run P w = .ok () w := by
      cases r <;> simp [eqGuard]
    simp [hg, binOp, he, Result.andThen]) k
theorem step_val0 {op : Op}
    (h : ∀ w, Holds B H w → ∃ v w' H', (execOp (ev fr) ⟨none, op, ty, pos, after, none⟩).run P w = .ok (.value v) w' ∧ Holds B H' w' ∧ WPL ro P B n ops rest fr H' Q) :
    WPL ro P B n ops (⟨none, op, ty, pos, after, none⟩ :: rest) fr H Q := by
  intro a w hm hh
  obtain ⟨v, w', H', hr, hh', hk⟩ := h w hh
  unfold wpListIn
  rw [if_pos (by simp [Region.wanted])]
  refine ⟨fun f _ => trivial, ?_⟩
  rw [hm.eval, semAt_of hr (by simp)]
  exact hk _ _ hm hh'
theorem s_mdel0 {t t2 : TypeId} {z : Value} {b : Nat} {m : Assoc} {x y : Operand} {k : Int} [i : MapOf P t z] [h : HasAt MapAt H b m F] (hx : ev fr x = .map (some b)) (hy : ev fr y = .int .i64 k)
    (k' : WPL ro P B n ops rest fr (MapAt b (mdel m k) + F) Q) : WPL ro P B n ops (⟨none, .call ⟨.builtin .delete, #[x, y], #[t, t2]⟩, ty, pos, after, none⟩ :: rest) fr H Q := step_val0 fun w hw => by
  rw [h.eq] at hw
  obtain ⟨es, c, hr, hb, ho, hs⟩ := hw.map
  obtain ⟨kt, e, inf, hu, hk, hi, hz⟩ := i.eq
  have hf := run_findKey (P := P) (w := w) hk (MRep.find (k := k) es.toList m 0 hr)
  have hck := run_checkKey (P := P) (w := w) (k := .int .i64 k) hk rfl es.isEmpty 9999
  cases hm : midx m k with
  | none =>
    rw [hm] at hf
    refine ⟨.tuple #[], _, _, ?_, ho.mapUpd (m := m) (es' := es) (c' := c) (m' := mdel m k) ?_ ?_, k'⟩
    · simp [execOp, resolve, invoke, builtin, hx, hy, Builtin.delete_, run_underlying hu, MapKept.run_getObj_map hb, hck, hf, run_setObj_map _ hb, Result.andThen]
    · rw [mdel_none hm]; exact hr
    · exact hs
  | some p =>
    obtain ⟨j, u'⟩ := p
    rw [hm] at hf
    obtain ⟨h1, h2⟩ := MRep.erase es.toList m j u' hr hm
    refine ⟨.tuple #[], _, _, ?_, ho.mapUpd (m := m) (es' := es.eraseIdxIfInBounds j) (c' := c) (m' := mdel m k) ?_ ?_, k'⟩
    · simp [execOp, resolve, invoke, builtin, hx, hy, Builtin.delete_, run_underlying hu, MapKept.run_getObj_map hb, hck, hf, run_setObj_map _ hb, Result.andThen]
    · have hj : j < es.size := by simpa using h2
      unfold Array.eraseIdxIfInBounds
      rw [dif_pos hj, Array.toList_eraseIdx]
      exact h1
    · have hj : j < es.size := by simpa using h2
      unfold Array.eraseIdxIfInBounds
      rw [dif_pos hj, Array.toList_eraseIdx]
      exact hs.sub (List.eraseIdx_sublist _ _)
theorem set_mid0 {A Z : List Value} {a v : Value} : (A ++ a :: Z).set A.length v = A ++ v :: Z := by simp
theorem set_mid1 {A Z : List Value} {a b v : Value} : (A ++ a :: b :: Z).set (A.length + 1) v = A ++ a :: v :: Z := by
  rw [List.set_append_right _ _ (by omega)]; simp
theorem set_mid2 {A Z : List Value} {a b c v : Value} : (A ++ a :: b :: c :: Z).set (A.length + 2) v = A ++ a :: b :: v :: Z := by
  rw [List.set_append_right _ _ (by omega)]; simp
theorem mid0 {p e : Nat} {A Z : List Value} {a : Value} [i : HasBlk H p (A ++ a :: Z) e F] : Cell B H p A.length a := Cell.blk (by simp)
theorem mid1 {p e : Nat} {A Z : List Value} {a b : Value} [i : HasBlk H p (A ++ a :: b :: Z) e F] : Cell B H p (A.length + 1) b := Cell.blk (by rw [List.getElem?_append_right (by omega)]; simp)
theorem mid2 {p e : Nat} {A Z : List Value} {a b c : Value} [i : HasBlk H p (A ++ a :: b :: c :: Z) e F] : Cell B H p (A.length + 2) c := Cell.blk (by rw [List.getElem?_append_right (by omega)]; simp)
theorem s_storeM0 {t e : TypeId} {x y : Operand} {p : Nat} {A Z : List Value} {a v : Value} [i : Plain P t] (hx : ev fr x = .pointer (some ⟨p, A.length, none⟩)) [hb : HasBlk H p (A ++ a :: Z) e F] (hy : ev fr y = v) (h1 : v.oneCell' = true)
    (k : WPL ro P B n ops rest fr (blk p (A ++ v :: Z) e + F) Q) : WPL ro P B n ops (⟨none, .store t x y, ty, pos, after, none⟩ :: rest) fr H Q :=
  s_store (cs' := A ++ v :: Z) hx hy h1 (by simp) set_mid0 k
theorem s_storeM1 {t e : TypeId} {x y : Operand} {p : Nat} {A Z : List Value} {a b v : Value} [i : Plain P t] (hx : ev fr x = .pointer (some ⟨p, A.length + 1, none⟩)) [hb : HasBlk H p (A ++ a :: b :: Z) e F] (hy : ev fr y = v) (h1 : v.oneCell' = true)
    (k : WPL ro P B n ops rest fr (blk p (A ++ a :: v :: Z) e + F) Q) : WPL ro P B n ops (⟨none, .store t x y, ty, pos, after, none⟩ :: rest) fr H Q :=
  s_store (cs' := A ++ a :: v :: Z) hx hy h1 (by simp) set_mid1 k
theorem s_storeM2 {t e : TypeId} {x y : Operand} {p : Nat} {A Z : List Value} {a b c v : Value} [i : Plain P t] (hx : ev fr x = .pointer (some ⟨p, A.length + 2, none⟩)) [hb : HasBlk H p (A ++ a :: b :: c :: Z) e F] (hy : ev fr y = v) (h1 : v.oneCell' = true)
    (k : WPL ro P B n ops rest fr (blk p (A ++ a :: b :: v :: Z) e + F) Q) : WPL ro P B n ops (⟨none, .store t x y, ty, pos, after, none⟩ :: rest) fr H Q :=
  s_store (cs' := A ++ a :: b :: v :: Z) hx hy h1 (by simp) set_mid2 k
end
end Go.SL
