/- Structs of plain fields that are compared. No condition. -/
import Derived.Test.YtofgpppnknpblaaDoorSLTools2
import Derived.Test.YtofgpppnknpblaaDoorSLStr
import Derived.Laws.StructEq
set_option linter.unusedSimpArgs false
set_option linter.unusedVariables false
namespace Go.SL
open Go Go.RowKit
/-- A plain value. -/
inductive Sc where
  | int (k : IntKind) (n : Int)
  | bool (b : Bool)
  | str (l : List UInt8)
deriving DecidableEq
inductive Kd where
  | int (k : IntKind)
  | bool
  | str
deriving DecidableEq
def Sc.val : Sc → Value
  | .int k n => .int k n
  | .bool b => .bool b
  | .str l => .string ⟨l.toArray⟩
def Sc.kd : Sc → Kd
  | .int k _ => .int k
  | .bool _ => .bool
  | .str _ => .str
def Kd.desc : Kd → TypeDesc
  | .int k => .int k
  | .bool => .bool
  | .str => .string
theorem Kd.plain (k : Kd) {P : Program} {t : TypeId} (w : World) (h : P.underlying t = some k.desc) : (isAgg t).run P w = .ok false w := by
  cases k <;> simp [isAgg, run_underlying h, Kd.desc]
theorem Sc.eq_run {P : Program} {t : TypeId} {x y : Sc} (w : World) (d : Nat) (h : P.underlying t = some x.kd.desc) (hy : y.kd = x.kd) : (Op.equalIn (d + 1) t x.val y.val).run P w = .ok (decide (x = y)) w := by
  cases x with
  | int k n =>
    cases y with
    | int k' m =>
      have : k' = k := by simpa [Sc.kd] using hy
      subst this
      simp only [Sc.val]
      rw [run_equalIn_int w d t k' k' n m h]
      by_cases e : n = m <;> simp [e]
    | _ => simp [Sc.kd] at hy
  | bool b =>
    cases y with
    | bool c =>
      simp only [Sc.val]
      rw [run_equalIn_bool' w d t b c h]
      cases b <;> cases c <;> rfl
    | _ => simp [Sc.kd] at hy
  | str l =>
    cases y with
    | str m =>
      simp only [Sc.val]
      rw [run_equalIn_string w d t _ _ h, ba_eq]
      by_cases e : l = m <;> simp [e]
    | _ => simp [Sc.kd] at hy
/-- A struct whose fields are plain, all of them compared. -/
class FlatEq (P : Program) (t : TypeId) (ks : outParam (List Kd)) : Prop where
  und : P.underlying t = some (.struct (P.fieldsOf t))
  held : P.stoodInHeld t = false
  flds : (P.fieldsOf t).toList.map (fun f => (f.name == "_", P.underlying f.type, f.offset)) = (ks.zipIdx 0).map fun p => (false, some p.1.desc, p.2)
  guard : P.eqGuardType P.depth t = false
theorem flat_fields {P : Program} (w : World) (d : Nat) (xs ys : List Sc) (hxy : ys.map Sc.kd = xs.map Sc.kd) : ∀ (fs : List Field) (i : Nat), i ≤ xs.length →
    fs.map (fun f => (f.name == "_", P.underlying f.type, f.offset)) = (((xs.map Sc.kd).drop i).zipIdx i).map (fun p => (false, some p.1.desc, p.2)) →
    (Op.eqFields (d + 1) (xs.map Sc.val).toArray (ys.map Sc.val).toArray fs).run P w = .ok (decide (xs.drop i = ys.drop i)) w
  | [], i, hi, h => by
    have hl := congrArg List.length h
    simp at hl
    have hyl : ys.length = xs.length := by have := congrArg List.length hxy; simpa using this
    rw [List.drop_of_length_le (by omega), List.drop_of_length_le (by omega)]
    simp [Op.eqFields]
  | f :: fs, i, hi, h => by
    have hyl : ys.length = xs.length := by have := congrArg List.length hxy; simpa using this
    have hl := congrArg List.length h
    simp at hl
    have hlt : i < xs.length := by omega
    have hlt2 : i < ys.length := by omega
    have hk : ys[i].kd = xs[i].kd := by
      have := congrArg (fun l : List Kd => l[i]?) hxy
      simpa [hlt, hlt2] using this
    rw [List.drop_eq_getElem_cons (by simpa using hlt)] at h
    simp only [List.map_cons, List.zipIdx_cons, List.cons.injEq, Prod.mk.injEq, List.getElem_map] at h
    obtain ⟨⟨e1, e2, e3⟩, e4⟩ := h
    have ih := flat_fields w d xs ys hxy fs (i + 1) (by omega) e4
    have hp1 : (part f.type (xs.map Sc.val).toArray i).run P w = .ok xs[i].val w := by
      simp [part, Kd.plain _ w e2, hlt, Result.andThen]
    have hp2 : (part f.type (ys.map Sc.val).toArray i).run P w = .ok ys[i].val w := by
      simp [part, Kd.plain _ w e2, hlt2, Result.andThen]
    have hq := Sc.eq_run (x := xs[i]) (y := ys[i]) w d e2 hk
    have hn : f.name ≠ "_" := by simpa using e1
    rw [List.drop_eq_getElem_cons hlt, List.drop_eq_getElem_cons hlt2]
    by_cases he : xs[i] = ys[i]
    · rw [decide_eq_true he] at hq
      simp only [Op.eqFields, Sem.run_bind, Sem.run_ite, hn, e3, hp1, hp2, hq, ne_eq, not_false_eq_true, if_true, Result.andThen_ok, Bool.not_true, Bool.false_eq_true, if_false, ih]
      rw [he]
      generalize xs.drop (i + 1) = A
      generalize ys.drop (i + 1) = C
      generalize ys[i] = z
      congr 1
      simp
    · rw [decide_eq_false he] at hq
      simp only [Op.eqFields, Sem.run_bind, Sem.run_ite, hn, e3, hp1, hp2, hq, ne_eq, not_false_eq_true, if_true, Result.andThen_ok, Bool.not_false, Sem.run_pure]
      generalize xs.drop (i + 1) = A
      generalize ys.drop (i + 1) = C
      generalize xs[i] = y at he
      generalize ys[i] = z at he
      congr 1
      simp [he]
section
variable {ro : Option Nat} {P : Program} {B : World} {n : Nat} {ops : Array Oper} {rest : List Oper} {fr : Fr} {H : HProp} {Q : Post}
variable {d : Nat} {ty : TypeId} {pos : String} {after : Array Edge}
theorem flat_eq {t : TypeId} {ks : List Kd} {xs ys : List Sc} (w : World) [i : FlatEq P t ks] (h1 : xs.map Sc.kd = ks) (h2 : ys.map Sc.kd = ks) :
    (Op.equalIn 10000 t (.agg (xs.map Sc.val).toArray) (.agg (ys.map Sc.val).toArray)).run P w = .ok (decide (xs = ys)) w := by
  rw [run_equalIn_agg w 9999 t _ _ i.und i.held]
  have := flat_fields (P := P) w 9998 xs ys (h2.trans h1.symm) (P.fieldsOf t).toList 0 (Nat.zero_le _) (by rw [i.flds, List.drop_zero, h1])
  rw [this]
  simp
theorem s_eqlF {t yt : TypeId} {ks : List Kd} {x y : Operand} (xs ys : List Sc) {b : Bool} [i : FlatEq P t ks] (hx : ev fr x = .agg (xs.map Sc.val).toArray) (hy : ev fr y = .agg (ys.map Sc.val).toArray)
    (h1 : xs.map Sc.kd = ks) (h2 : ys.map Sc.kd = ks) (hr : decide (xs = ys) = b) (hd : Nat.blt d n = true)
    (k : WPL ro P B n ops rest (fr.put d (.bool b)) H Q) : WPL ro P B n ops (⟨some d, .binOp .eql t x y yt, ty, pos, after, none⟩ :: rest) fr H Q := step_pure hd (fun w => by
    have : execOp (ev fr) ⟨some d, .binOp .eql t x y yt, ty, pos, after, none⟩ = (do Pure.pure (Next.value (← (do eqGuard .eql t x y (ev fr x) (ev fr y); binOp .eql t (ev fr x) (ev fr y))))) := rfl
    rw [this, hx, hy]
    simp [run_eqGuard_agg w .eql t x y _ _ i.guard, run_eql_struct, flat_eq w h1 h2, hr]) k
theorem s_neqF {t yt : TypeId} {ks : List Kd} {x y : Operand} (xs ys : List Sc) {b : Bool} [i : FlatEq P t ks] (hx : ev fr x = .agg (xs.map Sc.val).toArray) (hy : ev fr y = .agg (ys.map Sc.val).toArray)
    (h1 : xs.map Sc.kd = ks) (h2 : ys.map Sc.kd = ks) (hr : (!decide (xs = ys)) = b) (hd : Nat.blt d n = true)
    (k : WPL ro P B n ops rest (fr.put d (.bool b)) H Q) : WPL ro P B n ops (⟨some d, .binOp .neq t x y yt, ty, pos, after, none⟩ :: rest) fr H Q := step_pure hd (fun w => by
    have : execOp (ev fr) ⟨some d, .binOp .neq t x y yt, ty, pos, after, none⟩ = (do Pure.pure (Next.value (← (do eqGuard .neq t x y (ev fr x) (ev fr y); binOp .neq t (ev fr x) (ev fr y))))) := rfl
    rw [this, hx, hy]
    subst hr
    simp [run_eqGuard_agg w .neq t x y _ _ i.guard, run_neq_struct, flat_eq w h1 h2]) k
end
end Go.SL
