/- Results that lie in memory; an array's element; other operations. No condition. -/
import Derived.Test.YtofgpppnknpblaaDoorSLTools
set_option linter.unusedSimpArgs false
set_option linter.unusedVariables false
namespace Go.SL
open Go Go.RowKit
section
variable {P : Program} {B : World} {fn : Func} {R : Value → HProp → Prop} {e : Exit} {fr : Fr} {H : HProp}

def rvSem (a : Array Value) : ResultVar → Sem Value
  | .tmp t => Pure.pure (a.getD t undef)
  | .cell s t => do loadVar t (← asAddr (a.getD s undef))
/-- What a result's variable holds. -/
def RV (P : Program) (B : World) (fr : Fr) (H : HProp) (r : ResultVar) (v : Value) : Prop :=
  ∀ (a : Array Value) (w : World), (∀ t, a.getD t undef = fr t) → Holds B H w → (rvSem a r).run P w = .ok v w
theorem rv_tmp {t : Nat} {v : Value} (h : fr t = v) : RV P B fr H (.tmp t) v := fun a w ha _ => by subst h; simp [rvSem, ha]
theorem rv_cell {s t b o : Nat} {v : Value} [i : Plain P t] (h : fr s = .pointer (some ⟨b, o, none⟩)) (hc : Cell B H b o v) : RV P B fr H (.cell s t) v := fun a w ha hw => by
  obtain ⟨inf, ds, hi, hu, _, hds⟩ := i.eq
  have hl := hc w hw
  have hagg : (isAgg t).run P w = .ok false w := by cases ds <;> first | exact hds.elim | simp [isAgg, run_underlying hu]
  simp [rvSem, ha, h, asAddr, loadVar, hagg, run_load, hl]
theorem rv_cellA {s t b o sz : Nat} {vs : List Value} [i : Aggr P t sz] (h : fr s = .pointer (some ⟨b, o, none⟩)) (hc : Cells B H b o vs) (hl : vs.length = sz) : RV P B fr H (.cell s t) (.agg vs.toArray) := fun a w ha hw => by
  obtain ⟨inf, ds, hi, hu, hs, hds⟩ := i.eq
  have hld := run_loadCells_list (P := P) w ⟨b, o, none⟩ vs (fun j v hv => by rw [addr_add]; exact hc w hw j v hv)
  have hagg : (isAgg t).run P w = .ok true w := by cases ds <;> first | exact hds.elim | simp [isAgg, run_underlying hu]
  rw [hl] at hld
  simp [rvSem, ha, h, asAddr, loadVar, hagg, sizeOf, typeInfo, hi, hs, hld]
theorem results_rv (a : Array Value) : results fn a = (do
    let vs ← fn.results.mapM (rvSem a)
    Pure.pure (if h : vs.size = 1 then vs[0] else .tuple vs)) := by
  unfold results
  congr 1
theorem retR1 {r : ResultVar} {v : Value} (he : e = .normal ∨ e = .ret) (hr : fn.results = #[r]) (h1 : RV P B fr H r v) (h : R v H) (hds : fr.ds = [] := by rfl) : QRet P B fn R e fr H :=
  ⟨he, v, H, H, by rw [hds]; unfold marks; rw [HProp.emp_add]; exact Ent.refl _, fun a w ha hw => by rw [results_rv, hr]; simp [Array.mapM_eq_mapM_toList, h1 a w ha hw], Ent.refl _, h⟩
theorem retR2 {r s : ResultVar} {v u : Value} (he : e = .normal ∨ e = .ret) (hr : fn.results = #[r, s]) (h1 : RV P B fr H r v) (h2 : RV P B fr H s u) (h : R (.tuple #[v, u]) H) (hds : fr.ds = [] := by rfl) : QRet P B fn R e fr H :=
  ⟨he, _, H, H, by rw [hds]; unfold marks; rw [HProp.emp_add]; exact Ent.refl _, fun a w ha hw => by rw [results_rv, hr]; simp [Array.mapM_eq_mapM_toList, h1 a w ha hw, h2 a w ha hw], Ent.refl _, h⟩
theorem retR3 {r s t : ResultVar} {v u x : Value} (he : e = .normal ∨ e = .ret) (hr : fn.results = #[r, s, t]) (h1 : RV P B fr H r v) (h2 : RV P B fr H s u) (h3 : RV P B fr H t x) (h : R (.tuple #[v, u, x]) H) (hds : fr.ds = [] := by rfl) : QRet P B fn R e fr H :=
  ⟨he, _, H, H, by rw [hds]; unfold marks; rw [HProp.emp_add]; exact Ent.refl _, fun a w ha hw => by rw [results_rv, hr]; simp [Array.mapM_eq_mapM_toList, h1 a w ha hw, h2 a w ha hw, h3 a w ha hw], Ent.refl _, h⟩
end
section
variable {ro : Option Nat} {P : Program} {B : World} {n : Nat} {ops : Array Oper} {rest : List Oper} {fr : Fr} {H : HProp} {Q : Post}
variable {d : Nat} {ty : TypeId} {pos : String} {after : Array Edge}
/-- An element of an array as a value. -/
theorem s_indexV {t e : TypeId} {alen j : Nat} {x ix : Operand} {cs : List Value} {kd : IntKind} {p : Int} {v : Value} [i : ArrayOf P t alen e 1] [pl : Plain P e]
    (hx : ev fr x = .agg cs.toArray) (hix : ev fr ix = .int kd p) (hp : p = (j : Int)) (hlt : j < alen) (hv : cs[j]? = some v) (hd : Nat.blt d n = true)
    (k : WPL ro P B n ops rest (fr.put d v) H Q) : WPL ro P B n ops (⟨some d, .index t x ix, ty, pos, after, none⟩ :: rest) fr H Q := step_pure hd (fun w => by
    obtain ⟨hu, inf, hi, hs⟩ := i.eq
    obtain ⟨inf', ds, hi', hu', _, hds⟩ := pl.eq
    have : execOp (ev fr) ⟨some d, .index t x ix, ty, pos, after, none⟩ = (do Pure.pure (Next.value (← Instr.index t (ev fr x) (ev fr ix)))) := rfl
    subst hp
    have hagg : (isAgg e).run P w = .ok false w := by cases ds <;> first | exact hds.elim | simp [isAgg, run_underlying hu']
    rw [this, hx, hix]
    simp [Instr.index, run_underlying hu, asIntOf, hlt, sizeOf, typeInfo, hi, hs, part, hagg, hv]) k
end
end Go.SL
