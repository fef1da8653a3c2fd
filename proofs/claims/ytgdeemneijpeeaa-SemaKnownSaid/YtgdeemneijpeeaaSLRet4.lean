/- A function of four results returns. No condition. -/
import Derived.Test.YtgdeemneijpeeaaSLWalk2
set_option linter.unusedSimpArgs false
set_option linter.unusedVariables false
namespace Go.SL
open Go Go.RowKit
theorem results_tmp4 {fn : Func} {t u v x : Tmp} (h : fn.results = #[.tmp t, .tmp u, .tmp v, .tmp x]) (tmps : Array Value) (P : Program) (w : World) :
    (results fn tmps).run P w = .ok (.tuple #[tmps.getD t undef, tmps.getD u undef, tmps.getD v undef, tmps.getD x undef]) w := by
  simp [results, h]
theorem ret4 {P : Program} {B : World} {fn : Func} {R : Value → HProp → Prop} {e : Exit} {fr : Fr} {H : HProp} {t u s q : Nat} {v x y z : Value} (he : e = .normal ∨ e = .ret)
    (hr : fn.results = #[.tmp t, .tmp u, .tmp s, .tmp q]) (hv : fr t = v) (hx : fr u = x) (hy : fr s = y) (hz : fr q = z) (h : R (.tuple #[v, x, y, z]) H) (hds : fr.ds = [] := by rfl) : QRet P B fn R e fr H :=
  ⟨he, _, H, H, by rw [hds]; unfold marks; rw [HProp.emp_add]; exact Ent.refl _, fun a w ha _ => by rw [results_tmp4 hr, ha, ha, ha, ha, hv, hx, hy, hz], Ent.refl _, h⟩
end Go.SL
