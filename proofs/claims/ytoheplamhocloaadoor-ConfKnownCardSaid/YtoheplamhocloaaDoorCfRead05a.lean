/- A config's text, cut; it is of one config alone. Plain. -/
import Derived.Test.YtoheplamhocloaaDoorCfConf5
import Derived.Test.YtoheplamhocloaaDoorSL4
namespace Go.Proofs.YtoheplamhocloaaDoor
open Go Go.SL
set_option linter.unusedSimpArgs false
set_option linter.unusedVariables false
theorem join_glue (c : UInt8) : ∀ l : List (List UInt8), Lib.join l [c] = glue c l
  | [] => rfl
  | [x] => Lib.join_one x [c]
  | x :: y :: l => by
    have ih := join_glue c (y :: l)
    show _ = x ++ c :: glue c (y :: l)
    rw [← ih]
    simp [Lib.join, List.intercalate]
theorem toks_no (c : Cfg) : ∀ x ∈ toks c 6, (32 : UInt8) ∉ x := by
  intro x hx
  rw [toks6] at hx
  have hd : ∀ n, (32 : UInt8) ∉ dg n := fun n => dec_no n (.inl (by decide))
  simp only [List.mem_cons, List.not_mem_nil, or_false] at hx
  rcases hx with rfl | rfl | rfl | rfl | rfl | rfl | rfl | rfl | rfl | rfl | rfl | rfl
  all_goals first | exact hd _ | decide
theorem cut_text {c : Cfg} (h : RightP c) : cutAt 32 (textC c) = toks c 6 := by
  unfold textC
  rw [if_pos h, join_glue]
  exact cut_glue (by rw [toks6]; simp) (toks_no c)
theorem nums_eq {c d : Cfg} (hc : RightP c) (hd : RightP d) (h : ∀ i, i < 6 → numAt c i = numAt d i) : c = d := by
  have e : ∀ i, i < 6 → (nums c)[i]? = (nums d)[i]? := fun i hi => by
    rw [(nums_ok hc i hi).1, (nums_ok hd i hi).1, h i hi]
  obtain ⟨n, q, g, m, t, s⟩ := c
  obtain ⟨n', q', g', m', t', s'⟩ := d
  have e0 := e 0 (by omega)
  have e1 := e 1 (by omega)
  have e2 := e 2 (by omega)
  have e3 := e 3 (by omega)
  have e4 := e 4 (by omega)
  have e5 := e 5 (by omega)
  simp at e0 e1 e2 e3 e4 e5
  subst e0 e1 e2 e3 e4 e5
  rfl
theorem text_inj {c d : Cfg} (hc : RightP c) (hd : RightP d) (h : textC c = textC d) : c = d := by
  have e : toks c 6 = toks d 6 := by rw [← cut_text hc, h, cut_text hd]
  rw [toks6, toks6] at e
  simp only [List.cons.injEq, and_true, true_and] at e
  obtain ⟨e0, e1, e2, e3, e4, e5⟩ := e
  refine nums_eq hc hd fun i hi => ?_
  match i, hi with
  | 0, _ => exact dec_inj _ _ e0
  | 1, _ => exact dec_inj _ _ e1
  | 2, _ => exact dec_inj _ _ e2
  | 3, _ => exact dec_inj _ _ e3
  | 4, _ => exact dec_inj _ _ e4
  | 5, _ => exact dec_inj _ _ e5
end Go.Proofs.YtoheplamhocloaaDoor
