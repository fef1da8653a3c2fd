/- A system that is not there: it holds at every input. No condition. -/
import Derived.Test.YtlhnmbajbhaaoaaIdLaw27a
import Derived.Test.YtlhnmbajbhaaoaaSL4
import Derived.Test.YtlhnmbajbhaaoaaRows
namespace Go.Proofs.Ytlhnmbajbhaaoaa
open Go Go.SL
set_option linter.unusedVariables false
set_option linter.unusedSimpArgs false
/-- Cells of a note. -/
theorem note_cells {W : World} {l : List Value} (h : Has W (.cat (.int .i64) 1 (.cat (.int .i64) 1 (.cat (.int .i64) 1 (.cat (.int .i64) 1 (.cat (.int .i64) 1 .unit))))) l) : ∃ n : Nt, l = nv n := by
  obtain ⟨⟨k, h1, _⟩, ⟨g, h2, _⟩, ⟨p, h3, _⟩, ⟨m, h4, _⟩, ⟨x, h5, _⟩, h7⟩ := h
  refine ⟨⟨k, g, p, m, x⟩, ?_⟩
  match l with
  | [] => simp at h1
  | [_] => simp at h2
  | [_, _] => simp at h3
  | [_, _, _] => simp at h4
  | [_, _, _, _] => simp at h5
  | [a, b, c, d, e] =>
    simp at h1 h2 h3 h4 h5
    rw [h1, h2, h3, h4, h5]
  | a :: b :: c :: d :: e :: f :: l => exact absurd (show (f :: l) = [] from h7) (by simp)
/-- A note that came in. -/
theorem note_open {W : World} {cs : Array Value} (h : Has W (.cat (.int .i64) 1 (.cat (.int .i64) 1 (.cat (.int .i64) 1 (.cat (.int .i64) 1 (.cat (.int .i64) 1 .unit))))) (Value.agg cs).cells.toList) : ∃ n : Nt, cs = (nv n).toArray := by
  obtain ⟨n, e⟩ := note_cells (show Has W (.cat (.int .i64) 1 (.cat (.int .i64) 1 (.cat (.int .i64) 1 (.cat (.int .i64) 1 (.cat (.int .i64) 1 .unit))))) cs.toList from h)
  exact ⟨n, by rw [← e]⟩

end Go.Proofs.Ytlhnmbajbhaaoaa
namespace Go.Proofs.Ytlhnmbajbhaaoaa.idealNone
open Go Go.SL Go.ChangeShapes Go.WideShapes Go.ChangeAt Go.RowKit
set_option linter.unusedVariables false

theorem own : ownKnob Try.prog.godebug = none := by kernel_rfl

set_option maxRecDepth 100000 in
theorem lifted (os : Os) (started : os.Started) (H : Type) (enc : TypeId × Value → H) :
    ReturnsInHanded {} Try.checked os 4 .any (Rows.idealNoneSpec.pre6 enc Try.prog Try.f4 Rows.idealNoneRow.domain false) (Rows.idealNoneSpec.post enc Try.prog Try.f4 false true false false) := by
  refine returnsInHanded_of_change (C := Try.checked) own started (by kernel_rfl) Try.func4
    (ChangeSpec.witness6 (enc := enc) (C := Try.checked) false ⟨#[], #[.agg #[.int .i64 0, .int .i64 0, .int .i64 0, .int .i64 0, .int .i64 0], .int .i64 0], []⟩ 8 (by kernel_rfl) (by kernel_rfl) (by kernel_rfl) (by kernel_rfl)) ?_
  intro W base args ds gs before hval0 hW hcnd _
  have hval : ∀ (j : Nat) t v, Try.f4.params[j]? = some t → args[j]? = some v → Value.okWide Try.prog W .any base t v := hval0
  have hW' := hW
  obtain ⟨p, q, hA0, hV, rfl, hfz, hnd⟩ := hW
  have hA : DataW.TrodAll enc Try.prog W 0 (fun _ => true) true Try.f4.params.toList args.toList ds p := hA0
  rw [Try.params4] at hA hval
  obtain ⟨v0, vs0, d0, ds0, p0, q0, hargs, rfl, rfl, h0, r0⟩ := trodAll_cons hA
  obtain ⟨v1, vs1, d1, ds1, p1, q1, rfl, rfl, rfl, h1, r1⟩ := trodAll_cons r0
  obtain ⟨rfl, rfl, rfl⟩ := trodAll_nil r1
  obtain rfl : args = #[v0, v1] := by cases args; simp_all
  obtain ⟨rfl, rfl⟩ := trodVars_none hV
  have s0 := open_shape 8 (show shapeOf Try.prog 8 33 = some (.cat (.int .i64) 1 (.cat (.int .i64) 1 (.cat (.int .i64) 1 (.cat (.int .i64) 1 (.cat (.int .i64) 1 .unit))))) by kernel_rfl) h0
  obtain ⟨cs0, rfl, _⟩ := okWide_struct Try.underlying33 (hval 0 33 v0 rfl rfl)
  obtain ⟨a1, rfl, rfl, rfl, w1⟩ := open_int Try.underlying3 (hval 1 3 v1 rfl rfl) h1
  obtain ⟨n, rfl⟩ := note_open s0
  clear hA0 hval0
  have hD : Does Try.prog W 4 [noteV n, .int .i64 a1] emp fun r _ => r = .bool true := (none_law).mono fun _ _ h => h.2
  refine hD.calls.mono fun e W' ⟨he, hb⟩ => ?_
  subst he
  exact ⟨_, rfl, law_post hW' (by kernel_rfl) (by kernel_rfl) rfl (by kernel_rfl) Try.underlying4 rfl rfl rfl hb⟩

theorem over : Rows.idealNoneRow.holds Try.pinned (OpenSpec.ofChange Rows.idealNoneSpec) :=
  OpenClaim.holds_of_wide 4 Try.f4 rfl rfl rfl rfl rfl rfl rfl ⟨rfl, rfl, rfl, rfl, rfl⟩ rfl rfl rfl rfl rfl (by kernel_rfl) Try.func4 (by kernel_rfl)
    (of_decide_eq_true (by kernel_rfl)) (by unfold Func.isWrapper; first | (rw [if_pos (by decide +kernel)]; kernel_rfl) | (rw [if_neg (by decide +kernel)]; exact ⟨rfl, rfl⟩))
    (fun os started H enc _ => lifted os started H enc)
/-- The statement. -/
theorem proved : Rows.IdealNoneSaid := over
end Go.Proofs.Ytlhnmbajbhaaoaa.idealNone
#print axioms Go.Proofs.Ytlhnmbajbhaaoaa.idealNone.proved
