/- The closed statement of systems holds. No condition. -/
import Derived.Test.YtlhnmbajbhaaoaaGreatB11
import Derived.Test.YtlhnmbajbhaaoaaGreatSL4
import Derived.Test.YtlhnmbajbhaaoaaGreatRows
namespace Go.Proofs.YtlhnmbajbhaaoaaGreat
open Go Go.SL
set_option linter.unusedVariables false
set_option linter.unusedSimpArgs false

end Go.Proofs.YtlhnmbajbhaaoaaGreat
namespace Go.Proofs.YtlhnmbajbhaaoaaGreat.idealKnown
open Go Go.SL Go.ChangeShapes Go.WideShapes Go.ChangeAt Go.RowKit
set_option linter.unusedVariables false

theorem own : ownKnob Tryz.prog.godebug = none := by kernel_rfl

set_option maxRecDepth 100000 in
theorem lifted (os : Os) (started : os.Started) (H : Type) (enc : TypeId × Value → H) :
    ReturnsInHanded {} Tryz.checked os 5 .any (Rows.idealKnownSpec.pre6 enc Tryz.prog Tryz.f5 Rows.idealKnownRow.domain false) (Rows.idealKnownSpec.post enc Tryz.prog Tryz.f5 false true false false) := by
  refine returnsInHanded_of_change (C := Tryz.checked) own started (by kernel_rfl) Tryz.func5
    (ChangeSpec.witness6 (enc := enc) (C := Tryz.checked) false ⟨#[], #[], []⟩ 8 (by kernel_rfl) (by kernel_rfl) (by kernel_rfl) (by kernel_rfl)) ?_
  intro W base args ds gs before hval0 hW hcnd _
  have hval : ∀ (j : Nat) t v, Tryz.f5.params[j]? = some t → args[j]? = some v → Value.okWide Tryz.prog W .any base t v := hval0
  have hW' := hW
  obtain ⟨p, q, hA0, hV, rfl, hfz, hnd⟩ := hW
  have hA : DataW.TrodAll enc Tryz.prog W 0 (fun _ => true) true Tryz.f5.params.toList args.toList ds p := hA0
  rw [Tryz.params5] at hA hval
  obtain ⟨hargs, rfl, rfl⟩ := trodAll_nil hA
  obtain rfl : args = #[] := by cases args; simp_all
  obtain ⟨rfl, rfl⟩ := trodVars_none hV

  clear hA0 hval0
  have hD : Does Tryz.prog W 5 [] emp fun r _ => r = .bool true := (known_law).mono fun _ _ h => h.2
  refine hD.calls.mono fun e W' ⟨he, hb⟩ => ?_
  subst he
  exact ⟨_, rfl, law_post hW' (by kernel_rfl) (by kernel_rfl) rfl (by kernel_rfl) Tryz.underlying4 rfl rfl rfl hb⟩

theorem over : Rows.idealKnownRow.holds Tryz.pinned (OpenSpec.ofChange Rows.idealKnownSpec) :=
  OpenClaim.holds_of_wide 5 Tryz.f5 rfl rfl rfl rfl rfl rfl rfl ⟨rfl, rfl, rfl, rfl, rfl⟩ rfl rfl rfl rfl rfl (by kernel_rfl) Tryz.func5 (by kernel_rfl)
    (of_decide_eq_true (by kernel_rfl)) (by unfold Func.isWrapper; first | (rw [if_pos (by decide +kernel)]; kernel_rfl) | (rw [if_neg (by decide +kernel)]; exact ⟨rfl, rfl⟩))
    (fun os started H enc _ => lifted os started H enc)
/-- The statement. -/
theorem proved : Rows.IdealKnownSaid := over
end Go.Proofs.YtlhnmbajbhaaoaaGreat.idealKnown
#print axioms Go.Proofs.YtlhnmbajbhaaoaaGreat.idealKnown.proved
