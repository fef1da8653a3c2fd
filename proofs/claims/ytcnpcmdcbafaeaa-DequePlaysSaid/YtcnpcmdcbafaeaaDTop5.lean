/- Whatever is called on two deques: it holds at every input. No condition. -/
import Derived.Test.YtcnpcmdcbafaeaaDLaw5
import Derived.Test.YtcnpcmdcbafaeaaSLOpen
import Derived.Test.YtcnpcmdcbafaeaaRows
namespace Go.Proofs.Ytcnpcmdcbafaeaa
open Go Go.SL
set_option linter.unusedVariables false
set_option linter.unusedSimpArgs false
theorem u8_range {n : Int} (h : (Lit.int .u8 n).wf = true) : 0 ≤ n ∧ n ≤ 255 := by
  simp [Lit.wf, IntKind.min, IntKind.max, IntKind.signed, IntKind.bits] at h
  omega

end Go.Proofs.Ytcnpcmdcbafaeaa
namespace Go.Proofs.Ytcnpcmdcbafaeaa.dequePlays
open Go Go.SL Go.ChangeShapes Go.WideShapes Go.ChangeAt Go.RowKit
set_option linter.unusedVariables false

theorem own : ownKnob Try.prog.godebug = none := by kernel_rfl

set_option maxRecDepth 100000 in
theorem lifted (os : Os) (started : os.Started) (H : Type) (enc : TypeId × Value → H) :
    ReturnsInHanded {} Try.checked os 5 .any (Rows.dequePlaysSpec.pre6 enc Try.prog Try.f5 Rows.dequePlaysRow.domain false) (Rows.dequePlaysSpec.post enc Try.prog Try.f5 false true false false) := by
  refine returnsInHanded_of_change (C := Try.checked) own started (by kernel_rfl) Try.func5
    (ChangeSpec.witness6 (enc := enc) (C := Try.checked) false ⟨#[], #[.int .i64 0, .int .u8 0, .slice none 0 0, .slice none 0 0, .int .i64 0], []⟩ 8 (by kernel_rfl) (by kernel_rfl) (by kernel_rfl) (by kernel_rfl)) ?_
  intro W base args ds gs before hval0 hW hcnd _
  have hval : ∀ (j : Nat) t v, Try.f5.params[j]? = some t → args[j]? = some v → Value.okWide Try.prog W .any base t v := hval0
  have hW' := hW
  obtain ⟨p, q, hA0, hV, rfl, hfz, hnd⟩ := hW
  have hA : DataW.TrodAll enc Try.prog W 0 (fun _ => true) true Try.f5.params.toList args.toList ds p := hA0
  rw [Try.params5] at hA hval
  obtain ⟨v0, vs0, d0, ds0, p0, q0, hargs, rfl, rfl, h0, r0⟩ := trodAll_cons hA
  obtain ⟨v1, vs1, d1, ds1, p1, q1, rfl, rfl, rfl, h1, r1⟩ := trodAll_cons r0
  obtain ⟨v2, vs2, d2, ds2, p2, q2, rfl, rfl, rfl, h2, r2⟩ := trodAll_cons r1
  obtain ⟨v3, vs3, d3, ds3, p3, q3, rfl, rfl, rfl, h3, r3⟩ := trodAll_cons r2
  obtain ⟨v4, vs4, d4, ds4, p4, q4, rfl, rfl, rfl, h4, r4⟩ := trodAll_cons r3
  obtain ⟨rfl, rfl, rfl⟩ := trodAll_nil r4
  obtain rfl : args = #[v0, v1, v2, v3, v4] := by cases args; simp_all
  obtain ⟨rfl, rfl⟩ := trodVars_none hV
  obtain ⟨a0, rfl, rfl, rfl, w0⟩ := open_int Try.underlying3 (hval 0 3 v0 rfl rfl) h0
  obtain ⟨a1, rfl, rfl, rfl, w1⟩ := open_int Try.underlying5 (hval 1 5 v1 rfl rfl) h1
  have s2 := open_shape 8 (show shapeOf Try.prog 8 22 = some (.slice 1 (.int .i64)) by kernel_rfl) h2
  rw [cells_slice Try.underlying22 (hval 2 22 v2 rfl rfl)] at s2
  have s3 := open_shape 8 (show shapeOf Try.prog 8 39 = some (.slice 3 (.cat (.int .i64) 1 (.cat (.int .i64) 1 (.cat (.slice 1 (.int .i64)) 1 .unit)))) by kernel_rfl) h3
  rw [cells_slice Try.underlying39 (hval 3 39 v3 rfl rfl)] at s3
  obtain ⟨a4, rfl, rfl, rfl, w4⟩ := open_int Try.underlying3 (hval 4 3 v4 rfl rfl) h4
  obtain ⟨l, hl, ao, cap, rfl, hlc, _⟩ := ints_open0 s2
  obtain ⟨acts, hacts, hgood, _⟩ := qacts_open s3
  clear hA0 hval0
  have hD : Does Try.prog W 5 [.int .i64 a0, .int .u8 a1, .slice ao l.length cap, v3, .int .i64 a4] emp fun r _ => r = .bool true := (plays_spec (u8_range w1) (hacts emp) (fun a ha => ⟨(hgood a ha).1, (hgood a ha).2 emp⟩) (hl emp) hlc).mono fun _ _ h => h.2
  refine hD.calls.mono fun e W' ⟨he, hb⟩ => ?_
  subst he
  exact ⟨_, rfl, law_post hW' (by kernel_rfl) (by kernel_rfl) rfl (by kernel_rfl) Try.underlying4 rfl rfl rfl hb⟩

theorem over : Rows.dequePlaysRow.holds Try.pinned (OpenSpec.ofChange Rows.dequePlaysSpec) :=
  OpenClaim.holds_of_wide 5 Try.f5 rfl rfl rfl rfl rfl rfl rfl ⟨rfl, rfl, rfl, rfl, rfl⟩ rfl rfl rfl rfl rfl (by kernel_rfl) Try.func5 (by kernel_rfl)
    (of_decide_eq_true (by kernel_rfl)) (by unfold Func.isWrapper; first | (rw [if_pos (by decide +kernel)]; kernel_rfl) | (rw [if_neg (by decide +kernel)]; exact ⟨rfl, rfl⟩))
    (fun os started H enc _ => lifted os started H enc)
/-- The statement. -/
theorem proved : Rows.DequePlaysSaid := over
end Go.Proofs.Ytcnpcmdcbafaeaa.dequePlays
#print axioms Go.Proofs.Ytcnpcmdcbafaeaa.dequePlays.proved
