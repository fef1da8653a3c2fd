/- How often a semaphore was gained: it holds at every input. No condition. -/
import Derived.Test.YtgdeemneijpeeaaSmLaw16c
import Derived.Test.YtgdeemneijpeeaaSLOpen
import Derived.Test.YtgdeemneijpeeaaRows
namespace Go.Proofs.Ytgdeemneijpeeaa
open Go Go.SL
set_option linter.unusedVariables false
set_option linter.unusedSimpArgs false
/-- Calls that came in. -/
theorem acts_open {W : World} {v : Value} (h : Has W (.slice 3 (.cat (.int .i64) 1 (.cat (.int .i64) 1 (.cat (.int .i64) 1 .unit)))) [v]) :
    ∃ l : List ActT, (∀ H : HProp, Rd W H 3 v l.length (actsC l)) ∧ ∃ ao cap, v = .slice ao l.length cap ∧ l.length ≤ cap ∧ cap ≤ maxLen := by
  obtain ⟨l, h1, h2⟩ := Has.rd (fun a : ActT => [.int .i64 a.1, .int .i64 a.2.1, .int .i64 a.2.2]) (fun _ => rfl) (by omega) h (by
    rintro r hr ⟨⟨b, h1, _⟩, ⟨x, h2, _⟩, ⟨y, h3, _⟩, _⟩
    match r, hr with
    | [r0, r1, r2], _ =>
      simp at h1 h2 h3
      exact ⟨(b, x, y), by rw [h1, h2, h3]⟩)
  exact ⟨l, fun H => actsC_flat l ▸ h1 H, h2⟩
theorem u8_range {n : Int} (h : (Lit.int .u8 n).wf = true) : 0 ≤ n ∧ n ≤ 255 := by
  simp [Lit.wf, IntKind.min, IntKind.max, IntKind.signed, IntKind.bits] at h
  omega

end Go.Proofs.Ytgdeemneijpeeaa
namespace Go.Proofs.Ytgdeemneijpeeaa.semaGains
open Go Go.SL Go.ChangeShapes Go.WideShapes Go.ChangeAt Go.RowKit
set_option linter.unusedVariables false

theorem own : ownKnob Try.prog.godebug = none := by kernel_rfl

set_option maxRecDepth 100000 in
theorem lifted (os : Os) (started : os.Started) (H : Type) (enc : TypeId × Value → H) :
    ReturnsInHanded {} Try.checked os 3 .any (Rows.semaGainsSpec.pre6 enc Try.prog Try.f3 Rows.semaGainsRow.domain false) (Rows.semaGainsSpec.post enc Try.prog Try.f3 false true false false) := by
  refine returnsInHanded_of_change (C := Try.checked) own started (by kernel_rfl) Try.func3
    (ChangeSpec.witness6 (enc := enc) (C := Try.checked) false ⟨#[], #[.int .u8 0, .int .u8 0, .slice none 0 0], []⟩ 8 (by kernel_rfl) (by kernel_rfl) (by kernel_rfl) (by kernel_rfl)) ?_
  intro W base args ds gs before hval0 hW hcnd _
  have hval : ∀ (j : Nat) t v, Try.f3.params[j]? = some t → args[j]? = some v → Value.okWide Try.prog W .any base t v := hval0
  have hW' := hW
  obtain ⟨p, q, hA0, hV, rfl, hfz, hnd⟩ := hW
  have hA : DataW.TrodAll enc Try.prog W 0 (fun _ => true) true Try.f3.params.toList args.toList ds p := hA0
  rw [Try.params3] at hA hval
  obtain ⟨v0, vs0, d0, ds0, p0, q0, hargs, rfl, rfl, h0, r0⟩ := trodAll_cons hA
  obtain ⟨v1, vs1, d1, ds1, p1, q1, rfl, rfl, rfl, h1, r1⟩ := trodAll_cons r0
  obtain ⟨v2, vs2, d2, ds2, p2, q2, rfl, rfl, rfl, h2, r2⟩ := trodAll_cons r1
  obtain ⟨rfl, rfl, rfl⟩ := trodAll_nil r2
  obtain rfl : args = #[v0, v1, v2] := by cases args; simp_all
  obtain ⟨rfl, rfl⟩ := trodVars_none hV
  obtain ⟨a0, rfl, rfl, rfl, w0⟩ := open_int Try.underlying5 (hval 0 5 v0 rfl rfl) h0
  obtain ⟨a1, rfl, rfl, rfl, w1⟩ := open_int Try.underlying5 (hval 1 5 v1 rfl rfl) h1
  have s2 := open_shape 8 (show shapeOf Try.prog 8 22 = some (.slice 3 (.cat (.int .i64) 1 (.cat (.int .i64) 1 (.cat (.int .i64) 1 .unit)))) by kernel_rfl) h2
  rw [cells_slice Try.underlying22 (hval 2 22 v2 rfl rfl)] at s2
  obtain ⟨l, hl, _⟩ := acts_open s2
  clear hA0 hval0
  have hD : Does Try.prog W 3 [.int .u8 a0, .int .u8 a1, v2] emp fun r _ => r = .bool true := (gains_spec (u8_range w0) (u8_range w1) (hl emp)).mono fun _ _ h => h.2
  refine hD.calls.mono fun e W' ⟨he, hb⟩ => ?_
  subst he
  exact ⟨_, rfl, law_post hW' (by kernel_rfl) (by kernel_rfl) rfl (by kernel_rfl) Try.underlying4 rfl rfl rfl hb⟩

theorem over : Rows.semaGainsRow.holds Try.pinned (OpenSpec.ofChange Rows.semaGainsSpec) :=
  OpenClaim.holds_of_wide 3 Try.f3 rfl rfl rfl rfl rfl rfl rfl ⟨rfl, rfl, rfl, rfl, rfl⟩ rfl rfl rfl rfl rfl (by kernel_rfl) Try.func3 (by kernel_rfl)
    (of_decide_eq_true (by kernel_rfl)) (by unfold Func.isWrapper; first | (rw [if_pos (by decide +kernel)]; kernel_rfl) | (rw [if_neg (by decide +kernel)]; exact ⟨rfl, rfl⟩))
    (fun os started H enc _ => lifted os started H enc)
/-- The statement. -/
theorem proved : Rows.SemaGainsSaid := over
end Go.Proofs.Ytgdeemneijpeeaa.semaGains
#print axioms Go.Proofs.Ytgdeemneijpeeaa.semaGains.proved
