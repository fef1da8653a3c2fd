/- Never more ahead than there were: it holds at every input. No condition. -/
import Derived.Test.YtcnpcmdcbafaeaaDLaw4
import Derived.Test.YtcnpcmdcbafaeaaSLOpen
import Derived.Test.YtcnpcmdcbafaeaaRows
namespace Go.Proofs.Ytcnpcmdcbafaeaa
open Go Go.SL
set_option linter.unusedVariables false
set_option linter.unusedSimpArgs false
/-- Numbers that came in. -/
theorem ints_open {W : World} {v : Value} (h : Has W (.slice 1 (.int .i64)) [v]) :
    ∃ l : List Int, (∀ H : HProp, Rd W H 1 v l.length (zs l)) ∧ ∃ ao cap, v = .slice ao l.length cap ∧ l.length ≤ cap ∧ cap ≤ maxLen := by
  have e : ∀ l : List Int, l.flatMap (fun x => [Value.int .i64 x]) = zs l := fun l => by induction l with
    | nil => rfl
    | cons x l ih => simp only [List.flatMap_cons, ih]; rfl
  obtain ⟨l, h1, h2⟩ := Has.rd (fun x : Int => [.int .i64 x]) (fun _ => rfl) Nat.zero_lt_one h (fun r _ ⟨n, hn, _⟩ => ⟨n, hn⟩)
  exact ⟨l, fun H => e l ▸ h1 H, h2⟩
theorem u8_range {n : Int} (h : (Lit.int .u8 n).wf = true) : 0 ≤ n ∧ n ≤ 255 := by
  simp [Lit.wf, IntKind.min, IntKind.max, IntKind.signed, IntKind.bits] at h
  omega

theorem ahead_spec {B : World} {F : HProp} {s : Value} {n : Int} {l : List Int} (hn : 0 ≤ n ∧ n ≤ 255) (hs : Rd B F 1 s l.length (zs l)) : Does Try.prog B 4 [.int .u8 n, s] F fun r H' => Ent H' F ∧ r = .bool true := by
  by_cases h : l.length ≤ 150
  · exact ahead_main hn hs h
  · exact ahead_early hs (by omega)
end Go.Proofs.Ytcnpcmdcbafaeaa
namespace Go.Proofs.Ytcnpcmdcbafaeaa.dequeAhead
open Go Go.SL Go.ChangeShapes Go.WideShapes Go.ChangeAt Go.RowKit
set_option linter.unusedVariables false

theorem own : ownKnob Try.prog.godebug = none := by kernel_rfl

set_option maxRecDepth 100000 in
theorem lifted (os : Os) (started : os.Started) (H : Type) (enc : TypeId × Value → H) :
    ReturnsInHanded {} Try.checked os 4 .any (Rows.dequeAheadSpec.pre6 enc Try.prog Try.f4 Rows.dequeAheadRow.domain false) (Rows.dequeAheadSpec.post enc Try.prog Try.f4 false true false false) := by
  refine returnsInHanded_of_change (C := Try.checked) own started (by kernel_rfl) Try.func4
    (ChangeSpec.witness6 (enc := enc) (C := Try.checked) false ⟨#[], #[.int .u8 0, .slice none 0 0], []⟩ 8 (by kernel_rfl) (by kernel_rfl) (by kernel_rfl) (by kernel_rfl)) ?_
  intro W base args ds gs before hval0 hW hcnd _
  have hval : ∀ (j : Nat) t v, Try.f4.params[j]? = some t → args[j]? = some v → Value.okWide Try.prog W .any base t v := hval0
  have hW' := hW
  obtain ⟨p, q, hA0, hV, rfl, hfz, hnd⟩ := hW
  have hA : DataW.TrodAll enc Try.prog W 0 (fun _ => true) true Try.f4.params.toList args.toList ds p := hA0
  rw [Try.params4] at hA hval
  obtain ⟨v0, vs0, d0, ds0, p0, q0, hargs, rfl, rfl, h0, r0⟩ := trodAll_cons hA
  obtain ⟨v1, vs1, d1, ds1, p1, q1, rfl, rfl, rfl, h1, r1⟩ := trodAll_cons r0
  obtain ⟨rfl, rfl, rfl⟩ := trodAll_nil r1
  obtain rfl : args = #[v0, v1] := by cases args; simp_all
  obtain ⟨rfl, rfl⟩ := trodVars_none hV
  obtain ⟨a0, rfl, rfl, rfl, w0⟩ := open_int Try.underlying5 (hval 0 5 v0 rfl rfl) h0
  have s1 := open_shape 8 (show shapeOf Try.prog 8 22 = some (.slice 1 (.int .i64)) by kernel_rfl) h1
  rw [cells_slice Try.underlying22 (hval 1 22 v1 rfl rfl)] at s1
  obtain ⟨l, hl, _⟩ := ints_open s1
  clear hA0 hval0
  have hD : Does Try.prog W 4 [.int .u8 a0, v1] emp fun r _ => r = .bool true := (ahead_spec (u8_range w0) (hl emp)).mono fun _ _ h => h.2
  refine hD.calls.mono fun e W' ⟨he, hb⟩ => ?_
  subst he
  exact ⟨_, rfl, law_post hW' (by kernel_rfl) (by kernel_rfl) rfl (by kernel_rfl) Try.underlying4 rfl rfl rfl hb⟩

theorem over : Rows.dequeAheadRow.holds Try.pinned (OpenSpec.ofChange Rows.dequeAheadSpec) :=
  OpenClaim.holds_of_wide 4 Try.f4 rfl rfl rfl rfl rfl rfl rfl ⟨rfl, rfl, rfl, rfl, rfl⟩ rfl rfl rfl rfl rfl (by kernel_rfl) Try.func4 (by kernel_rfl)
    (of_decide_eq_true (by kernel_rfl)) (by unfold Func.isWrapper; first | (rw [if_pos (by decide +kernel)]; kernel_rfl) | (rw [if_neg (by decide +kernel)]; exact ⟨rfl, rfl⟩))
    (fun os started H enc _ => lifted os started H enc)
/-- The statement. -/
theorem proved : Rows.DequeAheadSaid := over
end Go.Proofs.Ytcnpcmdcbafaeaa.dequeAhead
#print axioms Go.Proofs.Ytcnpcmdcbafaeaa.dequeAhead.proved
