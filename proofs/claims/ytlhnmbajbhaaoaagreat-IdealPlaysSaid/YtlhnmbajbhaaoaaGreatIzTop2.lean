/- Notes that are taken one by one: it holds at every input. No condition. -/
import Derived.Test.YtlhnmbajbhaaoaaGreatB9
import Derived.Test.YtlhnmbajbhaaoaaGreatSL4
import Derived.Test.YtlhnmbajbhaaoaaGreatRows
namespace Go.Proofs.YtlhnmbajbhaaoaaGreat
open Go Go.SL
set_option linter.unusedVariables false
set_option linter.unusedSimpArgs false
/-- Cells of a note. -/
theorem note_cells {W : World} {l : List Value} (h : Has W (.cat (.int .i64) 1 (.cat (.int .i64) 1 (.cat (.int .i64) 1 (.cat (.int .i64) 1 (.cat (.int .i64) 1 .unit))))) l) : ∃ n : Nt, l = nv n := by
  obtain ⟨⟨k, h1, _⟩, ⟨g, h2, _⟩, ⟨p, h3, _⟩, ⟨m, h4, _⟩, ⟨x, h5, _⟩, h7⟩ := h
  refine ⟨⟨k, g, p, m, x⟩, ?_⟩
  match l with
  | [] => simp at h1
  | [_] => simp at h2
  | [_, _] => simp at h3
  | [_, _, _] => simp at h4
  | [_, _, _, _] => simp at h5
  | [a, b, c, d, e] =>
    simp at h1 h2 h3 h4 h5
    rw [h1, h2, h3, h4, h5]
  | a :: b :: c :: d :: e :: f :: l => exact absurd (show (f :: l) = [] from h7) (by simp)
/-- A note that came in. -/
theorem note_open {W : World} {cs : Array Value} (h : Has W (.cat (.int .i64) 1 (.cat (.int .i64) 1 (.cat (.int .i64) 1 (.cat (.int .i64) 1 (.cat (.int .i64) 1 .unit))))) (Value.agg cs).cells.toList) : ∃ n : Nt, cs = (nv n).toArray := by
  obtain ⟨n, e⟩ := note_cells (show Has W (.cat (.int .i64) 1 (.cat (.int .i64) 1 (.cat (.int .i64) 1 (.cat (.int .i64) 1 (.cat (.int .i64) 1 .unit))))) cs.toList from h)
  exact ⟨n, by rw [← e]⟩
/-- A config that came in. -/
theorem cfg_open {W : World} {cs : Array Value} (h : Has W (.cat (.int .i64) 1 (.cat (.int .i64) 1 (.cat (.int .i64) 1 (.cat (.int .i64) 1 (.cat (.int .i64) 1 (.cat (.int .i64) 1 .unit)))))) (Value.agg cs).cells.toList) : ∃ c : Cfg, cs = (cv c).toArray := by
  obtain ⟨⟨k, h1, _⟩, ⟨g, h2, _⟩, ⟨p, h3, _⟩, ⟨m, h4, _⟩, ⟨x, h5, _⟩, ⟨y, h6, _⟩, h7⟩ := (show Has W (.cat (.int .i64) 1 (.cat (.int .i64) 1 (.cat (.int .i64) 1 (.cat (.int .i64) 1 (.cat (.int .i64) 1 (.cat (.int .i64) 1 .unit)))))) cs.toList from h)
  refine ⟨⟨k, g, p, m, x, y⟩, ?_⟩
  have e : cs.toList = cv ⟨k, g, p, m, x, y⟩ := by
    generalize cs.toList = l at *
    match l with
    | [] => simp at h1
    | [_] => simp at h2
    | [_, _] => simp at h3
    | [_, _, _] => simp at h4
    | [_, _, _, _] => simp at h5
    | [_, _, _, _, _] => simp at h6
    | [a, b, c, d, e, f] =>
      simp at h1 h2 h3 h4 h5 h6
      rw [h1, h2, h3, h4, h5, h6]
    | a :: b :: c :: d :: e :: f :: i :: l => exact absurd (show (i :: l) = [] from h7) (by simp)
  rw [← e]
/-- A row of notes. -/
theorem notes_open {W : World} {v : Value} (h : Has W (.slice 5 (.cat (.int .i64) 1 (.cat (.int .i64) 1 (.cat (.int .i64) 1 (.cat (.int .i64) 1 (.cat (.int .i64) 1 .unit)))))) [v]) :
    ∃ l : List Nt, (∀ H : HProp, Rd W H 5 v l.length (nvs l)) ∧ ∃ ao cap, v = .slice ao l.length cap ∧ l.length ≤ cap ∧ cap ≤ maxLen := by
  have e : ∀ l : List Nt, l.flatMap (fun x => nv x) = nvs l := fun l => by induction l with
    | nil => rfl
    | cons x l ih => simp only [List.flatMap_cons, ih]; rfl
  obtain ⟨l, h1, h2⟩ := Has.rd (fun x : Nt => nv x) (fun _ => rfl) (by omega) h (fun r _ h => let ⟨n, hn⟩ := note_cells h; ⟨n, hn⟩)
  exact ⟨l, fun H => e l ▸ h1 H, h2⟩

end Go.Proofs.YtlhnmbajbhaaoaaGreat
namespace Go.Proofs.YtlhnmbajbhaaoaaGreat.idealPlays
open Go Go.SL Go.ChangeShapes Go.WideShapes Go.ChangeAt Go.RowKit
set_option linter.unusedVariables false

theorem own : ownKnob Tryz.prog.godebug = none := by kernel_rfl

set_option maxRecDepth 100000 in
theorem lifted (os : Os) (started : os.Started) (H : Type) (enc : TypeId × Value → H) :
    ReturnsInHanded {} Tryz.checked os 4 .any (Rows.idealPlaysSpec.pre6 enc Tryz.prog Tryz.f4 Rows.idealPlaysRow.domain false) (Rows.idealPlaysSpec.post enc Tryz.prog Tryz.f4 false true false false) := by
  refine returnsInHanded_of_change (C := Tryz.checked) own started (by kernel_rfl) Tryz.func4
    (ChangeSpec.witness6 (enc := enc) (C := Tryz.checked) false ⟨#[], #[.agg #[.int .i64 0, .int .i64 0, .int .i64 0, .int .i64 0, .int .i64 0, .int .i64 0], .slice none 0 0], []⟩ 8 (by kernel_rfl) (by kernel_rfl) (by kernel_rfl) (by kernel_rfl)) ?_
  intro W base args ds gs before hval0 hW hcnd _
  have hval : ∀ (j : Nat) t v, Tryz.f4.params[j]? = some t → args[j]? = some v → Value.okWide Tryz.prog W .any base t v := hval0
  have hW' := hW
  obtain ⟨p, q, hA0, hV, rfl, hfz, hnd⟩ := hW
  have hA : DataW.TrodAll enc Tryz.prog W 0 (fun _ => true) true Tryz.f4.params.toList args.toList ds p := hA0
  rw [Tryz.params4] at hA hval
  obtain ⟨v0, vs0, d0, ds0, p0, q0, hargs, rfl, rfl, h0, r0⟩ := trodAll_cons hA
  obtain ⟨v1, vs1, d1, ds1, p1, q1, rfl, rfl, rfl, h1, r1⟩ := trodAll_cons r0
  obtain ⟨rfl, rfl, rfl⟩ := trodAll_nil r1
  obtain rfl : args = #[v0, v1] := by cases args; simp_all
  obtain ⟨rfl, rfl⟩ := trodVars_none hV
  have s0 := open_shape 8 (show shapeOf Tryz.prog 8 23 = some (.cat (.int .i64) 1 (.cat (.int .i64) 1 (.cat (.int .i64) 1 (.cat (.int .i64) 1 (.cat (.int .i64) 1 (.cat (.int .i64) 1 .unit)))))) by kernel_rfl) h0
  obtain ⟨cs0, rfl, _⟩ := okWide_struct Tryz.underlying23 (hval 0 23 v0 rfl rfl)
  have s1 := open_shape 8 (show shapeOf Tryz.prog 8 24 = some (.slice 5 (.cat (.int .i64) 1 (.cat (.int .i64) 1 (.cat (.int .i64) 1 (.cat (.int .i64) 1 (.cat (.int .i64) 1 .unit)))))) by kernel_rfl) h1
  rw [cells_slice Tryz.underlying24 (hval 1 24 v1 rfl rfl)] at s1
  obtain ⟨c, rfl⟩ := cfg_open s0
  obtain ⟨l, hl, ao, cap, rfl, _, _⟩ := notes_open s1
  clear hA0 hval0
  have hD : Does Tryz.prog W 4 [cfgV c, .slice ao l.length cap] emp fun r _ => r = .bool true := (plays_law (hl emp)).mono fun _ _ h => h.2
  refine hD.calls.mono fun e W' ⟨he, hb⟩ => ?_
  subst he
  exact ⟨_, rfl, law_post hW' (by kernel_rfl) (by kernel_rfl) rfl (by kernel_rfl) Tryz.underlying4 rfl rfl rfl hb⟩

theorem over : Rows.idealPlaysRow.holds Tryz.pinned (OpenSpec.ofChange Rows.idealPlaysSpec) :=
  OpenClaim.holds_of_wide 4 Tryz.f4 rfl rfl rfl rfl rfl rfl rfl ⟨rfl, rfl, rfl, rfl, rfl⟩ rfl rfl rfl rfl rfl (by kernel_rfl) Tryz.func4 (by kernel_rfl)
    (of_decide_eq_true (by kernel_rfl)) (by unfold Func.isWrapper; first | (rw [if_pos (by decide +kernel)]; kernel_rfl) | (rw [if_neg (by decide +kernel)]; exact ⟨rfl, rfl⟩))
    (fun os started H enc _ => lifted os started H enc)
/-- The statement. -/
theorem proved : Rows.IdealPlaysSaid := over
end Go.Proofs.YtlhnmbajbhaaoaaGreat.idealPlays
#print axioms Go.Proofs.YtlhnmbajbhaaoaaGreat.idealPlays.proved
