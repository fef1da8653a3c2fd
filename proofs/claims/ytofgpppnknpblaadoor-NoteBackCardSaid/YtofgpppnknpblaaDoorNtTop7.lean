/- What was told is read as it was: it holds at every input. No condition. -/
import Derived.Test.YtofgpppnknpblaaDoorNtLaw26d
import Derived.Test.YtofgpppnknpblaaDoorSL4
import Derived.Test.YtofgpppnknpblaaDoorRows
import Derived.Test.YtofgpppnknpblaaDoorCards
import Derived.Test.YtofgpppnknpblaaDoorTie
import Derived.LaidMore
import Derived.Stop.Joined
import Derived.SevenTiedAt
import Derived.Lib.LaidTab
import Derived.Stop.LaidErr
import Derived.Lay
namespace Go.Proofs.YtofgpppnknpblaaDoor
open Go Go.SL
set_option linter.unusedVariables false
set_option linter.unusedSimpArgs false
/-- A number of 64 bits. -/
theorem i64_top {n : Int} (h : (Lit.int .i64 n).wf = true) : n < 9223372036854775808 := by
  simp [Lit.wf, IntKind.min, IntKind.max, IntKind.signed, IntKind.bits] at h
  omega
/-- Cells of a note. -/
theorem note_cells {W : World} {l : List Value} (h : Has W (.cat (.int .i64) 1 (.cat (.int .i64) 1 (.cat (.int .i64) 1 (.cat (.int .i64) 1 (.cat (.int .i64) 1 .unit))))) l) : ∃ n : Nt, l = nv n ∧ nsOk n := by
  obtain ⟨⟨k, h1, _⟩, ⟨g, h2, r2⟩, ⟨p, h3, r3⟩, ⟨m, h4, r4⟩, ⟨x, h5, r5⟩, h7⟩ := h
  refine ⟨⟨k, g, p, m, x⟩, ?_, small_ok ⟨i64_top r2, i64_top r3, i64_top r4, i64_top r5⟩⟩
  match l with
  | [] => simp at h1
  | [_] => simp at h2
  | [_, _] => simp at h3
  | [_, _, _] => simp at h4
  | [_, _, _, _] => simp at h5
  | [a, b, c, d, e] =>
    simp at h1 h2 h3 h4 h5
    rw [h1, h2, h3, h4, h5]
  | a :: b :: c :: d :: e :: f :: l => exact absurd (show (f :: l) = [] from h7) (by simp)
/-- A note that came in. -/
theorem note_open {W : World} {cs : Array Value} (h : Has W (.cat (.int .i64) 1 (.cat (.int .i64) 1 (.cat (.int .i64) 1 (.cat (.int .i64) 1 (.cat (.int .i64) 1 .unit))))) (Value.agg cs).cells.toList) : ∃ n : Nt, cs = (nv n).toArray ∧ nsOk n := by
  obtain ⟨n, e, hn⟩ := note_cells (show Has W (.cat (.int .i64) 1 (.cat (.int .i64) 1 (.cat (.int .i64) 1 (.cat (.int .i64) 1 (.cat (.int .i64) 1 .unit))))) cs.toList from h)
  exact ⟨n, by rw [← e], hn⟩

end Go.Proofs.YtofgpppnknpblaaDoor
namespace Go.Proofs.YtofgpppnknpblaaDoor.noteBack
open Go Go.SL Go.ChangeShapes Go.WideShapes Go.ChangeAt Go.RowKit
set_option linter.unusedVariables false

theorem own : ownKnob Tryd.prog.godebug = none := by kernel_rfl

theorem all_met (os : Os) (args : Array Value) : laidMetH Tryd.prog Rows.noteBackRow.laid ((World.laidAll Tryd.prog os Rows.noteBackRow.laid).forCall (fun _ _ => 0) ⟨#[], args, []⟩).memory := by
  rw [MakeChecks.laidMetH_plain _ _ _ (by kernel_rfl)]
  exact laidMet_laidAll _ (by kernel_rfl) (by kernel_rfl)
theorem tab_of {W : World} (h : laidMetH Tryd.prog Rows.noteBackRow.laid W) : Tab W := by
  rw [MakeChecks.laidMetH_plain _ _ _ (by kernel_rfl)] at h
  have h' := laidMet.tail (laidMet.tail (h))
  exact Lib.tabBelow_of_tabIs (Lib.tabIs_of_head (g := 2) (t := 133) (e := 73) (n := 20) (by kernel_rfl) (by kernel_rfl) (by kernel_rfl) (by kernel_rfl) (by kernel_rfl) (by kernel_rfl) h')
theorem lib_of {W : World} (h : laidMetH Tryd.prog Rows.noteBackRow.laid W) (hsh : W.ShapedOpen Tryd.prog) : LibOk W := by
  rw [MakeChecks.laidMetH_plain _ _ _ (by kernel_rfl)] at h
  have hr := laidMet.tail (laidMet.tail (laidMet.tail (laidMet.tail (h))))
  have hs := laidMet.tail (laidMet.tail (laidMet.tail (laidMet.tail (laidMet.tail (h)))))
  exact ⟨Go.Proofs.cell_of_shapedOpen_int (P := Tryd.prog) (g := 3) (t := 3) (zero := #[.int .i64 0]) hsh (of_decide_eq_true (by kernel_rfl)) (by kernel_rfl) rfl (by kernel_rfl) (by kernel_rfl) Tryd.underlying3,
    laid_iface (g := 0) (ti := 87) hs (by kernel_rfl) (by kernel_rfl) Tryd.underlying87,
    laid_iface (g := 1) (ti := 87) hr (by kernel_rfl) (by kernel_rfl) Tryd.underlying87⟩
set_option maxRecDepth 100000 in
theorem lifted (os : Os) (started : os.Started) (H : Type) (enc : TypeId × Value → H) :
    ReturnsInHanded {} Tryd.checked os 7 .any (fun w args => (Rows.noteBackSpec.pre enc Tryd.prog Tryd.f7 [] false w args ∧ laidMetH Tryd.prog Rows.noteBackRow.laid w) ∧ sizedMet enc Tryd.prog Tryd.f7 (OpenSpec.ofChange Rows.noteBackSpec) false w args)
      (Rows.noteBackSpec.post enc Tryd.prog Tryd.f7 false true false false) := by
  refine handed_shaped (C := Tryd.checked) (X := fun w _ => laidMetH Tryd.prog Rows.noteBackRow.laid w) (fun _ _ _ hh h => h.of_heap hh) own started (by kernel_rfl) Tryd.func7
    (ChangeSpec.witness_shaped (enc := enc) (C := Tryd.checked) (os := os) (X := fun w _ => laidMetH Tryd.prog Rows.noteBackRow.laid w) false (World.laidAll Tryd.prog os Rows.noteBackRow.laid) #[.agg #[.int .i64 0, .int .i64 0, .int .i64 0, .int .i64 0, .int .i64 0], .agg #[.int .i64 0, .int .i64 0, .int .i64 0, .int .i64 0, .int .i64 0], .string ByteArray.empty] 8 (World.laidAll_os _ _ _) (World.shaped_of_ZipB (by kernel_rfl) (by kernel_rfl)) (by kernel_rfl) (by kernel_rfl) (by kernel_rfl) (all_met os _)) ?_
  intro W base args ds gs before hval0 hW hsh hL
  have L := lib_of hL hsh
  have T := tab_of hL
  have hval : ∀ (j : Nat) t v, Tryd.f7.params[j]? = some t → args[j]? = some v → Value.okWide Tryd.prog W .any base t v := hval0
  have hW' := hW
  obtain ⟨p, q, hA0, hV, rfl, hfz, hnd⟩ := hW
  have hA : DataW.TrodAll enc Tryd.prog W 0 (fun _ => true) true Tryd.f7.params.toList args.toList ds p := hA0
  rw [Tryd.params7] at hA hval
  obtain ⟨v0, vs0, d0, ds0, p0, q0, hargs, rfl, rfl, h0, r0⟩ := trodAll_cons hA
  obtain ⟨v1, vs1, d1, ds1, p1, q1, rfl, rfl, rfl, h1, r1⟩ := trodAll_cons r0
  obtain ⟨v2, vs2, d2, ds2, p2, q2, rfl, rfl, rfl, h2, r2⟩ := trodAll_cons r1
  obtain ⟨rfl, rfl, rfl⟩ := trodAll_nil r2
  obtain rfl : args = #[v0, v1, v2] := by cases args; simp_all
  obtain ⟨rfl, rfl⟩ := trodVars_none hV
  have s0 := open_shape 8 (show shapeOf Tryd.prog 8 23 = some (.cat (.int .i64) 1 (.cat (.int .i64) 1 (.cat (.int .i64) 1 (.cat (.int .i64) 1 (.cat (.int .i64) 1 .unit))))) by kernel_rfl) h0
  obtain ⟨cs0, rfl, _⟩ := okWide_struct Tryd.underlying23 (hval 0 23 v0 rfl rfl)
  have s1 := open_shape 8 (show shapeOf Tryd.prog 8 23 = some (.cat (.int .i64) 1 (.cat (.int .i64) 1 (.cat (.int .i64) 1 (.cat (.int .i64) 1 (.cat (.int .i64) 1 .unit))))) by kernel_rfl) h1
  obtain ⟨cs1, rfl, _⟩ := okWide_struct Tryd.underlying23 (hval 1 23 v1 rfl rfl)
  have s2 := open_shape 8 (show shapeOf Tryd.prog 8 9 = some .str by kernel_rfl) h2
  obtain ⟨a2, rfl⟩ := okWide_string Tryd.underlying9 (hval 2 9 v2 rfl rfl)
  obtain ⟨na, rfl, hna⟩ := note_open s0
  obtain ⟨nb, rfl, hnb⟩ := note_open s1
  obtain ⟨s, rfl⟩ : ∃ s : List UInt8, a2 = ⟨s.toArray⟩ := ⟨a2.data.toList, by simp⟩
  clear hA0 hval0
  have hD : Does Tryd.prog W 7 [noteV na, noteV nb, str s] emp fun r _ => r = .bool true := (back_law T L hna hnb).mono fun _ _ h => h.2
  refine hD.calls.mono fun e W' ⟨he, hb⟩ => ?_
  subst he
  exact ⟨_, rfl, law_post hW' (by kernel_rfl) (by kernel_rfl) rfl (by kernel_rfl) Tryd.underlying4 rfl rfl rfl hb⟩

theorem over : Rows.noteBackRow.holds Tryd.pinned (OpenSpec.ofChange Rows.noteBackSpec) :=
  OpenClaim.holds_of_wide 7 Tryd.f7 rfl rfl rfl rfl rfl rfl rfl ⟨rfl, rfl, rfl, rfl, rfl⟩ rfl rfl rfl rfl rfl (by kernel_rfl) Tryd.func7 (by kernel_rfl)
    (of_decide_eq_true (by kernel_rfl)) (by unfold Func.isWrapper; first | (rw [if_pos (by decide +kernel)]; kernel_rfl) | (rw [if_neg (by decide +kernel)]; exact ⟨rfl, rfl⟩))
    (fun os started H enc _ => lifted os started H enc)
/-- The statement: the card. -/
theorem proved : Rows.NoteBackCardSaid :=
  Claim7.holds_tied_plain_at .later [] [.data, .data, .data, .data, .sentinel, .sentinel, .pinned] true Rows.noteBackCard.stood.harness true
    over (fun _ h => by cases h) (by kernel_rfl) (fun _ h => by cases h) noteBack_row_tie rfl ⟨rfl, rfl⟩ (by kernel_rfl) rfl
    (fun f fn hf hfn => by
      obtain rfl : f = 7 := (Option.some.inj (hf.symm.trans (by kernel_rfl)))
      obtain rfl : fn = Tryd.f7 := (Option.some.inj (Tryd.func7.symm.trans hfn)).symm
      exact ⟨by kernel_rfl, fun j t ht => by
        rw [Tryd.params7] at ht
        have hm : t ∈ [23, 23, 9] := by simpa using Array.mem_of_getElem? ht
        have hall : ([23, 23, 9].all fun u => !Tryd.prog.wantsStandIn u) = true := by kernel_rfl
        exact (show Tryd.prog.wantsStandIn t = false by simpa using List.all_eq_true.1 hall t hm)⟩)
    (by kernel_rfl)
end Go.Proofs.YtofgpppnknpblaaDoor.noteBack
#print axioms Go.Proofs.YtofgpppnknpblaaDoor.noteBack.proved
