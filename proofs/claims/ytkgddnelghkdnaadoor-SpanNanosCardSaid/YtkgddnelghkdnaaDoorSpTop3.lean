/- The span of a double is as the document tells: it holds at every input. No condition. -/
import Derived.Test.YtkgddnelghkdnaaDoorSpLaw01a
import Derived.Test.YtkgddnelghkdnaaDoorSL4
import Derived.Test.YtkgddnelghkdnaaDoorRows
import Derived.Test.YtkgddnelghkdnaaDoorCards
import Derived.Test.YtkgddnelghkdnaaDoorTie
import Derived.LaidMore
import Derived.Stop.Joined
import Derived.SevenTiedAt
import Derived.Lib.LaidTab
import Derived.Stop.LaidErr
namespace Go.Proofs.YtkgddnelghkdnaaDoor
open Go Go.SL
set_option linter.unusedVariables false
set_option linter.unusedSimpArgs false

end Go.Proofs.YtkgddnelghkdnaaDoor
namespace Go.Proofs.YtkgddnelghkdnaaDoor.spanNanos
open Go Go.SL Go.ChangeShapes Go.WideShapes Go.ChangeAt Go.RowKit
set_option linter.unusedVariables false

theorem own : ownKnob Tryd.prog.godebug = none := by kernel_rfl

theorem door_met (os : Os) (args : Array Value) : laidMetH Tryd.prog Rows.spanNanosRow.laid ((World.doorLaid Tryd.prog 400 os).forCall (fun _ _ => 0) ⟨#[], args, []⟩).memory :=
  laidMetH_of_parts3 (fuel := 8) (laidMet_of_run' 8 (by kernel_rfl) (by kernel_rfl)) (by kernel_rfl) (by kernel_rfl)
theorem tab_of {W : World} (h : laidMetH Tryd.prog Rows.spanNanosRow.laid W) : Tab W := by
  rw [MakeChecks.laidMetH_plain _ _ _ (by kernel_rfl)] at h
  have h' := laidMet.tail (laidMet.tail (h))
  exact Lib.tabBelow_of_tabIs (Lib.tabIs_of_head (g := 1) (t := 98) (e := 35) (n := 20) (by kernel_rfl) (by kernel_rfl) (by kernel_rfl) (by kernel_rfl) (by kernel_rfl) (by kernel_rfl) h')
theorem lib_of {W : World} (h : laidMetH Tryd.prog Rows.spanNanosRow.laid W) (hsh : W.ShapedOpen Tryd.prog) : LibOk W := by
  rw [MakeChecks.laidMetH_plain _ _ _ (by kernel_rfl)] at h
  have hr := laidMet.tail (laidMet.tail (laidMet.tail (h)))
  have hs := laidMet.tail (laidMet.tail (laidMet.tail (laidMet.tail (h))))
  exact ⟨Go.Proofs.cell_of_shapedOpen_int (P := Tryd.prog) (g := 2) (t := 3) (zero := #[.int .i64 0]) hsh (of_decide_eq_true (by kernel_rfl)) (by kernel_rfl) rfl (by kernel_rfl) (by kernel_rfl) Tryd.underlying3,
    laid_iface (g := 3) (ti := 54) hs (by kernel_rfl) (by kernel_rfl) Tryd.underlying54,
    laid_iface (g := 4) (ti := 54) hr (by kernel_rfl) (by kernel_rfl) Tryd.underlying54⟩
set_option maxRecDepth 100000 in
theorem lifted (os : Os) (started : os.Started) (H : Type) (enc : TypeId × Value → H) :
    ReturnsInHanded {} Tryd.checked os 3 .any (fun w args => (Rows.spanNanosSpec.pre enc Tryd.prog Tryd.f3 [] false w args ∧ laidMetH Tryd.prog Rows.spanNanosRow.laid w) ∧ sizedMet enc Tryd.prog Tryd.f3 (OpenSpec.ofChange Rows.spanNanosSpec) false w args)
      (Rows.spanNanosSpec.post enc Tryd.prog Tryd.f3 false true false false) := by
  refine handed_shaped (C := Tryd.checked) (X := fun w _ => laidMetH Tryd.prog Rows.spanNanosRow.laid w) (fun _ _ _ hh h => h.of_heap hh) own started (by kernel_rfl) Tryd.func3
    (ChangeSpec.witness_shaped (enc := enc) (C := Tryd.checked) (os := os) (X := fun w _ => laidMetH Tryd.prog Rows.spanNanosRow.laid w) false (World.doorLaid Tryd.prog 400 os) #[.float .f64 0] 8 rfl (World.shaped_of_RefB (by kernel_rfl) (by kernel_rfl)) (by kernel_rfl) (by kernel_rfl) (by kernel_rfl) (door_met os _)) ?_
  intro W base args ds gs before hval0 hW hsh hL
  have L := lib_of hL hsh
  have T := tab_of hL
  have hval : ∀ (j : Nat) t v, Tryd.f3.params[j]? = some t → args[j]? = some v → Value.okWide Tryd.prog W .any base t v := hval0
  have hW' := hW
  obtain ⟨p, q, hA0, hV, rfl, hfz, hnd⟩ := hW
  have hA : DataW.TrodAll enc Tryd.prog W 0 (fun _ => true) true Tryd.f3.params.toList args.toList ds p := hA0
  rw [Tryd.params3] at hA hval
  obtain ⟨v0, vs0, d0, ds0, p0, q0, hargs, rfl, rfl, h0, r0⟩ := trodAll_cons hA
  obtain ⟨rfl, rfl, rfl⟩ := trodAll_nil r0
  obtain rfl : args = #[v0] := by cases args; simp_all
  obtain ⟨rfl, rfl⟩ := trodVars_none hV
  have s0 := open_shape 8 (show shapeOf Tryd.prog 8 22 = some (.float .f64) by kernel_rfl) h0
  obtain ⟨a0, rfl⟩ := okWide_float Tryd.underlying22 (hval 0 22 v0 rfl rfl)
  obtain ⟨x0, hx0, hw0⟩ : ∃ b, [Value.float .f64 a0] = [.float .f64 b] ∧ (Lit.float .f64 b).wf = true := s0
  have hb : a0 < 2 ^ 64 := by cases hx0; simpa [Lit.wf] using hw0
  clear hA0 hval0
  have hD : Does Tryd.prog W 3 [.float .f64 a0] emp fun r _ => r = .bool true := (nanos_law T L hb).mono fun _ _ h => h.2
  refine hD.calls.mono fun e W' ⟨he, hb⟩ => ?_
  subst he
  exact ⟨_, rfl, law_post hW' (by kernel_rfl) (by kernel_rfl) rfl (by kernel_rfl) Tryd.underlying4 rfl rfl rfl hb⟩

theorem over : Rows.spanNanosRow.holds Tryd.pinned (OpenSpec.ofChange Rows.spanNanosSpec) :=
  OpenClaim.holds_of_wide 3 Tryd.f3 rfl rfl rfl rfl rfl rfl rfl ⟨rfl, rfl, rfl, rfl, rfl⟩ rfl rfl rfl rfl rfl (by kernel_rfl) Tryd.func3 (by kernel_rfl)
    (of_decide_eq_true (by kernel_rfl)) (by unfold Func.isWrapper; first | (rw [if_pos (by decide +kernel)]; kernel_rfl) | (rw [if_neg (by decide +kernel)]; exact ⟨rfl, rfl⟩))
    (fun os started H enc _ => lifted os started H enc)
/-- The statement: the card. -/
theorem proved : Rows.SpanNanosCardSaid :=
  Claim7.holds_tied_plain_at .later [] [.data, .data, .data, .sentinel, .sentinel] true Rows.spanNanosCard.stood.harness true
    over (fun _ h => by cases h) (by kernel_rfl) (fun _ h => by cases h) spanNanos_row_tie rfl ⟨rfl, rfl⟩ (by kernel_rfl) rfl
    (fun f fn hf hfn => by
      obtain rfl : f = 3 := (Option.some.inj (hf.symm.trans (by kernel_rfl)))
      obtain rfl : fn = Tryd.f3 := (Option.some.inj (Tryd.func3.symm.trans hfn)).symm
      exact ⟨by kernel_rfl, fun j t ht => by
        rw [Tryd.params3] at ht
        have hm : t ∈ [22] := by simpa using Array.mem_of_getElem? ht
        have hall : ([22].all fun u => !Tryd.prog.wantsStandIn u) = true := by kernel_rfl
        exact (show Tryd.prog.wantsStandIn t = false by simpa using List.all_eq_true.1 hall t hm)⟩)
    (by kernel_rfl)
end Go.Proofs.YtkgddnelghkdnaaDoor.spanNanos
#print axioms Go.Proofs.YtkgddnelghkdnaaDoor.spanNanos.proved
