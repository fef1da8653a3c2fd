/- In whatever order spans are added, the time is the same: it holds at every input. No condition. -/
import Derived.Test.YtipbcccjhaommaaDoorCkLaw04b
import Derived.Test.YtipbcccjhaommaaDoorSL4
import Derived.Test.YtipbcccjhaommaaDoorRows
import Derived.Test.YtipbcccjhaommaaDoorCards
import Derived.Test.YtipbcccjhaommaaDoorTie
import Derived.LaidMore
import Derived.Stop.Joined
import Derived.SevenTiedAt
import Derived.Lib.LaidTab
import Derived.Stop.LaidErr
namespace Go.Proofs.YtipbcccjhaommaaDoor
open Go Go.SL
set_option linter.unusedVariables false
set_option linter.unusedSimpArgs false
/-- A row of numbers that came in. -/
theorem ints_open {W : World} {v : Value} (h : Has W (.slice 1 (.int .i64)) [v]) : ∃ l : List Int, (∀ H : HProp, Rd W H 1 v l.length (zs l)) ∧ ∃ ao cap, v = .slice ao l.length cap ∧ l.length ≤ cap ∧ cap ≤ maxLen := by
  have key : ∃ l : List Int, (∀ H : HProp, Rd W H 1 v l.length (l.flatMap fun n => [.int .i64 n])) ∧ ∃ ao cap, v = .slice ao l.length cap ∧ l.length ≤ cap ∧ cap ≤ maxLen := by
    refine Has.rd (fun n : Int => [.int .i64 n]) (fun _ => rfl) (by omega) h ?_
    intro r hr h3
    match r, hr with
    | [r0], _ =>
      obtain ⟨n, hn, _⟩ := h3
      exact ⟨n, by simpa using hn⟩
  have e : ∀ l : List Int, (l.flatMap fun n => [Value.int .i64 n]) = zs l := by intro l; unfold zs; induction l <;> simp_all
  obtain ⟨l, h1, h2⟩ := key
  rw [e] at h1
  exact ⟨l, h1, h2⟩
theorem i64_range {n : Int} (h : (Lit.int .i64 n).wf = true) : -9223372036854775808 ≤ n ∧ n ≤ 9223372036854775807 := by
  simp [Lit.wf, IntKind.min, IntKind.max, IntKind.signed, IntKind.bits] at h
  omega

end Go.Proofs.YtipbcccjhaommaaDoor
namespace Go.Proofs.YtipbcccjhaommaaDoor.clockOrders
open Go Go.SL Go.ChangeShapes Go.WideShapes Go.ChangeAt Go.RowKit
set_option linter.unusedVariables false

theorem own : ownKnob Tryd.prog.godebug = none := by kernel_rfl

theorem door_met (os : Os) (args : Array Value) : laidMetH Tryd.prog Rows.clockOrdersRow.laid ((World.doorLaid Tryd.prog 400 os).forCall (fun _ _ => 0) ⟨#[], args, []⟩).memory :=
  laidMetH_of_parts3 (fuel := 8) (laidMet_of_run' 8 (by kernel_rfl) (by kernel_rfl)) (by kernel_rfl) (by kernel_rfl)
theorem tab_of {W : World} (h : laidMetH Tryd.prog Rows.clockOrdersRow.laid W) : Tab W := by
  rw [MakeChecks.laidMetH_plain _ _ _ (by kernel_rfl)] at h
  have h' := laidMet.tail (laidMet.tail (h))
  exact Lib.tabBelow_of_tabIs (Lib.tabIs_of_head (g := 1) (t := 104) (e := 60) (n := 20) (by kernel_rfl) (by kernel_rfl) (by kernel_rfl) (by kernel_rfl) (by kernel_rfl) (by kernel_rfl) h')
set_option maxRecDepth 100000 in
theorem lifted (os : Os) (started : os.Started) (H : Type) (enc : TypeId × Value → H) :
    ReturnsInHanded {} Tryd.checked os 3 .any (fun w args => (Rows.clockOrdersSpec.pre enc Tryd.prog Tryd.f3 [] false w args ∧ laidMetH Tryd.prog Rows.clockOrdersRow.laid w) ∧ sizedMet enc Tryd.prog Tryd.f3 (OpenSpec.ofChange Rows.clockOrdersSpec) false w args)
      (Rows.clockOrdersSpec.post enc Tryd.prog Tryd.f3 false true false false) := by
  refine returnsInHanded_of_change_and (C := Tryd.checked) (X := fun w _ => laidMetH Tryd.prog Rows.clockOrdersRow.laid w) (fun _ _ _ hh h => h.of_heap hh) own started (by kernel_rfl) Tryd.func3
    (ChangeSpec.witness_shaped (enc := enc) (C := Tryd.checked) (os := os) (X := fun w _ => laidMetH Tryd.prog Rows.clockOrdersRow.laid w) false (World.doorLaid Tryd.prog 400 os) #[.slice none 0 0, .slice none 0 0, .int .i64 0, .int .i64 0] 8 rfl (World.shaped_of_RefB (by kernel_rfl) (by kernel_rfl)) (by kernel_rfl) (by kernel_rfl) (by kernel_rfl) (door_met os _)) ?_
  intro W base args ds gs before hval0 hW _ _ hL _
  have T := tab_of hL
  have hval : ∀ (j : Nat) t v, Tryd.f3.params[j]? = some t → args[j]? = some v → Value.okWide Tryd.prog W .any base t v := hval0
  have hW' := hW
  obtain ⟨p, q, hA0, hV, rfl, hfz, hnd⟩ := hW
  have hA : DataW.TrodAll enc Tryd.prog W 0 (fun _ => true) true Tryd.f3.params.toList args.toList ds p := hA0
  rw [Tryd.params3] at hA hval
  obtain ⟨v0, vs0, d0, ds0, p0, q0, hargs, rfl, rfl, h0, r0⟩ := trodAll_cons hA
  obtain ⟨v1, vs1, d1, ds1, p1, q1, rfl, rfl, rfl, h1, r1⟩ := trodAll_cons r0
  obtain ⟨v2, vs2, d2, ds2, p2, q2, rfl, rfl, rfl, h2, r2⟩ := trodAll_cons r1
  obtain ⟨v3, vs3, d3, ds3, p3, q3, rfl, rfl, rfl, h3, r3⟩ := trodAll_cons r2
  obtain ⟨rfl, rfl, rfl⟩ := trodAll_nil r3
  obtain rfl : args = #[v0, v1, v2, v3] := by cases args; simp_all
  obtain ⟨rfl, rfl⟩ := trodVars_none hV
  have s0 := open_shape 8 (show shapeOf Tryd.prog 8 22 = some (.slice 1 (.int .i64)) by kernel_rfl) h0
  rw [cells_slice Tryd.underlying22 (hval 0 22 v0 rfl rfl)] at s0
  have s1 := open_shape 8 (show shapeOf Tryd.prog 8 23 = some (.slice 1 (.int .i64)) by kernel_rfl) h1
  rw [cells_slice Tryd.underlying23 (hval 1 23 v1 rfl rfl)] at s1
  obtain ⟨a2, rfl, rfl, rfl, w2⟩ := open_int Tryd.underlying2 (hval 2 2 v2 rfl rfl) h2
  obtain ⟨a3, rfl, rfl, rfl, w3⟩ := open_int Tryd.underlying2 (hval 3 2 v3 rfl rfl) h3
  obtain ⟨l, hl, ao0, cap0, rfl, hl1, hl2⟩ := ints_open s0
  obtain ⟨o, ho, ao1, cap1, rfl, ho1, ho2⟩ := ints_open s1
  clear hA0 hval0
  have hD : Does Tryd.prog W 3 [.slice ao0 l.length cap0, .slice ao1 o.length cap1, .int .i64 a2, .int .i64 a3] emp fun r _ => r = .bool true := (orders_law T (hl emp) (ho emp) (by have := i64_range w2; omega)).mono fun _ _ h => h.2
  refine hD.calls.mono fun e W' ⟨he, hb⟩ => ?_
  subst he
  exact ⟨_, rfl, law_post hW' (by kernel_rfl) (by kernel_rfl) rfl (by kernel_rfl) Tryd.underlying4 rfl rfl rfl hb⟩

theorem over : Rows.clockOrdersRow.holds Tryd.pinned (OpenSpec.ofChange Rows.clockOrdersSpec) :=
  OpenClaim.holds_of_wide 3 Tryd.f3 rfl rfl rfl rfl rfl rfl rfl ⟨rfl, rfl, rfl, rfl, rfl⟩ rfl rfl rfl rfl rfl (by kernel_rfl) Tryd.func3 (by kernel_rfl)
    (of_decide_eq_true (by kernel_rfl)) (by unfold Func.isWrapper; first | (rw [if_pos (by decide +kernel)]; kernel_rfl) | (rw [if_neg (by decide +kernel)]; exact ⟨rfl, rfl⟩))
    (fun os started H enc _ => lifted os started H enc)
/-- The statement: the card. -/
theorem proved : Rows.ClockOrdersCardSaid :=
  Claim7.holds_tied_plain_at .later [] [.data, .data, .data] true Rows.clockOrdersCard.stood.harness false
    over (fun _ h => by cases h) (by kernel_rfl) (fun _ h => by cases h) clockOrders_row_tie rfl ⟨rfl, rfl⟩ (by kernel_rfl) rfl
    (fun f fn hf hfn => by
      obtain rfl : f = 3 := (Option.some.inj (hf.symm.trans (by kernel_rfl)))
      obtain rfl : fn = Tryd.f3 := (Option.some.inj (Tryd.func3.symm.trans hfn)).symm
      exact ⟨by kernel_rfl, fun j t ht => by
        rw [Tryd.params3] at ht
        have hm : t ∈ [22, 23, 2, 2] := by simpa using Array.mem_of_getElem? ht
        have hall : ([22, 23, 2, 2].all fun u => !Tryd.prog.wantsStandIn u) = true := by kernel_rfl
        exact (show Tryd.prog.wantsStandIn t = false by simpa using List.all_eq_true.1 hall t hm)⟩)
    (by kernel_rfl)
end Go.Proofs.YtipbcccjhaommaaDoor.clockOrders
#print axioms Go.Proofs.YtipbcccjhaommaaDoor.clockOrders.proved
