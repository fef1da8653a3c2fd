/- Whatever is done to a clock: it holds at every input. No condition. -/
import Derived.Test.YtipbcccjhaommaaDoorCkLaw04d
import Derived.Test.YtipbcccjhaommaaDoorSL4
import Derived.Test.YtipbcccjhaommaaDoorRows
import Derived.Test.YtipbcccjhaommaaDoorCards
import Derived.Test.YtipbcccjhaommaaDoorTie
import Derived.LaidMore
import Derived.Stop.Joined
import Derived.SevenTiedAt
import Derived.Lib.LaidTab
import Derived.Stop.LaidErr
namespace Go.Proofs.YtipbcccjhaommaaDoor
open Go Go.SL
set_option linter.unusedVariables false
set_option linter.unusedSimpArgs false
theorem flts_flat : ∀ l : List {n : Nat // n < 2 ^ 64}, (l.map Subtype.val).map flt = l.flatMap fun n => [flt n.1]
  | [] => rfl
  | a :: l => by
    rw [List.map_cons, List.map_cons, flts_flat l, List.flatMap_cons]
    rfl
/-- A row of doubles that came in. -/
theorem floats_open {W : World} {v : Value} (h : Has W (.slice 1 (.float .f64)) [v]) : ∃ l : List Nat, (∀ H : HProp, Rd W H 1 v l.length (l.map flt)) ∧ ∀ f ∈ l, f < 2 ^ 64 := by
  have key : ∃ l : List {n : Nat // n < 2 ^ 64}, (∀ H : HProp, Rd W H 1 v l.length (l.flatMap fun n => [flt n.1])) ∧ ∃ ao cap, v = .slice ao l.length cap ∧ l.length ≤ cap ∧ cap ≤ maxLen := by
    refine Has.rd (fun n : {n : Nat // n < 2 ^ 64} => [flt n.1]) (fun _ => rfl) (by omega) h ?_
    intro r hr h3
    match r, hr with
    | [r0], _ =>
      obtain ⟨n, hn, hw⟩ := h3
      have hb : n < 2 ^ 64 := by simpa [Lit.wf] using hw
      exact ⟨⟨n, hb⟩, by simpa [flt] using hn⟩
  obtain ⟨l, h1, h2⟩ := key
  refine ⟨l.map Subtype.val, fun H => ?_, fun f hf => ?_⟩
  · have e : (l.map Subtype.val).map flt = l.flatMap fun n => [flt n.1] := flts_flat l
    rw [List.length_map, e]; exact h1 H
  · obtain ⟨b, _, rfl⟩ := List.mem_map.1 hf
    exact b.2
def Act.good (W : World) (a : Act) : Prop := (∀ H : HProp, Rd W H 1 a.s a.fs.length (a.fs.map flt)) ∧ ∀ f ∈ a.fs, f < 2 ^ 64
theorem actsC_flat {W : World} : ∀ l : List {a : Act // a.good W}, actsC (l.map Subtype.val) = l.flatMap fun a => actC a.1
  | [] => rfl
  | a :: l => by
    rw [List.map_cons, actsC, actsC_flat l, List.flatMap_cons]
    rfl
/-- A row of acts that came in. -/
theorem acts_open {W : World} {v : Value} (h : Has W (.slice 3 (.cat (.int .i64) 1 (.cat (.int .i64) 1 (.cat (.slice 1 (.float .f64)) 1 .unit)))) [v]) :
    ∃ l : List Act, (∀ H : HProp, Rd W H 3 v l.length (actsC l)) ∧ (∀ a ∈ l, a.good W) ∧ ∃ ao cap, v = .slice ao l.length cap := by
  have key : ∃ l : List {a : Act // a.good W}, (∀ H : HProp, Rd W H 3 v l.length (l.flatMap fun a => actC a.1)) ∧ ∃ ao cap, v = .slice ao l.length cap ∧ l.length ≤ cap ∧ cap ≤ maxLen := by
    refine Has.rd (fun a : {a : Act // a.good W} => actC a.1) (fun _ => rfl) (by omega) h ?_
    rintro r hr ⟨⟨b, h1, _⟩, ⟨x, h2, _⟩, h3, _⟩
    match r, hr with
    | [r0, r1, r2], _ =>
      simp at h1 h2 h3
      obtain ⟨li, hli, hlb⟩ := floats_open h3
      subst h1 h2
      exact ⟨⟨⟨b, x, r2, li⟩, fun H => hli H, hlb⟩, rfl⟩
  obtain ⟨l, h1, ao, cap, h2, _⟩ := key
  refine ⟨l.map Subtype.val, fun H => ?_, ?_, ao, cap, ?_⟩
  · have := h1 H
    rw [List.length_map]
    have e : actsC (l.map Subtype.val) = l.flatMap fun a => actC a.1 := by
      exact actsC_flat l
    rw [e]; exact this
  · intro a ha
    obtain ⟨b, _, rfl⟩ := List.mem_map.1 ha
    exact b.2
  · rw [List.length_map]; exact h2
theorem i64_range {n : Int} (h : (Lit.int .i64 n).wf = true) : -9223372036854775808 ≤ n ∧ n ≤ 9223372036854775807 := by
  simp [Lit.wf, IntKind.min, IntKind.max, IntKind.signed, IntKind.bits] at h
  omega

end Go.Proofs.YtipbcccjhaommaaDoor
namespace Go.Proofs.YtipbcccjhaommaaDoor.clockPlays
open Go Go.SL Go.ChangeShapes Go.WideShapes Go.ChangeAt Go.RowKit
set_option linter.unusedVariables false

theorem own : ownKnob Tryd.prog.godebug = none := by kernel_rfl

theorem door_met (os : Os) (args : Array Value) : laidMetH Tryd.prog Rows.clockPlaysRow.laid ((World.doorLaid Tryd.prog 400 os).forCall (fun _ _ => 0) ⟨#[], args, []⟩).memory :=
  laidMetH_of_parts3 (fuel := 8) (laidMet_of_run' 8 (by kernel_rfl) (by kernel_rfl)) (by kernel_rfl) (by kernel_rfl)
theorem tab_of {W : World} (h : laidMetH Tryd.prog Rows.clockPlaysRow.laid W) : Tab W := by
  rw [MakeChecks.laidMetH_plain _ _ _ (by kernel_rfl)] at h
  have h' := laidMet.tail (laidMet.tail (h))
  exact Lib.tabBelow_of_tabIs (Lib.tabIs_of_head (g := 1) (t := 104) (e := 60) (n := 20) (by kernel_rfl) (by kernel_rfl) (by kernel_rfl) (by kernel_rfl) (by kernel_rfl) (by kernel_rfl) h')
set_option maxRecDepth 100000 in
theorem lifted (os : Os) (started : os.Started) (H : Type) (enc : TypeId × Value → H) :
    ReturnsInHanded {} Tryd.checked os 4 .any (fun w args => (Rows.clockPlaysSpec.pre enc Tryd.prog Tryd.f4 [] false w args ∧ laidMetH Tryd.prog Rows.clockPlaysRow.laid w) ∧ sizedMet enc Tryd.prog Tryd.f4 (OpenSpec.ofChange Rows.clockPlaysSpec) false w args)
      (Rows.clockPlaysSpec.post enc Tryd.prog Tryd.f4 false true false false) := by
  refine returnsInHanded_of_change_and (C := Tryd.checked) (X := fun w _ => laidMetH Tryd.prog Rows.clockPlaysRow.laid w) (fun _ _ _ hh h => h.of_heap hh) own started (by kernel_rfl) Tryd.func4
    (ChangeSpec.witness_shaped (enc := enc) (C := Tryd.checked) (os := os) (X := fun w _ => laidMetH Tryd.prog Rows.clockPlaysRow.laid w) false (World.doorLaid Tryd.prog 400 os) #[.slice none 0 0, .int .i64 0, .int .i64 0] 8 rfl (World.shaped_of_RefB (by kernel_rfl) (by kernel_rfl)) (by kernel_rfl) (by kernel_rfl) (by kernel_rfl) (door_met os _)) ?_
  intro W base args ds gs before hval0 hW _ _ hL _
  have T := tab_of hL
  have hval : ∀ (j : Nat) t v, Tryd.f4.params[j]? = some t → args[j]? = some v → Value.okWide Tryd.prog W .any base t v := hval0
  have hW' := hW
  obtain ⟨p, q, hA0, hV, rfl, hfz, hnd⟩ := hW
  have hA : DataW.TrodAll enc Tryd.prog W 0 (fun _ => true) true Tryd.f4.params.toList args.toList ds p := hA0
  rw [Tryd.params4] at hA hval
  obtain ⟨v0, vs0, d0, ds0, p0, q0, hargs, rfl, rfl, h0, r0⟩ := trodAll_cons hA
  obtain ⟨v1, vs1, d1, ds1, p1, q1, rfl, rfl, rfl, h1, r1⟩ := trodAll_cons r0
  obtain ⟨v2, vs2, d2, ds2, p2, q2, rfl, rfl, rfl, h2, r2⟩ := trodAll_cons r1
  obtain ⟨rfl, rfl, rfl⟩ := trodAll_nil r2
  obtain rfl : args = #[v0, v1, v2] := by cases args; simp_all
  obtain ⟨rfl, rfl⟩ := trodVars_none hV
  have s0 := open_shape 8 (show shapeOf Tryd.prog 8 38 = some (.slice 3 (.cat (.int .i64) 1 (.cat (.int .i64) 1 (.cat (.slice 1 (.float .f64)) 1 .unit)))) by kernel_rfl) h0
  rw [cells_slice Tryd.underlying38 (hval 0 38 v0 rfl rfl)] at s0
  obtain ⟨a1, rfl, rfl, rfl, w1⟩ := open_int Tryd.underlying2 (hval 1 2 v1 rfl rfl) h1
  obtain ⟨a2, rfl, rfl, rfl, w2⟩ := open_int Tryd.underlying2 (hval 2 2 v2 rfl rfl) h2
  obtain ⟨l, hl, hgood, ao0, cap0, rfl⟩ := acts_open s0
  clear hA0 hval0
  have hD : Does Tryd.prog W 4 [.slice ao0 l.length cap0, .int .i64 a1, .int .i64 a2] emp fun r _ => r = .bool true := (plays_law T (hl emp) (fun a ha => hgood a ha) (by have := i64_range w1; omega)).mono fun _ _ h => h.2
  refine hD.calls.mono fun e W' ⟨he, hb⟩ => ?_
  subst he
  exact ⟨_, rfl, law_post hW' (by kernel_rfl) (by kernel_rfl) rfl (by kernel_rfl) Tryd.underlying4 rfl rfl rfl hb⟩

theorem over : Rows.clockPlaysRow.holds Tryd.pinned (OpenSpec.ofChange Rows.clockPlaysSpec) :=
  OpenClaim.holds_of_wide 4 Tryd.f4 rfl rfl rfl rfl rfl rfl rfl ⟨rfl, rfl, rfl, rfl, rfl⟩ rfl rfl rfl rfl rfl (by kernel_rfl) Tryd.func4 (by kernel_rfl)
    (of_decide_eq_true (by kernel_rfl)) (by unfold Func.isWrapper; first | (rw [if_pos (by decide +kernel)]; kernel_rfl) | (rw [if_neg (by decide +kernel)]; exact ⟨rfl, rfl⟩))
    (fun os started H enc _ => lifted os started H enc)
/-- The statement: the card. -/
theorem proved : Rows.ClockPlaysCardSaid :=
  Claim7.holds_tied_plain_at .later [] [.data, .data, .data] true Rows.clockPlaysCard.stood.harness false
    over (fun _ h => by cases h) (by kernel_rfl) (fun _ h => by cases h) clockPlays_row_tie rfl ⟨rfl, rfl⟩ (by kernel_rfl) rfl
    (fun f fn hf hfn => by
      obtain rfl : f = 4 := (Option.some.inj (hf.symm.trans (by kernel_rfl)))
      obtain rfl : fn = Tryd.f4 := (Option.some.inj (Tryd.func4.symm.trans hfn)).symm
      exact ⟨by kernel_rfl, fun j t ht => by
        rw [Tryd.params4] at ht
        have hm : t ∈ [38, 2, 2] := by simpa using Array.mem_of_getElem? ht
        have hall : ([38, 2, 2].all fun u => !Tryd.prog.wantsStandIn u) = true := by kernel_rfl
        exact (show Tryd.prog.wantsStandIn t = false by simpa using List.all_eq_true.1 hall t hm)⟩)
    (by kernel_rfl)
end Go.Proofs.YtipbcccjhaommaaDoor.clockPlays
#print axioms Go.Proofs.YtipbcccjhaommaaDoor.clockPlays.proved
