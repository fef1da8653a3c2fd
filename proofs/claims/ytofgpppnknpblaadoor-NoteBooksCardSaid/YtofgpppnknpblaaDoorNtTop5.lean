/- Whatever notes come, a book tells of them what the document says: it holds at every input. No condition. -/
import Derived.Test.YtofgpppnknpblaaDoorNtLaw26c
import Derived.Test.YtofgpppnknpblaaDoorSLOpen
import Derived.Test.YtofgpppnknpblaaDoorRows
import Derived.Test.YtofgpppnknpblaaDoorCards
import Derived.Test.YtofgpppnknpblaaDoorTie
import Derived.LaidMore
import Derived.Stop.Joined
import Derived.SevenTiedAt
import Derived.Lib.LaidTab
import Derived.Stop.LaidErr
namespace Go.Proofs.YtofgpppnknpblaaDoor
open Go Go.SL
set_option linter.unusedVariables false
set_option linter.unusedSimpArgs false
/-- A number of 64 bits. -/
theorem i64_top {n : Int} (h : (Lit.int .i64 n).wf = true) : n < 9223372036854775808 := by
  simp [Lit.wf, IntKind.min, IntKind.max, IntKind.signed, IntKind.bits] at h
  omega
/-- Cells of a note. -/
theorem note_cells {W : World} {l : List Value} (h : Has W (.cat (.int .i64) 1 (.cat (.int .i64) 1 (.cat (.int .i64) 1 (.cat (.int .i64) 1 (.cat (.int .i64) 1 .unit))))) l) : ∃ n : Nt, l = nv n ∧ nsOk n := by
  obtain ⟨⟨k, h1, _⟩, ⟨g, h2, r2⟩, ⟨p, h3, r3⟩, ⟨m, h4, r4⟩, ⟨x, h5, r5⟩, h7⟩ := h
  refine ⟨⟨k, g, p, m, x⟩, ?_, small_ok ⟨i64_top r2, i64_top r3, i64_top r4, i64_top r5⟩⟩
  match l with
  | [] => simp at h1
  | [_] => simp at h2
  | [_, _] => simp at h3
  | [_, _, _] => simp at h4
  | [_, _, _, _] => simp at h5
  | [a, b, c, d, e] =>
    simp at h1 h2 h3 h4 h5
    rw [h1, h2, h3, h4, h5]
  | a :: b :: c :: d :: e :: f :: l => exact absurd (show (f :: l) = [] from h7) (by simp)
/-- A note that came in. -/
theorem note_open {W : World} {cs : Array Value} (h : Has W (.cat (.int .i64) 1 (.cat (.int .i64) 1 (.cat (.int .i64) 1 (.cat (.int .i64) 1 (.cat (.int .i64) 1 .unit))))) (Value.agg cs).cells.toList) : ∃ n : Nt, cs = (nv n).toArray ∧ nsOk n := by
  obtain ⟨n, e, hn⟩ := note_cells (show Has W (.cat (.int .i64) 1 (.cat (.int .i64) 1 (.cat (.int .i64) 1 (.cat (.int .i64) 1 (.cat (.int .i64) 1 .unit))))) cs.toList from h)
  exact ⟨n, by rw [← e], hn⟩
/-- A row of notes. -/
theorem notes_open {W : World} {v : Value} (h : Has W (.slice 5 (.cat (.int .i64) 1 (.cat (.int .i64) 1 (.cat (.int .i64) 1 (.cat (.int .i64) 1 (.cat (.int .i64) 1 .unit)))))) [v]) :
    ∃ l : List Nt, (∀ H : HProp, Rd W H 5 v l.length (nvs l)) ∧ ∃ ao cap, v = .slice ao l.length cap ∧ l.length ≤ cap ∧ cap ≤ maxLen := by
  have e : ∀ l : List Nt, l.flatMap (fun x => nv x) = nvs l := fun l => by induction l with
    | nil => rfl
    | cons x l ih => simp only [List.flatMap_cons, ih]; rfl
  obtain ⟨l, h1, h2⟩ := Has.rd (fun x : Nt => nv x) (fun _ => rfl) (by omega) h (fun r _ h => let ⟨n, hn, _⟩ := note_cells h; ⟨n, hn⟩)
  exact ⟨l, fun H => e l ▸ h1 H, h2⟩
/-- Rows of notes. -/
theorem rows_open {W : World} {v : Value} (h : Has W (.slice 1 (.slice 5 (.cat (.int .i64) 1 (.cat (.int .i64) 1 (.cat (.int .i64) 1 (.cat (.int .i64) 1 (.cat (.int .i64) 1 .unit))))))) [v]) :
    ∃ R : List NRow, (∀ H : HProp, Rd W H 1 v R.length (rowsN R)) ∧ ∀ H : HProp, ∀ a ∈ R, Rd W H 5 (.slice a.ao a.l.length a.cap) a.l.length (nvs a.l) := by
  have key : ∃ l : List {a : NRow // ∀ H : HProp, Rd W H 5 (.slice a.ao a.l.length a.cap) a.l.length (nvs a.l)}, (∀ H : HProp, Rd W H 1 v l.length (l.flatMap fun a => [a.1.v])) ∧ ∃ ao cap, v = .slice ao l.length cap ∧ l.length ≤ cap ∧ cap ≤ maxLen := by
    refine Has.rd (fun a : {a : NRow // ∀ H : HProp, Rd W H 5 (.slice a.ao a.l.length a.cap) a.l.length (nvs a.l)} => [a.1.v]) (fun _ => rfl) (by omega) h ?_
    intro r hr h3
    match r, hr with
    | [r0], _ =>
      obtain ⟨li, hli, ao, cap, hv, _⟩ := notes_open h3
      subst hv
      exact ⟨⟨⟨ao, cap, li⟩, fun H => hli H⟩, rfl⟩
  have key2 : ∀ l : List {a : NRow // ∀ H : HProp, Rd W H 5 (.slice a.ao a.l.length a.cap) a.l.length (nvs a.l)}, l.map (NRow.v ∘ Subtype.val) = l.flatMap fun a => [a.1.v] := fun l => by
    induction l with
    | nil => rfl
    | cons x l ih => rw [List.map_cons, List.flatMap_cons, ih]; rfl
  obtain ⟨l, h1, _⟩ := key
  refine ⟨l.map Subtype.val, fun H => ?_, ?_⟩
  · have := h1 H
    rw [List.length_map]
    have e : rowsN (l.map Subtype.val) = l.flatMap fun a => [a.1.v] := by
      unfold rowsN
      rw [List.map_map]
      exact key2 l
    rw [e]; exact this
  · intro H a ha
    obtain ⟨b, _, rfl⟩ := List.mem_map.1 ha
    exact b.2 H
theorem ints_open {W : World} {v : Value} (h : Has W (.slice 1 (.int .i64)) [v]) :
    ∃ l : List Int, (∀ H : HProp, Rd W H 1 v l.length (zs l)) ∧ ∃ ao cap, v = .slice ao l.length cap ∧ l.length ≤ cap ∧ cap ≤ maxLen := by
  have e : ∀ l : List Int, l.flatMap (fun x => [Value.int .i64 x]) = zs l := fun l => by induction l with
    | nil => rfl
    | cons x l ih => simp only [List.flatMap_cons, ih]; rfl
  obtain ⟨l, h1, h2⟩ := Has.rd (fun x : Int => [.int .i64 x]) (fun _ => rfl) Nat.zero_lt_one h (fun r _ ⟨n, hn, _⟩ => ⟨n, hn⟩)
  exact ⟨l, fun H => e l ▸ h1 H, h2⟩

end Go.Proofs.YtofgpppnknpblaaDoor
namespace Go.Proofs.YtofgpppnknpblaaDoor.noteBooks
open Go Go.SL Go.ChangeShapes Go.WideShapes Go.ChangeAt Go.RowKit
set_option linter.unusedVariables false

theorem own : ownKnob Tryd.prog.godebug = none := by kernel_rfl

theorem door_met (os : Os) (args : Array Value) : laidMetH Tryd.prog Rows.noteBooksRow.laid ((World.doorLaid Tryd.prog 400 os).forCall (fun _ _ => 0) ⟨#[], args, []⟩).memory :=
  laidMetH_of_parts3 (fuel := 8) (laidMet_of_run' 8 (by kernel_rfl) (by kernel_rfl)) (by kernel_rfl) (by kernel_rfl)
theorem tab_of {W : World} (h : laidMetH Tryd.prog Rows.noteBooksRow.laid W) : Tab W := by
  rw [MakeChecks.laidMetH_plain _ _ _ (by kernel_rfl)] at h
  have h' := laidMet.tail (laidMet.tail (h))
  exact Lib.tabBelow_of_tabIs (Lib.tabIs_of_head (g := 2) (t := 133) (e := 73) (n := 20) (by kernel_rfl) (by kernel_rfl) (by kernel_rfl) (by kernel_rfl) (by kernel_rfl) (by kernel_rfl) h')
set_option maxRecDepth 100000 in
theorem lifted (os : Os) (started : os.Started) (H : Type) (enc : TypeId × Value → H) :
    ReturnsInHanded {} Tryd.checked os 4 .any (fun w args => (Rows.noteBooksSpec.pre enc Tryd.prog Tryd.f4 [] false w args ∧ laidMetH Tryd.prog Rows.noteBooksRow.laid w) ∧ sizedMet enc Tryd.prog Tryd.f4 (OpenSpec.ofChange Rows.noteBooksSpec) false w args)
      (Rows.noteBooksSpec.post enc Tryd.prog Tryd.f4 false true false false) := by
  refine returnsInHanded_of_change_and (C := Tryd.checked) (X := fun w _ => laidMetH Tryd.prog Rows.noteBooksRow.laid w) (fun _ _ _ hh h => h.of_heap hh) own started (by kernel_rfl) Tryd.func4
    (ChangeSpec.witness_shaped (enc := enc) (C := Tryd.checked) (os := os) (X := fun w _ => laidMetH Tryd.prog Rows.noteBooksRow.laid w) false (World.doorLaid Tryd.prog 400 os) #[.slice none 0 0, .slice none 0 0, .int .i64 0, .int .i64 0] 8 rfl (World.shaped_of_RefB (by kernel_rfl) (by kernel_rfl)) (by kernel_rfl) (by kernel_rfl) (by kernel_rfl) (door_met os _)) ?_
  intro W base args ds gs before hval0 hW _ _ hL _
  have T := tab_of hL
  have hval : ∀ (j : Nat) t v, Tryd.f4.params[j]? = some t → args[j]? = some v → Value.okWide Tryd.prog W .any base t v := hval0
  have hW' := hW
  obtain ⟨p, q, hA0, hV, rfl, hfz, hnd⟩ := hW
  have hA : DataW.TrodAll enc Tryd.prog W 0 (fun _ => true) true Tryd.f4.params.toList args.toList ds p := hA0
  rw [Tryd.params4] at hA hval
  obtain ⟨v0, vs0, d0, ds0, p0, q0, hargs, rfl, rfl, h0, r0⟩ := trodAll_cons hA
  obtain ⟨v1, vs1, d1, ds1, p1, q1, rfl, rfl, rfl, h1, r1⟩ := trodAll_cons r0
  obtain ⟨v2, vs2, d2, ds2, p2, q2, rfl, rfl, rfl, h2, r2⟩ := trodAll_cons r1
  obtain ⟨v3, vs3, d3, ds3, p3, q3, rfl, rfl, rfl, h3, r3⟩ := trodAll_cons r2
  obtain ⟨rfl, rfl, rfl⟩ := trodAll_nil r3
  obtain rfl : args = #[v0, v1, v2, v3] := by cases args; simp_all
  obtain ⟨rfl, rfl⟩ := trodVars_none hV
  have s0 := open_shape 8 (show shapeOf Tryd.prog 8 38 = some (.slice 1 (.slice 5 (.cat (.int .i64) 1 (.cat (.int .i64) 1 (.cat (.int .i64) 1 (.cat (.int .i64) 1 (.cat (.int .i64) 1 .unit))))))) by kernel_rfl) h0
  rw [cells_slice Tryd.underlying38 (hval 0 38 v0 rfl rfl)] at s0
  have s1 := open_shape 8 (show shapeOf Tryd.prog 8 24 = some (.slice 1 (.int .i64)) by kernel_rfl) h1
  rw [cells_slice Tryd.underlying24 (hval 1 24 v1 rfl rfl)] at s1
  obtain ⟨a2, rfl, rfl, rfl, w2⟩ := open_int Tryd.underlying3 (hval 2 3 v2 rfl rfl) h2
  obtain ⟨a3, rfl, rfl, rfl, w3⟩ := open_int Tryd.underlying3 (hval 3 3 v3 rfl rfl) h3
  obtain ⟨R, hR, hrow⟩ := rows_open s0
  obtain ⟨K, hK, _⟩ := ints_open s1
  clear hA0 hval0
  have hD : Does Tryd.prog W 4 [v0, v1, .int .i64 a2, .int .i64 a3] emp fun r _ => r = .bool true := (books_law T (hR emp) (hrow emp) (hK emp)).mono fun _ _ h => h.2
  refine hD.calls.mono fun e W' ⟨he, hb⟩ => ?_
  subst he
  exact ⟨_, rfl, law_post hW' (by kernel_rfl) (by kernel_rfl) rfl (by kernel_rfl) Tryd.underlying4 rfl rfl rfl hb⟩

theorem over : Rows.noteBooksRow.holds Tryd.pinned (OpenSpec.ofChange Rows.noteBooksSpec) :=
  OpenClaim.holds_of_wide 4 Tryd.f4 rfl rfl rfl rfl rfl rfl rfl ⟨rfl, rfl, rfl, rfl, rfl⟩ rfl rfl rfl rfl rfl (by kernel_rfl) Tryd.func4 (by kernel_rfl)
    (of_decide_eq_true (by kernel_rfl)) (by unfold Func.isWrapper; first | (rw [if_pos (by decide +kernel)]; kernel_rfl) | (rw [if_neg (by decide +kernel)]; exact ⟨rfl, rfl⟩))
    (fun os started H enc _ => lifted os started H enc)
/-- The statement: the card. -/
theorem proved : Rows.NoteBooksCardSaid :=
  Claim7.holds_tied_plain_at .later [] [.data, .data, .data] true Rows.noteBooksCard.stood.harness true
    over (fun _ h => by cases h) (by kernel_rfl) (fun _ h => by cases h) noteBooks_row_tie rfl ⟨rfl, rfl⟩ (by kernel_rfl) rfl
    (fun f fn hf hfn => by
      obtain rfl : f = 4 := (Option.some.inj (hf.symm.trans (by kernel_rfl)))
      obtain rfl : fn = Tryd.f4 := (Option.some.inj (Tryd.func4.symm.trans hfn)).symm
      exact ⟨by kernel_rfl, fun j t ht => by
        rw [Tryd.params4] at ht
        have hm : t ∈ [38, 24, 3, 3] := by simpa using Array.mem_of_getElem? ht
        have hall : ([38, 24, 3, 3].all fun u => !Tryd.prog.wantsStandIn u) = true := by kernel_rfl
        exact (show Tryd.prog.wantsStandIn t = false by simpa using List.all_eq_true.1 hall t hm)⟩)
    (by kernel_rfl)
end Go.Proofs.YtofgpppnknpblaaDoor.noteBooks
#print axioms Go.Proofs.YtofgpppnknpblaaDoor.noteBooks.proved
