/- Split and Atoi: the library's contracts, told of a frame. No condition. -/
import Derived.Test.YtofgpppnknpblaaGreatDoorNzInst
import Derived.Test.YtofgpppnknpblaaGreatDoorNzShelfR
import Derived.Test.YtofgpppnknpblaaGreatDoorSL4
namespace Go.Proofs.YtofgpppnknpblaaGreatDoor
open Go Go.SL Go.RowKit
set_option linter.unusedSimpArgs false
set_option linter.unusedVariables false
set_option maxRecDepth 10000
/-- What the library's variables hold: a number, and two errors. -/
structure LibOk (B : World) : Prop where
  len : ∃ m, B.cell? ⟨Tryz.splitVar, 0, none⟩ = some (.int .i64 m)
  syn : ∃ t a, B.cell? ⟨Tryz.synVar, 0, none⟩ = some (.iface t a)
  rng : ∃ t a, B.cell? ⟨Tryz.rngVar, 0, none⟩ = some (.iface t a)
theorem cut_len (c : UInt8) : ∀ l : List UInt8, (cutAt c l).length ≤ l.length + 1 ∧ 1 ≤ (cutAt c l).length
  | [] => by simp [cutAt]
  | a :: l => by
    have ih := cut_len c l
    unfold cutAt
    split
    · simp only [List.length_cons]; omega
    · simp only [List.length_cons, List.length_tail]; omega
theorem cut_piece {c : UInt8} : ∀ {l x : List UInt8}, x ∈ cutAt c l → x.length ≤ l.length
  | [], x, h => by simp [cutAt] at h; subst h; simp
  | a :: l, x, h => by
    have ih := fun y (hy : y ∈ cutAt c l) => cut_piece hy
    unfold cutAt at h
    split at h
    · rw [List.mem_cons] at h
      rcases h with rfl | h
      · simp
      · have := ih x h; simp only [List.length_cons]; omega
    · rw [List.mem_cons] at h
      have hne := cutAt_ne c l
      rcases h with rfl | h
      · have : (cutAt c l).headD [] ∈ cutAt c l := by
          cases hc : cutAt c l with
          | nil => exact absurd hc hne
          | cons y z => simp
        have := ih _ this
        simp only [List.length_cons]; omega
      · have := ih x (List.mem_of_mem_tail h)
        simp only [List.length_cons]; omega
theorem strs_of (l : List ByteArray) : l.map Value.string = ss (l.map (·.data.toList)) := by
  unfold ss
  rw [List.map_map]
  refine List.map_congr_left fun x _ => ?_
  show _ = Value.string ⟨x.data.toList.toArray⟩
  simp
section
variable {B : World} {F H G : HProp}
theorem dSplit (L : LibOk B) {c : UInt8} {s : List UInt8} (hs : s.length < 4294967281) :
    Does Tryz.prog B 40 [str s, str [c]] H fun r H' => ∃ b, H' = blk b (ss (cutAt c s)) 9 + H ∧ r = .slice (some ⟨b, 0, none⟩) (cutAt c s).length (cutAt c s).length := by
  obtain ⟨m, hm⟩ := L.len
  refine Does.ofAlloc fun w hw => ?_
  have hB : w.cell? ⟨Tryz.splitVar, 0, none⟩ = some (.int .i64 m) := (Cell.base (H := H) hm) w hw
  have h := Tryz.strings_Split ⟨s.toArray⟩ ⟨#[c]⟩ m w (by show s.toArray.size < _; simpa using hs) hB (Nat.le_refl 1)
  have e1 := split_cut c s
  have e2 : (Lib.splitB ⟨#[c]⟩ 0 (Lib.countB ⟨s.toArray⟩ ⟨#[c]⟩) ⟨s.toArray⟩).map Value.string = ss (cutAt c s) := by
    rw [strs_of, Lib.splitB_data]
    exact congrArg ss e1
  have e3 : Lib.countB ⟨s.toArray⟩ ⟨#[c]⟩ + 1 = (cutAt c s).length := by
    rw [← Lib.splitB_all ⟨#[c]⟩ (Nat.le_refl 1) 0 _ ⟨s.toArray⟩ rfl]
    have := congrArg List.length e2
    simpa [ss] using this
  rw [e2, e3] at h
  exact h
theorem dAtoi (L : LibOk B) {s : List UInt8} (hs : s.length ≤ 1000000) :
    Does Tryz.prog B 44 [str s] H fun r H' => H' = H ∧ ∃ x, r = .tuple #[.int .i64 (atoiV s), x] ∧ if atoiOk s then x = .nilIface else ∃ t a, x = .iface t a := by
  obtain ⟨t1, a1, h1⟩ := L.syn
  obtain ⟨t2, a2, h2⟩ := L.rng
  refine Does.ofBelowR fun w hw => ?_
  have w1 := (Cell.base (H := H) h1) w hw
  have w2 := (Cell.base (H := H) h2) w hw
  have hsz : (⟨s.toArray⟩ : ByteArray).size = s.length := by show s.toArray.size = _; simp
  unfold atoiV atoiOk
  rcases hA : Lib.atoiAll s with v | _ | _
  · refine (Tryz.strconv_Atoi_ok ⟨s.toArray⟩ (by omega) v (by simpa using hA) w).mono ?_
    rintro e w' ⟨rfl, hw'⟩
    refine ⟨_, rfl, ⟨_, rfl, rfl⟩, ?_⟩
    rcases hw' with rfl | ⟨t, rfl⟩
    · exact Below.refl _ _
    · exact Lib.bytesWorld_below _ _ _
  · refine (Any.strconv_Atoi_syntax Tryz.layrC172 ⟨s.toArray⟩ (by omega) (by simpa using hA) _ w w1 (.inr ⟨_, _, rfl⟩)).mono ?_
    rintro e w' ⟨N, rfl, _, _, hb⟩
    exact ⟨_, rfl, ⟨_, rfl, _, _, rfl⟩, hb⟩
  · refine (Any.strconv_Atoi_range Tryz.layrC172 ⟨s.toArray⟩ (by omega) (by simpa using hA) _ w w2 (.inr ⟨_, _, rfl⟩)).mono ?_
    rintro e w' ⟨N, rfl, _, _, hb⟩
    exact ⟨_, rfl, ⟨_, rfl, _, _, rfl⟩, hb⟩
end
end Go.Proofs.YtofgpppnknpblaaGreatDoor
