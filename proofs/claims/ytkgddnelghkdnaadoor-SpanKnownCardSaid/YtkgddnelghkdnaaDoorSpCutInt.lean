/- Cut and ParseInt: the library's contracts, told of a frame. No condition. -/
import Derived.Test.YtkgddnelghkdnaaDoorSpInst
import Derived.Test.YtkgddnelghkdnaaDoorSpShelfR
import Derived.Test.YtkgddnelghkdnaaDoorSL4
namespace Go.Proofs.YtkgddnelghkdnaaDoor
open Go Go.SL Go.RowKit
set_option linter.unusedSimpArgs false
set_option linter.unusedVariables false
set_option maxRecDepth 10000
/-- What the library's variables hold: a number, and two errors. -/
structure LibOk (B : World) : Prop where
  len : ∃ m, B.cell? ⟨Tryd.splitVar, 0, none⟩ = some (.int .i64 m)
  syn : ∃ t a, B.cell? ⟨Tryd.synVar, 0, none⟩ = some (.iface t a)
  rng : ∃ t a, B.cell? ⟨Tryd.rngVar, 0, none⟩ = some (.iface t a)
section
variable {B : World} {F H G : HProp}
theorem dCut (L : LibOk B) {c : UInt8} {s : List UInt8} (hs : s.length < 4294967281) :
    Does Tryd.prog B 32 [str s, str [c]] H fun r H' => H' = H ∧ r = .tuple #[str (Lib.cut s [c]).1, str (Lib.cut s [c]).2.1, .bool (Lib.cut s [c]).2.2] := by
  obtain ⟨m, hm⟩ := L.len
  refine Does.ofBelow fun w hw => ?_
  have hB : w.cell? ⟨Tryd.splitVar, 0, none⟩ = some (.int .i64 m) := (Cell.base (H := H) hm) w hw
  refine (Tryd.strings_Cut ⟨s.toArray⟩ ⟨#[c]⟩ m w (by show s.toArray.size < _; simpa using hs) hB).mono ?_
  rintro e w' ⟨rfl, k, rfl⟩
  exact ⟨by simp, (Below.refl _ w).trans ⟨rfl, rfl, rfl, Nat.le_refl _, fun _ _ => rfl⟩⟩
theorem dParse (L : LibOk B) {s : List UInt8} (hs : s.length ≤ 1000000) :
    Does Tryd.prog B 33 [str s, .int .i64 10, .int .i64 64] H fun r H' => H' = H ∧ ∃ v x, r = .tuple #[.int .i64 v, x] ∧ ((Lib.parseIntB 64 s = .ok v ∧ x = .nilIface) ∨ ((∀ u, Lib.parseIntB 64 s ≠ .ok u) ∧ ∃ t a, x = .iface t a)) := by
  obtain ⟨t1, a1, h1⟩ := L.syn
  obtain ⟨t2, a2, h2⟩ := L.rng
  refine Does.ofBelowR fun w hw => ?_
  have w1 := (Cell.base (H := H) h1) w hw
  have w2 := (Cell.base (H := H) h2) w hw
  have hsz : (⟨s.toArray⟩ : ByteArray).size = s.length := by show s.toArray.size = _; simp
  rcases hA : Lib.parseIntB 64 s with v | _ | _
  · refine (Tryd.strconv_ParseInt_10_at64_ok ⟨s.toArray⟩ (by omega) v (by simpa using hA) w).mono ?_
    rintro e w' ⟨rfl, hw'⟩
    refine ⟨_, rfl, ⟨_, _, rfl, .inl ⟨rfl, rfl⟩⟩, ?_⟩
    rcases hw' with rfl | ⟨t, rfl⟩
    · exact Below.refl _ _
    · exact Lib.bytesWorld_below _ _ _
  · refine (Any.strconv_ParseInt_10_at64_syntax Tryd.layrC174 ⟨s.toArray⟩ (by omega) (by simpa using hA) _ w w1 (.inr ⟨_, _, rfl⟩)).mono ?_
    rintro e w' ⟨N, rfl, _, _, hb⟩
    exact ⟨_, rfl, ⟨_, _, rfl, .inr ⟨by simp, _, _, rfl⟩⟩, hb⟩
  · refine (Any.strconv_ParseInt_10_at64_range Tryd.layrC174 ⟨s.toArray⟩ (by omega) (by simpa using hA) _ w w2 (.inr ⟨_, _, rfl⟩)).mono ?_
    rintro e w' ⟨N, rfl, _, _, hb⟩
    exact ⟨_, rfl, ⟨_, _, rfl, .inr ⟨by simp, _, _, rfl⟩⟩, hb⟩
end
end Go.Proofs.YtkgddnelghkdnaaDoor
