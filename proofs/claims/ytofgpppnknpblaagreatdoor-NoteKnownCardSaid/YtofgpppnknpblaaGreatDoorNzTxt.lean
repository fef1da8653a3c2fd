/- Numbers told, texts joined. No condition. -/
import Derived.Test.YtofgpppnknpblaaGreatDoorNzShelf
import Derived.Test.YtofgpppnknpblaaGreatDoorNzDigR
import Derived.Test.YtofgpppnknpblaaGreatDoorSL4
import Derived.Lib.ItoaLen
namespace Go.Proofs.YtofgpppnknpblaaGreatDoor
open Go Go.SL
set_option linter.unusedSimpArgs false
set_option linter.unusedVariables false
set_option maxRecDepth 10000
set_option maxHeartbeats 2000000
abbrev Tab (B : World) : Prop := Lib.TabBelow Tryz.prog B.heap.size B Tryz.powName .u64 Lib.pow10Tab
abbrev dg (n : Nat) : List UInt8 := Lib.decDigits n
theorem ss_data (l : List (List UInt8)) : (l.map fun x => (⟨x.toArray⟩ : ByteArray)).map (·.data.toList) = l := by
  rw [List.map_map]
  conv => rhs; rw [← List.map_id l]
  refine List.map_congr_left fun x _ => ?_
  simp
theorem dg_len {n : Nat} (h : n < 18446744073709551616) : (dg n).length ≤ 20 := by
  show (Lib.decDigits n).length ≤ 20
  rw [Lib.decDigits_length]; exact Lib.nDigits_le20 n h
section
variable {B : World} {F H G : HProp}
theorem itoaT (T : Tab B) {n : Nat} (h : n < 9223372036854775808) : Does Tryz.prog B 38 [.int .i64 n] H fun r H' => H' = H ∧ r = str (dg n) :=
  Does.ofGrown fun w hw => by
    have := Tryz.strconv_Itoa (n : Int) (by omega) (by omega) w (T w hw.below)
    rw [Lib.itoa_nonneg] at this
    exact this
theorem joinS {l : List (List UInt8)} {b o cap : Nat} {sep : List UInt8} (hc : Cells B H b o (ss l)) (h1 : 1 ≤ l.length) (hcap : l.length ≤ cap) (hl : l.length ≤ 1000000) (hlen : (Lib.join l sep).length ≤ 1000000) :
    Does Tryz.prog B 39 [.slice (some ⟨b, o, none⟩) l.length cap, str sep] H fun r H' => H' = H ∧ r = str (Lib.join l sep) := by
  refine Does.ofBelow fun w hw => ?_
  have hcells := hc w hw
  have hget : ∀ (j : Nat) x, (l.map fun x => (⟨x.toArray⟩ : ByteArray))[j]? = some x → w.cell? ⟨b, o + j, none⟩ = some (.string x) := by
    intro j x hx
    rw [List.getElem?_map] at hx
    refine hcells j _ ?_
    unfold ss
    rw [List.getElem?_map]
    cases hj : l[j]? with
    | none => rw [hj] at hx; cases hx
    | some y => rw [hj] at hx; cases hx; rfl
  have hb : b < w.heap.size := by
    have h0 := hget 0 ⟨(l[0]'(by omega)).toArray⟩ (by rw [List.getElem?_map, List.getElem?_eq_getElem (by omega)]; rfl)
    exact block_lt_of_cell h0
  have key := Tryz.strings_Join b o cap (l.map fun x => (⟨x.toArray⟩ : ByteArray)) ⟨sep.toArray⟩ w hget hb (by rw [List.length_map]; omega) (by rw [List.length_map]; exact hcap) (by rw [ss_data]; show (Lib.join l sep).length ≤ _; omega)
  rw [ss_data, List.length_map] at key
  exact key
theorem digitsU {n : Nat} (h : n < 18446744073709551616) : Does Tryz.prog B 17 [.int .u64 n, .int .i64 1] H fun r H' => H' = H ∧ r = str (dg n) := by
  have := digits_spec (B := B) (H := H) (u := n) (least := 1) h (by omega)
  rw [digGo_one] at this
  exact this
end
end Go.Proofs.YtofgpppnknpblaaGreatDoor
