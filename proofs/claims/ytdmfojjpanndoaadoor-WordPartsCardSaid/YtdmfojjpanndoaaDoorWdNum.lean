/- Numbers told in decimal digits. No condition. -/
import Derived.Test.YtdmfojjpanndoaaDoorWdInst
import Derived.Test.YtdmfojjpanndoaaDoorWdShelf
import Derived.Test.YtdmfojjpanndoaaDoorSLRange
import Derived.Test.YtdmfojjpanndoaaDoorSLArr
import Derived.Lib.ItoaLen
namespace Go.Proofs.YtdmfojjpanndoaaDoor
open Go Go.SL
set_option linter.unusedSimpArgs false
set_option linter.unusedVariables false
set_option maxRecDepth 10000
set_option maxHeartbeats 1000000
/-- The table of powers lies there. -/
abbrev Tab (B : World) : Prop := Lib.TabBelow Tryd.prog B.heap.size B Tryd.powName .u64 Lib.pow10Tab
section
variable {B : World} {H F : HProp}
theorem small_spec {i : Nat} (hi : i < 100) : Does Tryd.prog B 45 [.int .i64 i] H fun r H' => H' = H ∧ r = str (Lib.decDigits i) :=
  Does.ofSame fun w _ => Tryd.internal_strconv_small i hi w
theorem numDigits_spec (T : Tab B) {u : Nat} (h1 : 1 ≤ u) (h2 : u < 18446744073709551616) : Does Tryd.prog B 46 [.int .u64 u] H fun r H' => H' = H ∧ r = .int .i64 (Lib.nDigits u : Nat) :=
  Does.ofSame fun w hw => Tryd.internal_strconv_numDigits u h1 h2 w (T w hw.below)
theorem fmt_spec {b nd u cap : Nat} {cs : List Value} {e : TypeId} (hz : ∀ j, j < nd → cs[j]? = some (.int .u8 0)) (hnd : nd ≤ cs.length) (hc : cs.length ≤ 1000) (hu : u < 10 ^ nd) (h2 : u < 18446744073709551616) :
    Does Tryd.prog B 47 [.slice (some ⟨b, 0, none⟩) nd cap, .int .u64 u] (blk b cs e + F) fun r H' => ∃ v' dk, Lib.FmtInv nd u 0 v' dk ∧ r = .tuple #[] ∧ H' = blk b (by8 dk.toList ++ cs.drop nd) e + F := by
  intro w hw
  have hsz : (Array.replicate nd (0 : UInt8)).size = nd := Array.size_replicate
  have hH : Sort.Holds (fun (b : UInt8) => Value.int .u8 (b.toNat : Int)) w b 0 (Array.replicate nd (0 : UInt8)) := fun j hj => by
    rw [hsz] at hj
    refine ⟨?_, blk_frozen hw⟩
    rw [Nat.zero_add, blk_cell hw (hz j hj), getElem!_pos _ j (by simpa using hj)]
    simp
  have key := Tryd.internal_strconv_formatBase10 b 0 cap u (Array.replicate nd (0 : UInt8)) w hH (by rw [hsz]; exact hu) h2 (by rw [hsz]; omega)
  rw [hsz] at key
  refine key.mono ?_
  rintro e w' ⟨he, n, v', dk, rfl, hF⟩
  have hs : dk.size = nd := hF.size
  refine ⟨_, _, he, ?_, v', dk, hF, rfl, rfl⟩
  have := (hw.putRow (enc := fun (b : UInt8) => Value.int .u8 (b.toNat : Int)) (d := dk) (by rw [hs]; exact hnd)).drewK n
  rw [hs] at this
  exact this
attribute [local irreducible] WP WPL QSeq QBlk QRet Does Cell Cells Rd Mine Ent Aside RV
theorem row_numeral {u v' : Nat} {dk : Array UInt8} (h : Lib.FmtInv (Lib.nDigits u) u 0 v' dk) : dk.toList = Lib.decDigits u := by
  have hl : dk.toList.length = (Lib.decDigits u).length := by rw [Lib.decDigits_length, Array.length_toList]; exact h.size
  refine List.ext_getElem hl fun j h1 h2 => ?_
  rw [Lib.row_is_numeral h j h2, getElem!_pos dk j (by simpa using h1)]
  simp
theorem fmtU_in (T : Tab B) {u : Nat} (h2 : u < 18446744073709551616) : Does Tryd.prog B 44 [.int .u64 u, .int .i64 10] H fun r H' => H' = H ∧ r = str (Lib.decDigits u) := by
  refine fn_intro 32 Tryd.func44 rfl rfl rfl ?_
  by_cases hs : u < 100
  · refine walk ?_
    refine s_call rfl (small_spec hs) rfl ?_
    rintro _ _ ⟨e_, rfl⟩
    obtain rfl := e_.symm
    refine walk ?_
    (first | refine ret1 (v := .string _) (.inr rfl) rfl rfl ?_ | refine ret1  (.inr rfl) rfl rfl ?_ | refine ret1 (v := .string _) (.inl rfl) rfl rfl ?_ | refine ret1  (.inl rfl) rfl rfl ?_)
    exact ⟨rfl, rfl⟩
  · have hn20 := Lib.nDigits_le20 u h2
    refine walk ?_
    refine s_alloc rfl ?_
    intro b
    refine walk ?_
    refine s_call rfl (numDigits_spec T (u := u) (by omega) h2) rfl ?_
    rintro _ _ ⟨e_, rfl⟩
    obtain rfl := e_.symm
    refine walk ?_
    (refine s_sliceArrH rfl rfl rfl ?_ rfl ?_; · omega)
    refine walk ?_
    have hz : ∀ j, j < Lib.nDigits u → (List.replicate 24 (Value.int .u8 0))[j]? = some (Value.int .u8 0) := fun j hj => by rw [List.getElem?_replicate, if_pos (by omega)]
    refine s_call rfl (fmt_spec (cs := List.replicate 24 (.int .u8 0)) (u := u) hz (by rw [List.length_replicate]; omega) (by simp) (Lib.lt_pow_nDigits u) h2) rfl ?_
    rintro _ _ ⟨v', dk, hF, rfl, rfl⟩
    refine walk ?_
    rw [row_numeral hF]
    (refine s_sliceArrH rfl rfl rfl ?_ rfl ?_; · omega)
    refine walk ?_
    have hl : (Lib.decDigits u).length = Lib.nDigits u := Lib.decDigits_length u
    refine s_bytesStr (l := Lib.decDigits u) rfl (Rd.blkPre (by simp [hl]) (by simp [maxLen]; omega)) rfl ?_
    refine walk ?_
    refine QRet.ent (Ent.drop_left _ _) ?_
    (first | refine ret1 (v := .string _) (.inr rfl) rfl rfl ?_ | refine ret1  (.inr rfl) rfl rfl ?_ | refine ret1 (v := .string _) (.inl rfl) rfl rfl ?_ | refine ret1  (.inl rfl) rfl rfl ?_)
    exact ⟨rfl, rfl⟩
theorem fmtU (T : Tab B) {u : Nat} (h2 : u < 18446744073709551616) : Does Tryd.prog B 35 [.int .u64 u, .int .i64 10] H fun r H' => H' = H ∧ r = str (Lib.decDigits u) := by
  refine fn_intro 8 Tryd.func35 rfl rfl rfl ?_
  refine walk ?_
  refine s_call rfl (fmtU_in T h2) rfl ?_
  rintro _ _ ⟨e_, rfl⟩
  obtain rfl := e_.symm
  refine walk ?_
  (first | refine ret1 (v := .string _) (.inr rfl) rfl rfl ?_ | refine ret1  (.inr rfl) rfl rfl ?_ | refine ret1 (v := .string _) (.inl rfl) rfl rfl ?_ | refine ret1  (.inl rfl) rfl rfl ?_)
  exact ⟨rfl, rfl⟩
end
end Go.Proofs.YtdmfojjpanndoaaDoor
