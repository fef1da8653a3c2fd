/- clear(s) at a slice: its cells hold zeros; the rest stays. No condition. -/
import Derived.Test.YtofgpppnknpblaaDoorSLMap2
import Derived.Test.YtofgpppnknpblaaDoorSLMem2
set_option linter.unusedSimpArgs false
set_option linter.unusedVariables false
namespace Go.SL
open Go Go.RowKit
section
variable {ro : Option Nat} {P : Program} {B : World} {n : Nat} {ops : Array Oper} {rest : List Oper} {fr : Fr} {H F : HProp} {Q : Post}
variable {d : Nat} {ty : TypeId} {pos : String} {after : Array Edge}
theorem s_clear {t e e' : TypeId} {sz by' : Nat} {z : List Value} [i : SliceOf P t e sz by' z] {x : Operand} {b o m cap : Nat} {cs : List Value} (hx : ev fr x = .slice (some ⟨b, o, none⟩) m cap) [hb : HasBlk H b cs e' F]
    (h1 : z.all Value.oneCell' = true) (ho : o + m * sz ≤ cs.length)
    (k : ∀ zs, zs.length = m * sz → WPL ro P B n ops rest fr (blk b (cs.take o ++ zs ++ cs.drop (o + m * sz)) e' + F) Q) :
    WPL ro P B n ops (⟨none, .call ⟨.builtin .clear, #[x], #[t]⟩, ty, pos, after, none⟩ :: rest) fr H Q := step_val0 fun w hw => by
  obtain ⟨hu, inf, zv, hi, hs, hby, hz, hzc, hzl⟩ := i.eq
  have hw' : Holds B (blk b cs e' + F) w := by rw [← hb.eq]; exact hw
  rcases Nat.eq_zero_or_pos m with rfl | hm
  · have h := k [] (by simp)
    simp only [Nat.zero_mul, Nat.add_zero, List.append_nil, List.take_append_drop] at h
    refine ⟨.tuple #[], w, _, ?_, hw', h⟩
    simp [execOp, resolve, invoke, builtin, hx, Builtin.clear_, run_underlying hu]
  · have hzsz : zv.cells.size = sz := by rw [hzc]; simpa using hzl
    have hl : (Builtin.zeroCells zv.cells m).toList.length = m * sz := by rw [Array.length_toList, size_zeroCells, hzsz]
    have hall : ∀ v ∈ (Builtin.zeroCells zv.cells m).toList, v.oneCell' = true := by
      intro v hv
      rw [hzc] at hv
      simp only [Builtin.zeroCells] at hv
      simp at hv
      obtain ⟨a, ha, rfl⟩ := hv
      have hz0 : 0 < z.length := by
        rcases Nat.eq_zero_or_pos z.length with h | h
        · rw [h] at ha; simp at ha
        · exact h
      have : a % z.length < z.length := Nat.mod_lt _ hz0
      rw [List.getElem?_eq_getElem this, Option.getD_some]
      exact List.all_eq_true.1 h1 _ (List.getElem_mem _)
    have hst := run_storeCells_at P b o e' (Builtin.zeroCells zv.cells m).toList 0 cs.toArray w hw'.obj.1 (by rw [hl]; simp; omega) hall
    simp only [Nat.add_zero] at hst
    obtain ⟨m, rfl⟩ : ∃ k, m = k + 1 := ⟨m - 1, by omega⟩
    refine ⟨.tuple #[], w.setRow b (cs.take o ++ (Builtin.zeroCells zv.cells (m + 1)).toList ++ cs.drop (o + (m + 1) * sz)).toArray, _, ?_, ?_, k _ hl⟩
    · rw [hl] at hst
      simp [execOp, resolve, invoke, builtin, hx, Builtin.clear_, run_underlying hu, zeroValue, typeInfo, hi, hz]
      simp at hst
      rw [hst]
      simp
    · refine Holds.upd (o' := .cells _ e' (0, 0)) hw' rfl rfl rfl (by simp [hl]) (setRow_heap w b cs.toArray _ e' (0, 0) hw'.obj.1) fun k hk => setRow_other w b k _ hk
end
end Go.SL
