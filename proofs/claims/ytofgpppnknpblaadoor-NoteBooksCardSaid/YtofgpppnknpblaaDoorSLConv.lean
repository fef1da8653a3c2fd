/- Contracts that are told of worlds, taken over; bytes as a string. No condition. -/
import Derived.Test.YtofgpppnknpblaaDoorSLStr2
import Derived.Test.YtofgpppnknpblaaDoorSLAuto
import Derived.Laws.IdiomStrings
import Derived.Lib.ItoaMem
import Derived.Lib.AppendIntMem
import Derived.Sort.Grow
import Derived.Sort.Row
set_option linter.unusedSimpArgs false
set_option linter.unusedVariables false
namespace Go.SL
open Go Go.RowKit
section
variable {P : Program} {B : World} {H F : HProp} {f : FuncId} {args : List Value} {v : Value}
/-- A contract that leaves the world as it was. -/
theorem Does.ofSame (h : ∀ w, Holds B H w → Calls P f args.toArray w fun e w' => e = .returned v ∧ w' = w) : Does P B f args H fun r H' => H' = H ∧ r = v :=
  fun w hw => (h w hw).mono fun _ _ ⟨he, hw'⟩ => ⟨v, H, he, hw' ▸ hw, rfl, rfl⟩
theorem Holds.drewK {w : World} (h : Holds B H w) (k : Nat) : Holds B H (w.drewN k) := by
  obtain ⟨⟨e1, e2, e3, e4, e5⟩, hh⟩ := h
  exact ⟨⟨e1, e2, e3, e4, e5⟩, hh⟩
theorem Holds.grown {w : World} (h : Holds B H w) (os : Array Obj) : Holds B H (Sort.grow w os) := by
  obtain ⟨⟨e1, e2, e3, e4, e5⟩, x, hx, p⟩ := h
  refine ⟨⟨e1, e2, e3, by simp [Sort.grow]; omega, fun k hk => ?_⟩, x, fun k y hy => ⟨?_, (hx k y hy).2⟩, p⟩
  · rw [← e5 k hk]
    simp only [Sort.grow]
    rw [Array.getElem?_append_left (by omega)]
  · have := (hx k y hy).1
    have hlt : k < w.heap.size := (Array.getElem?_eq_some_iff.1 this).1
    simp only [Sort.grow]
    rw [Array.getElem?_append_left hlt]
    exact this
/-- A contract that lays new blocks. -/
theorem Does.ofGrown (h : ∀ w, Holds B H w → Calls P f args.toArray w fun e w' => e = .returned v ∧ ∃ k os, w' = Sort.grow (w.drewN k) os) : Does P B f args H fun r H' => H' = H ∧ r = v :=
  fun w hw => (h w hw).mono fun _ _ ⟨he, k, os, hw'⟩ => ⟨v, H, he, by subst hw'; exact (hw.drewK k).grown os, rfl, rfl⟩
/-- A block whose first cells are written over. -/
theorem Holds.putRow {α : Type} [Inhabited α] {enc : α → Value} {w : World} {b : Nat} {cs : List Value} {e : TypeId} {d : Array α} (h : Holds B (blk b cs e + F) w) (hd : d.size ≤ cs.length) :
    Holds B (blk b (d.toList.map enc ++ cs.drop d.size) e + F) (Sort.putRow enc w b 0 d) := by
  have hb := h.obj.1
  have hlt : b < w.heap.size := (Array.getElem?_eq_some_iff.1 hb).1
  refine Holds.upd (o' := .cells (d.toList.map enc ++ cs.drop d.size).toArray e (0, 0)) h rfl rfl rfl (by simp) ?_ ?_
  · show (w.heap.modify b _)[b]? = _
    rw [Array.getElem?_modify, if_pos rfl, hb]
    simp only [Option.map_some, Sort.onCells]
    congr 2
    apply Array.ext_getElem?
    intro k
    simp only [Sort.putCells, Array.getElem?_mapIdx, List.getElem?_toArray, Nat.zero_le, true_and, Nat.zero_add, Nat.sub_zero]
    by_cases hk : k < d.size
    · have hk2 : k < cs.length := by omega
      rw [List.getElem?_append_left (by simpa using hk)]
      simp [hk, hk2]
    · rw [List.getElem?_append_right (by simpa using Nat.le_of_not_lt hk)]
      simp only [List.length_map, Array.length_toList, List.getElem?_drop, hk, if_false]
      rw [show d.size + (k - d.size) = k by omega]
      cases cs[k]? <;> rfl
  · intro k hk
    show (w.heap.modify b _)[k]? = _
    rw [Array.getElem?_modify, if_neg (fun e => hk e.symm)]
end
section
variable {ro : Option Nat} {P : Program} {B : World} {n : Nat} {ops : Array Oper} {rest : List Oper} {fr : Fr} {H : HProp} {Q : Post}
variable {d : Nat} {ty : TypeId} {pos : String} {after : Array Edge}
abbrev by8 (l : List UInt8) : List Value := l.map fun c => .int .u8 (c.toNat : Int)
/-- Bytes as a string. -/
theorem s_bytesStr {t u e : TypeId} {by' : Nat} {z : List Value} {x : Operand} {v : Value} {m : Nat} {l : List UInt8} [i : SliceOf P t e 1 by' z] [ie : IntTy P e .u8] [us : UnderStr P u] (hx : ev fr x = v) (hr : Rd B H 1 v m (by8 l)) (hd : Nat.blt d n = true)
    (k : WPL ro P B n ops rest (fr.put d (str l)) H Q) : WPL ro P B n ops (⟨some d, .convert t u x, ty, pos, after, none⟩ :: rest) fr H Q := step_look hd (fun w hw => by
    obtain ⟨ao, cap, rfl, hl, hm, ha⟩ := hr
    have hml : m = l.length := by simpa using hl.symm
    subst hml
    have e1 : execOp (ev fr) ⟨some d, .convert t u x, ty, pos, after, none⟩ = (do Pure.pure (Next.value (← convert t u (ev fr x)))) := rfl
    rw [e1, hx]
    have key : (convert t u (.slice ao l.length cap)).run P w = .ok (.string ⟨l.toArray⟩) w := by
      rcases ha with h | ⟨b, o, rfl, hc⟩
      · have : l = [] := by simpa using h
        subst this
        show Sem.run P (convert t u (.slice ao 0 cap)) w = _
        rw [run_convert_bytes_string w t u e ao 0 cap i.eq.1 ie.eq us.eq]
        cases ao with
        | none => simp [Conv.bytesToString]; rfl
        | some a =>
          have := run_convert_bytes_back (P := P) w t u e a cap [] i.eq.1 ie.eq us.eq (by simp)
          rw [run_convert_bytes_string w t u e (some a) _ cap i.eq.1 ie.eq us.eq] at this
          exact this
      · refine run_convert_bytes_back w t u e ⟨b, o, none⟩ cap l i.eq.1 ie.eq us.eq ?_
        intro j hj
        have h1 := hc w hw j (.int .u8 (l[j].toNat : Int)) (by simp [hj])
        rw [Lib.add_plain]
        exact h1
    simp [key, Result.andThen]) k
end
end Go.SL
