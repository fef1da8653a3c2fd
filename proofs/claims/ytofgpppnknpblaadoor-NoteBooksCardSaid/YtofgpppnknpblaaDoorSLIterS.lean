/- Ranging over a string of plain signs; a sign as a string. No condition. -/
import Derived.Test.YtofgpppnknpblaaDoorSLWalk2
import Derived.Laws.RangeString
import Derived.Laws.Runes
set_option linter.unusedSimpArgs false
set_option linter.unusedVariables false
namespace Go.SL
open Go Go.RowKit
/-- How far a range over a string is. -/
def IterAt (b : Nat) (x : List UInt8 × Nat) : HProp := obj b (.stringIter ⟨x.1.toArray⟩ x.2)
section
variable {ro : Option Nat} {P : Program} {B : World} {n : Nat} {ops : Array Oper} {rest : List Oper} {fr : Fr} {H F : HProp} {Q : Post}
variable {d : Nat} {ty : TypeId} {pos : String} {after : Array Edge}
theorem ba_size (l : List UInt8) : (⟨l.toArray⟩ : ByteArray).size = l.length := by show l.toArray.size = _; simp
theorem s_rangeS {t : TypeId} {x : Operand} {l : List UInt8} [u : UnderStr P t] (hx : ev fr x = str l) (hd : Nat.blt d n = true)
    (k : ∀ b, WPL ro P B n ops rest (fr.put d (.pointer (some ⟨b, 0, none⟩))) (IterAt b (l, 0) + H) Q) : WPL ro P B n ops (⟨some d, .range t x, ty, pos, after, none⟩ :: rest) fr H Q := step_val hd fun w hw => by
  refine ⟨_, _, _, ?_, hw.alloc _, k w.heap.size⟩
  have e : execOp (ev fr) ⟨some d, .range t x, ty, pos, after, none⟩ = (do Pure.pure (Next.value (← Instr.range t (ev fr x)))) := rfl
  rw [e, hx]
  have := run_range_string (P := P) w t ⟨l.toArray⟩ u.eq
  simp only [Sem.run_bind, this, Result.andThen_ok]
  rfl
theorem s_nextS {x : Operand} {b i : Nat} {l : List UInt8} [h : HasAt IterAt H b (l, i) F] (hx : ev fr x = .pointer (some ⟨b, 0, none⟩)) (hi : i < l.length) (ha : l[i].toNat < 128) (hd : Nat.blt d n = true)
    (k : WPL ro P B n ops rest (fr.put d (.tuple #[.bool true, .int .i64 (i : Int), .int .i32 ((l[i].toNat : Nat) : Int)])) (IterAt b (l, i + 1) + F) Q) : WPL ro P B n ops (⟨some d, .next x true, ty, pos, after, none⟩ :: rest) fr H Q := step_val hd fun w hw => by
  have hw' : Holds B (IterAt b (l, i) + F) w := by rw [← h.eq]; exact hw
  have hb : w.heap[b]? = some (.stringIter ⟨l.toArray⟩ i) := hw'.obj.1
  have hlt : b < w.heap.size := (Array.getElem?_eq_some_iff.1 hb).1
  have hsz := ba_size l
  have hg : (⟨l.toArray⟩ : ByteArray)[i]'(by omega) = l[i] := by simp [ByteArray.getElem_eq_getElem_data]
  have hdec := decode_ascii ⟨l.toArray⟩ i (by omega) (by rw [hg]; exact ha)
  rw [hg] at hdec
  refine ⟨_, w.putObj b (.stringIter ⟨l.toArray⟩ (i + 1)), IterAt b (l, i + 1) + F, ?_, ?_, k⟩
  · have e : execOp (ev fr) ⟨some d, .next x true, ty, pos, after, none⟩ = (do Pure.pure (Next.value (← Instr.next (ev fr x) true ty))) := rfl
    rw [e, hx]
    simp only [Instr.next, getObj, setObj, Sem.run_bind, Sem.run, hb, Result.andThen, hsz, hi, if_true, hdec]
    simp [goInt, Sem.run, World.putObj]
  · exact Holds.upd (o' := .stringIter ⟨l.toArray⟩ (i + 1)) hw' rfl rfl rfl (by simp [World.putObj]) (World.putObj_heap_same hlt) fun k hk => World.putObj_heap_other hk
theorem s_nextC {x : Operand} {b i : Nat} {l : List UInt8} {c : UInt8} [h : HasAt IterAt H b (l, i) F] (hx : ev fr x = .pointer (some ⟨b, 0, none⟩)) (hc : l[i]? = some c) (ha : c.toNat < 128) (hd : Nat.blt d n = true)
    (k : WPL ro P B n ops rest (fr.put d (.tuple #[.bool true, .int .i64 (i : Int), .int .i32 ((c.toNat : Nat) : Int)])) (IterAt b (l, i + 1) + F) Q) : WPL ro P B n ops (⟨some d, .next x true, ty, pos, after, none⟩ :: rest) fr H Q := by
  obtain ⟨hi, rfl⟩ := List.getElem?_eq_some_iff.1 hc
  exact s_nextS hx hi ha hd k
theorem s_nextE {x : Operand} {b i : Nat} {l : List UInt8} [h : HasAt IterAt H b (l, i) F] (hx : ev fr x = .pointer (some ⟨b, 0, none⟩)) (hi : ¬ i < l.length) (hd : Nat.blt d n = true)
    (k : WPL ro P B n ops rest (fr.put d (.tuple #[.bool false])) H Q) : WPL ro P B n ops (⟨some d, .next x true, ty, pos, after, none⟩ :: rest) fr H Q := step_look hd (fun w hw => by
  have hw' : Holds B (IterAt b (l, i) + F) w := by rw [← h.eq]; exact hw
  have hb : w.heap[b]? = some (.stringIter ⟨l.toArray⟩ i) := hw'.obj.1
  have hsz := ba_size l
  have e : execOp (ev fr) ⟨some d, .next x true, ty, pos, after, none⟩ = (do Pure.pure (Next.value (← Instr.next (ev fr x) true ty))) := rfl
  rw [e, hx]
  simp [Instr.next, getObj, Sem.run, hb, hsz, hi]) k
theorem enc_ascii : ∀ c : Nat, c < 128 → Utf8.encode (c : Int) = ⟨#[UInt8.ofNat c]⟩ := by
  intro c hc
  have hv : Utf8.valid (c : Int) = true := by
    unfold Utf8.valid
    simp
    omega
  unfold Utf8.encode
  simp only [hv, if_true, Int.toNat_natCast]
  rw [if_pos (by omega)]
/-- A plain sign as a string. -/
theorem s_runeS {t u : TypeId} {x : Operand} {kd : IntKind} {c : UInt8} [i : IntTy P t kd] [us : UnderStr P u] (hx : ev fr x = .int kd ((c.toNat : Nat) : Int)) (hc : c.toNat < 128) (hd : Nat.blt d n = true)
    (k : WPL ro P B n ops rest (fr.put d (str [c])) H Q) : WPL ro P B n ops (⟨some d, .convert t u x, ty, pos, after, none⟩ :: rest) fr H Q := step_pure hd (fun w => by
  have e : execOp (ev fr) ⟨some d, .convert t u x, ty, pos, after, none⟩ = (do Pure.pure (Next.value (← convert t u (ev fr x)))) := rfl
  have h := run_convert_int_string (P := P) w t u kd ((c.toNat : Nat) : Int) (by rw [i.eq]; rfl) us.eq
  rw [enc_ascii _ hc] at h
  rw [e, hx]
  simp [h]) k
end
end Go.SL
