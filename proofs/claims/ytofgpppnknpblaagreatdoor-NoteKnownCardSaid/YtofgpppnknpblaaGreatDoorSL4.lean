/- Rules for walks: what one's own memory is, and what each operation does. No condition. -/
import Derived.Test.YtofgpppnknpblaaGreatDoorSL3
import Derived.Laws.RangeString
import Derived.Laws.Runes
import Derived.Test.YtofgpppnknpblaaGreatDoorSL2
import Derived.Lib.ItoaNum
import Derived.Lib.Join
import Derived.Test.YtofgpppnknpblaaGreatDoorSL1
import Derived.Lib.SplitLaws
import Derived.Lib.AtoiAll
import Derived.WideLaws
import Derived.WideShapes
import Derived.ChangeArms
import Derived.Handed
import Derived.Shelf.Vars
import Derived.LaidLaws
set_option linter.unusedSimpArgs false
set_option linter.unusedVariables false
namespace Go.SL
open Go Go.RowKit
/-- How far a range over a string is. -/
def IterAt (b : Nat) (x : List UInt8 × Nat) : HProp := obj b (.stringIter ⟨x.1.toArray⟩ x.2)
section
variable {ro : Option Nat} {P : Program} {B : World} {n : Nat} {ops : Array Oper} {rest : List Oper} {fr : Fr} {H F : HProp} {Q : Post}
variable {d : Nat} {ty : TypeId} {pos : String} {after : Array Edge}
theorem ba_size (l : List UInt8) : (⟨l.toArray⟩ : ByteArray).size = l.length := by show l.toArray.size = _; simp
theorem s_rangeS {t : TypeId} {x : Operand} {l : List UInt8} [u : UnderStr P t] (hx : ev fr x = str l) (hd : Nat.blt d n = true)
    (k : ∀ b, WPL ro P B n ops rest (fr.put d (.pointer (some ⟨b, 0, none⟩))) (IterAt b (l, 0) + H) Q) : WPL ro P B n ops (⟨some d, .range t x, ty, pos, after, none⟩ :: rest) fr H Q := step_val hd fun w hw => by
  refine ⟨_, _, _, ?_, hw.alloc _, k w.heap.size⟩
  have e : execOp (ev fr) ⟨some d, .range t x, ty, pos, after, none⟩ = (do Pure.pure (Next.value (← Instr.range t (ev fr x)))) := rfl
  rw [e, hx]
  have := run_range_string (P := P) w t ⟨l.toArray⟩ u.eq
  simp only [Sem.run_bind, this, Result.andThen_ok]
  rfl
theorem s_nextS {x : Operand} {b i : Nat} {l : List UInt8} [h : HasAt IterAt H b (l, i) F] (hx : ev fr x = .pointer (some ⟨b, 0, none⟩)) (hi : i < l.length) (ha : l[i].toNat < 128) (hd : Nat.blt d n = true)
    (k : WPL ro P B n ops rest (fr.put d (.tuple #[.bool true, .int .i64 (i : Int), .int .i32 ((l[i].toNat : Nat) : Int)])) (IterAt b (l, i + 1) + F) Q) : WPL ro P B n ops (⟨some d, .next x true, ty, pos, after, none⟩ :: rest) fr H Q := step_val hd fun w hw => by
  have hw' : Holds B (IterAt b (l, i) + F) w := by rw [← h.eq]; exact hw
  have hb : w.heap[b]? = some (.stringIter ⟨l.toArray⟩ i) := hw'.obj.1
  have hlt : b < w.heap.size := (Array.getElem?_eq_some_iff.1 hb).1
  have hsz := ba_size l
  have hg : (⟨l.toArray⟩ : ByteArray)[i]'(by omega) = l[i] := by simp [ByteArray.getElem_eq_getElem_data]
  have hdec := decode_ascii ⟨l.toArray⟩ i (by omega) (by rw [hg]; exact ha)
  rw [hg] at hdec
  refine ⟨_, w.putObj b (.stringIter ⟨l.toArray⟩ (i + 1)), IterAt b (l, i + 1) + F, ?_, ?_, k⟩
  · have e : execOp (ev fr) ⟨some d, .next x true, ty, pos, after, none⟩ = (do Pure.pure (Next.value (← Instr.next (ev fr x) true ty))) := rfl
    rw [e, hx]
    simp only [Instr.next, getObj, setObj, Sem.run_bind, Sem.run, hb, Result.andThen, hsz, hi, if_true, hdec]
    simp [goInt, Sem.run, World.putObj]
  · exact Holds.upd (o' := .stringIter ⟨l.toArray⟩ (i + 1)) hw' rfl rfl rfl (by simp [World.putObj]) (World.putObj_heap_same hlt) fun k hk => World.putObj_heap_other hk
theorem s_nextC {x : Operand} {b i : Nat} {l : List UInt8} {c : UInt8} [h : HasAt IterAt H b (l, i) F] (hx : ev fr x = .pointer (some ⟨b, 0, none⟩)) (hc : l[i]? = some c) (ha : c.toNat < 128) (hd : Nat.blt d n = true)
    (k : WPL ro P B n ops rest (fr.put d (.tuple #[.bool true, .int .i64 (i : Int), .int .i32 ((c.toNat : Nat) : Int)])) (IterAt b (l, i + 1) + F) Q) : WPL ro P B n ops (⟨some d, .next x true, ty, pos, after, none⟩ :: rest) fr H Q := by
  obtain ⟨hi, rfl⟩ := List.getElem?_eq_some_iff.1 hc
  exact s_nextS hx hi ha hd k
theorem s_nextE {x : Operand} {b i : Nat} {l : List UInt8} [h : HasAt IterAt H b (l, i) F] (hx : ev fr x = .pointer (some ⟨b, 0, none⟩)) (hi : ¬ i < l.length) (hd : Nat.blt d n = true)
    (k : WPL ro P B n ops rest (fr.put d (.tuple #[.bool false])) H Q) : WPL ro P B n ops (⟨some d, .next x true, ty, pos, after, none⟩ :: rest) fr H Q := step_look hd (fun w hw => by
  have hw' : Holds B (IterAt b (l, i) + F) w := by rw [← h.eq]; exact hw
  have hb : w.heap[b]? = some (.stringIter ⟨l.toArray⟩ i) := hw'.obj.1
  have hsz := ba_size l
  have e : execOp (ev fr) ⟨some d, .next x true, ty, pos, after, none⟩ = (do Pure.pure (Next.value (← Instr.next (ev fr x) true ty))) := rfl
  rw [e, hx]
  simp [Instr.next, getObj, Sem.run, hb, hsz, hi]) k
theorem enc_ascii : ∀ c : Nat, c < 128 → Utf8.encode (c : Int) = ⟨#[UInt8.ofNat c]⟩ := by
  intro c hc
  have hv : Utf8.valid (c : Int) = true := by
    unfold Utf8.valid
    simp
    omega
  unfold Utf8.encode
  simp only [hv, if_true, Int.toNat_natCast]
  rw [if_pos (by omega)]
/-- A plain sign as a string. -/
theorem s_runeS {t u : TypeId} {x : Operand} {kd : IntKind} {c : UInt8} [i : IntTy P t kd] [us : UnderStr P u] (hx : ev fr x = .int kd ((c.toNat : Nat) : Int)) (hc : c.toNat < 128) (hd : Nat.blt d n = true)
    (k : WPL ro P B n ops rest (fr.put d (str [c])) H Q) : WPL ro P B n ops (⟨some d, .convert t u x, ty, pos, after, none⟩ :: rest) fr H Q := step_pure hd (fun w => by
  have e : execOp (ev fr) ⟨some d, .convert t u x, ty, pos, after, none⟩ = (do Pure.pure (Next.value (← convert t u (ev fr x)))) := rfl
  have h := run_convert_int_string (P := P) w t u kd ((c.toNat : Nat) : Int) (by rw [i.eq]; rfl) us.eq
  rw [enc_ascii _ hc] at h
  rw [e, hx]
  simp [h]) k
end
end Go.SL
set_option linter.unusedSimpArgs false
set_option linter.unusedVariables false
namespace Go.SL
open Go Go.RowKit
/-- Strings, as they lie in memory. -/
def ss (l : List (List UInt8)) : List Value := l.map str
theorem ss_length (l : List (List UInt8)) : (ss l).length = l.length := by simp [ss]
theorem ss_get (l : List (List UInt8)) (k : Nat) (h : k < l.length) : (ss l)[k]? = some (str l[k]) := by simp [ss, h]
theorem ss_one (l : List (List UInt8)) : (ss l).all Value.oneCell' = true := by simp [ss, Value.oneCell']
theorem ss_append (l m : List (List UInt8)) : ss (l ++ m) = ss l ++ ss m := by simp [ss]
theorem ss_push (l : List (List UInt8)) (x : List UInt8) : ss (l ++ [x]) = ss l ++ [str x] := by simp [ss]
theorem ss_take (l : List (List UInt8)) (k : Nat) : (ss l).take k = ss (l.take k) := by simp [ss, List.map_take]
theorem ss_drop (l : List (List UInt8)) (k : Nat) : (ss l).drop k = ss (l.drop k) := by simp [ss, List.map_drop]
end Go.SL
set_option linter.unusedSimpArgs false
set_option linter.unusedVariables false
namespace Go.SL
open Go
theorem dec_step (u : Nat) : Lib.decDigits u = if u < 10 then [UInt8.ofNat (48 + u)] else Lib.decDigits (u / 10) ++ [UInt8.ofNat (48 + u % 10)] := by
  rw [Lib.decDigits]
  split <;> rfl
theorem ofNat_dig : ∀ a, a < 10 → ∀ b, b < 10 → UInt8.ofNat (48 + a) = UInt8.ofNat (48 + b) → a = b := by decide
theorem dec_ne (u : Nat) : Lib.decDigits u ≠ [] := by
  rw [dec_step]
  split <;> simp
theorem dec_inj : ∀ (u v : Nat), Lib.decDigits u = Lib.decDigits v → u = v := by
  intro u
  induction u using Nat.strongRecOn with
  | _ u ih =>
    intro v h
    rw [dec_step u, dec_step v] at h
    by_cases hu : u < 10
    · rw [if_pos hu] at h
      by_cases hv : v < 10
      · rw [if_pos hv] at h
        exact ofNat_dig u hu v hv (by simpa using h)
      · rw [if_neg hv] at h
        have := congrArg List.length h
        simp only [List.length_cons, List.length_nil, List.length_append] at this
        have h0 : (Lib.decDigits (v / 10)).length ≠ 0 := fun e => dec_ne _ (List.length_eq_zero_iff.1 e)
        omega
    · rw [if_neg hu] at h
      by_cases hv : v < 10
      · rw [if_pos hv] at h
        have := congrArg List.length h
        simp only [List.length_cons, List.length_nil, List.length_append] at this
        have h0 : (Lib.decDigits (u / 10)).length ≠ 0 := fun e => dec_ne _ (List.length_eq_zero_iff.1 e)
        omega
      · rw [if_neg hv] at h
        obtain ⟨h1, h2⟩ := List.append_inj' h rfl
        have e1 := ih (u / 10) (by omega) _ h1
        have e2 := ofNat_dig (u % 10) (by omega) (v % 10) (by omega) (by simpa using h2)
        omega
theorem dig_range : ∀ a, a < 10 → 48 ≤ UInt8.ofNat (48 + a) ∧ UInt8.ofNat (48 + a) ≤ 57 := by decide
theorem dec_range : ∀ (u : Nat) (c : UInt8), c ∈ Lib.decDigits u → 48 ≤ c ∧ c ≤ 57 := by
  intro u
  induction u using Nat.strongRecOn with
  | _ u ih =>
    intro c h
    rw [dec_step] at h
    split at h
    · rename_i hu
      rw [List.mem_singleton] at h
      subst h
      exact dig_range u hu
    · rw [List.mem_append, List.mem_singleton] at h
      rcases h with h | h
      · exact ih (u / 10) (by omega) c h
      · subst h
        exact dig_range (u % 10) (by omega)
theorem dec_no (u : Nat) {c : UInt8} (h : c < 48 ∨ 57 < c) : c ∉ Lib.decDigits u := fun hm => by
  obtain ⟨h1, h2⟩ := dec_range u c hm
  rw [UInt8.le_iff_toNat_le] at h1 h2
  rw [UInt8.lt_iff_toNat_lt, UInt8.lt_iff_toNat_lt] at h
  omega
/-- The first place of a sign parts a row in one way. -/
theorem cut_inj {α : Type} {x : α} : ∀ {a a' b b' : List α}, x ∉ a → x ∉ a' → a ++ x :: b = a' ++ x :: b' → a = a' ∧ b = b'
  | [], [], b, b', _, _, h => ⟨rfl, by simpa using h⟩
  | [], y :: a', b, b', _, h2, h => by
    simp only [List.nil_append, List.cons_append, List.cons.injEq] at h
    exact absurd (by rw [h.1]; simp) h2
  | y :: a, [], b, b', h1, _, h => by
    simp only [List.nil_append, List.cons_append, List.cons.injEq] at h
    exact absurd (by rw [← h.1]; simp) h1
  | y :: a, z :: a', b, b', h1, h2, h => by
    simp only [List.cons_append, List.cons.injEq] at h
    obtain ⟨e1, e2⟩ := cut_inj (fun hm => h1 (List.mem_cons_of_mem _ hm)) (fun hm => h2 (List.mem_cons_of_mem _ hm)) h.2
    exact ⟨by rw [h.1, e1], e2⟩
theorem flatMap_len {α : Type} {f : Nat → List α} {sz : Nat} (hf : ∀ p, (f p).length = sz) (n : Nat) : ((List.range n).flatMap f).length = n * sz := by
  induction n with
  | zero => simp
  | succ n ih => rw [List.range_succ, List.flatMap_append, List.length_append, ih, Nat.add_mul]; simp [hf]
theorem flatMap_get {α : Type} {f : Nat → List α} {sz : Nat} (hf : ∀ p, (f p).length = sz) : ∀ (n k : Nat), k < n * sz → ((List.range n).flatMap f)[k]? = (f (k / sz))[k % sz]?
  | 0, k, h => by simp at h
  | n + 1, k, h => by
    have hl := flatMap_len hf n
    have hs : 0 < sz := by
      rcases Nat.eq_zero_or_pos sz with h0 | h0
      · subst h0; simp at h
      · exact h0
    rw [List.range_succ, List.flatMap_append]
    by_cases hlt : k < n * sz
    · rw [List.getElem?_append_left (by omega), flatMap_get hf n k hlt]
    · rw [List.getElem?_append_right (by omega), hl]
      have hk : k - n * sz < sz := by rw [Nat.add_mul] at h; omega
      have e : k = (k - n * sz) + n * sz := by omega
      have e1 : k / sz = n := by rw [e, Nat.add_mul_div_right _ _ hs, Nat.div_eq_of_lt hk]; omega
      have e2 : k % sz = k - n * sz := by
        conv => lhs; rw [e]
        rw [Nat.add_mul_mod_self_right, Nat.mod_eq_of_lt hk]
      rw [e1, e2]
      simp
theorem join_two (x y sep : List UInt8) : Lib.join [x, y] sep = x ++ sep ++ y := by simp [Lib.join_cons, Lib.joinTail]
theorem join_three (x y z sep : List UInt8) : Lib.join [x, y, z] sep = x ++ sep ++ y ++ sep ++ z := by simp [Lib.join_cons, Lib.joinTail]
end Go.SL
set_option linter.unusedSimpArgs false
set_option linter.unusedVariables false
namespace Go.SL
open Go Go.RowKit
section
variable {P : Program} {B : World} {H F : HProp} {f : FuncId} {args : List Value} {v : Value}
theorem Holds.laid {w w' : World} (h : Holds B H w) (hb : Below w.heap.size w w') : Holds B H w' := by
  obtain ⟨hB, x, hx, p⟩ := h
  have hsz := hB.size
  refine ⟨hB.trans (hb.mono hsz), x, fun k y hy => ⟨?_, (hx k y hy).2⟩, p⟩
  have h1 := (hx k y hy).1
  have hlt : k < w.heap.size := (Array.getElem?_eq_some_iff.1 h1).1
  rw [hb.block k hlt]
  exact h1
theorem Does.ofBelow (h : ∀ w, Holds B H w → Calls P f args.toArray w fun e w' => e = .returned v ∧ Below w.heap.size w w') : Does P B f args H fun r H' => H' = H ∧ r = v :=
  fun w hw => (h w hw).mono fun _ _ ⟨he, hb⟩ => ⟨v, H, he, hw.laid hb, rfl, rfl⟩
end
end Go.SL
set_option linter.unusedSimpArgs false
set_option linter.unusedVariables false
namespace Go.SL
open Go Go.RowKit
section
variable {ro : Option Nat} {P : Program} {B : World} {n : Nat} {ops : Array Oper} {rest : List Oper} {fr : Fr} {H : HProp} {Q : Post}
variable {d : Nat} {ty : TypeId} {pos : String} {after : Array Edge}
/-- append: a slice of one's own, and a slice that can be read beside it. -/
theorem append_runK {t e : TypeId} {sz by' : Nat} {z : List Value} [i : SliceOf P t e sz by' z] {w : World} {F : HProp} {v : Value} {k m : Nat} {cs news : List Value} {x : Value} (hsz : 0 < sz)
    (hw : Holds B (Mine e sz v k cs + F) w) (hx : Rd B F sz x m news) (h1 : news.all Value.oneCell' = true) (hb : (k + m) * by' ≤ 140737488355328) (h63 : k + m ≤ maxLen) :
    ∃ v' w' X, (Builtin.append_ #[t, t] ty #[v, x]).run P w = .ok v' w' ∧ Ent (Mine e sz v' (k + m) (cs ++ news) + X) (Mine e sz v k cs) ∧ Holds B (Mine e sz v' (k + m) (cs ++ news) + (X + F)) w' := by
  obtain ⟨hu, inf, zv, hi, hs, hby, hz, hzc, hzl⟩ := i.eq
  subst hs hby
  obtain ⟨ao, xcap, rfl, hnl, hmm, hxc⟩ := hx
  have hwF : Holds B F w := hw.drop_left
  have h63' : k + m ≤ 9223372036854775807 := by simp only [maxLen] at h63; omega
  have h1' : ∀ u ∈ news, u.oneCell' = true := by simpa using h1
  obtain ⟨hcl, hO⟩ := Mine.open hw
  by_cases hm : m = 0
  · subst hm
    have hn : news = [] := List.eq_nil_of_length_eq_zero (by simpa using hnl)
    subst hn
    refine ⟨v, w, emp, ?_, by rw [HProp.add_emp]; simpa using Ent.refl _, by rw [HProp.emp_add]; simpa using hw⟩
    have hld : ∀ a : Addr, (loadCells a 0).run P w = .ok #[] w := fun a => rfl
    rcases hO with ⟨rfl, rfl, _⟩ | ⟨g, cap, sp, rfl, h2, h3, h4, h5⟩
    · cases ao <;> simp [Builtin.append_, run_underlying hu, sizeOf, typeInfo, hi, Builtin.lenOf, Builtin.firstCells, hld]
    · cases ao <;> simp [Builtin.append_, run_underlying hu, sizeOf, typeInfo, hi, Builtin.lenOf, Builtin.firstCells, hld, h2, storeCells]
  · obtain ⟨b, o, rfl, hcx⟩ : ∃ b o, ao = some ⟨b, o, none⟩ ∧ Cells B F b o news := by
      rcases hxc with h | h
      · rw [h] at hnl
        have h0 : m * inf.size = 0 := by simpa using hnl.symm
        rcases Nat.mul_eq_zero.1 h0 with h' | h'
        · exact absurd h' hm
        · omega
      · exact h
    have hnews : ∀ j u, news[j]? = some u → w.cell? ((⟨b, o, none⟩ : Addr).add j) = some u := fun j u hj => by rw [addr_add]; exact hcx w hwF j u hj
    have hzsz : zv.cells.size = inf.size := by rw [hzc]; simpa using hzl
    -- what is laid anew
    have fresh : ∀ (sp : List Value) (cap : Nat), k + m ≤ cap → cap ≤ maxLen → (cs ++ news ++ sp).length = cap * inf.size → ∀ (G : HProp) (w0 : World), Holds B G w0 → w0.heap.size = w.heap.size →
        Holds B (Mine e inf.size (.slice (some ⟨w.heap.size, 0, none⟩) (k + m) cap) (k + m) (cs ++ news) + G) (w0.alloc (.cells (cs ++ news ++ sp).toArray e)) := by
      intro sp cap hc1 hc2 hl G w0 hF hsz0
      have := blk_new hF (cs ++ news ++ sp) e
      rw [hsz0] at this
      refine this.ent ((Mine.of_blk (cs := cs ++ news) (spare := sp) rfl ?_ hc1 hc2 hl).frame_right G)
      simp [hcl, hnl, Nat.add_mul]
    rcases hO with ⟨rfl, rfl, hF⟩ | ⟨g, cap, sp, rfl, h2, h3, h4, h5⟩
    · have hcs : cs = [] := List.eq_nil_of_length_eq_zero (by simpa using hcl)
      subst hcs
      have hr := run_append_nil (P := P) w t ty e inf zv hu hi hz ⟨b, o, none⟩ m xcap news hnl hnews (by omega) (by omega) (by simp only [Nat.zero_add] at hb; omega)
      refine ⟨_, _, emp, hr, by rw [Mine.nil]; exact Ent.drop_left _ _, ?_⟩
      rw [HProp.emp_add]
      have hge := grownCap_ge w m 0 e
      have hcm := grownCap_le_maxLen w m 0 e (by simp only [maxLen]; omega)
      have := fresh (Builtin.zeroCells zv.cells (grownCap w m 0 e - m)).toList (grownCap w m 0 e) (by omega) hcm (by
        simp only [List.nil_append, List.length_append, hnl, Array.length_toList, size_zeroCells, hzsz, ← Nat.add_mul]
        congr 1; omega) F w.drew hF.drew rfl
      have ea : (news.toArray ++ Builtin.zeroCells zv.cells (grownCap w m 0 e - m)) = (news ++ (Builtin.zeroCells zv.cells (grownCap w m 0 e - m)).toList).toArray := by
        apply Array.ext'; simp
      rw [ea]
      simpa using this
    · by_cases hroom : k + m ≤ cap
      · have hall : (cs ++ sp).length = cap * inf.size := h4
        have hfit : k * inf.size + news.length ≤ (cs ++ sp).toArray.size := by
          simp only [List.size_toArray, hall, hnl, ← Nat.add_mul]; exact Nat.mul_le_mul_right _ hroom
        have hr := run_append_room (P := P) w t ty e inf hu hi g k cap (cs ++ sp).toArray h5.obj.1 ⟨b, o, none⟩ m xcap news hnl hnews h1' hroom hfit
        refine ⟨_, _, emp, hr, ?_, ?_⟩
        · rw [HProp.add_emp]
          have := Mine.cut (e := e) (sz := inf.size) (k := k + m) (m := k) (cap := cap) (ao := some ⟨g, 0, none⟩) (cs := cs ++ news) (by omega)
          rw [List.take_left' hcl] at this
          exact this
        rw [HProp.emp_add]
        have hrow : (((cs ++ sp).toArray.toList.take (k * inf.size) ++ news ++ (cs ++ sp).toArray.toList.drop (k * inf.size + news.length)).toArray) = (cs ++ news ++ sp.drop news.length).toArray := by
          apply congrArg List.toArray
          simp only [← hcl, List.take_left, List.drop_append]
          simp
        rw [hrow]
        have hup : Holds B (blk g (cs ++ news ++ sp.drop news.length) e + F) (w.setRow g (cs ++ news ++ sp.drop news.length).toArray) :=
          Holds.upd (o' := .cells (cs ++ news ++ sp.drop news.length).toArray e (0, 0)) h5 rfl rfl rfl (by simp) (setRow_heap w g _ _ e (0, 0) h5.obj.1) fun j hj => setRow_other w g j _ hj
        refine hup.ent ((Mine.of_blk (cs := cs ++ news) (spare := sp.drop news.length) rfl (by simp [hcl, hnl, Nat.add_mul]) hroom h3 ?_).frame_right F)
        have : news.length ≤ sp.length := by
          simp only [List.size_toArray, List.length_append, hcl] at hfit; omega
        simp only [List.length_append, List.length_drop] at hall ⊢
        omega
      · have holds : ∀ j u, cs[j]? = some u → w.cell? ((⟨g, 0, none⟩ : Addr).add j) = some u := fun j u hj => by
          rw [addr_add, Nat.zero_add]
          exact blk_cell h5 (by rw [List.getElem?_append_left (by have := (List.getElem?_eq_some_iff.1 hj).1; omega)]; exact hj)
        have hr := run_append_grow (P := P) w t ty e inf zv hu hi hz ⟨g, 0, none⟩ k cap cs hcl holds ⟨b, o, none⟩ m xcap news hnl hnews (by omega) (by omega) (growslice_fits (by omega) hb)
        refine ⟨_, _, blk g (cs ++ sp) e, hr, (Ent.drop_left _ _).trans (Mine.of_blk (cs := cs) (spare := sp) rfl hcl h2 h3 h4), ?_⟩
        have hge := grownCap_ge w (k + m) cap e
        have hcm := grownCap_le_maxLen w (k + m) cap e (by simp only [maxLen]; omega)
        have := fresh (Builtin.zeroCells zv.cells (grownCap w (k + m) cap e - (k + m))).toList (grownCap w (k + m) cap e) hge hcm (by
          simp only [List.length_append, hnl, hcl, Array.length_toList, size_zeroCells, hzsz, ← Nat.add_mul]
          congr 1; omega) (blk g (cs ++ sp) e + F) w.drew (h5.drew) rfl
        have ea : (cs.toArray ++ news.toArray ++ Builtin.zeroCells zv.cells (grownCap w (k + m) cap e - (k + m))) = (cs ++ news ++ (Builtin.zeroCells zv.cells (grownCap w (k + m) cap e - (k + m))).toList).toArray := by
          apply Array.ext'; simp
        rw [ea]
        exact this
theorem s_appendK {t e : TypeId} {sz by' : Nat} {z : List Value} [i : SliceOf P t e sz by' z] {x y : Operand} {F : HProp} {v u : Value} {k m : Nat} {cs news : List Value}
    (hx : ev fr x = v) (hy : ev fr y = u) [s : HasOwn H v e sz k cs F] (hu : Rd B F sz u m news) (h1 : news.all Value.oneCell' = true) (hsz : Nat.blt 0 sz = true)
    (hb : (k + m) * by' ≤ 140737488355328 ∧ k + m ≤ maxLen) (hd : Nat.blt d n = true)
    (kk : ∀ v' X, Ent (Mine e sz v' (k + m) (cs ++ news) + X) (Mine e sz v k cs) → WPL ro P B n ops rest (fr.put d v') (Mine e sz v' (k + m) (cs ++ news) + (X + F)) Q) :
    WPL ro P B n ops (⟨some d, .call ⟨.builtin .append, #[x, y], #[t, t]⟩, ty, pos, after, none⟩ :: rest) fr H Q := step_val hd fun w hw => by
  have hw' : Holds B (Mine e sz v k cs + F) w := by rw [← s.eq]; exact hw
  obtain ⟨v', w', X, hr, he, hh⟩ := append_runK (P := P) (t := t) (ty := ty) (by simpa [Nat.blt_eq] using hsz) hw' hu h1 hb.1 hb.2
  exact ⟨v', w', _, by simp [execOp, resolve, invoke, builtin, hx, hy, hr], hh, kk v' X he⟩
end
end Go.SL
set_option linter.unusedSimpArgs false
set_option linter.unusedVariables false
namespace Go.SL
open Go Go.RowKit Go.MapKept
section
variable {ro : Option Nat} {P : Program} {B : World} {n : Nat} {ops : Array Oper} {rest : List Oper} {fr : Fr} {H F : HProp} {Q : Post}
variable {d : Nat} {ty : TypeId} {pos : String} {after : Array Edge}
theorem s_eqnilM {t yt : TypeId} {z : Value} [i : MapOf P t z] {x y : Operand} {r : Option Nat} {b : Bool} (hx : ev fr x = .map r) (hy : ev fr y = .map none) (hr : r.isNone = b)
    (hd : Nat.blt d n = true) (k : WPL ro P B n ops rest (fr.put d (.bool b)) H Q) :
    WPL ro P B n ops (⟨some d, .binOp .eql t x y yt, ty, pos, after, none⟩ :: rest) fr H Q :=
  step_pure hd (fun w => by
    obtain ⟨kt, e, inf, hun, _⟩ := i.eq
    have : execOp (ev fr) ⟨some d, .binOp .eql t x y yt, ty, pos, after, none⟩ = (do Pure.pure (Next.value (← (do eqGuard .eql t x y (ev fr x) (ev fr y); binOp .eql t (ev fr x) (ev fr y))))) := rfl
    have he : (Op.equal t (.map r) (.map none)).run P w = .ok r.isNone w := by
      have key : ∀ dd, (Op.equalIn (dd + 1) t (.map r) (.map none)).run P w = .ok r.isNone w := fun dd => by
        cases r <;> simp [Op.equalIn, run_underlying hun]
      exact key _
    rw [this, hx, hy]
    subst hr
    have hg : (eqGuard .eql t x y (.map r) (.map none)).run P w = .ok () w := by
      cases r <;> simp [eqGuard]
    simp [hg, binOp, he, Result.andThen]) k
theorem step_val0 {op : Op}
    (h : ∀ w, Holds B H w → ∃ v w' H', (execOp (ev fr) ⟨none, op, ty, pos, after, none⟩).run P w = .ok (.value v) w' ∧ Holds B H' w' ∧ WPL ro P B n ops rest fr H' Q) :
    WPL ro P B n ops (⟨none, op, ty, pos, after, none⟩ :: rest) fr H Q := by
  intro a w hm hh
  obtain ⟨v, w', H', hr, hh', hk⟩ := h w hh
  unfold wpListIn
  rw [if_pos (by simp [Region.wanted])]
  refine ⟨fun f _ => trivial, ?_⟩
  rw [hm.eval, semAt_of hr (by simp)]
  exact hk _ _ hm hh'
theorem s_mdel0 {t t2 : TypeId} {z : Value} {b : Nat} {m : Assoc} {x y : Operand} {k : Int} [i : MapOf P t z] [h : HasAt MapAt H b m F] (hx : ev fr x = .map (some b)) (hy : ev fr y = .int .i64 k)
    (k' : WPL ro P B n ops rest fr (MapAt b (mdel m k) + F) Q) : WPL ro P B n ops (⟨none, .call ⟨.builtin .delete, #[x, y], #[t, t2]⟩, ty, pos, after, none⟩ :: rest) fr H Q := step_val0 fun w hw => by
  rw [h.eq] at hw
  obtain ⟨es, c, hr, hb, ho, hs⟩ := hw.map
  obtain ⟨kt, e, inf, hu, hk, hi, hz⟩ := i.eq
  have hf := run_findKey (P := P) (w := w) hk (MRep.find (k := k) es.toList m 0 hr)
  have hck := run_checkKey (P := P) (w := w) (k := .int .i64 k) hk rfl es.isEmpty 9999
  cases hm : midx m k with
  | none =>
    rw [hm] at hf
    refine ⟨.tuple #[], _, _, ?_, ho.mapUpd (m := m) (es' := es) (c' := c) (m' := mdel m k) ?_ ?_, k'⟩
    · simp [execOp, resolve, invoke, builtin, hx, hy, Builtin.delete_, run_underlying hu, MapKept.run_getObj_map hb, hck, hf, run_setObj_map _ hb, Result.andThen]
    · rw [mdel_none hm]; exact hr
    · exact hs
  | some p =>
    obtain ⟨j, u'⟩ := p
    rw [hm] at hf
    obtain ⟨h1, h2⟩ := MRep.erase es.toList m j u' hr hm
    refine ⟨.tuple #[], _, _, ?_, ho.mapUpd (m := m) (es' := es.eraseIdxIfInBounds j) (c' := c) (m' := mdel m k) ?_ ?_, k'⟩
    · simp [execOp, resolve, invoke, builtin, hx, hy, Builtin.delete_, run_underlying hu, MapKept.run_getObj_map hb, hck, hf, run_setObj_map _ hb, Result.andThen]
    · have hj : j < es.size := by simpa using h2
      unfold Array.eraseIdxIfInBounds
      rw [dif_pos hj, Array.toList_eraseIdx]
      exact h1
    · have hj : j < es.size := by simpa using h2
      unfold Array.eraseIdxIfInBounds
      rw [dif_pos hj, Array.toList_eraseIdx]
      exact hs.sub (List.eraseIdx_sublist _ _)
theorem set_mid0 {A Z : List Value} {a v : Value} : (A ++ a :: Z).set A.length v = A ++ v :: Z := by simp
theorem set_mid1 {A Z : List Value} {a b v : Value} : (A ++ a :: b :: Z).set (A.length + 1) v = A ++ a :: v :: Z := by
  rw [List.set_append_right _ _ (by omega)]; simp
theorem set_mid2 {A Z : List Value} {a b c v : Value} : (A ++ a :: b :: c :: Z).set (A.length + 2) v = A ++ a :: b :: v :: Z := by
  rw [List.set_append_right _ _ (by omega)]; simp
theorem mid0 {p e : Nat} {A Z : List Value} {a : Value} [i : HasBlk H p (A ++ a :: Z) e F] : Cell B H p A.length a := Cell.blk (by simp)
theorem mid1 {p e : Nat} {A Z : List Value} {a b : Value} [i : HasBlk H p (A ++ a :: b :: Z) e F] : Cell B H p (A.length + 1) b := Cell.blk (by rw [List.getElem?_append_right (by omega)]; simp)
theorem mid2 {p e : Nat} {A Z : List Value} {a b c : Value} [i : HasBlk H p (A ++ a :: b :: c :: Z) e F] : Cell B H p (A.length + 2) c := Cell.blk (by rw [List.getElem?_append_right (by omega)]; simp)
theorem s_storeM0 {t e : TypeId} {x y : Operand} {p : Nat} {A Z : List Value} {a v : Value} [i : Plain P t] (hx : ev fr x = .pointer (some ⟨p, A.length, none⟩)) [hb : HasBlk H p (A ++ a :: Z) e F] (hy : ev fr y = v) (h1 : v.oneCell' = true)
    (k : WPL ro P B n ops rest fr (blk p (A ++ v :: Z) e + F) Q) : WPL ro P B n ops (⟨none, .store t x y, ty, pos, after, none⟩ :: rest) fr H Q :=
  s_store (cs' := A ++ v :: Z) hx hy h1 (by simp) set_mid0 k
theorem s_storeM1 {t e : TypeId} {x y : Operand} {p : Nat} {A Z : List Value} {a b v : Value} [i : Plain P t] (hx : ev fr x = .pointer (some ⟨p, A.length + 1, none⟩)) [hb : HasBlk H p (A ++ a :: b :: Z) e F] (hy : ev fr y = v) (h1 : v.oneCell' = true)
    (k : WPL ro P B n ops rest fr (blk p (A ++ a :: v :: Z) e + F) Q) : WPL ro P B n ops (⟨none, .store t x y, ty, pos, after, none⟩ :: rest) fr H Q :=
  s_store (cs' := A ++ a :: v :: Z) hx hy h1 (by simp) set_mid1 k
theorem s_storeM2 {t e : TypeId} {x y : Operand} {p : Nat} {A Z : List Value} {a b c v : Value} [i : Plain P t] (hx : ev fr x = .pointer (some ⟨p, A.length + 2, none⟩)) [hb : HasBlk H p (A ++ a :: b :: c :: Z) e F] (hy : ev fr y = v) (h1 : v.oneCell' = true)
    (k : WPL ro P B n ops rest fr (blk p (A ++ a :: b :: v :: Z) e + F) Q) : WPL ro P B n ops (⟨none, .store t x y, ty, pos, after, none⟩ :: rest) fr H Q :=
  s_store (cs' := A ++ a :: b :: v :: Z) hx hy h1 (by simp) set_mid2 k
end
end Go.SL
set_option linter.unusedSimpArgs false
set_option linter.unusedVariables false
namespace Go.SL
open Go Go.RowKit
section
variable {ro : Option Nat} {P : Program} {B : World} {n : Nat} {ops : Array Oper} {rest : List Oper} {fr : Fr} {H F : HProp} {Q : Post}
variable {d : Nat} {ty : TypeId} {pos : String} {after : Array Edge}
theorem s_clear {t e e' : TypeId} {sz by' : Nat} {z : List Value} [i : SliceOf P t e sz by' z] {x : Operand} {b o m cap : Nat} {cs : List Value} (hx : ev fr x = .slice (some ⟨b, o, none⟩) m cap) [hb : HasBlk H b cs e' F]
    (h1 : z.all Value.oneCell' = true) (ho : o + m * sz ≤ cs.length)
    (k : ∀ zs, zs.length = m * sz → WPL ro P B n ops rest fr (blk b (cs.take o ++ zs ++ cs.drop (o + m * sz)) e' + F) Q) :
    WPL ro P B n ops (⟨none, .call ⟨.builtin .clear, #[x], #[t]⟩, ty, pos, after, none⟩ :: rest) fr H Q := step_val0 fun w hw => by
  obtain ⟨hu, inf, zv, hi, hs, hby, hz, hzc, hzl⟩ := i.eq
  have hw' : Holds B (blk b cs e' + F) w := by rw [← hb.eq]; exact hw
  rcases Nat.eq_zero_or_pos m with rfl | hm
  · have h := k [] (by simp)
    simp only [Nat.zero_mul, Nat.add_zero, List.append_nil, List.take_append_drop] at h
    refine ⟨.tuple #[], w, _, ?_, hw', h⟩
    simp [execOp, resolve, invoke, builtin, hx, Builtin.clear_, run_underlying hu]
  · have hzsz : zv.cells.size = sz := by rw [hzc]; simpa using hzl
    have hl : (Builtin.zeroCells zv.cells m).toList.length = m * sz := by rw [Array.length_toList, size_zeroCells, hzsz]
    have hall : ∀ v ∈ (Builtin.zeroCells zv.cells m).toList, v.oneCell' = true := by
      intro v hv
      rw [hzc] at hv
      simp only [Builtin.zeroCells] at hv
      simp at hv
      obtain ⟨a, ha, rfl⟩ := hv
      have hz0 : 0 < z.length := by
        rcases Nat.eq_zero_or_pos z.length with h | h
        · rw [h] at ha; simp at ha
        · exact h
      have : a % z.length < z.length := Nat.mod_lt _ hz0
      rw [List.getElem?_eq_getElem this, Option.getD_some]
      exact List.all_eq_true.1 h1 _ (List.getElem_mem _)
    have hst := run_storeCells_at P b o e' (Builtin.zeroCells zv.cells m).toList 0 cs.toArray w hw'.obj.1 (by rw [hl]; simp; omega) hall
    simp only [Nat.add_zero] at hst
    obtain ⟨m, rfl⟩ : ∃ k, m = k + 1 := ⟨m - 1, by omega⟩
    refine ⟨.tuple #[], w.setRow b (cs.take o ++ (Builtin.zeroCells zv.cells (m + 1)).toList ++ cs.drop (o + (m + 1) * sz)).toArray, _, ?_, ?_, k _ hl⟩
    · rw [hl] at hst
      simp [execOp, resolve, invoke, builtin, hx, Builtin.clear_, run_underlying hu, zeroValue, typeInfo, hi, hz]
      simp at hst
      rw [hst]
      simp
    · refine Holds.upd (o' := .cells _ e' (0, 0)) hw' rfl rfl rfl (by simp [hl]) (setRow_heap w b cs.toArray _ e' (0, 0) hw'.obj.1) fun k hk => setRow_other w b k _ hk
end
end Go.SL
namespace Go.SL
/-- The pieces of a text between the bytes c. -/
def cutAt (c : UInt8) : List UInt8 → List (List UInt8)
  | [] => [[]]
  | a :: l => if a = c then [] :: cutAt c l else (a :: (cutAt c l).headD []) :: (cutAt c l).tail
/-- Pieces with a byte c between them. -/
def glue (c : UInt8) : List (List UInt8) → List UInt8
  | [] => []
  | [x] => x
  | x :: y :: l => x ++ c :: glue c (y :: l)
theorem cutAt_ne (c : UInt8) (l : List UInt8) : cutAt c l ≠ [] := by
  cases l with
  | nil => simp [cutAt]
  | cons a l => unfold cutAt; split <;> simp
theorem glue_nil {c : UInt8} {l : List (List UInt8)} (h : l ≠ []) : glue c ([] :: l) = c :: glue c l := by
  cases l with
  | nil => exact absurd rfl h
  | cons y l => rfl
theorem glue_push {c a : UInt8} {x : List UInt8} {l : List (List UInt8)} : glue c ((a :: x) :: l) = a :: glue c (x :: l) := by
  cases l with
  | nil => rfl
  | cons y l => rfl
theorem glue_cut (c : UInt8) (l : List UInt8) : glue c (cutAt c l) = l := by
  induction l with
  | nil => rfl
  | cons a l ih =>
    unfold cutAt
    split
    · rename_i h
      rw [glue_nil (cutAt_ne c l), ih, h]
    · rw [glue_push]
      have e : (cutAt c l).headD [] :: (cutAt c l).tail = cutAt c l := by
        cases h : cutAt c l with
        | nil => exact absurd h (cutAt_ne c l)
        | cons y l => rfl
      rw [e, ih]
/-- What is cut alike is alike. -/
theorem cutAt_inj {c : UInt8} {l m : List UInt8} (h : cutAt c l = cutAt c m) : l = m := by
  rw [← glue_cut c l, h, glue_cut]
/-- A text without c is one piece; a piece ends at c. -/
theorem cutAt_one {c : UInt8} {l : List UInt8} (h : c ∉ l) : cutAt c l = [l] := by
  induction l with
  | nil => rfl
  | cons a l ih =>
    have h1 : ¬ a = c := fun e => h (by rw [e]; exact List.mem_cons_self)
    have h2 : c ∉ l := fun e => h (List.mem_cons_of_mem _ e)
    unfold cutAt
    rw [if_neg h1, ih h2]
    rfl
theorem cutAt_cons {c : UInt8} {x l : List UInt8} (h : c ∉ x) : cutAt c (x ++ c :: l) = x :: cutAt c l := by
  induction x with
  | nil =>
    show cutAt c (c :: l) = _
    rw [cutAt, if_pos rfl]
  | cons a x ih =>
    have h1 : ¬ a = c := fun e => h (by rw [e]; exact List.mem_cons_self)
    have h2 : c ∉ x := fun e => h (List.mem_cons_of_mem _ e)
    show cutAt c (a :: (x ++ c :: l)) = _
    rw [cutAt, if_neg h1, ih h2]
    rfl
/-- Pieces without c are found again. -/
theorem cut_glue {c : UInt8} : ∀ {l : List (List UInt8)}, l ≠ [] → (∀ x ∈ l, c ∉ x) → cutAt c (glue c l) = l
  | [], h, _ => absurd rfl h
  | [x], _, h => cutAt_one (h x (List.mem_singleton.2 rfl))
  | x :: y :: l, _, h => by
    show cutAt c (x ++ c :: glue c (y :: l)) = _
    rw [cutAt_cons (h x List.mem_cons_self), cut_glue (by simp) fun z hz => h z (List.mem_cons_of_mem _ hz)]
end Go.SL
namespace Go.SL
open Go
theorem split_cut (c : UInt8) : ∀ s : List UInt8, Lib.splitK [c] 0 (Lib.count s [c]) s = cutAt c s
  | [] => by
    have : Lib.count [] [c] = 0 := by rw [Lib.count_one]; rfl
    rw [this]; rfl
  | b :: l => by
    have ih := split_cut c l
    by_cases h : b = c
    · subst h
      have hix : Lib.index (b :: l) [b] = 0 := by rw [Lib.index]; simp [List.isPrefixOf]
      rw [Lib.count_cons_eq, Nat.add_comm, Lib.splitK, hix, if_neg (by decide)]
      simp only [cutAt, if_true]
      rw [← ih]
      rfl
    · have hp : ([c] : List UInt8).isPrefixOf (b :: l) = false := by simp [List.isPrefixOf, Ne.symm h]
      have hix : Lib.index (b :: l) [c] = if Lib.index l [c] == -1 then -1 else Lib.index l [c] + 1 := by rw [Lib.index, hp]; simp
      rw [Lib.count_cons_ne b c l h]
      rw [cutAt, if_neg h, ← ih]
      cases hk : Lib.count l [c] with
      | zero => rfl
      | succ k =>
        have hge := Lib.index_ge l [c]
        have hne : ¬ (Lib.index l [c] == -1) = true := fun e => by
          rw [Lib.count_miss (beq_iff_eq.1 e)] at hk
          omega
        have hne1 : ¬ Lib.index l [c] = -1 := fun e => hne (beq_iff_eq.2 e)
        obtain ⟨i, hi⟩ := Int.eq_ofNat_of_zero_le (show 0 ≤ Lib.index l [c] by omega)
        rw [if_neg hne] at hix
        have hne2 : ¬ (Lib.index (b :: l) [c] == -1) = true := fun e => by have := beq_iff_eq.1 e; omega
        rw [Lib.splitK, Lib.splitK, if_neg hne, if_neg hne2, hix, hi]
        have e1 : ((i : Int) + 1).toNat = i + 1 := by omega
        rw [e1, Int.toNat_natCast]
        rfl
theorem join_glue (c : UInt8) : ∀ l : List (List UInt8), Lib.join l [c] = glue c l
  | [] => rfl
  | [x] => Lib.join_one x [c]
  | x :: y :: l => by
    have ih := join_glue c (y :: l)
    show _ = x ++ c :: glue c (y :: l)
    rw [← ih]
    simp [Lib.join, List.intercalate]
end Go.SL
set_option linter.unusedSimpArgs false
set_option linter.unusedVariables false
namespace Go.SL
open Go
theorem dig_nat : ∀ a, a < 10 → (UInt8.ofNat (48 + a)).toNat = 48 + a := by decide
theorem parse_dec : ∀ (n : Nat), n < 18446744073709551616 → ∀ t, Lib.parseUint10 0 (Lib.decDigits n ++ t) = Lib.parseUint10 n t := by
  intro n
  induction n using Nat.strongRecOn with
  | _ n ih =>
    intro hn t
    rw [dec_step]
    by_cases h : n < 10
    · have := dig_nat n h
      rw [if_pos h]
      show Lib.parseUint10 0 (_ :: t) = _
      rw [Lib.parseUint10, this, if_pos (by omega), if_neg (by omega), if_neg (by omega)]
      congr 1
      omega
    · have hd := dig_nat (n % 10) (by omega)
      rw [if_neg h, List.append_assoc, ih (n / 10) (by omega) (by omega)]
      show Lib.parseUint10 (n / 10) (_ :: t) = _
      rw [Lib.parseUint10, hd, if_pos (by omega), if_neg (by omega), if_neg (by omega)]
      congr 1
      omega
/-- The whole number that Atoi tells of a text. -/
def atoiV (l : List UInt8) : Int := match Lib.atoiAll l with
  | .ok v => v
  | .range => Lib.atoiSat l
  | _ => 0
def atoiOk (l : List UInt8) : Bool := match Lib.atoiAll l with
  | .ok _ => true
  | _ => false
theorem atoi_dec {n : Nat} (h : n < 9223372036854775808) : Lib.atoiAll (Lib.decDigits n) = .ok (n : Int) := by
  have hp : Lib.parseMag (Lib.decDigits n) = .ok n := by
    unfold Lib.parseMag
    rw [if_neg (dec_ne n)]
    have := parse_dec n (by omega) []
    rw [List.append_nil] at this
    exact this
  cases hd : Lib.decDigits n with
  | nil => exact absurd hd (dec_ne n)
  | cons c r =>
    have hr := dec_range n c (by rw [hd]; exact List.mem_cons_self)
    rw [UInt8.le_iff_toNat_le, UInt8.le_iff_toNat_le] at hr
    have h1 : (48 : UInt8).toNat = 48 := rfl
    have h2 : (57 : UInt8).toNat = 57 := rfl
    have e43 : ¬ c.toNat = 43 := by omega
    have e45 : ¬ c.toNat = 45 := by omega
    unfold Lib.atoiAll
    simp only [e43, e45, or_self, if_false]
    rw [← hd, hp]
    simp only [e45, false_and, if_false, not_false_eq_true, true_and]
    rw [if_neg (by omega)]
theorem atoiV_dec {n : Nat} (h : n < 9223372036854775808) : atoiV (Lib.decDigits n) = n := by
  unfold atoiV; rw [atoi_dec h]
theorem atoiOk_dec {n : Nat} (h : n < 9223372036854775808) : atoiOk (Lib.decDigits n) = true := by
  unfold atoiOk; rw [atoi_dec h]
/-- Is a byte a digit? -/
def isDig (b : UInt8) : Prop := 48 ≤ b.toNat ∧ b.toNat ≤ 57
instance (b : UInt8) : Decidable (isDig b) := inferInstanceAs (Decidable (_ ∧ _))
/-- The numbers that runs of digits tell, brought to at most a bound; n: the number of the run so far; -1: none. -/
def runs (top : Int) : List UInt8 → Int → List Int
  | [], n => if 0 ≤ n then [n] else []
  | b :: t, n => if isDig b then runs top t (min (max n 0 * 10 + ((b.toNat : Int) - 48)) top) else (if 0 ≤ n then [n] else []) ++ runs top t (-1)
theorem runs_dec {top : Nat} : ∀ (n : Nat), n ≤ top → ∀ t, runs top (Lib.decDigits n ++ t) (-1) = runs top t n := by
  intro n
  induction n using Nat.strongRecOn with
  | _ n ih =>
    intro hn t
    rw [dec_step]
    by_cases h : n < 10
    · have := dig_nat n h
      rw [if_pos h]
      show runs top (_ :: t) (-1) = _
      rw [runs, if_pos (show isDig _ by unfold isDig; rw [this]; omega), this]
      congr 1
      omega
    · have hd := dig_nat (n % 10) (by omega)
      rw [if_neg h, List.append_assoc, ih (n / 10) (by omega) (by omega)]
      show runs top (_ :: t) _ = _
      rw [runs, if_pos (show isDig _ by unfold isDig; rw [hd]; omega), hd]
      congr 1
      omega
theorem runs_no {top : Int} {b : UInt8} {t : List UInt8} {n : Int} (h : ¬ isDig b) : runs top (b :: t) n = (if 0 ≤ n then [n] else []) ++ runs top t (-1) := by
  rw [runs, if_neg h]
theorem runs_run {top n : Nat} (hn : n ≤ top) {b : UInt8} {t : List UInt8} (h : ¬ isDig b) : runs top (Lib.decDigits n ++ b :: t) (-1) = (n : Int) :: runs top t (-1) := by
  rw [runs_dec n hn, runs_no h, if_pos (by omega)]; rfl
theorem runs_end {top n : Nat} (hn : n ≤ top) : runs top (Lib.decDigits n) (-1) = [(n : Int)] := by
  have := runs_dec n hn []
  rw [List.append_nil] at this
  rw [this, runs, if_pos (by omega)]
theorem runs_blank {top : Int} {b : UInt8} {t : List UInt8} (h : ¬ isDig b) : runs top (b :: t) (-1) = runs top t (-1) := by
  rw [runs_no h, if_neg (by omega)]; rfl
theorem runs_nonneg {top : Int} (ht : 0 ≤ top) : ∀ (l : List UInt8) (n : Int), ∀ x ∈ runs top l n, 0 ≤ x
  | [], n, x, h => by
    rw [runs] at h
    split at h
    · rw [List.mem_singleton] at h; omega
    · cases h
  | b :: t, n, x, h => by
    rw [runs] at h
    split at h
    · exact runs_nonneg ht t _ x h
    · rw [List.mem_append] at h
      rcases h with h | h
      · split at h
        · rw [List.mem_singleton] at h; omega
        · cases h
      · exact runs_nonneg ht t _ x h
/-- A whole number of 64 bits, as an int. -/
abbrev toI (v : Int) : Int := IntKind.i64.wrap v
/-- The numbers that runs of digits tell, as they go round in 64 bits; inn: within a run. -/
def runsU : List UInt8 → Bool → Int → List Int
  | [], inn, v => if inn then [toI v] else []
  | b :: t, inn, v => if isDig b then runsU t true ((v * 10 % 18446744073709551616 + ((b.toNat : Int) - 48)) % 18446744073709551616) else (if inn then [toI v] else []) ++ runsU t false 0
theorem runsU_dec : ∀ (n : Nat), n < 18446744073709551616 → ∀ t, runsU (Lib.decDigits n ++ t) false 0 = runsU t true n := by
  intro n
  induction n using Nat.strongRecOn with
  | _ n ih =>
    intro hn t
    rw [dec_step]
    by_cases h : n < 10
    · have := dig_nat n h
      rw [if_pos h]
      show runsU (_ :: t) false 0 = _
      rw [runsU, if_pos (show isDig _ by unfold isDig; rw [this]; omega), this]
      congr 1
      omega
    · have hd := dig_nat (n % 10) (by omega)
      rw [if_neg h, List.append_assoc, ih (n / 10) (by omega) (by omega)]
      show runsU (_ :: t) _ _ = _
      rw [runsU, if_pos (show isDig _ by unfold isDig; rw [hd]; omega), hd]
      congr 1
      omega
theorem runsU_no {b : UInt8} {t : List UInt8} {inn : Bool} {v : Int} (h : ¬ isDig b) : runsU (b :: t) inn v = (if inn then [toI v] else []) ++ runsU t false 0 := by
  rw [runsU, if_neg h]
theorem runsU_skip {w t : List UInt8} (h : ∀ b ∈ w, ¬ isDig b) : runsU (w ++ t) false 0 = runsU t false 0 := by
  induction w with
  | nil => rfl
  | cons b w ih =>
    show runsU (b :: (w ++ t)) false 0 = _
    rw [runsU_no (h b List.mem_cons_self), ih fun x hx => h x (List.mem_cons_of_mem _ hx)]
    rfl
theorem toI_small {v : Int} (h0 : 0 ≤ v) (h : v < 9223372036854775808) : toI v = v := by
  unfold toI IntKind.wrap
  simp [IntKind.min, IntKind.max, IntKind.signed, IntKind.bits]
  omega
theorem runsU_top : ∀ (l : List UInt8) (inn : Bool) (v : Int), ∀ x ∈ runsU l inn v, x < 9223372036854775808
  | [], inn, v, x, h => by
    rw [runsU] at h
    split at h
    · rw [List.mem_singleton] at h; subst h; unfold toI IntKind.wrap; simp [IntKind.min, IntKind.max, IntKind.signed, IntKind.bits]; omega
    · cases h
  | b :: t, inn, v, x, h => by
    rw [runsU] at h
    split at h
    · exact runsU_top t _ _ x h
    · rw [List.mem_append] at h
      rcases h with h | h
      · split at h
        · rw [List.mem_singleton] at h; subst h; unfold toI IntKind.wrap; simp [IntKind.min, IntKind.max, IntKind.signed, IntKind.bits]; omega
        · cases h
      · exact runsU_top t _ _ x h
theorem runsU_len : ∀ (l : List UInt8) (inn : Bool) (v : Int), (runsU l inn v).length ≤ l.length + 1
  | [], inn, v => by
    rw [runsU]; split <;> simp
  | b :: t, inn, v => by
    rw [runsU]
    split
    · have := runsU_len t true ((v * 10 % 18446744073709551616 + ((b.toNat : Int) - 48)) % 18446744073709551616)
      simp only [List.length_cons]; omega
    · have := runsU_len t false 0
      rw [List.length_append]
      split <;> simp only [List.length_cons, List.length_nil] <;> omega
theorem atoiV_top (l : List UInt8) : atoiV l < 9223372036854775808 := by
  have hs : Lib.atoiSat l ≤ 9223372036854775807 := by unfold Lib.atoiSat; split <;> omega
  have key : ∀ x : Lib.NumEnd Int, Lib.atoiAll l = x → atoiV l < 9223372036854775808 := by
    intro x hx
    unfold atoiV
    rw [hx]
    rcases x with v | _ | _
    · simp only
      cases l with
      | nil => cases hx
      | cons c r =>
        unfold Lib.atoiAll at hx
        simp only at hx
        split at hx
        · cases hx
        · cases hx
        · split at hx
          · cases hx
          · split at hx
            · cases hx
            · cases hx
              split <;> omega
    · simp only; omega
    · simp only; omega
  exact key _ rfl
end Go.SL
set_option linter.unusedSimpArgs false
set_option linter.unusedVariables false
namespace Go.SL
open Go Go.RowKit
section
variable {P : Program} {B : World} {H F : HProp} {f : FuncId} {args : List Value} {v : Value}
/-- A contract that answers one new row. -/
theorem Does.ofAlloc {n : Nat} {cs : List Value} {t : TypeId} (h : ∀ w, Holds B H w → Calls P f args.toArray w fun e w' => e = .returned (.slice (some ⟨w.heap.size, 0, none⟩) n n) ∧ w' = w.alloc (.cells cs.toArray t)) :
    Does P B f args H fun r H' => ∃ b, H' = blk b cs t + H ∧ r = .slice (some ⟨b, 0, none⟩) n n :=
  fun w hw => (h w hw).mono fun _ _ ⟨he, hb⟩ => ⟨_, _, he, by rw [hb]; exact blk_new hw cs t, w.heap.size, rfl, rfl⟩
/-- A contract that lays new blocks, and answers one of many. -/
theorem Does.ofBelowR {R : Value → Prop} (h : ∀ w, Holds B H w → Calls P f args.toArray w fun e w' => ∃ v, e = .returned v ∧ R v ∧ Below w.heap.size w w') : Does P B f args H fun r H' => H' = H ∧ R r :=
  fun w hw => (h w hw).mono fun _ _ ⟨v, he, hr, hb⟩ => ⟨v, H, he, hw.laid hb, rfl, hr⟩
end
end Go.SL
set_option linter.unusedSimpArgs false
set_option linter.unusedVariables false
namespace Go.SL
open Go Go.RowKit
class UnderIfc (P : Program) (t : TypeId) : Prop where
  eq : P.underlying t = some (.interface (P.methodsAt t))
section
variable {ro : Option Nat} {P : Program} {B : World} {n : Nat} {ops : Array Oper} {rest : List Oper} {fr : Fr} {H F : HProp} {Q : Post}
variable {d : Nat} {ty : TypeId} {pos : String} {after : Array Edge}
theorem s_neqI0 {t yt : TypeId} [u : UnderIfc P t] {x : Operand} (hx : ev fr x = .nilIface) (hd : Nat.blt d n = true) (k : WPL ro P B n ops rest (fr.put d (.bool false)) H Q) :
    WPL ro P B n ops (⟨some d, .binOp .neq t x (.const .nilIface) yt, ty, pos, after, none⟩ :: rest) fr H Q :=
  step_pure hd (fun w => by
    have : execOp (ev fr) ⟨some d, .binOp .neq t x (.const .nilIface) yt, ty, pos, after, none⟩ = (do Pure.pure (Next.value (← (do eqGuard .neq t x (.const .nilIface) (ev fr x) .nilIface; binOp .neq t (ev fr x) .nilIface)))) := rfl
    rw [this, hx]
    simp [eqGuard, run_neq_nil_nil w t u.eq]) k
theorem s_neqI1 {t yt : TypeId} [u : UnderIfc P t] {x : Operand} {ti : TypeId} {v : Value} (hx : ev fr x = .iface ti v) (hd : Nat.blt d n = true) (k : WPL ro P B n ops rest (fr.put d (.bool true)) H Q) :
    WPL ro P B n ops (⟨some d, .binOp .neq t x (.const .nilIface) yt, ty, pos, after, none⟩ :: rest) fr H Q :=
  step_pure hd (fun w => by
    have : execOp (ev fr) ⟨some d, .binOp .neq t x (.const .nilIface) yt, ty, pos, after, none⟩ = (do Pure.pure (Next.value (← (do eqGuard .neq t x (.const .nilIface) (ev fr x) .nilIface; binOp .neq t (ev fr x) .nilIface)))) := rfl
    rw [this, hx]
    simp [eqGuard, run_neq_held_nil w t ti v u.eq]) k
end
end Go.SL
set_option linter.unusedSimpArgs false
set_option linter.unusedVariables false
namespace Go.SL
open Go Go.RowKit
set_option maxRecDepth 10000
theorem walkB {p q : Prop} (k : q) (h : Owed q → p := by
  intro k_
  (repeat (first | (show WPL _ _ _ _ _ (⟨_, .move _, _, _, _, none⟩ :: _) _ _ _; first | refine s_move (v := .int _ _) rfl rfl ?_ | refine s_move (v := .pointer _) rfl rfl ?_ | refine s_move (v := .slice _ _ _) rfl rfl ?_ | refine s_move (v := .bool _) rfl rfl ?_ | refine s_move (v := .agg _) rfl rfl ?_ | refine s_move (v := .string _) rfl rfl ?_ | refine s_move (v := .tuple _) rfl rfl ?_ | refine s_move (v := .map _) rfl rfl ?_ | refine s_move (v := .nilIface) rfl rfl ?_ | refine s_move (v := .iface _ _) rfl rfl ?_ | refine s_move (v := .func _ _ _) rfl rfl ?_ | refine s_move (v := .float _ _) rfl rfl ?_ | refine s_move rfl rfl ?_) | (show WPL _ _ _ _ _ (⟨_, .assign _, _, _, _, none⟩ :: _) _ _ _; first | refine s_assign (v := .int _ _) rfl rfl ?_ | refine s_assign (v := .pointer _) rfl rfl ?_ | refine s_assign (v := .slice _ _ _) rfl rfl ?_ | refine s_assign (v := .bool _) rfl rfl ?_ | refine s_assign (v := .agg _) rfl rfl ?_ | refine s_assign (v := .string _) rfl rfl ?_ | refine s_assign (v := .tuple _) rfl rfl ?_ | refine s_assign (v := .map _) rfl rfl ?_ | refine s_assign (v := .nilIface) rfl rfl ?_ | refine s_assign (v := .iface _ _) rfl rfl ?_ | refine s_assign (v := .func _ _ _) rfl rfl ?_ | refine s_assign (v := .float _ _) rfl rfl ?_ | refine s_assign rfl rfl ?_) | (show WPL _ _ _ _ _ (⟨_, .load _ _, _, _, _, none⟩ :: _) _ _ _; first | refine s_load (v := .int _ _) rfl (Cell.blk rfl) rfl ?_ | refine s_load (v := .pointer _) rfl (Cell.blk rfl) rfl ?_ | refine s_load (v := .slice _ _ _) rfl (Cell.blk rfl) rfl ?_ | refine s_load (v := .bool _) rfl (Cell.blk rfl) rfl ?_ | refine s_load (v := .agg _) rfl (Cell.blk rfl) rfl ?_ | refine s_load (v := .string _) rfl (Cell.blk rfl) rfl ?_ | refine s_load (v := .tuple _) rfl (Cell.blk rfl) rfl ?_ | refine s_load (v := .map _) rfl (Cell.blk rfl) rfl ?_ | refine s_load (v := .nilIface) rfl (Cell.blk rfl) rfl ?_ | refine s_load (v := .iface _ _) rfl (Cell.blk rfl) rfl ?_ | refine s_load (v := .func _ _ _) rfl (Cell.blk rfl) rfl ?_ | refine s_load (v := .float _ _) rfl (Cell.blk rfl) rfl ?_ | (apply s_load; (· exact rfl); (· assumption); (· exact rfl)) | (apply s_load; (· exact rfl); (· (apply Cell.ent; (· assumption); (· exact InH.ent))); (· exact rfl)) | (refine s_load rfl (Cell.atZs ?_) rfl ?_; · omega) | (refine s_load rfl (Cell.atZsA ?_) rfl ?_; · omega) | (apply s_load; (· exact rfl); (· (apply Cells.atZs; (· assumption); (· omega); (· exact InH.ent))); (· exact rfl)) | refine s_loadA rfl Cells.blk0 rfl rfl ?_ | (apply s_loadA; (· exact rfl); (· assumption); (· exact rfl); (· exact rfl)) | (apply s_loadA; (· exact rfl); (· (apply Cells.ent; (· assumption); (· exact InH.ent))); (· exact rfl); (· exact rfl))) | (show WPL _ _ _ _ _ (⟨_, .fieldAddr _ _ _, _, _, _, none⟩ :: _) _ _ _; first | refine s_fieldAddr0 rfl rfl ?_ | refine s_fieldAddr rfl rfl rfl ?_) | (show WPL _ _ _ _ _ (⟨_, .nilCheck _, _, _, _, none⟩ :: _) _ _ _; first | refine s_nilCheck rfl rfl ?_) | (show WPL _ _ _ _ _ (⟨_, .indexAddr _ _ _, _, _, _, none⟩ :: _) _ _ _; first | (refine s_indexAddr0 rfl rfl ?_ rfl ?_; · omega) | (refine s_indexAddr1 rfl rfl ?_ rfl ?_; · omega) | (refine s_indexAddr rfl rfl rfl ?_ rfl rfl ?_; · omega)) | (show WPL _ _ _ _ _ (⟨_, .call _, _, _, _, none⟩ :: _) _ _ _; first | refine s_len rfl rfl ?_) | (show WPL _ _ _ _ _ (⟨_, .binOp .add _ _ _ _, _, _, _, none⟩ :: _) _ _ _; first | (refine s_add rfl rfl rfl ?_ rfl ?_; · omega) | (refine s_addw rfl rfl (intU32 ?_) rfl ?_; · omega) | (refine s_addw rfl rfl (intU64 ?_) rfl ?_; · omega) | (refine s_addw rfl rfl (intU8 ?_) rfl ?_; · omega) | (refine s_addw rfl rfl (intI32 ?_) rfl ?_; · omega) | refine s_addw rfl rfl (wrapU32 _) rfl ?_ | refine s_addw rfl rfl (wrapU64 _) rfl ?_ | refine s_addw rfl rfl (wrapU8 _) rfl ?_) | (show WPL _ _ _ _ _ (⟨_, .binOp .mul _ _ _ _, _, _, _, none⟩ :: _) _ _ _; first | (refine s_mul rfl rfl rfl ?_ rfl ?_; · omega) | (refine s_mulw rfl rfl (intU32 ?_) rfl ?_; · omega) | (refine s_mulw rfl rfl (intU64 ?_) rfl ?_; · omega) | (refine s_mulw rfl rfl (intU8 ?_) rfl ?_; · omega) | (refine s_mulw rfl rfl (intI32 ?_) rfl ?_; · omega) | refine s_mulw rfl rfl (wrapU32 _) rfl ?_ | refine s_mulw rfl rfl (wrapU64 _) rfl ?_ | refine s_mulw rfl rfl (wrapU8 _) rfl ?_) | (show WPL _ _ _ _ _ (⟨_, .binOp .rem _ _ _ _, _, _, _, none⟩ :: _) _ _ _; first | (refine s_remP rfl rfl ?_ rfl ?_; · omega)) | (show WPL _ _ _ _ _ (⟨_, .binOp .quo _ _ _ _, _, _, _, none⟩ :: _) _ _ _; first | (refine s_quoP rfl rfl ?_ rfl ?_; · omega)) | (show WPL _ _ _ _ _ (⟨_, .binOp .sub _ _ _ _, _, _, _, none⟩ :: _) _ _ _; first | (refine s_sub rfl rfl rfl ?_ rfl ?_; · omega) | (refine s_subw rfl rfl (intU32 ?_) rfl ?_; · omega) | (refine s_subw rfl rfl (intU64 ?_) rfl ?_; · omega) | (refine s_subw rfl rfl (intU8 ?_) rfl ?_; · omega) | (refine s_subw rfl rfl (intI32 ?_) rfl ?_; · omega) | refine s_subw rfl rfl (wrapU32 _) rfl ?_ | refine s_subw rfl rfl (wrapU64 _) rfl ?_ | refine s_subw rfl rfl (wrapU8 _) rfl ?_) | (show WPL _ _ _ _ _ (⟨_, .binOp .lss _ _ _ _, _, _, _, none⟩ :: _) _ _ _; first | (refine s_lss_t rfl rfl ?_ rfl ?_; · omega) | (refine s_lss_f rfl rfl ?_ rfl ?_; · omega)) | (show WPL _ _ _ _ _ (⟨_, .binOp .eql _ _ _ _, _, _, _, none⟩ :: _) _ _ _; first | (refine s_eql_t rfl rfl ?_ rfl ?_; · omega) | (refine s_eql_f rfl rfl ?_ rfl ?_; · omega) | refine s_eqnil rfl rfl (b := true) rfl rfl ?_ | refine s_eqnil rfl rfl (b := false) rfl rfl ?_ | refine s_eqbool rfl rfl (b := true) rfl rfl ?_ | refine s_eqbool rfl rfl (b := false) rfl rfl ?_ | (refine s_eqbool rfl rfl (b := true) ?_ rfl ?_; · simp)) | (show WPL _ _ _ _ _ (⟨_, .binOp .neq _ _ _ _, _, _, _, none⟩ :: _) _ _ _; first | (refine s_neq_t rfl rfl ?_ rfl ?_; · omega) | (refine s_neq_f rfl rfl ?_ rfl ?_; · omega) | refine s_nenil rfl rfl (b := true) rfl rfl ?_ | refine s_nenil rfl rfl (b := false) rfl rfl ?_ | refine s_nebool rfl rfl (b := true) rfl rfl ?_ | refine s_nebool rfl rfl (b := false) rfl rfl ?_ | (refine s_nebool rfl rfl (b := false) ?_ rfl ?_; · simp) | (apply s_neqS (xs := [_, _]) (ys := [_, _]); (· exact rfl); (· exact rfl); (· exact rfl); (· exact rfl); (· assumption); (· exact rfl))) | (show WPL _ _ _ _ _ (⟨_, .binOp .geq _ _ _ _, _, _, _, none⟩ :: _) _ _ _; first | (refine s_geq_t rfl rfl ?_ rfl ?_; · omega) | (refine s_geq_f rfl rfl ?_ rfl ?_; · omega)) | (show WPL _ _ _ _ _ (⟨_, .binOp .leq _ _ _ _, _, _, _, none⟩ :: _) _ _ _; first | (refine s_leq_t rfl rfl ?_ rfl ?_; · omega) | (refine s_leq_f rfl rfl ?_ rfl ?_; · omega)) | (show WPL _ _ _ _ _ (⟨_, .binOp .gtr _ _ _ _, _, _, _, none⟩ :: _) _ _ _; first | (refine s_gtr_t rfl rfl ?_ rfl ?_; · omega) | (refine s_gtr_f rfl rfl ?_ rfl ?_; · omega)) | (show WPL _ _ _ _ _ (⟨_, .convert _ _ _, _, _, _, none⟩ :: _) _ _ _; first | (refine s_conv rfl (intI64 ?_) rfl ?_; · omega) | (refine s_conv rfl (intU32 ?_) rfl ?_; · omega) | (refine s_conv rfl (intU64 ?_) rfl ?_; · omega) | (refine s_conv rfl (intU8 ?_) rfl ?_; · omega) | (refine s_conv rfl (intI32 ?_) rfl ?_; · omega) | refine s_conv rfl (wrapU32 _) rfl ?_ | refine s_conv rfl (wrapU64 _) rfl ?_ | refine s_conv rfl (wrapU8 _) rfl ?_) | (show WPL _ _ _ _ _ (⟨_, .unOp .not _ _, _, _, _, none⟩ :: _) _ _ _; first | refine s_not (c := true) rfl rfl rfl ?_ | refine s_not (c := false) rfl rfl rfl ?_) | (show WPL _ _ _ _ _ (⟨_, .pick _ _ _, _, _, _, none⟩ :: _) _ _ _; first | refine s_pick_t (v := .int _ _) rfl rfl rfl ?_ | refine s_pick_f (v := .int _ _) rfl rfl rfl ?_ | refine s_pick_t (v := .pointer _) rfl rfl rfl ?_ | refine s_pick_f (v := .pointer _) rfl rfl rfl ?_ | refine s_pick_t (v := .slice _ _ _) rfl rfl rfl ?_ | refine s_pick_f (v := .slice _ _ _) rfl rfl rfl ?_ | refine s_pick_t (v := .bool _) rfl rfl rfl ?_ | refine s_pick_f (v := .bool _) rfl rfl rfl ?_ | refine s_pick_t (v := .agg _) rfl rfl rfl ?_ | refine s_pick_f (v := .agg _) rfl rfl rfl ?_ | refine s_pick_t (v := .string _) rfl rfl rfl ?_ | refine s_pick_f (v := .string _) rfl rfl rfl ?_ | refine s_pick_t (v := .tuple _) rfl rfl rfl ?_ | refine s_pick_f (v := .tuple _) rfl rfl rfl ?_ | refine s_pick_t (v := .map _) rfl rfl rfl ?_ | refine s_pick_f (v := .map _) rfl rfl rfl ?_ | refine s_pick_t (v := .nilIface) rfl rfl rfl ?_ | refine s_pick_f (v := .nilIface) rfl rfl rfl ?_ | refine s_pick_t (v := .iface _ _) rfl rfl rfl ?_ | refine s_pick_f (v := .iface _ _) rfl rfl rfl ?_ | refine s_pick_t (v := .func _ _ _) rfl rfl rfl ?_ | refine s_pick_f (v := .func _ _ _) rfl rfl rfl ?_ | refine s_pick_t (v := .float _ _) rfl rfl rfl ?_ | refine s_pick_f (v := .float _ _) rfl rfl rfl ?_) | (show WPL _ _ _ _ _ (⟨_, .extract _ _, _, _, _, none⟩ :: _) _ _ _; first | refine s_extract (v := .int _ _) rfl rfl rfl ?_ | refine s_extract (v := .pointer _) rfl rfl rfl ?_ | refine s_extract (v := .slice _ _ _) rfl rfl rfl ?_ | refine s_extract (v := .bool _) rfl rfl rfl ?_ | refine s_extract (v := .agg _) rfl rfl rfl ?_ | refine s_extract (v := .string _) rfl rfl rfl ?_ | refine s_extract (v := .tuple _) rfl rfl rfl ?_ | refine s_extract (v := .map _) rfl rfl rfl ?_ | refine s_extract (v := .nilIface) rfl rfl rfl ?_ | refine s_extract (v := .iface _ _) rfl rfl rfl ?_ | refine s_extract (v := .func _ _ _) rfl rfl rfl ?_ | refine s_extract (v := .float _ _) rfl rfl rfl ?_) | (show WPL _ _ _ _ _ (⟨_, _, _, _, _, some _⟩ :: _) _ _ _; first | refine step_wanted rfl rfl ?_ | refine step_unwanted rfl rfl rfl rfl ?_ | refine step_unwanted0 rfl rfl rfl ?_ | refine step_unwantedU rfl rfl rfl ?_ | refine step_unwantedU0 rfl rfl ?_) | refine wpl_nil_seq ?_ | refine wp_seq' ?_ | refine wp_region' ?_ | refine wp_cond_t rfl ?_ | refine wp_cond_f rfl ?_ | refine wp_skip' ?_ | refine q_seq ?_ | refine wp_ret' ?_ | refine wp_exit' ?_ | refine q_seq_ret ?_ | refine q_seq_exit ?_ | refine q_blk_ret ?_ | refine q_blk_here ?_ | refine q_blk_exit rfl ?_ | refine q_blk ?_ | refine wpl_nil ?_))
  exact k_.get) : p := h ⟨k⟩
end Go.SL
set_option linter.unusedSimpArgs false
set_option linter.unusedVariables false
namespace Go.SL
open Go Go.RowKit Go.ChangeShapes Go.WideShapes Go.ChangeAt

/-- The shapes of flat types, and of slices of them. -/
inductive Shape where
  | bool
  | int (k : IntKind)
  | float (k : FloatKind)
  | str
  | unit
  | cat (a : Shape) (n : Nat) (b : Shape)
  | slice (sz : Nat) (e : Shape)
/-- Cells of a shape. -/
def Has (w : World) : Shape → List Value → Prop
  | .bool, cs => ∃ b, cs = [.bool b]
  | .int k, cs => ∃ n, cs = [.int k n] ∧ (Lit.int k n).wf = true
  | .float k, cs => ∃ b, cs = [.float k b] ∧ (Lit.float k b).wf = true
  | .str, cs => ∃ s : ByteArray, cs = [.string s] ∧ s.size ≤ maxLen
  | .unit, cs => cs = []
  | .cat a n b, cs => Has w a (cs.take n) ∧ Has w b (cs.drop n)
  | .slice sz e, cs => ∃ (ao : Option Addr) (len cap : Nat) (rows : List (List Value)), cs = [.slice ao len cap] ∧ len ≤ cap ∧ cap ≤ maxLen ∧ rows.length = len ∧ (∀ r ∈ rows, r.length = sz ∧ Has w e r) ∧
      (len = 0 ∨ sz = 0 ∨ ∃ b o, ao = some ⟨b, o, none⟩ ∧ ∀ (i : Nat) (r : List Value), rows[i]? = some r → ∀ (j : Nat) (v : Value), r[j]? = some v → w.cell? ⟨b, o + i * sz + j, none⟩ = some v)

def shapeFs (P : Program) (g : TypeId → Option Shape) (size : Nat) : List Field → Nat → Option Shape
  | [], off => if off = size then some .unit else none
  | x :: fs, off => if x.offset = off then (g x.type).bind fun a => (shapeFs P g size fs (off + P.cellsOf x.type)).map fun b => .cat a (P.cellsOf x.type) b else none
def shapeOf (P : Program) : Nat → TypeId → Option Shape
  | 0, _ => none
  | f + 1, t => match P.underlying t with
    | some .bool => some .bool
    | some (.int k) => some (.int k)
    | some (.float k) => some (.float k)
    | some .string => some .str
    | some (.slice e) => (shapeOf P f e).map (.slice (P.cellsOf e))
    | some (.struct fs) => shapeFs P (shapeOf P f) (P.cellsOf t) fs.toList 0
    | _ => none

section
variable {H : Type} {enc : TypeId × Value → H} {P : Program} {w : World} {base : Nat} {spare : Nat → Bool} {held : Bool}
theorem trod_float {k : FloatKind} {fuel : Nat} {t : TypeId} {cs : List Value} {x : DataW H × List MemPlace} (ht : P.underlying t = some (.float k)) (h : DataW.trod enc P w base spare held fuel t cs = some x) :
    ∃ n, cs = [.float k n] ∧ (Lit.float k n).wf = true := by
  cases fuel with
  | zero => simp [DataW.trod] at h
  | succ n =>
    unfold DataW.trod at h
    rw [ht] at h
    split at h <;> simp_all
theorem addr_spot {w : World} {a : Addr} {v : Value} (h : w.cell? a = some v) : a = ⟨a.block, a.off, none⟩ := by
  obtain ⟨b, o, s⟩ := a
  cases s with
  | none => rfl
  | some s =>
    unfold World.cell? at h
    split at h
    · simp at h
    · cases h
theorem rows_choose {p : Nat → List Value → Prop} : ∀ (len : Nat), (∀ i, i < len → ∃ r, p i r) → ∃ rows : List (List Value), rows.length = len ∧ ∀ i r, rows[i]? = some r → p i r
  | 0, _ => ⟨[], rfl, by simp⟩
  | len + 1, h => by
    obtain ⟨rows, h1, h2⟩ := rows_choose len fun i hi => h i (by omega)
    obtain ⟨r, hr⟩ := h len (by omega)
    refine ⟨rows ++ [r], by simp [h1], fun i r' hr' => ?_⟩
    rw [List.getElem?_append] at hr'
    split at hr'
    · exact h2 i r' hr'
    · rename_i hge
      have : i = len := by
        have := (List.getElem?_eq_some_iff.1 hr').1
        simp at this; omega
      subst this
      simp [h1] at hr'
      subst hr'
      exact hr
theorem has_of_trod : ∀ (f : Nat) (t : TypeId) (sh : Shape), shapeOf P f t = some sh → ∀ (fuel : Nat) (cs : List Value) (x : DataW H × List MemPlace),
    DataW.trod enc P w base spare held fuel t cs = some x → Has w sh cs := by
  intro f
  induction f with
  | zero => intro t sh h; simp [shapeOf] at h
  | succ f ih =>
    intro t sh hs fuel cs x hx
    unfold shapeOf at hs
    split at hs
    · rename_i ht; cases hs; obtain ⟨b, hb, _⟩ := DataW.trod_bool ht hx; exact ⟨b, hb⟩
    · rename_i k ht; cases hs; obtain ⟨n, hb, _, hw⟩ := DataW.trod_int ht hx; exact ⟨n, hb, hw⟩
    · rename_i k ht; cases hs; obtain ⟨b, hb, hw⟩ := trod_float ht hx; exact ⟨b, hb, hw⟩
    · rename_i ht; cases hs; obtain ⟨s, hb, _, hw⟩ := DataW.trod_string ht hx; exact ⟨s, hb, hw⟩
    · rename_i e ht
      cases he : shapeOf P f e with
      | none => rw [he] at hs; cases hs
      | some se =>
        rw [he] at hs
        cases hs
        rcases DataW.trod_slice ht hx with ⟨rfl, _⟩ | ⟨a, len, cap, elems, rest, n, _, rfl, _, _, hl, hm, hlen, hel, _, _⟩
        · exact ⟨none, 0, 0, [], rfl, Nat.le_refl _, Nat.zero_le _, rfl, by simp, .inl rfl⟩
        · have key : ∀ i, i < len → ∃ r : List Value, w.cells? base (a.add (i * P.cellsOf e)) (P.cellsOf e) = some r ∧ Has w se r := by
            intro i hi
            have h1 := hel i hi
            rw [List.getElem?_eq_getElem (by omega)] at h1
            obtain ⟨r, h2, h3⟩ := Option.bind_eq_some_iff.1 h1
            exact ⟨r, h2, ih e se he n r _ h3⟩
          have hch := rows_choose len key
          obtain ⟨rows, h1, h2⟩ := hch
          refine ⟨some a, len, cap, rows, rfl, hl, hm, h1, fun r hr => ?_, ?_⟩
          · obtain ⟨i, hi, rfl⟩ := List.getElem_of_mem hr
            obtain ⟨h3, h4⟩ := h2 i rows[i] (by simp [hi])
            exact ⟨(World.cells?_some h3).2.1, h4⟩
          · by_cases h0 : len = 0
            · exact .inl h0
            · by_cases hz : P.cellsOf e = 0
              · exact .inr (.inl hz)
              · right; right
                obtain ⟨r0, hr0, _⟩ := key 0 (by omega)
                obtain ⟨_, hl0, hc0⟩ := World.cells?_some hr0
                have h00 := hc0 0 (by omega)
                rw [List.getElem?_eq_getElem (by omega)] at h00
                have ha' : a = ⟨a.block, a.off, none⟩ := addr_spot (v := r0[0]'(by omega)) (by simpa [Addr.add] using h00)
                refine ⟨a.block, a.off, congrArg some ha', fun i r hr j v hv => ?_⟩
                obtain ⟨h3, _⟩ := h2 i r hr
                obtain ⟨_, hl3, hc3⟩ := World.cells?_some h3
                have hj : j < P.cellsOf e := by have := (List.getElem?_eq_some_iff.1 hv).1; omega
                have h4 := hc3 j hj
                rw [hv, ha', Addr.add_lit, Addr.add_lit] at h4
                exact h4
    · rename_i fs ht
      obtain ⟨xs, n, _, _, hcl, hxl, hfs⟩ := DataW.trod_struct ht hx
      have key : ∀ (l : List Field) (k : Nat) (off : Nat) (s : Shape), fs.toList.drop k = l → shapeFs P (shapeOf P f) (P.cellsOf t) l off = some s → Has w s (cs.drop off) := by
        intro l
        induction l with
        | nil =>
          intro k off s _ hs
          unfold shapeFs at hs
          split at hs
          · rename_i h0; cases hs; subst h0; unfold Has; exact List.drop_of_length_le (by omega)
          · cases hs
        | cons x l ihl =>
          intro k off s hd hs
          unfold shapeFs at hs
          split at hs
          · rename_i h0
            subst h0
            obtain ⟨a, ha, hs⟩ := Option.bind_eq_some_iff.1 hs
            obtain ⟨b, hb, rfl⟩ := Option.map_eq_some_iff.1 hs
            have hk : fs[k]? = some x := by
              have : fs.toList[k]? = some x := by
                have := congrArg (fun l : List Field => l[0]?) hd
                simpa using this
              simpa using this
            have h1 := hfs k x hk
            have hkl : k < fs.size := (Array.getElem?_eq_some_iff.1 hk).1
            rw [List.getElem?_eq_getElem (by omega)] at h1
            refine ⟨ih _ _ ha _ _ _ h1, ?_⟩
            rw [List.drop_drop]
            refine ihl (k + 1) _ b ?_ hb
            have := congrArg (List.drop 1) hd
            simpa [List.drop_drop, Nat.add_comm] using this
          · cases hs
      have := key fs.toList 0 0 sh rfl hs
      simpa using this
    · cases hs

/-- An argument of a shape. -/
theorem open_shape (f : Nat) {t : TypeId} {v : Value} {d : DataW H} {ps : List MemPlace} {sh : Shape} (hs : shapeOf P f t = some sh) (h : DataW.Trod enc P w base spare held t v d ps) : Has w sh v.cells.toList :=
  let ⟨_, hf⟩ := h
  has_of_trod f t sh hs _ _ _ hf
theorem cells_slice {r : Reach} {b0 : Nat} {t e : TypeId} {v : Value} (ht : P.underlying t = some (.slice e)) (hval : Value.okWide P w r b0 t v) : v.cells.toList = [v] := by
  obtain ⟨a, len, cap, rfl⟩ := okWide_slice ht hval
  rfl
end

/-- Rows that all come of something come of a list. -/
theorem rows_of {α : Type} (enc : α → List Value) : ∀ (rows : List (List Value)), (∀ r ∈ rows, ∃ a, r = enc a) → ∃ l : List α, rows = l.map enc
  | [], _ => ⟨[], rfl⟩
  | r :: rows, h => by
    obtain ⟨a, ha⟩ := h r (by simp)
    obtain ⟨l, hl⟩ := rows_of enc rows fun r hr => h r (by simp [hr])
    exact ⟨a :: l, by rw [ha, hl]; rfl⟩
theorem flat_get {α : Type} (enc : α → List Value) (sz : Nat) (hsz : ∀ a, (enc a).length = sz) : ∀ (l : List α) (i : Nat) (h : i < l.length) (j : Nat), j < sz → (l.flatMap enc)[i * sz + j]? = (enc l[i])[j]?
  | [], i, h, _, _ => by simp at h
  | a :: l, 0, h, j, hj => by simp [List.getElem?_append_left (show j < (enc a).length by rw [hsz]; exact hj)]
  | a :: l, i + 1, h, j, hj => by
    have e : (i + 1) * sz + j = (enc a).length + (i * sz + j) := by rw [hsz, Nat.add_mul]; omega
    rw [List.flatMap_cons, e, List.getElem?_append_right (by omega), Nat.add_sub_cancel_left]
    simpa using flat_get enc sz hsz l i (by simpa using h) j hj
theorem flat_length {α : Type} (enc : α → List Value) (sz : Nat) (hsz : ∀ a, (enc a).length = sz) (l : List α) : (l.flatMap enc).length = l.length * sz := by
  induction l with
  | nil => simp
  | cons a l ih => simp only [List.flatMap_cons, List.length_append, hsz, ih, List.length_cons, Nat.add_mul]; omega
/-- A slice that came in can be read, at the start and ever after. -/
theorem Has.rd {W : World} {sz : Nat} {e : Shape} {v : Value} {α : Type} (enc : α → List Value) (hsz : ∀ a, (enc a).length = sz) (h0 : 0 < sz) (h : Has W (.slice sz e) [v]) (hr : ∀ r : List Value, r.length = sz → Has W e r → ∃ a, r = enc a) :
    ∃ l : List α, (∀ H : HProp, Rd W H sz v l.length (l.flatMap enc)) ∧ ∃ ao cap, v = .slice ao l.length cap ∧ l.length ≤ cap ∧ cap ≤ maxLen := by
  obtain ⟨ao, len, cap, rows, hv, hl, hm, hlen, hrows, hc⟩ := h
  cases hv
  obtain ⟨l, rfl⟩ := rows_of enc rows fun r hr' => hr r (hrows r hr').1 (hrows r hr').2
  simp only [List.length_map] at hlen
  subst hlen
  refine ⟨l, fun H => ⟨ao, cap, rfl, flat_length enc sz hsz l, by omega, ?_⟩, ao, cap, rfl, hl, hm⟩
  rcases hc with h | h | ⟨b, o, ha, hc⟩
  · left
    have : l = [] := List.eq_nil_of_length_eq_zero h
    subst this; rfl
  · omega
  · right
    refine ⟨b, o, ha, Cells.base fun k u hk => ?_⟩
    have hkl : k < l.length * sz := by have := (List.getElem?_eq_some_iff.1 hk).1; rwa [flat_length enc sz hsz] at this
    have hi : k / sz < l.length := Nat.div_lt_of_lt_mul (by rw [Nat.mul_comm]; exact hkl)
    have hj : k % sz < sz := Nat.mod_lt _ h0
    have hk2 : k / sz * sz + k % sz = k := by rw [Nat.mul_comm]; exact Nat.div_add_mod k sz
    rw [← hk2, flat_get enc sz hsz l _ hi _ hj] at hk
    have := hc (k / sz) (enc l[k / sz]) (by simp [hi]) (k % sz) u hk
    rw [Nat.add_assoc, hk2] at this
    exact this
end Go.SL
namespace Go.SL
open Go
variable {H : Type} {enc : TypeId × Value → H}
theorem handed_shaped {a : Assume} {C : Checked} {os : Os} {f : FuncId} {fn : Func} {s : ChangeSpec} {conds : List PathCond} {apart fresh handsOn again : Bool} {X : World → Array Value → Prop}
    (hX : ∀ (w w' : World) (args : Array Value), w.heap = w'.heap → X w args → X w' args)
    (own : ownKnob C.prog.godebug = none) (started : os.Started) (noInit : C.prog.inits.idxOf? f = none) (hfn : C.prog.funcs[f]? = some fn)
    (wit : ∃ (w : World) (tape : Tape) (i : Input), w.os = os ∧ (w.forCall tape i).Shaped C.prog ∧ i.vars = [] ∧ Input.okWide C.prog (w.forCall tape i) .any w.heap.size f i ∧
      ((s.pre enc C.prog fn conds apart (w.forCall tape i).memory i.args ∧ X (w.forCall tape i).memory i.args) ∧ sizedMet enc C.prog fn (OpenSpec.ofChange s) apart (w.forCall tape i).memory i.args) ∧ a.holds C.prog (lone (Frame.enter C.prog f i.args .normal) [] (w.forCall tape i)))
    (does : ∀ (W : World) (base : Nat) (args : Array Value) (ds gs : List (DataW H)) (before : List MemPlace),
      (∀ (j : Nat) t v, fn.params[j]? = some t → args[j]? = some v → Value.okWide C.prog W .any base t v) →
      DataW.Whole enc C.prog fn.params.toList s.vars apart W args.toList ds gs before → W.ShapedOpen C.prog → X W args →
      Calls C.prog f args W fun e W' => ∃ v, e = .returned v ∧ s.post enc C.prog fn apart fresh handsOn again W args v W') :
    ReturnsInHanded a C os f .any (fun w args => (s.pre enc C.prog fn conds apart w args ∧ X w args) ∧ sizedMet enc C.prog fn (OpenSpec.ofChange s) apart w args) (s.post enc C.prog fn apart fresh handsOn again) :=
  returnsInHanded_of_calls own started noInit wit fun w tape i _ hsh _ hok hpre _ => by
    obtain ⟨_, _, _, g, hg, _, _, _, _, hval⟩ := hok
    cases Option.some.inj (hg.symm.trans hfn)
    obtain ⟨⟨⟨ds, gs, before, hw, _⟩, hx⟩, _⟩ := hpre
    have d := does (w.forCall tape i) w.heap.size i.args ds gs before hval (DataW.Whole.of_heap (w' := w.forCall tape i) (by rfl) hw) hsh (hX _ _ _ (by rfl) hx)
    refine d.mono ?_
    rintro e W' ⟨v, rfl, hp⟩
    exact ChangeSpec.post_blind hp
/-- A listed error's variable holds an interface value. -/
theorem laid_iface {P : Program} {W : World} {n nm : String} {d : DataW Unit} {r : List (String × DataW Unit)} {g : Nat} {ti : TypeId} {ms : Array (String × TypeId)}
    (h : laidMet P ((n, .iface nm d) :: r) W) (hg : P.globalNamed n = some g) (ht : (P.globals[g]?).map (·.type) = some ti) (hi : P.underlying ti = some (.interface ms)) :
    ∃ t a, W.cell? ⟨g, 0, none⟩ = some (.iface t a) := by
  obtain ⟨_, ⟨g', t', cs, fu, _, _, hg', ht', hv, hd, _⟩, _⟩ := h
  cases Option.some.inj (hg.symm.trans hg')
  cases Option.some.inj (ht.symm.trans ht')
  obtain ⟨_, u, v, e, _⟩ := iface_of_trod hi hd
  have hc := World.var?_cell hg hv 0
  refine ⟨u, v, hc.trans ?_⟩
  have e2 := congrArg (·[0]?) e
  simpa using e2
end Go.SL
