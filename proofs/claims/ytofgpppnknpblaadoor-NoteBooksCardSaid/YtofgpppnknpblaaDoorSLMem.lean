/- The walk's rules for operations on memory. No condition. -/
import Derived.Test.YtofgpppnknpblaaDoorSLOps
set_option linter.unusedSimpArgs false
set_option linter.unusedVariables false
namespace Go.SL
open Go Go.RowKit

/-- A row of cells that an assertion knows. -/
def Cells (B : World) (H : HProp) (b o : Nat) (vs : List Value) : Prop := ∀ w, Holds B H w → ∀ j v, vs[j]? = some v → w.cell? ⟨b, o + j, none⟩ = some v
theorem Cells.nil {B : World} {H : HProp} {b o : Nat} : Cells B H b o [] := fun _ _ j v h => by simp at h
theorem Cells.ent {B : World} {H G : HProp} {b o : Nat} {vs : List Value} (h : Cells B G b o vs) (e : Ent H G) : Cells B H b o vs := fun w hw => h w (hw.ent e)
theorem Cells.sub {B : World} {H G : HProp} [i : InH G H] {b o : Nat} {vs : List Value} (h : Cells B G b o vs) : Cells B H b o vs := h.ent i.ent
theorem Cells.blk {B : World} {H F : HProp} {b o : Nat} {cs vs : List Value} {e : TypeId} [i : HasBlk H b cs e F] (hv : ∀ j v, vs[j]? = some v → cs[o + j]? = some v) : Cells B H b o vs :=
  fun w hw j v h => blk_cell (F := F) (e := e) (by rw [← i.eq]; exact hw) (hv j v h)
theorem Cells.blk0 {B : World} {H F : HProp} {b : Nat} {cs : List Value} {e : TypeId} [i : HasBlk H b cs e F] : Cells B H b 0 cs :=
  Cells.blk fun j v h => by rw [Nat.zero_add]; exact h
theorem Cells.cell {B : World} {H : HProp} {b o j : Nat} {vs : List Value} {v : Value} (h : Cells B H b o vs) (hj : vs[j]? = some v) : Cell B H b (o + j) v := fun w hw => h w hw j v hj
theorem Cells.base {B : World} {H : HProp} {b o : Nat} {vs : List Value} (h : ∀ j v, vs[j]? = some v → B.cell? ⟨b, o + j, none⟩ = some v) : Cells B H b o vs := fun w hw j v hj => Cell.base (h j v hj) w hw
theorem Cells.take {B : World} {H : HProp} {b o : Nat} {vs : List Value} (h : Cells B H b o vs) (k : Nat) : Cells B H b o (vs.take k) := fun w hw j v hj => h w hw j v (by
  rw [List.getElem?_take] at hj; split at hj
  · exact hj
  · cases hj)
theorem Cells.drop {B : World} {H : HProp} {b o : Nat} {vs : List Value} (h : Cells B H b o vs) (k : Nat) : Cells B H b (o + k) (vs.drop k) := fun w hw j v hj => by
  rw [Nat.add_assoc]; exact h w hw (k + j) v (by rw [List.getElem?_drop] at hj; exact hj)

/-- A slice that can be read: m elements of sz cells each. -/
def Rd (B : World) (H : HProp) (sz : Nat) (v : Value) (m : Nat) (cs : List Value) : Prop :=
  ∃ ao cap, v = .slice ao m cap ∧ cs.length = m * sz ∧ m ≤ maxLen ∧ (cs = [] ∨ ∃ b o, ao = some ⟨b, o, none⟩ ∧ Cells B H b o cs)
theorem Rd.ent {B : World} {H G : HProp} {sz m : Nat} {v : Value} {cs : List Value} (h : Rd B G sz v m cs) (e : Ent H G) : Rd B H sz v m cs := by
  obtain ⟨ao, cap, rfl, hl, hm, hc⟩ := h
  exact ⟨ao, cap, rfl, hl, hm, hc.imp id fun ⟨b, o, ha, h⟩ => ⟨b, o, ha, h.ent e⟩⟩
theorem Rd.sub {B : World} {H G : HProp} [i : InH G H] {sz m : Nat} {v : Value} {cs : List Value} (h : Rd B G sz v m cs) : Rd B H sz v m cs := h.ent i.ent
theorem Rd.nil {B : World} {H : HProp} {sz : Nat} : Rd B H sz (.slice none 0 0) 0 [] := ⟨none, 0, rfl, by simp, Nat.zero_le _, .inl rfl⟩

theorem Rd.addr {B : World} {H : HProp} {m : Nat} {ao : Option Addr} {cs : List Value} (hl : cs.length = m * 1) (h : cs = [] ∨ ∃ b o, ao = some ⟨b, o, none⟩ ∧ Cells B H b o cs) {k : Nat} (hk : k < m) :
    ∃ b o, ao = some ⟨b, o, none⟩ ∧ Cells B H b o cs := by
  rcases h with h | h
  · subst h; simp at hl; omega
  · exact h
/-- A slice of one's own, that may grow. -/
def Mine (e : TypeId) (sz : Nat) (v : Value) (n : Nat) (cs : List Value) : HProp := fun h =>
  cs.length = n * sz ∧ ((v = .slice none 0 0 ∧ n = 0 ∧ h = Hp.none) ∨
    ∃ g cap spare, v = .slice (some ⟨g, 0, none⟩) n cap ∧ n ≤ cap ∧ cap ≤ maxLen ∧ (cs ++ spare).length = cap * sz ∧ blk g (cs ++ spare) e h)
theorem Mine.nil (e : TypeId) (sz : Nat) : Mine e sz (.slice none 0 0) 0 [] = emp := by
  funext h
  apply propext
  constructor
  · rintro ⟨_, ⟨_, _, hh⟩ | ⟨g, cap, sp, hv, _⟩⟩
    · exact hh
    · cases hv
  · intro hh; exact ⟨by simp, .inl ⟨rfl, rfl, hh⟩⟩
theorem Mine.of_blk {e : TypeId} {sz g n cap : Nat} {cs spare all : List Value} (hall : all = cs ++ spare) (hl : cs.length = n * sz) (hn : n ≤ cap) (hc : cap ≤ maxLen) (hs : all.length = cap * sz) :
    Ent (blk g all e) (Mine e sz (.slice (some ⟨g, 0, none⟩) n cap) n cs) := fun h p =>
  ⟨h, Hp.le_refl h, hl, .inr ⟨g, cap, spare, rfl, hn, hc, hall ▸ hs, hall ▸ p⟩⟩
/-- What is known of a slice of one's own. -/
theorem Mine.open {B : World} {w : World} {e : TypeId} {sz n : Nat} {v : Value} {cs : List Value} {F : HProp} (h : Holds B (Mine e sz v n cs + F) w) :
    cs.length = n * sz ∧ ((v = .slice none 0 0 ∧ n = 0 ∧ Holds B F w) ∨
    ∃ g cap spare, v = .slice (some ⟨g, 0, none⟩) n cap ∧ n ≤ cap ∧ cap ≤ maxLen ∧ (cs ++ spare).length = cap * sz ∧ Holds B (blk g (cs ++ spare) e + F) w) := by
  obtain ⟨hb, x, hx, a, c, d, rfl, ⟨hl, p⟩, f⟩ := h
  refine ⟨hl, ?_⟩
  rcases p with ⟨hv, hn, rfl⟩ | ⟨g, cap, sp, hv, h1, h2, h3, h4⟩
  · left; rw [Hp.none_join] at hx; exact ⟨hv, hn, hb, c, hx, f⟩
  · right; exact ⟨g, cap, sp, hv, h1, h2, h3, hb, _, hx, a, c, d, rfl, h4, f⟩
theorem Mine.rd {B : World} {e : TypeId} {sz n : Nat} {v : Value} {cs : List Value} (hz : ∃ w, Holds B (Mine e sz v n cs) w) : Rd B (Mine e sz v n cs) sz v n cs := by
  have key : ∀ w, Holds B (Mine e sz v n cs) w → Holds B (Mine e sz v n cs + emp) w := fun w hw => by rw [HProp.add_emp]; exact hw
  obtain ⟨w0, h0⟩ := hz
  obtain ⟨hl, ⟨rfl, rfl, _⟩ | ⟨g, cap, sp, rfl, h1, h2, h3, _⟩⟩ := Mine.open (key w0 h0)
  · have : cs = [] := List.eq_nil_of_length_eq_zero (by simpa using hl)
    subst this; exact Rd.nil
  · refine ⟨_, cap, rfl, hl, Nat.le_trans h1 h2, .inr ⟨g, 0, rfl, fun w hw j u hj => ?_⟩⟩
    obtain ⟨_, ⟨hv, _, _⟩ | ⟨g', cap', sp', hv, _, _, _, h4⟩⟩ := Mine.open (key w hw)
    · cases hv
    · cases hv
      rw [Nat.zero_add]
      exact blk_cell h4 (by rw [List.getElem?_append_left (by have := (List.getElem?_eq_some_iff.1 hj).1; omega)]; exact hj)

section
variable {ro : Option Nat} {P : Program} {B : World} {n : Nat} {ops : Array Oper} {rest : List Oper} {fr : Fr} {H : HProp} {Q : Post}
variable {d : Nat} {ty : TypeId} {pos : String} {after : Array Edge}

theorem addr_add (b o k : Nat) : (⟨b, o, none⟩ : Addr).add k = ⟨b, o + k, none⟩ := Addr.add_lit b o k

theorem s_fieldAddr {t : TypeId} {x : Operand} {f b o k : Nat} [i : FieldOff P t f k] (hx : ev fr x = .pointer (some ⟨b, o, none⟩)) {o' : Nat} (ho : o + k = o') (hd : Nat.blt d n = true)
    (k' : WPL ro P B n ops rest (fr.put d (.pointer (some ⟨b, o', none⟩))) H Q) :
    WPL ro P B n ops (⟨some d, .fieldAddr t x f, ty, pos, after, none⟩ :: rest) fr H Q := step_pure hd (fun w => by
    obtain ⟨fs, hu, y, hy, hof, hs⟩ := i.eq
    have : execOp (ev fr) ⟨some d, .fieldAddr t x f, ty, pos, after, none⟩ = (do Pure.pure (Next.value (← Instr.fieldAt t (ev fr x) f))) := rfl
    rw [this, hx]
    cases hi : P.info? y.type with
    | none => rw [hi] at hs; simp at hs
    | some inf =>
      rw [hi] at hs
      have hs' : inf.size ≠ 0 := by simp at hs; omega
      subst ho
      simp [Instr.fieldAt, run_underlying hu, hy, Instr.sureAddr, fieldPlace, sizeOf, typeInfo, hi, hs', hof, addr_add]) k'
theorem s_fieldAddr0 {t : TypeId} {x : Operand} {f b k : Nat} [i : FieldOff P t f k] (hx : ev fr x = .pointer (some ⟨b, 0, none⟩)) (hd : Nat.blt d n = true)
    (k' : WPL ro P B n ops rest (fr.put d (.pointer (some ⟨b, k, none⟩))) H Q) :
    WPL ro P B n ops (⟨some d, .fieldAddr t x f, ty, pos, after, none⟩ :: rest) fr H Q := s_fieldAddr hx (Nat.zero_add k) hd k'
theorem s_indexAddr {t e : TypeId} {sz by' : Nat} {z : List Value} {x ix : Operand} {b o len cap j : Nat} {kd : IntKind} {p : Int} [i : SliceOf P t e sz by' z]
    (hx : ev fr x = .slice (some ⟨b, o, none⟩) len cap) (hix : ev fr ix = .int kd p) (hp : p = (j : Int)) (hlt : j < len) {o' : Nat} (ho : o + j * sz = o') (hd : Nat.blt d n = true)
    (k : WPL ro P B n ops rest (fr.put d (.pointer (some ⟨b, o', none⟩))) H Q) :
    WPL ro P B n ops (⟨some d, .indexAddr t x ix, ty, pos, after, none⟩ :: rest) fr H Q := step_pure hd (fun w => by
    obtain ⟨hu, inf, zv, hi, hs, _⟩ := i.eq
    have : execOp (ev fr) ⟨some d, .indexAddr t x ix, ty, pos, after, none⟩ = (do Pure.pure (Next.value (← Instr.indexAt t (ev fr x) (ev fr ix)))) := rfl
    subst ho hp
    rw [this, hx, hix]
    simp [Instr.indexAt, run_underlying hu, asIntOf, hlt, sizeOf, typeInfo, hi, hs, addr_add]) k
/-- The same, at elements of one cell, from the array's head on. -/
theorem s_indexAddr0 {t e : TypeId} {by' : Nat} {z : List Value} {x ix : Operand} {b len cap j : Nat} {kd : IntKind} [i : SliceOf P t e 1 by' z]
    (hx : ev fr x = .slice (some ⟨b, 0, none⟩) len cap) (hix : ev fr ix = .int kd (j : Int)) (hlt : j < len) (hd : Nat.blt d n = true)
    (k : WPL ro P B n ops rest (fr.put d (.pointer (some ⟨b, j, none⟩))) H Q) :
    WPL ro P B n ops (⟨some d, .indexAddr t x ix, ty, pos, after, none⟩ :: rest) fr H Q := s_indexAddr hx hix rfl hlt (by simp) hd k
theorem s_indexAddr1 {t e : TypeId} {by' : Nat} {z : List Value} {x ix : Operand} {b o len cap j : Nat} {kd : IntKind} [i : SliceOf P t e 1 by' z]
    (hx : ev fr x = .slice (some ⟨b, o, none⟩) len cap) (hix : ev fr ix = .int kd (j : Int)) (hlt : j < len) (hd : Nat.blt d n = true)
    (k : WPL ro P B n ops rest (fr.put d (.pointer (some ⟨b, o + j, none⟩))) H Q) :
    WPL ro P B n ops (⟨some d, .indexAddr t x ix, ty, pos, after, none⟩ :: rest) fr H Q := s_indexAddr hx hix rfl hlt (by simp) hd k
theorem s_indexAddrA {t e : TypeId} {alen sz : Nat} {x ix : Operand} {b o j : Nat} {kd : IntKind} {p : Int} [i : ArrayOf P t alen e sz]
    (hx : ev fr x = .pointer (some ⟨b, o, none⟩)) (hix : ev fr ix = .int kd p) (hp : p.toNat = j) (hlt : 0 ≤ p ∧ j < alen) {o' : Nat} (ho : o + j * sz = o') (hd : Nat.blt d n = true)
    (k : WPL ro P B n ops rest (fr.put d (.pointer (some ⟨b, o', none⟩))) H Q) :
    WPL ro P B n ops (⟨some d, .indexAddr t x ix, ty, pos, after, none⟩ :: rest) fr H Q := step_pure hd (fun w => by
    obtain ⟨hu, inf, hi, hs⟩ := i.eq
    have : execOp (ev fr) ⟨some d, .indexAddr t x ix, ty, pos, after, none⟩ = (do Pure.pure (Next.value (← Instr.indexAt t (ev fr x) (ev fr ix)))) := rfl
    have hp' : 0 ≤ p ∧ p < (alen : Int) := by omega
    subst ho hp
    rw [this, hx, hix]
    simp [Instr.indexAt, run_underlying hu, asIntOf, hp', sizeOf, typeInfo, hi, hs, addr_add, Instr.sureAddr]) k
theorem s_load {t : TypeId} {x : Operand} {b o : Nat} {v : Value} [i : Plain P t] (hx : ev fr x = .pointer (some ⟨b, o, none⟩)) (hc : Cell B H b o v) (hd : Nat.blt d n = true)
    (k : WPL ro P B n ops rest (fr.put d v) H Q) : WPL ro P B n ops (⟨some d, .load t x, ty, pos, after, none⟩ :: rest) fr H Q := step_look hd (fun w hw => by
    obtain ⟨inf, ds, hi, hu, _, hds⟩ := i.eq
    have : execOp (ev fr) ⟨some d, .load t x, ty, pos, after, none⟩ = (do Pure.pure (Next.value (← Instr.loadAt t (ev fr x)))) := rfl
    rw [this, hx]
    have hl := hc w hw
    have hagg : (isAgg t).run P w = .ok false w := by cases ds <;> first | exact hds.elim | simp [isAgg, run_underlying hu]
    simp [Instr.loadAt, Instr.sureAddr, loadVar, hagg, run_load, hl]) k
theorem s_loadA {t : TypeId} {sz : Nat} {x : Operand} {b o : Nat} {vs : List Value} [i : Aggr P t sz] (hx : ev fr x = .pointer (some ⟨b, o, none⟩)) (hc : Cells B H b o vs) (hl : vs.length = sz) (hd : Nat.blt d n = true)
    (k : WPL ro P B n ops rest (fr.put d (.agg vs.toArray)) H Q) : WPL ro P B n ops (⟨some d, .load t x, ty, pos, after, none⟩ :: rest) fr H Q := step_look hd (fun w hw => by
    obtain ⟨inf, ds, hi, hu, hs, hds⟩ := i.eq
    have : execOp (ev fr) ⟨some d, .load t x, ty, pos, after, none⟩ = (do Pure.pure (Next.value (← Instr.loadAt t (ev fr x)))) := rfl
    rw [this, hx]
    have hld := run_loadCells_list (P := P) w ⟨b, o, none⟩ vs (fun j v hv => by rw [addr_add]; exact hc w hw j v hv)
    have hagg : (isAgg t).run P w = .ok true w := by cases ds <;> first | exact hds.elim | simp [isAgg, run_underlying hu]
    rw [hl] at hld
    simp [Instr.loadAt, Instr.sureAddr, loadVar, hagg, sizeOf, typeInfo, hi, hs, hld]) k
theorem s_store {t e : TypeId} {x y : Operand} {b o : Nat} {v : Value} {cs : List Value} {F : HProp} [i : Plain P t] (hx : ev fr x = .pointer (some ⟨b, o, none⟩)) [hb : HasBlk H b cs e F] (hy : ev fr y = v)
    (h1 : v.oneCell' = true) (ho : o < cs.length) {cs' : List Value} (hcs : cs.set o v = cs')
    (k : WPL ro P B n ops rest fr (blk b cs' e + F) Q) : WPL ro P B n ops (⟨none, .store t x y, ty, pos, after, none⟩ :: rest) fr H Q := step_act (fun w hw => by
    obtain ⟨inf, ds, hi, hu, hs, _⟩ := i.eq
    have hw' : Holds B (blk b cs e + F) w := by rw [← hb.eq]; exact hw
    have : execOp (ev fr) ⟨none, .store t x y, ty, pos, after, none⟩ = (do Instr.storeAt t (ev fr x) (ev fr y); Pure.pure Next.skip) := rfl
    refine ⟨w.setCell ⟨b, o, none⟩ v, blk b cs' e + F, ?_, hcs ▸ blk_set hw', k⟩
    rw [this, hx, hy]
    have hc : w.cell? ⟨b, o, none⟩ = some cs[o] := blk_cell hw' (by simp [ho])
    have hf := blk_frozen (o := o) hw'
    have hcells : v.cells = #[v] := by cases v <;> first | rfl | (simp [Value.oneCell'] at h1)
    simp [Instr.storeAt, Instr.sureAddr, storeVar, hcells, sizeOf, typeInfo, hi, hs, storeCells, addr_add, run_store P w _ _ _ h1, hc, hf])
theorem s_storeA {t e : TypeId} {sz : Nat} {x y : Operand} {b o : Nat} {vs cs : List Value} {F : HProp} [i : Aggr P t sz] (hx : ev fr x = .pointer (some ⟨b, o, none⟩)) [hb : HasBlk H b cs e F] (hy : ev fr y = .agg vs.toArray)
    (h1 : vs.all Value.oneCell' = true) (hl : vs.length = sz) (ho : o + sz ≤ cs.length) {cs' : List Value} (hcs : cs.take o ++ vs ++ cs.drop (o + sz) = cs')
    (k : WPL ro P B n ops rest fr (blk b cs' e + F) Q) : WPL ro P B n ops (⟨none, .store t x y, ty, pos, after, none⟩ :: rest) fr H Q := step_act (fun w hw => by
    obtain ⟨inf, ds, hi, hu, hs, _⟩ := i.eq
    have hw' : Holds B (blk b cs e + F) w := by rw [← hb.eq]; exact hw
    have : execOp (ev fr) ⟨none, .store t x y, ty, pos, after, none⟩ = (do Instr.storeAt t (ev fr x) (ev fr y); Pure.pure Next.skip) := rfl
    have hst := run_storeCells_at P b o e vs 0 cs.toArray w hw'.obj.1 (by simp; omega) (by simpa using h1)
    simp only [Nat.add_zero] at hst
    refine ⟨w.setRow b cs'.toArray, blk b cs' e + F, ?_, ?_, k⟩
    · rw [this, hx, hy]
      subst hcs
      simp [Instr.storeAt, Instr.sureAddr, storeVar, Value.cells, sizeOf, typeInfo, hi, hs, hl]
      simp [hl] at hst
      rw [hst]; simp
    · refine Holds.upd (o' := .cells cs'.toArray e (0, 0)) hw' rfl rfl rfl (by simp) (setRow_heap w b cs.toArray cs'.toArray e (0, 0) hw'.obj.1) fun k hk => setRow_other w b k _ hk)
theorem s_alloc {t : TypeId} {z : List Value} [i : ZeroOf P t z] (hd : Nat.blt d n = true)
    (k : ∀ b, WPL ro P B n ops rest (fr.put d (.pointer (some ⟨b, 0, none⟩))) (blk b z t + H) Q) : WPL ro P B n ops (⟨some d, .alloc t, ty, pos, after, none⟩ :: rest) fr H Q := step_val hd fun w hw => by
  obtain ⟨inf, zv, hi, hz, hc⟩ := i.eq
  refine ⟨_, _, _, ?_, blk_new hw z t, k w.heap.size⟩
  simp [execOp, Instr.alloc, zeroValue, typeInfo, hi, hz, newVar, newRow, hc]
theorem s_box {t : TypeId} {x : Operand} {v : Value} {cs : List Value} (hx : ev fr x = v) (hv : v.cells = cs.toArray) (hd : Nat.blt d n = true)
    (k : ∀ b, WPL ro P B n ops rest (fr.put d (.pointer (some ⟨b, 0, none⟩))) (blk b cs t + H) Q) : WPL ro P B n ops (⟨some d, .box t x, ty, pos, after, none⟩ :: rest) fr H Q := step_val hd fun w hw => by
  refine ⟨_, _, _, ?_, blk_new hw cs t, k w.heap.size⟩
  simp [execOp, Instr.box, hx, newVar, newRow, hv]
theorem s_len {t : TypeId} {e : TypeId} {sz by' : Nat} {z : List Value} {x : Operand} {ao : Option Addr} {len cap : Nat} [i : SliceOf P t e sz by' z] (hx : ev fr x = .slice ao len cap) (hd : Nat.blt d n = true)
    (k : WPL ro P B n ops rest (fr.put d (.int .i64 (len : Int))) H Q) : WPL ro P B n ops (⟨some d, .call ⟨.builtin .len, #[x], #[t]⟩, ty, pos, after, none⟩ :: rest) fr H Q := step_pure hd (fun w => by
    obtain ⟨hu, _⟩ := i.eq
    simp [execOp, resolve, invoke, builtin, hx, Builtin.len_, run_underlying hu, goInt]) k
theorem s_min2 {t u : TypeId} {x y : Operand} {kd kd' : IntKind} {p q r : Int} (hx : ev fr x = .int kd p) (hy : ev fr y = .int kd' q) (hr : min p q = r) (hd : Nat.blt d n = true)
    (k : WPL ro P B n ops rest (fr.put d (.int kd r)) H Q) : WPL ro P B n ops (⟨some d, .call ⟨.builtin .min, #[x, y], #[t, u]⟩, ty, pos, after, none⟩ :: rest) fr H Q := step_pure hd (fun w => by
    subst hr
    have h := run_min_int2 (P := P) w #[t, u] ty kd kd' p q
    have e : (if q < p then q else p) = min p q := by omega
    rw [e] at h
    simp [execOp, resolve, invoke, builtin, hx, hy, h]) k
theorem s_max2 {t u : TypeId} {x y : Operand} {kd kd' : IntKind} {p q r : Int} (hx : ev fr x = .int kd p) (hy : ev fr y = .int kd' q) (hr : max p q = r) (hd : Nat.blt d n = true)
    (k : WPL ro P B n ops rest (fr.put d (.int kd r)) H Q) : WPL ro P B n ops (⟨some d, .call ⟨.builtin .max, #[x, y], #[t, u]⟩, ty, pos, after, none⟩ :: rest) fr H Q := step_pure hd (fun w => by
    subst hr
    have h := run_max_int2 (P := P) w #[t, u] ty kd kd' p q
    have e : (if q > p then q else p) = max p q := by omega
    rw [e] at h
    simp [execOp, resolve, invoke, builtin, hx, hy, h]) k

/-- A call of a function: it stands by its answer. -/
theorem s_call {f : FuncId} {args : List Operand} {tys : Array TypeId} {vs : List Value} {R : Value → HProp → Prop} [c : Callable P f] (hargs : args.map (ev fr) = vs)
    (h : Does P B f vs H R) (hd : Nat.blt d n = true) (k : ∀ v H', R v H' → WPL ro P B n ops rest (fr.put d v) H' Q) :
    WPL ro P B n ops (⟨some d, .call ⟨.value (.func f), args.toArray, tys⟩, ty, pos, after, none⟩ :: rest) fr H Q := by
  intro a w hm hh
  obtain ⟨fn, cd, hf, hn, hb⟩ := c.eq
  unfold wpListIn
  rw [if_pos (by simp [Region.wanted])]
  refine ⟨fun f _ => trivial, ?_⟩
  rw [hm.eval]
  have hrun : (execOp (ev fr) ⟨some d, .call ⟨.value (.func f), args.toArray, tys⟩, ty, pos, after, none⟩).run P w = .ok (.enter f vs.toArray) w := by
    subst hargs
    have hn' : fn.name ≠ "runtime.NumGoroutine" := by simpa using hn
    simp [execOp, resolve, ev, Deferred.ofValue, invoke, callFunc, hf, hn', hb]
  rw [semAt_of hrun (by simp), Oper.uponIn_enter]
  refine ⟨by simp [FW, Fence.wide], FW_calls.2 ((h w hh).mono ?_)⟩
  rintro e w' ⟨v, H', rfl, hh', hR⟩
  exact k v H' hR _ _ (hm.put (by simpa [Nat.blt_eq] using hd) v) hh'
end
end Go.SL
