/- The walk's rules for append, make, slices. No condition. -/
import Derived.Test.YtofgpppnknpblaaDoorSLMem
set_option linter.unusedSimpArgs false
set_option linter.unusedVariables false
namespace Go.SL
open Go Go.RowKit

theorem Holds.drewN {B : World} {H : HProp} {w : World} (h : Holds B H w) : Holds B H w.drew := h.drew

section
variable {ro : Option Nat} {P : Program} {B : World} {n : Nat} {ops : Array Oper} {rest : List Oper} {fr : Fr} {H : HProp} {Q : Post}
variable {d : Nat} {ty : TypeId} {pos : String} {after : Array Edge}

/-- append: a slice of one's own, and a slice that can be read beside it. -/
theorem append_run {t e : TypeId} {sz by' : Nat} {z : List Value} [i : SliceOf P t e sz by' z] {w : World} {F : HProp} {v : Value} {k m : Nat} {cs news : List Value} {x : Value} (hsz : 0 < sz)
    (hw : Holds B (Mine e sz v k cs + F) w) (hx : Rd B F sz x m news) (h1 : news.all Value.oneCell' = true) (hb : (k + m) * by' ≤ 140737488355328) (h63 : k + m ≤ maxLen) :
    ∃ v' w', (Builtin.append_ #[t, t] ty #[v, x]).run P w = .ok v' w' ∧ Holds B (Mine e sz v' (k + m) (cs ++ news) + F) w' := by
  obtain ⟨hu, inf, zv, hi, hs, hby, hz, hzc, hzl⟩ := i.eq
  subst hs hby
  obtain ⟨ao, xcap, rfl, hnl, hmm, hxc⟩ := hx
  have hwF : Holds B F w := hw.drop_left
  have h63' : k + m ≤ 9223372036854775807 := by simp only [maxLen] at h63; omega
  have h1' : ∀ u ∈ news, u.oneCell' = true := by simpa using h1
  obtain ⟨hcl, hO⟩ := Mine.open hw
  by_cases hm : m = 0
  · subst hm
    have hn : news = [] := List.eq_nil_of_length_eq_zero (by simpa using hnl)
    subst hn
    refine ⟨v, w, ?_, by simpa using hw⟩
    have hld : ∀ a : Addr, (loadCells a 0).run P w = .ok #[] w := fun a => rfl
    rcases hO with ⟨rfl, rfl, _⟩ | ⟨g, cap, sp, rfl, h2, h3, h4, h5⟩
    · cases ao <;> simp [Builtin.append_, run_underlying hu, sizeOf, typeInfo, hi, Builtin.lenOf, Builtin.firstCells, hld]
    · cases ao <;> simp [Builtin.append_, run_underlying hu, sizeOf, typeInfo, hi, Builtin.lenOf, Builtin.firstCells, hld, h2, storeCells]
  · obtain ⟨b, o, rfl, hcx⟩ : ∃ b o, ao = some ⟨b, o, none⟩ ∧ Cells B F b o news := by
      rcases hxc with h | h
      · rw [h] at hnl
        have h0 : m * inf.size = 0 := by simpa using hnl.symm
        rcases Nat.mul_eq_zero.1 h0 with h' | h'
        · exact absurd h' hm
        · omega
      · exact h
    have hnews : ∀ j u, news[j]? = some u → w.cell? ((⟨b, o, none⟩ : Addr).add j) = some u := fun j u hj => by rw [addr_add]; exact hcx w hwF j u hj
    have hzsz : zv.cells.size = inf.size := by rw [hzc]; simpa using hzl
    -- what is laid anew
    have fresh : ∀ (sp : List Value) (cap : Nat), k + m ≤ cap → cap ≤ maxLen → (cs ++ news ++ sp).length = cap * inf.size → ∀ w0 : World, Holds B F w0 → w0.heap.size = w.heap.size →
        Holds B (Mine e inf.size (.slice (some ⟨w.heap.size, 0, none⟩) (k + m) cap) (k + m) (cs ++ news) + F) (w0.alloc (.cells (cs ++ news ++ sp).toArray e)) := by
      intro sp cap hc1 hc2 hl w0 hF hsz0
      have := blk_new hF (cs ++ news ++ sp) e
      rw [hsz0] at this
      refine this.ent ((Mine.of_blk (cs := cs ++ news) (spare := sp) rfl ?_ hc1 hc2 hl).frame_right F)
      simp [hcl, hnl, Nat.add_mul]
    rcases hO with ⟨rfl, rfl, hF⟩ | ⟨g, cap, sp, rfl, h2, h3, h4, h5⟩
    · have hcs : cs = [] := List.eq_nil_of_length_eq_zero (by simpa using hcl)
      subst hcs
      have hr := run_append_nil (P := P) w t ty e inf zv hu hi hz ⟨b, o, none⟩ m xcap news hnl hnews (by omega) (by omega) (by simp only [Nat.zero_add] at hb; omega)
      refine ⟨_, _, hr, ?_⟩
      have hge := grownCap_ge w m 0 e
      have hcm := grownCap_le_maxLen w m 0 e (by simp only [maxLen]; omega)
      have := fresh (Builtin.zeroCells zv.cells (grownCap w m 0 e - m)).toList (grownCap w m 0 e) (by omega) hcm (by
        simp only [List.nil_append, List.length_append, hnl, Array.length_toList, size_zeroCells, hzsz, ← Nat.add_mul]
        congr 1; omega) w.drew hF.drew rfl
      have ea : (news.toArray ++ Builtin.zeroCells zv.cells (grownCap w m 0 e - m)) = (news ++ (Builtin.zeroCells zv.cells (grownCap w m 0 e - m)).toList).toArray := by
        apply Array.ext'; simp
      rw [ea]
      simpa using this
    · by_cases hroom : k + m ≤ cap
      · have hall : (cs ++ sp).length = cap * inf.size := h4
        have hfit : k * inf.size + news.length ≤ (cs ++ sp).toArray.size := by
          simp only [List.size_toArray, hall, hnl, ← Nat.add_mul]; exact Nat.mul_le_mul_right _ hroom
        have hr := run_append_room (P := P) w t ty e inf hu hi g k cap (cs ++ sp).toArray h5.obj.1 ⟨b, o, none⟩ m xcap news hnl hnews h1' hroom hfit
        refine ⟨_, _, hr, ?_⟩
        have hrow : (((cs ++ sp).toArray.toList.take (k * inf.size) ++ news ++ (cs ++ sp).toArray.toList.drop (k * inf.size + news.length)).toArray) = (cs ++ news ++ sp.drop news.length).toArray := by
          apply congrArg List.toArray
          simp only [← hcl, List.take_left, List.drop_append]
          simp
        rw [hrow]
        have hup : Holds B (blk g (cs ++ news ++ sp.drop news.length) e + F) (w.setRow g (cs ++ news ++ sp.drop news.length).toArray) :=
          Holds.upd (o' := .cells (cs ++ news ++ sp.drop news.length).toArray e (0, 0)) h5 rfl rfl rfl (by simp) (setRow_heap w g _ _ e (0, 0) h5.obj.1) fun j hj => setRow_other w g j _ hj
        refine hup.ent ((Mine.of_blk (cs := cs ++ news) (spare := sp.drop news.length) rfl (by simp [hcl, hnl, Nat.add_mul]) hroom h3 ?_).frame_right F)
        have : news.length ≤ sp.length := by
          simp only [List.size_toArray, List.length_append, hcl] at hfit; omega
        simp only [List.length_append, List.length_drop] at hall ⊢
        omega
      · have holds : ∀ j u, cs[j]? = some u → w.cell? ((⟨g, 0, none⟩ : Addr).add j) = some u := fun j u hj => by
          rw [addr_add, Nat.zero_add]
          exact blk_cell h5 (by rw [List.getElem?_append_left (by have := (List.getElem?_eq_some_iff.1 hj).1; omega)]; exact hj)
        have hr := run_append_grow (P := P) w t ty e inf zv hu hi hz ⟨g, 0, none⟩ k cap cs hcl holds ⟨b, o, none⟩ m xcap news hnl hnews (by omega) (by omega) (growslice_fits (by omega) hb)
        refine ⟨_, _, hr, ?_⟩
        have hge := grownCap_ge w (k + m) cap e
        have hcm := grownCap_le_maxLen w (k + m) cap e (by simp only [maxLen]; omega)
        have := fresh (Builtin.zeroCells zv.cells (grownCap w (k + m) cap e - (k + m))).toList (grownCap w (k + m) cap e) hge hcm (by
          simp only [List.length_append, hnl, hcl, Array.length_toList, size_zeroCells, hzsz, ← Nat.add_mul]
          congr 1; omega) w.drew (hwF.drew) rfl
        have ea : (cs.toArray ++ news.toArray ++ Builtin.zeroCells zv.cells (grownCap w (k + m) cap e - (k + m))) = (cs ++ news ++ (Builtin.zeroCells zv.cells (grownCap w (k + m) cap e - (k + m))).toList).toArray := by
          apply Array.ext'; simp
        rw [ea]
        exact this
/-- A slice of one's own in an assertion. -/
class HasOwn (H : HProp) (v : Value) (e : outParam TypeId) (sz k : outParam Nat) (cs : outParam (List Value)) (F : outParam HProp) : Prop where
  eq : H = Mine e sz v k cs + F
instance (v : Value) (e : TypeId) (sz k : Nat) (cs : List Value) (F : HProp) : HasOwn (Mine e sz v k cs + F) v e sz k cs F := ⟨rfl⟩
instance (v : Value) (e : TypeId) (sz k : Nat) (cs : List Value) (G K F : HProp) [h : HasOwn K v e sz k cs F] : HasOwn (G + K) v e sz k cs (G + F) := ⟨by rw [h.eq, HProp.add_left_comm]⟩
instance (v : Value) (e : TypeId) (sz k : Nat) (cs : List Value) (G K F : HProp) [h : HasOwn G v e sz k cs F] : HasOwn (G + K) v e sz k cs (F + K) := ⟨by rw [h.eq, HProp.add_assoc]⟩
theorem s_append {t e : TypeId} {sz by' : Nat} {z : List Value} [i : SliceOf P t e sz by' z] {x y : Operand} {F : HProp} {v u : Value} {k m : Nat} {cs news : List Value}
    (hx : ev fr x = v) (hy : ev fr y = u) [s : HasOwn H v e sz k cs F] (hu : Rd B F sz u m news) (h1 : news.all Value.oneCell' = true) (hsz : Nat.blt 0 sz = true)
    (hb : (k + m) * by' ≤ 140737488355328 ∧ k + m ≤ maxLen) (hd : Nat.blt d n = true)
    (kk : ∀ v', WPL ro P B n ops rest (fr.put d v') (Mine e sz v' (k + m) (cs ++ news) + F) Q) :
    WPL ro P B n ops (⟨some d, .call ⟨.builtin .append, #[x, y], #[t, t]⟩, ty, pos, after, none⟩ :: rest) fr H Q := step_val hd fun w hw => by
  have hw' : Holds B (Mine e sz v k cs + F) w := by rw [← s.eq]; exact hw
  obtain ⟨v', w', hr, hh⟩ := append_run (P := P) (t := t) (ty := ty) (by simpa [Nat.blt_eq] using hsz) hw' hu h1 hb.1 hb.2
  exact ⟨v', w', _, by simp [execOp, resolve, invoke, builtin, hx, hy, hr], hh, kk v'⟩
/-- A new slice of a row of values. -/
theorem s_buildSlice {t e : TypeId} {sz by' len : Nat} {z : List Value} [i : SliceOf P t e sz by' z] {parts : Array (Nat × Operand)} {cs : List Value}
    (hlen : Nat.ble (len * sz) 16777216 = true)
    (hf : Instr.fill (fun i => some (i * sz, sz)) ((Array.range (len * sz)).map fun j => z.toArray[j % z.toArray.size]!) (parts.map fun (i, x) => (i, ev fr x)).toList = some cs.toArray)
    (hd : Nat.blt d n = true) (k : ∀ b, WPL ro P B n ops rest (fr.put d (.slice (some ⟨b, 0, none⟩) len len)) (blk b cs e + H) Q) :
    WPL ro P B n ops (⟨some d, .buildSlice t len parts, ty, pos, after, none⟩ :: rest) fr H Q := step_val hd fun w hw => by
  obtain ⟨hu, inf, zv, hi, hs, _, hz, hzc, _⟩ := i.eq
  subst hs
  have hlen' : ¬ (16777216 < len * inf.size) := by have := Nat.le_of_ble_eq_true hlen; omega
  refine ⟨_, _, _, ?_, blk_new hw cs e, k w.heap.size⟩
  have : execOp (ev fr) ⟨some d, .buildSlice t len parts, ty, pos, after, none⟩ = (do Pure.pure (Next.value (← Instr.buildSlice t len (parts.map fun (i, x) => (i, ev fr x))))) := rfl
  rw [this]
  by_cases h0 : len * inf.size = 0
  · rw [h0] at hf
    simp only [Instr.buildSlice, Sem.run_bind, run_underlying hu, Result.andThen_ok, sizeOf, typeInfo, run_program, hi, Sem.run_pure, Sem.run_ite, gt_iff_lt, Nat.reducePow, hlen', if_false, h0, if_true]
    have hf' : Instr.fill (fun i => some (i * inf.size, inf.size)) ((Array.range 0).map fun j => (#[] : Array Value)[j % (#[] : Array Value).size]!) (parts.map fun (i, x) => (i, ev fr x)).toList = some cs.toArray := by
      simpa [Array.range_zero'] using hf
    rw [hf']
    simp [newRow]
  · simp only [Instr.buildSlice, Sem.run_bind, run_underlying hu, Result.andThen_ok, sizeOf, typeInfo, run_program, hi, Sem.run_pure, Sem.run_ite, gt_iff_lt, Nat.reducePow, hlen', if_false, h0, zeroValue, hz, hzc]
    rw [hf]
    simp [newRow]

theorem cells_one {v : Value} (h : v.oneCell' = true) : v.cells = #[v] := by cases v <;> first | rfl | (simp [Value.oneCell'] at h)
theorem fill_ones (vs : List Value) (h1 : vs.all Value.oneCell' = true) : ∀ (k : Nat) (arr : Array Value), k + vs.length ≤ arr.size →
    Instr.fill (fun i => some (i * 1, 1)) arr ((vs.zipIdx k).map fun p => (p.2, p.1)) = some (arr.toList.take k ++ vs ++ arr.toList.drop (k + vs.length)).toArray := by
  induction vs with
  | nil => intro k arr _; simp [Instr.fill]
  | cons v vs ih =>
    intro k arr hk
    simp only [List.all_cons, Bool.and_eq_true] at h1
    simp only [List.length_cons] at hk
    have hc := cells_one h1.1
    have hfit : ¬ (arr.size < k * 1 + 1) := by omega
    simp only [List.zipIdx_cons, List.map_cons, Instr.fill, hc, List.size_toArray, List.length_cons, List.length_nil, Nat.zero_add, ne_eq, not_true_eq_false, false_or, gt_iff_lt, hfit, if_false]
    have hz : (Array.zipIdx #[v]).foldl (fun cs x => cs.setIfInBounds (k * 1 + x.2) x.1) arr = arr.setIfInBounds k v := by simp
    rw [hz]
    rw [ih h1.2 (k + 1) (arr.setIfInBounds k v) (by simp; omega)]
    have hlt : k < arr.toList.length := by simp; omega
    congr 2
    simp only [Array.toList_setIfInBounds, List.length_cons]
    rw [List.take_succ_eq_append_getElem (by simp; omega)]
    rw [List.drop_set_of_lt (by omega)]
    simp only [List.getElem_set_self, List.append_assoc, List.cons_append, List.nil_append, Nat.add_assoc, Nat.add_comm 1]
    have ht : List.take k (arr.toList.set k v) = List.take k arr.toList := by
      apply List.ext_getElem?
      intro j
      simp only [List.getElem?_take]
      split
      · rw [List.getElem?_set_ne (by omega)]
      · rfl
    rw [ht]
    simp
theorem s_buildInts {t e : TypeId} {by' len : Nat} {z : List Value} [i : SliceOf P t e 1 by' z] {parts : List (Nat × Operand)} {cs : List Value}
    (hv : parts.map (fun p => ev fr p.2) = cs) (hix : parts.map (·.1) = List.range len) (h1 : cs.all Value.oneCell' = true) (hlen : Nat.ble len 16777216 = true)
    (hd : Nat.blt d n = true) (k : ∀ b, WPL ro P B n ops rest (fr.put d (.slice (some ⟨b, 0, none⟩) len len)) (blk b cs e + H) Q) :
    WPL ro P B n ops (⟨some d, .buildSlice t len parts.toArray, ty, pos, after, none⟩ :: rest) fr H Q := by
  refine s_buildSlice (cs := cs) (by simpa using hlen) ?_ hd k
  have hl : parts.length = len := by have := congrArg List.length hix; simpa using this
  have e1 : (Array.map (fun x : Nat × Operand => (x.1, ev fr x.2)) parts.toArray).toList = (cs.zipIdx 0).map fun p => (p.2, p.1) := by
    subst hv
    simp only [List.map_toArray]
    apply List.ext_getElem?
    intro j
    have hj := congrArg (fun l : List Nat => l[j]?) hix
    simp only [List.getElem?_map, List.getElem?_range'] at hj
    simp only [List.getElem?_map, List.getElem?_zipIdx]
    cases hp : parts[j]? with
    | none => simp
    | some p =>
      have hjl : j < len := by have := (List.getElem?_eq_some_iff.1 hp).1; omega
      simp [hp, hjl] at hj
      simp [hj]
  have e2 := fill_ones cs h1 0 ((Array.range (len * 1)).map fun j => z.toArray[j % z.toArray.size]!) (by subst hv; simp [hl])
  show Instr.fill _ _ (Array.map (fun x : Nat × Operand => (x.1, ev fr x.2)) parts.toArray).toList = _
  rw [e1, e2]
  have hcl : cs.length = len := by subst hv; simpa using hl
  simp [hcl]
/-- make: a row of zeros. -/
theorem s_makeSlice {t e : TypeId} {sz by' k c : Nat} {z : List Value} [i : SliceOf P t e sz by' z] {x y : Operand} {kd kd' : IntKind} (hx : ev fr x = .int kd (k : Int)) (hy : ev fr y = .int kd' (c : Int))
    (hkc : k ≤ c) (hb : by' * c ≤ 281474976710656 ∧ c ≤ maxLen) (hd : Nat.blt d n = true)
    (kk : ∀ b, WPL ro P B n ops rest (fr.put d (.slice (some ⟨b, 0, none⟩) k c)) (blk b (List.replicate c z).flatten e + H) Q) :
    WPL ro P B n ops (⟨some d, .makeSlice t x y, ty, pos, after, none⟩ :: rest) fr H Q := step_val hd fun w hw => by
  obtain ⟨hu, inf, zv, hi, hs, hby, hz, hzc, hzl⟩ := i.eq
  obtain ⟨hb1, hb2⟩ := hb
  have h63 : (c : Int) ≤ 9223372036854775807 := by simp only [maxLen] at hb2; omega
  have hb' : (inf.bytes : Int) * (c : Int) ≤ 281474976710656 := by rw [hby, ← Int.natCast_mul]; omega
  have hr := run_make (P := P) w t e inf zv hu hi hz kd kd' (k : Int) (c : Int) (by omega) (by omega) hb' h63
  simp only [Int.toNat_natCast] at hr
  have hcells : madeCells zv.cells (c * inf.size) = (List.replicate c z).flatten.toArray := by
    rw [hs, hzc]
    apply Array.ext
    · rw [size_madeCells]; simp [hzl]
    · intro j h1 h2
      rw [size_madeCells] at h1
      simp only [madeCells, Array.getElem_map, Array.getElem_range, List.getElem_toArray]
      have hsz : 0 < sz := by
        rcases Nat.eq_zero_or_pos sz with h | h
        · subst h; simp at h1
        · exact h
      have hmod : j % z.length < z.length := Nat.mod_lt _ (by omega)
      have hg : ((List.replicate c z).flatten)[j]? = z[j % z.length]? := by
        clear h2 hr hb' hb1 hb2 hkc kk
        have : ∀ (c j : Nat), j < c * z.length → ((List.replicate c z).flatten)[j]? = z[j % z.length]? := by
          intro c
          induction c with
          | zero => intro j hj; simp at hj
          | succ c ih =>
            intro j hj
            rw [List.replicate_succ, List.flatten_cons]
            by_cases hlt : j < z.length
            · rw [List.getElem?_append_left hlt, Nat.mod_eq_of_lt hlt]
            · rw [List.getElem?_append_right (by omega), ih (j - z.length) (by rw [Nat.add_mul] at hj; omega)]
              rw [← Nat.mod_eq_sub_mod (by omega)]
        exact this c j (by rw [hzl]; exact h1)
      have h3 : some ((List.replicate c z).flatten)[j] = some z[j % z.length] := by
        rw [← List.getElem?_eq_getElem, hg, List.getElem?_eq_getElem hmod]
      have h4 := Option.some.inj h3
      rw [h4]
      simp [hmod]
  rw [hcells] at hr
  refine ⟨_, _, _, ?_, blk_new hw _ e, kk w.heap.size⟩
  have : execOp (ev fr) ⟨some d, .makeSlice t x y, ty, pos, after, none⟩ = (do Pure.pure (Next.value (← Instr.makeSlice t (ev fr x) (ev fr y)))) := rfl
  rw [this, hx, hy]
  simp [hr]
/-- Where a part of a slice begins. -/
def partAddr (ao : Option Addr) (cap l sz : Nat) : Option Addr := if cap = l then ao else ao.map fun a => a.add (l * sz)
theorem s_sliceLH {t e : TypeId} {sz by' l h len cap : Nat} {z : List Value} [i : SliceOf P t e sz by' z] {x y u : Operand} {kd kd' : IntKind} {ao : Option Addr} {p q : Int} (hx : ev fr x = .slice ao len cap)
    (hy : ev fr y = .int kd p) (hu : ev fr u = .int kd' q) (hp : p = (l : Int)) (hq : q = (h : Int)) (hlh : l ≤ h ∧ h ≤ cap) (hd : Nat.blt d n = true)
    (k : WPL ro P B n ops rest (fr.put d (.slice (partAddr ao cap l sz) (h - l) (cap - l))) H Q) :
    WPL ro P B n ops (⟨some d, .slice t x (some y) (some u) none, ty, pos, after, none⟩ :: rest) fr H Q := step_pure hd (fun w => by
    obtain ⟨hun, inf, zv, hi, hs, _⟩ := i.eq
    have : execOp (ev fr) ⟨some d, .slice t x (some y) (some u) none, ty, pos, after, none⟩ = (do Pure.pure (Next.value (← Instr.sliceAt t (ev fr x) (some (ev fr y)) (some (ev fr u)) none))) := rfl
    subst hp hq
    rw [this, hx, hy, hu]
    have h1 : (l : Int) ≤ (h : Int) := by omega
    have h2 : (h : Int) ≤ (cap : Int) := by omega
    simp [Instr.sliceAt, Instr.slice, run_underlying hun, Instr.sliceBounds, Instr.sliceBound, asIntOf, hlh.1, hlh.2, sizeOf, typeInfo, hi, hs, partAddr]) k
theorem s_sliceH {t e : TypeId} {sz by' h len cap : Nat} {z : List Value} [i : SliceOf P t e sz by' z] {x u : Operand} {kd' : IntKind} {ao : Option Addr} {q : Int} (hx : ev fr x = .slice ao len cap)
    (hu : ev fr u = .int kd' q) (hq : q = (h : Int)) (hlh : h ≤ cap) (hd : Nat.blt d n = true)
    (k : WPL ro P B n ops rest (fr.put d (.slice ao h cap)) H Q) :
    WPL ro P B n ops (⟨some d, .slice t x none (some u) none, ty, pos, after, none⟩ :: rest) fr H Q := step_pure hd (fun w => by
    obtain ⟨hun, inf, zv, hi, hs, _⟩ := i.eq
    have : execOp (ev fr) ⟨some d, .slice t x none (some u) none, ty, pos, after, none⟩ = (do Pure.pure (Next.value (← Instr.sliceAt t (ev fr x) none (some (ev fr u)) none))) := rfl
    subst hq
    rw [this, hx, hu]
    have e : (ao.map fun a => a.add (0 * inf.size)) = ao := by cases ao <;> simp [Addr.add]
    have e0 : (ao.map fun a => a.add 0) = ao := by cases ao <;> simp [Addr.add]
    simp [Instr.sliceAt, Instr.slice, run_underlying hun, Instr.sliceBounds, Instr.sliceBound, asIntOf, hlh, sizeOf, typeInfo, hi, hs, e0]) k
theorem s_sliceL {t e : TypeId} {sz by' l len cap : Nat} {z : List Value} [i : SliceOf P t e sz by' z] {x y : Operand} {kd : IntKind} {ao : Option Addr} {p : Int} (hx : ev fr x = .slice ao len cap)
    (hy : ev fr y = .int kd p) (hp : p = (l : Int)) (hlh : l ≤ len) (hd : Nat.blt d n = true)
    (k : WPL ro P B n ops rest (fr.put d (.slice (partAddr ao cap l sz) (len - l) (cap - l))) H Q) :
    WPL ro P B n ops (⟨some d, .slice t x (some y) none none, ty, pos, after, none⟩ :: rest) fr H Q := step_pure hd (fun w => by
    obtain ⟨hun, inf, zv, hi, hs, _⟩ := i.eq
    have : execOp (ev fr) ⟨some d, .slice t x (some y) none none, ty, pos, after, none⟩ = (do Pure.pure (Next.value (← Instr.sliceAt t (ev fr x) (some (ev fr y)) none none))) := rfl
    subst hp
    rw [this, hx, hy]
    simp [Instr.sliceAt, Instr.slice, run_underlying hun, Instr.sliceBounds, Instr.sliceBound, asIntOf, hlh, sizeOf, typeInfo, hi, hs, partAddr]) k
/-- A slice against nil. -/
theorem s_eqnilS {t yt e : TypeId} {sz by' : Nat} {z : List Value} [i : SliceOf P t e sz by' z] {x y : Operand} {ao : Option Addr} {l c : Nat} {b : Bool} (hx : ev fr x = .slice ao l c) (hy : ev fr y = .slice none 0 0) (hr : ao.isNone = b)
    (hd : Nat.blt d n = true) (k : WPL ro P B n ops rest (fr.put d (.bool b)) H Q) :
    WPL ro P B n ops (⟨some d, .binOp .eql t x y yt, ty, pos, after, none⟩ :: rest) fr H Q :=
  step_pure hd (fun w => by
    obtain ⟨hun, _⟩ := i.eq
    have : execOp (ev fr) ⟨some d, .binOp .eql t x y yt, ty, pos, after, none⟩ = (do Pure.pure (Next.value (← (do eqGuard .eql t x y (ev fr x) (ev fr y); binOp .eql t (ev fr x) (ev fr y))))) := rfl
    have he : (Op.equal t (.slice ao l c) (.slice none 0 0)).run P w = .ok ao.isNone w := by
      have key : ∀ dd, (Op.equalIn (dd + 1) t (.slice ao l c) (.slice none 0 0)).run P w = .ok ao.isNone w := fun dd => by
        cases ao <;> simp [Op.equalIn, run_underlying hun]
      exact key 9999
    have hb : (binOp .eql t (.slice ao l c) (.slice none 0 0)).run P w = .ok (.bool ao.isNone) w := by
      simp only [binOp]
      simp [he]
    rw [this, hx, hy]
    subst hr
    simp [eqGuard_at_slice, hb]) k
class StructOf (P : Program) (t : TypeId) (pl : outParam (List (Nat × Nat))) (z : outParam (List Value)) : Prop where
  eq : ∀ parts, P.built t parts = Instr.fill (pl.toArray[·]?) z.toArray parts
theorem s_build {t : TypeId} {pl : List (Nat × Nat)} {z cs : List Value} [i : StructOf P t pl z] {parts : List (Nat × Operand)} (hf : Instr.fill (pl.toArray[·]?) z.toArray (parts.map fun p => (p.1, ev fr p.2)) = some cs.toArray) (hd : Nat.blt d n = true)
    (k : WPL ro P B n ops rest (fr.put d (.agg cs.toArray)) H Q) : WPL ro P B n ops (⟨some d, .build t parts.toArray, ty, pos, after, none⟩ :: rest) fr H Q := step_pure hd (fun w => by
    have h := run_build (P := P) w t (parts.map fun p => (p.1, ev fr p.2)).toArray cs.toArray (by rw [i.eq]; exact hf)
    have : execOp (ev fr) ⟨some d, .build t parts.toArray, ty, pos, after, none⟩ = (do Pure.pure (Next.value (← Instr.build t (parts.toArray.map fun (i, x) => (i, ev fr x))))) := rfl
    rw [this]
    have e : (parts.toArray.map fun (i, x) => (i, ev fr x)) = (parts.map fun p => (p.1, ev fr p.2)).toArray := by simp
    rw [e]
    simp [h]) k
class ArrayBuild (P : Program) (t : TypeId) (sz : outParam Nat) (z : outParam (List Value)) : Prop where
  eq : ∀ parts, P.built t parts = Instr.fill (fun i => some (i * sz, sz)) z.toArray parts
theorem s_buildA {t : TypeId} {sz : Nat} {z cs : List Value} [i : ArrayBuild P t sz z] {parts : List (Nat × Operand)} (hf : Instr.fill (fun i => some (i * sz, sz)) z.toArray (parts.map fun p => (p.1, ev fr p.2)) = some cs.toArray) (hd : Nat.blt d n = true)
    (k : WPL ro P B n ops rest (fr.put d (.agg cs.toArray)) H Q) : WPL ro P B n ops (⟨some d, .build t parts.toArray, ty, pos, after, none⟩ :: rest) fr H Q := step_pure hd (fun w => by
    have h := run_build (P := P) w t (parts.map fun p => (p.1, ev fr p.2)).toArray cs.toArray (by rw [i.eq]; exact hf)
    have : execOp (ev fr) ⟨some d, .build t parts.toArray, ty, pos, after, none⟩ = (do Pure.pure (Next.value (← Instr.build t (parts.toArray.map fun (i, x) => (i, ev fr x))))) := rfl
    rw [this]
    have e : (parts.toArray.map fun (i, x) => (i, ev fr x)) = (parts.map fun p => (p.1, ev fr p.2)).toArray := by simp
    rw [e]
    simp [h]) k
end
end Go.SL
