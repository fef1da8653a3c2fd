/- append, where what lay there may still be looked at. No condition. -/
import Derived.Test.YtofgpppnknpblaaDoorSLKit
set_option linter.unusedSimpArgs false
set_option linter.unusedVariables false
namespace Go.SL
open Go Go.RowKit
section
variable {ro : Option Nat} {P : Program} {B : World} {n : Nat} {ops : Array Oper} {rest : List Oper} {fr : Fr} {H : HProp} {Q : Post}
variable {d : Nat} {ty : TypeId} {pos : String} {after : Array Edge}
/-- append: a slice of one's own, and a slice that can be read beside it. -/
theorem append_runK {t e : TypeId} {sz by' : Nat} {z : List Value} [i : SliceOf P t e sz by' z] {w : World} {F : HProp} {v : Value} {k m : Nat} {cs news : List Value} {x : Value} (hsz : 0 < sz)
    (hw : Holds B (Mine e sz v k cs + F) w) (hx : Rd B F sz x m news) (h1 : news.all Value.oneCell' = true) (hb : (k + m) * by' ≤ 140737488355328) (h63 : k + m ≤ maxLen) :
    ∃ v' w' X, (Builtin.append_ #[t, t] ty #[v, x]).run P w = .ok v' w' ∧ Ent (Mine e sz v' (k + m) (cs ++ news) + X) (Mine e sz v k cs) ∧ Holds B (Mine e sz v' (k + m) (cs ++ news) + (X + F)) w' := by
  obtain ⟨hu, inf, zv, hi, hs, hby, hz, hzc, hzl⟩ := i.eq
  subst hs hby
  obtain ⟨ao, xcap, rfl, hnl, hmm, hxc⟩ := hx
  have hwF : Holds B F w := hw.drop_left
  have h63' : k + m ≤ 9223372036854775807 := by simp only [maxLen] at h63; omega
  have h1' : ∀ u ∈ news, u.oneCell' = true := by simpa using h1
  obtain ⟨hcl, hO⟩ := Mine.open hw
  by_cases hm : m = 0
  · subst hm
    have hn : news = [] := List.eq_nil_of_length_eq_zero (by simpa using hnl)
    subst hn
    refine ⟨v, w, emp, ?_, by rw [HProp.add_emp]; simpa using Ent.refl _, by rw [HProp.emp_add]; simpa using hw⟩
    have hld : ∀ a : Addr, (loadCells a 0).run P w = .ok #[] w := fun a => rfl
    rcases hO with ⟨rfl, rfl, _⟩ | ⟨g, cap, sp, rfl, h2, h3, h4, h5⟩
    · cases ao <;> simp [Builtin.append_, run_underlying hu, sizeOf, typeInfo, hi, Builtin.lenOf, Builtin.firstCells, hld]
    · cases ao <;> simp [Builtin.append_, run_underlying hu, sizeOf, typeInfo, hi, Builtin.lenOf, Builtin.firstCells, hld, h2, storeCells]
  · obtain ⟨b, o, rfl, hcx⟩ : ∃ b o, ao = some ⟨b, o, none⟩ ∧ Cells B F b o news := by
      rcases hxc with h | h
      · rw [h] at hnl
        have h0 : m * inf.size = 0 := by simpa using hnl.symm
        rcases Nat.mul_eq_zero.1 h0 with h' | h'
        · exact absurd h' hm
        · omega
      · exact h
    have hnews : ∀ j u, news[j]? = some u → w.cell? ((⟨b, o, none⟩ : Addr).add j) = some u := fun j u hj => by rw [addr_add]; exact hcx w hwF j u hj
    have hzsz : zv.cells.size = inf.size := by rw [hzc]; simpa using hzl
    -- what is laid anew
    have fresh : ∀ (sp : List Value) (cap : Nat), k + m ≤ cap → cap ≤ maxLen → (cs ++ news ++ sp).length = cap * inf.size → ∀ (G : HProp) (w0 : World), Holds B G w0 → w0.heap.size = w.heap.size →
        Holds B (Mine e inf.size (.slice (some ⟨w.heap.size, 0, none⟩) (k + m) cap) (k + m) (cs ++ news) + G) (w0.alloc (.cells (cs ++ news ++ sp).toArray e)) := by
      intro sp cap hc1 hc2 hl G w0 hF hsz0
      have := blk_new hF (cs ++ news ++ sp) e
      rw [hsz0] at this
      refine this.ent ((Mine.of_blk (cs := cs ++ news) (spare := sp) rfl ?_ hc1 hc2 hl).frame_right G)
      simp [hcl, hnl, Nat.add_mul]
    rcases hO with ⟨rfl, rfl, hF⟩ | ⟨g, cap, sp, rfl, h2, h3, h4, h5⟩
    · have hcs : cs = [] := List.eq_nil_of_length_eq_zero (by simpa using hcl)
      subst hcs
      have hr := run_append_nil (P := P) w t ty e inf zv hu hi hz ⟨b, o, none⟩ m xcap news hnl hnews (by omega) (by omega) (by simp only [Nat.zero_add] at hb; omega)
      refine ⟨_, _, emp, hr, by rw [Mine.nil]; exact Ent.drop_left _ _, ?_⟩
      rw [HProp.emp_add]
      have hge := grownCap_ge w m 0 e
      have hcm := grownCap_le_maxLen w m 0 e (by simp only [maxLen]; omega)
      have := fresh (Builtin.zeroCells zv.cells (grownCap w m 0 e - m)).toList (grownCap w m 0 e) (by omega) hcm (by
        simp only [List.nil_append, List.length_append, hnl, Array.length_toList, size_zeroCells, hzsz, ← Nat.add_mul]
        congr 1; omega) F w.drew hF.drew rfl
      have ea : (news.toArray ++ Builtin.zeroCells zv.cells (grownCap w m 0 e - m)) = (news ++ (Builtin.zeroCells zv.cells (grownCap w m 0 e - m)).toList).toArray := by
        apply Array.ext'; simp
      rw [ea]
      simpa using this
    · by_cases hroom : k + m ≤ cap
      · have hall : (cs ++ sp).length = cap * inf.size := h4
        have hfit : k * inf.size + news.length ≤ (cs ++ sp).toArray.size := by
          simp only [List.size_toArray, hall, hnl, ← Nat.add_mul]; exact Nat.mul_le_mul_right _ hroom
        have hr := run_append_room (P := P) w t ty e inf hu hi g k cap (cs ++ sp).toArray h5.obj.1 ⟨b, o, none⟩ m xcap news hnl hnews h1' hroom hfit
        refine ⟨_, _, emp, hr, ?_, ?_⟩
        · rw [HProp.add_emp]
          have := Mine.cut (e := e) (sz := inf.size) (k := k + m) (m := k) (cap := cap) (ao := some ⟨g, 0, none⟩) (cs := cs ++ news) (by omega)
          rw [List.take_left' hcl] at this
          exact this
        rw [HProp.emp_add]
        have hrow : (((cs ++ sp).toArray.toList.take (k * inf.size) ++ news ++ (cs ++ sp).toArray.toList.drop (k * inf.size + news.length)).toArray) = (cs ++ news ++ sp.drop news.length).toArray := by
          apply congrArg List.toArray
          simp only [← hcl, List.take_left, List.drop_append]
          simp
        rw [hrow]
        have hup : Holds B (blk g (cs ++ news ++ sp.drop news.length) e + F) (w.setRow g (cs ++ news ++ sp.drop news.length).toArray) :=
          Holds.upd (o' := .cells (cs ++ news ++ sp.drop news.length).toArray e (0, 0)) h5 rfl rfl rfl (by simp) (setRow_heap w g _ _ e (0, 0) h5.obj.1) fun j hj => setRow_other w g j _ hj
        refine hup.ent ((Mine.of_blk (cs := cs ++ news) (spare := sp.drop news.length) rfl (by simp [hcl, hnl, Nat.add_mul]) hroom h3 ?_).frame_right F)
        have : news.length ≤ sp.length := by
          simp only [List.size_toArray, List.length_append, hcl] at hfit; omega
        simp only [List.length_append, List.length_drop] at hall ⊢
        omega
      · have holds : ∀ j u, cs[j]? = some u → w.cell? ((⟨g, 0, none⟩ : Addr).add j) = some u := fun j u hj => by
          rw [addr_add, Nat.zero_add]
          exact blk_cell h5 (by rw [List.getElem?_append_left (by have := (List.getElem?_eq_some_iff.1 hj).1; omega)]; exact hj)
        have hr := run_append_grow (P := P) w t ty e inf zv hu hi hz ⟨g, 0, none⟩ k cap cs hcl holds ⟨b, o, none⟩ m xcap news hnl hnews (by omega) (by omega) (growslice_fits (by omega) hb)
        refine ⟨_, _, blk g (cs ++ sp) e, hr, (Ent.drop_left _ _).trans (Mine.of_blk (cs := cs) (spare := sp) rfl hcl h2 h3 h4), ?_⟩
        have hge := grownCap_ge w (k + m) cap e
        have hcm := grownCap_le_maxLen w (k + m) cap e (by simp only [maxLen]; omega)
        have := fresh (Builtin.zeroCells zv.cells (grownCap w (k + m) cap e - (k + m))).toList (grownCap w (k + m) cap e) hge hcm (by
          simp only [List.length_append, hnl, hcl, Array.length_toList, size_zeroCells, hzsz, ← Nat.add_mul]
          congr 1; omega) (blk g (cs ++ sp) e + F) w.drew (h5.drew) rfl
        have ea : (cs.toArray ++ news.toArray ++ Builtin.zeroCells zv.cells (grownCap w (k + m) cap e - (k + m))) = (cs ++ news ++ (Builtin.zeroCells zv.cells (grownCap w (k + m) cap e - (k + m))).toList).toArray := by
          apply Array.ext'; simp
        rw [ea]
        exact this
theorem s_appendK {t e : TypeId} {sz by' : Nat} {z : List Value} [i : SliceOf P t e sz by' z] {x y : Operand} {F : HProp} {v u : Value} {k m : Nat} {cs news : List Value}
    (hx : ev fr x = v) (hy : ev fr y = u) [s : HasOwn H v e sz k cs F] (hu : Rd B F sz u m news) (h1 : news.all Value.oneCell' = true) (hsz : Nat.blt 0 sz = true)
    (hb : (k + m) * by' ≤ 140737488355328 ∧ k + m ≤ maxLen) (hd : Nat.blt d n = true)
    (kk : ∀ v' X, Ent (Mine e sz v' (k + m) (cs ++ news) + X) (Mine e sz v k cs) → WPL ro P B n ops rest (fr.put d v') (Mine e sz v' (k + m) (cs ++ news) + (X + F)) Q) :
    WPL ro P B n ops (⟨some d, .call ⟨.builtin .append, #[x, y], #[t, t]⟩, ty, pos, after, none⟩ :: rest) fr H Q := step_val hd fun w hw => by
  have hw' : Holds B (Mine e sz v k cs + F) w := by rw [← s.eq]; exact hw
  obtain ⟨v', w', X, hr, he, hh⟩ := append_runK (P := P) (t := t) (ty := ty) (by simpa [Nat.blt_eq] using hsz) hw' hu h1 hb.1 hb.2
  exact ⟨v', w', _, by simp [execOp, resolve, invoke, builtin, hx, hy, hr], hh, kk v' X he⟩
end
end Go.SL
