/- The system in memory; its small functions. No condition. -/
import Derived.Test.YtlhnmbajbhaaoaaIdIdM
import Derived.Test.YtlhnmbajbhaaoaaSL3
namespace Go.Proofs.Ytlhnmbajbhaaoaa
open Go Go.SL
set_option linter.unusedSimpArgs false
set_option linter.unusedVariables false
set_option maxRecDepth 10000
set_option maxHeartbeats 1000000
def mcC (m : Mc) : List Value := [.int .i64 m.a, .int .i64 m.p, .int .i64 m.g, .int .i64 m.b]
def mcs : List Mc → List Value
  | [] => []
  | m :: l => mcC m ++ mcs l
theorem mcs_len (l : List Mc) : (mcs l).length = l.length * 4 := by
  induction l with
  | nil => rfl
  | cons m l ih => simp only [mcs, mcC, List.length_append, List.length_cons, List.length_nil, ih]; omega
theorem mcs_one : ∀ l : List Mc, (mcs l).all Value.oneCell' = true
  | [] => rfl
  | m :: l => by simp [mcs, mcC, mcs_one l, Value.oneCell']
theorem mcs_app (a b : List Mc) : mcs (a ++ b) = mcs a ++ mcs b := by
  induction a with
  | nil => rfl
  | cons r a ih => simp only [List.cons_append, mcs, ih, List.append_assoc]
theorem mcs_split {l : List Mc} {k : Nat} (h : k < l.length) : mcs l = mcs (l.take k) ++ (mcC l[k] ++ mcs (l.drop (k + 1))) := by
  have e : l = l.take k ++ l[k] :: l.drop (k + 1) := by rw [← List.drop_eq_getElem_cons h, List.take_append_drop]
  conv => lhs; rw [e]
  rw [mcs_app]; rfl
theorem mcs_modify {l : List Mc} {k : Nat} (h : k < l.length) (f : Mc → Mc) : mcs (l.modify k f) = mcs (l.take k) ++ (mcC (f l[k]) ++ mcs (l.drop (k + 1))) := by
  have e : l.modify k f = l.take k ++ f l[k] :: l.drop (k + 1) := by
    apply List.ext_getElem
    · simp; omega
    · intro i h1 h2
      rw [List.getElem_modify]
      by_cases hi : i < k
      · rw [if_neg (by omega), List.getElem_append_left (by simp; omega)]
        simp
      · rw [List.getElem_append_right (by simp; omega)]
        simp only [List.length_take, Nat.min_eq_left (Nat.le_of_lt h)]
        by_cases hk : k = i
        · subst hk; simp
        · rw [if_neg hk, List.getElem_cons, dif_neg (by omega)]
          simp only [List.getElem_drop]
          congr 1
          omega
  rw [e, mcs_app]; rfl
theorem mcs_at {l : List Mc} {k j : Nat} (h : k < l.length) (hj : j < 4) (sp : List Value) : (mcs l ++ sp)[k * 4 + j]? = (mcC l[k])[j]? := by
  have hl : (mcs (l.take k)).length = k * 4 := by rw [mcs_len, List.length_take]; omega
  rw [mcs_split h, List.append_assoc, List.getElem?_append_right (by omega), hl, Nat.add_sub_cancel_left, List.append_assoc, List.getElem?_append_left (by simpa [mcC] using hj)]
theorem mcs_set3 {l : List Mc} {k : Nat} (h : k < l.length) (sp : List Value) (a p g : Int) : (mcs l ++ sp).take (k * 4) ++ [.int .i64 a, .int .i64 p, .int .i64 g] ++ (mcs l ++ sp).drop (k * 4 + 3) = mcs (l.modify k fun x => { x with a := a, p := p, g := g }) ++ sp := by
  have hl : (mcs (l.take k)).length = k * 4 := by rw [mcs_len, List.length_take]; omega
  rw [mcs_modify h, mcs_split h, List.append_assoc (mcs (l.take k)) (mcC l[k] ++ mcs (l.drop (k + 1))) sp, List.take_left' hl, ← List.drop_drop, List.drop_left' hl]
  simp [mcC]
theorem mcs_setP {l : List Mc} {k : Nat} (h : k < l.length) (sp : List Value) (p : Int) : (mcs l ++ sp).set (k * 4 + 1) (.int .i64 p) = mcs (l.modify k fun x => { x with p := p }) ++ sp := by
  have hl : (mcs (l.take k)).length = k * 4 := by rw [mcs_len, List.length_take]; omega
  rw [mcs_modify h, mcs_split h, List.append_assoc, List.set_append_right _ _ (by omega), hl, Nat.add_sub_cancel_left, List.append_assoc]
  simp [mcC]
theorem mcs_setB {l : List Mc} {k : Nat} (h : k < l.length) (sp : List Value) (p : Int) : (mcs l ++ sp).set (k * 4 + 3) (.int .i64 p) = mcs (l.modify k fun x => { x with b := p }) ++ sp := by
  have hl : (mcs (l.take k)).length = k * 4 := by rw [mcs_len, List.length_take]; omega
  rw [mcs_modify h, mcs_split h, List.append_assoc, List.set_append_right _ _ (by omega), hl, Nat.add_sub_cancel_left, List.append_assoc]
  simp [mcC]
/-- The system, and where its parts lie. -/
structure IdL where
  I : Ide
  q : Nat
  s : Nat
  bm : Nat
  cm : Nat
  sm : List Value
  bp : Nat
  cp : Nat
  sp : List Value
abbrev ideC (L : IdL) : List Value := [.int .i64 L.I.c.n, .int .i64 L.I.c.q, .int .i64 L.I.c.g, .int .i64 L.I.c.m, .int .i64 L.I.c.t, .int .i64 L.I.c.s, ptr L.q, ptr L.s,
  .slice (some ⟨L.bm, 0, none⟩) L.I.ms.length L.cm, .slice (some ⟨L.bp, 0, none⟩) L.I.ps.length L.cp, .int .i64 L.I.many]
def IdeAt (x : Nat) (L : IdL) : HProp := blk x (ideC L) 56 + (blk L.bm (mcs L.I.ms ++ L.sm) 61 + (blk L.bp (zs L.I.ps ++ L.sp) 3 + (TabAt L.q L.I.tab + SemAt L.s L.I.sem)))
theorem ide_open {x : Nat} {L : IdL} {F : HProp} : IdeAt x L + F = blk x (ideC L) 56 + (blk L.bm (mcs L.I.ms ++ L.sm) 61 + (blk L.bp (zs L.I.ps ++ L.sp) 3 + (TabAt L.q L.I.tab + (SemAt L.s L.I.sem + F)))) := by
  unfold IdeAt; simp only [HProp.add_assoc]
abbrev IdL.put (L : IdL) (J : Ide) : IdL := { L with I := J }
abbrev stS (a p g : Int) : List Sc := [.int .i64 a, .int .i64 p, .int .i64 g]
attribute [local irreducible] WP WPL QSeq QBlk QRet Does Cell Cells Rd Mine Ent Aside RV Yield TabAt SemAt
section
variable {B : World} {H F G : HProp} {x : Nat} {L : IdL} {n : Nt} {m p a g : Int} {k j : Nat}
theorem mAt_of (h : 0 ≤ m ∧ m < L.I.ms.length) : ∃ (k : Nat) (hk : k < L.I.ms.length), m = (k : Int) ∧ L.I.mAt m = L.I.ms[k] := by
  refine ⟨m.toNat, by omega, by omega, ?_⟩
  unfold Ide.mAt
  rw [List.getElem?_eq_getElem (by omega)]
  rfl
theorem pAt_of (h : 0 ≤ p ∧ p < L.I.ps.length) : ∃ (k : Nat) (hk : k < L.I.ps.length), p = (k : Int) ∧ L.I.pAt p = L.I.ps[k] := by
  refine ⟨p.toNat, by omega, by omega, ?_⟩
  unfold Ide.pAt
  rw [List.getElem?_eq_getElem (by omega)]
  rfl
theorem m_cell (hk : k < L.I.ms.length) {v : Value} (hj : j < 4) (hv : (mcC L.I.ms[k])[j]? = some v) : Cell B (blk L.bm (mcs L.I.ms ++ L.sm) 61) L.bm (k * 4 + j) v := by
  rw [← HProp.add_emp (blk L.bm (mcs L.I.ms ++ L.sm) 61)]
  exact Cell.blk (by rw [mcs_at hk hj, hv])
theorem m_cells (hk : k < L.I.ms.length) : Cells B (blk L.bm (mcs L.I.ms ++ L.sm) 61) L.bm (k * 4) [.int .i64 L.I.ms[k].a, .int .i64 L.I.ms[k].p, .int .i64 L.I.ms[k].g] := by
  rw [← HProp.add_emp (blk L.bm (mcs L.I.ms ++ L.sm) 61)]
  refine Cells.blk fun j v hj => ?_
  match j, hj with
  | 0, hj => rw [mcs_at hk (by omega)]; exact hj
  | 1, hj => rw [mcs_at hk (by omega)]; exact hj
  | 2, hj => rw [mcs_at hk (by omega)]; exact hj
theorem p_cell (hk : k < L.I.ps.length) : Cell B (blk L.bp (zs L.I.ps ++ L.sp) 3) L.bp k (.int .i64 L.I.ps[k]) := by
  rw [← HProp.add_emp (blk L.bp (zs L.I.ps ++ L.sp) 3)]
  exact Cell.blk (by rw [List.getElem?_append_left (by rw [zs_length]; omega), zs_get _ _ hk])
theorem iRuns [i : HasAt IdeAt H x L F] (hm : 0 ≤ n.m ∧ n.m < L.I.ms.length) : Does Try.prog B 36 [ptr x, noteV n] H fun r H' => H' = H ∧ r = .bool (runsB L.I n) := by
  obtain ⟨k, hk, hm, hA⟩ := mAt_of hm
  unfold runsB
  rw [hA]
  have cs := m_cells (B := B) hk
  rw [i.eq, ide_open]
  refine Does.frame0 ?_
  refine fn_intro 20 Try.func36 rfl rfl rfl ?_
  refine walk ?_
  refine s_box (cs := nv n) rfl rfl rfl ?_
  intro b
  refine walk ?_
  (refine wp_draw [] (.look 0 (.look 1 (.look 2 (.look 3 (.look 4 (.look 5 (.look 6 (.look 7 (.look 8 (.look 9 (.look 10 (.look 11 (.look 12 (.look 13 (.look 14 (.look 15 .nil)))))))))))))))) (by kernel_rfl) ?_; (apply dw_pure; (· exact rfl); (· exact rfl); (· (intro G; exact looked))); (apply dw_pure; (· exact rfl); (· exact rfl); (· (intro G; exact looked))); (apply dw_pure; (· exact rfl); (· exact rfl); (· (intro G; exact looked))); (apply dw_look; (· exact rfl); (· exact rfl); (· (exact looked))); (apply dw_pure; (· exact rfl); (· exact rfl); (· (intro G; exact looked))); (apply dw_look; (· exact rfl); (· exact rfl); (· (exact looked))); (apply dw_pure; (· exact rfl); (· exact rfl); (· (intro G; (apply s_indexAddr (j := k) (o' := k * 4); (· exact rfl); (· exact rfl); (· omega); (· omega); (· omega); (· exact rfl)); exact looked))); (apply dw_pure; (· exact rfl); (· exact rfl); (· (intro G; exact looked))); (apply dw_look; (· exact rfl); (· exact rfl); (· (exact looked))); (apply dw_pure; (· exact rfl); (· exact rfl); (· (intro G; exact looked))); (apply dw_look; (· exact rfl); (· exact rfl); (· (exact looked))); (apply dw_pure; (· exact rfl); (· exact rfl); (· (intro G; exact looked))); (apply dw_look; (· exact rfl); (· exact rfl); (· (exact looked))); (apply dw_pure; (· exact rfl); (· exact rfl); (· (intro G; (refine s_build (cs := [.int .i64 2, .int .i64 n.p, .int .i64 n.g]) ?_ rfl ?_; (· kernel_rfl)); exact looked))); (apply dw_pure; (· exact rfl); (· exact rfl); (· (intro G; refine s_eqlF (stS L.I.ms[k].a L.I.ms[k].p L.I.ms[k].g) (stS 2 n.p n.g) (b := decide (L.I.ms[k].a = 2 ∧ L.I.ms[k].p = n.p ∧ L.I.ms[k].g = n.g)) rfl rfl rfl rfl (by simp) rfl ?_; exact looked))); (apply dw_pure; (· exact rfl); (· exact rfl); (· (intro G; exact looked))); refine dw_nil ?_)
  refine walk ?_
  (first | (apply retRD1 (G := (blk x (ideC L) 56 + (blk L.bm (mcs L.I.ms ++ L.sm) 61 + (blk L.bp (zs L.I.ps ++ L.sp) 3 + (TabAt L.q L.I.tab + (SemAt L.s L.I.sem + F)))))) (.inr rfl) rfl; (· first | (refine rv_tmp (v := .bool _) rfl) | exact rv_tmp rfl); (· exact Ent.auto)) | (apply retRD1 (G := (blk x (ideC L) 56 + (blk L.bm (mcs L.I.ms ++ L.sm) 61 + (blk L.bp (zs L.I.ps ++ L.sp) 3 + (TabAt L.q L.I.tab + (SemAt L.s L.I.sem + F)))))) (.inl rfl) rfl; (· first | (refine rv_tmp (v := .bool _) rfl) | exact rv_tmp rfl); (· exact Ent.auto)))
  exact ⟨Ent.refl _, rfl⟩
end
end Go.Proofs.Ytlhnmbajbhaaoaa
