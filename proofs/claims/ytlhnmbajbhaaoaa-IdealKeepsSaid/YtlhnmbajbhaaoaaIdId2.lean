/- The system in memory; its small functions, the others. No condition. -/
import Derived.Test.YtlhnmbajbhaaoaaIdId1
namespace Go.Proofs.Ytlhnmbajbhaaoaa
open Go Go.SL
set_option linter.unusedSimpArgs false
set_option linter.unusedVariables false
set_option maxRecDepth 10000
set_option maxHeartbeats 1000000
attribute [local irreducible] WP WPL QSeq QBlk QRet Does Cell Cells Rd Mine Ent Aside RV Yield TabAt SemAt
section
variable {B : World} {H F G : HProp} {x : Nat} {L : IdL} {n : Nt} {m p a g : Int} {k j : Nat}
theorem iSearches [i : HasAt IdeAt H x L F] (hm : 0 ≤ n.m ∧ n.m < L.I.ms.length) : Does Try.prog B 43 [ptr x, noteV n] H fun r H' => H' = H ∧ r = .bool (searchesB L.I n) := by
  obtain ⟨k, hk, hm, hA⟩ := mAt_of hm
  unfold searchesB
  rw [hA]
  have cs := m_cells (B := B) hk
  rw [i.eq, ide_open]
  refine Does.frame0 ?_
  refine fn_intro 18 Try.func43 rfl rfl rfl ?_
  refine walk ?_
  refine s_box (cs := nv n) rfl rfl rfl ?_
  intro b
  refine walk ?_
  (refine wp_draw [] (.look 0 (.look 1 (.look 2 (.look 3 (.look 4 (.look 5 (.look 6 (.look 7 (.look 8 (.look 9 (.look 10 (.look 11 (.look 12 (.look 13 .nil)))))))))))))) (by kernel_rfl) ?_; (apply dw_pure; (· exact rfl); (· exact rfl); (· (intro G; exact looked))); (apply dw_pure; (· exact rfl); (· exact rfl); (· (intro G; exact looked))); (apply dw_pure; (· exact rfl); (· exact rfl); (· (intro G; exact looked))); (apply dw_look; (· exact rfl); (· exact rfl); (· (exact looked))); (apply dw_pure; (· exact rfl); (· exact rfl); (· (intro G; exact looked))); (apply dw_look; (· exact rfl); (· exact rfl); (· (exact looked))); (apply dw_pure; (· exact rfl); (· exact rfl); (· (intro G; (apply s_indexAddr (j := k) (o' := k * 4); (· exact rfl); (· exact rfl); (· omega); (· omega); (· omega); (· exact rfl)); exact looked))); (apply dw_pure; (· exact rfl); (· exact rfl); (· (intro G; exact looked))); (apply dw_look; (· exact rfl); (· exact rfl); (· (exact looked))); (apply dw_pure; (· exact rfl); (· exact rfl); (· (intro G; exact looked))); (apply dw_look; (· exact rfl); (· exact rfl); (· (exact looked))); (apply dw_pure; (· exact rfl); (· exact rfl); (· (intro G; (refine s_build (cs := [.int .i64 1, .int .i64 n.p, .int .i64 (-1)]) ?_ rfl ?_; (· kernel_rfl)); exact looked))); (apply dw_pure; (· exact rfl); (· exact rfl); (· (intro G; refine s_eqlF (stS L.I.ms[k].a L.I.ms[k].p L.I.ms[k].g) (stS 1 n.p (-1)) (b := decide (L.I.ms[k].a = 1 ∧ L.I.ms[k].p = n.p ∧ L.I.ms[k].g = -1)) rfl rfl rfl rfl (by simp) rfl ?_; exact looked))); (apply dw_pure; (· exact rfl); (· exact rfl); (· (intro G; exact looked))); refine dw_nil ?_)
  refine walk ?_
  (first | (apply retRD1 (G := (blk x (ideC L) 56 + (blk L.bm (mcs L.I.ms ++ L.sm) 61 + (blk L.bp (zs L.I.ps ++ L.sp) 3 + (TabAt L.q L.I.tab + (SemAt L.s L.I.sem + F)))))) (.inr rfl) rfl; (· first | (refine rv_tmp (v := .bool _) rfl) | exact rv_tmp rfl); (· exact Ent.auto)) | (apply retRD1 (G := (blk x (ideC L) 56 + (blk L.bm (mcs L.I.ms ++ L.sm) 61 + (blk L.bp (zs L.I.ps ++ L.sp) 3 + (TabAt L.q L.I.tab + (SemAt L.s L.I.sem + F)))))) (.inl rfl) rfl; (· first | (refine rv_tmp (v := .bool _) rfl) | exact rv_tmp rfl); (· exact Ent.auto)))
  exact ⟨Ent.refl _, rfl⟩
theorem iCalls [i : HasAt IdeAt H x L F] (hm : 0 ≤ n.m ∧ n.m < L.I.ms.length) : Does Try.prog B 63 [ptr x, noteV n] H fun r H' => H' = H ∧ r = .bool (callsB L.I n) := by
  obtain ⟨k, hk, hm, hA⟩ := mAt_of hm
  unfold callsB
  rw [hA]
  have c0 := m_cell (B := B) hk (j := 0) (by omega) rfl
  have c2 := m_cell (B := B) hk (j := 2) (by omega) rfl
  rw [i.eq, ide_open]
  refine Does.frame0 ?_
  by_cases h3 : L.I.ms[k].a = 3
  · by_cases h2 : L.I.ms[k].g = n.g
    · rw [decide_eq_true h3, decide_eq_true h2]
      refine fn_intro 31 Try.func63 rfl rfl rfl ?_
      refine walk ?_
      refine s_box (cs := nv n) rfl rfl rfl ?_
      intro b
      refine walk ?_
      (refine wp_draw [] (.look 0 (.look 1 (.look 2 (.look 3 (.look 4 (.look 5 (.look 6 (.look 7 (.look 8 (.look 9 (.look 10 (.look 11 (.look 12 (.look 13 (.look 14 (.look 15 (.look 16 (.look 17 (.look 18 (.look 19 (.look 20 (.look 21 (.look 22 (.look 23 (.look 24 (.look 25 (.look 26 .nil))))))))))))))))))))))))))) (by kernel_rfl) ?_; (apply dw_pure; (· exact rfl); (· exact rfl); (· (intro G; exact looked))); (apply dw_pure; (· exact rfl); (· exact rfl); (· (intro G; exact looked))); (apply dw_pure; (· exact rfl); (· exact rfl); (· (intro G; exact looked))); (apply dw_look; (· exact rfl); (· exact rfl); (· (exact looked))); (apply dw_pure; (· exact rfl); (· exact rfl); (· (intro G; exact looked))); (apply dw_look; (· exact rfl); (· exact rfl); (· (exact looked))); (apply dw_pure; (· exact rfl); (· exact rfl); (· (intro G; (apply s_indexAddr (j := k) (o' := k * 4); (· exact rfl); (· exact rfl); (· omega); (· omega); (· omega); (· exact rfl)); exact looked))); (apply dw_pure; (· exact rfl); (· exact rfl); (· (intro G; exact looked))); (apply dw_pure; (· exact rfl); (· exact rfl); (· (intro G; exact looked))); (apply dw_look; (· exact rfl); (· exact rfl); (· (exact looked))); (apply dw_pure; (· exact rfl); (· exact rfl); (· (intro G; exact looked))); (apply dw_pure; (· exact rfl); (· exact rfl); (· (intro G; exact looked))); (apply dw_pure; (· exact rfl); (· exact rfl); (· (intro G; exact looked))); (apply dw_pure; (· exact rfl); (· exact rfl); (· (intro G; exact looked))); (apply dw_pure; (· exact rfl); (· exact rfl); (· (intro G; exact looked))); (apply dw_look; (· exact rfl); (· exact rfl); (· (exact looked))); (apply dw_pure; (· exact rfl); (· exact rfl); (· (intro G; exact looked))); (apply dw_look; (· exact rfl); (· exact rfl); (· (exact looked))); (apply dw_pure; (· exact rfl); (· exact rfl); (· (intro G; (first | (refine step_wanted rfl rfl ?_; (apply s_indexAddr (j := k) (o' := k * 4); (· exact rfl); (· exact rfl); (· omega); (· omega); (· omega); (· exact rfl))) | skip); exact looked))); (apply dw_pure; (· exact rfl); (· exact rfl); (· (intro G; exact looked))); (apply dw_pure; (· exact rfl); (· exact rfl); (· (intro G; exact looked))); (apply dw_look; (· exact rfl); (· exact rfl); (· (exact looked))); (apply dw_pure; (· exact rfl); (· exact rfl); (· (intro G; exact looked))); (apply dw_look; (· exact rfl); (· exact rfl); (· (exact looked))); (apply dw_pure; (· exact rfl); (· exact rfl); (· (intro G; exact looked))); (apply dw_pure; (· exact rfl); (· exact rfl); (· (intro G; exact looked))); (apply dw_pure; (· exact rfl); (· exact rfl); (· (intro G; exact looked))); refine dw_nil ?_)
      refine walk ?_
      (first | (apply retRD1 (G := (blk x (ideC L) 56 + (blk L.bm (mcs L.I.ms ++ L.sm) 61 + (blk L.bp (zs L.I.ps ++ L.sp) 3 + (TabAt L.q L.I.tab + (SemAt L.s L.I.sem + F)))))) (.inr rfl) rfl; (· first | (refine rv_tmp (v := .bool _) rfl) | exact rv_tmp rfl); (· exact Ent.auto)) | (apply retRD1 (G := (blk x (ideC L) 56 + (blk L.bm (mcs L.I.ms ++ L.sm) 61 + (blk L.bp (zs L.I.ps ++ L.sp) 3 + (TabAt L.q L.I.tab + (SemAt L.s L.I.sem + F)))))) (.inl rfl) rfl; (· first | (refine rv_tmp (v := .bool _) rfl) | exact rv_tmp rfl); (· exact Ent.auto)))
      exact ⟨Ent.refl _, rfl⟩
    · rw [decide_eq_true h3, decide_eq_false h2]
      refine fn_intro 31 Try.func63 rfl rfl rfl ?_
      refine walk ?_
      refine s_box (cs := nv n) rfl rfl rfl ?_
      intro b
      refine walk ?_
      (refine wp_draw [] (.look 0 (.look 1 (.look 2 (.look 3 (.look 4 (.look 5 (.look 6 (.look 7 (.look 8 (.look 9 (.look 10 (.look 11 (.look 12 (.look 13 (.look 14 (.look 15 (.look 16 (.look 17 (.look 18 (.look 19 (.look 20 (.look 21 (.look 22 (.look 23 (.look 24 (.look 25 (.look 26 .nil))))))))))))))))))))))))))) (by kernel_rfl) ?_; (apply dw_pure; (· exact rfl); (· exact rfl); (· (intro G; exact looked))); (apply dw_pure; (· exact rfl); (· exact rfl); (· (intro G; exact looked))); (apply dw_pure; (· exact rfl); (· exact rfl); (· (intro G; exact looked))); (apply dw_look; (· exact rfl); (· exact rfl); (· (exact looked))); (apply dw_pure; (· exact rfl); (· exact rfl); (· (intro G; exact looked))); (apply dw_look; (· exact rfl); (· exact rfl); (· (exact looked))); (apply dw_pure; (· exact rfl); (· exact rfl); (· (intro G; (apply s_indexAddr (j := k) (o' := k * 4); (· exact rfl); (· exact rfl); (· omega); (· omega); (· omega); (· exact rfl)); exact looked))); (apply dw_pure; (· exact rfl); (· exact rfl); (· (intro G; exact looked))); (apply dw_pure; (· exact rfl); (· exact rfl); (· (intro G; exact looked))); (apply dw_look; (· exact rfl); (· exact rfl); (· (exact looked))); (apply dw_pure; (· exact rfl); (· exact rfl); (· (intro G; exact looked))); (apply dw_pure; (· exact rfl); (· exact rfl); (· (intro G; exact looked))); (apply dw_pure; (· exact rfl); (· exact rfl); (· (intro G; exact looked))); (apply dw_pure; (· exact rfl); (· exact rfl); (· (intro G; exact looked))); (apply dw_pure; (· exact rfl); (· exact rfl); (· (intro G; exact looked))); (apply dw_look; (· exact rfl); (· exact rfl); (· (exact looked))); (apply dw_pure; (· exact rfl); (· exact rfl); (· (intro G; exact looked))); (apply dw_look; (· exact rfl); (· exact rfl); (· (exact looked))); (apply dw_pure; (· exact rfl); (· exact rfl); (· (intro G; (first | (refine step_wanted rfl rfl ?_; (apply s_indexAddr (j := k) (o' := k * 4); (· exact rfl); (· exact rfl); (· omega); (· omega); (· omega); (· exact rfl))) | skip); exact looked))); (apply dw_pure; (· exact rfl); (· exact rfl); (· (intro G; exact looked))); (apply dw_pure; (· exact rfl); (· exact rfl); (· (intro G; exact looked))); (apply dw_look; (· exact rfl); (· exact rfl); (· (exact looked))); (apply dw_pure; (· exact rfl); (· exact rfl); (· (intro G; exact looked))); (apply dw_look; (· exact rfl); (· exact rfl); (· (exact looked))); (apply dw_pure; (· exact rfl); (· exact rfl); (· (intro G; exact looked))); (apply dw_pure; (· exact rfl); (· exact rfl); (· (intro G; exact looked))); (apply dw_pure; (· exact rfl); (· exact rfl); (· (intro G; exact looked))); refine dw_nil ?_)
      refine walk ?_
      (first | (apply retRD1 (G := (blk x (ideC L) 56 + (blk L.bm (mcs L.I.ms ++ L.sm) 61 + (blk L.bp (zs L.I.ps ++ L.sp) 3 + (TabAt L.q L.I.tab + (SemAt L.s L.I.sem + F)))))) (.inr rfl) rfl; (· first | (refine rv_tmp (v := .bool _) rfl) | exact rv_tmp rfl); (· exact Ent.auto)) | (apply retRD1 (G := (blk x (ideC L) 56 + (blk L.bm (mcs L.I.ms ++ L.sm) 61 + (blk L.bp (zs L.I.ps ++ L.sp) 3 + (TabAt L.q L.I.tab + (SemAt L.s L.I.sem + F)))))) (.inl rfl) rfl; (· first | (refine rv_tmp (v := .bool _) rfl) | exact rv_tmp rfl); (· exact Ent.auto)))
      exact ⟨Ent.refl _, rfl⟩
  · rw [decide_eq_false h3, Bool.false_and]
    refine fn_intro 31 Try.func63 rfl rfl rfl ?_
    refine walk ?_
    refine s_box (cs := nv n) rfl rfl rfl ?_
    intro b
    refine walk ?_
    (refine wp_draw [] (.look 0 (.look 1 (.look 2 (.look 3 (.look 4 (.look 5 (.look 6 (.look 7 (.look 8 (.look 9 (.look 10 (.look 11 (.look 12 (.look 13 (.look 14 (.look 15 (.look 16 (.look 17 (.look 18 (.look 19 (.look 20 (.look 21 (.look 22 (.look 23 (.look 24 (.look 25 (.look 26 .nil))))))))))))))))))))))))))) (by kernel_rfl) ?_; (apply dw_pure; (· exact rfl); (· exact rfl); (· (intro G; exact looked))); (apply dw_pure; (· exact rfl); (· exact rfl); (· (intro G; exact looked))); (apply dw_pure; (· exact rfl); (· exact rfl); (· (intro G; exact looked))); (apply dw_look; (· exact rfl); (· exact rfl); (· (exact looked))); (apply dw_pure; (· exact rfl); (· exact rfl); (· (intro G; exact looked))); (apply dw_look; (· exact rfl); (· exact rfl); (· (exact looked))); (apply dw_pure; (· exact rfl); (· exact rfl); (· (intro G; (apply s_indexAddr (j := k) (o' := k * 4); (· exact rfl); (· exact rfl); (· omega); (· omega); (· omega); (· exact rfl)); exact looked))); (apply dw_pure; (· exact rfl); (· exact rfl); (· (intro G; exact looked))); (apply dw_pure; (· exact rfl); (· exact rfl); (· (intro G; exact looked))); (apply dw_look; (· exact rfl); (· exact rfl); (· (exact looked))); (apply dw_pure; (· exact rfl); (· exact rfl); (· (intro G; exact looked))); (apply dw_pure; (· exact rfl); (· exact rfl); (· (intro G; exact looked))); (apply dw_pure; (· exact rfl); (· exact rfl); (· (intro G; exact looked))); (apply dw_pure; (· exact rfl); (· exact rfl); (· (intro G; exact looked))); (apply dw_pure; (· exact rfl); (· exact rfl); (· (intro G; exact looked))); (apply dw_look; (· exact rfl); (· exact rfl); (· (exact looked))); (apply dw_pure; (· exact rfl); (· exact rfl); (· (intro G; exact looked))); (apply dw_look; (· exact rfl); (· exact rfl); (· (exact looked))); (apply dw_pure; (· exact rfl); (· exact rfl); (· (intro G; (first | (refine step_wanted rfl rfl ?_; (apply s_indexAddr (j := k) (o' := k * 4); (· exact rfl); (· exact rfl); (· omega); (· omega); (· omega); (· exact rfl))) | skip); exact looked))); (apply dw_pure; (· exact rfl); (· exact rfl); (· (intro G; exact looked))); (apply dw_pure; (· exact rfl); (· exact rfl); (· (intro G; exact looked))); (apply dw_look; (· exact rfl); (· exact rfl); (· (exact looked))); (apply dw_pure; (· exact rfl); (· exact rfl); (· (intro G; exact looked))); (apply dw_look; (· exact rfl); (· exact rfl); (· (exact looked))); (apply dw_pure; (· exact rfl); (· exact rfl); (· (intro G; exact looked))); (apply dw_pure; (· exact rfl); (· exact rfl); (· (intro G; exact looked))); (apply dw_pure; (· exact rfl); (· exact rfl); (· (intro G; exact looked))); refine dw_nil ?_)
    refine walk ?_
    (first | (apply retRD1 (G := (blk x (ideC L) 56 + (blk L.bm (mcs L.I.ms ++ L.sm) 61 + (blk L.bp (zs L.I.ps ++ L.sp) 3 + (TabAt L.q L.I.tab + (SemAt L.s L.I.sem + F)))))) (.inr rfl) rfl; (· first | (refine rv_tmp (v := .bool _) rfl) | exact rv_tmp rfl); (· exact Ent.auto)) | (apply retRD1 (G := (blk x (ideC L) 56 + (blk L.bm (mcs L.I.ms ++ L.sm) 61 + (blk L.bp (zs L.I.ps ++ L.sp) 3 + (TabAt L.q L.I.tab + (SemAt L.s L.I.sem + F)))))) (.inl rfl) rfl; (· first | (refine rv_tmp (v := .bool _) rfl) | exact rv_tmp rfl); (· exact Ent.auto)))
    exact ⟨Ent.refl _, rfl⟩
theorem iKept [i : HasAt IdeAt H x L F] (hp : 0 ≤ p ∧ p < L.I.ps.length) (hv : L.I.pAt p < L.I.ms.length) : Does Try.prog B 70 [ptr x, .int .i64 p] H fun r H' => H' = H ∧ r = .bool (L.I.kept p) := by
  obtain ⟨kp, hkp, hp, hA⟩ := pAt_of hp
  unfold Ide.kept
  rw [hA] at hv ⊢
  have cp := p_cell (B := B) hkp
  rw [i.eq, ide_open]
  refine Does.frame0 ?_
  by_cases h0 : 0 ≤ L.I.ps[kp]
  · obtain ⟨k, hk, hm, hA⟩ := mAt_of (L := L) ⟨h0, hv⟩
    rw [hA]
    have c0 := m_cell (B := B) hk (j := 0) (by omega) rfl
    by_cases h3 : L.I.ms[k].a = 3
    · rw [decide_eq_true h0, decide_eq_true h3]
      refine fn_intro 31 Try.func70 rfl rfl rfl ?_
      refine walk ?_
      (refine wp_draw [] (.look 0 (.look 1 (.look 2 (.look 3 (.look 4 (.look 5 (.look 6 (.look 7 (.look 8 (.look 9 (.look 10 (.look 11 (.look 12 (.look 13 (.look 14 (.look 15 (.look 16 (.look 17 (.look 18 (.look 19 (.look 20 (.look 21 (.look 22 (.look 23 (.look 24 (.look 25 (.look 26 .nil))))))))))))))))))))))))))) (by kernel_rfl) ?_; (apply dw_pure; (· exact rfl); (· exact rfl); (· (intro G; exact looked))); (apply dw_pure; (· exact rfl); (· exact rfl); (· (intro G; exact looked))); (apply dw_pure; (· exact rfl); (· exact rfl); (· (intro G; exact looked))); (apply dw_look; (· exact rfl); (· exact rfl); (· (exact looked))); (apply dw_pure; (· exact rfl); (· exact rfl); (· (intro G; exact looked))); (apply dw_pure; (· exact rfl); (· exact rfl); (· (intro G; (apply s_indexAddr (j := kp) (o' := kp); (· exact rfl); (· exact rfl); (· omega); (· omega); (· omega); (· exact rfl)); exact looked))); (apply dw_look; (· exact rfl); (· exact rfl); (· (exact looked))); (apply dw_pure; (· exact rfl); (· exact rfl); (· (intro G; exact looked))); (apply dw_pure; (· exact rfl); (· exact rfl); (· (intro G; exact looked))); (apply dw_pure; (· exact rfl); (· exact rfl); (· (intro G; exact looked))); (apply dw_pure; (· exact rfl); (· exact rfl); (· (intro G; exact looked))); (apply dw_pure; (· exact rfl); (· exact rfl); (· (intro G; exact looked))); (apply dw_look; (· exact rfl); (· exact rfl); (· (exact looked))); (apply dw_pure; (· exact rfl); (· exact rfl); (· (intro G; exact looked))); (apply dw_pure; (· exact rfl); (· exact rfl); (· (intro G; exact looked))); (apply dw_pure; (· exact rfl); (· exact rfl); (· (intro G; exact looked))); (apply dw_look; (· exact rfl); (· exact rfl); (· (exact looked))); (apply dw_pure; (· exact rfl); (· exact rfl); (· (intro G; exact looked))); (apply dw_pure; (· exact rfl); (· exact rfl); (· (intro G; (first | (refine step_wanted rfl rfl ?_; (apply s_indexAddr (j := kp) (o' := kp); (· exact rfl); (· exact rfl); (· omega); (· omega); (· omega); (· exact rfl))) | skip); exact looked))); (apply dw_look; (· exact rfl); (· exact rfl); (· (exact looked))); (apply dw_pure; (· exact rfl); (· exact rfl); (· (intro G; (first | (refine step_wanted rfl rfl ?_; (apply s_indexAddr (j := k) (o' := k * 4); (· exact rfl); (· exact rfl); (· omega); (· omega); (· omega); (· exact rfl))) | skip); exact looked))); (apply dw_pure; (· exact rfl); (· exact rfl); (· (intro G; exact looked))); (apply dw_pure; (· exact rfl); (· exact rfl); (· (intro G; exact looked))); (apply dw_look; (· exact rfl); (· exact rfl); (· (exact looked))); (apply dw_pure; (· exact rfl); (· exact rfl); (· (intro G; exact looked))); (apply dw_pure; (· exact rfl); (· exact rfl); (· (intro G; exact looked))); (apply dw_pure; (· exact rfl); (· exact rfl); (· (intro G; exact looked))); refine dw_nil ?_)
      refine walk ?_
      (first | (apply retRD1 (G := (blk x (ideC L) 56 + (blk L.bm (mcs L.I.ms ++ L.sm) 61 + (blk L.bp (zs L.I.ps ++ L.sp) 3 + (TabAt L.q L.I.tab + (SemAt L.s L.I.sem + F)))))) (.inr rfl) rfl; (· first | (refine rv_tmp (v := .bool _) rfl) | exact rv_tmp rfl); (· exact Ent.auto)) | (apply retRD1 (G := (blk x (ideC L) 56 + (blk L.bm (mcs L.I.ms ++ L.sm) 61 + (blk L.bp (zs L.I.ps ++ L.sp) 3 + (TabAt L.q L.I.tab + (SemAt L.s L.I.sem + F)))))) (.inl rfl) rfl; (· first | (refine rv_tmp (v := .bool _) rfl) | exact rv_tmp rfl); (· exact Ent.auto)))
      exact ⟨Ent.refl _, rfl⟩
    · rw [decide_eq_true h0, decide_eq_false h3]
      refine fn_intro 31 Try.func70 rfl rfl rfl ?_
      refine walk ?_
      (refine wp_draw [] (.look 0 (.look 1 (.look 2 (.look 3 (.look 4 (.look 5 (.look 6 (.look 7 (.look 8 (.look 9 (.look 10 (.look 11 (.look 12 (.look 13 (.look 14 (.look 15 (.look 16 (.look 17 (.look 18 (.look 19 (.look 20 (.look 21 (.look 22 (.look 23 (.look 24 (.look 25 (.look 26 .nil))))))))))))))))))))))))))) (by kernel_rfl) ?_; (apply dw_pure; (· exact rfl); (· exact rfl); (· (intro G; exact looked))); (apply dw_pure; (· exact rfl); (· exact rfl); (· (intro G; exact looked))); (apply dw_pure; (· exact rfl); (· exact rfl); (· (intro G; exact looked))); (apply dw_look; (· exact rfl); (· exact rfl); (· (exact looked))); (apply dw_pure; (· exact rfl); (· exact rfl); (· (intro G; exact looked))); (apply dw_pure; (· exact rfl); (· exact rfl); (· (intro G; (apply s_indexAddr (j := kp) (o' := kp); (· exact rfl); (· exact rfl); (· omega); (· omega); (· omega); (· exact rfl)); exact looked))); (apply dw_look; (· exact rfl); (· exact rfl); (· (exact looked))); (apply dw_pure; (· exact rfl); (· exact rfl); (· (intro G; exact looked))); (apply dw_pure; (· exact rfl); (· exact rfl); (· (intro G; exact looked))); (apply dw_pure; (· exact rfl); (· exact rfl); (· (intro G; exact looked))); (apply dw_pure; (· exact rfl); (· exact rfl); (· (intro G; exact looked))); (apply dw_pure; (· exact rfl); (· exact rfl); (· (intro G; exact looked))); (apply dw_look; (· exact rfl); (· exact rfl); (· (exact looked))); (apply dw_pure; (· exact rfl); (· exact rfl); (· (intro G; exact looked))); (apply dw_pure; (· exact rfl); (· exact rfl); (· (intro G; exact looked))); (apply dw_pure; (· exact rfl); (· exact rfl); (· (intro G; exact looked))); (apply dw_look; (· exact rfl); (· exact rfl); (· (exact looked))); (apply dw_pure; (· exact rfl); (· exact rfl); (· (intro G; exact looked))); (apply dw_pure; (· exact rfl); (· exact rfl); (· (intro G; (first | (refine step_wanted rfl rfl ?_; (apply s_indexAddr (j := kp) (o' := kp); (· exact rfl); (· exact rfl); (· omega); (· omega); (· omega); (· exact rfl))) | skip); exact looked))); (apply dw_look; (· exact rfl); (· exact rfl); (· (exact looked))); (apply dw_pure; (· exact rfl); (· exact rfl); (· (intro G; (first | (refine step_wanted rfl rfl ?_; (apply s_indexAddr (j := k) (o' := k * 4); (· exact rfl); (· exact rfl); (· omega); (· omega); (· omega); (· exact rfl))) | skip); exact looked))); (apply dw_pure; (· exact rfl); (· exact rfl); (· (intro G; exact looked))); (apply dw_pure; (· exact rfl); (· exact rfl); (· (intro G; exact looked))); (apply dw_look; (· exact rfl); (· exact rfl); (· (exact looked))); (apply dw_pure; (· exact rfl); (· exact rfl); (· (intro G; exact looked))); (apply dw_pure; (· exact rfl); (· exact rfl); (· (intro G; exact looked))); (apply dw_pure; (· exact rfl); (· exact rfl); (· (intro G; exact looked))); refine dw_nil ?_)
      refine walk ?_
      (first | (apply retRD1 (G := (blk x (ideC L) 56 + (blk L.bm (mcs L.I.ms ++ L.sm) 61 + (blk L.bp (zs L.I.ps ++ L.sp) 3 + (TabAt L.q L.I.tab + (SemAt L.s L.I.sem + F)))))) (.inr rfl) rfl; (· first | (refine rv_tmp (v := .bool _) rfl) | exact rv_tmp rfl); (· exact Ent.auto)) | (apply retRD1 (G := (blk x (ideC L) 56 + (blk L.bm (mcs L.I.ms ++ L.sm) 61 + (blk L.bp (zs L.I.ps ++ L.sp) 3 + (TabAt L.q L.I.tab + (SemAt L.s L.I.sem + F)))))) (.inl rfl) rfl; (· first | (refine rv_tmp (v := .bool _) rfl) | exact rv_tmp rfl); (· exact Ent.auto)))
      exact ⟨Ent.refl _, rfl⟩
  · rw [decide_eq_false h0, Bool.false_and]
    obtain ⟨k, _⟩ : ∃ k : Nat, k = k := ⟨0, rfl⟩
    refine fn_intro 31 Try.func70 rfl rfl rfl ?_
    refine walk ?_
    (refine wp_draw [] (.look 0 (.look 1 (.look 2 (.look 3 (.look 4 (.look 5 (.look 6 (.look 7 (.look 8 (.look 9 (.look 10 (.look 11 (.look 12 (.look 13 (.look 14 (.look 15 (.look 16 (.look 17 (.look 18 (.look 19 (.look 20 (.look 21 (.look 22 (.look 23 (.look 24 (.look 25 (.look 26 .nil))))))))))))))))))))))))))) (by kernel_rfl) ?_; (apply dw_pure; (· exact rfl); (· exact rfl); (· (intro G; exact looked))); (apply dw_pure; (· exact rfl); (· exact rfl); (· (intro G; exact looked))); (apply dw_pure; (· exact rfl); (· exact rfl); (· (intro G; exact looked))); (apply dw_look; (· exact rfl); (· exact rfl); (· (exact looked))); (apply dw_pure; (· exact rfl); (· exact rfl); (· (intro G; exact looked))); (apply dw_pure; (· exact rfl); (· exact rfl); (· (intro G; (apply s_indexAddr (j := kp) (o' := kp); (· exact rfl); (· exact rfl); (· omega); (· omega); (· omega); (· exact rfl)); exact looked))); (apply dw_look; (· exact rfl); (· exact rfl); (· (exact looked))); (apply dw_pure; (· exact rfl); (· exact rfl); (· (intro G; exact looked))); (apply dw_pure; (· exact rfl); (· exact rfl); (· (intro G; exact looked))); (apply dw_pure; (· exact rfl); (· exact rfl); (· (intro G; exact looked))); (apply dw_pure; (· exact rfl); (· exact rfl); (· (intro G; exact looked))); (apply dw_pure; (· exact rfl); (· exact rfl); (· (intro G; exact looked))); (apply dw_look; (· exact rfl); (· exact rfl); (· (exact looked))); (apply dw_pure; (· exact rfl); (· exact rfl); (· (intro G; exact looked))); (apply dw_pure; (· exact rfl); (· exact rfl); (· (intro G; exact looked))); (apply dw_pure; (· exact rfl); (· exact rfl); (· (intro G; exact looked))); (apply dw_look; (· exact rfl); (· exact rfl); (· (exact looked))); (apply dw_pure; (· exact rfl); (· exact rfl); (· (intro G; exact looked))); (apply dw_pure; (· exact rfl); (· exact rfl); (· (intro G; (first | (refine step_wanted rfl rfl ?_; (apply s_indexAddr (j := kp) (o' := kp); (· exact rfl); (· exact rfl); (· omega); (· omega); (· omega); (· exact rfl))) | skip); exact looked))); (apply dw_look; (· exact rfl); (· exact rfl); (· (exact looked))); (apply dw_pure; (· exact rfl); (· exact rfl); (· (intro G; (first | (refine step_wanted rfl rfl ?_; (apply s_indexAddr (j := k) (o' := k * 4); (· exact rfl); (· exact rfl); (· omega); (· omega); (· omega); (· exact rfl))) | skip); exact looked))); (apply dw_pure; (· exact rfl); (· exact rfl); (· (intro G; exact looked))); (apply dw_pure; (· exact rfl); (· exact rfl); (· (intro G; exact looked))); (apply dw_look; (· exact rfl); (· exact rfl); (· (exact looked))); (apply dw_pure; (· exact rfl); (· exact rfl); (· (intro G; exact looked))); (apply dw_pure; (· exact rfl); (· exact rfl); (· (intro G; exact looked))); (apply dw_pure; (· exact rfl); (· exact rfl); (· (intro G; exact looked))); refine dw_nil ?_)
    refine walk ?_
    (first | (apply retRD1 (G := (blk x (ideC L) 56 + (blk L.bm (mcs L.I.ms ++ L.sm) 61 + (blk L.bp (zs L.I.ps ++ L.sp) 3 + (TabAt L.q L.I.tab + (SemAt L.s L.I.sem + F)))))) (.inr rfl) rfl; (· first | (refine rv_tmp (v := .bool _) rfl) | exact rv_tmp rfl); (· exact Ent.auto)) | (apply retRD1 (G := (blk x (ideC L) 56 + (blk L.bm (mcs L.I.ms ++ L.sm) 61 + (blk L.bp (zs L.I.ps ++ L.sp) 3 + (TabAt L.q L.I.tab + (SemAt L.s L.I.sem + F)))))) (.inl rfl) rfl; (· first | (refine rv_tmp (v := .bool _) rfl) | exact rv_tmp rfl); (· exact Ent.auto)))
    exact ⟨Ent.refl _, rfl⟩
theorem iHas [i : HasAt IdeAt H x L F] (hm : 0 ≤ m ∧ m < L.I.ms.length) (hp : 0 ≤ p ∧ p < L.I.ps.length) : Does Try.prog B 25 [ptr x, .int .i64 m, .int .i64 p, .int .i64 a, .int .i64 g] H fun r H' => H' = IdeAt x (L.put (L.I.has m p a g)) + F ∧ r = .tuple #[] := by
  obtain ⟨k, hk, rfl, _⟩ := mAt_of hm
  obtain ⟨kp, hkp, rfl, _⟩ := pAt_of hp
  have hl1 : (mcs L.I.ms).length = L.I.ms.length * 4 := mcs_len _
  have hl2 : (zs L.I.ps).length = L.I.ps.length := zs_length _
  rw [i.eq, ide_open, ide_open]
  refine Does.same ?_
  refine fn_intro 30 Try.func25 rfl rfl rfl ?_
  refine walk ?_
  (refine s_build (cs := [.int .i64 a, .int .i64 ((kp : Nat) : Int), .int .i64 g]) ?_ rfl ?_; (· kernel_rfl))
  refine walk ?_
  refine s_storeA (vs := [.int .i64 a, .int .i64 ((kp : Nat) : Int), .int .i64 g]) (cs' := mcs (L.I.ms.modify k fun x => { x with a := a, p := ((kp : Nat) : Int), g := g }) ++ L.sm) rfl rfl rfl rfl ?_ ?_ ?_
  · simp only [List.length_append, List.length_cons, List.length_nil]; omega
  · have := mcs_set3 hk L.sm a ((kp : Nat) : Int) g; simpa using this
  refine walk ?_
  refine s_store (v := .int .i64 ((k : Nat) : Int)) (cs' := zs (L.I.ps.set kp ((k : Nat) : Int)) ++ L.sp) rfl rfl rfl ?_ ?_ ?_
  · simp only [List.length_append, List.length_cons, List.length_nil]; omega
  · rw [List.set_append_left _ _ (by omega)]; simp [zs, List.map_set]
  refine walk ?_
  refine ret0 (.inl rfl) rfl ⟨?_, rfl⟩
  simp only [IdL.put, ideC, Ide.has, List.length_modify, List.length_set, Int.toNat_natCast, if_pos (Int.natCast_nonneg kp)]
  exact Ent.auto
theorem iLeaves [i : HasAt IdeAt H x L F] (hm : 0 ≤ m ∧ m < L.I.ms.length) : Does Try.prog B 65 [ptr x, .int .i64 m] H fun r H' => H' = IdeAt x (L.put (L.I.leaves m)) + F ∧ r = .tuple #[] := by
  obtain ⟨k, hk, rfl, _⟩ := mAt_of hm
  have hl1 : (mcs L.I.ms).length = L.I.ms.length * 4 := mcs_len _
  rw [i.eq, ide_open, ide_open]
  refine Does.same ?_
  refine fn_intro 12 Try.func65 rfl rfl rfl ?_
  refine walk ?_
  (refine s_build (cs := [.int .i64 0, .int .i64 (-1), .int .i64 (-1)]) ?_ rfl ?_; (· kernel_rfl))
  refine walk ?_
  refine s_storeA (vs := [.int .i64 0, .int .i64 (-1), .int .i64 (-1)]) (cs' := mcs (L.I.ms.modify k fun x => { x with a := 0, p := -1, g := -1 }) ++ L.sm) rfl rfl rfl rfl ?_ ?_ ?_
  · simp only [List.length_append, List.length_cons, List.length_nil]; omega
  · have := mcs_set3 hk L.sm 0 (-1) (-1); simpa using this
  refine walk ?_
  refine ret0 (.inl rfl) rfl ⟨?_, rfl⟩
  simp only [IdL.put, ideC, Ide.leaves, List.length_modify, Int.toNat_natCast]
  exact Ent.auto
theorem iDrops [i : HasAt IdeAt H x L F] (hp : 0 ≤ p ∧ p < L.I.ps.length) (hv : 0 ≤ L.I.pAt p ∧ L.I.pAt p < L.I.ms.length) : Does Try.prog B 72 [ptr x, .int .i64 p] H fun r H' => H' = IdeAt x (L.put (L.I.drops p)) + F ∧ r = .tuple #[] := by
  obtain ⟨kp, hkp, hp, hA⟩ := pAt_of hp
  obtain ⟨k, hk, hm, _⟩ := mAt_of (L := L) hv
  have cp := p_cell (B := B) hkp
  have hl1 : (mcs L.I.ms).length = L.I.ms.length * 4 := mcs_len _
  have hpk : L.I.ps[kp] = (k : Int) := by rw [← hA]; exact hm
  have hpt : (L.I.pAt p).toNat = k := by omega
  rw [i.eq, ide_open, ide_open]
  refine Does.same ?_
  refine fn_intro 18 Try.func72 rfl rfl rfl ?_
  refine walk ?_
  (refine wp_draw [14] (.look 0 (.look 1 (.look 2 (.look 3 (.look 4 (.look 5 (.look 6 (.look 7 (.look 8 (.look 9 (.look 10 (.look 11 (.look 12 (.look 13 (.act 14 .nil .stop))))))))))))))) (by kernel_rfl) ?_; (apply dw_pure; (· exact rfl); (· exact rfl); (· (intro G; exact looked))); (apply dw_pure; (· exact rfl); (· exact rfl); (· (intro G; exact looked))); (apply dw_pure; (· exact rfl); (· exact rfl); (· (intro G; exact looked))); (apply dw_look; (· exact rfl); (· exact rfl); (· (exact looked))); (apply dw_pure; (· exact rfl); (· exact rfl); (· (intro G; exact looked))); (apply dw_pure; (· exact rfl); (· exact rfl); (· (intro G; exact looked))); (apply dw_pure; (· exact rfl); (· exact rfl); (· (intro G; exact looked))); (apply dw_look; (· exact rfl); (· exact rfl); (· (exact looked))); (apply dw_pure; (· exact rfl); (· exact rfl); (· (intro G; exact looked))); (apply dw_pure; (· exact rfl); (· exact rfl); (· (intro G; (apply s_indexAddr (j := kp) (o' := kp); (· exact rfl); (· exact rfl); (· omega); (· omega); (· omega); (· exact rfl)); exact looked))); (apply dw_look; (· exact rfl); (· exact rfl); (· (exact looked))); (apply dw_pure; (· exact rfl); (· exact rfl); (· (intro G; (apply s_indexAddr (j := k) (o' := k * 4); (· exact rfl); (· exact rfl); (· omega); (· omega); (· omega); (· exact rfl)); exact looked))); (apply dw_pure; (· exact rfl); (· exact rfl); (· (intro G; exact looked))); (apply dw_pure; (· exact rfl); (· exact rfl); (· (intro G; exact looked))); skip)
  refine dw_do0 rfl rfl ?_ dw_stop
  refine s_store (v := .int .i64 (-1)) (cs' := mcs (L.I.ms.modify k fun x => { x with p := -1 }) ++ L.sm) rfl rfl rfl ?_ (mcs_setP hk _ _) ?_
  · simp only [List.length_append, List.length_cons, List.length_nil]; omega
  refine wpl_nil (qone0 ⟨(by refine st_past (by kernel_rfl) ?_; refine st_past (by kernel_rfl) ?_; refine st_past (by kernel_rfl) ?_; exact st_nil), ?_⟩)
  (refine dw_nil ?_; skip)
  refine walk ?_
  refine ret0 (.inl rfl) rfl ⟨?_, rfl⟩
  simp only [IdL.put, ideC, Ide.drops, List.length_modify, hpt]
  exact Ent.auto
end
end Go.Proofs.Ytlhnmbajbhaaoaa
